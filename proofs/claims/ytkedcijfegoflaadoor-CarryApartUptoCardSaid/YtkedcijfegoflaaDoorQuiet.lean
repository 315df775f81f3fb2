/- The kit's counts: each returns some number and turns nothing that was there. -/
import Derived.Test.YtkedcijfegoflaaDoorCount
import Derived.Test.YtkedcijfegoflaaDoorWMore
namespace Go.Proofs.YtkedcijfegoflaaDoor
set_option linter.unusedSimpArgs false
set_option linter.unusedVariables false
open Go Go.RowKit Go.Proofs.YtkedcijfegoflaaDoorW.PrintLast Go.Proofs.YtkedcijfegoflaaDoorW.PrintMore
attribute [local go_sem] max2_int min2_int max_two min_two

/-- Some number; what was there reads as it did. -/
def QuietI (w : World) (e : Ending) (w' : World) : Prop := ∃ r : Int, e = .returned (.int .i64 r) ∧ Below w.heap.size w w'
set_option maxRecDepth 100000 in
theorem LevelOf_q (A : Option Addr) (n c : Nat) (most : Int) (w : World) : Calls Tryd.prog 78 #[.agg #[.slice A n c], .int .i64 most] w (QuietI w) := by
  have HB := Lib.hid (blks1 w #[.slice A n c] 38).2.1
  go_enter Tryd.func78, Tryd.ntmps78
  go_wp2
  all_goals
    go_ret
    exact ⟨_, rfl, HB.out⟩
theorem RdLvs_at {w : World} {b o : Nat} {lv : List Lv} (h : RdL (fun x cs => ∃ u, cs = [u] ∧ RdLv w u x) 1 w b o lv) (k : Nat) (hk : k < lv.length) : ∃ A c, RdLv w (.slice A lv[k].length c) lv[k] ∧ w.cell? ⟨b, o + k, none⟩ = some (.slice A lv[k].length c) ∧ b < w.heap.size := by
  obtain ⟨cs, _, ⟨u, rfl, hu⟩, ha⟩ := h.get k _ (List.getElem?_eq_getElem hk)
  obtain ⟨A, c, rfl, _⟩ := id hu
  have := ha 0 _ rfl
  rw [Nat.mul_one, Nat.add_zero] at this
  exact ⟨A, c, hu, this, World.block_lt_of_cell? w _ this⟩
theorem RdMs_at {w : World} {b o : Nat} {l : List (List Tm)} (h : RdL (fun x cs => ∃ u, cs = [u] ∧ RdTs w u x) 1 w b o l) (k : Nat) (hk : k < l.length) : ∃ A c, RdTs w (.slice A l[k].length c) l[k] ∧ w.cell? ⟨b, o + k, none⟩ = some (.slice A l[k].length c) ∧ b < w.heap.size := by
  obtain ⟨cs, _, ⟨u, rfl, hu⟩, ha⟩ := h.get k _ (List.getElem?_eq_getElem hk)
  obtain ⟨A, c, rfl, _⟩ := id hu
  have := ha 0 _ rfl
  rw [Nat.mul_one, Nat.add_zero] at this
  exact ⟨A, c, hu, this, World.block_lt_of_cell? w _ this⟩
theorem RdCs_at {w : World} {b o : Nat} {l : List (Int × Tm)} (h : RdL (fun x cs => ∃ ct, cs = .int .i64 x.1 :: ct ∧ RdT w x.2 ct) 6 w b o l) (k : Nat) (hk : k < l.length) : ∃ t0 t1 t2 A1 l1 c1 A2 l2 c2, RdT w l[k].2 [.int .i64 t0, .int .i64 t1, .int .i64 t2, .slice A1 l1 c1, .slice A2 l2 c2] ∧
    w.cell? ⟨b, o + k * 6, none⟩ = some (.int .i64 l[k].1) ∧ w.cell? ⟨b, o + k * 6 + 1, none⟩ = some (.int .i64 t0) ∧ w.cell? ⟨b, o + k * 6 + 2, none⟩ = some (.int .i64 t1) ∧ w.cell? ⟨b, o + k * 6 + 3, none⟩ = some (.int .i64 t2) ∧
    w.cell? ⟨b, o + k * 6 + 4, none⟩ = some (.slice A1 l1 c1) ∧ w.cell? ⟨b, o + k * 6 + 5, none⟩ = some (.slice A2 l2 c2) ∧ b < w.heap.size := by
  obtain ⟨cs, hl, ⟨ct, rfl, hr⟩, ha⟩ := h.get k _ (List.getElem?_eq_getElem hk)
  obtain ⟨A1, l1, c1, A2, l2, c2, rfl⟩ := hr.cells
  have h0 := ha 0 _ rfl
  exact ⟨_, _, _, A1, l1, c1, A2, l2, c2, hr, h0, ha 1 _ rfl, ha 2 _ rfl, ha 3 _ rfl, ha 4 _ rfl, ha 5 _ rfl, World.block_lt_of_cell? w _ h0⟩

set_option maxRecDepth 100000 in
set_option maxHeartbeats 1000000 in
theorem LevelsOf_q (lv : List Lv) (v : Value) (most : Int) (w : World) (h : RdLvs w v lv) : Calls Tryd.prog 41 #[v, .int .i64 most] w (QuietI w) := by
  obtain ⟨A, c, rfl, hc1, hc2, hr⟩ := h
  have hkl : (lv.length : Int) ≤ 9223372036854775807 := by omega
  have HR := Lib.hid hr
  clear hr hc1 hc2
  go_enter Tryd.func41, Tryd.ntmps41
  go_wp2_with fail
  go_loopw [5, 6] (fun n i wr => ∃ (r : Int) (j : Nat), j ≤ lv.length ∧ n = .int .i64 r ∧ i = .int .i64 j ∧ Hid (Below w.heap.size w wr)) (fun _ i _ => lv.length - (intOf i).toNat)
  case atStart => exact ⟨0, 0, by omega, rfl, rfl, Lib.hid (Below.refl _ _)⟩
  case round =>
    obtain ⟨r, j, hj, rfl, rfl, HV⟩ := hrel
    by_cases hlt : j < lv.length
    · by_cases hm : r ≤ most
      · rcases HR.out with rfl | ⟨b, o, rfl, hkr⟩
        · simp at hlt
        obtain ⟨A1, c1, hrd, e0, hbl⟩ := RdLvs_at hkr j hlt
        have hcw := (bcell HV.out).1
        have hj0 : (0 : Int) ≤ (j : Int) := Int.natCast_nonneg _
        have hj1 : (j : Int) < (lv.length : Int) := by omega
        clear hrd
        clear hkr
        go_wp2_with fail
        refine (LevelOf_q _ _ _ _ _).mono ?_
        rintro e w1 ⟨r1, rfl, hb1⟩
        have HB1 := Lib.hid hb1
        clear hb1
        go_wp2
        go_roundw
        case rel => exact ⟨_, j + 1, by omega, rfl, by go_num, Lib.hid (HV.out.trans (HB1.out.mono HV.out.size))⟩
        case measure => simp [intOf]; omega
      · go_wp2
        go_ret
        exact ⟨_, rfl, HV.out⟩
    · go_wp2
      go_ret
      exact ⟨_, rfl, HV.out⟩

def TermQ (t : Tm) : Prop := ∀ (cs : List Value) (most : Int) (w : World), RdT w t cs → Calls Tryd.prog 40 #[.agg cs.toArray, .int .i64 most] w (QuietI w)

set_option maxRecDepth 100000 in
set_option maxHeartbeats 1000000 in
theorem TermsOf_q0 (ts : List Tm) (ih : ∀ t ∈ ts, TermQ t) (v : Value) (most : Int) (w : World) (h : RdTs w v ts) : Calls Tryd.prog 53 #[v, .int .i64 most] w (QuietI w) := by
  obtain ⟨A, c, rfl, hc1, hc2, hr⟩ := h
  have hkl : (ts.length : Int) ≤ 9223372036854775807 := by omega
  have HR := Lib.hid hr
  clear hr hc1 hc2
  go_enter Tryd.func53, Tryd.ntmps53
  go_wp2_with fail
  go_loopw [5, 6] (fun n i wr => ∃ (r : Int) (j : Nat), j ≤ ts.length ∧ n = .int .i64 r ∧ i = .int .i64 j ∧ Hid (Below w.heap.size w wr)) (fun _ i _ => ts.length - (intOf i).toNat)
  case atStart => exact ⟨0, 0, by omega, rfl, rfl, Lib.hid (Below.refl _ _)⟩
  case round =>
    obtain ⟨r, j, hj, rfl, rfl, HV⟩ := hrel
    by_cases hlt : j < ts.length
    · by_cases hm : r ≤ most
      · rcases HR.out with rfl | ⟨b, o, rfl, hkr⟩
        · simp at hlt
        obtain ⟨q0, q1, q2, A5, l5, c5, A6, l6, c6, hTk, e0, e1, e2, e3, e4, hbl⟩ := RdT_at hkr j hlt
        have hcw := (bcell HV.out).1
        have hj0 : (0 : Int) ≤ (j : Int) := Int.natCast_nonneg _
        have hj1 : (j : Int) < (ts.length : Int) := by omega
        have HT := Lib.hid (fun m => ih ts[j] (List.getElem_mem hlt) _ m wr (RdT.below (keeps_of HV.out) _ _ hTk))
        clear hTk
        clear hkr
        go_wp2_with fail
        refine (HT.out _).mono ?_
        rintro e w1 ⟨r1, rfl, hb1⟩
        have HB1 := Lib.hid hb1
        clear hb1
        go_wp2
        go_roundw
        case rel => exact ⟨_, j + 1, by omega, rfl, by go_num, Lib.hid (HV.out.trans (HB1.out.mono HV.out.size))⟩
        case measure => simp [intOf]; omega
      · go_wp2
        go_ret
        exact ⟨_, rfl, HV.out⟩
    · go_wp2
      go_ret
      exact ⟨_, rfl, HV.out⟩

set_option maxRecDepth 100000 in
set_option maxHeartbeats 1000000 in
theorem TermOf_of (k n a : Int) (lv : List Lv) (kids : List Tm) (ih : ∀ t ∈ kids, TermQ t) : TermQ (.mk k n a lv kids) := by
  intro cs most w h
  obtain ⟨vl, vk, rfl, hlv, hk⟩ := (RdT_mk ..).1 h
  have HL := Lib.hid (fun W (hb : Keeps w W) => LevelsOf_q lv vl most W (hlv.below hb))
  have HT := Lib.hid (fun W (hb : Keeps w W) => TermsOf_q0 kids ih vk most W (hk.below hb))
  obtain ⟨A1, c1, rfl, _⟩ := id hlv
  obtain ⟨A2, c2, rfl, _⟩ := id hk
  obtain ⟨k0, hb0, hsz⟩ := blks1 w #[.int .i64 k, .int .i64 n, .int .i64 a, .slice A1 lv.length c1, .slice A2 kids.length c2] 30
  have g0 := k0.cell
  have n0 := k0.lt
  have HB := Lib.hid hb0
  clear h hlv hk ih k0 hb0 hsz
  go_enter Tryd.func40, Tryd.ntmps40
  go_wp2_with fail
  generalize (w.alloc _) = W at *
  refine start_ (n := 11) (S := fun W' => ∀ b o, b < W.heap.size → W'.cell? ⟨b, o, none⟩ = W.cell? ⟨b, o, none⟩) (ds := []) #[false, false, false, false, false, false, false, false, false, false, false] (by kernel_rfl) rfl rfl (by exact (fun _ _ _ => rfl)) (fun hHeld => ?_)
  refine take_ (i := 0) (N := some 5) (v := ?_) (a' := ?_) #[true, false, false, false, false, false, false, false, false, false, false] rfl rfl (by kernel_rfl) (fun _ _ _ h => h) (Or.inl ⟨by rfl, ?_⟩) hHeld ?_ ?_
  rotate_left
  · rintro w' hS'
    go_simp
    with_reducible rfl
  rotate_left
  · simp only [Act.put, List.setIfInBounds_toArray, List.set_cons_zero, List.set_cons_succ]
    rfl
  refine take_ (i := 1) (N := some 6) (v := ?_) (a' := ?_) #[true, true, false, false, false, false, false, false, false, false, false] rfl rfl (by kernel_rfl) (fun _ _ _ h => h) (Or.inl ⟨by rfl, ?_⟩) hHeld ?_ ?_
  rotate_left
  · rintro w' hS'
    go_simp
    with_reducible rfl
  rotate_left
  · simp only [Act.put, List.setIfInBounds_toArray, List.set_cons_zero, List.set_cons_succ]
    rfl
  refine take_ (i := 2) (N := some 7) (v := ?_) (a' := ?_) #[true, true, true, false, false, false, false, false, false, false, false] rfl rfl (by kernel_rfl) (fun _ _ _ h => h) (Or.inl ⟨by rfl, ?_⟩) hHeld ?_ ?_
  rotate_left
  · rintro w' hS'
    go_simp
    with_reducible rfl
  rotate_left
  · simp only [Act.put, List.setIfInBounds_toArray, List.set_cons_zero, List.set_cons_succ]
    rfl
  refine take_ (i := 5) (N := some 10) (v := ?_) (a' := ?_) #[true, true, true, false, false, true, false, false, false, false, false] rfl rfl (by kernel_rfl) (fun _ _ _ h => h) (Or.inl ⟨by rfl, ?_⟩) hHeld ?_ ?_
  rotate_left
  · rintro w' hS'
    go_simp
    with_reducible rfl
  rotate_left
  · simp only [Act.put, List.setIfInBounds_toArray, List.set_cons_zero, List.set_cons_succ]
    rfl
  refine take_ (i := 6) (N := some 11) (v := ?_) (a' := ?_) #[true, true, true, false, false, true, true, false, false, false, false] rfl rfl (by kernel_rfl) (fun _ _ _ h => h) (Or.inl ⟨by rfl, ?_⟩) hHeld ?_ ?_
  rotate_left
  · rintro w' hS'
    go_simp
    with_reducible rfl
  rotate_left
  · simp only [Act.put, List.setIfInBounds_toArray, List.set_cons_zero, List.set_cons_succ]
    rfl
  refine take_ (i := 7) (N := some 12) (v := ?_) (a' := ?_) #[true, true, true, false, false, true, true, true, false, false, false] rfl rfl (by kernel_rfl) (fun _ _ _ h => h) (Or.inl ⟨by rfl, ?_⟩) hHeld ?_ ?_
  rotate_left
  · rintro w' hS'
    go_simp
    with_reducible rfl
  rotate_left
  · simp only [Act.put, List.setIfInBounds_toArray, List.set_cons_zero, List.set_cons_succ]
    rfl
  refine one_ (i := 3) (N := some 8) #[true, true, true, true, false, true, true, true, false, false, false] rfl rfl (by kernel_rfl) (by decide) (fun K hK => ?_)
  go_simp
  refine (HL.out _ (Keeps.trans (keeps_of HB.out) HB.out.size hHeld)).mono ?_
  rintro e w1 ⟨r1, rfl, hb1⟩
  have HB1 := Lib.hid (undrew hb1)
  clear hb1
  refine hK.out _ _ (keeps_of HB1.out) (fun hHeld => ?_)
  clear hK K
  refine norm_ (a' := ?_) ?_ ?_
  rotate_left
  · first
      | rfl
      | (simp only [Act.put, List.setIfInBounds_toArray, List.set_cons_zero, List.set_cons_succ]; rfl)
  refine pure_ (i := 4) (N := some 9) (v := ?_) (a' := ?_) #[true, true, true, true, true, true, true, true, false, false, false] rfl rfl (by kernel_rfl) (fun _ _ _ h => h) (Or.inl ⟨by rfl, ?_⟩) ?_ ?_
  rotate_left
  · rintro w'
    go_simp
    with_reducible rfl
  rotate_left
  · simp only [Act.put, List.setIfInBounds_toArray, List.set_cons_zero, List.set_cons_succ]
    rfl
  refine one_ (i := 8) (N := some 13) #[true, true, true, true, true, true, true, true, true, false, false] rfl rfl (by kernel_rfl) (by decide) (fun K hK => ?_)
  go_simp
  refine (HT.out _ (Keeps.trans (keeps_of HB.out) HB.out.size hHeld)).mono ?_
  rintro e w2 ⟨r2, rfl, hb2⟩
  have HB2 := Lib.hid (HB1.out.trans (hb2.mono HB1.out.size))
  clear hb2
  refine hK.out _ _ (keeps_of HB2.out) (fun hHeld => ?_)
  clear hK K
  refine norm_ (a' := ?_) ?_ ?_
  rotate_left
  · first
      | rfl
      | (simp only [Act.put, List.setIfInBounds_toArray, List.set_cons_zero, List.set_cons_succ]; rfl)
  refine pure_ (i := 9) (N := some 14) (v := ?_) (a' := ?_) #[true, true, true, true, true, true, true, true, true, true, false] rfl rfl (by kernel_rfl) (fun _ _ _ h => h) (Or.inl ⟨by rfl, ?_⟩) ?_ ?_
  rotate_left
  · rintro w'
    go_simp
    with_reducible rfl
  rotate_left
  · simp only [Act.put, List.setIfInBounds_toArray, List.set_cons_zero, List.set_cons_succ]
    rfl
  refine pure_ (i := 10) (N := some 4) (v := ?_) (a' := ?_) #[true, true, true, true, true, true, true, true, true, true, true] rfl rfl (by kernel_rfl) (fun _ _ _ h => h) (Or.inl ⟨by rfl, ?_⟩) ?_ ?_
  rotate_left
  · rintro w'
    go_simp
    with_reducible rfl
  rotate_left
  · simp only [Act.put, List.setIfInBounds_toArray, List.set_cons_zero, List.set_cons_succ]
    rfl
  refine done_ (by kernel_rfl) ?_
  go_wp2
  go_ret
  exact ⟨_, rfl, HB.out.trans (HB2.out.mono HB.out.size)⟩
theorem TermOf_q : ∀ t, TermQ t := by
  intro t
  induction t using Tm.ind with
  | h k n a lv kids ih => exact TermOf_of k n a lv kids ih
theorem TermsOf_q (ts : List Tm) (v : Value) (most : Int) (w : World) (h : RdTs w v ts) : Calls Tryd.prog 53 #[v, .int .i64 most] w (QuietI w) := TermsOf_q0 ts (fun t _ => TermOf_q t) v most w h

set_option maxRecDepth 100000 in
set_option maxHeartbeats 1000000 in
theorem MembersOf_q (ms : List (List Tm)) (v : Value) (most : Int) (w : World) (h : RdMs w v ms) : Calls Tryd.prog 88 #[v, .int .i64 most] w (QuietI w) := by
  obtain ⟨A, c, rfl, hc1, hc2, hr⟩ := h
  have hkl : (ms.length : Int) ≤ 9223372036854775807 := by omega
  have HR := Lib.hid hr
  clear hr hc1 hc2
  go_enter Tryd.func88, Tryd.ntmps88
  go_wp2_with fail
  go_loopw [5, 6] (fun n i wr => ∃ (r : Int) (j : Nat), j ≤ ms.length ∧ n = .int .i64 r ∧ i = .int .i64 j ∧ Hid (Below w.heap.size w wr)) (fun _ i _ => ms.length - (intOf i).toNat)
  case atStart => exact ⟨0, 0, by omega, rfl, rfl, Lib.hid (Below.refl _ _)⟩
  case round =>
    obtain ⟨r, j, hj, rfl, rfl, HV⟩ := hrel
    by_cases hlt : j < ms.length
    · by_cases hm : r ≤ most
      · rcases HR.out with rfl | ⟨b, o, rfl, hkr⟩
        · simp at hlt
        obtain ⟨A1, c1, hrd, e0, hbl⟩ := RdMs_at hkr j hlt
        have hcw := (bcell HV.out).1
        have hj0 : (0 : Int) ≤ (j : Int) := Int.natCast_nonneg _
        have hj1 : (j : Int) < (ms.length : Int) := by omega
        have HT := Lib.hid (fun m => TermsOf_q ms[j] _ m wr (hrd.below (keeps_of HV.out)))
        clear hrd
        clear hkr
        go_wp2_with fail
        refine (HT.out _).mono ?_
        rintro e w1 ⟨r1, rfl, hb1⟩
        have HB1 := Lib.hid hb1
        clear hb1
        go_wp2
        go_roundw
        case rel => exact ⟨_, j + 1, by omega, rfl, by go_num, Lib.hid (HV.out.trans (HB1.out.mono HV.out.size))⟩
        case measure => simp [intOf]; omega
      · go_wp2
        go_ret
        exact ⟨_, rfl, HV.out⟩
    · go_wp2
      go_ret
      exact ⟨_, rfl, HV.out⟩

set_option maxRecDepth 100000 in
set_option maxHeartbeats 1000000 in
theorem CtorsOf_q (cts : List (Int × Tm)) (v : Value) (most : Int) (w : World) (h : RdCs w v cts) : Calls Tryd.prog 89 #[v, .int .i64 most] w (QuietI w) := by
  obtain ⟨A, c, rfl, hc1, hc2, hr⟩ := h
  have hkl : (cts.length : Int) ≤ 9223372036854775807 := by omega
  have HR := Lib.hid hr
  clear hr hc1 hc2
  go_enter Tryd.func89, Tryd.ntmps89
  go_wp2_with fail
  go_loopw [5, 6] (fun n i wr => ∃ (r : Int) (j : Nat), j ≤ cts.length ∧ n = .int .i64 r ∧ i = .int .i64 j ∧ Hid (Below w.heap.size w wr)) (fun _ i _ => cts.length - (intOf i).toNat)
  case atStart => exact ⟨0, 0, by omega, rfl, rfl, Lib.hid (Below.refl _ _)⟩
  case round =>
    obtain ⟨r, j, hj, rfl, rfl, HV⟩ := hrel
    by_cases hlt : j < cts.length
    · by_cases hm : r ≤ most
      · rcases HR.out with rfl | ⟨b, o, rfl, hkr⟩
        · simp at hlt
        obtain ⟨q0, q1, q2, A5, l5, c5, A6, l6, c6, hTk, e0, e1, e2, e3, e4, e5, hbl⟩ := RdCs_at hkr j hlt
        have hcw := (bcell HV.out).1
        have hj0 : (0 : Int) ≤ (j : Int) := Int.natCast_nonneg _
        have hj1 : (j : Int) < (cts.length : Int) := by omega
        have HT := Lib.hid (fun m => TermOf_q cts[j].2 _ m wr (RdT.below (keeps_of HV.out) _ _ hTk))
        clear hTk
        clear hkr
        go_wp2_with fail
        refine (HT.out _).mono ?_
        rintro e w1 ⟨r1, rfl, hb1⟩
        have HB1 := Lib.hid hb1
        clear hb1
        go_wp2
        go_roundw
        case rel => exact ⟨_, j + 1, by omega, rfl, by go_num, Lib.hid (HV.out.trans (HB1.out.mono HV.out.size))⟩
        case measure => simp [intOf]; omega
      · go_wp2
        go_ret
        exact ⟨_, rfl, HV.out⟩
    · go_wp2
      go_ret
      exact ⟨_, rfl, HV.out⟩

set_option maxRecDepth 100000 in
set_option maxHeartbeats 2000000 in
theorem DeclOf_q (d : Dc) (cs : List Value) (most : Int) (w : World) (h : RdD w d cs) : Calls Tryd.prog 52 #[.agg cs.toArray, .int .i64 most] w (QuietI w) := by
  obtain ⟨t, b, p, s, m, c, rfl, h1, h2, h3, h4, h5, h6⟩ := h
  have HC1 := Lib.hid (fun W (hb : Keeps w W) => TermOf_q d.type t most W (RdT.below hb _ _ h1))
  have HC2 := Lib.hid (fun W (hb : Keeps w W) => TermOf_q d.body b most W (RdT.below hb _ _ h2))
  have HC3 := Lib.hid (fun W (hb : Keeps w W) => TermsOf_q d.params p most W (h3.below hb))
  have HC5 := Lib.hid (fun W (hb : Keeps w W) => MembersOf_q d.members m most W (h5.below hb))
  have HC6 := Lib.hid (fun W (hb : Keeps w W) => CtorsOf_q d.ctors c most W (h6.below hb))
  obtain ⟨A1, l1, c1, A2, l2, c2, rfl⟩ := h1.cells
  obtain ⟨A3, l3, c3, A4, l4, c4, rfl⟩ := h2.cells
  obtain ⟨A5, c5, rfl, _⟩ := id h3
  obtain ⟨A6, c6, rfl, _⟩ := id h4
  obtain ⟨A7, c7, rfl, _⟩ := id h5
  obtain ⟨A8, c8, rfl, _⟩ := id h6
  obtain ⟨k0, hb0, hsz⟩ := blks1 w #[.int .i64 d.kind, .int .i64 d.levels, .int .i64 d.type.kind, .int .i64 d.type.num, .int .i64 d.type.place, .slice A1 l1 c1, .slice A2 l2 c2, .int .i64 d.body.kind, .int .i64 d.body.num, .int .i64 d.body.place, .slice A3 l3 c3, .slice A4 l4 c4, .slice A5 d.params.length c5, .slice A6 d.sort.length c6, .slice A7 d.members.length c7, .slice A8 d.ctors.length c8] 42
  have g0 := k0.cell
  have n0 := k0.lt
  have HB := Lib.hid hb0
  clear h1 h2 h3 h4 h5 h6 k0 hb0 hsz
  simp only [List.cons_append, List.nil_append]
  go_enter Tryd.func52, Tryd.ntmps52
  go_wp2_with fail
  generalize (w.alloc _) = W at *
  refine start_ (n := 31) (S := fun W' => ∀ b o, b < W.heap.size → W'.cell? ⟨b, o, none⟩ = W.cell? ⟨b, o, none⟩) (ds := []) #[false, false, false, false, false, false, false, false, false, false, false, false, false, false, false, false, false, false, false, false, false, false, false, false, false, false, false, false, false, false, false] (by kernel_rfl) rfl rfl (by exact (fun _ _ _ => rfl)) (fun hHeld => ?_)
  refine take_ (i := 0) (N := some 5) (v := ?_) (a' := ?_) #[true, false, false, false, false, false, false, false, false, false, false, false, false, false, false, false, false, false, false, false, false, false, false, false, false, false, false, false, false, false, false] rfl rfl (by kernel_rfl) (fun _ _ _ h => h) (Or.inl ⟨by rfl, ?_⟩) hHeld ?_ ?_
  rotate_left
  · rintro w' hS'
    go_simp
    with_reducible rfl
  rotate_left
  · simp only [Act.put, List.setIfInBounds_toArray, List.set_cons_zero, List.set_cons_succ]
    rfl
  refine take_ (i := 1) (N := some 6) (v := ?_) (a' := ?_) #[true, true, false, false, false, false, false, false, false, false, false, false, false, false, false, false, false, false, false, false, false, false, false, false, false, false, false, false, false, false, false] rfl rfl (by kernel_rfl) (fun _ _ _ h => h) (Or.inl ⟨by rfl, ?_⟩) hHeld ?_ ?_
  rotate_left
  · rintro w' hS'
    go_simp
    with_reducible rfl
  rotate_left
  · simp only [Act.put, List.setIfInBounds_toArray, List.set_cons_zero, List.set_cons_succ]
    rfl
  refine take_ (i := 2) (N := some 7) (v := ?_) (a' := ?_) #[true, true, true, false, false, false, false, false, false, false, false, false, false, false, false, false, false, false, false, false, false, false, false, false, false, false, false, false, false, false, false] rfl rfl (by kernel_rfl) (fun _ _ _ h => h) (Or.inl ⟨by rfl, ?_⟩) hHeld ?_ ?_
  rotate_left
  · rintro w' hS'
    go_simp
    with_reducible rfl
  rotate_left
  · simp only [Act.put, List.setIfInBounds_toArray, List.set_cons_zero, List.set_cons_succ]
    rfl
  refine take_ (i := 5) (N := some 10) (v := ?_) (a' := ?_) #[true, true, true, false, false, true, false, false, false, false, false, false, false, false, false, false, false, false, false, false, false, false, false, false, false, false, false, false, false, false, false] rfl rfl (by kernel_rfl) (fun _ _ _ h => h) (Or.inl ⟨by rfl, ?_⟩) hHeld ?_ ?_
  rotate_left
  · rintro w' hS'
    go_simp
    with_reducible rfl
  rotate_left
  · simp only [Act.put, List.setIfInBounds_toArray, List.set_cons_zero, List.set_cons_succ]
    rfl
  refine take_ (i := 6) (N := some 11) (v := ?_) (a' := ?_) #[true, true, true, false, false, true, true, false, false, false, false, false, false, false, false, false, false, false, false, false, false, false, false, false, false, false, false, false, false, false, false] rfl rfl (by kernel_rfl) (fun _ _ _ h => h) (Or.inl ⟨by rfl, ?_⟩) hHeld ?_ ?_
  rotate_left
  · rintro w' hS'
    go_simp
    with_reducible rfl
  rotate_left
  · simp only [Act.put, List.setIfInBounds_toArray, List.set_cons_zero, List.set_cons_succ]
    rfl
  refine take_ (i := 7) (N := some 12) (v := ?_) (a' := ?_) #[true, true, true, false, false, true, true, true, false, false, false, false, false, false, false, false, false, false, false, false, false, false, false, false, false, false, false, false, false, false, false] rfl rfl (by kernel_rfl) (fun _ _ _ h => h) (Or.inl ⟨by rfl, ?_⟩) hHeld ?_ ?_
  rotate_left
  · rintro w' hS'
    go_simp
    with_reducible rfl
  rotate_left
  · simp only [Act.put, List.setIfInBounds_toArray, List.set_cons_zero, List.set_cons_succ]
    rfl
  refine take_ (i := 10) (N := some 15) (v := ?_) (a' := ?_) #[true, true, true, false, false, true, true, true, false, false, true, false, false, false, false, false, false, false, false, false, false, false, false, false, false, false, false, false, false, false, false] rfl rfl (by kernel_rfl) (fun _ _ _ h => h) (Or.inl ⟨by rfl, ?_⟩) hHeld ?_ ?_
  rotate_left
  · rintro w' hS'
    go_simp
    with_reducible rfl
  rotate_left
  · simp only [Act.put, List.setIfInBounds_toArray, List.set_cons_zero, List.set_cons_succ]
    rfl
  refine take_ (i := 11) (N := some 16) (v := ?_) (a' := ?_) #[true, true, true, false, false, true, true, true, false, false, true, true, false, false, false, false, false, false, false, false, false, false, false, false, false, false, false, false, false, false, false] rfl rfl (by kernel_rfl) (fun _ _ _ h => h) (Or.inl ⟨by rfl, ?_⟩) hHeld ?_ ?_
  rotate_left
  · rintro w' hS'
    go_simp
    with_reducible rfl
  rotate_left
  · simp only [Act.put, List.setIfInBounds_toArray, List.set_cons_zero, List.set_cons_succ]
    rfl
  refine take_ (i := 12) (N := some 17) (v := ?_) (a' := ?_) #[true, true, true, false, false, true, true, true, false, false, true, true, true, false, false, false, false, false, false, false, false, false, false, false, false, false, false, false, false, false, false] rfl rfl (by kernel_rfl) (fun _ _ _ h => h) (Or.inl ⟨by rfl, ?_⟩) hHeld ?_ ?_
  rotate_left
  · rintro w' hS'
    go_simp
    with_reducible rfl
  rotate_left
  · simp only [Act.put, List.setIfInBounds_toArray, List.set_cons_zero, List.set_cons_succ]
    rfl
  refine take_ (i := 15) (N := some 20) (v := ?_) (a' := ?_) #[true, true, true, false, false, true, true, true, false, false, true, true, true, false, false, true, false, false, false, false, false, false, false, false, false, false, false, false, false, false, false] rfl rfl (by kernel_rfl) (fun _ _ _ h => h) (Or.inl ⟨by rfl, ?_⟩) hHeld ?_ ?_
  rotate_left
  · rintro w' hS'
    go_simp
    with_reducible rfl
  rotate_left
  · simp only [Act.put, List.setIfInBounds_toArray, List.set_cons_zero, List.set_cons_succ]
    rfl
  refine take_ (i := 16) (N := some 21) (v := ?_) (a' := ?_) #[true, true, true, false, false, true, true, true, false, false, true, true, true, false, false, true, true, false, false, false, false, false, false, false, false, false, false, false, false, false, false] rfl rfl (by kernel_rfl) (fun _ _ _ h => h) (Or.inl ⟨by rfl, ?_⟩) hHeld ?_ ?_
  rotate_left
  · rintro w' hS'
    go_simp
    with_reducible rfl
  rotate_left
  · simp only [Act.put, List.setIfInBounds_toArray, List.set_cons_zero, List.set_cons_succ]
    rfl
  refine take_ (i := 17) (N := some 22) (v := ?_) (a' := ?_) #[true, true, true, false, false, true, true, true, false, false, true, true, true, false, false, true, true, true, false, false, false, false, false, false, false, false, false, false, false, false, false] rfl rfl (by kernel_rfl) (fun _ _ _ h => h) (Or.inl ⟨by rfl, ?_⟩) hHeld ?_ ?_
  rotate_left
  · rintro w' hS'
    go_simp
    with_reducible rfl
  rotate_left
  · simp only [Act.put, List.setIfInBounds_toArray, List.set_cons_zero, List.set_cons_succ]
    rfl
  refine take_ (i := 20) (N := some 25) (v := ?_) (a' := ?_) #[true, true, true, false, false, true, true, true, false, false, true, true, true, false, false, true, true, true, false, false, true, false, false, false, false, false, false, false, false, false, false] rfl rfl (by kernel_rfl) (fun _ _ _ h => h) (Or.inl ⟨by rfl, ?_⟩) hHeld ?_ ?_
  rotate_left
  · rintro w' hS'
    go_simp
    with_reducible rfl
  rotate_left
  · simp only [Act.put, List.setIfInBounds_toArray, List.set_cons_zero, List.set_cons_succ]
    rfl
  refine take_ (i := 21) (N := some 26) (v := ?_) (a' := ?_) #[true, true, true, false, false, true, true, true, false, false, true, true, true, false, false, true, true, true, false, false, true, true, false, false, false, false, false, false, false, false, false] rfl rfl (by kernel_rfl) (fun _ _ _ h => h) (Or.inl ⟨by rfl, ?_⟩) hHeld ?_ ?_
  rotate_left
  · rintro w' hS'
    go_simp
    with_reducible rfl
  rotate_left
  · simp only [Act.put, List.setIfInBounds_toArray, List.set_cons_zero, List.set_cons_succ]
    rfl
  refine take_ (i := 22) (N := some 27) (v := ?_) (a' := ?_) #[true, true, true, false, false, true, true, true, false, false, true, true, true, false, false, true, true, true, false, false, true, true, true, false, false, false, false, false, false, false, false] rfl rfl (by kernel_rfl) (fun _ _ _ h => h) (Or.inl ⟨by rfl, ?_⟩) hHeld ?_ ?_
  rotate_left
  · rintro w' hS'
    go_simp
    with_reducible rfl
  rotate_left
  · simp only [Act.put, List.setIfInBounds_toArray, List.set_cons_zero, List.set_cons_succ]
    rfl
  refine take_ (i := 25) (N := some 30) (v := ?_) (a' := ?_) #[true, true, true, false, false, true, true, true, false, false, true, true, true, false, false, true, true, true, false, false, true, true, true, false, false, true, false, false, false, false, false] rfl rfl (by kernel_rfl) (fun _ _ _ h => h) (Or.inl ⟨by rfl, ?_⟩) hHeld ?_ ?_
  rotate_left
  · rintro w' hS'
    go_simp
    with_reducible rfl
  rotate_left
  · simp only [Act.put, List.setIfInBounds_toArray, List.set_cons_zero, List.set_cons_succ]
    rfl
  refine take_ (i := 26) (N := some 31) (v := ?_) (a' := ?_) #[true, true, true, false, false, true, true, true, false, false, true, true, true, false, false, true, true, true, false, false, true, true, true, false, false, true, true, false, false, false, false] rfl rfl (by kernel_rfl) (fun _ _ _ h => h) (Or.inl ⟨by rfl, ?_⟩) hHeld ?_ ?_
  rotate_left
  · rintro w' hS'
    go_simp
    with_reducible rfl
  rotate_left
  · simp only [Act.put, List.setIfInBounds_toArray, List.set_cons_zero, List.set_cons_succ]
    rfl
  refine take_ (i := 27) (N := some 32) (v := ?_) (a' := ?_) #[true, true, true, false, false, true, true, true, false, false, true, true, true, false, false, true, true, true, false, false, true, true, true, false, false, true, true, true, false, false, false] rfl rfl (by kernel_rfl) (fun _ _ _ h => h) (Or.inl ⟨by rfl, ?_⟩) hHeld ?_ ?_
  rotate_left
  · rintro w' hS'
    go_simp
    with_reducible rfl
  rotate_left
  · simp only [Act.put, List.setIfInBounds_toArray, List.set_cons_zero, List.set_cons_succ]
    rfl
  refine one_ (i := 3) (N := some 8) #[true, true, true, true, false, true, true, true, false, false, true, true, true, false, false, true, true, true, false, false, true, true, true, false, false, true, true, true, false, false, false] rfl rfl (by kernel_rfl) (by decide) (fun K hK => ?_)
  go_simp
  refine (HC1.out _ (Keeps.trans (keeps_of HB.out) HB.out.size hHeld)).mono ?_
  rintro e w1 ⟨r1, rfl, hb1⟩
  have HB1 := Lib.hid (undrew hb1)
  clear hb1
  refine hK.out _ _ (keeps_of HB1.out) (fun hHeld => ?_)
  clear hK K
  refine norm_ (a' := ?_) ?_ ?_
  rotate_left
  · first
      | rfl
      | (simp only [Act.put, List.setIfInBounds_toArray, List.set_cons_zero, List.set_cons_succ]; rfl)
  refine pure_ (i := 4) (N := some 9) (v := ?_) (a' := ?_) #[true, true, true, true, true, true, true, true, false, false, true, true, true, false, false, true, true, true, false, false, true, true, true, false, false, true, true, true, false, false, false] rfl rfl (by kernel_rfl) (fun _ _ _ h => h) (Or.inl ⟨by rfl, ?_⟩) ?_ ?_
  rotate_left
  · rintro w'
    go_simp
    with_reducible rfl
  rotate_left
  · simp only [Act.put, List.setIfInBounds_toArray, List.set_cons_zero, List.set_cons_succ]
    rfl
  refine one_ (i := 8) (N := some 13) #[true, true, true, true, true, true, true, true, true, false, true, true, true, false, false, true, true, true, false, false, true, true, true, false, false, true, true, true, false, false, false] rfl rfl (by kernel_rfl) (by decide) (fun K hK => ?_)
  go_simp
  refine (HC2.out _ (Keeps.trans (keeps_of HB.out) HB.out.size hHeld)).mono ?_
  rintro e w2 ⟨r2, rfl, hb2⟩
  have HB2 := Lib.hid (HB1.out.trans (hb2.mono HB1.out.size))
  clear hb2
  refine hK.out _ _ (keeps_of HB2.out) (fun hHeld => ?_)
  clear hK K
  refine norm_ (a' := ?_) ?_ ?_
  rotate_left
  · first
      | rfl
      | (simp only [Act.put, List.setIfInBounds_toArray, List.set_cons_zero, List.set_cons_succ]; rfl)
  refine pure_ (i := 9) (N := some 14) (v := ?_) (a' := ?_) #[true, true, true, true, true, true, true, true, true, true, true, true, true, false, false, true, true, true, false, false, true, true, true, false, false, true, true, true, false, false, false] rfl rfl (by kernel_rfl) (fun _ _ _ h => h) (Or.inl ⟨by rfl, ?_⟩) ?_ ?_
  rotate_left
  · rintro w'
    go_simp
    with_reducible rfl
  rotate_left
  · simp only [Act.put, List.setIfInBounds_toArray, List.set_cons_zero, List.set_cons_succ]
    rfl
  refine one_ (i := 13) (N := some 18) #[true, true, true, true, true, true, true, true, true, true, true, true, true, true, false, true, true, true, false, false, true, true, true, false, false, true, true, true, false, false, false] rfl rfl (by kernel_rfl) (by decide) (fun K hK => ?_)
  go_simp
  refine (HC3.out _ (Keeps.trans (keeps_of HB.out) HB.out.size hHeld)).mono ?_
  rintro e w3 ⟨r3, rfl, hb3⟩
  have HB3 := Lib.hid (HB2.out.trans (hb3.mono HB2.out.size))
  clear hb3
  refine hK.out _ _ (keeps_of HB3.out) (fun hHeld => ?_)
  clear hK K
  refine norm_ (a' := ?_) ?_ ?_
  rotate_left
  · first
      | rfl
      | (simp only [Act.put, List.setIfInBounds_toArray, List.set_cons_zero, List.set_cons_succ]; rfl)
  refine pure_ (i := 14) (N := some 19) (v := ?_) (a' := ?_) #[true, true, true, true, true, true, true, true, true, true, true, true, true, true, true, true, true, true, false, false, true, true, true, false, false, true, true, true, false, false, false] rfl rfl (by kernel_rfl) (fun _ _ _ h => h) (Or.inl ⟨by rfl, ?_⟩) ?_ ?_
  rotate_left
  · rintro w'
    go_simp
    with_reducible rfl
  rotate_left
  · simp only [Act.put, List.setIfInBounds_toArray, List.set_cons_zero, List.set_cons_succ]
    rfl
  refine one_ (i := 18) (N := some 23) #[true, true, true, true, true, true, true, true, true, true, true, true, true, true, true, true, true, true, true, false, true, true, true, false, false, true, true, true, false, false, false] rfl rfl (by kernel_rfl) (by decide) (fun K hK => ?_)
  go_simp
  refine (LevelOf_q _ _ _ _ _).mono ?_
  rintro e w4 ⟨r4, rfl, hb4⟩
  have HB4 := Lib.hid (HB3.out.trans (hb4.mono HB3.out.size))
  clear hb4
  refine hK.out _ _ (keeps_of HB4.out) (fun hHeld => ?_)
  clear hK K
  refine norm_ (a' := ?_) ?_ ?_
  rotate_left
  · first
      | rfl
      | (simp only [Act.put, List.setIfInBounds_toArray, List.set_cons_zero, List.set_cons_succ]; rfl)
  refine pure_ (i := 19) (N := some 24) (v := ?_) (a' := ?_) #[true, true, true, true, true, true, true, true, true, true, true, true, true, true, true, true, true, true, true, true, true, true, true, false, false, true, true, true, false, false, false] rfl rfl (by kernel_rfl) (fun _ _ _ h => h) (Or.inl ⟨by rfl, ?_⟩) ?_ ?_
  rotate_left
  · rintro w'
    go_simp
    with_reducible rfl
  rotate_left
  · simp only [Act.put, List.setIfInBounds_toArray, List.set_cons_zero, List.set_cons_succ]
    rfl
  refine one_ (i := 23) (N := some 28) #[true, true, true, true, true, true, true, true, true, true, true, true, true, true, true, true, true, true, true, true, true, true, true, true, false, true, true, true, false, false, false] rfl rfl (by kernel_rfl) (by decide) (fun K hK => ?_)
  go_simp
  refine (HC5.out _ (Keeps.trans (keeps_of HB.out) HB.out.size hHeld)).mono ?_
  rintro e w5 ⟨r5, rfl, hb5⟩
  have HB5 := Lib.hid (HB4.out.trans (hb5.mono HB4.out.size))
  clear hb5
  refine hK.out _ _ (keeps_of HB5.out) (fun hHeld => ?_)
  clear hK K
  refine norm_ (a' := ?_) ?_ ?_
  rotate_left
  · first
      | rfl
      | (simp only [Act.put, List.setIfInBounds_toArray, List.set_cons_zero, List.set_cons_succ]; rfl)
  refine pure_ (i := 24) (N := some 29) (v := ?_) (a' := ?_) #[true, true, true, true, true, true, true, true, true, true, true, true, true, true, true, true, true, true, true, true, true, true, true, true, true, true, true, true, false, false, false] rfl rfl (by kernel_rfl) (fun _ _ _ h => h) (Or.inl ⟨by rfl, ?_⟩) ?_ ?_
  rotate_left
  · rintro w'
    go_simp
    with_reducible rfl
  rotate_left
  · simp only [Act.put, List.setIfInBounds_toArray, List.set_cons_zero, List.set_cons_succ]
    rfl
  refine one_ (i := 28) (N := some 33) #[true, true, true, true, true, true, true, true, true, true, true, true, true, true, true, true, true, true, true, true, true, true, true, true, true, true, true, true, true, false, false] rfl rfl (by kernel_rfl) (by decide) (fun K hK => ?_)
  go_simp
  refine (HC6.out _ (Keeps.trans (keeps_of HB.out) HB.out.size hHeld)).mono ?_
  rintro e w6 ⟨r6, rfl, hb6⟩
  have HB6 := Lib.hid (HB5.out.trans (hb6.mono HB5.out.size))
  clear hb6
  refine hK.out _ _ (keeps_of HB6.out) (fun hHeld => ?_)
  clear hK K
  refine norm_ (a' := ?_) ?_ ?_
  rotate_left
  · first
      | rfl
      | (simp only [Act.put, List.setIfInBounds_toArray, List.set_cons_zero, List.set_cons_succ]; rfl)
  refine pure_ (i := 29) (N := some 34) (v := ?_) (a' := ?_) #[true, true, true, true, true, true, true, true, true, true, true, true, true, true, true, true, true, true, true, true, true, true, true, true, true, true, true, true, true, true, false] rfl rfl (by kernel_rfl) (fun _ _ _ h => h) (Or.inl ⟨by rfl, ?_⟩) ?_ ?_
  rotate_left
  · rintro w'
    go_simp
    with_reducible rfl
  rotate_left
  · simp only [Act.put, List.setIfInBounds_toArray, List.set_cons_zero, List.set_cons_succ]
    rfl
  refine pure_ (i := 30) (N := some 4) (v := ?_) (a' := ?_) #[true, true, true, true, true, true, true, true, true, true, true, true, true, true, true, true, true, true, true, true, true, true, true, true, true, true, true, true, true, true, true] rfl rfl (by kernel_rfl) (fun _ _ _ h => h) (Or.inl ⟨by rfl, ?_⟩) ?_ ?_
  rotate_left
  · rintro w'
    go_simp
    with_reducible rfl
  rotate_left
  · simp only [Act.put, List.setIfInBounds_toArray, List.set_cons_zero, List.set_cons_succ]
    rfl
  refine done_ (by kernel_rfl) ?_
  go_wp2
  go_ret
  exact ⟨_, rfl, HB.out.trans (HB6.out.mono HB.out.size)⟩

set_option maxRecDepth 100000 in
set_option maxHeartbeats 1000000 in
theorem DeclsOf_q (ds : List Dc) (v : Value) (most : Int) (w : World) (h : RdDs w v ds) : Calls Tryd.prog 17 #[v, .int .i64 most] w (QuietI w) := by
  obtain ⟨A, c, rfl, hc1, hc2, hr⟩ := h
  have hkl : (ds.length : Int) ≤ 9223372036854775807 := by omega
  have HR := Lib.hid hr
  clear hr hc1 hc2
  go_enter Tryd.func17, Tryd.ntmps17
  go_wp2_with fail
  go_loopw [5, 6] (fun n i wr => ∃ (r : Int) (j : Nat), j ≤ ds.length ∧ n = .int .i64 r ∧ i = .int .i64 j ∧ Hid (Below w.heap.size w wr)) (fun _ i _ => ds.length - (intOf i).toNat)
  case atStart => exact ⟨0, 0, by omega, rfl, rfl, Lib.hid (Below.refl _ _)⟩
  case round =>
    obtain ⟨r, j, hj, rfl, rfl, HV⟩ := hrel
    by_cases hlt : j < ds.length
    · by_cases hm : r ≤ most
      · rcases HR.out with rfl | ⟨b, o, rfl, hkr⟩
        · simp at hlt
        obtain ⟨t0, t1, t2, b0, b1, b2, A1, l1, c1, A2, l2, c2, A3, l3, c3, A4, l4, c4, A5, l5, c5, A6, l6, c6, A7, c7, A8, c8, hrd, e0, e1, e2, e3, e4, e5, e6, e7, e8, e9, e10, e11, e12, e13, e14, e15, hbl⟩ := RdD_at hkr j hlt
        have hcw := (bcell HV.out).1
        have hj0 : (0 : Int) ≤ (j : Int) := Int.natCast_nonneg _
        have hj1 : (j : Int) < (ds.length : Int) := by omega
        have HT := Lib.hid (fun m => DeclOf_q ds[j] _ m wr (RdD.below (keeps_of HV.out) hrd))
        clear hrd
        clear hkr
        go_wp2_with fail
        refine (HT.out _).mono ?_
        rintro e w1 ⟨r1, rfl, hb1⟩
        have HB1 := Lib.hid hb1
        clear hb1
        go_wp2
        go_roundw
        case rel => exact ⟨_, j + 1, by omega, rfl, by go_num, Lib.hid (HV.out.trans (HB1.out.mono HV.out.size))⟩
        case measure => simp [intOf]; omega
      · go_wp2
        go_ret
        exact ⟨_, rfl, HV.out⟩
    · go_wp2
      go_ret
      exact ⟨_, rfl, HV.out⟩
end Go.Proofs.YtkedcijfegoflaaDoor
