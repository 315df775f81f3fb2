/- The reference's with, lift, Lift (spandrelref02): walked. -/
import Derived.Test.YtkedcijfegoflaaDoorRefLPCarryNames
import Derived.Test.YtkedcijfegoflaaDoorCarry
namespace Go.Proofs.YtkedcijfegoflaaDoor.PCarryNames
set_option linter.unusedSimpArgs false
set_option linter.unusedVariables false
open Go Go.RowKit Go.Proofs.YtkedcijfegoflaaDoor Go.Proofs.YtkedcijfegoflaaDoorW.PrintLast

theorem Fr.lt {lo : Nat} {w : World} {F : List Nat} (h : Fr lo w F) : ∀ b ∈ F, b < w.heap.size := fun b hb => (h.2 b hb).2
set_option maxRecDepth 100000 in
set_option maxHeartbeats 1000000 in
/-- A term with other kids, its levels its own. -/
theorem refWith_any (k n a : Int) (vl : Value) (A2 A4 : Option Addr) (l2 c2 c4 : Nat) (lv : List Lv) (ts : List Tm) (F : List Nat) (lo : Nat) (w : World) (h : RdLvs w vl lv) (hok : Okl lv) (hO : OwTs w (.slice A4 ts.length c4) ts F) (hF : Fr lo w F) (hlo : lo ≤ w.heap.size) :
    Calls Tryd.prog 112 #[.agg #[.int .i64 k, .int .i64 n, .int .i64 a, vl, .slice A2 l2 c2], .slice A4 ts.length c4] w fun e w' =>
      ∃ cs F', e = .returned (.agg cs.toArray) ∧ OwT w' (.mk k n a lv ts) cs F' ∧ Fr lo w' F' ∧ Below w.heap.size w w' := by
  obtain ⟨A, c, rfl, hc, hm, hr⟩ := id h
  have H := Lib.hid (blks2 w #[.int .i64 k, .int .i64 n, .int .i64 a, .slice A lv.length c, .slice A4 ts.length c4] #[.int .i64 0, .int .i64 0, .int .i64 0, .slice none 0 0, .slice none 0 0] 30 30)
  have HH := Lib.hid h
  have HO := Lib.hid (And.intro hO hF)
  clear h hr hm hc hO hF
  go_enter Tryd.func112, Tryd.ntmps112
  go_wp2_with fail
  have H2 := H.out
  generalize ((w.alloc _).alloc _) = W at *
  obtain ⟨k0, k1, hb0, hsz⟩ := H2
  clear H
  refine (refLevels_any lv _ W (HH.out.below (keeps_of hb0)) hok).mono ?_
  rintro e w1 ⟨A1, c1, F1, rfl, hO1, hF1, hb1⟩
  replace k0 := k0.below hb1
  replace k1 := k1.below hb1
  have hb := hb0.trans (hb1.mono hb0.size)
  have hO2 := HO.out.1.move (Same.of_below HO.out.2 hb)
  have hF2 := HO.out.2.mono (Nat.le_refl _) hb.size
  have hold := Fr.lt HO.out.2
  rw [hsz] at hF1
  have g0 := k0.cell
  have f0 := k0.frozen
  have g1 := k1.cell
  have f1 := k1.frozen
  have n0 := k0.lt
  have n1 := k1.lt
  have H := Lib.hid (And.intro k0 (And.intro k1 (And.intro hb (And.intro hO1 (And.intro hF1 (And.intro hO2 (And.intro hF2 hold)))))))
  clear k0 k1 hb hO1 hF1 hO2 hF2 hold hb0 hb1 hsz HO HH
  go_wp2
  obtain ⟨k0, k1, hb, hO1, hF1, hO2, hF2, hold⟩ := H.out
  have hne : ∀ b ∈ F1 ++ F, b ≠ w.heap.size ∧ b ≠ w.heap.size + 1 := fun b hbm => by
    rcases List.mem_append.1 hbm with hbm | hbm
    · have := (hF1.2 b hbm).1; omega
    · have := hold b hbm; omega
  have hS : Same (F1 ++ F) w1 (put5 (w1.setCell ⟨w.heap.size, 3, none⟩ (.slice A1 lv.length c1)) (w.heap.size + 1) (.int .i64 k) (.int .i64 n) (.int .i64 a) (.slice A1 lv.length c1) (.slice A4 ts.length c4)) := fun b hbm => by
    rw [put5_at _ _ _ _ _ _ _ b (hne b hbm).2, Below.heap_setCell _ _ _ _ (show b ≠ w.heap.size from (hne b hbm).1)]
  refine bodyPost_ret (ret_term Tryd.results112 (g := w.heap.size + 1) rfl (put5_blk (k1.far (a := ⟨w.heap.size, 3, none⟩) (by simp) _))) rfl
    ⟨_, F1 ++ F, rfl, (OwT_mk ..).2 ⟨_, _, F1, F, rfl, hO1.move hS.left, hO2.move hS.right, rfl⟩, ⟨List.nodup_append.2 ⟨hF1.1, hF2.1, fun x hx y hy e => by have := (hF1.2 x hx).1; have := hold y hy; omega⟩, fun b hbm => ?_⟩, put5_below (hb.setCell (p := ⟨w.heap.size, 3, none⟩) (by simp) _) (by omega)⟩
  simp only [World.setCell, Array.size_modify]
  rcases List.mem_append.1 hbm with hbm | hbm
  · have := hF1.2 b hbm; omega
  · exact hF2.2 b hbm

/-- What the reference's lift does with a term, at a depth. -/
def LOK (nn frm : Int) (t : Tm) : Prop := ∀ (d : Int) (cs : List Value) (W : World), RdT W t cs → Okt t → 0 ≤ d → d + t.nodes ≤ 4611686018427387904 →
  Calls Tryd.prog 87 #[.agg cs.toArray, .int .i64 nn, .int .i64 frm, .int .i64 d] W (OutT W (liftT nn frm d t))
/-- The loop over the kids. -/
structure LInv (w : World) (c0 : Array Value) (v : Value) (done : List Tm) (F : List Nat) (wr : World) : Prop where
  hb : Below w.heap.size w wr
  k0 : Blk wr w.heap.size c0 30
  k1 : Blk wr (w.heap.size + 1) #[.int .i64 0, .int .i64 0, .int .i64 0, .slice none 0 0, .slice none 0 0] 30
  hO : OwTs wr v done F
  hF : Fr (w.heap.size + 2) wr F
theorem LInv.push {w : World} {c0 : Array Value} {v v2 : Value} {F Fx : List Nat} {done : List Tm} {x : Tm} {cx : List Value} {wr w1 W1 w2 : World}
    (h : LInv w c0 v done F wr) (hb : Below wr.heap.size wr w1) (hx : OwT w1 x cx Fx) (hFx : Fr wr.heap.size w1 Fx) (hW : Below w1.heap.size w1 W1) (hcx : cx.length = 5)
    (happ : ∀ inner, wr.ownsRow 0 30 5 v done.length inner → w2.ownsRow 0 30 5 v2 (done.length + 1) (inner ++ cx)) (hg : W1.grownBy w2 v.ownBlock) (hat : v2.ownBlock = v.ownBlock ∨ v2.ownBlock = some W1.heap.size) (h2s : ∀ k, v2.ownBlock = some k → k < w2.heap.size) :
    ∃ F', LInv w c0 v2 (done ++ [x]) F' w2 := by
  obtain ⟨hb', k0, k1, hO, hF⟩ := h
  have l0 := k0.lt
  have l1 := k1.lt
  obtain ⟨F', hO', hF'⟩ := OwS.push OwT.mov hO hF hb (by omega) hx hFx hW (fun inner hi => by rw [List.length_append, List.length_singleton]; exact happ inner hi) hcx hg hat h2s
  have s1 := hb.size
  have s2 := hW.size
  have s3 := hg.size
  have hvlo : ∀ q, v.ownBlock = some q → w.heap.size + 2 ≤ q := fun q hq => by
    obtain ⟨inner, Fi, g1, g2, rfl⟩ := hO
    exact (hF.2 q (List.mem_append_left _ (by simp [hq]))).1
  have hold : ∀ q, q < w.heap.size + 2 → w2.heap[q]? = wr.heap[q]? := fun q hq => by
    rw [hg.block q (by omega) (fun e => by have := hvlo q e.symm; omega), hW.block q (by omega), hb.block q (by omega)]
  refine ⟨F', ⟨?_, ?_, ?_, ?_, ?_⟩, (hold _ (by omega)).trans k0, (hold _ (by omega)).trans k1, hO', hF'⟩
  · show w2.os = w.os; rw [hg.os, hW.os, hb.os, hb'.os]
  · show w2.tape = w.tape; rw [hg.tape, hW.tape, hb.tape, hb'.tape]
  · show w2.output = w.output; rw [hg.output, hW.output, hb.output, hb'.output]
  · have := hb'.size; omega
  · intro q hq; rw [hold q (by omega)]; exact hb'.block q hq

set_option maxRecDepth 100000 in
set_option maxHeartbeats 8000000 in
/-- The loop and what is behind it, whatever number the node has by then. -/
theorem lift_loop (nn frm : Int) (k num a : Int) (lv : List Lv) (kids : List Tm) (ih : ∀ t ∈ kids, LOK nn frm t) (d : Int) (cs : List Value) (w : World) (h : RdT w (.mk k num a lv kids) cs) (hok : Okt (.mk k num a lv kids)) (hd : 0 ≤ d) (hd' : d + (Tm.mk k num a lv kids).nodes ≤ 4611686018427387904) :
    Calls Tryd.prog 87 #[.agg cs.toArray, .int .i64 nn, .int .i64 frm, .int .i64 d] w (OutT w (liftT nn frm d (.mk k num a lv kids))) := by
  obtain ⟨vl, vk, rfl, hlv, A2, c2, rfl, hc2, hm2, hkids⟩ := (RdT_mk ..).1 h
  obtain ⟨A1, c1, rfl, hc1, hm1, hr1⟩ := id hlv
  have H0 := fun n' : Int => blks2 w #[.int .i64 k, .int .i64 n', .int .i64 a, .slice A1 lv.length c1, .slice A2 kids.length c2] #[.int .i64 0, .int .i64 0, .int .i64 0, .slice none 0 0, .slice none 0 0] 30 30
  have HI0 : ∀ n' : Int, LInv w #[.int .i64 k, .int .i64 n', .int .i64 a, .slice A1 lv.length c1, .slice A2 kids.length c2] (.slice none 0 0) [] [] ((w.alloc (.cells #[.int .i64 k, .int .i64 n', .int .i64 a, .slice A1 lv.length c1, .slice A2 kids.length c2] 30)).alloc (.cells #[.int .i64 0, .int .i64 0, .int .i64 0, .slice none 0 0, .slice none 0 0] 30)) := fun n' => by
    obtain ⟨k0, k1, hb, hsz⟩ := H0 n'
    exact ⟨hb, k0, k1, OwS.nil _ _ _ _, Fr.nil _ _⟩
  have HI := Lib.hid HI0
  have HL := Lib.hid hlv
  have HR := Lib.hid hkids
  have HOK := Lib.hid hok
  have HRT := Lib.hid h
  have HTK := Lib.hid (show RdTs w (.slice A2 kids.length c2) kids from ⟨A2, c2, rfl, hc2, hm2, hkids⟩)
  have hkl : (kids.length : Int) ≤ 9223372036854775807 := by omega
  have HIH := Lib.hid ih
  have HD := Lib.hid hd'
  clear HI0 H0 hlv hkids hc2 hm2 hc1 hm1 hr1 h hok ih hd'
  obtain ⟨u, hu⟩ : ∃ u, u = liftT nn frm d (.mk k num a lv kids) := ⟨_, rfl⟩
  rw [← hu]
  have HU := Lib.hid (show u = .mk k (liftNum nn frm d k num) a lv (turnL (liftNode nn frm) d k 0 kids) by rw [hu]; simp [liftT, turnT, liftNode])
  clear hu
  have hcase : (liftNum nn frm d k num = wrap64 (num + nn) ∧ (k == 1) = true ∧ decide (d ≤ num) = true ∧ decide (frm ≤ wrap64 (num - d)) = true) ∨ (liftNum nn frm d k num = num ∧ (k == 1) = false) ∨
      (liftNum nn frm d k num = num ∧ (k == 1) = true ∧ decide (d ≤ num) = false) ∨ (liftNum nn frm d k num = num ∧ (k == 1) = true ∧ decide (d ≤ num) = true ∧ decide (frm ≤ wrap64 (num - d)) = false) := by
    unfold liftNum
    by_cases h1 : k = 1 <;> by_cases h2 : d ≤ num <;> by_cases h3 : frm ≤ wrap64 (num - d) <;> simp [h1, h2, h3]
  rcases hcase with ⟨hN, hc1, hc2, hc3⟩ | ⟨hN, hc1⟩ | ⟨hN, hc1, hc2⟩ | ⟨hN, hc1, hc2, hc3⟩
  all_goals
    rw [hN] at HU
    clear hN
    go_enter Tryd.func87, Tryd.ntmps87
    go_wp2_with fail
  clear hc1 hc2 hc3
  generalize wrap64 (num + nn) = N at *
  replace HI := Lib.hid (HI.out N)
  replace HOK := Lib.hid (show Okt (.mk k N a lv kids) from .mk HOK.out.lv HOK.out.len HOK.out.kid)
  replace HD := Lib.hid (show d + (Tm.mk k N a lv kids).nodes ≤ 4611686018427387904 from by simpa [Tm.nodes] using HD.out)
  clear HRT
  rotate_left
  clear hc1
  generalize num = N at *
  replace HI := Lib.hid (HI.out N)
  clear HRT
  rotate_left
  clear hc1 hc2
  generalize num = N at *
  replace HI := Lib.hid (HI.out N)
  clear HRT
  rotate_left
  clear hc1 hc2 hc3
  generalize num = N at *
  replace HI := Lib.hid (HI.out N)
  clear HRT
  rotate_left
  all_goals
    go_loopw [9, 10] (fun v i wr => ∃ j : Nat, j ≤ kids.length ∧ i = .int .i64 j ∧ ∃ A c F, v = .slice A j c ∧ Hid (LInv w #[.int .i64 k, .int .i64 N, .int .i64 a, .slice A1 lv.length c1, .slice A2 kids.length c2] (.slice A j c) (turnL (liftNode nn frm) d k 0 (kids.take j)) F wr)) (fun _ i _ => kids.length - (intOf i).toNat)
    case atStart => exact ⟨0, by omega, rfl, none, 0, [], rfl, HI⟩
    case round =>
      obtain ⟨j, hj, rfl, A, c, F, rfl, HV⟩ := hrel
      clear HI
      by_cases hlt : j < kids.length
      · rcases HR.out with rfl | ⟨b, o, rfl, hkr⟩
        · simp at hlt
        obtain ⟨q0, q1, q2, A5, l5, c5, A6, l6, c6, hTk, e0, e1, e2, e3, e4, hbl⟩ := RdT_at hkr j hlt
        have hv := HV.out
        have hcw := (bcell hv.hb).1
        have HTk := Lib.hid hTk
        have hj0 : (0 : Int) ≤ (j : Int) := Int.natCast_nonneg _
        have hj1 : (j : Int) < (kids.length : Int) := by omega
        have g0 := hv.k0.cell
        have n0 := hv.k0.lt
        have hdn : d ≤ 4611686018427387904 := by have := HD.out; simp only [Tm.nodes] at this; omega
        have hl0 : (turnL (liftNode nn frm) d k 0 (kids.take j)).length = j := by rw [turnL_length, List.length_take]; omega
        have HS := Lib.hid hv.hb.size
        have hbl' : b < wr.heap.size := Nat.lt_of_lt_of_le hbl HS.out
        have HL0 := Lib.hid hl0
        have HTW := Lib.hid (show RdT wr (.mk k N a lv kids) [.int .i64 k, .int .i64 N, .int .i64 a, .slice A1 lv.length c1, .slice (some ⟨b, o, none⟩) kids.length c2] from (RdT_mk ..).2 ⟨_, _, rfl, HL.out.below (keeps_of hv.hb), HTK.out.below (keeps_of hv.hb)⟩)
        have HKID := Lib.hid (fun W' (hk : Keeps wr W') => HIH.out kids[j] (List.getElem_mem hlt) (deeper k j d) _ W' (RdT.below hk _ _ (RdT.below (keeps_of hv.hb) _ _ HTk.out)) (HOK.out.kid _ (List.getElem_mem hlt))
          (by unfold deeper; split <;> omega) (by have := HD.out; have := nodes_kid (List.getElem_mem hlt); simp only [Tm.nodes] at *; unfold deeper; split <;> omega))
        clear hkr hTk hv hl0
        go_wp2_with fail
        refine start_ (n := 16) (S := fun W' => ∀ b o, b < wr.heap.size → W'.cell? ⟨b, o, none⟩ = wr.cell? ⟨b, o, none⟩) (ds := [14]) #[false, false, false, false, false, false, false, false, false, false, false, false, false, false, false, false] (by kernel_rfl) rfl rfl (by exact (fun _ _ _ => rfl)) (fun hHeld => ?_)
        refine take_ (i := 0) (N := some 40) (v := ?_) (a' := ?_) #[true, false, false, false, false, false, false, false, false, false, false, false, false, false, false, false] rfl rfl (by kernel_rfl) (fun _ _ _ h => h) (Or.inl ⟨by rfl, ?_⟩) hHeld ?_ ?_
        rotate_left
        · rintro w' hS'
          go_simp
          with_reducible rfl
        rotate_left
        · simp only [Act.put, List.setIfInBounds_toArray, List.set_cons_zero, List.set_cons_succ]
          rfl
        refine take_ (i := 1) (N := some 41) (v := ?_) (a' := ?_) #[true, true, false, false, false, false, false, false, false, false, false, false, false, false, false, false] rfl rfl (by kernel_rfl) (fun _ _ _ h => h) (Or.inl ⟨by rfl, ?_⟩) hHeld ?_ ?_
        rotate_left
        · rintro w' hS'
          go_simp
          with_reducible rfl
        rotate_left
        · simp only [Act.put, List.setIfInBounds_toArray, List.set_cons_zero, List.set_cons_succ]
          rfl
        refine take_ (i := 2) (N := some 42) (v := ?_) (a' := ?_) #[true, true, true, false, false, false, false, false, false, false, false, false, false, false, false, false] rfl rfl (by kernel_rfl) (fun _ _ _ h => h) (Or.inl ⟨by rfl, ?_⟩) hHeld ?_ ?_
        rotate_left
        · rintro w' hS'
          go_simp
          with_reducible rfl
        rotate_left
        · simp only [Act.put, List.setIfInBounds_toArray, List.set_cons_zero, List.set_cons_succ]
          rfl
        refine take_ (i := 3) (N := some 43) (v := ?_) (a' := ?_) #[true, true, true, true, false, false, false, false, false, false, false, false, false, false, false, false] rfl rfl (by kernel_rfl) (fun _ _ _ h => h) (Or.inl ⟨by rfl, ?_⟩) hHeld ?_ ?_
        rotate_left
        · rintro w' hS'
          go_simp
          with_reducible rfl
        rotate_left
        · simp only [Act.put, List.setIfInBounds_toArray, List.set_cons_zero, List.set_cons_succ]
          rfl
        refine take_ (i := 4) (N := some 44) (v := ?_) (a' := ?_) #[true, true, true, true, true, false, false, false, false, false, false, false, false, false, false, false] rfl rfl (by kernel_rfl) (fun _ _ _ h => h) (Or.inl ⟨by rfl, ?_⟩) hHeld ?_ ?_
        rotate_left
        · rintro w' hS'
          go_simp
          with_reducible rfl
        rotate_left
        · simp only [Act.put, List.setIfInBounds_toArray, List.set_cons_zero, List.set_cons_succ]
          rfl
        refine take_ (i := 5) (N := some 45) (v := ?_) (a' := ?_) #[true, true, true, true, true, true, false, false, false, false, false, false, false, false, false, false] rfl rfl (by kernel_rfl) (fun _ _ _ h => h) (Or.inl ⟨by rfl, ?_⟩) hHeld ?_ ?_
        rotate_left
        · rintro w' hS'
          go_simp
          with_reducible rfl
        rotate_left
        · simp only [Act.put, List.setIfInBounds_toArray, List.set_cons_zero, List.set_cons_succ]
          rfl
        refine take_ (i := 6) (N := some 46) (v := ?_) (a' := ?_) #[true, true, true, true, true, true, true, false, false, false, false, false, false, false, false, false] rfl rfl (by kernel_rfl) (fun _ _ _ h => h) (Or.inl ⟨by rfl, ?_⟩) hHeld ?_ ?_
        rotate_left
        · rintro w' hS'
          go_simp
          with_reducible rfl
        rotate_left
        · simp only [Act.put, List.setIfInBounds_toArray, List.set_cons_zero, List.set_cons_succ]
          rfl
        refine take_ (i := 7) (N := some 47) (v := ?_) (a' := ?_) #[true, true, true, true, true, true, true, true, false, false, false, false, false, false, false, false] rfl rfl (by kernel_rfl) (fun _ _ _ h => h) (Or.inl ⟨by rfl, ?_⟩) hHeld ?_ ?_
        rotate_left
        · rintro w' hS'
          go_simp
          with_reducible rfl
        rotate_left
        · simp only [Act.put, List.setIfInBounds_toArray, List.set_cons_zero, List.set_cons_succ]
          rfl
        refine take_ (i := 8) (N := some 48) (v := ?_) (a' := ?_) #[true, true, true, true, true, true, true, true, true, false, false, false, false, false, false, false] rfl rfl (by kernel_rfl) (fun _ _ _ h => h) (Or.inl ⟨by rfl, ?_⟩) hHeld ?_ ?_
        rotate_left
        · rintro w' hS'
          go_simp
          with_reducible rfl
        rotate_left
        · simp only [Act.put, List.setIfInBounds_toArray, List.set_cons_zero, List.set_cons_succ]
          rfl
        refine take_ (i := 9) (N := some 49) (v := ?_) (a' := ?_) #[true, true, true, true, true, true, true, true, true, true, false, false, false, false, false, false] rfl rfl (by kernel_rfl) (fun _ _ _ h => h) (Or.inl ⟨by rfl, ?_⟩) hHeld ?_ ?_
        rotate_left
        · rintro w' hS'
          go_simp
          with_reducible rfl
        rotate_left
        · simp only [Act.put, List.setIfInBounds_toArray, List.set_cons_zero, List.set_cons_succ]
          rfl
        refine take_ (i := 10) (N := some 50) (v := ?_) (a' := ?_) #[true, true, true, true, true, true, true, true, true, true, true, false, false, false, false, false] rfl rfl (by kernel_rfl) (fun _ _ _ h => h) (Or.inl ⟨by rfl, ?_⟩) hHeld ?_ ?_
        rotate_left
        · rintro w' hS'
          go_simp
          with_reducible rfl
        rotate_left
        · simp only [Act.put, List.setIfInBounds_toArray, List.set_cons_zero, List.set_cons_succ]
          rfl
        refine one_ (i := 11) (N := some 51) #[true, true, true, true, true, true, true, true, true, true, true, true, false, false, false, false] rfl rfl (by kernel_rfl) (by decide) (fun K hK => ?_)
        go_simp
        refine (refBelow_any (.mk k N a lv kids) _ j d _ (RdT.below hHeld _ _ HTW.out) hd hdn).mono ?_
        rintro e w2 ⟨rfl, hb2⟩
        have HB2 := Lib.hid (undrew hb2)
        clear hb2
        refine hK.out _ _ (keeps_of HB2.out) (fun hHeld => ?_)
        clear hK K
        refine norm_ (a' := ?_) ?_ ?_
        rotate_left
        · first
            | rfl
            | (simp only [Act.put, List.setIfInBounds_toArray, List.set_cons_zero, List.set_cons_succ]; rfl)
        refine one_ (i := 12) (N := some 52) #[true, true, true, true, true, true, true, true, true, true, true, true, true, false, false, false] rfl rfl (by kernel_rfl) (by decide) (fun K hK => ?_)
        go_simp
        refine (HKID.out w2 (keeps_of HB2.out)).mono ?_
        rintro e w3 ⟨cs', Fx, rfl, hx, hFx, hb3⟩
        obtain ⟨A7, l7, c7, A8, l8, c8, rfl⟩ := hx.cells
        have HX := Lib.hid (And.intro hx (And.intro hFx hb3))
        clear hx hFx hb3
        refine hK.out _ _ (Keeps.trans (keeps_of HB2.out) HB2.out.size (keeps_of HX.out.2.2)) (fun hHeld => ?_)
        clear hK K
        refine norm_ (a' := ?_) ?_ ?_
        rotate_left
        · first
            | rfl
            | (simp only [Act.put, List.setIfInBounds_toArray, List.set_cons_zero, List.set_cons_succ]; rfl)
        refine one_ (i := 13) (N := some 53) #[true, true, true, true, true, true, true, true, true, true, true, true, true, true, false, false] rfl rfl (by kernel_rfl) (by decide) (fun K hK => ?_)
        go_simp
        refine hK.out _ _ (Keeps.trans (Keeps.trans (keeps_of HB2.out) HB2.out.size (keeps_of HX.out.2.2)) (Nat.le_trans HB2.out.size HX.out.2.2.size) (keeps_of ((Below.refl _ _).alloc (Nat.le_refl _) _))) (fun hHeld => ?_)
        clear hK K
        refine norm_ (a' := ?_) ?_ ?_
        rotate_left
        · first
            | rfl
            | (simp only [Act.put, List.setIfInBounds_toArray, List.set_cons_zero, List.set_cons_succ]; rfl)
        refine last_ (i := 14) (N := some 54) #[true, true, true, true, true, true, true, true, true, true, true, true, true, true, true, false] rfl rfl (by kernel_rfl) (by decide) (fun K hK => ?_)
        have hv := HV.out
        have hOs := hv.hO
        obtain ⟨inner, Fi, hown, hin, hFi⟩ := id hOs
        have hlen := HL0.out
        rw [hlen] at hown
        have hb35 : Below wr.heap.size wr w3 := HB2.out.trans (HX.out.2.2.mono HB2.out.size)
        have hbW1 : Below w3.heap.size w3 (w3.alloc (.cells #[.int .i64 (liftT nn frm (deeper k j d) kids[j]).kind, .int .i64 (liftT nn frm (deeper k j d) kids[j]).num, .int .i64 (liftT nn frm (deeper k j d) kids[j]).place, .slice A7 l7 c7, .slice A8 l8 c8] 30)) := (Below.refl _ _).alloc (Nat.le_refl _) _
        have hmv : ∀ q, q < wr.heap.size → (w3.alloc (.cells #[.int .i64 (liftT nn frm (deeper k j d) kids[j]).kind, .int .i64 (liftT nn frm (deeper k j d) kids[j]).num, .int .i64 (liftT nn frm (deeper k j d) kids[j]).place, .slice A7 l7 c7, .slice A8 l8 c8] 30)).heap[q]? = wr.heap[q]? := fun q hq => by
          rw [hbW1.block q (Nat.lt_of_lt_of_le hq hb35.size), hb35.block q hq]
        have hjl := HOK.out.len
        refine step_append rfl (.tmp 40) (.tmp 53) 28 rfl 30 _ 5 72 Tryd.underlying28 infoTm rfl (by decide) (.slice A j c) j inner rfl (ownsRow_move hown (fun q hq => hmv q (hown.lt q hq).2))
          ⟨w3.heap.size, 0, none⟩ 1 1 [.int .i64 (liftT nn frm (deeper k j d) kids[j]).kind, .int .i64 (liftT nn frm (deeper k j d) kids[j]).num, .int .i64 (liftT nn frm (deeper k j d) kids[j]).place, .slice A7 l7 c7, .slice A8 l8 c8] rfl rfl (news_at (Blk.new w3 _ _)) (by simp [Value.oneCell']) (by simp only [maxLen]; omega) (by omega) ?_
        intro v2 w5 hown2 hg hat
        obtain ⟨A9, c9, rfl⟩ := own_slice hown2
        have HP := Lib.hid (hv.push hb35 HX.out.1 (HX.out.2.1.mono HB2.out.size (Nat.le_refl _)) hbW1 rfl (fun inner' hi' => by rw [hlen] at hi' ⊢; rw [ownsRow_unique hi' hown]; exact hown2) hg hat (fun q hq => (hown2.lt q hq).2))
        clear hv hOs hown hin hFi hlen hb35 hbW1 hmv hjl hown2 hg hat
        refine hK.out _ _ ?_
        clear hK K
        refine norm_ (a' := ?_) ?_ ?_
        rotate_left
        · first
            | rfl
            | (simp only [Act.put, List.setIfInBounds_toArray, List.set_cons_zero, List.set_cons_succ]; rfl)
        refine pure_ (i := 15) (N := some 9) (v := ?_) (a' := ?_) #[true, true, true, true, true, true, true, true, true, true, true, true, true, true, true, true] rfl rfl (by kernel_rfl) (fun _ _ _ h => h) (Or.inl ⟨by rfl, ?_⟩) ?_ ?_
        rotate_left
        · rintro w'
          go_simp
          with_reducible rfl
        rotate_left
        · simp only [Act.put, List.setIfInBounds_toArray, List.set_cons_zero, List.set_cons_succ]
          rfl
        refine done_ (by kernel_rfl) ?_
        clear g0
        go_wp2
        go_roundw
        case rel =>
          obtain ⟨F', hw⟩ := HP.out
          rw [show turnL (liftNode nn frm) d k 0 (kids.take j) ++ [liftT nn frm (deeper k j d) kids[j]] = turnL (liftNode nn frm) d k 0 (kids.take (j + 1)) from by rw [turnL_take _ d k kids 0 j hlt, Nat.zero_add]; rfl] at hw
          exact ⟨j + 1, by omega, by go_num, A9, c9, F', rfl, hw⟩
        case measure => simp [intOf]; omega
      · have hv := HV.out
        have g0 := hv.k0.cell
        have n0 := hv.k0.lt
        clear hv
        go_wp2_with fail
        have hjk : j = kids.length := by omega
        subst hjk
        have hv := HV.out
        have hl1 : (turnL (liftNode nn frm) d k 0 kids).length = kids.length := turnL_length ..
        have hO := hv.hO
        rw [List.take_length] at hO
        have HW := refWith_any k N a (.slice A1 lv.length c1) A2 A kids.length c2 c lv _ F _ wr (HL.out.below (keeps_of hv.hb)) HOK.out.lv (by rw [hl1]; exact hO) hv.hF (by have := hv.k1.lt; omega)
        rw [hl1] at HW
        refine HW.mono ?_
        clear HW
        rintro e w5 ⟨cs', F', rfl, hO', hF', hb5⟩
        obtain ⟨A7, l7, c7, A8, l8, c8, rfl⟩ := hO'.cells
        have k1 := hv.k1.below hb5
        have g1 := k1.cell
        have f1 := k1.frozen
        have n1 := k1.lt
        have HE := Lib.hid (And.intro k1 (And.intro hO' (And.intro hF' (hv.hb.trans (hb5.mono hv.hb.size)))))
        clear hv hO k1 hO' hF' hb5 g0
        go_wp2
        obtain ⟨k1, hO', hF', hb⟩ := HE.out
        rw [HU.out]
        exact term_end Tryd.results87 rfl k1 hO' hF' (by omega) (fun b hb => by have := (hF'.2 b hb).1; omega) hb (by omega) rfl
/-- .. whatever the term. -/
theorem refLift_of (nn frm : Int) : ∀ t, LOK nn frm t := by
  intro t
  induction t using Tm.ind with
  | h k n a lv kids ih => exact fun d cs w h hok hd hd' => lift_loop nn frm k n a lv kids ih d cs w h hok hd hd'
set_option maxRecDepth 100000 in
set_option maxHeartbeats 1000000 in
theorem refLift_any (t : Tm) (cs : List Value) (nn frm : Int) (w : World) (h : In w t cs) :
    Calls Tryd.prog 50 #[.agg cs.toArray, .int .i64 nn, .int .i64 frm] w (OutT w (liftT nn frm 0 t)) := by
  obtain ⟨A1, l1, c1, A2, l2, c2, rfl⟩ := h.rd.cells
  obtain ⟨k0, k1, hb0, hsz⟩ := blks2 w #[.int .i64 t.kind, .int .i64 t.num, .int .i64 t.place, .slice A1 l1 c1, .slice A2 l2 c2] #[.int .i64 0, .int .i64 0, .int .i64 0, .slice none 0 0, .slice none 0 0] 30 30
  have HC := Lib.hid (refLift_of nn frm t 0 _ _ (RdT.below (keeps_of hb0) _ _ h.rd) h.ok (Int.le_refl _) (by have := h.few; omega))
  have H := Lib.hid (And.intro k1 (And.intro hb0 hsz))
  clear k0 k1 hb0 hsz h
  go_enter Tryd.func50, Tryd.ntmps50
  go_wp2_with fail
  refine HC.out.mono ?_
  rintro e w1 ⟨cs', F, rfl, hO, hF, hb1⟩
  obtain ⟨A3, l3, c3, A4, l4, c4, rfl⟩ := hO.cells
  obtain ⟨k1, hb, hsz⟩ := H.out
  have k1 := k1.below hb1
  have c3' := k1.cell
  have f3' := k1.frozen
  have H1 := Lib.hid (And.intro k1 (And.intro hO (And.intro hF (And.intro hb1 (And.intro hb hsz)))))
  clear k1 hO hF hb1 hb hsz
  go_wp2
  obtain ⟨k1, hO, hF, hb1, hb, hsz⟩ := H1.out
  rw [hsz] at hF
  exact term_end Tryd.results50 rfl k1 hO hF (by omega) (fun b hb => by have := (hF.2 b hb).1; omega) (hb.trans (hb1.mono hb.size)) (by omega) rfl
end Go.Proofs.YtkedcijfegoflaaDoor.PCarryNames
