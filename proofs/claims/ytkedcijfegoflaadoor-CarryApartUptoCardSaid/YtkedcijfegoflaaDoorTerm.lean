/- term: small functions. -/
import Derived.Test.YtkedcijfegoflaaDoorOwn
import Derived.Deep.RegionHeld3
import Derived.Deep.AppendLies
import Derived.StillTactics
import Derived.Deep.QuietTactic
import Derived.BigQuiet
import Derived.Laws.EntriesVeiled
import Derived.WalkSpells
namespace Go.Proofs.YtkedcijfegoflaaDoor
open Go Go.RowKit

/-! ### Binds: the table -/
def boundOf (k : Int) : Int := if k = 4 ∨ k = 5 ∨ k = 12 ∨ k = 16 ∨ k = 18 then 1 else if k = 7 then 2 else -1
def bindsB (k kid : Int) : Bool := decide (0 < k ∧ k < 25 ∧ 0 ≤ kid ∧ boundOf k = kid)
/-- The depth at a kid. -/
def deeper (k kid d : Int) : Int := if bindsB k kid then d + 1 else d
/-- What the table of kinds holds: of each kind which kid stands below its binder. -/
def Kinds (w : World) : Prop := 0 < w.heap.size ∧ ∀ k : Nat, 1 ≤ k → k < 25 → w.cell? ⟨0, k * 5 + 4, none⟩ = some (.int .i64 (boundOf k))
theorem Kinds.keeps {w w' : World} (h : Kinds w) (hb : Keeps w w') (hs : w.heap.size ≤ w'.heap.size) : Kinds w' := ⟨by have := h.1; omega, fun k h1 h2 => (hb _ _ h.1).trans (h.2 k h1 h2)⟩
theorem Kinds.below {w w' : World} (h : Kinds w) (hb : Below w.heap.size w w') : Kinds w' := h.keeps (keeps_of hb) hb.size

set_option maxRecDepth 100000 in
set_option maxHeartbeats 400000 in
theorem Binds_any (k kid : Int) (w : World) (hK : Kinds w) :
    Calls Tryd.prog 114 #[.int .i64 k, .int .i64 kid] w fun e w' => e = .returned (.bool (bindsB k kid)) ∧ w = w' := by
  by_cases h0 : 0 < k
  · by_cases h1 : k < 25
    · by_cases h2 : 0 ≤ kid
      · obtain ⟨n, rfl⟩ := Int.eq_ofNat_of_zero_le (show 0 ≤ k by omega)
        have hc := hK.2 n (by omega) (by omega)
        clear hK
        have hr := Lib.hid (show bindsB n kid = (boundOf n == kid) by simp only [bindsB]; by_cases h : boundOf n = kid <;> simp [h, h1, h2] <;> omega)
        go_enter Tryd.func114, Tryd.ntmps114
        go_wp2
        go_ret
        exact ⟨ret_bool hr.out.symm, rfl⟩
      · go_enter Tryd.func114, Tryd.ntmps114
        go_wp2
        go_ret
        exact ⟨ret_bool (decide_eq_false (by omega)).symm, rfl⟩
    · go_enter Tryd.func114, Tryd.ntmps114
      go_wp2
      go_ret
      exact ⟨ret_bool (decide_eq_false (by omega)).symm, rfl⟩
  · go_enter Tryd.func114, Tryd.ntmps114
    go_wp2
    go_ret
    exact ⟨ret_bool (decide_eq_false (by omega)).symm, rfl⟩
set_option maxRecDepth 100000 in
set_option maxHeartbeats 400000 in
theorem below_any (d k kid : Int) (fn : Fn) (first cap : Array Value) (w : World) (hK : Kinds w) (hd : 0 ≤ d) (hd' : d ≤ 4611686018427387904) :
    Calls Tryd.prog 95 #[.agg #[.int .i64 d, .func fn first cap], .int .i64 k, .int .i64 kid] w fun e w' => e = .returned (.agg #[.int .i64 (deeper k kid d), .func fn first cap]) ∧ Below w.heap.size w w' := by
  go_enter Tryd.func95, Tryd.ntmps95
  go_wp2_with fail
  refine (Binds_any _ _ _ (hK.below (((Below.refl _ _).alloc (by simp) _).alloc (by simp) _))).mono ?_
  rintro e w' ⟨rfl, rfl⟩
  cases hb : bindsB k kid
  all_goals
    have hr := Lib.hid (show deeper k kid d = _ by unfold deeper; rw [hb])
    clear hb hK
    go_wp2
  · exact bodyPost_ret (v := .agg #[.int .i64 d, .func fn first cap]) (by simp [results, Tryd.results95, go_sem]) rfl ⟨by rw [hr.out]; rfl, ((Below.refl _ _).alloc (Nat.le_refl _) _).alloc (by simp) _⟩
  · exact bodyPost_ret (v := .agg #[.int .i64 (d + 1), .func fn first cap]) (by simp [results, Tryd.results95, go_sem]) rfl ⟨by rw [hr.out]; rfl, ((Below.refl _ _).alloc (Nat.le_refl _) _).alloc (by simp) _⟩

/-- A struct result that lies in a block. -/
theorem ret_term {fn : Func} {p : Tmp} (h : fn.results = #[.cell p 30]) {tmps : Array Value} {w : World} {g : Nat} {c0 c1 c2 c3 c4 : Value} (hp : tmps.getD p undef = .pointer (some ⟨g, 0, none⟩)) (hg : Blk w g #[c0, c1, c2, c3, c4] 30) :
    (results fn tmps).run Tryd.prog w = .ok (.agg #[c0, c1, c2, c3, c4]) w :=
  results_cell_row h tmps w g 30 _ (0, 0) _ hp hg Tryd.underlying30 rfl (by simp only [List.size_toArray, List.length_cons, List.length_nil]; kernel_rfl)
/-- .. with another result behind it. -/
theorem ret_term_tmp {fn : Func} {p u : Tmp} (h : fn.results = #[.cell p 30, .tmp u]) {tmps : Array Value} {w : World} {g : Nat} {c0 c1 c2 c3 c4 x : Value} (hp : tmps.getD p undef = .pointer (some ⟨g, 0, none⟩)) (hx : tmps.getD u undef = x) (hg : Blk w g #[c0, c1, c2, c3, c4] 30) :
    (results fn tmps).run Tryd.prog w = .ok (.tuple #[.agg #[c0, c1, c2, c3, c4], x]) w := by
  have hp' : tmps[p]?.getD undef = .pointer (some ⟨g, 0, none⟩) := by simpa using hp
  have hx' : tmps[u]?.getD undef = x := by simpa using hx
  have hl := run_loadVar_row (P := Tryd.prog) w g 30 30 #[c0, c1, c2, c3, c4] (0, 0) _ hg Tryd.underlying30 rfl (by simp only [List.size_toArray, List.length_cons, List.length_nil]; kernel_rfl)
  simp [results, h, hp', hx', asAddr, hl]
/-! ### Clone -/
theorem infoPa : (Tryd.prog.info? 121).map (fun i => (i.zero, i.size, i.bytes)) = some (some (.agg #[.int .i64 0, .int .i64 0]), 2, 16) := by kernel_rfl
theorem infoLv : (Tryd.prog.info? 38).map (fun i => (i.zero, i.size, i.bytes)) = some (some (.agg #[.slice none 0 0]), 1, 24) := by kernel_rfl
theorem infoTm : (Tryd.prog.info? 30).map (fun i => (i.zero, i.size, i.bytes)) = some (some (.agg #[.int .i64 0, .int .i64 0, .int .i64 0, .slice none 0 0, .slice none 0 0]), 5, 72) := by kernel_rfl
theorem grown_lt {w : World} {e : TypeId} {sz n : Nat} {v : Value} {xs : List Value} (h : w.ownsRow 0 e sz v n xs) : ∀ k, v.ownBlock = some k → k < w.heap.size := fun k hk => (h.lt k hk).2

set_option maxRecDepth 100000 in
set_option maxHeartbeats 400000 in
theorem ClonePa_core (ad : Addr) (n c : Nat) (inner : List Value) (w : World) (hl : n ≤ 1099511627776) (hlen : inner.length = n * 2) (hcell : ∀ j u, inner[j]? = some u → w.cell? (ad.add j) = some u) (hone : ∀ u ∈ inner, u.oneCell' = true) :
    Calls Tryd.prog 94 #[.slice (some ad) n c] w fun e w' => ∃ A c', e = .returned (.slice A n c') ∧ w'.ownsRow 0 121 2 (.slice A n c') n inner ∧
      (∀ k, (Value.slice A n c').ownBlock = some k → w.heap.size ≤ k ∧ k < w'.heap.size) ∧ Below w.heap.size w w' := by
  obtain ⟨i0, hi, hz0, hz1, hz2⟩ := info_parts infoPa
  have hnil := @Lib.run_eql_slice_nil Tryd.prog
  have hcell' : ∀ j u, inner[j]? = some u → (w.alloc (.cells #[] 121)).cell? (ad.add j) = some u := fun j u hj => by
    have := hcell j u hj
    rw [World.cell?_of_block (Below.heap_alloc w _ _ (World.block_lt_of_cell? w _ this))]; exact this
  clear hcell
  go_enter Tryd.func94, Tryd.ntmps94
  go_wp2_with (at_builtin; refine wpList_append_own_at _ rfl (.tmp 5) (.tmp 6) 36 rfl 0 121 i0 _ 2 16 Tryd.underlying36 hi hz0 hz1 hz2 rfl (by decide) (.slice (some ⟨w.heap.size, 0, none⟩) 0 0) 0 [] rfl (World.ownsRow_lit w #[] 0 (Nat.zero_le _) (by simp [maxLen]) (by simp)) ad n c inner rfl hlen hcell' hone (by simp only [maxLen]; omega) (by omega) (Nat.zero_le _) ?_; intro v1 w1 hown1 hg1 _ hat1)
  clear hcell' hone hlen hnil
  rw [Nat.zero_add, List.nil_append] at hown1
  obtain ⟨A1, c1, rfl⟩ := own_slice hown1
  go_wp2
  go_ret
  have hs := hg1.size
  simp at hs
  refine ⟨_, _, rfl, hown1, fun k hk => ⟨?_, (hown1.lt k hk).2⟩, ((Below.refl _ _).alloc (Nat.le_refl _) _).grown hg1 (by simp) (by simp [Value.ownBlock])⟩
  rcases hat1 with h | h
  · rw [hk] at h; simp [Value.ownBlock] at h; omega
  · rw [hk] at h; simp at h; omega
set_option maxRecDepth 100000 in
theorem ClonePa_nil (c : Nat) (w : World) :
    Calls Tryd.prog 94 #[.slice none 0 c] w fun e w' => e = .returned (.slice none 0 0) ∧ w = w' := by
  have hnil := @Lib.run_eql_slice_nil Tryd.prog
  go_enter Tryd.func94, Tryd.ntmps94
  go_wp2
  go_ret
  exact ⟨rfl, rfl⟩
set_option maxRecDepth 100000 in
set_option maxHeartbeats 400000 in
theorem CloneLv_core (ad : Addr) (n c : Nat) (inner : List Value) (w : World) (hl : n ≤ 1099511627776) (hlen : inner.length = n * 1) (hcell : ∀ j u, inner[j]? = some u → w.cell? (ad.add j) = some u) (hone : ∀ u ∈ inner, u.oneCell' = true) :
    Calls Tryd.prog 93 #[.slice (some ad) n c] w fun e w' => ∃ A c', e = .returned (.slice A n c') ∧ w'.ownsRow 0 38 1 (.slice A n c') n inner ∧
      (∀ k, (Value.slice A n c').ownBlock = some k → w.heap.size ≤ k ∧ k < w'.heap.size) ∧ Below w.heap.size w w' := by
  obtain ⟨i0, hi, hz0, hz1, hz2⟩ := info_parts infoLv
  have hnil := @Lib.run_eql_slice_nil Tryd.prog
  have hcell' : ∀ j u, inner[j]? = some u → (w.alloc (.cells #[] 38)).cell? (ad.add j) = some u := fun j u hj => by
    have := hcell j u hj
    rw [World.cell?_of_block (Below.heap_alloc w _ _ (World.block_lt_of_cell? w _ this))]; exact this
  clear hcell
  go_enter Tryd.func93, Tryd.ntmps93
  go_wp2_with (at_builtin; refine wpList_append_own_at _ rfl (.tmp 5) (.tmp 6) 27 rfl 0 38 i0 _ 1 24 Tryd.underlying27 hi hz0 hz1 hz2 rfl (by decide) (.slice (some ⟨w.heap.size, 0, none⟩) 0 0) 0 [] rfl (World.ownsRow_lit w #[] 0 (Nat.zero_le _) (by simp [maxLen]) (by simp)) ad n c inner rfl hlen hcell' hone (by simp only [maxLen]; omega) (by omega) (Nat.zero_le _) ?_; intro v1 w1 hown1 hg1 _ hat1)
  clear hcell' hone hlen hnil
  rw [Nat.zero_add, List.nil_append] at hown1
  obtain ⟨A1, c1, rfl⟩ := own_slice hown1
  go_wp2
  go_ret
  have hs := hg1.size
  simp at hs
  refine ⟨_, _, rfl, hown1, fun k hk => ⟨?_, (hown1.lt k hk).2⟩, ((Below.refl _ _).alloc (Nat.le_refl _) _).grown hg1 (by simp) (by simp [Value.ownBlock])⟩
  rcases hat1 with h | h
  · rw [hk] at h; simp [Value.ownBlock] at h; omega
  · rw [hk] at h; simp at h; omega
set_option maxRecDepth 100000 in
theorem CloneLv_nil (c : Nat) (w : World) :
    Calls Tryd.prog 93 #[.slice none 0 c] w fun e w' => e = .returned (.slice none 0 0) ∧ w = w' := by
  have hnil := @Lib.run_eql_slice_nil Tryd.prog
  go_enter Tryd.func93, Tryd.ntmps93
  go_wp2
  go_ret
  exact ⟨rfl, rfl⟩

theorem one_pa {inner : List Value} {l : Lv} (h : OwL (fun x cs F => RPa x cs ∧ F = []) 2 inner l []) : ∀ u ∈ inner, u.oneCell' = true :=
  h.mem (fun x cs F h u hu => by rw [show cs = _ from h.1] at hu; simp at hu; rcases hu with rfl | rfl <;> rfl)
theorem ClonePa_any (l : Lv) (v : Value) (w : World) (h : RdLv w v l) (hl : l.length ≤ 1099511627776) :
    Calls Tryd.prog 94 #[v] w fun e w' => ∃ A n c F, e = .returned (.slice A n c) ∧ OwLv w' (.slice A n c) l F ∧ Fr w.heap.size w' F ∧ Below w.heap.size w w' := by
  obtain ⟨A, c, rfl, hc, hm, hr⟩ := h
  rcases A with _ | ad
  · rcases hr with rfl | ⟨b, o, hA, _⟩
    · refine (ClonePa_nil c w).mono ?_
      rintro e w' ⟨rfl, rfl⟩
      exact ⟨_, _, _, [], rfl, OwS.nil _ _ _ _, Fr.nil _ _, Below.refl _ _⟩
    · cases hA
  · obtain ⟨inner, hin, hlen, hcell⟩ := RdS.inner hr
    refine (ClonePa_core ad l.length c inner w hl hlen hcell (one_pa hin)).mono ?_
    rintro e w' ⟨A, c', rfl, h1, h2, h3⟩
    exact ⟨_, _, _, _, rfl, OwS.of_row h1 hin, Fr.one h2, h3⟩
theorem one_lv {w : World} {inner : List Value} {l : List Lv} (h : OwL (fun x cs F => (∃ u, cs = [u] ∧ RdLv w u x) ∧ F = []) 1 inner l []) : ∀ u ∈ inner, u.oneCell' = true :=
  h.mem (fun x cs F h u hu => by obtain ⟨⟨u', rfl, A, c, rfl, _⟩, _⟩ := h; simp at hu; rw [hu]; rfl)
theorem CloneLv_any (lv : List Lv) (v : Value) (w w0 : World) (h : RdLvs w0 v lv) (hk : Keeps w0 w) (hl : lv.length ≤ 1099511627776) :
    Calls Tryd.prog 93 #[v] w fun e w' => ∃ A c inner, e = .returned (.slice A lv.length c) ∧ w'.ownsRow 0 38 1 (.slice A lv.length c) lv.length inner ∧
      OwL (fun x cs F => (∃ u, cs = [u] ∧ RdLv w0 u x) ∧ F = []) 1 inner lv [] ∧ (∀ k, (Value.slice A lv.length c).ownBlock = some k → w.heap.size ≤ k ∧ k < w'.heap.size) ∧ Below w.heap.size w w' := by
  obtain ⟨A, c, rfl, hc, hm, hr⟩ := h
  rcases A with _ | ad
  · rcases hr with rfl | ⟨b, o, hA, _⟩
    · refine (CloneLv_nil c w).mono ?_
      rintro e w' ⟨rfl, rfl⟩
      exact ⟨none, 0, [], rfl, World.ownsRow_nil _ _ _ _, ⟨rfl, rfl⟩, by simp [Value.ownBlock], Below.refl _ _⟩
    · cases hA
  · obtain ⟨inner, hin, hlen, hcell⟩ := RdS.inner hr
    refine (CloneLv_core ad lv.length c inner w hl hlen (fun j u hj => ?_) (one_lv hin)).mono ?_
    · have h1 := hcell j u hj
      have h2 : w.cell? (ad.add j) = w0.cell? (ad.add j) := by
        have := hk (ad.add j).block (ad.add j).off (World.block_lt_of_cell? w0 _ h1)
        rcases hr with rfl | ⟨b, o, hA, _⟩
        · have := (List.getElem?_eq_some_iff.1 hj).1; simp at hlen; subst hlen; simp at this
        · injection hA with hA; subst hA; rw [addr0] at this ⊢; exact this
      rw [h2]; exact h1
    · rintro e w' ⟨A, c', rfl, h1, h2, h3⟩
      exact ⟨A, c', inner, rfl, h1, hin, h2, h3⟩
end Go.Proofs.YtkedcijfegoflaaDoor
