/- The reference's constant of a name. -/
import Derived.Test.YtkedcijfegoflaaDoorName4
namespace Go.Proofs.YtkedcijfegoflaaDoor
set_option linter.unusedSimpArgs false
set_option linter.unusedVariables false
open Go Go.RowKit Go.Proofs.YtkedcijfegoflaaDoorW.PrintLast

/-- What the reference tells of a name. -/
def ConstPost (w : World) (o : Option Int) (e : Ending) (w' : World) : Prop :=
  (∃ n ok, e = .returned (.tuple #[.int .i64 n, .bool ok]) ∧ ok = o.isSome ∧ (∀ m, o = some m → n = m)) ∧ Below w.heap.size w w'
theorem ConstPost.mk {w w' : World} {o : Option Int} {n : Int} {ok : Bool} (h1 : ok = o.isSome) (h2 : ∀ m, o = some m → n = m) (hb : Below w.heap.size w w') : ConstPost w o (.returned (.tuple #[.int .i64 n, .bool ok])) w' :=
  ⟨⟨n, ok, rfl, h1, h2⟩, hb⟩
theorem belowN {N : Nat} {w w1 : World} (h : Below N w w1) (n : Nat) : Below N w (w1.drewN n) := ⟨h.os, h.tape, h.output, h.size, h.block⟩
set_option maxRecDepth 100000 in
set_option maxHeartbeats 1000000 in
theorem refConst_no (ds : List Dc) (ats : List Int) (vd va : Value) (k num a : Int) (A1 A2 : Option Addr) (l1 c1 l2 c2 : Nat) (w : World) (hd : RdDs w vd ds) (ha : RdIs w va ats) (hno : ¬ (0 ≤ num ∧ num < ds.length ∧ num < ats.length)) :
    Calls Tryd.prog 51 #[vd, va, .agg #[.int .i64 k, .int .i64 num, .int .i64 a, .slice A1 l1 c1, .slice A2 l2 c2]] w (ConstPost w none) := by
  obtain ⟨Ad, cd, rfl, _⟩ := id hd
  obtain ⟨Aa, ca, rfl, _⟩ := id ha
  clear hd ha
  have hb : ∀ o, Below w.heap.size w (w.alloc o) := fun o => (Below.refl _ _).alloc (Nat.le_refl _) o
  by_cases h0 : num < 0
  · clear hno
    go_enter Tryd.func51, Tryd.ntmps51
    go_wp2
    go_ret2
    exact ConstPost.mk rfl (fun _ h => by cases h) (hb _)
  have h0' : 0 ≤ num := by omega
  clear h0
  by_cases h1 : (ds.length : Int) ≤ num
  · clear hno
    go_enter Tryd.func51, Tryd.ntmps51
    go_wp2
    go_ret2
    exact ConstPost.mk rfl (fun _ h => by cases h) (hb _)
  have h1' : num < (ds.length : Int) := by omega
  have h2' : (ats.length : Int) ≤ num := by omega
  clear h1 hno
  go_enter Tryd.func51, Tryd.ntmps51
  go_wp2
  go_ret2
  exact ConstPost.mk rfl (fun _ h => by cases h) (hb _)

theorem within_close1 (d : Dc) (a L : Int) (h : d.kind = 3 ∧ 0 ≤ a) : (withinI d a L).isSome = decide (a < L) := by
  unfold withinI; by_cases hl : a < L <;> simp [h.1, h.2, hl]
theorem within_close2 (d : Dc) (a L : Int) (h : ¬ (d.kind = 3 ∧ 0 ≤ a)) : withinI d a L = none := by
  unfold withinI; exact if_neg (fun hh => h ⟨hh.1, hh.2.1⟩)
set_option maxRecDepth 100000 in
set_option maxHeartbeats 16000000 in
theorem refConst_yes (ds : List Dc) (ats : List Int) (vd va : Value) (k a : Int) (num : Nat) (A1 A2 : Option Addr) (l1 c1 l2 c2 : Nat) (w : World) (hd : RdDs w vd ds) (ha : RdIs w va ats) (h1 : num < ds.length) (h2 : num < ats.length) :
    Calls Tryd.prog 51 #[vd, va, .agg #[.int .i64 k, .int .i64 num, .int .i64 a, .slice A1 l1 c1, .slice A2 l2 c2]] w (ConstPost w (nameI ds ats k num a)) := by
  obtain ⟨oN, hoN⟩ : ∃ oN, oN = nameI ds ats k num a := ⟨_, rfl⟩
  rw [← hoN]
  have HN := Lib.hid hoN
  clear hoN
  have hof : ofI ds ats (num : Int) = some (ds[num], ats[num]) := by unfold ofI; rw [dif_pos ⟨by omega, by omega, by omega⟩]; rfl
  have HO := Lib.hid hof
  clear hof
  obtain ⟨Ad, cd, rfl, hcd, hmd, hrd⟩ := id hd
  obtain ⟨Aa, ca, rfl, hca, hma, hra⟩ := id ha
  obtain ⟨k0, hb, hsz⟩ := blks1 w #[.int .i64 k, .int .i64 num, .int .i64 a, .slice A1 l1 c1, .slice A2 l2 c2] 30
  rcases hrd with rfl | ⟨bd, od, rfl, hrd⟩
  · simp at h1
  rcases hra with rfl | ⟨ba, oa, rfl, hra⟩
  · simp at h2
  obtain ⟨ea, hlt⟩ := RdIs_at hra num h2
  obtain ⟨t0, t1, t2, b0, b1, b2, A3, l3, c3, A4, l4, c4, A5, l5, c5, A6, l6, c6, A7, l7, c7, A8, l8, c8, A9, c9, A10, c10, hR, e0, e1, e2, e3, e4, e5, e6, e7, e8, e9, e10, e11, e12, e13, e14, e15, hlt'⟩ := RdD_at hrd num h1
  have HB := Lib.hid hb
  have hn0 : (0 : Int) ≤ (num : Int) := Int.natCast_nonneg _
  have hn1 : (num : Int) < (ds.length : Int) := by omega
  have hn2 : (num : Int) < (ats.length : Int) := by omega
  clear hd ha hcd hmd hca hma hR hra hrd
  go_enter Tryd.func51, Tryd.ntmps51
  have H0 := Lib.hid k0
  have q0 := k0.cell
  have hcw := (bcell hb).1
  have n0 := k0.lt
  clear k0 hb
  go_wp2_with fail
  generalize (w.alloc _) = W at *
  have m0 := Nat.lt_of_lt_of_le hlt HB.out.size
  have m1 := Nat.lt_of_lt_of_le hlt' HB.out.size
  have HF := Lib.hid (blks1 W #[.int .i64 ds[num].kind, .int .i64 ds[num].levels, .int .i64 t0, .int .i64 t1, .int .i64 t2, .slice A3 l3 c3, .slice A4 l4 c4, .int .i64 b0, .int .i64 b1, .int .i64 b2, .slice A5 l5 c5, .slice A6 l6 c6, .slice A7 l7 c7, .slice A8 l8 c8, .slice A9 ds[num].members.length c9, .slice A10 ds[num].ctors.length c10] 42)
  refine start_ (n := 13) (S := fun W' => ∀ b o, b < W.heap.size → W'.cell? ⟨b, o, none⟩ = W.cell? ⟨b, o, none⟩) (ds := []) #[false, false, false, false, false, false, false, false, false, false, false, false, false] (by kernel_rfl) rfl rfl (by exact (fun _ _ _ => rfl)) (fun hHeld => ?_)
  refine take_ (i := 0) (N := some 30) (v := ?_) (a' := ?_) #[true, false, false, false, false, false, false, false, false, false, false, false, false] rfl rfl (by kernel_rfl) (fun _ _ _ h => h) (Or.inl ⟨by rfl, ?_⟩) hHeld ?_ ?_
  rotate_left
  · rintro w' hS'
    go_simp
    with_reducible rfl
  rotate_left
  · simp only [Act.put, List.setIfInBounds_toArray, List.set_cons_zero, List.set_cons_succ]
    rfl
  refine take_ (i := 1) (N := some 31) (v := ?_) (a' := ?_) #[true, true, false, false, false, false, false, false, false, false, false, false, false] rfl rfl (by kernel_rfl) (fun _ _ _ h => h) (Or.inl ⟨by rfl, ?_⟩) hHeld ?_ ?_
  rotate_left
  · rintro w' hS'
    go_simp
    with_reducible rfl
  rotate_left
  · simp only [Act.put, List.setIfInBounds_toArray, List.set_cons_zero, List.set_cons_succ]
    rfl
  refine take_ (i := 2) (N := some 32) (v := ?_) (a' := ?_) #[true, true, true, false, false, false, false, false, false, false, false, false, false] rfl rfl (by kernel_rfl) (fun _ _ _ h => h) (Or.inl ⟨by rfl, ?_⟩) hHeld ?_ ?_
  rotate_left
  · rintro w' hS'
    go_simp
    with_reducible rfl
  rotate_left
  · simp only [Act.put, List.setIfInBounds_toArray, List.set_cons_zero, List.set_cons_succ]
    rfl
  refine take_ (i := 3) (N := some 33) (v := ?_) (a' := ?_) #[true, true, true, true, false, false, false, false, false, false, false, false, false] rfl rfl (by kernel_rfl) (fun _ _ _ h => h) (Or.inl ⟨by rfl, ?_⟩) hHeld ?_ ?_
  rotate_left
  · rintro w' hS'
    go_simp
    with_reducible rfl
  rotate_left
  · simp only [Act.put, List.setIfInBounds_toArray, List.set_cons_zero, List.set_cons_succ]
    rfl
  refine take_ (i := 4) (N := some 34) (v := ?_) (a' := ?_) #[true, true, true, true, true, false, false, false, false, false, false, false, false] rfl rfl (by kernel_rfl) (fun _ _ _ h => h) (Or.inl ⟨by rfl, ?_⟩) hHeld ?_ ?_
  rotate_left
  · rintro w' hS'
    go_simp
    with_reducible rfl
  rotate_left
  · simp only [Act.put, List.setIfInBounds_toArray, List.set_cons_zero, List.set_cons_succ]
    rfl
  refine take_ (i := 5) (N := some 35) (v := ?_) (a' := ?_) #[true, true, true, true, true, true, false, false, false, false, false, false, false] rfl rfl (by kernel_rfl) (fun _ _ _ h => h) (Or.inl ⟨by rfl, ?_⟩) hHeld ?_ ?_
  rotate_left
  · rintro w' hS'
    go_simp
    with_reducible rfl
  rotate_left
  · simp only [Act.put, List.setIfInBounds_toArray, List.set_cons_zero, List.set_cons_succ]
    rfl
  refine take_ (i := 6) (N := some 36) (v := ?_) (a' := ?_) #[true, true, true, true, true, true, true, false, false, false, false, false, false] rfl rfl (by kernel_rfl) (fun _ _ _ h => h) (Or.inl ⟨by rfl, ?_⟩) hHeld ?_ ?_
  rotate_left
  · rintro w' hS'
    go_simp
    with_reducible rfl
  rotate_left
  · simp only [Act.put, List.setIfInBounds_toArray, List.set_cons_zero, List.set_cons_succ]
    rfl
  refine take_ (i := 7) (N := some 37) (v := ?_) (a' := ?_) #[true, true, true, true, true, true, true, true, false, false, false, false, false] rfl rfl (by kernel_rfl) (fun _ _ _ h => h) (Or.inl ⟨by rfl, ?_⟩) hHeld ?_ ?_
  rotate_left
  · rintro w' hS'
    go_simp
    with_reducible rfl
  rotate_left
  · simp only [Act.put, List.setIfInBounds_toArray, List.set_cons_zero, List.set_cons_succ]
    rfl
  refine take_ (i := 8) (N := some 38) (v := ?_) (a' := ?_) #[true, true, true, true, true, true, true, true, true, false, false, false, false] rfl rfl (by kernel_rfl) (fun _ _ _ h => h) (Or.inl ⟨by rfl, ?_⟩) hHeld ?_ ?_
  rotate_left
  · rintro w' hS'
    go_simp
    with_reducible rfl
  rotate_left
  · simp only [Act.put, List.setIfInBounds_toArray, List.set_cons_zero, List.set_cons_succ]
    rfl
  refine take_ (i := 9) (N := some 39) (v := ?_) (a' := ?_) #[true, true, true, true, true, true, true, true, true, true, false, false, false] rfl rfl (by kernel_rfl) (fun _ _ _ h => h) (Or.inl ⟨by rfl, ?_⟩) hHeld ?_ ?_
  rotate_left
  · rintro w' hS'
    go_simp
    with_reducible rfl
  rotate_left
  · simp only [Act.put, List.setIfInBounds_toArray, List.set_cons_zero, List.set_cons_succ]
    rfl
  refine one_ (i := 10) (N := some 8) #[true, true, true, true, true, true, true, true, true, true, true, false, false] rfl rfl (by kernel_rfl) (by decide) (fun K hK => ?_)
  go_simp
  refine hK.out _ _ (keepsD (keeps_of ((Below.refl _ _).alloc (Nat.le_refl _) _))) (fun hHeld => ?_)
  clear hK K
  refine norm_ (a' := ?_) ?_ ?_
  rotate_left
  · first
      | rfl
      | (simp only [Act.put, List.setIfInBounds_toArray, List.set_cons_zero, List.set_cons_succ]; rfl)
  refine one_ (i := 11) (N := none) #[true, true, true, true, true, true, true, true, true, true, true, true, false] rfl rfl (by kernel_rfl) (by decide) (fun K hK => ?_)
  go_simp
  refine hK.out _ _ (keepsD (keeps_of ((Below.refl _ _).alloc (Nat.le_refl _) _))) (fun hHeld => ?_)
  clear hK K
  refine norm_ (a' := ?_) ?_ ?_
  rotate_left
  · first
      | rfl
      | (simp only [Act.put, List.setIfInBounds_toArray, List.set_cons_zero, List.set_cons_succ]; rfl)
  refine pure_ (i := 12) (N := some 9) (v := ?_) (a' := ?_) #[true, true, true, true, true, true, true, true, true, true, true, true, true] rfl rfl (by kernel_rfl) (fun _ _ _ h => h) (Or.inl ⟨by rfl, ?_⟩) ?_ ?_
  rotate_left
  · rintro w'
    go_simp
    with_reducible rfl
  rotate_left
  · simp only [Act.put, List.setIfInBounds_toArray, List.set_cons_zero, List.set_cons_succ]
    rfl
  refine done_ (by kernel_rfl) ?_
  obtain ⟨kD, hbD, _⟩ := HF.out
  have k0' := H0.out.below hbD
  have hb2 := HB.out.trans (hbD.mono HB.out.size)
  rw [hsz] at kD
  generalize (W.alloc _) = W2 at *
  have gD := kD.cell
  have g0 := k0'.cell
  have HB2 := Lib.hid hb2
  clear hb2 hbD kD k0' e0 e1 e2 e3 e4 e5 e6 e7 e8 e9 e10 e11 e12 e13 e14 e15 ea hlt hlt' m0 m1 hcw q0 n0 HF H0 HB hsz hn0 hn1 hn2
  have hkd : ((ds[num].kind == 3) = true ∧ (ds[num].kind == 1) = false ∧ (ds[num].kind == 2) = false ∧ decide (0 ≤ a) = true ∧ (ds[num].kind = 3 ∧ 0 ≤ a)) ∨ ((ds[num].kind == 3) = true ∧ (ds[num].kind == 1) = false ∧ (ds[num].kind == 2) = false ∧ decide (0 ≤ a) = false ∧ (ds[num].kind = 3 ∧ ¬ 0 ≤ a)) ∨
      ((ds[num].kind == 3) = false ∧ (ds[num].kind == 1) = true ∧ ds[num].kind = 1) ∨ ((ds[num].kind == 3) = false ∧ (ds[num].kind == 1) = false ∧ (ds[num].kind == 2) = true ∧ ds[num].kind = 2) ∨ ((ds[num].kind == 3) = false ∧ (ds[num].kind == 1) = false ∧ (ds[num].kind == 2) = false ∧ (ds[num].kind ≠ 3 ∧ ds[num].kind ≠ 1 ∧ ds[num].kind ≠ 2)) := by
    by_cases h3 : ds[num].kind = 3 <;> by_cases ha : 0 ≤ a <;> by_cases h1 : ds[num].kind = 1 <;> by_cases h2 : ds[num].kind = 2 <;> simp [h3, ha, h1, h2] <;> omega
  have hkk : k = 3 ∨ k = 8 ∨ k = 9 ∨ k = 10 ∨ ((k == 3) = false ∧ (k == 8) = false ∧ (k == 9) = false ∧ (k == 10) = false ∧ (k ≠ 3 ∧ k ≠ 8 ∧ k ≠ 9 ∧ k ≠ 10)) := by
    by_cases h3 : k = 3 <;> by_cases h8 : k = 8 <;> by_cases h9 : k = 9 <;> by_cases h10 : k = 10 <;> simp [h3, h8, h9, h10]
  rcases hkd with ⟨q3, q1, q2, qa, hx⟩ | ⟨q3, q1, q2, qa, hx⟩ | ⟨q3, q1, hx⟩ | ⟨q3, q1, q2, hx⟩ | ⟨q3, q1, q2, hx⟩
  all_goals
    have HX := Lib.hid hx
    clear hx
    rcases hkk with rfl | rfl | rfl | rfl | ⟨z3, z8, z9, z10, hz⟩
  any_goals (have HZ := Lib.hid hz; clear hz)
  all_goals
    go_wp2_with fail
    go_quiet (fail)
    go_wp2_with fail
    try (go_quiet (fail); go_wp2_with fail)
  all_goals
    go_ret2
    refine ConstPost.mk ?_ ?_ (by first | exact belowN HB2.out _ | exact belowN (belowN HB2.out _) _)
  all_goals
    rw [HN.out]
    have ho := HO.out
    have hx := HX.out
    try have hz := HZ.out
    first
    | (simp [nameI, constantI, memberI, ctorI, recursorI, withinI, ho, hx, hz]; done)
    | (simp [nameI, constantI, memberI, ctorI, recursorI, withinI, ho, hx]; done)
    | (intro m hm; simp [nameI, constantI, memberI, ctorI, recursorI, withinI, ho, hx] at hm; rw [← hm.2]; simp [wrapEq]; done)
    | (simp [nameI, memberI, ctorI, recursorI, ho, Option.isSome_map, within_close1 _ _ _ hx]; done)
    | (have hn : ¬ (ds[num].kind = 3 ∧ 0 ≤ a) := by intro h; have := hx.2; omega
       simp [nameI, memberI, ctorI, recursorI, ho, within_close2 _ _ _ hn]; done)
end Go.Proofs.YtkedcijfegoflaaDoor
