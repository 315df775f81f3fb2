/- carry: member, ctor, recursor. (Printed by gen_name2.py.) -/
import Derived.Test.YtkedcijfegoflaaDoorName2
namespace Go.Proofs.YtkedcijfegoflaaDoor
set_option linter.unusedSimpArgs false
set_option linter.unusedVariables false
open Go Go.RowKit Go.Proofs.YtkedcijfegoflaaDoorW.PrintLast
theorem wrapEq (x : Int) : IntKind.i64.wrap x = wrap64 x := by rw [IntKind.wrap_i64]; unfold wrap64; rfl

set_option maxRecDepth 100000 in
set_option maxHeartbeats 3000000 in
theorem member_any (ds : List Dc) (ats : List Int) (vd va : Value) (k num a : Int) (A1 A2 : Option Addr) (l1 c1 l2 c2 : Nat) (w : World) (hd : RdDs w vd ds) (ha : RdIs w va ats) :
    Calls Tryd.prog 107 #[.agg #[vd, va], .agg #[.int .i64 k, .int .i64 num, .int .i64 a, .slice A1 l1 c1, .slice A2 l2 c2]] w (Finds w (memberI ds ats num a)) := by
  obtain ⟨Ad, cd, rfl, _⟩ := id hd
  obtain ⟨Aa, ca, rfl, _⟩ := id ha
  obtain ⟨k0, k1, hb, hsz⟩ := blks2 w #[.slice Ad ds.length cd, .slice Aa ats.length ca] #[.int .i64 k, .int .i64 num, .int .i64 a, .slice A1 l1 c1, .slice A2 l2 c2] 76 30
  have HC := Lib.hid (of_any ds ats _ _ k num a A1 A2 l1 c1 l2 c2 _ (hd.below (keeps_of hb)) (ha.below (keeps_of hb)))
  have HB := Lib.hid (And.intro hb (And.intro k1 hsz))
  clear hd ha hb k0 k1 hsz
  cases ho : ofI ds ats num with
  | none =>
    rw [ho] at HC
    have HS := Lib.hid (show memberI ds ats num a = none by unfold memberI; rw [ho])
    clear ho
    go_enter Tryd.func107, Tryd.ntmps107
    go_wp2_with fail
    refine HC.out.mono ?_
    rintro e w1 ⟨rfl, hb1⟩
    refine ⟨rfl, ?_⟩
    unfold Finds
    rw [HS.out]
    exact ⟨rfl, HB.out.1.trans (hb1.mono HB.out.1.size)⟩
  | some p =>
    obtain ⟨d, b⟩ := p
    rw [ho] at HC
    go_enter Tryd.func107, Tryd.ntmps107
    go_wp2_with fail
    refine HC.out.mono ?_
    rintro e w1 ⟨cs, rfl, hr, hb1⟩
    obtain ⟨t0, t1, t2, b0, b1, b2, A3, l3, c3, A4, l4, c4, A5, l5, c5, A6, l6, c6, A7, l7, c7, A8, l8, c8, A9, c9, A10, c10, rfl⟩ := hr.cells
    obtain ⟨kA, hbA, hsA⟩ := blks1 w1 #[.int .i64 d.kind, .int .i64 d.levels, .int .i64 t0, .int .i64 t1, .int .i64 t2, .slice A3 l3 c3, .slice A4 l4 c4, .int .i64 b0, .int .i64 b1, .int .i64 b2, .slice A5 l5 c5, .slice A6 l6 c6, .slice A7 l7 c7, .slice A8 l8 c8, .slice A9 d.members.length c9, .slice A10 d.ctors.length c10] 42
    have HB1 := Lib.hid (HB.out.1.trans ((hb1.trans (hbA.mono hb1.size)).mono HB.out.1.size))
    have hk0 := ((HB.out.2.1.below hb1).below hbA).cell
    have hs1 := hb1.size
    rw [HB.out.2.2] at hs1
    have n0 : w.heap.size + 1 < w1.heap.size := by omega
    have n1 : w1.heap.size < w1.heap.size + 1 := by omega
    have n2 : w.heap.size < w1.heap.size := by omega
    have hml : (d.members.length : Int) = d.members.length := rfl
    have HW := Lib.hid (fun (W : World) (hk : ∀ b o, b < w1.heap.size + 1 → W.cell? ⟨b, o, none⟩ = (w1.alloc (.cells #[.int .i64 d.kind, .int .i64 d.levels, .int .i64 t0, .int .i64 t1, .int .i64 t2, .slice A3 l3 c3, .slice A4 l4 c4, .int .i64 b0, .int .i64 b1, .int .i64 b2, .slice A5 l5 c5, .slice A6 l6 c6, .slice A7 l7 c7, .slice A8 l8 c8, .slice A9 d.members.length c9, .slice A10 d.ctors.length c10] 42)).cell? ⟨b, o, none⟩) =>
      within_any d _ a d.members.length W ((RdD.below (keeps_of (hb1.trans (hbA.mono hb1.size))) hr).below (fun b o hb => hk b o (by rw [← hsA]; exact hb))))
    clear hr hb1 HC hml
    have kA' := kA.cell
    cases hwi : withinI d a d.members.length with
    | none =>
      have HS := Lib.hid (show memberI ds ats num a = none by unfold memberI; rw [ho]; simp only [hwi]; rfl)
      rw [hwi] at HW
      clear ho hwi kA hbA
      go_wp2_with fail
      generalize w1.alloc (.cells #[.int .i64 d.kind, .int .i64 d.levels, .int .i64 t0, .int .i64 t1, .int .i64 t2, .slice A3 l3 c3, .slice A4 l4 c4, .int .i64 b0, .int .i64 b1, .int .i64 b2, .slice A5 l5 c5, .slice A6 l6 c6, .slice A7 l7 c7, .slice A8 l8 c8, .slice A9 d.members.length c9, .slice A10 d.ctors.length c10] 42) = wA at *
      refine (HW.out wA (fun _ _ _ => rfl)).mono ?_
      rintro e w2 ⟨rfl, hb2⟩
      refine ⟨rfl, ?_⟩
      unfold Finds
      rw [HS.out]
      exact ⟨rfl, HB1.out.trans (hb2.mono HB1.out.size)⟩
    | some p =>
      have HS := Lib.hid (show memberI ds ats num a = some (wrap64 (wrap64 (b + 5) + p)) by unfold memberI; rw [ho]; simp only [hwi]; rfl)
      rw [hwi] at HW
      clear ho hwi kA hbA
      go_wp2_with fail
      generalize w1.alloc (.cells #[.int .i64 d.kind, .int .i64 d.levels, .int .i64 t0, .int .i64 t1, .int .i64 t2, .slice A3 l3 c3, .slice A4 l4 c4, .int .i64 b0, .int .i64 b1, .int .i64 b2, .slice A5 l5 c5, .slice A6 l6 c6, .slice A7 l7 c7, .slice A8 l8 c8, .slice A9 d.members.length c9, .slice A10 d.ctors.length c10] 42) = wA at *
      refine (HW.out wA (fun _ _ _ => rfl)).mono ?_
      rintro e w2 ⟨rfl, hb2⟩
      go_wp2
      go_ret
      unfold Finds
      rw [HS.out]
      exact ⟨rfl, HB1.out.trans (hb2.mono HB1.out.size)⟩

set_option maxRecDepth 100000 in
set_option maxHeartbeats 3000000 in
theorem ctor_any (ds : List Dc) (ats : List Int) (vd va : Value) (k num a : Int) (A1 A2 : Option Addr) (l1 c1 l2 c2 : Nat) (w : World) (hd : RdDs w vd ds) (ha : RdIs w va ats) :
    Calls Tryd.prog 108 #[.agg #[vd, va], .agg #[.int .i64 k, .int .i64 num, .int .i64 a, .slice A1 l1 c1, .slice A2 l2 c2]] w (Finds w (ctorI ds ats num a)) := by
  obtain ⟨Ad, cd, rfl, _⟩ := id hd
  obtain ⟨Aa, ca, rfl, _⟩ := id ha
  obtain ⟨k0, k1, hb, hsz⟩ := blks2 w #[.slice Ad ds.length cd, .slice Aa ats.length ca] #[.int .i64 k, .int .i64 num, .int .i64 a, .slice A1 l1 c1, .slice A2 l2 c2] 76 30
  have HC := Lib.hid (of_any ds ats _ _ k num a A1 A2 l1 c1 l2 c2 _ (hd.below (keeps_of hb)) (ha.below (keeps_of hb)))
  have HB := Lib.hid (And.intro hb (And.intro k1 hsz))
  clear hd ha hb k0 k1 hsz
  cases ho : ofI ds ats num with
  | none =>
    rw [ho] at HC
    have HS := Lib.hid (show ctorI ds ats num a = none by unfold ctorI; rw [ho])
    clear ho
    go_enter Tryd.func108, Tryd.ntmps108
    go_wp2_with fail
    refine HC.out.mono ?_
    rintro e w1 ⟨rfl, hb1⟩
    refine ⟨rfl, ?_⟩
    unfold Finds
    rw [HS.out]
    exact ⟨rfl, HB.out.1.trans (hb1.mono HB.out.1.size)⟩
  | some p =>
    obtain ⟨d, b⟩ := p
    rw [ho] at HC
    go_enter Tryd.func108, Tryd.ntmps108
    go_wp2_with fail
    refine HC.out.mono ?_
    rintro e w1 ⟨cs, rfl, hr, hb1⟩
    obtain ⟨t0, t1, t2, b0, b1, b2, A3, l3, c3, A4, l4, c4, A5, l5, c5, A6, l6, c6, A7, l7, c7, A8, l8, c8, A9, c9, A10, c10, rfl⟩ := hr.cells
    obtain ⟨kA, hbA, hsA⟩ := blks1 w1 #[.int .i64 d.kind, .int .i64 d.levels, .int .i64 t0, .int .i64 t1, .int .i64 t2, .slice A3 l3 c3, .slice A4 l4 c4, .int .i64 b0, .int .i64 b1, .int .i64 b2, .slice A5 l5 c5, .slice A6 l6 c6, .slice A7 l7 c7, .slice A8 l8 c8, .slice A9 d.members.length c9, .slice A10 d.ctors.length c10] 42
    have HB1 := Lib.hid (HB.out.1.trans ((hb1.trans (hbA.mono hb1.size)).mono HB.out.1.size))
    have hk0 := ((HB.out.2.1.below hb1).below hbA).cell
    have hs1 := hb1.size
    rw [HB.out.2.2] at hs1
    have n0 : w.heap.size + 1 < w1.heap.size := by omega
    have n1 : w1.heap.size < w1.heap.size + 1 := by omega
    have n2 : w.heap.size < w1.heap.size := by omega
    have hml : (d.members.length : Int) = d.members.length := rfl
    have HW := Lib.hid (fun (W : World) (hk : ∀ b o, b < w1.heap.size + 1 → W.cell? ⟨b, o, none⟩ = (w1.alloc (.cells #[.int .i64 d.kind, .int .i64 d.levels, .int .i64 t0, .int .i64 t1, .int .i64 t2, .slice A3 l3 c3, .slice A4 l4 c4, .int .i64 b0, .int .i64 b1, .int .i64 b2, .slice A5 l5 c5, .slice A6 l6 c6, .slice A7 l7 c7, .slice A8 l8 c8, .slice A9 d.members.length c9, .slice A10 d.ctors.length c10] 42)).cell? ⟨b, o, none⟩) =>
      within_any d _ a d.ctors.length W ((RdD.below (keeps_of (hb1.trans (hbA.mono hb1.size))) hr).below (fun b o hb => hk b o (by rw [← hsA]; exact hb))))
    clear hr hb1 HC hml
    have kA' := kA.cell
    cases hwi : withinI d a d.ctors.length with
    | none =>
      have HS := Lib.hid (show ctorI ds ats num a = none by unfold ctorI; rw [ho]; simp only [hwi]; rfl)
      rw [hwi] at HW
      clear ho hwi kA hbA
      go_wp2_with fail
      generalize w1.alloc (.cells #[.int .i64 d.kind, .int .i64 d.levels, .int .i64 t0, .int .i64 t1, .int .i64 t2, .slice A3 l3 c3, .slice A4 l4 c4, .int .i64 b0, .int .i64 b1, .int .i64 b2, .slice A5 l5 c5, .slice A6 l6 c6, .slice A7 l7 c7, .slice A8 l8 c8, .slice A9 d.members.length c9, .slice A10 d.ctors.length c10] 42) = wA at *
      refine start_ (n := 15) (S := fun W' => ∀ b o, b < w1.heap.size + 1 → W'.cell? ⟨b, o, none⟩ = wA.cell? ⟨b, o, none⟩) (ds := []) #[false, false, false, false, false, false, false, false, false, false, false, false, false, false, false] (by kernel_rfl) rfl rfl (by exact (fun _ _ _ => rfl)) (fun hHeld => ?_)
      refine take_ (i := 0) (N := some 14) (v := ?_) (a' := ?_) #[true, false, false, false, false, false, false, false, false, false, false, false, false, false, false] rfl rfl (by kernel_rfl) (fun _ _ _ h => h) (Or.inl ⟨by rfl, ?_⟩) hHeld ?_ ?_
      rotate_left
      · rintro w' hS'
        go_simp
        with_reducible rfl
      rotate_left
      · simp only [Act.put, List.setIfInBounds_toArray, List.set_cons_zero, List.set_cons_succ]
        rfl
      refine take_ (i := 1) (N := some 15) (v := ?_) (a' := ?_) #[true, true, false, false, false, false, false, false, false, false, false, false, false, false, false] rfl rfl (by kernel_rfl) (fun _ _ _ h => h) (Or.inl ⟨by rfl, ?_⟩) hHeld ?_ ?_
      rotate_left
      · rintro w' hS'
        go_simp
        with_reducible rfl
      rotate_left
      · simp only [Act.put, List.setIfInBounds_toArray, List.set_cons_zero, List.set_cons_succ]
        rfl
      refine take_ (i := 2) (N := some 16) (v := ?_) (a' := ?_) #[true, true, true, false, false, false, false, false, false, false, false, false, false, false, false] rfl rfl (by kernel_rfl) (fun _ _ _ h => h) (Or.inl ⟨by rfl, ?_⟩) hHeld ?_ ?_
      rotate_left
      · rintro w' hS'
        go_simp
        with_reducible rfl
      rotate_left
      · simp only [Act.put, List.setIfInBounds_toArray, List.set_cons_zero, List.set_cons_succ]
        rfl
      refine take_ (i := 3) (N := some 17) (v := ?_) (a' := ?_) #[true, true, true, true, false, false, false, false, false, false, false, false, false, false, false] rfl rfl (by kernel_rfl) (fun _ _ _ h => h) (Or.inl ⟨by rfl, ?_⟩) hHeld ?_ ?_
      rotate_left
      · rintro w' hS'
        go_simp
        with_reducible rfl
      rotate_left
      · simp only [Act.put, List.setIfInBounds_toArray, List.set_cons_zero, List.set_cons_succ]
        rfl
      refine take_ (i := 4) (N := some 18) (v := ?_) (a' := ?_) #[true, true, true, true, true, false, false, false, false, false, false, false, false, false, false] rfl rfl (by kernel_rfl) (fun _ _ _ h => h) (Or.inl ⟨by rfl, ?_⟩) hHeld ?_ ?_
      rotate_left
      · rintro w' hS'
        go_simp
        with_reducible rfl
      rotate_left
      · simp only [Act.put, List.setIfInBounds_toArray, List.set_cons_zero, List.set_cons_succ]
        rfl
      refine take_ (i := 5) (N := some 19) (v := ?_) (a' := ?_) #[true, true, true, true, true, true, false, false, false, false, false, false, false, false, false] rfl rfl (by kernel_rfl) (fun _ _ _ h => h) (Or.inl ⟨by rfl, ?_⟩) hHeld ?_ ?_
      rotate_left
      · rintro w' hS'
        go_simp
        with_reducible rfl
      rotate_left
      · simp only [Act.put, List.setIfInBounds_toArray, List.set_cons_zero, List.set_cons_succ]
        rfl
      refine take_ (i := 6) (N := some 20) (v := ?_) (a' := ?_) #[true, true, true, true, true, true, true, false, false, false, false, false, false, false, false] rfl rfl (by kernel_rfl) (fun _ _ _ h => h) (Or.inl ⟨by rfl, ?_⟩) hHeld ?_ ?_
      rotate_left
      · rintro w' hS'
        go_simp
        with_reducible rfl
      rotate_left
      · simp only [Act.put, List.setIfInBounds_toArray, List.set_cons_zero, List.set_cons_succ]
        rfl
      refine take_ (i := 7) (N := some 21) (v := ?_) (a' := ?_) #[true, true, true, true, true, true, true, true, false, false, false, false, false, false, false] rfl rfl (by kernel_rfl) (fun _ _ _ h => h) (Or.inl ⟨by rfl, ?_⟩) hHeld ?_ ?_
      rotate_left
      · rintro w' hS'
        go_simp
        with_reducible rfl
      rotate_left
      · simp only [Act.put, List.setIfInBounds_toArray, List.set_cons_zero, List.set_cons_succ]
        rfl
      refine take_ (i := 8) (N := some 22) (v := ?_) (a' := ?_) #[true, true, true, true, true, true, true, true, true, false, false, false, false, false, false] rfl rfl (by kernel_rfl) (fun _ _ _ h => h) (Or.inl ⟨by rfl, ?_⟩) hHeld ?_ ?_
      rotate_left
      · rintro w' hS'
        go_simp
        with_reducible rfl
      rotate_left
      · simp only [Act.put, List.setIfInBounds_toArray, List.set_cons_zero, List.set_cons_succ]
        rfl
      refine take_ (i := 9) (N := some 23) (v := ?_) (a' := ?_) #[true, true, true, true, true, true, true, true, true, true, false, false, false, false, false] rfl rfl (by kernel_rfl) (fun _ _ _ h => h) (Or.inl ⟨by rfl, ?_⟩) hHeld ?_ ?_
      rotate_left
      · rintro w' hS'
        go_simp
        with_reducible rfl
      rotate_left
      · simp only [Act.put, List.setIfInBounds_toArray, List.set_cons_zero, List.set_cons_succ]
        rfl
      refine take_ (i := 10) (N := some 24) (v := ?_) (a' := ?_) #[true, true, true, true, true, true, true, true, true, true, true, false, false, false, false] rfl rfl (by kernel_rfl) (fun _ _ _ h => h) (Or.inl ⟨by rfl, ?_⟩) hHeld ?_ ?_
      rotate_left
      · rintro w' hS'
        go_simp
        with_reducible rfl
      rotate_left
      · simp only [Act.put, List.setIfInBounds_toArray, List.set_cons_zero, List.set_cons_succ]
        rfl
      refine take_ (i := 11) (N := some 25) (v := ?_) (a' := ?_) #[true, true, true, true, true, true, true, true, true, true, true, true, false, false, false] rfl rfl (by kernel_rfl) (fun _ _ _ h => h) (Or.inl ⟨by rfl, ?_⟩) hHeld ?_ ?_
      rotate_left
      · rintro w' hS'
        go_simp
        with_reducible rfl
      rotate_left
      · simp only [Act.put, List.setIfInBounds_toArray, List.set_cons_zero, List.set_cons_succ]
        rfl
      refine one_ (i := 12) (N := some 26) #[true, true, true, true, true, true, true, true, true, true, true, true, true, false, false] rfl rfl (by kernel_rfl) (by decide) (fun K hK => ?_)
      go_simp
      refine (HW.out _ hHeld).mono ?_
      rintro e w2 ⟨rfl, hb2⟩
      refine ⟨rfl, ?_⟩
      unfold Finds
      rw [HS.out]
      exact ⟨rfl, HB1.out.trans ((undrew hb2).mono HB1.out.size)⟩
    | some p =>
      have HS := Lib.hid (show ctorI ds ats num a = some (wrap64 (wrap64 (wrap64 (b + 5) + d.members.length) + p)) by unfold ctorI; rw [ho]; simp only [hwi]; rfl)
      rw [hwi] at HW
      clear ho hwi kA hbA
      go_wp2_with fail
      generalize w1.alloc (.cells #[.int .i64 d.kind, .int .i64 d.levels, .int .i64 t0, .int .i64 t1, .int .i64 t2, .slice A3 l3 c3, .slice A4 l4 c4, .int .i64 b0, .int .i64 b1, .int .i64 b2, .slice A5 l5 c5, .slice A6 l6 c6, .slice A7 l7 c7, .slice A8 l8 c8, .slice A9 d.members.length c9, .slice A10 d.ctors.length c10] 42) = wA at *
      refine start_ (n := 15) (S := fun W' => ∀ b o, b < w1.heap.size + 1 → W'.cell? ⟨b, o, none⟩ = wA.cell? ⟨b, o, none⟩) (ds := []) #[false, false, false, false, false, false, false, false, false, false, false, false, false, false, false] (by kernel_rfl) rfl rfl (by exact (fun _ _ _ => rfl)) (fun hHeld => ?_)
      refine take_ (i := 0) (N := some 14) (v := ?_) (a' := ?_) #[true, false, false, false, false, false, false, false, false, false, false, false, false, false, false] rfl rfl (by kernel_rfl) (fun _ _ _ h => h) (Or.inl ⟨by rfl, ?_⟩) hHeld ?_ ?_
      rotate_left
      · rintro w' hS'
        go_simp
        with_reducible rfl
      rotate_left
      · simp only [Act.put, List.setIfInBounds_toArray, List.set_cons_zero, List.set_cons_succ]
        rfl
      refine take_ (i := 1) (N := some 15) (v := ?_) (a' := ?_) #[true, true, false, false, false, false, false, false, false, false, false, false, false, false, false] rfl rfl (by kernel_rfl) (fun _ _ _ h => h) (Or.inl ⟨by rfl, ?_⟩) hHeld ?_ ?_
      rotate_left
      · rintro w' hS'
        go_simp
        with_reducible rfl
      rotate_left
      · simp only [Act.put, List.setIfInBounds_toArray, List.set_cons_zero, List.set_cons_succ]
        rfl
      refine take_ (i := 2) (N := some 16) (v := ?_) (a' := ?_) #[true, true, true, false, false, false, false, false, false, false, false, false, false, false, false] rfl rfl (by kernel_rfl) (fun _ _ _ h => h) (Or.inl ⟨by rfl, ?_⟩) hHeld ?_ ?_
      rotate_left
      · rintro w' hS'
        go_simp
        with_reducible rfl
      rotate_left
      · simp only [Act.put, List.setIfInBounds_toArray, List.set_cons_zero, List.set_cons_succ]
        rfl
      refine take_ (i := 3) (N := some 17) (v := ?_) (a' := ?_) #[true, true, true, true, false, false, false, false, false, false, false, false, false, false, false] rfl rfl (by kernel_rfl) (fun _ _ _ h => h) (Or.inl ⟨by rfl, ?_⟩) hHeld ?_ ?_
      rotate_left
      · rintro w' hS'
        go_simp
        with_reducible rfl
      rotate_left
      · simp only [Act.put, List.setIfInBounds_toArray, List.set_cons_zero, List.set_cons_succ]
        rfl
      refine take_ (i := 4) (N := some 18) (v := ?_) (a' := ?_) #[true, true, true, true, true, false, false, false, false, false, false, false, false, false, false] rfl rfl (by kernel_rfl) (fun _ _ _ h => h) (Or.inl ⟨by rfl, ?_⟩) hHeld ?_ ?_
      rotate_left
      · rintro w' hS'
        go_simp
        with_reducible rfl
      rotate_left
      · simp only [Act.put, List.setIfInBounds_toArray, List.set_cons_zero, List.set_cons_succ]
        rfl
      refine take_ (i := 5) (N := some 19) (v := ?_) (a' := ?_) #[true, true, true, true, true, true, false, false, false, false, false, false, false, false, false] rfl rfl (by kernel_rfl) (fun _ _ _ h => h) (Or.inl ⟨by rfl, ?_⟩) hHeld ?_ ?_
      rotate_left
      · rintro w' hS'
        go_simp
        with_reducible rfl
      rotate_left
      · simp only [Act.put, List.setIfInBounds_toArray, List.set_cons_zero, List.set_cons_succ]
        rfl
      refine take_ (i := 6) (N := some 20) (v := ?_) (a' := ?_) #[true, true, true, true, true, true, true, false, false, false, false, false, false, false, false] rfl rfl (by kernel_rfl) (fun _ _ _ h => h) (Or.inl ⟨by rfl, ?_⟩) hHeld ?_ ?_
      rotate_left
      · rintro w' hS'
        go_simp
        with_reducible rfl
      rotate_left
      · simp only [Act.put, List.setIfInBounds_toArray, List.set_cons_zero, List.set_cons_succ]
        rfl
      refine take_ (i := 7) (N := some 21) (v := ?_) (a' := ?_) #[true, true, true, true, true, true, true, true, false, false, false, false, false, false, false] rfl rfl (by kernel_rfl) (fun _ _ _ h => h) (Or.inl ⟨by rfl, ?_⟩) hHeld ?_ ?_
      rotate_left
      · rintro w' hS'
        go_simp
        with_reducible rfl
      rotate_left
      · simp only [Act.put, List.setIfInBounds_toArray, List.set_cons_zero, List.set_cons_succ]
        rfl
      refine take_ (i := 8) (N := some 22) (v := ?_) (a' := ?_) #[true, true, true, true, true, true, true, true, true, false, false, false, false, false, false] rfl rfl (by kernel_rfl) (fun _ _ _ h => h) (Or.inl ⟨by rfl, ?_⟩) hHeld ?_ ?_
      rotate_left
      · rintro w' hS'
        go_simp
        with_reducible rfl
      rotate_left
      · simp only [Act.put, List.setIfInBounds_toArray, List.set_cons_zero, List.set_cons_succ]
        rfl
      refine take_ (i := 9) (N := some 23) (v := ?_) (a' := ?_) #[true, true, true, true, true, true, true, true, true, true, false, false, false, false, false] rfl rfl (by kernel_rfl) (fun _ _ _ h => h) (Or.inl ⟨by rfl, ?_⟩) hHeld ?_ ?_
      rotate_left
      · rintro w' hS'
        go_simp
        with_reducible rfl
      rotate_left
      · simp only [Act.put, List.setIfInBounds_toArray, List.set_cons_zero, List.set_cons_succ]
        rfl
      refine take_ (i := 10) (N := some 24) (v := ?_) (a' := ?_) #[true, true, true, true, true, true, true, true, true, true, true, false, false, false, false] rfl rfl (by kernel_rfl) (fun _ _ _ h => h) (Or.inl ⟨by rfl, ?_⟩) hHeld ?_ ?_
      rotate_left
      · rintro w' hS'
        go_simp
        with_reducible rfl
      rotate_left
      · simp only [Act.put, List.setIfInBounds_toArray, List.set_cons_zero, List.set_cons_succ]
        rfl
      refine take_ (i := 11) (N := some 25) (v := ?_) (a' := ?_) #[true, true, true, true, true, true, true, true, true, true, true, true, false, false, false] rfl rfl (by kernel_rfl) (fun _ _ _ h => h) (Or.inl ⟨by rfl, ?_⟩) hHeld ?_ ?_
      rotate_left
      · rintro w' hS'
        go_simp
        with_reducible rfl
      rotate_left
      · simp only [Act.put, List.setIfInBounds_toArray, List.set_cons_zero, List.set_cons_succ]
        rfl
      refine one_ (i := 12) (N := some 26) #[true, true, true, true, true, true, true, true, true, true, true, true, true, false, false] rfl rfl (by kernel_rfl) (by decide) (fun K hK => ?_)
      go_simp
      refine (HW.out _ hHeld).mono ?_
      rintro e w2 ⟨rfl, hb2⟩
      have HB2 := Lib.hid (undrew hb2)
      clear hb2
      refine hK.out _ _ (fun b o h => keeps_of HB2.out b o (by rw [hsA]; exact h)) (fun hHeld => ?_)
      clear hK K
      refine norm_ (a' := ?_) ?_ ?_
      rotate_left
      · first
          | rfl
          | (simp only [Act.put, List.setIfInBounds_toArray, List.set_cons_zero, List.set_cons_succ]; rfl)
      refine take_ (i := 13) (N := some 27) (v := ?_) (a' := ?_) #[true, true, true, true, true, true, true, true, true, true, true, true, true, true, false] rfl rfl (by kernel_rfl) (fun _ _ _ h => h) (Or.inl ⟨by rfl, ?_⟩) hHeld ?_ ?_
      rotate_left
      · rintro w' hS'
        go_simp
        with_reducible rfl
      rotate_left
      · simp only [Act.put, List.setIfInBounds_toArray, List.set_cons_zero, List.set_cons_succ]
        rfl
      refine take_ (i := 14) (N := some 4) (v := ?_) (a' := ?_) #[true, true, true, true, true, true, true, true, true, true, true, true, true, true, true] rfl rfl (by kernel_rfl) (fun _ _ _ h => h) (Or.inl ⟨by rfl, ?_⟩) hHeld ?_ ?_
      rotate_left
      · rintro w' hS'
        go_simp
        with_reducible rfl
      rotate_left
      · simp only [Act.put, List.setIfInBounds_toArray, List.set_cons_zero, List.set_cons_succ]
        rfl
      refine done_ (by kernel_rfl) ?_
      go_wp2
      go_ret
      unfold Finds
      rw [HS.out]
      exact ⟨ret_int (by simp [wrapEq]), HB1.out.trans (HB2.out.mono HB1.out.size)⟩

set_option maxRecDepth 100000 in
set_option maxHeartbeats 3000000 in
theorem recursor_any (ds : List Dc) (ats : List Int) (vd va : Value) (k num a : Int) (A1 A2 : Option Addr) (l1 c1 l2 c2 : Nat) (w : World) (hd : RdDs w vd ds) (ha : RdIs w va ats) :
    Calls Tryd.prog 109 #[.agg #[vd, va], .agg #[.int .i64 k, .int .i64 num, .int .i64 a, .slice A1 l1 c1, .slice A2 l2 c2]] w (Finds w (recursorI ds ats num a)) := by
  obtain ⟨Ad, cd, rfl, _⟩ := id hd
  obtain ⟨Aa, ca, rfl, _⟩ := id ha
  obtain ⟨k0, k1, hb, hsz⟩ := blks2 w #[.slice Ad ds.length cd, .slice Aa ats.length ca] #[.int .i64 k, .int .i64 num, .int .i64 a, .slice A1 l1 c1, .slice A2 l2 c2] 76 30
  have HC := Lib.hid (of_any ds ats _ _ k num a A1 A2 l1 c1 l2 c2 _ (hd.below (keeps_of hb)) (ha.below (keeps_of hb)))
  have HB := Lib.hid (And.intro hb (And.intro k1 hsz))
  clear hd ha hb k0 k1 hsz
  cases ho : ofI ds ats num with
  | none =>
    rw [ho] at HC
    have HS := Lib.hid (show recursorI ds ats num a = none by unfold recursorI; rw [ho])
    clear ho
    go_enter Tryd.func109, Tryd.ntmps109
    go_wp2_with fail
    refine HC.out.mono ?_
    rintro e w1 ⟨rfl, hb1⟩
    refine ⟨rfl, ?_⟩
    unfold Finds
    rw [HS.out]
    exact ⟨rfl, HB.out.1.trans (hb1.mono HB.out.1.size)⟩
  | some p =>
    obtain ⟨d, b⟩ := p
    rw [ho] at HC
    go_enter Tryd.func109, Tryd.ntmps109
    go_wp2_with fail
    refine HC.out.mono ?_
    rintro e w1 ⟨cs, rfl, hr, hb1⟩
    obtain ⟨t0, t1, t2, b0, b1, b2, A3, l3, c3, A4, l4, c4, A5, l5, c5, A6, l6, c6, A7, l7, c7, A8, l8, c8, A9, c9, A10, c10, rfl⟩ := hr.cells
    obtain ⟨kA, hbA, hsA⟩ := blks1 w1 #[.int .i64 d.kind, .int .i64 d.levels, .int .i64 t0, .int .i64 t1, .int .i64 t2, .slice A3 l3 c3, .slice A4 l4 c4, .int .i64 b0, .int .i64 b1, .int .i64 b2, .slice A5 l5 c5, .slice A6 l6 c6, .slice A7 l7 c7, .slice A8 l8 c8, .slice A9 d.members.length c9, .slice A10 d.ctors.length c10] 42
    have HB1 := Lib.hid (HB.out.1.trans ((hb1.trans (hbA.mono hb1.size)).mono HB.out.1.size))
    have hk0 := ((HB.out.2.1.below hb1).below hbA).cell
    have hs1 := hb1.size
    rw [HB.out.2.2] at hs1
    have n0 : w.heap.size + 1 < w1.heap.size := by omega
    have n1 : w1.heap.size < w1.heap.size + 1 := by omega
    have n2 : w.heap.size < w1.heap.size := by omega
    have hml : (d.members.length : Int) = d.members.length := rfl
    have HW := Lib.hid (fun (W : World) (hk : ∀ b o, b < w1.heap.size + 1 → W.cell? ⟨b, o, none⟩ = (w1.alloc (.cells #[.int .i64 d.kind, .int .i64 d.levels, .int .i64 t0, .int .i64 t1, .int .i64 t2, .slice A3 l3 c3, .slice A4 l4 c4, .int .i64 b0, .int .i64 b1, .int .i64 b2, .slice A5 l5 c5, .slice A6 l6 c6, .slice A7 l7 c7, .slice A8 l8 c8, .slice A9 d.members.length c9, .slice A10 d.ctors.length c10] 42)).cell? ⟨b, o, none⟩) =>
      within_any d _ a d.members.length W ((RdD.below (keeps_of (hb1.trans (hbA.mono hb1.size))) hr).below (fun b o hb => hk b o (by rw [← hsA]; exact hb))))
    clear hr hb1 HC hml
    have kA' := kA.cell
    cases hwi : withinI d a d.members.length with
    | none =>
      have HS := Lib.hid (show recursorI ds ats num a = none by unfold recursorI; rw [ho]; simp only [hwi]; rfl)
      rw [hwi] at HW
      clear ho hwi kA hbA
      go_wp2_with fail
      generalize w1.alloc (.cells #[.int .i64 d.kind, .int .i64 d.levels, .int .i64 t0, .int .i64 t1, .int .i64 t2, .slice A3 l3 c3, .slice A4 l4 c4, .int .i64 b0, .int .i64 b1, .int .i64 b2, .slice A5 l5 c5, .slice A6 l6 c6, .slice A7 l7 c7, .slice A8 l8 c8, .slice A9 d.members.length c9, .slice A10 d.ctors.length c10] 42) = wA at *
      refine start_ (n := 19) (S := fun W' => ∀ b o, b < w1.heap.size + 1 → W'.cell? ⟨b, o, none⟩ = wA.cell? ⟨b, o, none⟩) (ds := []) #[false, false, false, false, false, false, false, false, false, false, false, false, false, false, false, false, false, false, false] (by kernel_rfl) rfl rfl (by exact (fun _ _ _ => rfl)) (fun hHeld => ?_)
      refine take_ (i := 0) (N := some 14) (v := ?_) (a' := ?_) #[true, false, false, false, false, false, false, false, false, false, false, false, false, false, false, false, false, false, false] rfl rfl (by kernel_rfl) (fun _ _ _ h => h) (Or.inl ⟨by rfl, ?_⟩) hHeld ?_ ?_
      rotate_left
      · rintro w' hS'
        go_simp
        with_reducible rfl
      rotate_left
      · simp only [Act.put, List.setIfInBounds_toArray, List.set_cons_zero, List.set_cons_succ]
        rfl
      refine take_ (i := 1) (N := some 15) (v := ?_) (a' := ?_) #[true, true, false, false, false, false, false, false, false, false, false, false, false, false, false, false, false, false, false] rfl rfl (by kernel_rfl) (fun _ _ _ h => h) (Or.inl ⟨by rfl, ?_⟩) hHeld ?_ ?_
      rotate_left
      · rintro w' hS'
        go_simp
        with_reducible rfl
      rotate_left
      · simp only [Act.put, List.setIfInBounds_toArray, List.set_cons_zero, List.set_cons_succ]
        rfl
      refine take_ (i := 2) (N := some 16) (v := ?_) (a' := ?_) #[true, true, true, false, false, false, false, false, false, false, false, false, false, false, false, false, false, false, false] rfl rfl (by kernel_rfl) (fun _ _ _ h => h) (Or.inl ⟨by rfl, ?_⟩) hHeld ?_ ?_
      rotate_left
      · rintro w' hS'
        go_simp
        with_reducible rfl
      rotate_left
      · simp only [Act.put, List.setIfInBounds_toArray, List.set_cons_zero, List.set_cons_succ]
        rfl
      refine take_ (i := 3) (N := some 17) (v := ?_) (a' := ?_) #[true, true, true, true, false, false, false, false, false, false, false, false, false, false, false, false, false, false, false] rfl rfl (by kernel_rfl) (fun _ _ _ h => h) (Or.inl ⟨by rfl, ?_⟩) hHeld ?_ ?_
      rotate_left
      · rintro w' hS'
        go_simp
        with_reducible rfl
      rotate_left
      · simp only [Act.put, List.setIfInBounds_toArray, List.set_cons_zero, List.set_cons_succ]
        rfl
      refine take_ (i := 4) (N := some 18) (v := ?_) (a' := ?_) #[true, true, true, true, true, false, false, false, false, false, false, false, false, false, false, false, false, false, false] rfl rfl (by kernel_rfl) (fun _ _ _ h => h) (Or.inl ⟨by rfl, ?_⟩) hHeld ?_ ?_
      rotate_left
      · rintro w' hS'
        go_simp
        with_reducible rfl
      rotate_left
      · simp only [Act.put, List.setIfInBounds_toArray, List.set_cons_zero, List.set_cons_succ]
        rfl
      refine take_ (i := 5) (N := some 19) (v := ?_) (a' := ?_) #[true, true, true, true, true, true, false, false, false, false, false, false, false, false, false, false, false, false, false] rfl rfl (by kernel_rfl) (fun _ _ _ h => h) (Or.inl ⟨by rfl, ?_⟩) hHeld ?_ ?_
      rotate_left
      · rintro w' hS'
        go_simp
        with_reducible rfl
      rotate_left
      · simp only [Act.put, List.setIfInBounds_toArray, List.set_cons_zero, List.set_cons_succ]
        rfl
      refine take_ (i := 6) (N := some 20) (v := ?_) (a' := ?_) #[true, true, true, true, true, true, true, false, false, false, false, false, false, false, false, false, false, false, false] rfl rfl (by kernel_rfl) (fun _ _ _ h => h) (Or.inl ⟨by rfl, ?_⟩) hHeld ?_ ?_
      rotate_left
      · rintro w' hS'
        go_simp
        with_reducible rfl
      rotate_left
      · simp only [Act.put, List.setIfInBounds_toArray, List.set_cons_zero, List.set_cons_succ]
        rfl
      refine take_ (i := 7) (N := some 21) (v := ?_) (a' := ?_) #[true, true, true, true, true, true, true, true, false, false, false, false, false, false, false, false, false, false, false] rfl rfl (by kernel_rfl) (fun _ _ _ h => h) (Or.inl ⟨by rfl, ?_⟩) hHeld ?_ ?_
      rotate_left
      · rintro w' hS'
        go_simp
        with_reducible rfl
      rotate_left
      · simp only [Act.put, List.setIfInBounds_toArray, List.set_cons_zero, List.set_cons_succ]
        rfl
      refine take_ (i := 8) (N := some 22) (v := ?_) (a' := ?_) #[true, true, true, true, true, true, true, true, true, false, false, false, false, false, false, false, false, false, false] rfl rfl (by kernel_rfl) (fun _ _ _ h => h) (Or.inl ⟨by rfl, ?_⟩) hHeld ?_ ?_
      rotate_left
      · rintro w' hS'
        go_simp
        with_reducible rfl
      rotate_left
      · simp only [Act.put, List.setIfInBounds_toArray, List.set_cons_zero, List.set_cons_succ]
        rfl
      refine take_ (i := 9) (N := some 23) (v := ?_) (a' := ?_) #[true, true, true, true, true, true, true, true, true, true, false, false, false, false, false, false, false, false, false] rfl rfl (by kernel_rfl) (fun _ _ _ h => h) (Or.inl ⟨by rfl, ?_⟩) hHeld ?_ ?_
      rotate_left
      · rintro w' hS'
        go_simp
        with_reducible rfl
      rotate_left
      · simp only [Act.put, List.setIfInBounds_toArray, List.set_cons_zero, List.set_cons_succ]
        rfl
      refine take_ (i := 10) (N := some 24) (v := ?_) (a' := ?_) #[true, true, true, true, true, true, true, true, true, true, true, false, false, false, false, false, false, false, false] rfl rfl (by kernel_rfl) (fun _ _ _ h => h) (Or.inl ⟨by rfl, ?_⟩) hHeld ?_ ?_
      rotate_left
      · rintro w' hS'
        go_simp
        with_reducible rfl
      rotate_left
      · simp only [Act.put, List.setIfInBounds_toArray, List.set_cons_zero, List.set_cons_succ]
        rfl
      refine take_ (i := 11) (N := some 25) (v := ?_) (a' := ?_) #[true, true, true, true, true, true, true, true, true, true, true, true, false, false, false, false, false, false, false] rfl rfl (by kernel_rfl) (fun _ _ _ h => h) (Or.inl ⟨by rfl, ?_⟩) hHeld ?_ ?_
      rotate_left
      · rintro w' hS'
        go_simp
        with_reducible rfl
      rotate_left
      · simp only [Act.put, List.setIfInBounds_toArray, List.set_cons_zero, List.set_cons_succ]
        rfl
      refine take_ (i := 12) (N := some 26) (v := ?_) (a' := ?_) #[true, true, true, true, true, true, true, true, true, true, true, true, true, false, false, false, false, false, false] rfl rfl (by kernel_rfl) (fun _ _ _ h => h) (Or.inl ⟨by rfl, ?_⟩) hHeld ?_ ?_
      rotate_left
      · rintro w' hS'
        go_simp
        with_reducible rfl
      rotate_left
      · simp only [Act.put, List.setIfInBounds_toArray, List.set_cons_zero, List.set_cons_succ]
        rfl
      refine take_ (i := 13) (N := some 27) (v := ?_) (a' := ?_) #[true, true, true, true, true, true, true, true, true, true, true, true, true, true, false, false, false, false, false] rfl rfl (by kernel_rfl) (fun _ _ _ h => h) (Or.inl ⟨by rfl, ?_⟩) hHeld ?_ ?_
      rotate_left
      · rintro w' hS'
        go_simp
        with_reducible rfl
      rotate_left
      · simp only [Act.put, List.setIfInBounds_toArray, List.set_cons_zero, List.set_cons_succ]
        rfl
      refine take_ (i := 14) (N := some 28) (v := ?_) (a' := ?_) #[true, true, true, true, true, true, true, true, true, true, true, true, true, true, true, false, false, false, false] rfl rfl (by kernel_rfl) (fun _ _ _ h => h) (Or.inl ⟨by rfl, ?_⟩) hHeld ?_ ?_
      rotate_left
      · rintro w' hS'
        go_simp
        with_reducible rfl
      rotate_left
      · simp only [Act.put, List.setIfInBounds_toArray, List.set_cons_zero, List.set_cons_succ]
        rfl
      refine take_ (i := 15) (N := some 29) (v := ?_) (a' := ?_) #[true, true, true, true, true, true, true, true, true, true, true, true, true, true, true, true, false, false, false] rfl rfl (by kernel_rfl) (fun _ _ _ h => h) (Or.inl ⟨by rfl, ?_⟩) hHeld ?_ ?_
      rotate_left
      · rintro w' hS'
        go_simp
        with_reducible rfl
      rotate_left
      · simp only [Act.put, List.setIfInBounds_toArray, List.set_cons_zero, List.set_cons_succ]
        rfl
      refine one_ (i := 16) (N := some 30) #[true, true, true, true, true, true, true, true, true, true, true, true, true, true, true, true, true, false, false] rfl rfl (by kernel_rfl) (by decide) (fun K hK => ?_)
      go_simp
      refine (HW.out _ hHeld).mono ?_
      rintro e w2 ⟨rfl, hb2⟩
      refine ⟨rfl, ?_⟩
      unfold Finds
      rw [HS.out]
      exact ⟨rfl, HB1.out.trans ((undrew hb2).mono HB1.out.size)⟩
    | some p =>
      have HS := Lib.hid (show recursorI ds ats num a = some (wrap64 (wrap64 (wrap64 (wrap64 (b + 6) + d.members.length) + d.ctors.length) + p)) by unfold recursorI; rw [ho]; simp only [hwi]; rfl)
      rw [hwi] at HW
      clear ho hwi kA hbA
      go_wp2_with fail
      generalize w1.alloc (.cells #[.int .i64 d.kind, .int .i64 d.levels, .int .i64 t0, .int .i64 t1, .int .i64 t2, .slice A3 l3 c3, .slice A4 l4 c4, .int .i64 b0, .int .i64 b1, .int .i64 b2, .slice A5 l5 c5, .slice A6 l6 c6, .slice A7 l7 c7, .slice A8 l8 c8, .slice A9 d.members.length c9, .slice A10 d.ctors.length c10] 42) = wA at *
      refine start_ (n := 19) (S := fun W' => ∀ b o, b < w1.heap.size + 1 → W'.cell? ⟨b, o, none⟩ = wA.cell? ⟨b, o, none⟩) (ds := []) #[false, false, false, false, false, false, false, false, false, false, false, false, false, false, false, false, false, false, false] (by kernel_rfl) rfl rfl (by exact (fun _ _ _ => rfl)) (fun hHeld => ?_)
      refine take_ (i := 0) (N := some 14) (v := ?_) (a' := ?_) #[true, false, false, false, false, false, false, false, false, false, false, false, false, false, false, false, false, false, false] rfl rfl (by kernel_rfl) (fun _ _ _ h => h) (Or.inl ⟨by rfl, ?_⟩) hHeld ?_ ?_
      rotate_left
      · rintro w' hS'
        go_simp
        with_reducible rfl
      rotate_left
      · simp only [Act.put, List.setIfInBounds_toArray, List.set_cons_zero, List.set_cons_succ]
        rfl
      refine take_ (i := 1) (N := some 15) (v := ?_) (a' := ?_) #[true, true, false, false, false, false, false, false, false, false, false, false, false, false, false, false, false, false, false] rfl rfl (by kernel_rfl) (fun _ _ _ h => h) (Or.inl ⟨by rfl, ?_⟩) hHeld ?_ ?_
      rotate_left
      · rintro w' hS'
        go_simp
        with_reducible rfl
      rotate_left
      · simp only [Act.put, List.setIfInBounds_toArray, List.set_cons_zero, List.set_cons_succ]
        rfl
      refine take_ (i := 2) (N := some 16) (v := ?_) (a' := ?_) #[true, true, true, false, false, false, false, false, false, false, false, false, false, false, false, false, false, false, false] rfl rfl (by kernel_rfl) (fun _ _ _ h => h) (Or.inl ⟨by rfl, ?_⟩) hHeld ?_ ?_
      rotate_left
      · rintro w' hS'
        go_simp
        with_reducible rfl
      rotate_left
      · simp only [Act.put, List.setIfInBounds_toArray, List.set_cons_zero, List.set_cons_succ]
        rfl
      refine take_ (i := 3) (N := some 17) (v := ?_) (a' := ?_) #[true, true, true, true, false, false, false, false, false, false, false, false, false, false, false, false, false, false, false] rfl rfl (by kernel_rfl) (fun _ _ _ h => h) (Or.inl ⟨by rfl, ?_⟩) hHeld ?_ ?_
      rotate_left
      · rintro w' hS'
        go_simp
        with_reducible rfl
      rotate_left
      · simp only [Act.put, List.setIfInBounds_toArray, List.set_cons_zero, List.set_cons_succ]
        rfl
      refine take_ (i := 4) (N := some 18) (v := ?_) (a' := ?_) #[true, true, true, true, true, false, false, false, false, false, false, false, false, false, false, false, false, false, false] rfl rfl (by kernel_rfl) (fun _ _ _ h => h) (Or.inl ⟨by rfl, ?_⟩) hHeld ?_ ?_
      rotate_left
      · rintro w' hS'
        go_simp
        with_reducible rfl
      rotate_left
      · simp only [Act.put, List.setIfInBounds_toArray, List.set_cons_zero, List.set_cons_succ]
        rfl
      refine take_ (i := 5) (N := some 19) (v := ?_) (a' := ?_) #[true, true, true, true, true, true, false, false, false, false, false, false, false, false, false, false, false, false, false] rfl rfl (by kernel_rfl) (fun _ _ _ h => h) (Or.inl ⟨by rfl, ?_⟩) hHeld ?_ ?_
      rotate_left
      · rintro w' hS'
        go_simp
        with_reducible rfl
      rotate_left
      · simp only [Act.put, List.setIfInBounds_toArray, List.set_cons_zero, List.set_cons_succ]
        rfl
      refine take_ (i := 6) (N := some 20) (v := ?_) (a' := ?_) #[true, true, true, true, true, true, true, false, false, false, false, false, false, false, false, false, false, false, false] rfl rfl (by kernel_rfl) (fun _ _ _ h => h) (Or.inl ⟨by rfl, ?_⟩) hHeld ?_ ?_
      rotate_left
      · rintro w' hS'
        go_simp
        with_reducible rfl
      rotate_left
      · simp only [Act.put, List.setIfInBounds_toArray, List.set_cons_zero, List.set_cons_succ]
        rfl
      refine take_ (i := 7) (N := some 21) (v := ?_) (a' := ?_) #[true, true, true, true, true, true, true, true, false, false, false, false, false, false, false, false, false, false, false] rfl rfl (by kernel_rfl) (fun _ _ _ h => h) (Or.inl ⟨by rfl, ?_⟩) hHeld ?_ ?_
      rotate_left
      · rintro w' hS'
        go_simp
        with_reducible rfl
      rotate_left
      · simp only [Act.put, List.setIfInBounds_toArray, List.set_cons_zero, List.set_cons_succ]
        rfl
      refine take_ (i := 8) (N := some 22) (v := ?_) (a' := ?_) #[true, true, true, true, true, true, true, true, true, false, false, false, false, false, false, false, false, false, false] rfl rfl (by kernel_rfl) (fun _ _ _ h => h) (Or.inl ⟨by rfl, ?_⟩) hHeld ?_ ?_
      rotate_left
      · rintro w' hS'
        go_simp
        with_reducible rfl
      rotate_left
      · simp only [Act.put, List.setIfInBounds_toArray, List.set_cons_zero, List.set_cons_succ]
        rfl
      refine take_ (i := 9) (N := some 23) (v := ?_) (a' := ?_) #[true, true, true, true, true, true, true, true, true, true, false, false, false, false, false, false, false, false, false] rfl rfl (by kernel_rfl) (fun _ _ _ h => h) (Or.inl ⟨by rfl, ?_⟩) hHeld ?_ ?_
      rotate_left
      · rintro w' hS'
        go_simp
        with_reducible rfl
      rotate_left
      · simp only [Act.put, List.setIfInBounds_toArray, List.set_cons_zero, List.set_cons_succ]
        rfl
      refine take_ (i := 10) (N := some 24) (v := ?_) (a' := ?_) #[true, true, true, true, true, true, true, true, true, true, true, false, false, false, false, false, false, false, false] rfl rfl (by kernel_rfl) (fun _ _ _ h => h) (Or.inl ⟨by rfl, ?_⟩) hHeld ?_ ?_
      rotate_left
      · rintro w' hS'
        go_simp
        with_reducible rfl
      rotate_left
      · simp only [Act.put, List.setIfInBounds_toArray, List.set_cons_zero, List.set_cons_succ]
        rfl
      refine take_ (i := 11) (N := some 25) (v := ?_) (a' := ?_) #[true, true, true, true, true, true, true, true, true, true, true, true, false, false, false, false, false, false, false] rfl rfl (by kernel_rfl) (fun _ _ _ h => h) (Or.inl ⟨by rfl, ?_⟩) hHeld ?_ ?_
      rotate_left
      · rintro w' hS'
        go_simp
        with_reducible rfl
      rotate_left
      · simp only [Act.put, List.setIfInBounds_toArray, List.set_cons_zero, List.set_cons_succ]
        rfl
      refine take_ (i := 12) (N := some 26) (v := ?_) (a' := ?_) #[true, true, true, true, true, true, true, true, true, true, true, true, true, false, false, false, false, false, false] rfl rfl (by kernel_rfl) (fun _ _ _ h => h) (Or.inl ⟨by rfl, ?_⟩) hHeld ?_ ?_
      rotate_left
      · rintro w' hS'
        go_simp
        with_reducible rfl
      rotate_left
      · simp only [Act.put, List.setIfInBounds_toArray, List.set_cons_zero, List.set_cons_succ]
        rfl
      refine take_ (i := 13) (N := some 27) (v := ?_) (a' := ?_) #[true, true, true, true, true, true, true, true, true, true, true, true, true, true, false, false, false, false, false] rfl rfl (by kernel_rfl) (fun _ _ _ h => h) (Or.inl ⟨by rfl, ?_⟩) hHeld ?_ ?_
      rotate_left
      · rintro w' hS'
        go_simp
        with_reducible rfl
      rotate_left
      · simp only [Act.put, List.setIfInBounds_toArray, List.set_cons_zero, List.set_cons_succ]
        rfl
      refine take_ (i := 14) (N := some 28) (v := ?_) (a' := ?_) #[true, true, true, true, true, true, true, true, true, true, true, true, true, true, true, false, false, false, false] rfl rfl (by kernel_rfl) (fun _ _ _ h => h) (Or.inl ⟨by rfl, ?_⟩) hHeld ?_ ?_
      rotate_left
      · rintro w' hS'
        go_simp
        with_reducible rfl
      rotate_left
      · simp only [Act.put, List.setIfInBounds_toArray, List.set_cons_zero, List.set_cons_succ]
        rfl
      refine take_ (i := 15) (N := some 29) (v := ?_) (a' := ?_) #[true, true, true, true, true, true, true, true, true, true, true, true, true, true, true, true, false, false, false] rfl rfl (by kernel_rfl) (fun _ _ _ h => h) (Or.inl ⟨by rfl, ?_⟩) hHeld ?_ ?_
      rotate_left
      · rintro w' hS'
        go_simp
        with_reducible rfl
      rotate_left
      · simp only [Act.put, List.setIfInBounds_toArray, List.set_cons_zero, List.set_cons_succ]
        rfl
      refine one_ (i := 16) (N := some 30) #[true, true, true, true, true, true, true, true, true, true, true, true, true, true, true, true, true, false, false] rfl rfl (by kernel_rfl) (by decide) (fun K hK => ?_)
      go_simp
      refine (HW.out _ hHeld).mono ?_
      rintro e w2 ⟨rfl, hb2⟩
      have HB2 := Lib.hid (undrew hb2)
      clear hb2
      refine hK.out _ _ (fun b o h => keeps_of HB2.out b o (by rw [hsA]; exact h)) (fun hHeld => ?_)
      clear hK K
      refine norm_ (a' := ?_) ?_ ?_
      rotate_left
      · first
          | rfl
          | (simp only [Act.put, List.setIfInBounds_toArray, List.set_cons_zero, List.set_cons_succ]; rfl)
      refine take_ (i := 17) (N := some 31) (v := ?_) (a' := ?_) #[true, true, true, true, true, true, true, true, true, true, true, true, true, true, true, true, true, true, false] rfl rfl (by kernel_rfl) (fun _ _ _ h => h) (Or.inl ⟨by rfl, ?_⟩) hHeld ?_ ?_
      rotate_left
      · rintro w' hS'
        go_simp
        with_reducible rfl
      rotate_left
      · simp only [Act.put, List.setIfInBounds_toArray, List.set_cons_zero, List.set_cons_succ]
        rfl
      refine take_ (i := 18) (N := some 4) (v := ?_) (a' := ?_) #[true, true, true, true, true, true, true, true, true, true, true, true, true, true, true, true, true, true, true] rfl rfl (by kernel_rfl) (fun _ _ _ h => h) (Or.inl ⟨by rfl, ?_⟩) hHeld ?_ ?_
      rotate_left
      · rintro w' hS'
        go_simp
        with_reducible rfl
      rotate_left
      · simp only [Act.put, List.setIfInBounds_toArray, List.set_cons_zero, List.set_cons_succ]
        rfl
      refine done_ (by kernel_rfl) ?_
      go_wp2
      go_ret
      unfold Finds
      rw [HS.out]
      exact ⟨ret_int (by simp [wrapEq]), HB1.out.trans (HB2.out.mono HB1.out.size)⟩
end Go.Proofs.YtkedcijfegoflaaDoor

