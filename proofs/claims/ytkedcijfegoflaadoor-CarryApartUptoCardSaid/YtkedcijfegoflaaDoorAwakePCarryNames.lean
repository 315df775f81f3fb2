/- spandrellaw21: name, awake. -/
import Derived.Test.YtkedcijfegoflaaDoorBrDPCarryNames
namespace Go.Proofs.YtkedcijfegoflaaDoor.PCarryNames
set_option linter.unusedSimpArgs false
set_option linter.unusedVariables false
open Go Go.RowKit Go.Proofs.YtkedcijfegoflaaDoor Go.Proofs.YtkedcijfegoflaaDoorW.PrintLast

def leaf (k n a : Int) : Tm := .mk k n a [] []
theorem leaf_rd (k n a : Int) (w : World) : RdT w (leaf k n a) [.int .i64 k, .int .i64 n, .int .i64 a, .slice none 0 0, .slice none 0 0] :=
  (RdT_mk ..).2 ⟨_, _, rfl, ⟨none, 0, rfl, by simp, by simp, .inl rfl⟩, ⟨none, 0, rfl, by simp, by simp, .inl rfl⟩⟩
theorem leaf_in (k n a : Int) (w : World) : In w (leaf k n a) [.int .i64 k, .int .i64 n, .int .i64 a, .slice none 0 0, .slice none 0 0] :=
  ⟨leaf_rd k n a w, .mk ⟨by simp, by simp⟩ (by simp) (by simp), by simp [leaf, Tm.nodes, Tm.nodesL]⟩
set_option maxRecDepth 100000 in
theorem nameL_any (k n a : Int) (w : World) :
    Calls Tryd.prog 10 #[.int .i64 k, .int .i64 n, .int .i64 a] w fun e w' => e = .returned (.agg #[.int .i64 k, .int .i64 n, .int .i64 a, .slice none 0 0, .slice none 0 0]) ∧ Below w.heap.size w w' := by
  have hb := blks1 w #[.int .i64 k, .int .i64 n, .int .i64 a, .slice none 0 0, .slice none 0 0] 30
  have HB := Lib.hid hb
  clear hb
  go_enter Tryd.func10, Tryd.ntmps10
  go_wp2
  exact bodyPost_ret (ret_term Tryd.results10 rfl HB.out.1) rfl ⟨rfl, HB.out.2.1⟩
theorem at_some : atI someDs = [0, 12, 13, 25, 26] := by decide +kernel
theorem car1 : carT someDs (atI someDs) (leaf 8 0 0) = leaf 3 5 0 := by
  have h : nameI someDs (atI someDs) 8 0 0 = some 5 := by decide +kernel
  simp only [leaf, carT, h, carL]
theorem car2 : carT someDs (atI someDs) (leaf 9 0 1) = leaf 3 7 0 := by
  have h : nameI someDs (atI someDs) 9 0 1 = some 7 := by decide +kernel
  simp only [leaf, carT, h, carL]
theorem car3 : carT someDs (atI someDs) (leaf 10 0 0) = leaf 3 9 0 := by
  have h : nameI someDs (atI someDs) 10 0 0 = some 9 := by decide +kernel
  simp only [leaf, carT, h, carL]
theorem car4 : carT someDs (atI someDs) (leaf 3 1 0) = leaf 3 12 0 := by
  have h : nameI someDs (atI someDs) 3 1 0 = some 12 := by decide +kernel
  simp only [leaf, carT, h, carL]
/-- A name carried over, by its cells. -/
theorem carN_any (k n a m : Int) (hc : carT someDs (atI someDs) (leaf k n a) = leaf 3 m 0) (vd va : Value) (w : World) (hE : CEnv w vd va someDs (atI someDs)) :
    Calls Tryd.prog 12 #[vd, va, .agg #[.int .i64 k, .int .i64 n, .int .i64 a, .slice none 0 0, .slice none 0 0]] w fun e w' => ∃ A1 l1 c1 A2 l2 c2, e = .returned (.agg #[.int .i64 3, .int .i64 m, .int .i64 0, .slice A1 l1 c1, .slice A2 l2 c2]) ∧ Below w.heap.size w w' := by
  refine (Term_any someDs (atI someDs) (leaf k n a) vd va _ w hE (leaf_in k n a w)).mono ?_
  rintro e w' ⟨cs, F, rfl, hO, hF, hb⟩
  rw [hc] at hO
  obtain ⟨A1, l1, c1, A2, l2, c2, rfl⟩ := hO.cells
  exact ⟨A1, l1, c1, A2, l2, c2, rfl, hb⟩
set_option maxRecDepth 100000 in
set_option maxHeartbeats 2000000 in
theorem awake_any (w : World) (hK : Kinds w) :
    Calls Tryd.prog 16 #[] w fun e w' => e = .returned (.bool true) ∧ Below w.heap.size w w' := by
  have HK := Lib.hid hK
  clear hK
  go_enter Tryd.func16, Tryd.ntmps16
  go_wp2_with fail
  refine (some_any w).mono ?_
  rintro e w1 ⟨A1, c1, rfl, hd, hb1⟩
  have HD := Lib.hid hd
  have HB1 := Lib.hid hb1
  clear hd hb1
  go_wp2_with fail
  refine (At_any someDs _ w1 HD.out (by decide)).mono ?_
  rintro e w2 ⟨A2, c2, rfl, ha, hb2⟩
  rw [at_some] at ha ⊢
  have HE := Lib.hid (show CEnv w2 (.slice A1 5 c1) (.slice A2 5 c2) someDs (atI someDs) from ⟨(HK.out.below HB1.out).below hb2, HD.out.below (keeps_of hb2), by rw [at_some]; exact ha⟩)
  have hcell : ∃ b o, A2 = some ⟨b, o, none⟩ ∧ w2.cell? ⟨b, o + 1, none⟩ = some (.int .i64 12) ∧ b < w2.heap.size := by
    obtain ⟨A, c, he, _, _, h⟩ := ha
    injection he with he1 he2 he3
    subst he1
    rcases h with h | ⟨b, o, rfl, h⟩
    · cases h
    · obtain ⟨h1, h2⟩ := RdIs_at h 1 (by decide)
      exact ⟨b, o, rfl, h1, h2⟩
  obtain ⟨ba, oa, rfl, hca, hlt⟩ := hcell
  have HB2 := Lib.hid (HB1.out.trans (hb2.mono HB1.out.size))
  clear ha hb2 HD HB1 HK
  go_wp2_with fail
  refine (nameL_any _ _ _ _).mono ?_
  rintro e w3 ⟨rfl, hb⟩
  have HB3 := Lib.hid hb
  clear hb
  go_wp2_with fail
  refine (carN_any 8 0 0 5 car1 _ _ w3 (HE.out.below HB3.out)).mono ?_
  rintro e w4 ⟨A3, l3, c3, A4, l4, c4, rfl, hb⟩
  have HB4 := Lib.hid (HB3.out.trans (hb.mono HB3.out.size))
  clear hb HB3
  go_wp2_with fail
  refine (nameL_any _ _ _ _).mono ?_
  rintro e w5 ⟨rfl, hb⟩
  have HB5 := Lib.hid (HB4.out.trans (hb.mono HB4.out.size))
  clear hb HB4
  go_wp2_with fail
  refine (carN_any 9 0 1 7 car2 _ _ w5 (HE.out.below HB5.out)).mono ?_
  rintro e w6 ⟨A5, l5, c5, A6, l6, c6, rfl, hb⟩
  have HB6 := Lib.hid (HB5.out.trans (hb.mono HB5.out.size))
  clear hb HB5
  go_wp2_with fail
  refine (nameL_any _ _ _ _).mono ?_
  rintro e w7 ⟨rfl, hb⟩
  have HB7 := Lib.hid (HB6.out.trans (hb.mono HB6.out.size))
  clear hb HB6
  go_wp2_with fail
  refine (carN_any 10 0 0 9 car3 _ _ w7 (HE.out.below HB7.out)).mono ?_
  rintro e w8 ⟨A7, l7, c7, A8, l8, c8, rfl, hb⟩
  have HB8 := Lib.hid (HB7.out.trans (hb.mono HB7.out.size))
  clear hb HB7
  go_wp2_with fail
  have HK3 := Lib.hid (blks3 w8 #[.int .i64 3, .int .i64 5, .int .i64 0, .slice A3 l3 c3, .slice A4 l4 c4] #[.int .i64 3, .int .i64 7, .int .i64 0, .slice A5 l5 c5, .slice A6 l6 c6] #[.int .i64 3, .int .i64 9, .int .i64 0, .slice A7 l7 c7, .slice A8 l8 c8] 30 30 30)
  generalize (((w8.alloc _).alloc _).alloc _) = W8 at *
  obtain ⟨k1, k2, k3, hbW, hsz⟩ := HK3.out
  have HB9 := Lib.hid (HB8.out.trans (hbW.mono HB8.out.size))
  clear k1 k2 k3 hbW hsz
  refine (nameL_any _ _ _ _).mono ?_
  rintro e w9 ⟨rfl, hb9⟩
  have HB9' := Lib.hid hb9
  clear hb9
  go_wp2_with fail
  refine (carN_any 3 1 0 12 car4 _ _ w9 (HE.out.below (HB9.out.trans (HB9'.out.mono HB9.out.size)))).mono ?_
  rintro e w10 ⟨A9, l9, c9, A10, l10, c10, rfl, hb⟩
  obtain ⟨k1, k2, k3, hbW, hsz⟩ := HK3.out
  have hbx := HB9'.out.trans (hb.mono HB9'.out.size)
  have k1 := k1.below hbx
  have k2 := k2.below hbx
  have k3 := k3.below hbx
  have hbz := HB9.out.trans (hbx.mono HB9.out.size)
  have g1 := k1.cell
  have g2 := k2.cell
  have g3 := k3.cell
  have n1 := k1.lt
  have n2 := k2.lt
  have n3 := k3.lt
  have hca' : w10.cell? ⟨ba, oa + 1, none⟩ = some (.int .i64 12) := (keeps_of hbz _ _ hlt).trans hca
  have hlt' := Nat.lt_of_lt_of_le hlt hbz.size
  have HF := Lib.hid (HB2.out.trans (hbz.mono HB2.out.size))
  clear k1 k2 k3 hbW hsz hbx hbz hb hca hlt HK3 HB9 HB9' HB8 HB2 HE
  go_wp2
  go_ret
  exact ⟨rfl, HF.out.alloc HF.out.size _⟩
end Go.Proofs.YtkedcijfegoflaaDoor.PCarryNames
