/- carry: constant, member, ctor, recursor. -/
import Derived.Test.YtkedcijfegoflaaDoorName
namespace Go.Proofs.YtkedcijfegoflaaDoor
set_option linter.unusedSimpArgs false
set_option linter.unusedVariables false
open Go Go.RowKit Go.Proofs.YtkedcijfegoflaaDoorW.PrintLast

def constantI (ds : List Dc) (ats : List Int) (num : Int) : Option Int := match ofI ds ats num with
  | some (d, b) => if d.kind = 1 ∨ d.kind = 2 then some b else none
  | none => none
def memberI (ds : List Dc) (ats : List Int) (num place : Int) : Option Int := match ofI ds ats num with
  | some (d, b) => (withinI d place d.members.length).map fun p => wrap64 (wrap64 (b + 5) + p)
  | none => none
def ctorI (ds : List Dc) (ats : List Int) (num place : Int) : Option Int := match ofI ds ats num with
  | some (d, b) => (withinI d place d.ctors.length).map fun p => wrap64 (wrap64 (wrap64 (b + 5) + d.members.length) + p)
  | none => none
def recursorI (ds : List Dc) (ats : List Int) (num place : Int) : Option Int := match ofI ds ats num with
  | some (d, b) => (withinI d place d.members.length).map fun p => wrap64 (wrap64 (wrap64 (wrap64 (b + 6) + d.members.length) + d.ctors.length) + p)
  | none => none

set_option maxRecDepth 100000 in
set_option maxHeartbeats 1000000 in
theorem constant_any (ds : List Dc) (ats : List Int) (vd va : Value) (k num a : Int) (A1 A2 : Option Addr) (l1 c1 l2 c2 : Nat) (w : World) (hd : RdDs w vd ds) (ha : RdIs w va ats) :
    Calls Tryd.prog 106 #[.agg #[vd, va], .agg #[.int .i64 k, .int .i64 num, .int .i64 a, .slice A1 l1 c1, .slice A2 l2 c2]] w (Finds w (constantI ds ats num)) := by
  obtain ⟨Ad, cd, rfl, _⟩ := id hd
  obtain ⟨Aa, ca, rfl, _⟩ := id ha
  obtain ⟨k0, k1, hb, hsz⟩ := blks2 w #[.slice Ad ds.length cd, .slice Aa ats.length ca] #[.int .i64 k, .int .i64 num, .int .i64 a, .slice A1 l1 c1, .slice A2 l2 c2] 76 30
  have HC := Lib.hid (of_any ds ats _ _ k num a A1 A2 l1 c1 l2 c2 _ (hd.below (keeps_of hb)) (ha.below (keeps_of hb)))
  have HB := Lib.hid hb
  clear hd ha hb k0 k1 hsz
  cases ho : ofI ds ats num with
  | none =>
    rw [ho] at HC
    have HS := Lib.hid (show constantI ds ats num = none by unfold constantI; rw [ho])
    clear ho
    go_enter Tryd.func106, Tryd.ntmps106
    go_wp2_with fail
    refine HC.out.mono ?_
    rintro e w1 ⟨rfl, hb1⟩
    refine ⟨rfl, ?_⟩
    unfold Finds
    rw [HS.out]
    exact ⟨rfl, HB.out.trans (hb1.mono HB.out.size)⟩
  | some p =>
    obtain ⟨d, b⟩ := p
    rw [ho] at HC
    go_enter Tryd.func106, Tryd.ntmps106
    go_wp2_with fail
    refine HC.out.mono ?_
    rintro e w1 ⟨cs, rfl, hr, hb1⟩
    obtain ⟨t0, t1, t2, b0, b1, b2, A3, l3, c3, A4, l4, c4, A5, l5, c5, A6, l6, c6, A7, l7, c7, A8, l8, c8, A9, c9, A10, c10, rfl⟩ := hr.cells
    have HB1 := Lib.hid (HB.out.trans (hb1.mono HB.out.size))
    clear hr hb1 HC
    by_cases hk : d.kind = 1 ∨ d.kind = 2
    · have HS := Lib.hid (show constantI ds ats num = some b by unfold constantI; rw [ho]; simp [hk])
      clear ho
      rcases hk with hk | hk
      · have hk1 : (d.kind == 1) = true := by rw [hk]; rfl
        clear hk
        go_wp2_with fail
        refine (must_any [true] _ _ (RdBs_blk (blks2 w1 _ #[.bool true] _ 4).2.1 (by simp))).mono ?_
        rintro e w' ⟨rfl, rfl⟩
        go_wp2
        go_ret
        unfold Finds
        rw [HS.out]
        exact ⟨rfl, HB1.out.trans ((blks2 w1 _ #[.bool true] _ 4).2.2.1.mono HB1.out.size)⟩
      · have hk1 : (d.kind == 1) = false := by rw [hk]; rfl
        have hk2 : (d.kind == 2) = true := by rw [hk]; rfl
        clear hk
        go_wp2_with fail
        refine (must_any [true] _ _ (RdBs_blk (blks2 w1 _ #[.bool true] _ 4).2.1 (by simp))).mono ?_
        rintro e w' ⟨rfl, rfl⟩
        go_wp2
        go_ret
        unfold Finds
        rw [HS.out]
        exact ⟨rfl, HB1.out.trans ((blks2 w1 _ #[.bool true] _ 4).2.2.1.mono HB1.out.size)⟩
    · have HS := Lib.hid (show constantI ds ats num = none by unfold constantI; rw [ho]; simp [hk])
      clear ho
      have hk1 : (d.kind == 1) = false := beq_eq_false_iff_ne.2 (fun h => hk (.inl h))
      have hk2 : (d.kind == 2) = false := beq_eq_false_iff_ne.2 (fun h => hk (.inr h))
      clear hk
      go_wp2_with fail
      refine (must_any [false] _ _ (RdBs_blk (blks2 w1 _ #[.bool false] _ 4).2.1 (by simp))).mono ?_
      rintro e w' ⟨rfl, rfl⟩
      refine ⟨rfl, ?_⟩
      unfold Finds
      rw [HS.out]
      exact ⟨rfl, HB1.out.trans ((blks2 w1 _ #[.bool false] _ 4).2.2.1.mono HB1.out.size)⟩
end Go.Proofs.YtkedcijfegoflaaDoor
