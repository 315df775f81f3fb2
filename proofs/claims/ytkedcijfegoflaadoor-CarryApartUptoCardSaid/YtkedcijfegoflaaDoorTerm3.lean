/- term: means, Lift$1. -/
import Derived.Test.YtkedcijfegoflaaDoorTerm2
namespace Go.Proofs.YtkedcijfegoflaaDoor
open Go Go.RowKit Go.Proofs.YtkedcijfegoflaaDoorW.PrintLast

set_option maxRecDepth 100000 in
set_option maxHeartbeats 400000 in
theorem means_any (d num : Int) (w : World) :
    Calls Tryd.prog 63 #[.agg #[.int .i64 d], .int .i64 num] w fun e w' => e = .returned (.tuple #[.int .i64 (wrap64 (num - d)), .bool (decide (d ≤ num))]) ∧ Below w.heap.size w w' := by
  go_enter Tryd.func63, Tryd.ntmps63
  go_wp2_with fail
  go_quiet (fail)
  go_wp2
  go_ret2
  exact ⟨rfl, ((Below.refl _ _).alloc (Nat.le_refl _) _).trans ⟨rfl, rfl, rfl, Nat.le_refl _, fun _ _ => rfl⟩⟩

/-- A function's end: a term of its own, put into the block of its result. -/
theorem term_end {fn : Func} {p : Tmp} (h : fn.results = #[.cell p 30]) {a0 : Act} {w w2 : World} {g lo : Nat} {d0 d1 d2 d3 d4 c0 c1 c2 c3 c4 : Value} {t : Tm} {F : List Nat}
    (hp : a0.tmps.getD p undef = .pointer (some ⟨g, 0, none⟩)) (hg : Blk w2 g #[d0, d1, d2, d3, d4] 30) (hO : OwT w2 t [c0, c1, c2, c3, c4] F) (hF : Fr lo w2 F) (hlo : w.heap.size ≤ lo) (hgF : ∀ b ∈ F, b ≠ g)
    (hb : Below w.heap.size w w2) (hg0 : w.heap.size ≤ g) (hd : a0.defers = []) :
    bodyPost Tryd.prog fn (fun e w' => ∃ cs F, e = Ending.returned (.agg cs.toArray) ∧ OwT w' t cs F ∧ Fr w.heap.size w' F ∧ Below w.heap.size w w') Exit.ret a0 (put5 w2 g c0 c1 c2 c3 c4) := by
  exact bodyPost_ret (ret_term h hp (put5_blk hg)) hd ⟨_, _, rfl, OwT.mov _ _ _ _ _ (put5_same hgF) hO, hF.mono hlo (by rw [put5_size]; exact Nat.le_refl _), put5_below hb hg0⟩
/-- .. a new block behind it (the walk moves 'alloc' outward). -/
theorem term_end1 {fn : Func} {p : Tmp} (h : fn.results = #[.cell p 30]) {a0 : Act} {w w2 : World} {g lo : Nat} {d0 d1 d2 d3 d4 c0 c1 c2 c3 c4 : Value} {t : Tm} {F : List Nat} {o : Obj}
    (hp : a0.tmps.getD p undef = .pointer (some ⟨g, 0, none⟩)) (hg : Blk w2 g #[d0, d1, d2, d3, d4] 30) (hO : OwT w2 t [c0, c1, c2, c3, c4] F) (hF : Fr lo w2 F) (hlo : w.heap.size ≤ lo) (hgF : ∀ b ∈ F, b ≠ g)
    (hb : Below w.heap.size w w2) (hg0 : w.heap.size ≤ g) (hd : a0.defers = []) :
    bodyPost Tryd.prog fn (fun e w' => ∃ cs F, e = Ending.returned (.agg cs.toArray) ∧ OwT w' t cs F ∧ Fr w.heap.size w' F ∧ Below w.heap.size w w') Exit.ret a0 ((put5 w2 g c0 c1 c2 c3 c4).alloc o) := by
  have hbA : Below (put5 w2 g c0 c1 c2 c3 c4).heap.size (put5 w2 g c0 c1 c2 c3 c4) ((put5 w2 g c0 c1 c2 c3 c4).alloc o) := (Below.refl _ _).alloc (Nat.le_refl _) o
  have hF2 : Fr w.heap.size (put5 w2 g c0 c1 c2 c3 c4) F := hF.mono hlo (by rw [put5_size]; exact Nat.le_refl _)
  have hB2 : Below w.heap.size w (put5 w2 g c0 c1 c2 c3 c4) := put5_below hb hg0
  exact bodyPost_ret (ret_term h hp ((put5_blk hg).below hbA)) hd ⟨_, _, rfl, OwT.mov _ _ _ _ _ (Same.of_below hF2 hbA) (OwT.mov _ _ _ _ _ (put5_same hgF) hO), hF2.mono (Nat.le_refl _) hbA.size, hB2.trans (hbA.mono hB2.size)⟩
/-- The ends of Lift$1. -/
theorem liftFn_end {fn : Func} (h : fn.results = #[.cell 6 30, .tmp 7]) {a0 : Act} {w w1 w2 : World} {g : Nat} {d0 d1 d2 d3 d4 : Value} {k num num' a : Int} {A1 A2 : Option Addr} {l1 c1 l2 c2 : Nat} {lv : List Lv} {F : List Nat}
    (hp : a0.tmps.getD 6 undef = .pointer (some ⟨g, 0, none⟩)) (hx : a0.tmps.getD 7 undef = .bool false) (hnum : num = num') (hg : Blk w2 g #[d0, d1, d2, d3, d4] 30) (hO : OwLvs w2 (.slice A1 l1 c1) lv F) (hF : Fr w1.heap.size w2 F) (hb1 : Below w1.heap.size w1 w2)
    (hb : Below w.heap.size w w1) (hg0 : w.heap.size ≤ g) (hg1 : g < w1.heap.size) (hd : a0.defers = []) :
    bodyPost Tryd.prog fn (fun e w' => ∃ A1 l1 c1 F, e = Ending.returned (.tuple #[.agg #[.int .i64 k, .int .i64 num', .int .i64 a, .slice A1 l1 c1, .slice A2 l2 c2], .bool false]) ∧ OwLvs w' (.slice A1 l1 c1) lv F ∧ Fr w.heap.size w' F ∧ Below w.heap.size w w')
      Exit.ret a0 (put5 w2 g (.int .i64 k) (.int .i64 num) (.int .i64 a) (.slice A1 l1 c1) (.slice A2 l2 c2)) := by
  subst hnum
  have hs := hb.size
  refine bodyPost_ret (ret_term_tmp h hp hx (put5_blk hg)) hd ⟨_, _, _, _, rfl, hO.move (put5_same (fun b hbm => by have := hF.2 b hbm; omega)), hF.mono (by omega) (by rw [put5_size]; exact Nat.le_refl _), put5_below (hb.trans (hb1.mono hs)) hg0⟩
/-- A lifted variable's number, at a depth. -/
def liftNum (n frm d k num : Int) : Int := if k = 1 ∧ d ≤ num ∧ frm ≤ wrap64 (num - d) then wrap64 (num + n) else num
set_option maxRecDepth 100000 in
set_option maxHeartbeats 400000 in
theorem liftFn_any (n frm d k num a : Int) (vl : Value) (A2 : Option Addr) (l2 c2 : Nat) (lv : List Lv) (fn : Fn) (first cap : Array Value) (bf bn : Nat) (w : World) (h : RdLvs w vl lv) (hok : Okl lv)
    (hf : w.cell? ⟨bf, 0, none⟩ = some (.int .i64 frm)) (hn : w.cell? ⟨bn, 0, none⟩ = some (.int .i64 n)) :
    Calls Tryd.prog 66 #[.agg #[.int .i64 d, .func fn first cap], .agg #[.int .i64 k, .int .i64 num, .int .i64 a, vl, .slice A2 l2 c2], .pointer (some ⟨bf, 0, none⟩), .pointer (some ⟨bn, 0, none⟩)] w fun e w' =>
      ∃ A1 l1 c1 F, e = .returned (.tuple #[.agg #[.int .i64 k, .int .i64 (liftNum n frm d k num), .int .i64 a, .slice A1 l1 c1, .slice A2 l2 c2], .bool false]) ∧ OwLvs w' (.slice A1 l1 c1) lv F ∧ Fr w.heap.size w' F ∧ Below w.heap.size w w' := by
  obtain ⟨A, c, rfl, hc, hm, hr⟩ := id h
  have HH := Lib.hid h
  have HOK := Lib.hid hok
  clear hr hm hc h hok
  go_enter Tryd.func66, Tryd.ntmps66
  go_wp2_with fail
  obtain ⟨k1, k2, k3, hb0, hsz⟩ := blks3 w #[.int .i64 d, .func fn first cap] #[.int .i64 k, .int .i64 num, .int .i64 a, .slice A lv.length c, .slice A2 l2 c2] #[.int .i64 0, .int .i64 0, .int .i64 0, .slice none 0 0, .slice none 0 0] 102 30 30
  refine (means_any _ _ _).mono ?_
  rintro e w1 ⟨rfl, hb1⟩
  replace k1 := k1.below hb1
  replace k2 := k2.below hb1
  replace k3 := k3.below hb1
  have hb := hb0.trans (hb1.mono hb0.size)
  have hsz1 := hb1.size
  rw [hsz] at hsz1
  clear hb0 hb1 hsz
  have hf1 : w1.cell? ⟨bf, 0, none⟩ = some (.int .i64 frm) := (hb.cell (p := ⟨bf, 0, none⟩) (World.block_lt_of_cell? w _ hf)).trans hf
  have hn1 : w1.cell? ⟨bn, 0, none⟩ = some (.int .i64 n) := (hb.cell (p := ⟨bn, 0, none⟩) (World.block_lt_of_cell? w _ hn)).trans hn
  clear hf hn
  have hk2 := k2.cell
  have hk2f := k2.frozen
  by_cases hk : k = 1 ∧ d ≤ num ∧ frm ≤ wrap64 (num - d)
  · obtain ⟨rfl, h1, h2⟩ := hk
    have hl := Lib.hid (show liftNum n frm d 1 num = wrap64 (num + n) by unfold liftNum; rw [if_pos ⟨rfl, h1, h2⟩])
    have h1b : decide (d ≤ num) = true := decide_eq_true h1
    have h2b : decide (frm ≤ wrap64 (num - d)) = true := decide_eq_true h2
    have K2 := Lib.hid k2
    have K3 := Lib.hid k3
    have HB := Lib.hid hb
    clear h1 h2 k1 k2 k3 hb
    go_wp2_with fail
    have HB2 := Lib.hid (HB.out.setCell (p := ⟨w.heap.size + 1, 1, none⟩) (by simp) (.int .i64 (wrap64 (num + n))))
    have K32 := Lib.hid (K3.out.far (a := ⟨w.heap.size + 1, 1, none⟩) (by simp) (.int .i64 (wrap64 (num + n))))
    refine (own_any 1 (wrap64 (num + n)) a _ A2 l2 c2 lv _ (HH.out.below (keeps_of HB2.out)) HOK.out).mono ?_
    rintro e w2 ⟨A1, l1, c1, F, rfl, hO, hF, hb2⟩
    have k3 := K32.out.below hb2
    have hc3 := k3.cell
    have hf3 := k3.frozen
    have K33 := Lib.hid k3
    have HO := Lib.hid (And.intro hO (And.intro hF hb2))
    clear hO hF hb2 k3 hk2 hk2f hf1 hn1
    go_wp2
    obtain ⟨hO, hF, hb2⟩ := HO.out
    exact liftFn_end Tryd.results66 rfl rfl hl.out.symm K33.out hO hF hb2 HB2.out (by omega) (by simp [World.setCell]; omega) rfl
  · have hl := Lib.hid (show liftNum n frm d k num = num by unfold liftNum; rw [if_neg hk])
    by_cases hk1 : k = 1
    · have hkb : (k == 1) = true := by rw [hk1]; rfl
      by_cases h1 : d ≤ num
      · have h1b : decide (d ≤ num) = true := decide_eq_true h1
        have h2b : decide (frm ≤ wrap64 (num - d)) = false := decide_eq_false (fun h => hk ⟨hk1, h1, h⟩)
        clear hk hk1 h1
        have K3 := Lib.hid k3
        have HB := Lib.hid hb
        clear k1 k2 k3 hb
        go_wp2_with fail
        refine (own_any k num a _ A2 l2 c2 lv _ (HH.out.below (keeps_of HB.out)) HOK.out).mono ?_
        rintro e w2 ⟨A1, l1, c1, F, rfl, hO, hF, hb2⟩
        have k3 := K3.out.below hb2
        have hc3 := k3.cell
        have hf3 := k3.frozen
        have K3 := Lib.hid k3
        have HO := Lib.hid (And.intro hO (And.intro hF hb2))
        clear hO hF hb2 k3
        go_wp2
        obtain ⟨hO, hF, hb2⟩ := HO.out
        exact liftFn_end Tryd.results66 rfl rfl hl.out.symm K3.out hO hF hb2 HB.out (by omega) (by omega) rfl
      · have h1b : decide (d ≤ num) = false := decide_eq_false h1
        clear hk hk1 h1
        have K3 := Lib.hid k3
        have HB := Lib.hid hb
        clear k1 k2 k3 hb
        go_wp2_with fail
        refine (own_any k num a _ A2 l2 c2 lv _ (HH.out.below (keeps_of HB.out)) HOK.out).mono ?_
        rintro e w2 ⟨A1, l1, c1, F, rfl, hO, hF, hb2⟩
        have k3 := K3.out.below hb2
        have hc3 := k3.cell
        have hf3 := k3.frozen
        have K3 := Lib.hid k3
        have HO := Lib.hid (And.intro hO (And.intro hF hb2))
        clear hO hF hb2 k3
        go_wp2
        obtain ⟨hO, hF, hb2⟩ := HO.out
        exact liftFn_end Tryd.results66 rfl rfl hl.out.symm K3.out hO hF hb2 HB.out (by omega) (by omega) rfl
    · have hkb : (k == 1) = false := beq_eq_false_iff_ne.2 hk1
      clear hk hk1
      have K3 := Lib.hid k3
      have HB := Lib.hid hb
      clear k1 k2 k3 hb
      go_wp2_with fail
      refine (own_any k num a _ A2 l2 c2 lv _ (HH.out.below (keeps_of HB.out)) HOK.out).mono ?_
      rintro e w2 ⟨A1, l1, c1, F, rfl, hO, hF, hb2⟩
      have k3 := K3.out.below hb2
      have hc3 := k3.cell
      have hf3 := k3.frozen
      have K3 := Lib.hid k3
      have HO := Lib.hid (And.intro hO (And.intro hF hb2))
      clear hO hF hb2 k3
      go_wp2
      obtain ⟨hO, hF, hb2⟩ := HO.out
      exact liftFn_end Tryd.results66 rfl rfl hl.out.symm K3.out hO hF hb2 HB.out (by omega) (by omega) rfl
end Go.Proofs.YtkedcijfegoflaaDoor
