/- carry.work.name, kind by kind. -/
import Derived.Test.YtkedcijfegoflaaDoorName4
namespace Go.Proofs.YtkedcijfegoflaaDoor
set_option linter.unusedSimpArgs false
set_option linter.unusedVariables false
open Go Go.RowKit Go.Proofs.YtkedcijfegoflaaDoorW.PrintLast

set_option maxRecDepth 100000 in
set_option maxHeartbeats 1000000 in
theorem name_member (ds : List Dc) (ats : List Int) (vd va : Value) (num a : Int) (A1 A2 : Option Addr) (l1 c1 l2 c2 : Nat) (w : World) (hd : RdDs w vd ds) (ha : RdIs w va ats) :
    Calls Tryd.prog 85 #[.agg #[vd, va], .agg #[.int .i64 8, .int .i64 num, .int .i64 a, .slice A1 l1 c1, .slice A2 l2 c2]] w (NamePost w (memberI ds ats num a)) := by
  obtain ⟨Ad, cd, rfl, _⟩ := id hd
  obtain ⟨Aa, ca, rfl, _⟩ := id ha
  have hmf : ∀ (fn : Fn) (first cap : Array Value) (w : World), (Instr.makeFunc fn first cap).run Tryd.prog w = .ok (.func fn first cap) w := fun _ _ _ _ => rfl
  have hmm := @run_makeMap Tryd.prog
  have i1 := fun A B C D => ins1 ((((w.alloc A).alloc B).alloc C).alloc D) (w.heap.size + 1 + 1 + 1 + 1) (by simp)
  have i2 := fun A B C D => ins2 ((((w.alloc A).alloc B).alloc C).alloc D) (w.heap.size + 1 + 1 + 1 + 1) (by simp)
  have i3 := fun A B C D => ins3 ((((w.alloc A).alloc B).alloc C).alloc D) (w.heap.size + 1 + 1 + 1 + 1) (by simp)
  have i4 := fun A B C D => ins4 ((((w.alloc A).alloc B).alloc C).alloc D) (w.heap.size + 1 + 1 + 1 + 1) (by simp)
  have q1 := fun A B C D => look2 ((((w.alloc A).alloc B).alloc C).alloc D) (w.heap.size + 1 + 1 + 1 + 1) (by simp)
  have HB := Lib.hid (blks6 w #[.slice Ad ds.length cd, .slice Aa ats.length ca] #[.int .i64 8, .int .i64 num, .int .i64 a, .slice A1 l1 c1, .slice A2 l2 c2] #[.int .i64 0] #[.bool false] #[.bool true] 76 30 3 4 4 (.map #[⟨.int .i64 3, .func (.func 106) #[] #[], 0⟩, ⟨.int .i64 8, .func (.func 107) #[] #[], 1⟩, ⟨.int .i64 9, .func (.func 108) #[] #[], 2⟩, ⟨.int .i64 10, .func (.func 109) #[] #[], 3⟩] 4))
  have HD := Lib.hid hd
  have HA := Lib.hid ha
  clear hd ha
  go_enter_defers Tryd.func85, Tryd.ntmps85
  go_wp2_with fail
  clear i1 i2 i3 i4 q1
  generalize ((((((w.alloc _).alloc _).alloc _).alloc _).alloc _).alloc _) = W at *
  obtain ⟨k0, k1, k2, k3, kb, hb, hsz⟩ := HB.out
  refine (must_any [true] _ _ (RdBs_blk kb (by simp))).mono ?_
  rintro e w' ⟨rfl, rfl⟩
  have g0 := k0.cell
  have g1 := k1.cell
  have n0 := k0.lt
  have n1 := k1.lt
  have H2 := Lib.hid (And.intro k2 (And.intro k3 (And.intro hb hsz)))
  have HC := Lib.hid (member_any ds ats _ _ 8 num a A1 A2 l1 c1 l2 c2 W (HD.out.below (keeps_of hb)) (HA.out.below (keeps_of hb)))
  clear k0 k1 k2 k3 kb hb hsz HB
  cases ho : memberI ds ats num a with
  | none =>
    rw [ho] at HC
    have HO := Lib.hid ho
    clear ho
    go_wp2_with fail
    refine HC.out.mono ?_
    rintro e w1 ⟨rfl, hb1⟩
    obtain ⟨k2, k3, hb, hsz⟩ := H2.out
    have k2 := k2.below hb1
    have k3 := k3.below hb1
    have hw := hb.trans (hb1.mono hb.size)
    clear hb hb1 H2 hmf hmm g0 g1
    unfold absentEnd
    dsimp only
    refine leaves_cons (f := 105) (args := #[.pointer (some ⟨w.heap.size + 1 + 1, 0, none⟩), .pointer (some ⟨w.heap.size + 1 + 1 + 1, 0, none⟩)]) (by simp) (by simp [go_sem]) ?_
    refine (catch_panicking _ _ _ _ _ k2 k3).mono ?_
    rintro e u' w2 ⟨rfl, rfl, j2, j3, hj⟩
    have g2 := j2.cell
    have g3 := j3.cell
    have f2 := j2.frozen
    have f3 := j3.frozen
    have n2 := j2.lt
    have n3 := j3.lt
    have q2 := g2 0
    have q3 := g3 0
    refine ⟨.tuple #[.int .i64 0, .bool false], ?_, by rw [HO.out], hw.trans ((hj (w.heap.size + 2) (by omega)).mono (by omega))⟩
    simp [results, Tryd.results85, go_sem, q2, q3]
  | some n =>
    rw [ho] at HC
    have HO := Lib.hid ho
    clear ho
    go_wp2_with fail
    refine HC.out.mono ?_
    rintro e w1 ⟨rfl, hb1⟩
    obtain ⟨k2, k3, hb, hsz⟩ := H2.out
    have k2 := k2.below hb1
    have k3 := k3.below hb1
    have g2 := k2.cell
    have g3 := k3.cell
    have f2 := k2.frozen
    have f3 := k3.frozen
    have HE := Lib.hid (And.intro k2 (And.intro k3 (hb.trans (hb1.mono hb.size))))
    clear k2 k3 hb hb1 hsz
    go_wp2
    obtain ⟨k2, k3, hw⟩ := HE.out
    have j2 := (k2.set 0 (.int .i64 n)).far (b := w.heap.size + 1 + 1) (a := ⟨w.heap.size + 1 + 1 + 1, 0, none⟩) (by simp) (.bool true)
    have j3 := (k3.far (b := w.heap.size + 1 + 1 + 1) (a := ⟨w.heap.size + 1 + 1, 0, none⟩) (by simp) (.int .i64 n)).set 0 (.bool true)
    have hw := (hw.setCell (p := ⟨w.heap.size + 1 + 1, 0, none⟩) (by simp; omega) (.int .i64 n)).setCell (p := ⟨w.heap.size + 1 + 1 + 1, 0, none⟩) (by simp; omega) (.bool true)
    have g2 := j2.cell
    have g3 := j3.cell
    have f2 := j2.frozen
    have f3 := j3.frozen
    have n2 := j2.lt
    have n3 := j3.lt
    refine leaves_cons (f := 105) (args := #[.pointer (some ⟨w.heap.size + 1 + 1, 0, none⟩), .pointer (some ⟨w.heap.size + 1 + 1 + 1, 0, none⟩)]) (by simp) (by simp [go_sem]) ?_
    refine (catch_idle _ _ _).mono ?_
    rintro e u' w2 ⟨rfl, rfl, rfl⟩
    generalize ((w1.setCell _ _).setCell _ _) = w2 at *
    have q2 := g2 0
    have q3 := g3 0
    refine ⟨.tuple #[.int .i64 n, .bool true], ?_, by rw [HO.out], hw⟩
    simp [results, Tryd.results85, go_sem, q2, q3]
set_option maxRecDepth 100000 in
set_option maxHeartbeats 1000000 in
theorem name_ctor (ds : List Dc) (ats : List Int) (vd va : Value) (num a : Int) (A1 A2 : Option Addr) (l1 c1 l2 c2 : Nat) (w : World) (hd : RdDs w vd ds) (ha : RdIs w va ats) :
    Calls Tryd.prog 85 #[.agg #[vd, va], .agg #[.int .i64 9, .int .i64 num, .int .i64 a, .slice A1 l1 c1, .slice A2 l2 c2]] w (NamePost w (ctorI ds ats num a)) := by
  obtain ⟨Ad, cd, rfl, _⟩ := id hd
  obtain ⟨Aa, ca, rfl, _⟩ := id ha
  have hmf : ∀ (fn : Fn) (first cap : Array Value) (w : World), (Instr.makeFunc fn first cap).run Tryd.prog w = .ok (.func fn first cap) w := fun _ _ _ _ => rfl
  have hmm := @run_makeMap Tryd.prog
  have i1 := fun A B C D => ins1 ((((w.alloc A).alloc B).alloc C).alloc D) (w.heap.size + 1 + 1 + 1 + 1) (by simp)
  have i2 := fun A B C D => ins2 ((((w.alloc A).alloc B).alloc C).alloc D) (w.heap.size + 1 + 1 + 1 + 1) (by simp)
  have i3 := fun A B C D => ins3 ((((w.alloc A).alloc B).alloc C).alloc D) (w.heap.size + 1 + 1 + 1 + 1) (by simp)
  have i4 := fun A B C D => ins4 ((((w.alloc A).alloc B).alloc C).alloc D) (w.heap.size + 1 + 1 + 1 + 1) (by simp)
  have q1 := fun A B C D => look3 ((((w.alloc A).alloc B).alloc C).alloc D) (w.heap.size + 1 + 1 + 1 + 1) (by simp)
  have HB := Lib.hid (blks6 w #[.slice Ad ds.length cd, .slice Aa ats.length ca] #[.int .i64 9, .int .i64 num, .int .i64 a, .slice A1 l1 c1, .slice A2 l2 c2] #[.int .i64 0] #[.bool false] #[.bool true] 76 30 3 4 4 (.map #[⟨.int .i64 3, .func (.func 106) #[] #[], 0⟩, ⟨.int .i64 8, .func (.func 107) #[] #[], 1⟩, ⟨.int .i64 9, .func (.func 108) #[] #[], 2⟩, ⟨.int .i64 10, .func (.func 109) #[] #[], 3⟩] 4))
  have HD := Lib.hid hd
  have HA := Lib.hid ha
  clear hd ha
  go_enter_defers Tryd.func85, Tryd.ntmps85
  go_wp2_with fail
  clear i1 i2 i3 i4 q1
  generalize ((((((w.alloc _).alloc _).alloc _).alloc _).alloc _).alloc _) = W at *
  obtain ⟨k0, k1, k2, k3, kb, hb, hsz⟩ := HB.out
  refine (must_any [true] _ _ (RdBs_blk kb (by simp))).mono ?_
  rintro e w' ⟨rfl, rfl⟩
  have g0 := k0.cell
  have g1 := k1.cell
  have n0 := k0.lt
  have n1 := k1.lt
  have H2 := Lib.hid (And.intro k2 (And.intro k3 (And.intro hb hsz)))
  have HC := Lib.hid (ctor_any ds ats _ _ 9 num a A1 A2 l1 c1 l2 c2 W (HD.out.below (keeps_of hb)) (HA.out.below (keeps_of hb)))
  clear k0 k1 k2 k3 kb hb hsz HB
  cases ho : ctorI ds ats num a with
  | none =>
    rw [ho] at HC
    have HO := Lib.hid ho
    clear ho
    go_wp2_with fail
    refine HC.out.mono ?_
    rintro e w1 ⟨rfl, hb1⟩
    obtain ⟨k2, k3, hb, hsz⟩ := H2.out
    have k2 := k2.below hb1
    have k3 := k3.below hb1
    have hw := hb.trans (hb1.mono hb.size)
    clear hb hb1 H2 hmf hmm g0 g1
    unfold absentEnd
    dsimp only
    refine leaves_cons (f := 105) (args := #[.pointer (some ⟨w.heap.size + 1 + 1, 0, none⟩), .pointer (some ⟨w.heap.size + 1 + 1 + 1, 0, none⟩)]) (by simp) (by simp [go_sem]) ?_
    refine (catch_panicking _ _ _ _ _ k2 k3).mono ?_
    rintro e u' w2 ⟨rfl, rfl, j2, j3, hj⟩
    have g2 := j2.cell
    have g3 := j3.cell
    have f2 := j2.frozen
    have f3 := j3.frozen
    have n2 := j2.lt
    have n3 := j3.lt
    have q2 := g2 0
    have q3 := g3 0
    refine ⟨.tuple #[.int .i64 0, .bool false], ?_, by rw [HO.out], hw.trans ((hj (w.heap.size + 2) (by omega)).mono (by omega))⟩
    simp [results, Tryd.results85, go_sem, q2, q3]
  | some n =>
    rw [ho] at HC
    have HO := Lib.hid ho
    clear ho
    go_wp2_with fail
    refine HC.out.mono ?_
    rintro e w1 ⟨rfl, hb1⟩
    obtain ⟨k2, k3, hb, hsz⟩ := H2.out
    have k2 := k2.below hb1
    have k3 := k3.below hb1
    have g2 := k2.cell
    have g3 := k3.cell
    have f2 := k2.frozen
    have f3 := k3.frozen
    have HE := Lib.hid (And.intro k2 (And.intro k3 (hb.trans (hb1.mono hb.size))))
    clear k2 k3 hb hb1 hsz
    go_wp2
    obtain ⟨k2, k3, hw⟩ := HE.out
    have j2 := (k2.set 0 (.int .i64 n)).far (b := w.heap.size + 1 + 1) (a := ⟨w.heap.size + 1 + 1 + 1, 0, none⟩) (by simp) (.bool true)
    have j3 := (k3.far (b := w.heap.size + 1 + 1 + 1) (a := ⟨w.heap.size + 1 + 1, 0, none⟩) (by simp) (.int .i64 n)).set 0 (.bool true)
    have hw := (hw.setCell (p := ⟨w.heap.size + 1 + 1, 0, none⟩) (by simp; omega) (.int .i64 n)).setCell (p := ⟨w.heap.size + 1 + 1 + 1, 0, none⟩) (by simp; omega) (.bool true)
    have g2 := j2.cell
    have g3 := j3.cell
    have f2 := j2.frozen
    have f3 := j3.frozen
    have n2 := j2.lt
    have n3 := j3.lt
    refine leaves_cons (f := 105) (args := #[.pointer (some ⟨w.heap.size + 1 + 1, 0, none⟩), .pointer (some ⟨w.heap.size + 1 + 1 + 1, 0, none⟩)]) (by simp) (by simp [go_sem]) ?_
    refine (catch_idle _ _ _).mono ?_
    rintro e u' w2 ⟨rfl, rfl, rfl⟩
    generalize ((w1.setCell _ _).setCell _ _) = w2 at *
    have q2 := g2 0
    have q3 := g3 0
    refine ⟨.tuple #[.int .i64 n, .bool true], ?_, by rw [HO.out], hw⟩
    simp [results, Tryd.results85, go_sem, q2, q3]
set_option maxRecDepth 100000 in
set_option maxHeartbeats 1000000 in
theorem name_recursor (ds : List Dc) (ats : List Int) (vd va : Value) (num a : Int) (A1 A2 : Option Addr) (l1 c1 l2 c2 : Nat) (w : World) (hd : RdDs w vd ds) (ha : RdIs w va ats) :
    Calls Tryd.prog 85 #[.agg #[vd, va], .agg #[.int .i64 10, .int .i64 num, .int .i64 a, .slice A1 l1 c1, .slice A2 l2 c2]] w (NamePost w (recursorI ds ats num a)) := by
  obtain ⟨Ad, cd, rfl, _⟩ := id hd
  obtain ⟨Aa, ca, rfl, _⟩ := id ha
  have hmf : ∀ (fn : Fn) (first cap : Array Value) (w : World), (Instr.makeFunc fn first cap).run Tryd.prog w = .ok (.func fn first cap) w := fun _ _ _ _ => rfl
  have hmm := @run_makeMap Tryd.prog
  have i1 := fun A B C D => ins1 ((((w.alloc A).alloc B).alloc C).alloc D) (w.heap.size + 1 + 1 + 1 + 1) (by simp)
  have i2 := fun A B C D => ins2 ((((w.alloc A).alloc B).alloc C).alloc D) (w.heap.size + 1 + 1 + 1 + 1) (by simp)
  have i3 := fun A B C D => ins3 ((((w.alloc A).alloc B).alloc C).alloc D) (w.heap.size + 1 + 1 + 1 + 1) (by simp)
  have i4 := fun A B C D => ins4 ((((w.alloc A).alloc B).alloc C).alloc D) (w.heap.size + 1 + 1 + 1 + 1) (by simp)
  have q1 := fun A B C D => look4 ((((w.alloc A).alloc B).alloc C).alloc D) (w.heap.size + 1 + 1 + 1 + 1) (by simp)
  have HB := Lib.hid (blks6 w #[.slice Ad ds.length cd, .slice Aa ats.length ca] #[.int .i64 10, .int .i64 num, .int .i64 a, .slice A1 l1 c1, .slice A2 l2 c2] #[.int .i64 0] #[.bool false] #[.bool true] 76 30 3 4 4 (.map #[⟨.int .i64 3, .func (.func 106) #[] #[], 0⟩, ⟨.int .i64 8, .func (.func 107) #[] #[], 1⟩, ⟨.int .i64 9, .func (.func 108) #[] #[], 2⟩, ⟨.int .i64 10, .func (.func 109) #[] #[], 3⟩] 4))
  have HD := Lib.hid hd
  have HA := Lib.hid ha
  clear hd ha
  go_enter_defers Tryd.func85, Tryd.ntmps85
  go_wp2_with fail
  clear i1 i2 i3 i4 q1
  generalize ((((((w.alloc _).alloc _).alloc _).alloc _).alloc _).alloc _) = W at *
  obtain ⟨k0, k1, k2, k3, kb, hb, hsz⟩ := HB.out
  refine (must_any [true] _ _ (RdBs_blk kb (by simp))).mono ?_
  rintro e w' ⟨rfl, rfl⟩
  have g0 := k0.cell
  have g1 := k1.cell
  have n0 := k0.lt
  have n1 := k1.lt
  have H2 := Lib.hid (And.intro k2 (And.intro k3 (And.intro hb hsz)))
  have HC := Lib.hid (recursor_any ds ats _ _ 10 num a A1 A2 l1 c1 l2 c2 W (HD.out.below (keeps_of hb)) (HA.out.below (keeps_of hb)))
  clear k0 k1 k2 k3 kb hb hsz HB
  cases ho : recursorI ds ats num a with
  | none =>
    rw [ho] at HC
    have HO := Lib.hid ho
    clear ho
    go_wp2_with fail
    refine HC.out.mono ?_
    rintro e w1 ⟨rfl, hb1⟩
    obtain ⟨k2, k3, hb, hsz⟩ := H2.out
    have k2 := k2.below hb1
    have k3 := k3.below hb1
    have hw := hb.trans (hb1.mono hb.size)
    clear hb hb1 H2 hmf hmm g0 g1
    unfold absentEnd
    dsimp only
    refine leaves_cons (f := 105) (args := #[.pointer (some ⟨w.heap.size + 1 + 1, 0, none⟩), .pointer (some ⟨w.heap.size + 1 + 1 + 1, 0, none⟩)]) (by simp) (by simp [go_sem]) ?_
    refine (catch_panicking _ _ _ _ _ k2 k3).mono ?_
    rintro e u' w2 ⟨rfl, rfl, j2, j3, hj⟩
    have g2 := j2.cell
    have g3 := j3.cell
    have f2 := j2.frozen
    have f3 := j3.frozen
    have n2 := j2.lt
    have n3 := j3.lt
    have q2 := g2 0
    have q3 := g3 0
    refine ⟨.tuple #[.int .i64 0, .bool false], ?_, by rw [HO.out], hw.trans ((hj (w.heap.size + 2) (by omega)).mono (by omega))⟩
    simp [results, Tryd.results85, go_sem, q2, q3]
  | some n =>
    rw [ho] at HC
    have HO := Lib.hid ho
    clear ho
    go_wp2_with fail
    refine HC.out.mono ?_
    rintro e w1 ⟨rfl, hb1⟩
    obtain ⟨k2, k3, hb, hsz⟩ := H2.out
    have k2 := k2.below hb1
    have k3 := k3.below hb1
    have g2 := k2.cell
    have g3 := k3.cell
    have f2 := k2.frozen
    have f3 := k3.frozen
    have HE := Lib.hid (And.intro k2 (And.intro k3 (hb.trans (hb1.mono hb.size))))
    clear k2 k3 hb hb1 hsz
    go_wp2
    obtain ⟨k2, k3, hw⟩ := HE.out
    have j2 := (k2.set 0 (.int .i64 n)).far (b := w.heap.size + 1 + 1) (a := ⟨w.heap.size + 1 + 1 + 1, 0, none⟩) (by simp) (.bool true)
    have j3 := (k3.far (b := w.heap.size + 1 + 1 + 1) (a := ⟨w.heap.size + 1 + 1, 0, none⟩) (by simp) (.int .i64 n)).set 0 (.bool true)
    have hw := (hw.setCell (p := ⟨w.heap.size + 1 + 1, 0, none⟩) (by simp; omega) (.int .i64 n)).setCell (p := ⟨w.heap.size + 1 + 1 + 1, 0, none⟩) (by simp; omega) (.bool true)
    have g2 := j2.cell
    have g3 := j3.cell
    have f2 := j2.frozen
    have f3 := j3.frozen
    have n2 := j2.lt
    have n3 := j3.lt
    refine leaves_cons (f := 105) (args := #[.pointer (some ⟨w.heap.size + 1 + 1, 0, none⟩), .pointer (some ⟨w.heap.size + 1 + 1 + 1, 0, none⟩)]) (by simp) (by simp [go_sem]) ?_
    refine (catch_idle _ _ _).mono ?_
    rintro e u' w2 ⟨rfl, rfl, rfl⟩
    generalize ((w1.setCell _ _).setCell _ _) = w2 at *
    have q2 := g2 0
    have q3 := g3 0
    refine ⟨.tuple #[.int .i64 n, .bool true], ?_, by rw [HO.out], hw⟩
    simp [results, Tryd.results85, go_sem, q2, q3]
set_option maxRecDepth 100000 in
set_option maxHeartbeats 1000000 in
theorem name_other (ds : List Dc) (ats : List Int) (vd va : Value) (k num a : Int) (hk : k ≠ 3 ∧ k ≠ 8 ∧ k ≠ 9 ∧ k ≠ 10) (A1 A2 : Option Addr) (l1 c1 l2 c2 : Nat) (w : World) (hd : RdDs w vd ds) (ha : RdIs w va ats) :
    Calls Tryd.prog 85 #[.agg #[vd, va], .agg #[.int .i64 k, .int .i64 num, .int .i64 a, .slice A1 l1 c1, .slice A2 l2 c2]] w (NamePost w none) := by
  obtain ⟨Ad, cd, rfl, _⟩ := id hd
  obtain ⟨Aa, ca, rfl, _⟩ := id ha
  have hmf : ∀ (fn : Fn) (first cap : Array Value) (w : World), (Instr.makeFunc fn first cap).run Tryd.prog w = .ok (.func fn first cap) w := fun _ _ _ _ => rfl
  have hmm := @run_makeMap Tryd.prog
  have i1 := fun A B C D => ins1 ((((w.alloc A).alloc B).alloc C).alloc D) (w.heap.size + 1 + 1 + 1 + 1) (by simp)
  have i2 := fun A B C D => ins2 ((((w.alloc A).alloc B).alloc C).alloc D) (w.heap.size + 1 + 1 + 1 + 1) (by simp)
  have i3 := fun A B C D => ins3 ((((w.alloc A).alloc B).alloc C).alloc D) (w.heap.size + 1 + 1 + 1 + 1) (by simp)
  have i4 := fun A B C D => ins4 ((((w.alloc A).alloc B).alloc C).alloc D) (w.heap.size + 1 + 1 + 1 + 1) (by simp)
  have q1 := fun A B C D => look0 k hk ((((w.alloc A).alloc B).alloc C).alloc D) (w.heap.size + 1 + 1 + 1 + 1) (by simp)
  have HB := Lib.hid (blks6 w #[.slice Ad ds.length cd, .slice Aa ats.length ca] #[.int .i64 k, .int .i64 num, .int .i64 a, .slice A1 l1 c1, .slice A2 l2 c2] #[.int .i64 0] #[.bool false] #[.bool false] 76 30 3 4 4 (.map #[⟨.int .i64 3, .func (.func 106) #[] #[], 0⟩, ⟨.int .i64 8, .func (.func 107) #[] #[], 1⟩, ⟨.int .i64 9, .func (.func 108) #[] #[], 2⟩, ⟨.int .i64 10, .func (.func 109) #[] #[], 3⟩] 4))
  have HD := Lib.hid hd
  have HA := Lib.hid ha
  clear hd ha hk
  go_enter_defers Tryd.func85, Tryd.ntmps85
  go_wp2_with fail
  clear i1 i2 i3 i4 q1
  generalize ((((((w.alloc _).alloc _).alloc _).alloc _).alloc _).alloc _) = W at *
  obtain ⟨k0, k1, k2, k3, kb, hb, hsz⟩ := HB.out
  refine (must_any [false] _ _ (RdBs_blk kb (by simp))).mono ?_
  rintro e w' ⟨rfl, rfl⟩
  go_wp2
  refine leaves_cons (f := 105) (args := #[.pointer (some ⟨w.heap.size + 1 + 1, 0, none⟩), .pointer (some ⟨w.heap.size + 1 + 1 + 1, 0, none⟩)]) (by simp) (by simp [go_sem]) ?_
  refine (catch_panicking _ _ _ _ _ k2 k3).mono ?_
  rintro e u' w2 ⟨rfl, rfl, j2, j3, hj⟩
  have g2 := j2.cell
  have g3 := j3.cell
  have f2 := j2.frozen
  have f3 := j3.frozen
  have n2 := j2.lt
  have n3 := j3.lt
  have q2 := g2 0
  have q3 := g3 0
  refine ⟨.tuple #[.int .i64 0, .bool false], ?_, rfl, hb.trans ((hj (w.heap.size + 2) (by omega)).mono (by omega))⟩
  simp [results, Tryd.results85, go_sem, q2, q3]
theorem name_any (ds : List Dc) (ats : List Int) (vd va : Value) (k num a : Int) (A1 A2 : Option Addr) (l1 c1 l2 c2 : Nat) (w : World) (hd : RdDs w vd ds) (ha : RdIs w va ats) :
    Calls Tryd.prog 85 #[.agg #[vd, va], .agg #[.int .i64 k, .int .i64 num, .int .i64 a, .slice A1 l1 c1, .slice A2 l2 c2]] w (NamePost w (nameI ds ats k num a)) := by
  by_cases h3 : k = 3
  · subst h3; exact name_const ds ats vd va num a A1 A2 l1 c1 l2 c2 w hd ha
  by_cases h8 : k = 8
  · subst h8; exact name_member ds ats vd va num a A1 A2 l1 c1 l2 c2 w hd ha
  by_cases h9 : k = 9
  · subst h9; exact name_ctor ds ats vd va num a A1 A2 l1 c1 l2 c2 w hd ha
  by_cases h10 : k = 10
  · subst h10; exact name_recursor ds ats vd va num a A1 A2 l1 c1 l2 c2 w hd ha
  have : nameI ds ats k num a = none := by simp [nameI, h3, h8, h9, h10]
  rw [this]
  exact name_other ds ats vd va k num a ⟨h3, h8, h9, h10⟩ A1 A2 l1 c1 l2 c2 w hd ha
end Go.Proofs.YtkedcijfegoflaaDoor
