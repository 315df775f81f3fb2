/- carry: the deferred catch, name. -/
import Derived.Test.YtkedcijfegoflaaDoorName3
import Derived.Defers
import Derived.Recover
namespace Go.Proofs.YtkedcijfegoflaaDoor
set_option linter.unusedSimpArgs false
set_option linter.unusedVariables false
open Go Go.RowKit Go.Proofs.YtkedcijfegoflaaDoorW.PrintLast

set_option maxRecDepth 100000 in
set_option maxHeartbeats 400000 in
/-- The deferred function, called while a frame panics with 'absent': it recovers, and lays the results. -/
theorem catch_panicking (g : Nat) (x : Int) (y : Bool) (older : List PanicEntry) (w : World) (k0 : Blk w g #[.int .i64 x] 3) (k1 : Blk w (g + 1) #[.bool y] 4) :
    CallsD Tryd.prog 105 #[.pointer (some ⟨g, 0, none⟩), .pointer (some ⟨g + 1, 0, none⟩)] (.panicking ({ v := .iface 137 (.agg #[]), recovered := false } :: older)) w fun e u' w' =>
      e = .returned (.tuple #[]) ∧ u' = .panicking ({ v := .iface 137 (.agg #[]), recovered := true } :: older) ∧ Blk w' g #[.int .i64 0] 3 ∧ Blk w' (g + 1) #[.bool false] 4 ∧ (∀ N, N ≤ g → Below N w w') := by
  have hta : ∀ w, (Instr.typeAssert (.iface 137 (.agg #[])) 20 137 true).run Tryd.prog w = .ok (.tuple #[.agg #[], .bool true]) w := fun _ => by kernel_rfl
  have l0 := k0.lt
  have l1 := k1.lt
  have c0 := k0.cell
  have c1 := k1.cell
  have f0 := k0.frozen
  have f1 := k1.frozen
  refine callsD_of_wpS Tryd.func105 rfl fun c₀ cs hu => ?_
  apply wpS_seq
  apply wpS_region
  simp [wpOpsS, go_sem, recoverD, hu, Tryd.ntmps105, Exit.thenS]
  refine wpS_of_wp ?_
  simp only [Array.replicate_succ, Array.replicate_zero, List.push_toArray, List.setIfInBounds_toArray, List.append_toArray, List.nil_append, List.cons_append, List.set_cons_zero, List.set_cons_succ]
  go_wp2
  refine ⟨rfl, _, rfl, _, by simp [results, Tryd.results105], rfl, rfl, ?_, ?_, fun N hN => ?_⟩
  · exact ((k0.set 0 _).far (by simp) _).alloc _
  · exact ((k1.far (by simp) _).set 0 _).alloc _
  · exact (((Below.refl N w).setCell (p := ⟨g, 0, none⟩) (by exact hN) _).setCell (p := ⟨g + 1, 0, none⟩) (by show N ≤ g + 1; omega) _).alloc (by simp [World.setCell]; omega) _
set_option maxRecDepth 100000 in
set_option maxHeartbeats 400000 in
/-- .. while a frame returns: it does nothing. -/
theorem catch_idle (a b : Value) (w : World) :
    CallsD Tryd.prog 105 #[a, b] .returning w fun e u' w' => e = .returned (.tuple #[]) ∧ u' = .returning ∧ w = w' := by
  refine callsD_of_wpS Tryd.func105 rfl fun c₀ cs hu => ?_
  apply wpS_seq
  apply wpS_region
  simp [wpOpsS, go_sem, recoverD, hu, Tryd.ntmps105, Exit.thenS]
  refine wpS_of_wp ?_
  simp only [Array.replicate_succ, Array.replicate_zero, List.push_toArray, List.setIfInBounds_toArray, List.append_toArray, List.nil_append, List.cons_append, List.set_cons_zero, List.set_cons_succ]
  go_wp2
  cases c₀
  simp_all [bodyPostS, results, Tryd.results105]
/-! ### The map of what a name's constant is -/
theorem check_int {P : Program} {K : TypeId} {kd : IntKind} (hK : P.underlying K = some (.int kd)) (b : Bool) (key : Value) (W : World) : (Instr.checkKey b 10000 K key).run P W = .ok () W := by
  have h : ∀ n, (Instr.checkKey b (n + 1) K key).run P W = .ok () W := fun n => by simp [Instr.checkKey, run_underlying hK, Result.andThen]
  exact h 9999
theorem set_last (W : World) (o o' : Obj) : ChangeMaps.setBlock (W.alloc o) W.heap.size o' = W.alloc o' := by
  have h : (W.heap.push o).setIfInBounds W.heap.size o' = W.heap.push o' := by
    apply Array.ext'
    rw [Array.toList_setIfInBounds, Array.toList_push, Array.toList_push, List.set_append_right _ _ (by simp)]
    simp
  show World.mk ((W.heap.push o).setIfInBounds W.heap.size o') W.tape W.drawn W.os W.output = World.mk (W.heap.push o') W.tape W.drawn W.os W.output
  rw [h]
theorem ins_new {P : Program} {T K E : TypeId} {kd : IntKind} (hT : P.underlying T = some (.map K E)) (hK : P.underlying K = some (.int kd)) (es : Array MapEntry) (c : Nat) (key val : Value) (hf : Instr.findNow (.int kd) key es.toList 0 = some none) (W : World) :
    (Instr.mapUpdate T (.map (some W.heap.size)) key val).run P (W.alloc (.map es c)) = .ok () (W.alloc (.map (es.push { key, val, born := c }) (c + 1))) := by
  have hb : (W.alloc (.map es c)).heap[W.heap.size]? = some (.map es c) := heap_alloc_new W _
  simp [Instr.mapUpdate, run_underlying hT, MapKept.run_getObj_map hb, check_int hK, Instr.findKey, run_underlying hK, hf, MapKept.run_setObj_map _ hb, Result.andThen]
  exact set_last W _ _
def nameMap : Array MapEntry := #[⟨.int .i64 3, .func (.func 106) #[] #[], 0⟩, ⟨.int .i64 8, .func (.func 107) #[] #[], 1⟩, ⟨.int .i64 9, .func (.func 108) #[] #[], 2⟩, ⟨.int .i64 10, .func (.func 109) #[] #[], 3⟩]
theorem look_map {P : Program} {T K E : TypeId} {kd : IntKind} (hT : P.underlying T = some (.map K E)) (hK : P.underlying K = some (.int kd)) (es : Array MapEntry) (c : Nat) (key : Value) (i : Nat) (v : Value) (hf : Instr.findNow (.int kd) key es.toList 0 = some (some (i, v))) (W : World) :
    (Instr.lookup T (.map (some W.heap.size)) key true).run P (W.alloc (.map es c)) = .ok (.tuple #[v, .bool true]) (W.alloc (.map es c)) := by
  have hb : (W.alloc (.map es c)).heap[W.heap.size]? = some (.map es c) := heap_alloc_new W _
  simp [Instr.lookup, run_underlying hT, MapKept.run_getObj_map hb, check_int hK, Instr.findKey, run_underlying hK, hf, Result.andThen]
theorem look_none {P : Program} {T K E : TypeId} {kd : IntKind} (hT : P.underlying T = some (.map K E)) (hK : P.underlying K = some (.int kd)) (es : Array MapEntry) (c : Nat) (key z : Value) (hf : Instr.findNow (.int kd) key es.toList 0 = some none) (hz : ∀ w, (zeroValue E).run P w = .ok z w) (W : World) :
    (Instr.lookup T (.map (some W.heap.size)) key true).run P (W.alloc (.map es c)) = .ok (.tuple #[z, .bool false]) (W.alloc (.map es c)) := by
  have hb : (W.alloc (.map es c)).heap[W.heap.size]? = some (.map es c) := heap_alloc_new W _
  simp [Instr.lookup, run_underlying hT, MapKept.run_getObj_map hb, check_int hK, Instr.findKey, run_underlying hK, hf, hz, Result.andThen]
theorem ins1 (W : World) (g : Nat) (hg : W.heap.size = g) : (Instr.mapUpdate 141 (.map (some g)) (.int .i64 3) (.func (.func 106) #[] #[])).run Tryd.prog (W.alloc (.map #[] 0)) = .ok () (W.alloc (.map #[⟨.int .i64 3, .func (.func 106) #[] #[], 0⟩] 1)) := by
  subst hg
  exact ins_new (kd := .i64) Tryd.underlying141 Tryd.underlying26 #[] 0 _ _ rfl W
theorem ins2 (W : World) (g : Nat) (hg : W.heap.size = g) : (Instr.mapUpdate 141 (.map (some g)) (.int .i64 8) (.func (.func 107) #[] #[])).run Tryd.prog (W.alloc (.map #[⟨.int .i64 3, .func (.func 106) #[] #[], 0⟩] 1)) = .ok () (W.alloc (.map #[⟨.int .i64 3, .func (.func 106) #[] #[], 0⟩, ⟨.int .i64 8, .func (.func 107) #[] #[], 1⟩] 2)) := by
  subst hg
  exact ins_new (kd := .i64) Tryd.underlying141 Tryd.underlying26 #[⟨.int .i64 3, .func (.func 106) #[] #[], 0⟩] 1 _ _ rfl W
theorem ins3 (W : World) (g : Nat) (hg : W.heap.size = g) : (Instr.mapUpdate 141 (.map (some g)) (.int .i64 9) (.func (.func 108) #[] #[])).run Tryd.prog (W.alloc (.map #[⟨.int .i64 3, .func (.func 106) #[] #[], 0⟩, ⟨.int .i64 8, .func (.func 107) #[] #[], 1⟩] 2)) = .ok () (W.alloc (.map #[⟨.int .i64 3, .func (.func 106) #[] #[], 0⟩, ⟨.int .i64 8, .func (.func 107) #[] #[], 1⟩, ⟨.int .i64 9, .func (.func 108) #[] #[], 2⟩] 3)) := by
  subst hg
  exact ins_new (kd := .i64) Tryd.underlying141 Tryd.underlying26 #[⟨.int .i64 3, .func (.func 106) #[] #[], 0⟩, ⟨.int .i64 8, .func (.func 107) #[] #[], 1⟩] 2 _ _ rfl W
theorem ins4 (W : World) (g : Nat) (hg : W.heap.size = g) : (Instr.mapUpdate 141 (.map (some g)) (.int .i64 10) (.func (.func 109) #[] #[])).run Tryd.prog (W.alloc (.map #[⟨.int .i64 3, .func (.func 106) #[] #[], 0⟩, ⟨.int .i64 8, .func (.func 107) #[] #[], 1⟩, ⟨.int .i64 9, .func (.func 108) #[] #[], 2⟩] 3)) = .ok () (W.alloc (.map #[⟨.int .i64 3, .func (.func 106) #[] #[], 0⟩, ⟨.int .i64 8, .func (.func 107) #[] #[], 1⟩, ⟨.int .i64 9, .func (.func 108) #[] #[], 2⟩, ⟨.int .i64 10, .func (.func 109) #[] #[], 3⟩] 4)) := by
  subst hg
  exact ins_new (kd := .i64) Tryd.underlying141 Tryd.underlying26 #[⟨.int .i64 3, .func (.func 106) #[] #[], 0⟩, ⟨.int .i64 8, .func (.func 107) #[] #[], 1⟩, ⟨.int .i64 9, .func (.func 108) #[] #[], 2⟩] 3 _ _ rfl W
theorem look1 (W : World) (g : Nat) (hg : W.heap.size = g) : (Instr.lookup 141 (.map (some g)) (.int .i64 3) true).run Tryd.prog (W.alloc (.map #[⟨.int .i64 3, .func (.func 106) #[] #[], 0⟩, ⟨.int .i64 8, .func (.func 107) #[] #[], 1⟩, ⟨.int .i64 9, .func (.func 108) #[] #[], 2⟩, ⟨.int .i64 10, .func (.func 109) #[] #[], 3⟩] 4)) = .ok (.tuple #[.func (.func 106) #[] #[], .bool true]) (W.alloc (.map #[⟨.int .i64 3, .func (.func 106) #[] #[], 0⟩, ⟨.int .i64 8, .func (.func 107) #[] #[], 1⟩, ⟨.int .i64 9, .func (.func 108) #[] #[], 2⟩, ⟨.int .i64 10, .func (.func 109) #[] #[], 3⟩] 4)) := by
  subst hg
  exact look_map (kd := .i64) Tryd.underlying141 Tryd.underlying26 _ 4 _ 0 _ rfl W
theorem look2 (W : World) (g : Nat) (hg : W.heap.size = g) : (Instr.lookup 141 (.map (some g)) (.int .i64 8) true).run Tryd.prog (W.alloc (.map #[⟨.int .i64 3, .func (.func 106) #[] #[], 0⟩, ⟨.int .i64 8, .func (.func 107) #[] #[], 1⟩, ⟨.int .i64 9, .func (.func 108) #[] #[], 2⟩, ⟨.int .i64 10, .func (.func 109) #[] #[], 3⟩] 4)) = .ok (.tuple #[.func (.func 107) #[] #[], .bool true]) (W.alloc (.map #[⟨.int .i64 3, .func (.func 106) #[] #[], 0⟩, ⟨.int .i64 8, .func (.func 107) #[] #[], 1⟩, ⟨.int .i64 9, .func (.func 108) #[] #[], 2⟩, ⟨.int .i64 10, .func (.func 109) #[] #[], 3⟩] 4)) := by
  subst hg
  exact look_map (kd := .i64) Tryd.underlying141 Tryd.underlying26 _ 4 _ 1 _ rfl W
theorem look3 (W : World) (g : Nat) (hg : W.heap.size = g) : (Instr.lookup 141 (.map (some g)) (.int .i64 9) true).run Tryd.prog (W.alloc (.map #[⟨.int .i64 3, .func (.func 106) #[] #[], 0⟩, ⟨.int .i64 8, .func (.func 107) #[] #[], 1⟩, ⟨.int .i64 9, .func (.func 108) #[] #[], 2⟩, ⟨.int .i64 10, .func (.func 109) #[] #[], 3⟩] 4)) = .ok (.tuple #[.func (.func 108) #[] #[], .bool true]) (W.alloc (.map #[⟨.int .i64 3, .func (.func 106) #[] #[], 0⟩, ⟨.int .i64 8, .func (.func 107) #[] #[], 1⟩, ⟨.int .i64 9, .func (.func 108) #[] #[], 2⟩, ⟨.int .i64 10, .func (.func 109) #[] #[], 3⟩] 4)) := by
  subst hg
  exact look_map (kd := .i64) Tryd.underlying141 Tryd.underlying26 _ 4 _ 2 _ rfl W
theorem look4 (W : World) (g : Nat) (hg : W.heap.size = g) : (Instr.lookup 141 (.map (some g)) (.int .i64 10) true).run Tryd.prog (W.alloc (.map #[⟨.int .i64 3, .func (.func 106) #[] #[], 0⟩, ⟨.int .i64 8, .func (.func 107) #[] #[], 1⟩, ⟨.int .i64 9, .func (.func 108) #[] #[], 2⟩, ⟨.int .i64 10, .func (.func 109) #[] #[], 3⟩] 4)) = .ok (.tuple #[.func (.func 109) #[] #[], .bool true]) (W.alloc (.map #[⟨.int .i64 3, .func (.func 106) #[] #[], 0⟩, ⟨.int .i64 8, .func (.func 107) #[] #[], 1⟩, ⟨.int .i64 9, .func (.func 108) #[] #[], 2⟩, ⟨.int .i64 10, .func (.func 109) #[] #[], 3⟩] 4)) := by
  subst hg
  exact look_map (kd := .i64) Tryd.underlying141 Tryd.underlying26 _ 4 _ 3 _ rfl W
theorem look0 (k : Int) (h : k ≠ 3 ∧ k ≠ 8 ∧ k ≠ 9 ∧ k ≠ 10) (W : World) (g : Nat) (hg : W.heap.size = g) : (Instr.lookup 141 (.map (some g)) (.int .i64 k) true).run Tryd.prog (W.alloc (.map #[⟨.int .i64 3, .func (.func 106) #[] #[], 0⟩, ⟨.int .i64 8, .func (.func 107) #[] #[], 1⟩, ⟨.int .i64 9, .func (.func 108) #[] #[], 2⟩, ⟨.int .i64 10, .func (.func 109) #[] #[], 3⟩] 4)) = .ok (.tuple #[.nilFunc, .bool false]) (W.alloc (.map #[⟨.int .i64 3, .func (.func 106) #[] #[], 0⟩, ⟨.int .i64 8, .func (.func 107) #[] #[], 1⟩, ⟨.int .i64 9, .func (.func 108) #[] #[], 2⟩, ⟨.int .i64 10, .func (.func 109) #[] #[], 3⟩] 4)) := by
  subst hg
  exact look_none (kd := .i64) Tryd.underlying141 Tryd.underlying26 _ 4 _ _ (by simp [Instr.findNow, Instr.sameNow, beq_eq_false_iff_ne.2 h.1, beq_eq_false_iff_ne.2 h.2.1, beq_eq_false_iff_ne.2 h.2.2.1, beq_eq_false_iff_ne.2 h.2.2.2]) (fun _ => by kernel_rfl) W
theorem blks6 (w : World) (a b c d x : Array Value) (ea eb ec ed ex : TypeId) (M : Obj) :
    Blk ((((((w.alloc (.cells a ea)).alloc (.cells b eb)).alloc (.cells c ec)).alloc (.cells d ed)).alloc M).alloc (.cells x ex)) w.heap.size a ea ∧ Blk ((((((w.alloc (.cells a ea)).alloc (.cells b eb)).alloc (.cells c ec)).alloc (.cells d ed)).alloc M).alloc (.cells x ex)) (w.heap.size + 1) b eb ∧
    Blk ((((((w.alloc (.cells a ea)).alloc (.cells b eb)).alloc (.cells c ec)).alloc (.cells d ed)).alloc M).alloc (.cells x ex)) (w.heap.size + 1 + 1) c ec ∧ Blk ((((((w.alloc (.cells a ea)).alloc (.cells b eb)).alloc (.cells c ec)).alloc (.cells d ed)).alloc M).alloc (.cells x ex)) (w.heap.size + 1 + 1 + 1) d ed ∧
    Blk ((((((w.alloc (.cells a ea)).alloc (.cells b eb)).alloc (.cells c ec)).alloc (.cells d ed)).alloc M).alloc (.cells x ex)) (w.heap.size + 1 + 1 + 1 + 1 + 1) x ex ∧ Below w.heap.size w ((((((w.alloc (.cells a ea)).alloc (.cells b eb)).alloc (.cells c ec)).alloc (.cells d ed)).alloc M).alloc (.cells x ex)) ∧
    ((((((w.alloc (.cells a ea)).alloc (.cells b eb)).alloc (.cells c ec)).alloc (.cells d ed)).alloc M).alloc (.cells x ex)).heap.size = w.heap.size + 6 := by
  obtain ⟨h0, h1, h2, h3, hb, hsz⟩ := blks4 w a b c d ea eb ec ed
  have hx := Blk.new (((((w.alloc (.cells a ea)).alloc (.cells b eb)).alloc (.cells c ec)).alloc (.cells d ed)).alloc M) x ex
  rw [World.size_alloc, hsz] at hx
  exact ⟨(h0.alloc _).alloc _, (h1.alloc _).alloc _, (h2.alloc _).alloc _, (h3.alloc _).alloc _, hx, (hb.alloc (by omega) _).alloc (by rw [World.size_alloc]; omega) _, by rw [World.size_alloc, World.size_alloc, hsz]⟩
/-- The constant of a name. -/
def nameI (ds : List Dc) (ats : List Int) (k num place : Int) : Option Int :=
  if k = 3 then constantI ds ats num else if k = 8 then memberI ds ats num place else if k = 9 then ctorI ds ats num place else if k = 10 then recursorI ds ats num place else none
def NamePost (w : World) (o : Option Int) (e : Ending) (w' : World) : Prop := (e = match o with | some n => .returned (.tuple #[.int .i64 n, .bool true]) | none => .returned (.tuple #[.int .i64 0, .bool false])) ∧ Below w.heap.size w w'
set_option maxRecDepth 100000 in
set_option maxHeartbeats 1000000 in
theorem name_const (ds : List Dc) (ats : List Int) (vd va : Value) (num a : Int) (A1 A2 : Option Addr) (l1 c1 l2 c2 : Nat) (w : World) (hd : RdDs w vd ds) (ha : RdIs w va ats) :
    Calls Tryd.prog 85 #[.agg #[vd, va], .agg #[.int .i64 3, .int .i64 num, .int .i64 a, .slice A1 l1 c1, .slice A2 l2 c2]] w (NamePost w (constantI ds ats num)) := by
  obtain ⟨Ad, cd, rfl, _⟩ := id hd
  obtain ⟨Aa, ca, rfl, _⟩ := id ha
  have hmf : ∀ (fn : Fn) (first cap : Array Value) (w : World), (Instr.makeFunc fn first cap).run Tryd.prog w = .ok (.func fn first cap) w := fun _ _ _ _ => rfl
  have hmm := @run_makeMap Tryd.prog
  have i1 := fun A B C D => ins1 ((((w.alloc A).alloc B).alloc C).alloc D) (w.heap.size + 1 + 1 + 1 + 1) (by simp)
  have i2 := fun A B C D => ins2 ((((w.alloc A).alloc B).alloc C).alloc D) (w.heap.size + 1 + 1 + 1 + 1) (by simp)
  have i3 := fun A B C D => ins3 ((((w.alloc A).alloc B).alloc C).alloc D) (w.heap.size + 1 + 1 + 1 + 1) (by simp)
  have i4 := fun A B C D => ins4 ((((w.alloc A).alloc B).alloc C).alloc D) (w.heap.size + 1 + 1 + 1 + 1) (by simp)
  have q1 := fun A B C D => look1 ((((w.alloc A).alloc B).alloc C).alloc D) (w.heap.size + 1 + 1 + 1 + 1) (by simp)
  have HB := Lib.hid (blks6 w #[.slice Ad ds.length cd, .slice Aa ats.length ca] #[.int .i64 3, .int .i64 num, .int .i64 a, .slice A1 l1 c1, .slice A2 l2 c2] #[.int .i64 0] #[.bool false] #[.bool true] 76 30 3 4 4 (.map #[⟨.int .i64 3, .func (.func 106) #[] #[], 0⟩, ⟨.int .i64 8, .func (.func 107) #[] #[], 1⟩, ⟨.int .i64 9, .func (.func 108) #[] #[], 2⟩, ⟨.int .i64 10, .func (.func 109) #[] #[], 3⟩] 4))
  have HD := Lib.hid hd
  have HA := Lib.hid ha
  clear hd ha
  go_enter_defers Tryd.func85, Tryd.ntmps85
  go_wp2_with fail
  clear i1 i2 i3 i4 q1
  generalize ((((((w.alloc _).alloc _).alloc _).alloc _).alloc _).alloc _) = W at *
  obtain ⟨k0, k1, k2, k3, kb, hb, hsz⟩ := HB.out
  refine (must_any [true] _ _ (RdBs_blk kb (by simp))).mono ?_
  rintro e w' ⟨rfl, rfl⟩
  have g0 := k0.cell
  have g1 := k1.cell
  have n0 := k0.lt
  have n1 := k1.lt
  have H2 := Lib.hid (And.intro k2 (And.intro k3 (And.intro hb hsz)))
  have HC := Lib.hid (constant_any ds ats _ _ 3 num a A1 A2 l1 c1 l2 c2 W (HD.out.below (keeps_of hb)) (HA.out.below (keeps_of hb)))
  clear k0 k1 k2 k3 kb hb hsz HB
  cases ho : constantI ds ats num with
  | none =>
    rw [ho] at HC
    have HO := Lib.hid ho
    clear ho
    go_wp2_with fail
    refine HC.out.mono ?_
    rintro e w1 ⟨rfl, hb1⟩
    obtain ⟨k2, k3, hb, hsz⟩ := H2.out
    have k2 := k2.below hb1
    have k3 := k3.below hb1
    have hw := hb.trans (hb1.mono hb.size)
    clear hb hb1 H2 hmf hmm g0 g1
    unfold absentEnd
    dsimp only
    refine leaves_cons (f := 105) (args := #[.pointer (some ⟨w.heap.size + 1 + 1, 0, none⟩), .pointer (some ⟨w.heap.size + 1 + 1 + 1, 0, none⟩)]) (by simp) (by simp [go_sem]) ?_
    refine (catch_panicking _ _ _ _ _ k2 k3).mono ?_
    rintro e u' w2 ⟨rfl, rfl, j2, j3, hj⟩
    have g2 := j2.cell
    have g3 := j3.cell
    have f2 := j2.frozen
    have f3 := j3.frozen
    have n2 := j2.lt
    have n3 := j3.lt
    have q2 := g2 0
    have q3 := g3 0
    refine ⟨.tuple #[.int .i64 0, .bool false], ?_, by rw [HO.out], hw.trans ((hj (w.heap.size + 2) (by omega)).mono (by omega))⟩
    simp [results, Tryd.results85, go_sem, q2, q3]
  | some n =>
    rw [ho] at HC
    have HO := Lib.hid ho
    clear ho
    go_wp2_with fail
    refine HC.out.mono ?_
    rintro e w1 ⟨rfl, hb1⟩
    obtain ⟨k2, k3, hb, hsz⟩ := H2.out
    have k2 := k2.below hb1
    have k3 := k3.below hb1
    have g2 := k2.cell
    have g3 := k3.cell
    have f2 := k2.frozen
    have f3 := k3.frozen
    have HE := Lib.hid (And.intro k2 (And.intro k3 (hb.trans (hb1.mono hb.size))))
    clear k2 k3 hb hb1 hsz
    go_wp2
    obtain ⟨k2, k3, hw⟩ := HE.out
    have j2 := (k2.set 0 (.int .i64 n)).far (b := w.heap.size + 1 + 1) (a := ⟨w.heap.size + 1 + 1 + 1, 0, none⟩) (by simp) (.bool true)
    have j3 := (k3.far (b := w.heap.size + 1 + 1 + 1) (a := ⟨w.heap.size + 1 + 1, 0, none⟩) (by simp) (.int .i64 n)).set 0 (.bool true)
    have hw := (hw.setCell (p := ⟨w.heap.size + 1 + 1, 0, none⟩) (by simp; omega) (.int .i64 n)).setCell (p := ⟨w.heap.size + 1 + 1 + 1, 0, none⟩) (by simp; omega) (.bool true)
    have g2 := j2.cell
    have g3 := j3.cell
    have f2 := j2.frozen
    have f3 := j3.frozen
    have n2 := j2.lt
    have n3 := j3.lt
    refine leaves_cons (f := 105) (args := #[.pointer (some ⟨w.heap.size + 1 + 1, 0, none⟩), .pointer (some ⟨w.heap.size + 1 + 1 + 1, 0, none⟩)]) (by simp) (by simp [go_sem]) ?_
    refine (catch_idle _ _ _).mono ?_
    rintro e u' w2 ⟨rfl, rfl, rfl⟩
    generalize ((w1.setCell _ _).setCell _ _) = w2 at *
    have q2 := g2 0
    have q3 := g3 0
    refine ⟨.tuple #[.int .i64 n, .bool true], ?_, by rw [HO.out], hw⟩
    simp [results, Tryd.results85, go_sem, q2, q3]
end Go.Proofs.YtkedcijfegoflaaDoor
