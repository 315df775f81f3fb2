/- carry: the constant of a name. -/
import Derived.Test.YtkedcijfegoflaaDoorMust
namespace Go.Proofs.YtkedcijfegoflaaDoor
set_option linter.unusedSimpArgs false
set_option linter.unusedVariables false
open Go Go.RowKit Go.Proofs.YtkedcijfegoflaaDoorW.PrintLast

theorem RdIs_at {w : World} {b o : Nat} {l : List Int} (h : RdL (fun x cs => cs = [Value.int .i64 x]) 1 w b o l) (k : Nat) (hk : k < l.length) : w.cell? ⟨b, o + k, none⟩ = some (.int .i64 l[k]) ∧ b < w.heap.size := by
  obtain ⟨cs, _, rfl, ha⟩ := h.get k _ (List.getElem?_eq_getElem hk)
  have := ha 0 _ rfl
  rw [Nat.mul_one, Nat.add_zero] at this
  exact ⟨this, World.block_lt_of_cell? w _ this⟩
theorem RdD_at {w : World} {b o : Nat} {ds : List Dc} (h : RdL (RdD w) 16 w b o ds) (k : Nat) (hk : k < ds.length) : ∃ t0 t1 t2 b0 b1 b2 A1 l1 c1 A2 l2 c2 A3 l3 c3 A4 l4 c4 A5 l5 c5 A6 l6 c6 A7 c7 A8 c8,
    RdD w ds[k] [.int .i64 ds[k].kind, .int .i64 ds[k].levels, .int .i64 t0, .int .i64 t1, .int .i64 t2, .slice A1 l1 c1, .slice A2 l2 c2, .int .i64 b0, .int .i64 b1, .int .i64 b2, .slice A3 l3 c3, .slice A4 l4 c4, .slice A5 l5 c5, .slice A6 l6 c6, .slice A7 ds[k].members.length c7, .slice A8 ds[k].ctors.length c8] ∧
    w.cell? ⟨b, o + k * 16, none⟩ = some (.int .i64 ds[k].kind) ∧ w.cell? ⟨b, o + k * 16 + 1, none⟩ = some (.int .i64 ds[k].levels) ∧
    w.cell? ⟨b, o + k * 16 + 2, none⟩ = some (.int .i64 t0) ∧ w.cell? ⟨b, o + k * 16 + 3, none⟩ = some (.int .i64 t1) ∧ w.cell? ⟨b, o + k * 16 + 4, none⟩ = some (.int .i64 t2) ∧ w.cell? ⟨b, o + k * 16 + 5, none⟩ = some (.slice A1 l1 c1) ∧ w.cell? ⟨b, o + k * 16 + 6, none⟩ = some (.slice A2 l2 c2) ∧
    w.cell? ⟨b, o + k * 16 + 7, none⟩ = some (.int .i64 b0) ∧ w.cell? ⟨b, o + k * 16 + 8, none⟩ = some (.int .i64 b1) ∧ w.cell? ⟨b, o + k * 16 + 9, none⟩ = some (.int .i64 b2) ∧ w.cell? ⟨b, o + k * 16 + 10, none⟩ = some (.slice A3 l3 c3) ∧ w.cell? ⟨b, o + k * 16 + 11, none⟩ = some (.slice A4 l4 c4) ∧
    w.cell? ⟨b, o + k * 16 + 12, none⟩ = some (.slice A5 l5 c5) ∧ w.cell? ⟨b, o + k * 16 + 13, none⟩ = some (.slice A6 l6 c6) ∧ w.cell? ⟨b, o + k * 16 + 14, none⟩ = some (.slice A7 ds[k].members.length c7) ∧ w.cell? ⟨b, o + k * 16 + 15, none⟩ = some (.slice A8 ds[k].ctors.length c8) ∧ b < w.heap.size := by
  obtain ⟨cs, hl, hr, ha⟩ := h.get k _ (List.getElem?_eq_getElem hk)
  obtain ⟨t0, t1, t2, b0, b1, b2, A1, l1, c1, A2, l2, c2, A3, l3, c3, A4, l4, c4, A5, l5, c5, A6, l6, c6, A7, c7, A8, c8, rfl⟩ := hr.cells
  have h0 := ha 0 _ rfl
  exact ⟨t0, t1, t2, b0, b1, b2, A1, l1, c1, A2, l2, c2, A3, l3, c3, A4, l4, c4, A5, l5, c5, A6, l6, c6, A7, c7, A8, c8, hr, h0, ha 1 _ rfl, ha 2 _ rfl, ha 3 _ rfl, ha 4 _ rfl, ha 5 _ rfl, ha 6 _ rfl, ha 7 _ rfl, ha 8 _ rfl, ha 9 _ rfl, ha 10 _ rfl, ha 11 _ rfl, ha 12 _ rfl, ha 13 _ rfl, ha 14 _ rfl, ha 15 _ rfl, World.block_lt_of_cell? w _ h0⟩

/-- A declaration and its base, by number. -/
def ofI (ds : List Dc) (ats : List Int) (num : Int) : Option (Dc × Int) :=
  if h : 0 ≤ num ∧ num < ds.length ∧ num < ats.length then some (ds[num.toNat]'(by omega), ats[num.toNat]'(by omega)) else none
def OfPost (w : World) : Option (Dc × Int) → Ending → World → Prop
  | some (d, b), e, w' => ∃ cs, e = .returned (.tuple #[.agg cs.toArray, .int .i64 b]) ∧ RdD w d cs ∧ Below w.heap.size w w'
  | none, e, w' => e = absentEnd ∧ Below w.heap.size w w'
set_option maxRecDepth 100000 in
set_option maxHeartbeats 1000000 in
theorem of_no (ds : List Dc) (ats : List Int) (vd va : Value) (k num a : Int) (A1 A2 : Option Addr) (l1 c1 l2 c2 : Nat) (w : World) (hd : RdDs w vd ds) (ha : RdIs w va ats) (hno : ¬ (0 ≤ num ∧ num < ds.length ∧ num < ats.length)) :
    Calls Tryd.prog 118 #[.agg #[vd, va], .agg #[.int .i64 k, .int .i64 num, .int .i64 a, .slice A1 l1 c1, .slice A2 l2 c2]] w fun e w' => e = absentEnd ∧ Below w.heap.size w w' := by
  obtain ⟨Ad, cd, rfl, _⟩ := id hd
  obtain ⟨Aa, ca, rfl, _⟩ := id ha
  obtain ⟨k0, k1, k2, k3, hb, hsz⟩ := blks4 w #[.slice Ad ds.length cd, .slice Aa ats.length ca] #[.int .i64 k, .int .i64 num, .int .i64 a, .slice A1 l1 c1, .slice A2 l2 c2]
    #[.int .i64 0, .int .i64 0, .int .i64 0, .int .i64 0, .int .i64 0, .slice none 0 0, .slice none 0 0, .int .i64 0, .int .i64 0, .int .i64 0, .slice none 0 0, .slice none 0 0, .slice none 0 0, .slice none 0 0, .slice none 0 0, .slice none 0 0] #[.bool (decide (0 ≤ num)), .bool (decide (num < ds.length)), .bool (decide (num < ats.length))] 74 30 42 4
  have HC := Lib.hid (must_any [decide (0 ≤ num), decide (num < ds.length), decide (num < ats.length)] _ _ (RdBs_blk k3 (by simp)))
  rw [show [decide (0 ≤ num), decide (num < (ds.length : Int)), decide (num < (ats.length : Int))].all id = false by simp; omega] at HC
  have HB := Lib.hid hb
  clear hd ha k0 k1 k2 k3 hb hsz hno
  go_enter Tryd.func118, Tryd.ntmps118
  go_wp2_with fail
  refine HC.out.mono ?_
  rintro e w' ⟨rfl, rfl⟩
  exact ⟨rfl, rfl, HB.out⟩

theorem ret_decl_tmp {fn : Func} {p u : Tmp} (h : fn.results = #[.cell p 42, .tmp u]) {tmps : Array Value} {w : World} {g : Nat} {c0 c1 c2 c3 c4 c5 c6 c7 c8 c9 c10 c11 c12 c13 c14 c15 x : Value} (hp : tmps.getD p undef = .pointer (some ⟨g, 0, none⟩)) (hx : tmps.getD u undef = x) (hg : Blk w g #[c0, c1, c2, c3, c4, c5, c6, c7, c8, c9, c10, c11, c12, c13, c14, c15] 42) :
    (results fn tmps).run Tryd.prog w = .ok (.tuple #[.agg #[c0, c1, c2, c3, c4, c5, c6, c7, c8, c9, c10, c11, c12, c13, c14, c15], x]) w := by
  have hp' : tmps[p]?.getD undef = .pointer (some ⟨g, 0, none⟩) := by simpa using hp
  have hx' : tmps[u]?.getD undef = x := by simpa using hx
  have hl := run_loadVar_row (P := Tryd.prog) w g 42 42 #[c0, c1, c2, c3, c4, c5, c6, c7, c8, c9, c10, c11, c12, c13, c14, c15] (0, 0) _ hg Tryd.underlying42 rfl (by simp only [List.size_toArray, List.length_cons, List.length_nil]; kernel_rfl)
  simp [results, h, hp', hx', asAddr, hl]
def put16 (w : World) (g : Nat) (c0 c1 c2 c3 c4 c5 c6 c7 c8 c9 c10 c11 c12 c13 c14 c15 : Value) : World :=
  (((((((((((((((w.setCell ⟨g, 0, none⟩ c0).setCell ⟨g, 1, none⟩ c1).setCell ⟨g, 2, none⟩ c2).setCell ⟨g, 3, none⟩ c3).setCell ⟨g, 4, none⟩ c4).setCell ⟨g, 5, none⟩ c5).setCell ⟨g, 6, none⟩ c6).setCell ⟨g, 7, none⟩ c7).setCell ⟨g, 8, none⟩ c8).setCell ⟨g, 9, none⟩ c9).setCell ⟨g, 10, none⟩ c10).setCell ⟨g, 11, none⟩ c11).setCell ⟨g, 12, none⟩ c12).setCell ⟨g, 13, none⟩ c13).setCell ⟨g, 14, none⟩ c14).setCell ⟨g, 15, none⟩ c15
theorem put16_blk {w : World} {g : Nat} {d0 d1 d2 d3 d4 d5 d6 d7 d8 d9 d10 d11 d12 d13 d14 d15 c0 c1 c2 c3 c4 c5 c6 c7 c8 c9 c10 c11 c12 c13 c14 c15 : Value} {e : TypeId} (h : Blk w g #[d0, d1, d2, d3, d4, d5, d6, d7, d8, d9, d10, d11, d12, d13, d14, d15] e) : Blk (put16 w g c0 c1 c2 c3 c4 c5 c6 c7 c8 c9 c10 c11 c12 c13 c14 c15) g #[c0, c1, c2, c3, c4, c5, c6, c7, c8, c9, c10, c11, c12, c13, c14, c15] e := by
  have H := (((((((((((((((h.set 0 c0).set 1 c1).set 2 c2).set 3 c3).set 4 c4).set 5 c5).set 6 c6).set 7 c7).set 8 c8).set 9 c9).set 10 c10).set 11 c11).set 12 c12).set 13 c13).set 14 c14).set 15 c15
  simpa [put16] using H
theorem put16_at (w : World) (g : Nat) (c0 c1 c2 c3 c4 c5 c6 c7 c8 c9 c10 c11 c12 c13 c14 c15 : Value) (b : Nat) (hb : b ≠ g) : (put16 w g c0 c1 c2 c3 c4 c5 c6 c7 c8 c9 c10 c11 c12 c13 c14 c15).heap[b]? = w.heap[b]? := by
  unfold put16
  iterate 16 rw [Below.heap_setCell _ _ _ _ (by exact hb)]
theorem put16_below {N : Nat} {w w2 : World} {g : Nat} {c0 c1 c2 c3 c4 c5 c6 c7 c8 c9 c10 c11 c12 c13 c14 c15 : Value} (h : Below N w w2) (hN : N ≤ g) : Below N w (put16 w2 g c0 c1 c2 c3 c4 c5 c6 c7 c8 c9 c10 c11 c12 c13 c14 c15) :=
  (((((((((((((((h.setCell (by exact hN) _).setCell (by exact hN) _).setCell (by exact hN) _).setCell (by exact hN) _).setCell (by exact hN) _).setCell (by exact hN) _).setCell (by exact hN) _).setCell (by exact hN) _).setCell (by exact hN) _).setCell (by exact hN) _).setCell (by exact hN) _).setCell (by exact hN) _).setCell (by exact hN) _).setCell (by exact hN) _).setCell (by exact hN) _).setCell (by exact hN) _

theorem put16_keeps {w : World} {g N : Nat} {c0 c1 c2 c3 c4 c5 c6 c7 c8 c9 c10 c11 c12 c13 c14 c15 : Value} (h : N ≤ g) : ∀ b o, b < N → (put16 w g c0 c1 c2 c3 c4 c5 c6 c7 c8 c9 c10 c11 c12 c13 c14 c15).cell? ⟨b, o, none⟩ = w.cell? ⟨b, o, none⟩ :=
  fun b o hb => World.cell?_of_block (a := ⟨b, o, none⟩) (put16_at w g c0 c1 c2 c3 c4 c5 c6 c7 c8 c9 c10 c11 c12 c13 c14 c15 b (by omega))
theorem put16_keepsD {w : World} {g N : Nat} {c0 c1 c2 c3 c4 c5 c6 c7 c8 c9 c10 c11 c12 c13 c14 c15 : Value} (h : N ≤ g) : ∀ b o, b < N → (put16 w g c0 c1 c2 c3 c4 c5 c6 c7 c8 c9 c10 c11 c12 c13 c14 c15).drew.cell? ⟨b, o, none⟩ = w.cell? ⟨b, o, none⟩ := keepsD (put16_keeps h)
theorem of_end {fn : Func} {p u : Tmp} (h : fn.results = #[.cell p 42, .tmp u]) {a0 : Act} {w w2 : World} {g : Nat} {d0 d1 d2 d3 d4 d5 d6 d7 d8 d9 d10 d11 d12 d13 d14 d15 c0 c1 c2 c3 c4 c5 c6 c7 c8 c9 c10 c11 c12 c13 c14 c15 : Value} {x : Int} {d : Dc} (hp : a0.tmps.getD p undef = .pointer (some ⟨g, 0, none⟩)) (hx : a0.tmps.getD u undef = .int .i64 x) (hd : a0.defers = [])
    (hg : Blk w2 g #[d0, d1, d2, d3, d4, d5, d6, d7, d8, d9, d10, d11, d12, d13, d14, d15] 42) (hr : RdD w d [c0, c1, c2, c3, c4, c5, c6, c7, c8, c9, c10, c11, c12, c13, c14, c15]) (hb : Below w.heap.size w w2) (hg0 : w.heap.size ≤ g) :
    bodyPost Tryd.prog fn (fun e w' => ∃ cs, e = .returned (.tuple #[.agg cs.toArray, .int .i64 x]) ∧ RdD w d cs ∧ Below w.heap.size w w') Exit.ret a0 (put16 w2 g c0 c1 c2 c3 c4 c5 c6 c7 c8 c9 c10 c11 c12 c13 c14 c15).drew :=
  bodyPost_ret (ret_decl_tmp h hp hx (put16_blk hg).drew) hd ⟨_, rfl, hr, (put16_below hb hg0).drew⟩
set_option maxRecDepth 100000 in
set_option maxHeartbeats 3000000 in
theorem of_yes (ds : List Dc) (ats : List Int) (vd va : Value) (k a : Int) (num : Nat) (A1 A2 : Option Addr) (l1 c1 l2 c2 : Nat) (w : World) (hd : RdDs w vd ds) (ha : RdIs w va ats) (h1 : num < ds.length) (h2 : num < ats.length) :
    Calls Tryd.prog 118 #[.agg #[vd, va], .agg #[.int .i64 k, .int .i64 num, .int .i64 a, .slice A1 l1 c1, .slice A2 l2 c2]] w fun e w' => ∃ cs, e = .returned (.tuple #[.agg cs.toArray, .int .i64 ats[num]]) ∧ RdD w ds[num] cs ∧ Below w.heap.size w w' := by
  obtain ⟨Ad, cd, rfl, hcd, hmd, hrd⟩ := id hd
  obtain ⟨Aa, ca, rfl, hca, hma, hra⟩ := id ha
  obtain ⟨k0, k1, k2, k3, hb, hsz⟩ := blks4 w #[.slice Ad ds.length cd, .slice Aa ats.length ca] #[.int .i64 k, .int .i64 num, .int .i64 a, .slice A1 l1 c1, .slice A2 l2 c2]
    #[.int .i64 0, .int .i64 0, .int .i64 0, .int .i64 0, .int .i64 0, .slice none 0 0, .slice none 0 0, .int .i64 0, .int .i64 0, .int .i64 0, .slice none 0 0, .slice none 0 0, .slice none 0 0, .slice none 0 0, .slice none 0 0, .slice none 0 0] #[.bool true, .bool true, .bool true] 74 30 42 4
  have HC := Lib.hid (must_any [true, true, true] _ _ (RdBs_blk k3 (by simp)))
  rcases hrd with rfl | ⟨bd, od, rfl, hrd⟩
  · simp at h1
  rcases hra with rfl | ⟨ba, oa, rfl, hra⟩
  · simp at h2
  obtain ⟨ea, hlt⟩ := RdIs_at hra num h2
  obtain ⟨t0, t1, t2, b0, b1, b2, A3, l3, c3, A4, l4, c4, A5, l5, c5, A6, l6, c6, A7, l7, c7, A8, l8, c8, A9, c9, A10, c10, hR, e0, e1, e2, e3, e4, e5, e6, e7, e8, e9, e10, e11, e12, e13, e14, e15, hlt'⟩ := RdD_at hrd num h1
  have HB := Lib.hid hb
  have HR := Lib.hid hR
  clear hd ha hcd hmd hca hma hR hra hrd
  go_enter Tryd.func118, Tryd.ntmps118
  have H2 := Lib.hid k2
  have q0 := k0.cell
  have q1 := k1.cell
  have hcw := (bcell hb).1
  have n0 := k0.lt
  have n1 := k1.lt
  clear k0 k1 k2 k3 hb hsz
  go_wp2_with fail
  refine HC.out.mono ?_
  rintro e w' ⟨rfl, rfl⟩
  go_wp2_with fail
  have c2' := H2.out.cell
  have f2' := H2.out.frozen
  generalize ((((w.alloc _).alloc _).alloc _).alloc _) = W at *
  have m0 := Nat.lt_of_lt_of_le hlt HB.out.size
  have m1 := Nat.lt_of_lt_of_le hlt' HB.out.size
  have hn0 : (0 : Int) ≤ (num : Int) := Int.natCast_nonneg _
  have hn1 : (num : Int) < (ds.length : Int) := by omega
  have hn2 : (num : Int) < (ats.length : Int) := by omega
  have x0 : bd < w.heap.size + 2 := by omega
  have x1 : ba < w.heap.size + 2 := by omega
  have x2 : w.heap.size < w.heap.size + 2 := by omega
  have x3 : w.heap.size + 1 < w.heap.size + 2 := by omega
  refine start_ (n := 14) (S := fun W' => ∀ b o, b < w.heap.size + 2 → W'.cell? ⟨b, o, none⟩ = W.cell? ⟨b, o, none⟩) (ds := []) #[false, false, false, false, false, false, false, false, false, false, false, false, false, false] (by kernel_rfl) rfl rfl (by exact (fun _ _ _ => rfl)) (fun hHeld => ?_)
  refine take_ (i := 0) (N := some 23) (v := ?_) (a' := ?_) #[true, false, false, false, false, false, false, false, false, false, false, false, false, false] rfl rfl (by kernel_rfl) (fun _ _ _ h => h) (Or.inl ⟨by rfl, ?_⟩) hHeld ?_ ?_
  rotate_left
  · rintro w' hS'
    go_simp
    with_reducible rfl
  rotate_left
  · simp only [Act.put, List.setIfInBounds_toArray, List.set_cons_zero, List.set_cons_succ]
    rfl
  refine take_ (i := 1) (N := some 24) (v := ?_) (a' := ?_) #[true, true, false, false, false, false, false, false, false, false, false, false, false, false] rfl rfl (by kernel_rfl) (fun _ _ _ h => h) (Or.inl ⟨by rfl, ?_⟩) hHeld ?_ ?_
  rotate_left
  · rintro w' hS'
    go_simp
    with_reducible rfl
  rotate_left
  · simp only [Act.put, List.setIfInBounds_toArray, List.set_cons_zero, List.set_cons_succ]
    rfl
  refine take_ (i := 2) (N := some 25) (v := ?_) (a' := ?_) #[true, true, true, false, false, false, false, false, false, false, false, false, false, false] rfl rfl (by kernel_rfl) (fun _ _ _ h => h) (Or.inl ⟨by rfl, ?_⟩) hHeld ?_ ?_
  rotate_left
  · rintro w' hS'
    go_simp
    with_reducible rfl
  rotate_left
  · simp only [Act.put, List.setIfInBounds_toArray, List.set_cons_zero, List.set_cons_succ]
    rfl
  refine take_ (i := 3) (N := some 26) (v := ?_) (a' := ?_) #[true, true, true, true, false, false, false, false, false, false, false, false, false, false] rfl rfl (by kernel_rfl) (fun _ _ _ h => h) (Or.inl ⟨by rfl, ?_⟩) hHeld ?_ ?_
  rotate_left
  · rintro w' hS'
    go_simp
    with_reducible rfl
  rotate_left
  · simp only [Act.put, List.setIfInBounds_toArray, List.set_cons_zero, List.set_cons_succ]
    rfl
  refine take_ (i := 4) (N := some 27) (v := ?_) (a' := ?_) #[true, true, true, true, true, false, false, false, false, false, false, false, false, false] rfl rfl (by kernel_rfl) (fun _ _ _ h => h) (Or.inl ⟨by rfl, ?_⟩) hHeld ?_ ?_
  rotate_left
  · rintro w' hS'
    go_simp
    with_reducible rfl
  rotate_left
  · simp only [Act.put, List.setIfInBounds_toArray, List.set_cons_zero, List.set_cons_succ]
    rfl
  refine take_ (i := 5) (N := some 28) (v := ?_) (a' := ?_) #[true, true, true, true, true, true, false, false, false, false, false, false, false, false] rfl rfl (by kernel_rfl) (fun _ _ _ h => h) (Or.inl ⟨by rfl, ?_⟩) hHeld ?_ ?_
  rotate_left
  · rintro w' hS'
    go_simp
    with_reducible rfl
  rotate_left
  · simp only [Act.put, List.setIfInBounds_toArray, List.set_cons_zero, List.set_cons_succ]
    rfl
  refine take_ (i := 6) (N := some 29) (v := ?_) (a' := ?_) #[true, true, true, true, true, true, true, false, false, false, false, false, false, false] rfl rfl (by kernel_rfl) (fun _ _ _ h => h) (Or.inl ⟨by rfl, ?_⟩) hHeld ?_ ?_
  rotate_left
  · rintro w' hS'
    go_simp
    with_reducible rfl
  rotate_left
  · simp only [Act.put, List.setIfInBounds_toArray, List.set_cons_zero, List.set_cons_succ]
    rfl
  refine take_ (i := 7) (N := some 30) (v := ?_) (a' := ?_) #[true, true, true, true, true, true, true, true, false, false, false, false, false, false] rfl rfl (by kernel_rfl) (fun _ _ _ h => h) (Or.inl ⟨by rfl, ?_⟩) hHeld ?_ ?_
  rotate_left
  · rintro w' hS'
    go_simp
    with_reducible rfl
  rotate_left
  · simp only [Act.put, List.setIfInBounds_toArray, List.set_cons_zero, List.set_cons_succ]
    rfl
  refine take_ (i := 8) (N := some 31) (v := ?_) (a' := ?_) #[true, true, true, true, true, true, true, true, true, false, false, false, false, false] rfl rfl (by kernel_rfl) (fun _ _ _ h => h) (Or.inl ⟨by rfl, ?_⟩) hHeld ?_ ?_
  rotate_left
  · rintro w' hS'
    go_simp
    with_reducible rfl
  rotate_left
  · simp only [Act.put, List.setIfInBounds_toArray, List.set_cons_zero, List.set_cons_succ]
    rfl
  refine take_ (i := 9) (N := some 32) (v := ?_) (a' := ?_) #[true, true, true, true, true, true, true, true, true, true, false, false, false, false] rfl rfl (by kernel_rfl) (fun _ _ _ h => h) (Or.inl ⟨by rfl, ?_⟩) hHeld ?_ ?_
  rotate_left
  · rintro w' hS'
    go_simp
    with_reducible rfl
  rotate_left
  · simp only [Act.put, List.setIfInBounds_toArray, List.set_cons_zero, List.set_cons_succ]
    rfl
  refine take_ (i := 10) (N := some 33) (v := ?_) (a' := ?_) #[true, true, true, true, true, true, true, true, true, true, true, false, false, false] rfl rfl (by kernel_rfl) (fun _ _ _ h => h) (Or.inl ⟨by rfl, ?_⟩) hHeld ?_ ?_
  rotate_left
  · rintro w' hS'
    go_simp
    with_reducible rfl
  rotate_left
  · simp only [Act.put, List.setIfInBounds_toArray, List.set_cons_zero, List.set_cons_succ]
    rfl
  refine take_ (i := 11) (N := some 34) (v := ?_) (a' := ?_) #[true, true, true, true, true, true, true, true, true, true, true, true, false, false] rfl rfl (by kernel_rfl) (fun _ _ _ h => h) (Or.inl ⟨by rfl, ?_⟩) hHeld ?_ ?_
  rotate_left
  · rintro w' hS'
    go_simp
    with_reducible rfl
  rotate_left
  · simp only [Act.put, List.setIfInBounds_toArray, List.set_cons_zero, List.set_cons_succ]
    rfl
  refine one_ (i := 12) (N := none) #[true, true, true, true, true, true, true, true, true, true, true, true, true, false] rfl rfl (by kernel_rfl) (by decide) (fun K hK => ?_)
  go_simp
  refine hK.out _ _ (put16_keepsD (by omega)) (fun hHeld => ?_)
  clear hK K
  refine norm_ (a' := ?_) ?_ ?_
  rotate_left
  · first
      | rfl
      | (simp only [Act.put, List.setIfInBounds_toArray, List.set_cons_zero, List.set_cons_succ]; rfl)
  refine pure_ (i := 13) (N := some 5) (v := ?_) (a' := ?_) #[true, true, true, true, true, true, true, true, true, true, true, true, true, true] rfl rfl (by kernel_rfl) (fun _ _ _ h => h) (Or.inl ⟨by rfl, ?_⟩) ?_ ?_
  rotate_left
  · rintro w'
    go_simp
    with_reducible rfl
  rotate_left
  · simp only [Act.put, List.setIfInBounds_toArray, List.set_cons_zero, List.set_cons_succ]
    rfl
  refine done_ (by kernel_rfl) ?_
  go_wp2
  exact of_end Tryd.results118 rfl rfl rfl H2.out HR.out HB.out (by omega)
theorem of_any (ds : List Dc) (ats : List Int) (vd va : Value) (k num a : Int) (A1 A2 : Option Addr) (l1 c1 l2 c2 : Nat) (w : World) (hd : RdDs w vd ds) (ha : RdIs w va ats) :
    Calls Tryd.prog 118 #[.agg #[vd, va], .agg #[.int .i64 k, .int .i64 num, .int .i64 a, .slice A1 l1 c1, .slice A2 l2 c2]] w (OfPost w (ofI ds ats num)) := by
  by_cases h : 0 ≤ num ∧ num < ds.length ∧ num < ats.length
  · obtain ⟨n, rfl⟩ := Int.eq_ofNat_of_zero_le h.1
    rw [show ofI ds ats (n : Int) = some (ds[n]'(by omega), ats[n]'(by omega)) from by unfold ofI; rw [dif_pos h]; rfl]
    exact of_yes ds ats vd va k a n A1 A2 l1 c1 l2 c2 w hd ha (by omega) (by omega)
  · rw [show ofI ds ats num = none from by unfold ofI; rw [dif_neg h]]
    exact of_no ds ats vd va k num a A1 A2 l1 c1 l2 c2 w hd ha h
end Go.Proofs.YtkedcijfegoflaaDoor
