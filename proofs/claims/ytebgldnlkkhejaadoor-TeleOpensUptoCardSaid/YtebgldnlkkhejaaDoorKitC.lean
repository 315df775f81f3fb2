/- A range over an iterator that moves cells of the caller's between its rounds (the body goes on each time). -/
import Derived.Test.YtebgldnlkkhejaaDoorKitB
import Derived.Sort.LoopGhostIn
import Derived.BigRegionIn
import Derived.Shelf.SlicesQ.Reverse
import Derived.RangeFuncCalls
import Derived.Test.YtebgldnlkkhejaaDoorKitA
import Derived.Test.YtebgldnlkkhejaaDoorWMore
import Derived.Deep.LoopGhost
namespace Go.Proofs.YtebgldnlkkhejaaDoor
set_option linter.unusedSimpArgs false
set_option linter.unusedVariables false
open Go Go.RowKit Go.Proofs.YtebgldnlkkhejaaDoorW.PrintLast

/-- How a round's body ends: it goes on. -/
def GoesOn (B : Nat) (Kp : World → World → Prop) (I : World → Prop) (W : World) : Exit → Act → World → Prop
  | .normal, _, W' => KeepsFrom B W W' ∧ Kp W W' ∧ I W'
  | _, _, _ => False
/-- Mv: what the iterator may do to cells of the caller's between two rounds; the caller's invariant abides it. X: what the iterator tells at its end. -/
theorem range_tells {α : Type} {F : Fence} {n : Nat} {P : Program} {g : Operand} {ps : Array Tmp} {assign body : Code} {Q : Exit → Act → World → Prop} {a : Act} {w : World}
    (hro : F.round = none) (h1 : 1 ≤ n) {gf : Nat} {lb : Array Value} (hg : a.eval g = .func (.func gf) #[] lb) (hFg : F.fn gf) (eg : ∀ args w, (callFunc gf args).run P w = .ok (.enter gf args) w)
    {encs : α → Array Value} (hps : ∀ x, (encs x).size = ps.size) {G : α → Prop} {N : Nat} (Kp Mv : World → World → Prop) (I X : List α → World → Prop)
    (hKt : ∀ {A B C : World}, Kp A B → Kp B C → Kp A C) (hKb : ∀ (W : World) (l : Nat) (o o' : Obj), w.heap.size ≤ l → W.heap[l]? = some o → o.isCells = false → Kp W (W.putObj l o'))
    (hMv : ∀ A B, Mv A B → ∀ q, w.heap.size ≤ q → q < A.heap.size → B.heap[q]? = A.heap[q]?)
    (hI : OwnFrom w.heap.size I) (hX : OwnFrom w.heap.size X) (hIM : ∀ pre A B, Mv A B → I pre A → I pre B) (h0 : I [] w)
    (hseq : ∀ (l : Nat) (J : List α → World → Prop) (W : World), Below w.heap.size w W → (∀ pre A B, Mv A B → J pre A → J pre B) →
      (∀ pre x W1, J pre W1 → G x → pre.length < N → YieldAt F (n - 1 - 1) P l (encs x) W1 fun e W' => e = .returned (.bool true) ∧ J (pre ++ [x]) W' ∧ Kp W1 W') → J [] W →
      CallsIn F (n - 1) P gf (#[.func (.yield l) #[] #[]] ++ lb) W fun e W' => (∃ v, e = .returned v) ∧ ∃ xs, X xs W' ∧ J xs W')
    (Ax : α → Act → World → Prop) (hAx : ∀ x a', OwnFrom w.heap.size (fun (_ : Unit) W => Ax x a' W))
    (hassign : ∀ (l : Nat) (pre : List α) (x : α) (W : World) (K : Act → World → Prop), I pre W → G x → (∀ a' W', KeepsFrom w.heap.size W W' → Kp W W' → I pre W' → Ax x a' W' → K a' W') →
      assign.wpIn (F.inRound l) (n - 1 - 1) P (Exit.then K (fun _ _ _ => False)) { tmps := (ps.zip (encs x)).foldl (fun t (p, v) => t.setIfInBounds p v) a.tmps, defers := [] } W)
    (hbody : ∀ (l : Nat) (pre : List α) (x : α) (a' : Act) (W : World), w.heap.size ≤ l → (∃ r, W.heap[l]? = some (.loop r)) → I pre W → Ax x a' W → G x → pre.length < N → body.wpIn (F.inRound l) (n - 1 - 1) P (GoesOn w.heap.size Kp (I (pre ++ [x])) W) a' W)
    (hdone : ∀ (D : Nat) (xs : List α) (W : World), w.heap.size ≤ D → X xs W → I xs W → W.heap[D]? = some (.deferred (some [])) → Q .normal { a with defers := { target := .collected D, args := #[] } :: a.defers } W) :
    (Code.rangeFunc g ps assign body).wpIn F n P Q a w := by
  refine wpIn_rangeFunc ?_
  intro fn hfn
  rw [hro]
  obtain ⟨R, hR⟩ : ∃ R : LoopState → Loop, R = fun st => { state := st, pending := none, fn, tmps := a.tmps, params := ps, assign, body, defers := w.heap.size } := ⟨_, rfl⟩
  -- the two blocks that the loop lays
  obtain ⟨V, hV⟩ : ∃ V, (w.alloc (.deferred (some []))).alloc (.loop (R .ready)) = V := ⟨_, rfl⟩
  have vl : V.heap[w.heap.size + 1]? = some (.loop (R .ready)) := by
    have := World.alloc_heap_new (w.alloc (.deferred (some []))) (.loop (R .ready))
    rw [World.size_alloc] at this
    rw [← hV]; exact this
  have vd : V.heap[w.heap.size]? = some (.deferred (some [])) := by
    rw [← hV]
    exact (Below.heap_alloc _ _ _ (by simp)).trans (World.alloc_heap_new w _)
  have vi : I [] V := by rw [← hV]; exact hI.alloc _ (hI.alloc _ h0)
  have vb : Below w.heap.size w V := by
    rw [← hV]
    exact ((Below.refl _ w).alloc (Nat.le_refl _) _).alloc (by simp) _
  refine ⟨w.heap.size + 1, [{ target := .collected w.heap.size, args := #[] }], V, { target := .fn (.func gf) lb, args := #[.func (.yield (w.heap.size + 1)) #[] #[]] }, V, gf,
    #[.func (.yield (w.heap.size + 1)) #[] #[]] ++ lb, V, ?_, ?_, ?_, ?_, fun _ => h1, ?_⟩
  · rw [← hV, hR]; exact run_enterLoop_outer _ _ _ _ _
  · simp only [resolve, hg]
    simp [go_sem]
  · intro f' hf'; simp [Target.leads] at hf'; subst hf'; exact hFg
  · simp [invoke, go_sem, eg]
  · refine (hseq (w.heap.size + 1) (fun pre W => I pre W ∧ W.heap[w.heap.size + 1]? = some (.loop (R .ready)) ∧ W.heap[w.heap.size]? = some (.deferred (some []))) V vb
      (fun pre A B hm ⟨p1, p2, p3⟩ => ⟨hIM pre A B hm p1, (hMv A B hm _ (by omega) (Array.getElem?_eq_some_iff.1 p2).1).trans p2, (hMv A B hm _ (Nat.le_refl _) (Array.getElem?_eq_some_iff.1 p3).1).trans p3⟩) ?_ ⟨vi, vl, vd⟩).mono ?_
    · rintro pre x W ⟨hi, hl, hk⟩ hG hlen
      have hy := run_yield (P := P) (args := encs x) hl (by rw [hR]; exact hps x)
      rw [hR] at hy
      refine ⟨fn, _, assign, body, hy, roundIn_of_wpIn hfn (hassign _ pre x W _ hi hG ?_)⟩
      clear hy
      intro a' A hkA hpA hiA hax
      have al := hkA.same _ _ (by omega) hl rfl
      have ak := hkA.same _ _ (Nat.le_refl _) hk rfl
      have alt : w.heap.size + 1 < A.heap.size := (Array.getElem?_eq_some_iff.1 al).1
      refine ⟨_, run_beginRound al (by rw [hR]), ?_⟩
      -- the record says 'busy' while the body runs
      have bl : (A.putObj (w.heap.size + 1) (.loop { R .ready with state := .busy })).heap[w.heap.size + 1]? = some (.loop { R .ready with state := .busy }) := World.putObj_heap_same alt
      have bk : (A.putObj (w.heap.size + 1) (.loop { R .ready with state := .busy })).heap[w.heap.size]? = some (.deferred (some [])) := (World.putObj_heap_other (by omega)).trans ak
      have bp : Kp A (A.putObj (w.heap.size + 1) (.loop { R .ready with state := .busy })) := hKb _ _ _ _ (by omega) al rfl
      refine wpIn_mono (hbody _ pre x a' _ (by omega) ⟨_, bl⟩ (hI.putObj _ hiA (by omega) al rfl) ((hAx x a').putObj (s := ()) _ hax (by omega) al rfl) hG hlen) ?_
      rintro e a3 W3 hp
      cases e with
      | normal =>
        obtain ⟨c1, c2, c3⟩ := hp
        have cl := c1.same _ _ (by omega) bl rfl
        have ck := c1.same _ _ (Nat.le_refl _) bk rfl
        have hr := run_endRound (P := P) none cl
        rw [hR] at hr
        refine ⟨_, _, hr, rfl, ⟨?_, ?_, ?_⟩, hKt hpA (hKt (hKt bp c2) (hKb _ _ _ _ (by omega) cl rfl))⟩
        · exact hI.putObj _ c3 (by omega) cl rfl
        · rw [hR]; exact World.putObj_heap_same (Array.getElem?_eq_some_iff.1 cl).1
        · exact (World.putObj_heap_other (by omega)).trans ck
      | ret => exact hp.elim
      | exit id => exact hp.elim
      | goto t => exact hp.elim
      | panic ch => exact hp.elim
      | outgrown => exact hp.elim
    · rintro e W2 ⟨⟨v, rfl⟩, xs, hx, hi, hl, hk⟩
      have hr := run_endLoop (P := P) hl (by rw [hR]; simp)
      rw [hR] at hr
      exact ⟨none, _, hr, hdone _ xs _ (Nat.le_refl _) (hX.putObj _ hx (by omega) hl rfl) (hI.putObj _ hi (by omega) hl rfl) ((World.putObj_heap_other (by omega)).trans hk)⟩

/-! ### A region that draws its order, within a round -/
theorem rows_in {l n : Nat} {P : Program} {row : String} {args : Array Value} {w : World} {R : Value → World → Prop} (h : Rows P row args w R) : RowsIn (Fence.wide.inRound l) n P row args w R := fun c cs _ => by
  obtain ⟨v, w', r, s⟩ := h c cs
  exact ⟨v, w', r, stepsIn_wide.2 s⟩
theorem operIn_of_wp {l n : Nat} {P : Program} {o : Oper} {a : Act} {w : World} {K : Act → World → Prop} {Q : Exit → Act → World → Prop} (hd : ∀ c, o.op ≠ .defer c) (h : Oper.wp P o a w K Q) : Oper.wpIn (Fence.wide.inRound l) n P o a w K Q := by
  refine ⟨fun _ _ => trivial, ?_⟩
  rw [Oper.semAt_eq _ _ _ hd]
  unfold Oper.wp at h
  generalize (execOp a.eval o).run P w = r at *
  cases r with
  | ok x w' =>
    cases x with
    | value v => exact h
    | skip => exact h
    | defer d => exact h
    | enter f args => exact ⟨fun h => (by cases h), (callsIn_wide (n := n - 1)).2 h⟩
    | row r args => exact ⟨fun h => (by cases h), rows_in h⟩
    | _ => exact h.elim
  | halt x w' => cases x <;> exact h
def noDeferB (ops : Array Oper) : Bool := ops.all fun o => match o.op with | .defer _ => false | _ => true
theorem noDefer {ops : Array Oper} (h : noDeferB ops = true) {i : Nat} {o : Oper} (ho : ops[i]? = some o) : ∀ c, o.op ≠ .defer c := by
  intro c e
  have := Array.all_eq_true_iff_forall_mem.1 h o (Array.mem_of_getElem? ho)
  rw [e] at this
  cases this
theorem opIn_of {l n : Nat} {P : Program} {ops : Array Oper} {Q : Exit → Act → World → Prop} (hds : noDeferB ops = true) (hno : ∀ a w, ¬ Q .outgrown a w) {i : Nat} {K K' : Act → World → Prop} (hK : ∀ a w, K a w → K' a w) {a : Act} {w : World} (h : wpOp P ops Q i K a w) : wpOpIn (Fence.wide.inRound l) n P ops Q i K' a w := by
  refine wpOpIn_mono hK ?_
  unfold wpOp at h
  unfold wpOpIn
  cases ho : ops[i]? with
  | none => rw [ho] at h; exact h
  | some o =>
    rw [ho] at h
    dsimp only at h ⊢
    split
    · rename_i hw
      rw [if_pos hw] at h
      exact operIn_of_wp (noDefer hds ho) (h.resolve_right (fun h => by obtain ⟨_, a, w, h⟩ := h; exact hno a w h))
    · rename_i hw
      rw [if_neg hw] at h
      exact ⟨fun _ _ => trivial, h⟩
theorem anyIn_of_any {l n : Nat} {P : Program} {md : Region.Mode} {ops : Array Oper} {Q : Exit → Act → World → Prop} (hds : noDeferB ops = true) (hno : ∀ a w, ¬ Q .outgrown a w) : ∀ (fuel : Nat) (listed : Array Bool) (a : Act) (w : World), wpAny P md ops Q fuel listed a w → wpAnyIn (Fence.wide.inRound l) n P md ops Q fuel listed a w
  | 0, _, _, _, h => h
  | fuel + 1, listed, _, _, h => ⟨h.1, fun i hi => opIn_of hds hno (fun a w => anyIn_of_any hds hno fuel _ a w) (h.2 i hi)⟩
/-- start_ of PrintLast's words, within a round. -/
theorem startR_ {P : Program} {ops : Array Oper} {Q : Exit → Act → World → Prop} {S : World → Prop} {ds : List Nat} {id n lp m : Nat} {a : Act} {w : World} (l : Array Bool) (hm : P.follows .mixedOrders = true) (hds : noDeferB ops = true) (hno : ∀ a w, ¬ Q .outgrown a w) (hn : ops.size = n) (hl : Array.replicate n false = l) (hS : S w.drew)
    (h : S w.drew → wpAnyLast P .any ops Q S ds n l a w.drew) : (Code.region id ops true).wpIn (Fence.wide.inRound lp) m P Q a w := by
  subst hn
  subst hl
  exact wpIn_region_any hm (anyIn_of_any hds hno _ _ _ _ (wpAny_of_last _ _ _ _ (h hS)))
end Go.Proofs.YtebgldnlkkhejaaDoor

/-! ## tele: spine's iterator: it moves on the term that it was handed by a pointer. -/
namespace Go.Proofs.YtebgldnlkkhejaaDoor
set_option linter.unusedSimpArgs false
set_option linter.unusedVariables false
open Go Go.RowKit Go.Shelf Go.Proofs.YtebgldnlkkhejaaDoorW.PrintLast

attribute [local go_sem] Oper.semAt_some
/-- What a round keeps: what lay below, the term's block, the box of the pointer to it. -/
def KpS (n₀ Bt Bs : Nat) (A B : World) : Prop := Below n₀ A B ∧ B.heap[Bt]? = A.heap[Bt]? ∧ B.heap[Bs]? = A.heap[Bs]?
theorem KpS.trans {n₀ Bt Bs : Nat} {A B C : World} (h : KpS n₀ Bt Bs A B) (k : KpS n₀ Bt Bs B C) : KpS n₀ Bt Bs A C := ⟨h.1.trans k.1, k.2.1.trans h.2.1, k.2.2.trans h.2.2⟩
theorem put5_grown (W : World) (g : Nat) (c0 c1 c2 c3 c4 : Value) : W.grownBy (put5 W g c0 c1 c2 c3 c4) (some g) :=
  ⟨by simp [put5, World.setCell], by simp [put5, World.setCell], by simp [put5, World.setCell], by rw [put5_size]; exact Nat.le_refl _, fun k _ hk => put5_at _ _ _ _ _ _ _ k (fun e => hk (by rw [e]))⟩
theorem alloc_grown (W : World) (o : Obj) (r : Option Nat) : W.grownBy (W.alloc o) r := ⟨rfl, rfl, rfl, by simp, fun k hk _ => heap_alloc_old W _ hk⟩
theorem drew_grown (W : World) (r : Option Nat) : W.grownBy W.drew r := ⟨rfl, rfl, rfl, Nat.le_refl _, fun _ _ _ => rfl⟩
theorem spine_kids {f x : Tm} {k n a : Int} {lv : List Lv} (hk : k = 6) : spineT (.mk k n a lv [f, x]) = ((spineT f).1, (spineT f).2 ++ [x]) := by rw [spineT_two, if_pos hk]

set_option maxRecDepth 100000 in
set_option maxHeartbeats 2000000 in
theorem spine1_in (n : Nat) (hn : 1 ≤ n) (l Bs Bt : Nat) (w : World) (t : Tm) (hBt : w.heap.size ≤ Bt) (hBs : Bt < Bs) (hok : Okt t) (hnodes : t.nodes ≤ 1152921504606846976)
    (J : List (E5 × Tm) → World → Prop) (hJ : ∀ pre A B, A.grownBy B (some Bt) → J pre A → J pre B)
    (hY : ∀ pre x W, J pre W → (RdT w x.2 x.1.cells ∧ Okt x.2 ∧ x.2.nodes ≤ t.nodes) → pre.length < t.nodes → YieldAt Fence.wide (n - 1) Tryd.prog l #[.agg x.1.cells.toArray] W fun e W' => e = .returned (.bool true) ∧ J (pre ++ [x]) W' ∧ KpS w.heap.size Bt Bs W W')
    (W : World) (hW : Below w.heap.size w W) (e0 : E5) (hr : RdT w t e0.cells) (k0 : Blk W Bt e0.cells.toArray 30) (kS : Blk W Bs #[.pointer (some ⟨Bt, 0, none⟩)] 93) (h0 : J [] W) :
    CallsIn Fence.wide n Tryd.prog 89 #[.func (.yield l) #[] #[], .pointer (some ⟨Bs, 0, none⟩)] W fun e W' => (∃ v, e = .returned v) ∧
      ∃ xs, (∃ h : E5, Blk W' Bt h.cells.toArray 30 ∧ RdT w (spineT t).1 h.cells ∧ xs.map (·.2) = (spineT t).2.reverse) ∧ J xs W' := by
  have hro : Fence.wide.round = none := rfl
  refine callsIn_of_wp Tryd.func89 rfl trivial ?_ hro
  simp only [Tryd.ntmps89, List.size_toArray, List.length_cons, List.length_nil, Nat.reduceAdd, Nat.reduceSub, Array.replicate_succ, Array.replicate_zero, List.push_toArray, List.append_toArray, List.nil_append, List.cons_append]
  have HI := Lib.hid (And.intro hW (And.intro k0 (And.intro kS (And.intro h0 (And.intro hr hok)))))
  have HJ := Lib.hid hJ
  have HY := Lib.hid hY
  have HN := Lib.hid hnodes
  clear hW k0 kS h0 hr hok hJ hY hnodes
  gi_wp2
  gi_loopg [] t.nodes (fun gk wr => ∃ (pre : List (E5 × Tm)) (u : Tm) (e : E5), Hid (J pre wr ∧ Below w.heap.size w wr ∧ Blk wr Bt e.cells.toArray 30 ∧ Blk wr Bs #[.pointer (some ⟨Bt, 0, none⟩)] 93 ∧ RdT w u e.cells ∧ Okt u ∧
    pre.length + u.nodes ≤ t.nodes ∧ u.nodes ≤ gk ∧ (spineT t).1 = (spineT u).1 ∧ (spineT t).2.reverse = pre.map (·.2) ++ (spineT u).2.reverse))
  case atStart => exact ⟨[], t, e0, Lib.hid ⟨HI.out.2.2.2.1, HI.out.1, HI.out.2.1, HI.out.2.2.1, HI.out.2.2.2.2.1, HI.out.2.2.2.2.2, by simp, Nat.le_refl _, rfl, by simp⟩⟩
  case round =>
    obtain ⟨pre, u, e, HV⟩ := hrel
    clear HI
    obtain ⟨k, nm, a, lv, kids⟩ := u
    obtain ⟨ek, en, ea, A1, l1, c1, A2, l2, c2⟩ := e
    obtain ⟨hj, hb, k0, kS, hu, hok, hle, hgk, hs1, hs2⟩ := HV.out
    dsimp only [E5.cells] at hu k0
    obtain ⟨vl, vk, ee, -, A2', c2', rfl, hc2', -⟩ := (RdT_mk ..).1 hu
    simp at ee
    obtain ⟨rfl, rfl, rfl, rfl, rfl, rfl, rfl⟩ := ee
    have g0 := k0.cell
    have gS := kS.cell
    have n0 := k0.lt
    have f0 := k0.frozen
    have hsz := hb.size
    clear hj
    by_cases hk : ek = 6
    · subst hk
      by_cases hl : kids.length = 2
      · rcases kids with _ | ⟨f, _ | ⟨x, _ | ⟨z, zs⟩⟩⟩ <;> simp at hl
        obtain ⟨A1', l1', c1', b, o, c2'', e, hc2, hbl, ⟨A3, l3, c3, A4, l4, c4, hf, af⟩, A5, l5, c5, A6, l6, c6, hx, ax⟩ := kids_two hu
        simp at e
        obtain ⟨⟨rfl, rfl, rfl⟩, rfl, rfl⟩ := e
        have hcw := (bcell hb).1
        have p0 := af 0 _ rfl
        have p1 := af 1 _ rfl
        have p2 := af 2 _ rfl
        have p3 := af 3 _ rfl
        have p4 := af 4 _ rfl
        have q0 := ax 0 _ rfl
        have q1 := ax 1 _ rfl
        have q2 := ax 2 _ rfl
        have q3 := ax 3 _ rfl
        have q4 := ax 4 _ rfl
        simp only [Nat.add_zero, Nat.add_assoc, Nat.reduceAdd] at p0 p1 p2 p3 p4 q0 q1 q2 q3 q4
        have HF := Lib.hid (And.intro hf hx)
        clear hu hf hx af ax k0 kS hb hok hle hgk hs1 hs2
        gi_wp2
        obtain ⟨wA, hA⟩ : ∃ wA, wr.alloc (.cells #[.int .i64 x.kind, .int .i64 x.num, .int .i64 x.place, .slice A5 l5 c5, .slice A6 l6 c6] 30) = wA := ⟨_, rfl⟩
        have hbA : Below wr.heap.size wr wA := by rw [← hA]; exact (Below.refl _ _).alloc (Nat.le_refl _) _
        have kX : Blk wA wr.heap.size #[.int .i64 x.kind, .int .i64 x.num, .int .i64 x.place, .slice A5 l5 c5, .slice A6 l6 c6] 30 := by rw [← hA]; exact Blk.new _ _ _
        have hgA : wr.grownBy wA (some Bt) := by rw [← hA]; exact alloc_grown _ _ _
        have hne : Bt < wr.heap.size := n0
        rw [hA]
        clear hA g0 gS n0 f0 hcw hsz
        obtain ⟨hj, hb, k0, kS, -⟩ := HV.out
        have hcw := (bcell (hb.trans (hbA.mono hb.size))).1
        replace k0 := k0.below hbA
        replace kS := kS.below hbA
        have g0 := k0.cell
        have f0 := k0.frozen
        have n0 := k0.lt
        have gS := kS.cell
        have nS := kS.lt
        have gX := kX.cell
        have nX := kX.lt
        dsimp only [E5.cells] at g0
        have HA := Lib.hid (And.intro hbA (And.intro kX (And.intro hgA (And.intro k0 kS))))
        clear hbA kX hgA hj hb k0 kS
        gi_region
        clear g0 f0 n0 gS nS gX nX hcw p0 p1 p2 p3 p4 q0 q1 q2 q3 q4
        obtain ⟨hbA, kX, hgA, k0, kS⟩ := HA.out
        obtain ⟨hj, hb, -, -, -, hok, hle, hgk, hs1, hs2⟩ := HV.out
        obtain ⟨X, hX⟩ : ∃ X, (put5 wA Bt (.int .i64 f.kind) (.int .i64 f.num) (.int .i64 f.place) (.slice A3 l3 c3) (.slice A4 l4 c4)).drew = X := ⟨_, rfl⟩
        have hgX : wA.grownBy X (some Bt) := by
          have h1 := put5_grown wA Bt (.int .i64 f.kind) (.int .i64 f.num) (.int .i64 f.place) (.slice A3 l3 c3) (.slice A4 l4 c4)
          rw [← hX]
          exact ⟨h1.os, h1.tape, h1.output, h1.size, h1.block⟩
        have kX1 : Blk X Bt #[.int .i64 f.kind, .int .i64 f.num, .int .i64 f.place, .slice A3 l3 c3, .slice A4 l4 c4] 30 := by rw [← hX]; exact (put5_blk k0).drew
        have kXs : Blk X Bs #[.pointer (some ⟨Bt, 0, none⟩)] 93 := (hgX.block _ kS.lt (by intro e; cases e; omega)).trans kS
        have kXx : Blk X wr.heap.size #[.int .i64 x.kind, .int .i64 x.num, .int .i64 x.place, .slice A5 l5 c5, .slice A6 l6 c6] 30 := (hgX.block _ kX.lt (by intro e; cases e; omega)).trans kX
        have hbX : Below w.heap.size w X := (hb.trans (hbA.mono hb.size)).grown hgX (by have := (hb.trans (hbA.mono hb.size)).size; omega) (fun k e => by cases e; exact hBt)
        rw [show (((((wA.setCell ⟨Bt, 0, none⟩ (.int .i64 f.kind)).setCell ⟨Bt, 1, none⟩ (.int .i64 f.num)).setCell ⟨Bt, 2, none⟩ (.int .i64 f.place)).setCell ⟨Bt, 3, none⟩ (.slice A3 l3 c3)).setCell ⟨Bt, 4, none⟩ (.slice A4 l4 c4)).drew = X from hX]
        have hnu : (Tm.mk 6 en ea lv [f, x]).nodes = f.nodes + x.nodes + 1 := by simp only [Tm.nodes, Tm.nodesL]; omega
        have hx1 : x.nodes ≤ t.nodes := by omega
        have hx2 : pre.length < t.nodes := by omega
        have jX := HJ.out _ _ _ hgX (HJ.out _ _ _ hgA hj)
        obtain ⟨fn, tmps, assign, body, hy, hR⟩ := HY.out pre (⟨x.kind, x.num, x.place, A5, l5, c5, A6, l6, c6⟩, x) X jX ⟨HF.out.2, hok.kid x (by simp), hx1⟩ hx2
        dsimp only [E5.cells] at hy
        have gX := kXx.cell
        have nX := kXx.lt
        have HX := Lib.hid (And.intro hbX (And.intro kX1 kXs))
        clear hbA kX hgA k0 kS hj hb hok hle hgk hs1 hs2 hgX kX1 kXs kXx hbX jX hX
        gi_wp2
        refine hR.mono ?_
        rintro e W3 ⟨rfl, hJ3, hk3⟩
        have HK3 := Lib.hid (And.intro hJ3 hk3)
        clear hJ3 hk3
        gi_wp2
        obtain ⟨hbX, kX1, kXs⟩ := HX.out
        obtain ⟨hJ3, hk3⟩ := HK3.out
        obtain ⟨-, -, -, -, -, hok, hle, hgk, hs1, hs2⟩ := HV.out
        have hnu : (Tm.mk 6 en ea lv [f, x]).nodes = f.nodes + x.nodes + 1 := by simp only [Tm.nodes, Tm.nodesL]; omega
        rw [spine_kids rfl] at hs1 hs2
        gi_roundg f.nodes
        case measure => omega
        case rel => exact ⟨pre ++ [(⟨x.kind, x.num, x.place, A5, l5, c5, A6, l6, c6⟩, x)], f, ⟨f.kind, f.num, f.place, A3, l3, c3, A4, l4, c4⟩, Lib.hid ⟨hJ3, hbX.trans hk3.1, hk3.2.1.trans kX1, hk3.2.2.trans kXs, HF.out.1, hok.kid f (by simp), by rw [List.length_append]; simp; omega, Nat.le_refl _, hs1, by rw [hs2]; simp⟩⟩
      · have hl2 : (kids.length : Int) ≠ 2 := by omega
        clear hu k0 kS hb hok hle hgk hs1 hs2
        gi_wp2
        go_end0
        obtain ⟨hj, hb, k0, kS, hu, hok, hle, hgk, hs1, hs2⟩ := HV.out
        rw [spineT_not (.inr hl)] at hs1 hs2
        exact ⟨⟨_, rfl⟩, pre, ⟨_, k0, by rw [hs1]; exact hu, by rw [hs2]; simp⟩, hj⟩
    · clear hu k0 kS hb hok hle hgk hs1 hs2
      gi_wp2
      go_end0
      obtain ⟨hj, hb, k0, kS, hu, hok, hle, hgk, hs1, hs2⟩ := HV.out
      rw [spineT_not (.inl hk)] at hs1 hs2
      exact ⟨⟨_, rfl⟩, pre, ⟨_, k0, by rw [hs1]; exact hu, by rw [hs2]; simp⟩, hj⟩
end Go.Proofs.YtebgldnlkkhejaaDoor

/-! ## tele: Spine. -/
namespace Go.Proofs.YtebgldnlkkhejaaDoor
set_option linter.unusedSimpArgs false
set_option linter.unusedVariables false
open Go Go.RowKit Go.Shelf Go.Proofs.YtebgldnlkkhejaaDoorW.PrintLast

attribute [local go_sem] Oper.semAt_some
/-- Two of ds may come up now: each order is walked. -/
theorem twoL_ {P : Program} {ops : Array Oper} {Q : Exit → Act → World → Prop} {md : Region.Mode} {S : World → Prop} {ds : List Nat} {i j : Nat} {Ni Nj : Option Tmp} {oi oj : Oper} {fuel : Nat} {l : Array Bool} {a : Act} {w : World} (li lj : Array Bool) (hi : ops[i]? = some oi) (hj : ops[j]? = some oj) (hNi : oi.dst = Ni) (hNj : oj.dst = Nj)
    (hc : (Region.ready md ops l == [i, j] && l.setIfInBounds i true == li && l.setIfInBounds j true == lj) = true) (hdi : i ∈ ds) (hdj : j ∈ ds)
    (h1 : ∀ K : Act → World → Prop, Shut (∀ a' w', wpAnyLast P md ops Q S ds fuel li a' w' → K a' w') → if Region.wanted oi (yielded ops a.tmps) = true then Oper.wp P oi a w K Q else K (a.put Ni undef) w)
    (h2 : ∀ K : Act → World → Prop, Shut (∀ a' w', wpAnyLast P md ops Q S ds fuel lj a' w' → K a' w') → if Region.wanted oj (yielded ops a.tmps) = true then Oper.wp P oj a w K Q else K (a.put Nj undef) w) :
    wpAnyLast P md ops Q S ds (fuel + 1) l a w := by
  subst hNi
  subst hNj
  simp only [Bool.and_eq_true, beq_iff_eq] at hc
  obtain ⟨⟨h3, h4⟩, h5⟩ := hc
  subst h4
  subst h5
  exact wpAnyLast_ready h3 (by simp) (AllReadyL.cons_last hi hdi (fun K hK => h1 K hK) (AllReadyL.cons_last hj hdj (fun K hK => h2 K hK) AllReadyL.nil))
/-- Five cells written at a place of a row. -/
def put5o (w : World) (g o : Nat) (c0 c1 c2 c3 c4 : Value) : World :=
  ((((w.setCell ⟨g, o, none⟩ c0).setCell ⟨g, o + 1, none⟩ c1).setCell ⟨g, o + 2, none⟩ c2).setCell ⟨g, o + 3, none⟩ c3).setCell ⟨g, o + 4, none⟩ c4
theorem put5o_at (w : World) (g o : Nat) (c0 c1 c2 c3 c4 : Value) (b : Nat) (hb : b ≠ g) : (put5o w g o c0 c1 c2 c3 c4).heap[b]? = w.heap[b]? := by
  unfold put5o
  rw [Below.heap_setCell _ _ _ _ (by exact hb), Below.heap_setCell _ _ _ _ (by exact hb), Below.heap_setCell _ _ _ _ (by exact hb), Below.heap_setCell _ _ _ _ (by exact hb), Below.heap_setCell _ _ _ _ (by exact hb)]
theorem put5o_size (w : World) (g o : Nat) (c0 c1 c2 c3 c4 : Value) : (put5o w g o c0 c1 c2 c3 c4).heap.size = w.heap.size := by simp [put5o, World.setCell]
theorem put5o_blk {w : World} {g o : Nat} {cur : Array Value} {c0 c1 c2 c3 c4 : Value} {e : TypeId} (h : Blk w g cur e) : Blk (put5o w g o c0 c1 c2 c3 c4) g (((((cur.setIfInBounds o c0).setIfInBounds (o + 1) c1).setIfInBounds (o + 2) c2).setIfInBounds (o + 3) c3).setIfInBounds (o + 4) c4) e :=
  ((((h.set _ _).set _ _).set _ _).set _ _).set _ _
theorem take_set5 (L : List Value) (m : Nat) (h : m + 5 ≤ L.length) (c0 c1 c2 c3 c4 : Value) : (((((L.set m c0).set (m + 1) c1).set (m + 2) c2).set (m + 3) c3).set (m + 4) c4).take (m + 5) = L.take m ++ [c0, c1, c2, c3, c4] := by
  obtain ⟨A, r, rfl, rfl⟩ : ∃ A r, L = A ++ r ∧ A.length = m := ⟨L.take m, L.drop m, by simp, by simp; omega⟩
  have hl : 5 ≤ r.length := by simp at h; omega
  rcases r with _ | ⟨x0, _ | ⟨x1, _ | ⟨x2, _ | ⟨x3, _ | ⟨x4, B⟩⟩⟩⟩⟩ <;> simp at hl
  simp [List.set_append, List.take_append]
  exact List.take_of_length_le (by omega)
/-- The last element of a row of one's own, written over. -/
theorem ownsRow_store5 {w : World} {e : TypeId} {g n cap : Nat} {xs z : List Value} (h : w.ownsRow 0 e 5 (.slice (some ⟨g, 0, none⟩) (n + 1) cap) (n + 1) (xs ++ z)) (hx : xs.length = n * 5) (hz : z.length = 5) (c0 c1 c2 c3 c4 : Value) :
    (put5o w g (n * 5) c0 c1 c2 c3 c4).ownsRow 0 e 5 (.slice (some ⟨g, 0, none⟩) (n + 1) cap) (n + 1) (xs ++ [c0, c1, c2, c3, c4]) := by
  obtain ⟨h1, h2⟩ := h
  refine ⟨by simp [hx, Nat.add_mul], .inr ?_⟩
  rcases h2 with ⟨h2, _⟩ | ⟨g', cap', cur, hv, hb, hg, hn, hm, hs, ht⟩
  · cases h2
  · simp at hv
    obtain ⟨rfl, rfl⟩ := hv
    refine ⟨g, cap, _, rfl, hb, put5o_blk hg, hn, hm, by simp [hs], ?_⟩
    have hle : n * 5 + 5 ≤ cur.toList.length := by simp [hs]; omega
    simp only [Array.toList_setIfInBounds]
    rw [show (n + 1) * 5 = n * 5 + 5 by omega] at ht ⊢
    rw [take_set5 _ _ hle]
    congr 1
    have := congrArg (List.take (n * 5)) ht
    rw [List.take_take, Nat.min_eq_left (by omega), ← hx, List.take_left'  (by rfl)] at this
    rw [← hx]
    exact this
/-- What Spine's variables hold between two rounds. -/
structure SpInv (w : World) (pre : List (E5 × Tm)) (W : World) : Prop where
  hb : Below w.heap.size w W
  kR : Blk W (w.heap.size + 1) #[.int .i64 0, .int .i64 0, .int .i64 0, .slice none 0 0, .slice none 0 0] 30
  ar : ∃ A c F, Blk W (w.heap.size + 2) #[.slice A pre.length c] 28 ∧ OwTs W (.slice A pre.length c) (pre.map (fun x => ownT x.2)) F ∧ Fr (w.heap.size + 4) W F
  sz : w.heap.size + 4 ≤ W.heap.size
theorem setCell_at (w : World) (a : Addr) (v : Value) (k : Nat) (hk : k ≠ a.block) : (w.setCell a v).heap[k]? = w.heap[k]? := Below.heap_setCell _ _ _ _ hk
theorem setCell_size (w : World) (a : Addr) (v : Value) : (w.setCell a v).heap.size = w.heap.size := by simp [World.setCell]
theorem setCell_comm (w : World) (a b : Addr) (u v : Value) (h : a.block ≠ b.block) : (w.setCell a u).setCell b v = (w.setCell b v).setCell a u := by
  unfold World.setCell
  congr 1
  apply Array.ext_getElem?
  intro k
  simp only [Array.getElem?_modify]
  by_cases h1 : b.block = k
  · have h2 : ¬ a.block = k := fun e => h (e.trans h1.symm)
    simp [h1, h2]
  · simp [h1]
theorem put5o_comm (w : World) (b : Addr) (v : Value) (g o : Nat) (c0 c1 c2 c3 c4 : Value) (h : g ≠ b.block) : put5o (w.setCell b v) g o c0 c1 c2 c3 c4 = (put5o w g o c0 c1 c2 c3 c4).setCell b v := by
  unfold put5o
  rw [setCell_comm w b _ v c0 (Ne.symm h), setCell_comm _ b _ v c1 (Ne.symm h), setCell_comm _ b _ v c2 (Ne.symm h), setCell_comm _ b _ v c3 (Ne.symm h), setCell_comm _ b _ v c4 (Ne.symm h)]
set_option maxHeartbeats 1000000 in
/-- A round: an element appended as nothing, then written. -/
theorem SpInv.push {w W w3 w4 w5 : World} {pre : List (E5 × Tm)} {x : E5 × Tm} {A : Option Addr} {c g c2 : Nat} {F Fx : List Nat} {k n a : Int} {A1 A2 : Option Addr} {l1 c1 l2 d2 : Nat} {z : List Value}
    (h : SpInv w pre W) (ha : Blk W (w.heap.size + 2) #[.slice A pre.length c] 28) (hO : OwTs W (.slice A pre.length c) (pre.map (fun x => ownT x.2)) F) (hF : Fr (w.heap.size + 4) W F)
    (hb : Below W.heap.size W w3) (hx : OwT w3 (ownT x.2) [.int .i64 k, .int .i64 n, .int .i64 a, .slice A1 l1 c1, .slice A2 l2 d2] Fx) (hFx : Fr W.heap.size w3 Fx) (hW : Below w3.heap.size w3 w4) (hz : z.length = 5)
    (happ : ∀ inner, W.ownsRow 0 30 5 (.slice A pre.length c) pre.length inner → w5.ownsRow 0 30 5 (.slice (some ⟨g, 0, none⟩) (pre.length + 1) c2) (pre.length + 1) (inner ++ z))
    (hg : w4.grownBy w5 (Value.slice A pre.length c).ownBlock) (hat : (Value.slice (some ⟨g, 0, none⟩) (pre.length + 1) c2).ownBlock = (Value.slice A pre.length c).ownBlock ∨ (Value.slice (some ⟨g, 0, none⟩) (pre.length + 1) c2).ownBlock = some w4.heap.size) (h2s : g < w5.heap.size) (B : Nat) (hB : w.heap.size + 4 ≤ B) :
    KeepsFrom B W ((put5o w5 g (pre.length * 5) (.int .i64 k) (.int .i64 n) (.int .i64 a) (.slice A1 l1 c1) (.slice A2 l2 d2)).setCell ⟨w.heap.size + 2, 0, none⟩ (.slice (some ⟨g, 0, none⟩) (pre.length + 1) c2)) ∧
    KpS w.heap.size w.heap.size (w.heap.size + 3) W ((put5o w5 g (pre.length * 5) (.int .i64 k) (.int .i64 n) (.int .i64 a) (.slice A1 l1 c1) (.slice A2 l2 d2)).setCell ⟨w.heap.size + 2, 0, none⟩ (.slice (some ⟨g, 0, none⟩) (pre.length + 1) c2)) ∧
    SpInv w (pre ++ [x]) ((put5o w5 g (pre.length * 5) (.int .i64 k) (.int .i64 n) (.int .i64 a) (.slice A1 l1 c1) (.slice A2 l2 d2)).setCell ⟨w.heap.size + 2, 0, none⟩ (.slice (some ⟨g, 0, none⟩) (pre.length + 1) c2)) := by
  obtain ⟨hb', kR, -, sz⟩ := h
  have hpl : (pre.map (fun x => ownT x.2)).length = pre.length := List.length_map ..
  obtain ⟨w6, hw6⟩ : ∃ w6, put5o w5 g (pre.length * 5) (.int .i64 k) (.int .i64 n) (.int .i64 a) (.slice A1 l1 c1) (.slice A2 l2 d2) = w6 := ⟨_, rfl⟩
  have hat6 : ∀ q, q ≠ g → w6.heap[q]? = w5.heap[q]? := fun q hq => by rw [← hw6]; exact put5o_at _ _ _ _ _ _ _ _ _ hq
  have hs6 : w6.heap.size = w5.heap.size := by rw [← hw6]; exact put5o_size _ _ _ _ _ _ _ _
  have ho6 : w6.os = w5.os ∧ w6.tape = w5.tape ∧ w6.output = w5.output := by rw [← hw6]; simp [put5o, World.setCell]
  have s1 := hb.size
  have s2 := hW.size
  have s3 := hg.size
  have hown : ∀ q, (Value.slice A pre.length c).ownBlock = some q → w.heap.size + 4 ≤ q ∧ q < W.heap.size ∧ ∃ o : Obj, W.heap[q]? = some o ∧ o.isCells = true := fun q hq => by
    obtain ⟨inner, Fi, g1, g2, rfl⟩ := hO
    have h1 := hF.2 q (List.mem_append_left _ (by simp [hq]))
    refine ⟨h1.1, h1.2, ?_⟩
    rcases g1.2 with ⟨e, _⟩ | ⟨g', cap, cur, e, _, hg', _⟩
    · rw [e] at hq; simp [Value.ownBlock] at hq
    · rw [e] at hq
      simp [Value.ownBlock] at hq
      subst hq
      exact ⟨_, hg', rfl⟩
  have hgw : g = w4.heap.size ∨ (Value.slice A pre.length c).ownBlock = some g := by
    rcases hat with h | h
    · exact .inr h.symm
    · simp [Value.ownBlock] at h; exact .inl h
  have hglo : w.heap.size + 4 ≤ g := by
    rcases hgw with h | h
    · omega
    · exact (hown g h).1
  have hg6 : w4.grownBy w6 (Value.slice A pre.length c).ownBlock := by
    refine ⟨ho6.1.trans hg.os, ho6.2.1.trans hg.tape, ho6.2.2.trans hg.output, by omega, fun q hq hne => ?_⟩
    rw [hat6 q (fun e => by
      subst e
      rcases hgw with h | h
      · omega
      · exact hne h.symm)]
    exact hg.block q hq hne
  obtain ⟨F2, hO2, hF2⟩ := OwS.push (w2 := w6) (v2 := .slice (some ⟨g, 0, none⟩) (pre.length + 1) c2) OwT.mov hO hF hb sz hx hFx hW (fun inner hi => by
    rw [hpl] at hi
    have h5 := happ inner hi
    rw [List.length_append, hpl, List.length_singleton, ← hw6]
    exact ownsRow_store5 h5 hi.1 hz _ _ _ _ _) rfl hg6 hat (fun q hq => by simp [Value.ownBlock] at hq; omega)
  rw [hw6]
  -- what lies as it lay
  have hkeep : ∀ q, q < W.heap.size → (Value.slice A pre.length c).ownBlock ≠ some q → w6.heap[q]? = W.heap[q]? := fun q hq hne => by
    rw [hg6.block q (by omega) (fun e => hne e.symm), hW.block q (by omega), hb.block q hq]
  have hkeep7 : ∀ q, q < W.heap.size → (Value.slice A pre.length c).ownBlock ≠ some q → q ≠ w.heap.size + 2 → (w6.setCell ⟨w.heap.size + 2, 0, none⟩ (.slice (some ⟨g, 0, none⟩) (pre.length + 1) c2)).heap[q]? = W.heap[q]? := fun q hq hne hn => by
    rw [setCell_at _ _ _ _ (by exact hn)]; exact hkeep q hq hne
  have hlow : ∀ q, q < w.heap.size + 4 → (Value.slice A pre.length c).ownBlock ≠ some q := fun q hq e => by have := (hown q e).1; omega
  have hbel : Below w.heap.size W (w6.setCell ⟨w.heap.size + 2, 0, none⟩ (.slice (some ⟨g, 0, none⟩) (pre.length + 1) c2)) := by
    refine ⟨?_, ?_, ?_, by rw [setCell_size]; omega, fun q hq => hkeep7 q (by omega) (hlow q (by omega)) (by omega)⟩
    · show w6.os = W.os; rw [hg6.os, hW.os, hb.os]
    · show w6.tape = W.tape; rw [hg6.tape, hW.tape, hb.tape]
    · show w6.output = W.output; rw [hg6.output, hW.output, hb.output]
  refine ⟨⟨by rw [setCell_size]; omega, fun q o hq ho hc => ?_⟩, ⟨hbel, hkeep7 _ (by omega) (hlow _ (by omega)) (by omega), hkeep7 _ (by omega) (hlow _ (by omega)) (by omega)⟩, hb'.trans hbel, (hkeep7 _ (by omega) (hlow _ (by omega)) (by omega)).trans kR, ⟨some ⟨g, 0, none⟩, c2, F2, ?_, ?_, hF2.mono (Nat.le_refl _) (by rw [setCell_size]; exact Nat.le_refl _)⟩, by rw [setCell_size]; omega⟩
  · have hlt := (Array.getElem?_eq_some_iff.1 ho).1
    refine (hkeep7 q hlt (fun e => ?_) (by omega)).trans ho
    obtain ⟨_, _, o', ho', hc'⟩ := hown q e
    rw [ho] at ho'
    cases ho'
    rw [hc] at hc'
    cases hc'
  · have := (show Blk w6 (w.heap.size + 2) #[.slice A pre.length c] 28 from (hkeep _ (by omega) (hlow _ (by omega))).trans ha).set 0 (.slice (some ⟨g, 0, none⟩) (pre.length + 1) c2)
    rw [List.length_append, List.length_singleton]
    exact this
  · have e1 : (pre ++ [x]).map (fun x => ownT x.2) = pre.map (fun x => ownT x.2) ++ [ownT x.2] := by simp
    rw [e1, List.length_append, List.length_singleton]
    exact hO2.move OwT.mov (fun q hq => setCell_at _ _ _ _ (by have := (hF2.2 q hq).1; show q ≠ w.heap.size + 2; omega))
/-- What is owned is cells. -/
def IsC (w : World) (q : Nat) : Prop := ∃ o : Obj, w.heap[q]? = some o ∧ o.isCells = true
theorem OwL.each {α : Type} {R : α → List Value → List Nat → Prop} {sz : Nat} {p : Nat → Prop} : ∀ {xs : List α} {inner : List Value} {F : List Nat}, (∀ x ∈ xs, ∀ cs G, R x cs G → ∀ q ∈ G, p q) → OwL R sz inner xs F → ∀ q ∈ F, p q
  | [], _, _, _, ⟨_, hF⟩, q, hq => by rw [hF] at hq; cases hq
  | x :: xs, _, _, hR, ⟨cs, rest, F1, F2, _, _, h3, h4, h5⟩, q, hq => by
    subst h5
    rcases List.mem_append.1 hq with hq | hq
    · exact hR x (by simp) cs F1 h3 q hq
    · exact h4.each (fun y hy => hR y (by simp [hy])) q hq
theorem ownsRow_isC {w : World} {base : Nat} {e : TypeId} {size n : Nat} {v : Value} {xs : List Value} (h : w.ownsRow base e size v n xs) : ∀ q ∈ v.ownBlock.toList, IsC w q := by
  intro q hq
  rcases h.2 with ⟨rfl, _⟩ | ⟨g, cap, cur, rfl, _, hg, _⟩
  · simp [Value.ownBlock] at hq
  · simp [Value.ownBlock] at hq
    subst hq
    exact ⟨_, hg, rfl⟩
theorem OwS.isC {α : Type} {R : World → α → List Value → List Nat → Prop} {sz : Nat} {e : TypeId} {w : World} {v : Value} {xs : List α} {F : List Nat} (hR : ∀ x ∈ xs, ∀ cs G, R w x cs G → ∀ q ∈ G, IsC w q) (h : OwS R sz e w v xs F) : ∀ q ∈ F, IsC w q := by
  obtain ⟨inner, Fi, h1, h2, rfl⟩ := h
  intro q hq
  rcases List.mem_append.1 hq with hq | hq
  · exact ownsRow_isC h1 q hq
  · exact h2.each hR q hq
theorem OwLvs.isC {w : World} {v : Value} {lv : List Lv} {F : List Nat} (h : OwLvs w v lv F) : ∀ q ∈ F, IsC w q :=
  OwS.isC (fun x _ cs G ⟨u, _, h⟩ => OwS.isC (fun p _ cs G h q hq => by rw [h.2] at hq; cases hq) h) h
theorem OwT.isC : ∀ (t : Tm) {w : World} {cs : List Value} {F : List Nat}, OwT w t cs F → ∀ q ∈ F, IsC w q := by
  intro t
  induction t using Tm.ind with
  | h k n a lv kids ih =>
    intro w cs F h q hq
    obtain ⟨vl, vk, F1, F2, -, h1, h2, rfl⟩ := (OwT_mk ..).1 h
    rcases List.mem_append.1 hq with hq | hq
    · exact h1.isC q hq
    · exact OwS.isC (fun x hx cs G h => ih x hx h) h2 q hq
theorem OwTs.isC {w : World} {v : Value} {ts : List Tm} {F : List Nat} (h : OwTs w v ts F) : ∀ q ∈ F, IsC w q := OwS.isC (fun x _ cs G h => OwT.isC x h) h
/-- What turns no cells turns nothing that is owned. -/
theorem same_of_grown {X Y : World} {F : List Nat} {row : Option Nat} (h : ∀ q ∈ F, IsC X q) (hg : X.grownBy Y row) (hr : ∀ r, row = some r → ∃ o : Obj, X.heap[r]? = some o ∧ o.isCells = false) : Same F X Y := fun q hq => by
  obtain ⟨o, ho, hc⟩ := h q hq
  refine hg.block q (Array.getElem?_eq_some_iff.1 ho).1 (fun e => ?_)
  obtain ⟨o', ho', hc'⟩ := hr q e.symm
  rw [ho] at ho'
  cases ho'
  rw [hc] at hc'
  cases hc'
theorem SpInv.own {w : World} : OwnFrom (w.heap.size + 4) (SpInv w) := by
  rintro pre X Y row ⟨hb, kR, ⟨A, c, F, h1, h2, h3⟩, sz⟩ hg hr
  have hr' : ∀ r, row = some r → ∃ o : Obj, X.heap[r]? = some o ∧ o.isCells = false := fun r e => (hr r e).2
  exact ⟨hb.grown hg (by omega) (fun k e => by have := (hr k e).1; omega), kR.own hg hr', ⟨A, c, F, h1.own hg hr', h2.move (same_of_grown h2.isC hg hr'), h3.mono (Nat.le_refl _) hg.size⟩, Nat.le_trans sz hg.size⟩
/-- The iterator's own moves leave it. -/
theorem SpInv.moved {w : World} {pre : List (E5 × Tm)} {X Y : World} (hg : X.grownBy Y (some w.heap.size)) : SpInv w pre X → SpInv w pre Y := by
  rintro ⟨hb, kR, ⟨A, c, F, h1, h2, h3⟩, sz⟩
  refine ⟨hb.grown hg (by omega) (fun k e => by cases e; exact Nat.le_refl _), (hg.block _ kR.lt (by simp)).trans kR, ⟨A, c, F, (hg.block _ h1.lt (by simp)).trans h1, h2.move (fun q hq => hg.block q (h3.2 q hq).2 (fun e => by have := (h3.2 q hq).1; cases e; omega)), h3.mono (Nat.le_refl _) hg.size⟩, Nat.le_trans sz hg.size⟩
end Go.Proofs.YtebgldnlkkhejaaDoor

/-! ## slices.Reverse at terms, by the library's contract at structs. -/
namespace Go.Proofs.YtebgldnlkkhejaaDoor
set_option linter.unusedSimpArgs false
set_option linter.unusedVariables false
open Go Go.RowKit Go.Shelf Go.Sort Go.Proofs.YtebgldnlkkhejaaDoorW.PrintLast

def revRen : Ren := ⟨fun x => if x = 35 then 58 else x, fun x => if x = 22 then 28 else if x = 23 then 30 else if x = 3 then 3 else if x = 4 then 4 else x, fun x => x⟩
theorem revLay : SlLaysE0.n35 Tryd.prog revRen where
  mixed := by kernel_rfl
  f35 := ⟨Tryd.f58.name, by kernel_rfl, by kernel_rfl⟩
  t0 := by kernel_rfl
  a0 := fun w => by kernel_rfl
  z0 := fun w => by kernel_rfl
  v0 := fun w => by kernel_rfl
  t3 := by kernel_rfl
  a3 := fun w => by kernel_rfl
  z3 := fun w => by kernel_rfl
  v3 := fun w => by kernel_rfl
  t4 := by kernel_rfl
  a4 := fun w => by kernel_rfl
  z4 := fun w => by kernel_rfl
  v4 := fun w => by kernel_rfl
  t22 := by kernel_rfl
  a22 := fun w => by kernel_rfl
  z22 := fun w => by kernel_rfl
  v22 := fun w => by kernel_rfl
/-! ### Elements in line -/
def flatL (es : List E5) : List Value := es.flatMap E5.cells
theorem flatL_cons (e : E5) (es : List E5) : flatL (e :: es) = e.cells ++ flatL es := by simp [flatL]
theorem flatL_length : ∀ es : List E5, (flatL es).length = es.length * 5
  | [] => by simp [flatL]
  | e :: es => by rw [flatL_cons, List.length_append, flatL_length es]; simp; omega
instance : Inhabited E5 := ⟨⟨0, 0, 0, none, 0, 0, none, 0, 0⟩⟩
theorem flatL_get : ∀ (es : List E5) (t : Nat), t < es.length * 5 → (flatL es)[t]? = (es.toArray[t / 5]!).cells[t % 5]?
  | [], t, h => by simp at h
  | e :: es, t, h => by
    rw [flatL_cons]
    by_cases h5 : t < 5
    · rw [List.getElem?_append_left (by simpa using h5), Nat.div_eq_of_lt h5, Nat.mod_eq_of_lt h5]
      rfl
    · obtain ⟨s, rfl⟩ : ∃ s, t = s + 5 := ⟨t - 5, by omega⟩
      rw [List.getElem?_append_right (by simp), show s + 5 - e.cells.length = s from by simp, flatL_get es s (by simp at h; omega), Nat.add_div_right _ (by decide), Nat.add_mod_right]
      have h1 : es.toArray[s / 5]! = (e :: es).toArray[s / 5 + 1]! := by simp [getElem!_def]
      rw [h1]
theorem flatK_toList (es : List E5) : (flatK E5.cells 5 es.toArray).toList = flatL es := by
  apply List.ext_getElem?
  intro t
  by_cases h : t < es.length * 5
  · rw [flatL_get es t h, Array.getElem?_toList, Array.getElem?_eq_getElem (by simpa using h)]
    have h1 := get_flatK E5.cells 5 es.toArray t (by simpa using h)
    rw [getElem!_pos _ t (by simpa using h)] at h1
    rw [h1]
    have h2 : t % 5 < (es.toArray[t / 5]!).cells.length := by simp; omega
    rw [getElem!_pos (es.toArray[t / 5]!).cells (t % 5) h2, List.getElem?_eq_getElem h2]
  · rw [List.getElem?_eq_none (by simp; omega), List.getElem?_eq_none (by rw [flatL_length]; omega)]
theorem own_flat {w : World} : ∀ {ts : List Tm} {inner : List Value} {F : List Nat}, OwL (OwT w) 5 inner ts F → ∃ es, OwE w es ts F ∧ inner = flatL es
  | [], inner, F, ⟨h, hF⟩ => ⟨[], hF, h⟩
  | t :: ts, inner, F, ⟨cs, rest, F1, F2, hi, hc, h1, h2, hF⟩ => by
    obtain ⟨A1, l1, c1, A2, l2, c2, rfl⟩ := h1.cells
    obtain ⟨es, h3, rfl⟩ := own_flat h2
    exact ⟨⟨t.kind, t.num, t.place, A1, l1, c1, A2, l2, c2⟩ :: es, ⟨F1, F2, h1, h3, hF⟩, by rw [flatL_cons, hi]⟩
theorem flat_own {w : World} : ∀ {es : List E5} {ts : List Tm} {F : List Nat}, OwE w es ts F → OwL (OwT w) 5 (flatL es) ts F
  | [], [], F, h => ⟨rfl, h⟩
  | e :: es, t :: ts, F, ⟨F1, F2, h1, h2, h3⟩ => ⟨e.cells, flatL es, F1, F2, flatL_cons e es, rfl, h1, flat_own h2, h3⟩
  | [], _ :: _, _, h => h.elim
  | _ :: _, [], _, h => h.elim
theorem OwE.append {w : World} : ∀ {es : List E5} {ts : List Tm} {F : List Nat} {es' : List E5} {ts' : List Tm} {F' : List Nat}, OwE w es ts F → OwE w es' ts' F' → OwE w (es ++ es') (ts ++ ts') (F ++ F')
  | [], [], F, es', ts', F', h, h' => by rw [show F = [] from h]; exact h'
  | e :: es, t :: ts, F, es', ts', F', ⟨F1, F2, h1, h2, h3⟩, h' => ⟨F1, F2 ++ F', h1, h2.append h', by rw [h3, List.append_assoc]⟩
  | [], _ :: _, _, _, _, _, h, _ => h.elim
  | _ :: _, [], _, _, _, _, h, _ => h.elim
theorem OwE.rev {w : World} : ∀ {es : List E5} {ts : List Tm} {F : List Nat}, OwE w es ts F → ∃ F', OwE w es.reverse ts.reverse F' ∧ F'.Perm F
  | [], [], F, h => ⟨F, h, List.Perm.refl _⟩
  | e :: es, t :: ts, F, ⟨F1, F2, h1, h2, h3⟩ => by
    obtain ⟨F', g1, g2⟩ := h2.rev
    refine ⟨F' ++ F1, ?_, ?_⟩
    · rw [List.reverse_cons, List.reverse_cons]
      exact g1.append ⟨F1, [], h1, rfl, by simp⟩
    · rw [h3]
      exact (List.Perm.append_right F1 g2).trans List.perm_append_comm
  | [], _ :: _, _, h => h.elim
  | _ :: _, [], _, h => h.elim
theorem isAgg_tm (w : World) : (isAgg (revRen.t 23)).run Tryd.prog w = .ok true w := by kernel_rfl
theorem sizeOf_tm (w : World) : (Go.sizeOf (revRen.t 23)).run Tryd.prog w = .ok 5 w := by kernel_rfl
theorem one_cells (e : E5) : ∀ v ∈ e.cells, v.oneCell' = true := by
  intro v hv
  simp only [E5.cells, List.mem_cons, List.not_mem_nil, or_false] at hv
  rcases hv with rfl | rfl | rfl | rfl | rfl <;> rfl
theorem putRow_heap {w : World} {g n : Nat} {d : Array Value} {cur : Array Value} {e : TypeId} (h : w.heap[g]? = some (.cells cur e (0, 0))) :
    (putRow id (Sort.ahead w n) g 0 d).heap[g]? = some (.cells (putCells id 0 d cur) e (0, 0)) ∧ (∀ q, q ≠ g → (putRow id (Sort.ahead w n) g 0 d).heap[q]? = w.heap[q]?) ∧ (putRow id (Sort.ahead w n) g 0 d).heap.size = w.heap.size := by
  refine ⟨?_, fun q hq => ?_, by simp [putRow, mapBlock, Sort.ahead]⟩
  · show (w.heap.modify g (onCells (putCells id 0 d)))[g]? = _
    rw [Array.getElem?_modify, if_pos rfl, h]
    rfl
  · show (w.heap.modify g (onCells (putCells id 0 d)))[q]? = _
    rw [Array.getElem?_modify, if_neg (fun e => hq e.symm)]
theorem putCells_take (d cur : Array Value) (h : d.size ≤ cur.size) : (putCells id 0 d cur).toList.take d.size = d.toList ∧ (putCells id 0 d cur).size = cur.size := by
  refine ⟨?_, by simp [putCells]⟩
  apply List.ext_getElem?
  intro t
  rw [List.getElem?_take]
  by_cases ht : t < d.size
  · rw [if_pos ht, Array.getElem?_toList, Array.getElem?_toList]
    simp only [putCells, Array.getElem?_mapIdx]
    rw [Array.getElem?_eq_getElem (show t < cur.size by omega), Array.getElem?_eq_getElem ht]
    simp [ht]
  · rw [if_neg ht, Array.getElem?_toList, Array.getElem?_eq_none (by omega)]
/-- A row of one's own, reversed. -/
theorem Reverse_own (ts : List Tm) (v : Value) (w : World) (F : List Nat) (hl : ts.length ≤ 1099511627776) (h : OwTs w v ts F) (hF : F.Nodup) :
    Calls Tryd.prog 58 #[v] w (fun e w' => e = .returned (.tuple #[]) ∧ (∃ F', OwTs w' v ts.reverse F' ∧ F'.Perm F) ∧ (∀ q, v.ownBlock ≠ some q → w'.heap[q]? = w.heap[q]?) ∧ w'.heap.size = w.heap.size ∧ w'.os = w.os ∧ w'.tape = w.tape ∧ w'.output = w.output) := by
  obtain ⟨inner, Fi, hown, hin, rfl⟩ := id h
  rcases hown.2 with ⟨rfl, h0⟩ | ⟨g, cap, cur, rfl, _, hg, hn, hm, hs, ht⟩
  · refine (AnyQ.slices_Reverse_empty revLay none 0 w).mono ?_
    rintro e w' ⟨rfl, rfl⟩
    have : ts = [] := List.eq_nil_of_length_eq_zero h0
    subst this
    exact ⟨rfl, ⟨_, h, List.Perm.refl _⟩, fun _ _ => rfl, rfl, rfl, rfl, rfl⟩
  · obtain ⟨es, hE, rfl⟩ := own_flat hin
    have hel := hE.length
    have hfl : (flatK E5.cells 5 es.toArray).size = ts.length * 5 := by simp [hel]
    have hH : HoldsK E5.cells 5 w g 0 es.toArray := by
      intro j hj
      have hj' : j < ts.length * 5 := by omega
      rw [Nat.zero_add]
      have hb : Blk w g cur 30 := hg
      refine ⟨?_, hb.frozen j⟩
      rw [hb.cell j, getElem!_pos _ j hj]
      have h1 : cur[j]? = (cur.toList.take (ts.length * 5))[j]? := by rw [List.getElem?_take, if_pos hj', Array.getElem?_toList]
      rw [h1, ht, ← flatK_toList, Array.getElem?_toList, Array.getElem?_eq_getElem hj]
      rfl
    have hc := AnyQ.slices_Reverse revLay 5 isAgg_tm sizeOf_tm E5.cells (fun _ => rfl) one_cells g 0 cap es.toArray w hH (by simp; omega)
    rw [show es.toArray.size = ts.length from by simpa using hel] at hc
    refine hc.mono ?_
    rintro e w' ⟨rfl, n, rfl⟩
    obtain ⟨p1, p2, p3⟩ := putRow_heap (n := n) (d := flatK E5.cells 5 es.toArray.reverse) hg
    rw [List.reverse_toArray] at p1 p2 p3 ⊢
    obtain ⟨F', g1, g2⟩ := hE.rev
    have hsz : (flatK E5.cells 5 es.reverse.toArray).size = ts.length * 5 := by simp [hel]
    obtain ⟨q1, q2⟩ := putCells_take (flatK E5.cells 5 es.reverse.toArray) cur (by rw [hsz, hs]; exact Nat.mul_le_mul_right 5 hn)
    have hsm : Same F' w (putRowK E5.cells 5 (Sort.ahead w n) g 0 es.reverse.toArray) := fun q hq => p2 q (fun e => by
      subst e
      rw [show (Value.slice (some ⟨q, 0, none⟩) ts.length cap).ownBlock.toList = [q] from rfl, List.singleton_append, List.nodup_cons] at hF
      exact hF.1 (g2.mem_iff.1 hq))
    refine ⟨rfl, ⟨g :: F', ⟨flatL es.reverse, F', ⟨by rw [flatL_length]; simp [hel], .inr ⟨g, cap, _, by simp, Nat.zero_le _, p1, by simpa using hn, hm, by rw [q2, hs], ?_⟩⟩, (flat_own g1).imp (fun x cs G _ hG h => OwT.mov _ _ _ _ _ (fun b hb => hsm b (hG b hb)) h), rfl⟩, ?_⟩, fun q hq => p2 q (fun e => hq (by rw [e]; rfl)), p3, rfl, rfl, rfl⟩
    · rw [List.length_reverse, ← hsz, q1, flatK_toList]
    · exact List.Perm.cons g g2
end Go.Proofs.YtebgldnlkkhejaaDoor

/-! ## tele: Spine. -/
namespace Go.Proofs.YtebgldnlkkhejaaDoor
set_option linter.unusedSimpArgs false
set_option linter.unusedVariables false
open Go Go.RowKit Go.Shelf Go.Proofs.YtebgldnlkkhejaaDoorW.PrintLast

attribute [local go_sem] Oper.semAt_some
set_option maxHeartbeats 1000000 in
theorem spine_in (n : Nat) (Bt : Nat) (w : World) :
    CallsIn Fence.wide n Tryd.prog 57 #[.pointer (some ⟨Bt, 0, none⟩)] w fun e w' => e = .returned (.func (.func 89) #[] #[.pointer (some ⟨w.heap.size, 0, none⟩)]) ∧ w' = w.alloc (.cells #[.pointer (some ⟨Bt, 0, none⟩)] 93) := by
  have hro : Fence.wide.round = none := rfl
  refine callsIn_of_wp Tryd.func57 rfl trivial ?_ hro
  simp only [Tryd.ntmps57, List.size_toArray, List.length_cons, List.length_nil, Nat.reduceAdd, Nat.reduceSub, Array.replicate_succ, Array.replicate_zero, List.push_toArray, List.append_toArray, List.nil_append, List.cons_append]
  gi_wp2
  go_ret
  exact ⟨rfl, rfl⟩
theorem spine_len : ∀ t : Tm, (spineT t).2.length ≤ t.nodes := by
  intro t
  induction t using Tm.ind with
  | h k n a lv kids ih =>
    by_cases h : k = 6 ∧ kids.length = 2
    · obtain ⟨rfl, hl⟩ := h
      rcases kids with _ | ⟨f, _ | ⟨x, _ | ⟨z, zs⟩⟩⟩ <;> simp at hl
      rw [spineT_two, if_pos rfl]
      have := ih f (by simp)
      simp only [List.length_append, List.length_singleton, Tm.nodes, Tm.nodesL]
      omega
    · rw [spineT_not (by omega)]
      simp
theorem spine_okt : ∀ t : Tm, Okt t → (Okt (spineT t).1 ∧ (spineT t).1.nodes ≤ t.nodes) ∧ ∀ x ∈ (spineT t).2, Okt x ∧ x.nodes ≤ t.nodes := by
  intro t
  induction t using Tm.ind with
  | h k n a lv kids ih =>
    intro ho
    by_cases h : k = 6 ∧ kids.length = 2
    · obtain ⟨rfl, hl⟩ := h
      rcases kids with _ | ⟨f, _ | ⟨x, _ | ⟨z, zs⟩⟩⟩ <;> simp at hl
      rw [spineT_two, if_pos rfl]
      dsimp only
      have hf := ih f (by simp) (ho.kid f (by simp))
      have hn : (Tm.mk 6 n a lv [f, x]).nodes = f.nodes + x.nodes + 1 := by simp only [Tm.nodes, Tm.nodesL]; omega
      refine ⟨⟨hf.1.1, by have := hf.1.2; omega⟩, fun y hy => ?_⟩
      rcases List.mem_append.1 hy with hy | hy
      · exact ⟨(hf.2 y hy).1, by have := (hf.2 y hy).2; omega⟩
      · simp at hy
        subst hy
        exact ⟨ho.kid y (by simp), by omega⟩
    · rw [spineT_not (by omega)]
      exact ⟨⟨ho, Nat.le_refl _⟩, by simp⟩
/-- No way out but the normal one. -/
def OnlyN (K : Act → World → Prop) : Exit → Act → World → Prop
  | .normal, a, w => K a w
  | _, _, _ => False
theorem onlyN {P : Program} {c : Code} {Q : Exit → Act → World → Prop} {a : Act} {w : World} (h : c.wp P (OnlyN (Q .normal)) a w) : c.wp P Q a w :=
  wp_mono h (fun e a w hq => by cases e <;> first | exact hq | exact hq.elim)
/-- How Spine ends. -/
def SpineOut (w : World) (t : Tm) (e : Ending) (w' : World) : Prop := ∃ cs A c F F2, e = .returned (.tuple #[.agg cs.toArray, .slice A (spineT t).2.length c]) ∧ OwT w' (ownT (spineT t).1) cs F ∧ OwTs w' (.slice A (spineT t).2.length c) ((spineT t).2.map ownT) F2 ∧ Fr w.heap.size w' (F ++ F2) ∧ Below w.heap.size w w'
set_option maxRecDepth 100000 in
set_option maxHeartbeats 4000000 in
theorem Spine_any (t : Tm) (cs : List Value) (w : World) (hK : Kinds w) (h : In w t cs) (hnodes : t.nodes ≤ 1099511627775) :
    Calls Tryd.prog 24 #[.agg cs.toArray] w (SpineOut w t) := by
  obtain ⟨A1, l1, c1, A2, l2, c2, rfl⟩ := h.rd.cells
  refine (callsIn_wide (n := 4)).1 ?_
  have hro : Fence.wide.round = none := rfl
  refine callsIn_of_wp_marks Tryd.func24 rfl trivial ?_ hro
  simp only [Tryd.ntmps24, List.size_toArray, List.length_cons, List.length_nil, Nat.reduceAdd, Nat.reduceSub, Array.replicate_succ, Array.replicate_zero, List.push_toArray, List.append_toArray, List.nil_append, List.cons_append]
  obtain ⟨k0, k1, k2, hb, hsz⟩ := blks3 w #[.int .i64 t.kind, .int .i64 t.num, .int .i64 t.place, .slice A1 l1 c1, .slice A2 l2 c2] #[.int .i64 0, .int .i64 0, .int .i64 0, .slice none 0 0, .slice none 0 0] #[.slice none 0 0] 30 30 28
  have HI := Lib.hid (And.intro h (And.intro hK hnodes))
  clear h hK hnodes
  gi_wp2_with fail
  refine ⟨trivial, (spine_in _ _ _).mono ?_⟩
  rintro e w' ⟨rfl, rfl⟩
  obtain ⟨k3, hb3, hs3⟩ := blks1 (((w.alloc (.cells #[.int .i64 t.kind, .int .i64 t.num, .int .i64 t.place, .slice A1 l1 c1, .slice A2 l2 c2] 30)).alloc (.cells #[.int .i64 0, .int .i64 0, .int .i64 0, .slice none 0 0, .slice none 0 0] 30)).alloc (.cells #[.slice none 0 0] 28)) #[.pointer (some ⟨w.heap.size, 0, none⟩)] 93
  rw [hsz] at hs3 k3
  replace k0 := k0.below hb3
  replace k1 := k1.below hb3
  replace k2 := k2.below hb3
  have hbw := hb.trans (hb3.mono (by omega))
  clear hb hb3
  gi_wp2_with fail
  obtain ⟨W0, hW0⟩ : ∃ W0, (((((w.alloc (.cells #[.int .i64 t.kind, .int .i64 t.num, .int .i64 t.place, .slice A1 l1 c1, .slice A2 l2 c2] 30)).alloc (.cells #[.int .i64 0, .int .i64 0, .int .i64 0, .slice none 0 0, .slice none 0 0] 30)).alloc (.cells #[.slice none 0 0] 28))).alloc (.cells #[.pointer (some ⟨w.heap.size, 0, none⟩)] 93)) = W0 := ⟨_, rfl⟩
  rw [hW0] at k0 k1 k2 k3 hs3 hbw ⊢
  clear hW0 hsz
  have hs4 : W0.heap.size = w.heap.size + 4 := by omega
  have hI0 : SpInv w [] W0 := ⟨hbw, k1, ⟨none, 0, [], k2, OwS.nil _ _ _ _, Fr.nil _ _⟩, by omega⟩
  have HI0 := Lib.hid (And.intro k0 (And.intro k3 hbw))
  clear k0 k1 k2 k3 hbw
  refine range_tells hro (by omega) (gf := 89) (lb := #[.pointer (some ⟨w.heap.size + 3, 0, none⟩)]) rfl trivial (enters_of Tryd.func89 (by kernel_rfl) rfl)
    (encs := fun x : E5 × Tm => #[.agg x.1.cells.toArray]) (fun _ => rfl) (G := fun x => RdT w x.2 x.1.cells ∧ Okt x.2 ∧ x.2.nodes ≤ t.nodes) (N := t.nodes)
    (KpS w.heap.size w.heap.size (w.heap.size + 3)) (fun A B => A.grownBy B (some w.heap.size)) (SpInv w)
    (fun xs W => ∃ h : E5, Blk W w.heap.size h.cells.toArray 30 ∧ RdT w (spineT t).1 h.cells ∧ xs.map (·.2) = (spineT t).2.reverse)
    KpS.trans
    (fun W l o o' hl ho hc => by
      have hlt := (Array.getElem?_eq_some_iff.1 ho).1
      have hg := grownBy_putObj' W l o'
      exact ⟨(Below.refl _ W).grown hg (by omega) (fun k e => by cases e; omega), hg.block _ (by omega) (fun e => by cases e; omega), hg.block _ (by omega) (fun e => by cases e; omega)⟩)
    (fun A B hm q hq hlt => hm.block q hlt (fun e => by cases e; omega))
    (by rw [hs4]; exact SpInv.own)
    (by
      rintro xs X Y row ⟨h, h1, h2, h3⟩ hg hr
      exact ⟨h, h1.own hg (fun r e => (hr r e).2), h2, h3⟩)
    (fun pre A B hm h => h.moved hm) hI0
    (fun l J W hW hJ hY h0 => spine1_in 3 (by omega) l (w.heap.size + 3) w.heap.size w t (Nat.le_refl _) (by omega) HI.out.1.ok (by have := HI.out.2.2; omega) J hJ hY W (HI0.out.2.2.trans (hW.mono (by omega)))
      ⟨t.kind, t.num, t.place, A1, l1, c1, A2, l2, c2⟩ HI.out.1.rd (HI0.out.1.below hW) (HI0.out.2.1.below hW) h0)
    (fun x a' W => ∃ Bx, w.heap.size + 4 ≤ Bx ∧ Blk W Bx x.1.cells.toArray 30 ∧ a' = { tmps := #[.agg #[.int .i64 t.kind, .int .i64 t.num, .int .i64 t.place, .slice A1 l1 c1, .slice A2 l2 c2], .pointer (some ⟨w.heap.size, 0, none⟩), .pointer (some ⟨w.heap.size + 1, 0, none⟩), .slice none 0 0, .pointer (some ⟨w.heap.size + 1 + 1, 0, none⟩), .pointer (some ⟨Bx, 0, none⟩), .func (.func 89) #[] #[.pointer (some ⟨w.heap.size + 3, 0, none⟩)], .agg x.1.cells.toArray, undef, undef, undef, undef, undef, undef, undef, undef, undef, undef, undef, undef], defers := [] })
    (fun x a' _ X Y row hs hg hr => by obtain ⟨Bx, h1, h2, h3⟩ := hs; exact ⟨Bx, h1, h2.own hg (fun r e => (hr r e).2), h3⟩)
    ?assign ?body ?done
  case assign =>
    rintro l pre ⟨x, tx⟩ W K' hI hG hK
    dsimp only [E5.cells]
    gi_wp2
    have hA' : Below W.heap.size W (W.alloc (.cells x.cells.toArray 30)) := (Below.refl _ W).alloc (Nat.le_refl _) _
    have hsz := hI.sz
    refine hK _ _ ((KeepsOthers.alloc _ _).from _) ⟨hA'.mono (by omega), hA'.block _ (by omega), hA'.block _ (by omega)⟩ (hI.moved (alloc_grown _ _ _)) ⟨W.heap.size, hsz, Blk.new W _ _, rfl⟩
  case body =>
    rintro l pre ⟨x, tx⟩ a' W hl ⟨rr, hr⟩ hI ⟨Bx, hBx, bX, rfl⟩ hG hlt
    obtain ⟨hb, kR, ⟨A, c, F, ha, hO, hF⟩, sz⟩ := id hI
    dsimp only [E5.cells] at bX ⊢
    dsimp only at hG
    have gA := (show Blk W (w.heap.size + 1 + 1) #[.slice A pre.length c] 28 from ha).cell
    have nA : w.heap.size + 1 + 1 < W.heap.size := by omega
    have gX := bX.cell
    have nX := bX.lt
    obtain ⟨inner, Fi, hown, hin, hFi⟩ := id hO
    rw [List.length_map] at hown
    have HR := Lib.hid (And.intro hI (And.intro ha (And.intro hO (And.intro hF (And.intro bX hG)))))
    have HB := Lib.hid hb
    have HW := Lib.hid (And.intro hown hFi)
    have hpl : pre.length ≤ 1099511627775 := by have := HI.out.2.2; omega
    have hp0 : (0 : Int) ≤ (pre.length : Int) := Int.natCast_nonneg _
    have hp1 : (pre.length : Int) < (pre.length : Int) + 1 := by omega
    clear hI hb kR ha hO hF sz bX hG hr hown hin hFi
    gi_wp2
    refine startR_ (n := 9) (S := fun W' => ∀ b o, b < W.heap.size → W'.cell? ⟨b, o, none⟩ = W.cell? ⟨b, o, none⟩) (ds := [5, 7, 8]) #[false, false, false, false, false, false, false, false, false] (by kernel_rfl) (by kernel_rfl) (fun _ _ h => h) rfl rfl (by exact (fun _ _ _ => rfl)) (fun hHeld => ?_)
    refine take_ (i := 0) (N := some 8) (v := ?_) (a' := ?_) #[true, false, false, false, false, false, false, false, false] rfl rfl (by kernel_rfl) (fun _ _ _ h => h) (Or.inl ⟨by rfl, ?_⟩) hHeld ?_ ?_
    rotate_left
    · rintro w' hS'
      go_simp
      with_reducible rfl
    rotate_left
    · simp only [Act.put, List.setIfInBounds_toArray, List.set_cons_zero, List.set_cons_succ]
      rfl
    refine take_ (i := 1) (N := some 9) (v := ?_) (a' := ?_) #[true, true, false, false, false, false, false, false, false] rfl rfl (by kernel_rfl) (fun _ _ _ h => h) (Or.inl ⟨by rfl, ?_⟩) hHeld ?_ ?_
    rotate_left
    · rintro w' hS'
      go_simp
      with_reducible rfl
    rotate_left
    · simp only [Act.put, List.setIfInBounds_toArray, List.set_cons_zero, List.set_cons_succ]
      rfl
    refine take_ (i := 3) (N := some 11) (v := ?_) (a' := ?_) #[true, true, false, true, false, false, false, false, false] rfl rfl (by kernel_rfl) (fun _ _ _ h => h) (Or.inl ⟨by rfl, ?_⟩) hHeld ?_ ?_
    rotate_left
    · rintro w' hS'
      go_simp
      with_reducible rfl
    rotate_left
    · simp only [Act.put, List.setIfInBounds_toArray, List.set_cons_zero, List.set_cons_succ]
      rfl
    refine join_ (σ := E5 × Nat) 4 #[true, true, true, true, true, false, false, false, false] (fun s => [(10, .agg s.1.cells.toArray), (12, .slice (some ⟨s.2, 0, none⟩) 1 1)]) (fun s w' => Below W.heap.size W w' ∧ (∃ Fx, OwT w' (ownT tx) s.1.cells Fx ∧ Fr W.heap.size w' Fx) ∧ Blk w' s.2 #[.int .i64 0, .int .i64 0, .int .i64 0, .slice none 0 0, .slice none 0 0] 30) ?_ ?_
    rotate_left
    · intro hJ
      refine two_ (i := 2) (j := 4) (Ni := some 10) (Nj := some 12) #[true, true, true, true, false, false, false, false, false] #[true, true, false, true, true, false, false, false, false] rfl rfl rfl rfl (by kernel_rfl) (by decide) (by decide) (fun K hK => ?_) (fun K hK => ?_)
      · go_simp
        refine (ownT_any tx _ W.drew (HI.out.2.1.below (HB.out.drew)) ⟨RdT.below (keeps_of HB.out.drew) _ _ HR.out.2.2.2.2.2.1, HR.out.2.2.2.2.2.2.1, by have := HR.out.2.2.2.2.2.2.2; have := HI.out.2.2; omega⟩).mono ?_
        rintro e w3 ⟨cs', Fx, rfl, hx, hFx, hb3⟩
        obtain ⟨A7, l7, c7, A8, l8, c8, rfl⟩ := hx.cells
        have HX := Lib.hid (And.intro hx (And.intro (show Fr W.heap.size w3 Fx from hFx) (undrew hb3)))
        clear hx hFx hb3
        refine hK.out _ _ (keeps_of HX.out.2.2) (fun hHeld => ?_)
        clear hK K
        refine one_ (i := 4) (N := some 12) #[true, true, true, true, true, false, false, false, false] rfl rfl (by kernel_rfl) (by decide) (fun K hK => ?_)
        go_simp
        refine hK.out _ _ (Keeps.trans (keeps_of HX.out.2.2) HX.out.2.2.size (keeps_of ((Below.refl _ _).alloc (Nat.le_refl _) _))) (fun hHeld => ?_)
        clear hK K
        refine norm_ (a' := ?_) ?_ ?_
        rotate_left
        · first
            | rfl
            | (simp only [Act.put, List.setIfInBounds_toArray, List.set_cons_zero, List.set_cons_succ]; rfl)
        have hbA : Below w3.heap.size w3 (w3.alloc (.cells #[.int .i64 0, .int .i64 0, .int .i64 0, .slice none 0 0, .slice none 0 0] 30)) := (Below.refl _ _).alloc (Nat.le_refl _) _
        exact hJ (⟨(ownT tx).kind, (ownT tx).num, (ownT tx).place, A7, l7, c7, A8, l8, c8⟩, w3.heap.size) _ ⟨HX.out.2.2.trans (hbA.mono HX.out.2.2.size), ⟨Fx, OwT.mov _ _ _ _ _ (Same.of_below HX.out.2.1 hbA) HX.out.1, HX.out.2.1.mono (Nat.le_refl _) hbA.size⟩, Blk.new _ _ _⟩
      · go_simp
        have hbA' : Below W.heap.size W (W.alloc (.cells #[.int .i64 0, .int .i64 0, .int .i64 0, .slice none 0 0, .slice none 0 0] 30)).drew := ((Below.refl _ W).alloc (Nat.le_refl _) _).drew
        have kA : Blk (W.alloc (.cells #[.int .i64 0, .int .i64 0, .int .i64 0, .slice none 0 0, .slice none 0 0] 30)).drew W.heap.size #[.int .i64 0, .int .i64 0, .int .i64 0, .slice none 0 0, .slice none 0 0] 30 := (Blk.new W _ _).drew
        obtain ⟨wA, hA⟩ : ∃ wA, (W.alloc (.cells #[.int .i64 0, .int .i64 0, .int .i64 0, .slice none 0 0, .slice none 0 0] 30)).drew = wA := ⟨_, rfl⟩
        rw [hA] at hbA' kA ⊢
        clear hA
        have HA := Lib.hid (And.intro hbA' kA)
        clear kA
        refine hK.out _ _ (keeps_of hbA') (fun hHeld => ?_)
        clear hK K hbA'
        refine norm_ (a' := ?_) ?_ ?_
        rotate_left
        · first
            | rfl
            | (simp only [Act.put, List.setIfInBounds_toArray, List.set_cons_zero, List.set_cons_succ]; rfl)
        refine one_ (i := 2) (N := some 10) #[true, true, true, true, true, false, false, false, false] rfl rfl (by kernel_rfl) (by decide) (fun K hK => ?_)
        go_simp
        have hbw := HB.out.trans (HA.out.1.mono HB.out.size)
        refine (ownT_any tx _ wA (HI.out.2.1.below hbw) ⟨RdT.below (keeps_of hbw) _ _ HR.out.2.2.2.2.2.1, HR.out.2.2.2.2.2.2.1, by have := HR.out.2.2.2.2.2.2.2; have := HI.out.2.2; omega⟩).mono ?_
        clear hbw
        rintro e w3 ⟨cs', Fx, rfl, hx, hFx, hb3⟩
        obtain ⟨A7, l7, c7, A8, l8, c8, rfl⟩ := hx.cells
        have HX := Lib.hid (And.intro hx (And.intro hFx hb3))
        clear hx hFx hb3
        refine hK.out _ _ (Keeps.trans (keeps_of HA.out.1) HA.out.1.size (keeps_of HX.out.2.2)) (fun hHeld => ?_)
        clear hK K
        refine norm_ (a' := ?_) ?_ ?_
        rotate_left
        · first
            | rfl
            | (simp only [Act.put, List.setIfInBounds_toArray, List.set_cons_zero, List.set_cons_succ]; rfl)
        exact hJ (⟨(ownT tx).kind, (ownT tx).num, (ownT tx).place, A7, l7, c7, A8, l8, c8⟩, W.heap.size) _ ⟨HA.out.1.trans (HX.out.2.2.mono HA.out.1.size), ⟨Fx, HX.out.1, HX.out.2.1.mono HA.out.1.size (Nat.le_refl _)⟩, HA.out.2.below HX.out.2.2⟩
    · rintro ⟨x5, z⟩ w3 ⟨hb3, ⟨Fx, hx, hFx⟩, hz⟩
      obtain ⟨k5, n5, a5, A7, l7, c7, A8, l8, c8⟩ := x5
      dsimp only [E5.cells] at hx
      refine norm_ (a' := ?_) ?_ ?_
      rotate_left
      · simp only [putAll, Act.put, List.setIfInBounds_toArray, List.set_cons_zero, List.set_cons_succ, E5.cells]
        rfl
      have HX := Lib.hid (And.intro hx (And.intro hFx (And.intro hb3 hz)))
      clear hx hFx hb3 hz
      refine last_ (i := 5) (N := some 13) #[true, true, true, true, true, true, false, false, false] rfl rfl (by kernel_rfl) (by decide) (fun K hK => ?_)
      refine step_append rfl (.tmp 8) (.tmp 12) 28 rfl 30 _ 5 72 Tryd.underlying28 infoTm rfl (by decide) (.slice A pre.length c) pre.length inner rfl (ownsRow_move HW.out.1 (fun q hq => HX.out.2.2.1.block q (HW.out.1.lt q hq).2))
        ⟨z, 0, none⟩ 1 1 [.int .i64 0, .int .i64 0, .int .i64 0, .slice none 0 0, .slice none 0 0] rfl rfl (news_at HX.out.2.2.2) (by simp [Value.oneCell']) (by simp only [maxLen]; omega) (by omega) ?_
      intro v2 w5 hown2 hg hat
      obtain ⟨g, c9, rfl⟩ := ownsRow_succ hown2
      have hgl := (hown2.lt g rfl).2
      have hil := HW.out.1.1
      have hcg : ∀ i u, ([.int .i64 0, .int .i64 0, .int .i64 0, .slice none 0 0, .slice none 0 0] : List Value)[i]? = some u → w5.cell? ⟨g, pre.length * 5 + i, none⟩ = some u := fun i u hu => by
        have := hown2.cells (g := g) rfl (pre.length * 5 + i) u (by rw [List.getElem?_append_right (by omega), show pre.length * 5 + i - inner.length = i by omega]; exact hu)
        rwa [addr0, Nat.zero_add] at this
      have e0 := hcg 0 _ rfl
      have e1 := hcg 1 _ rfl
      have e2 := hcg 2 _ rfl
      have e3 := hcg 3 _ rfl
      have e4 := hcg 4 _ rfl
      rw [Nat.add_zero] at e0
      have fg : ∀ j, w5.frozen? ⟨g, j, none⟩ = false := by
        rcases hown2.2 with ⟨h0, _⟩ | ⟨g', cap', cur', hv', _, hh', _⟩
        · cases h0
        · simp at hv'
          obtain ⟨rfl, rfl⟩ := hv'
          exact fun j => Blk.frozen (show Blk w5 g cur' 30 from hh') j
      have HP := Lib.hid (SpInv.push (B := W0.heap.size) (x := (x, tx)) HR.out.1 HR.out.2.1 HR.out.2.2.1 HR.out.2.2.2.1 HX.out.2.2.1 HX.out.1 HX.out.2.1 (Below.refl _ _) rfl (fun inner' hi' => by rw [ownsRow_unique hi' HW.out.1]; exact hown2) hg hat hgl (by omega))
      have hgne : g ≠ w.heap.size + 1 + 1 := by
        have h1 := HR.out.2.2.2.1
        have h2 := HX.out.2.2.1.size
        rcases hat with h | h
        · have := (h1.2 g (by rw [HW.out.2, ← h]; simp [Value.ownBlock])).1; omega
        · simp [Value.ownBlock] at h; omega
      have kB : Blk w5 (w.heap.size + 1 + 1) #[.slice A pre.length c] 28 := by
        have h1 := HR.out.2.2.2.1
        refine (hg.block _ (by have := HX.out.2.2.1.size; omega) (fun e => ?_)).trans ((HX.out.2.2.1.block _ (by omega)).trans HR.out.2.1)
        have := (h1.2 (w.heap.size + 1 + 1) (by rw [HW.out.2, ← e]; simp)).1
        omega
      have cB := kB.cell
      have fB := kB.frozen
      have nB := kB.lt
      have HG := Lib.hid hgne
      clear hown2 hg hat hil hcg kB
      refine hK.out _ _ ?_
      clear hK K
      refine norm_ (a' := ?_) ?_ ?_
      rotate_left
      · first
          | rfl
          | (simp only [Act.put, List.setIfInBounds_toArray, List.set_cons_zero, List.set_cons_succ]; rfl)
      refine pure_ (i := 6) (N := some 14) (v := ?_) (a' := ?_) #[true, true, true, true, true, true, true, false, false] rfl rfl (by kernel_rfl) (fun _ _ _ h => h) (Or.inl ⟨by rfl, ?_⟩) ?_ ?_
      rotate_left
      · rintro w'
        go_simp
        with_reducible rfl
      rotate_left
      · simp only [Act.put, List.setIfInBounds_toArray, List.set_cons_zero, List.set_cons_succ]
        rfl
      refine twoL_ (i := 7) (j := 8) (Ni := none) (Nj := none) #[true, true, true, true, true, true, true, true, false] #[true, true, true, true, true, true, true, false, true] rfl rfl rfl rfl (by kernel_rfl) (by decide) (by decide) (fun K hK => ?_) (fun K hK => ?_)
      · go_simp
        refine hK.out _ _ ?_
        clear hK K
        refine last_ (i := 8) (N := none) #[true, true, true, true, true, true, true, true, true] rfl rfl (by kernel_rfl) (by decide) (fun K hK => ?_)
        go_simp
        refine hK.out _ _ ?_
        clear hK K
        refine norm_ (a' := ?_) ?_ ?_
        rotate_left
        · first
            | rfl
            | (simp only [Act.put, List.setIfInBounds_toArray, List.set_cons_zero, List.set_cons_succ]; rfl)
        refine done_ (by kernel_rfl) ?_
        exact HP.out
      · go_simp
        refine hK.out _ _ ?_
        clear hK K
        refine last_ (i := 7) (N := none) #[true, true, true, true, true, true, true, true, true] rfl rfl (by kernel_rfl) (by decide) (fun K hK => ?_)
        go_simp
        refine hK.out _ _ ?_
        clear hK K
        refine norm_ (a' := ?_) ?_ ?_
        rotate_left
        · first
            | rfl
            | (simp only [Act.put, List.setIfInBounds_toArray, List.set_cons_zero, List.set_cons_succ]; rfl)
        refine done_ (by kernel_rfl) ?_
        have hcm := put5o_comm w5 ⟨w.heap.size + 1 + 1, 0, none⟩ (.slice (some ⟨g, 0, none⟩) (pre.length + 1) c9) g (pre.length * 5) (.int .i64 k5) (.int .i64 n5) (.int .i64 a5) (.slice A7 l7 c7) (.slice A8 l8 c8) HG.out
        have hp := HP.out
        rw [show w.heap.size + 2 = w.heap.size + 1 + 1 from rfl] at hp
        rw [← hcm] at hp
        exact hp
  case done =>
    rintro D ys W hD ⟨hh, hX1, hX2, hX3⟩ hI hKd
    obtain ⟨hb, kR, ⟨A, c, F, ha, hO, hF⟩, sz⟩ := hI
    have hpl : ys.length = (spineT t).2.length := by have := congrArg List.length hX3; simpa using this
    have hyl : ys.length ≤ 1099511627776 := by rw [hpl]; have := spine_len t; have := HI.out.2.2; omega
    have hrev : (ys.map (fun x => ownT x.2)).reverse = (spineT t).2.map ownT := by
      rw [show (fun x : E5 × Tm => ownT x.2) = ownT ∘ (fun x : E5 × Tm => x.2) from rfl, ← List.map_map, hX3, ← List.map_reverse, List.reverse_reverse]
    rw [hpl] at ha hO
    have gA := (show Blk W (w.heap.size + 1 + 1) #[.slice A (spineT t).2.length c] 28 from ha).cell
    have nA : w.heap.size + 1 + 1 < W.heap.size := by omega
    have hlen : (ys.map (fun x : E5 × Tm => ownT x.2)).length = (spineT t).2.length := by rw [List.length_map]; exact hpl
    have HO := Lib.hid (And.intro hb (And.intro kR (And.intro ha (And.intro hO (And.intro hF (And.intro hX1 (And.intro hX2 (And.intro hrev (And.intro hKd hlen)))))))))
    have HY := Lib.hid (And.intro hyl hpl)
    clear hb kR ha hO hF hX1 hX2 hX3 hrev hKd hlen hyl hpl
    gi_wp2_with fail
    refine ⟨trivial, (callsIn_wide.2 (Reverse_own (ys.map (fun x : E5 × Tm => ownT x.2)) (.slice A (spineT t).2.length c) W F (by rw [List.length_map]; exact HY.out.1) HO.out.2.2.2.1 HO.out.2.2.2.2.1.1)).mono ?_⟩
    rintro e w1 ⟨rfl, ⟨F1, hO1, hP1⟩, hk1, hs1, o1, o2, o3⟩
    obtain ⟨hb, kR, ha, hO, hF, hX1, hX2, hrev, hKd, hlen⟩ := HO.out
    rw [hrev] at hO1
    obtain ⟨inner, Fi, hown, -, hFi⟩ := id hO
    have hlo : ∀ q, q < w.heap.size + 4 → (Value.slice A (spineT t).2.length c).ownBlock ≠ some q := fun q hq e => by have := (hF.2 q (by rw [hFi, e]; simp)).1; omega
    have hD1 : w1.heap[D]? = some (.deferred (some [])) := (hk1 D (fun e => by
      obtain ⟨o, ho, hc⟩ := hO.isC D (by rw [hFi, e]; simp)
      rw [hKd] at ho
      cases ho
      cases hc)).trans hKd
    have hb1 : Below w.heap.size w w1 := hb.trans ⟨o1, o2, o3, by omega, fun q hq => hk1 q (hlo q (by omega))⟩
    have kT : Blk w1 w.heap.size hh.cells.toArray 30 := (hk1 _ (hlo _ (by omega))).trans hX1
    have kR1 : Blk w1 (w.heap.size + 1) #[.int .i64 0, .int .i64 0, .int .i64 0, .slice none 0 0, .slice none 0 0] 30 := (hk1 _ (hlo _ (by omega))).trans kR
    have kA1 : Blk w1 (w.heap.size + 1 + 1) #[.slice A (spineT t).2.length c] 28 := (hk1 _ (hlo _ (by omega))).trans ha
    have hF1 : Fr (w.heap.size + 4) w1 F1 := ⟨hP1.nodup_iff.2 hF.1, fun q hq => by have := hF.2 q (hP1.mem_iff.1 hq); omega⟩
    dsimp only [E5.cells] at kT
    have cT := kT.cell
    have cA := kA1.cell
    have cR := kR1.cell
    have fR := kR1.frozen
    have nT := kT.lt
    have nA1 := kA1.lt
    have nR := kR1.lt
    have hDl := (Array.getElem?_eq_some_iff.1 hD1).1
    have HE := Lib.hid (And.intro hO1 (And.intro hF1 (And.intro hb1 (And.intro kR1 (And.intro hD1 (And.intro hX2 hDl))))))
    clear hb kR ha hO hF hX1 hX2 hrev hKd hlen hO1 hP1 hk1 hs1 o1 o2 o3 hown hFi hlo hD1 hb1 kT kR1 kA1 hF1 gA nA hDl
    gi_wp2
    refine wpIn_wide.2 (onlyN ?_)
    refine start_ (n := 5) (S := fun W' => ∀ b o, b < w1.heap.size → b ≠ w.heap.size + 1 → W'.cell? ⟨b, o, none⟩ = w1.cell? ⟨b, o, none⟩) (ds := []) #[false, false, false, false, false] (by kernel_rfl) rfl rfl (by exact (fun _ _ _ _ => rfl)) (fun hHeld => ?_)
    refine take_ (i := 0) (N := some 17) (v := ?_) (a' := ?_) #[true, false, false, false, false] rfl rfl (by kernel_rfl) (fun _ _ _ h => h) (Or.inl ⟨by rfl, ?_⟩) hHeld ?_ ?_
    rotate_left
    · rintro w' hS'
      go_simp
      with_reducible rfl
    rotate_left
    · simp only [Act.put, List.setIfInBounds_toArray, List.set_cons_zero, List.set_cons_succ]
      rfl
    refine take_ (i := 2) (N := some 19) (v := ?_) (a' := ?_) #[true, false, true, false, false] rfl rfl (by kernel_rfl) (fun _ _ _ h => h) (Or.inl ⟨by rfl, ?_⟩) hHeld ?_ ?_
    rotate_left
    · rintro w' hS'
      go_simp
      with_reducible rfl
    rotate_left
    · simp only [Act.put, List.setIfInBounds_toArray, List.set_cons_zero, List.set_cons_succ]
      rfl
    refine one_ (i := 1) (N := some 18) #[true, true, true, false, false] rfl rfl (by kernel_rfl) (by decide) (fun K hK => ?_)
    go_simp
    have hs := spine_okt t HI.out.1.ok
    refine (ownT_any (spineT t).1 _ w1.drew (HI.out.2.1.below HE.out.2.2.1.drew) ⟨RdT.below (keeps_of HE.out.2.2.1.drew) _ _ HE.out.2.2.2.2.2.1, hs.1.1, by have := hs.1.2; have := HI.out.2.2; omega⟩).mono ?_
    clear hs
    rintro e w2 ⟨cs', Fx, rfl, hx, hFx, hb2⟩
    obtain ⟨A7, l7, c7, A8, l8, c8, rfl⟩ := hx.cells
    have k2 := HE.out.2.2.2.1.below (undrew hb2)
    have cR2 := k2.cell
    have fR2 := k2.frozen
    have HX := Lib.hid (And.intro hx (And.intro (show Fr w1.heap.size w2 Fx from hFx) (And.intro (undrew hb2) k2)))
    clear hx hFx hb2 k2
    refine hK.out _ _ (fun b o hb _ => keeps_of HX.out.2.2.1 b o hb) (fun hHeld => ?_)
    clear hK K
    refine norm_ (a' := ?_) ?_ ?_
    rotate_left
    · first
        | rfl
        | (simp only [Act.put, List.setIfInBounds_toArray, List.set_cons_zero, List.set_cons_succ]; rfl)
    refine one_ (i := 3) (N := none) #[true, true, true, true, false] rfl rfl (by kernel_rfl) (by decide) (fun K hK => ?_)
    go_simp
    refine hK.out _ _ ?_ (fun hHeld => ?_)
    · intro b o hb hne
      have h1 := put5_at w2 (w.heap.size + 1) (.int .i64 (ownT (spineT t).1).kind) (.int .i64 (ownT (spineT t).1).num) (.int .i64 (ownT (spineT t).1).place) (.slice A7 l7 c7) (.slice A8 l8 c8) b hne
      exact (World.cell?_of_block (a := ⟨b, o, none⟩) h1).trans (keeps_of HX.out.2.2.1 b o hb)
    clear hK K
    refine norm_ (a' := ?_) ?_ ?_
    rotate_left
    · first
        | rfl
        | (simp only [Act.put, List.setIfInBounds_toArray, List.set_cons_zero, List.set_cons_succ]; rfl)
    refine pure_ (i := 4) (N := some 3) (v := ?_) (a' := ?_) #[true, true, true, true, true] rfl rfl (by kernel_rfl) (fun _ _ _ h => h) (Or.inl ⟨by rfl, ?_⟩) ?_ ?_
    rotate_left
    · rintro w'
      go_simp
      with_reducible rfl
    rotate_left
    · simp only [Act.put, List.setIfInBounds_toArray, List.set_cons_zero, List.set_cons_succ]
      rfl
    refine done_ (by kernel_rfl) ?_
    clear cT cA cR fR nT nA1 nR cR2 fR2
    unfold OnlyN
    gi_wp2
    obtain ⟨hO1, hF1, hb1, -, hD1, -, hDl⟩ := HE.out
    obtain ⟨hx, hFx, hb2, k2⟩ := HX.out
    have h5 := put5_blk (c0 := .int .i64 (ownT (spineT t).1).kind) (c1 := .int .i64 (ownT (spineT t).1).num) (c2 := .int .i64 (ownT (spineT t).1).place) (c3 := .slice A7 l7 c7) (c4 := .slice A8 l8 c8) k2
    have hat := put5_at w2 (w.heap.size + 1) (.int .i64 (ownT (spineT t).1).kind) (.int .i64 (ownT (spineT t).1).num) (.int .i64 (ownT (spineT t).1).place) (.slice A7 l7 c7) (.slice A8 l8 c8)
    have hbe := put5_below (c0 := .int .i64 (ownT (spineT t).1).kind) (c1 := .int .i64 (ownT (spineT t).1).num) (c2 := .int .i64 (ownT (spineT t).1).place) (c3 := .slice A7 l7 c7) (c4 := .slice A8 l8 c8) (hb1.trans (hb2.mono hb1.size)) (show w.heap.size ≤ w.heap.size + 1 by omega)
    have hsX := put5_size w2 (w.heap.size + 1) (.int .i64 (ownT (spineT t).1).kind) (.int .i64 (ownT (spineT t).1).num) (.int .i64 (ownT (spineT t).1).place) (.slice A7 l7 c7) (.slice A8 l8 c8)
    have hp : put5 w2 (w.heap.size + 1) (.int .i64 (ownT (spineT t).1).kind) (.int .i64 (ownT (spineT t).1).num) (.int .i64 (ownT (spineT t).1).place) (.slice A7 l7 c7) (.slice A8 l8 c8) = ((((w2.setCell ⟨w.heap.size + 1, 0, none⟩ (.int .i64 (ownT (spineT t).1).kind)).setCell ⟨w.heap.size + 1, 1, none⟩ (.int .i64 (ownT (spineT t).1).num)).setCell ⟨w.heap.size + 1, 2, none⟩ (.int .i64 (ownT (spineT t).1).place)).setCell ⟨w.heap.size + 1, 3, none⟩ (.slice A7 l7 c7)).setCell ⟨w.heap.size + 1, 4, none⟩ (.slice A8 l8 c8) := rfl
    rw [← hp]
    clear hp
    generalize put5 w2 (w.heap.size + 1) (.int .i64 (ownT (spineT t).1).kind) (.int .i64 (ownT (spineT t).1).num) (.int .i64 (ownT (spineT t).1).place) (.slice A7 l7 c7) (.slice A8 l8 c8) = X at *
    have hKX : X.heap[D]? = some (.deferred (some [])) := (hat D (by omega)).trans ((hb2.block D hDl).trans hD1)
    have hkk := (grownBy_putObj' X D (.deferred none)).block
    have h6 : Blk (X.putObj D (.deferred none)) (w.heap.size + 1) #[.int .i64 (ownT (spineT t).1).kind, .int .i64 (ownT (spineT t).1).num, .int .i64 (ownT (spineT t).1).place, .slice A7 l7 c7, .slice A8 l8 c8] 30 := (hkk _ h5.lt (fun e => by cases e; omega)).trans h5
    have s1 := hb1.size
    have s2 := hb2.size
    have hsx : Same (Fx ++ F1) w2 (X.putObj D (.deferred none)) := fun q hq => by
      have hq' : w.heap.size + 4 ≤ q ∧ q < w2.heap.size ∧ IsC w2 q := by
        rcases List.mem_append.1 hq with hq | hq
        · have h1 := hFx.2 q hq
          exact ⟨by omega, by omega, OwT.isC _ hx q hq⟩
        · have h1 := hF1.2 q hq
          obtain ⟨o, ho, hc⟩ := hO1.isC q hq
          exact ⟨by omega, by omega, o, (hb2.block q (by omega)).trans ho, hc⟩
      obtain ⟨q1, q2, o, ho, hc⟩ := hq'
      refine (hkk q (by omega) (fun e => ?_)).trans (hat q (by omega))
      have e' : q = D := Option.some.inj e
      rw [e'] at ho
      rw [hat D (by omega), ho] at hKX
      cases hKX
      cases hc
    refine ⟨by simp, .inl ⟨_, _, rfl, run_takeDeferred hKX, ?_⟩⟩
    refine ⟨_, ret_term_tmp Tryd.results24 rfl rfl h6, _, A, c, Fx, F1, rfl, OwT.mov _ _ _ _ _ hsx.left hx, (hO1.move (Same.of_below hF1 hb2)).move hsx.right, ?_, hbe.trans (belowK_b (w := w) (Nat.le_refl _) X D _ _ (by omega) hKX rfl rfl)⟩
    have hsz2 : (X.putObj D (.deferred none)).heap.size = w2.heap.size := by rw [← hsX]; simp [World.putObj]
    refine ⟨List.nodup_append.2 ⟨hFx.1, hF1.1, fun p hp q hq e => by have h1 := (hFx.2 p hp).1; have h2 := (hF1.2 q hq).2; omega⟩, fun q hq => ?_⟩
    rcases List.mem_append.1 hq with hq | hq
    · have h1 := hFx.2 q hq
      omega
    · have h1 := hF1.2 q hq
      omega
end Go.Proofs.YtebgldnlkkhejaaDoor

/-! ## The kit's counts: each returns some number and turns nothing that was there. -/
namespace Go.Proofs.YtebgldnlkkhejaaDoor
set_option linter.unusedSimpArgs false
set_option linter.unusedVariables false
open Go Go.RowKit Go.Proofs.YtebgldnlkkhejaaDoorW.PrintLast Go.Proofs.YtebgldnlkkhejaaDoorW.PrintMore
attribute [local go_sem] max2_int min2_int max_two min_two

/-- Some number; what was there reads as it did. -/
def QuietI (w : World) (e : Ending) (w' : World) : Prop := ∃ r : Int, e = .returned (.int .i64 r) ∧ Below w.heap.size w w'
set_option maxRecDepth 100000 in
theorem LevelOf_q (A : Option Addr) (n c : Nat) (most : Int) (w : World) : Calls Tryd.prog 77 #[.agg #[.slice A n c], .int .i64 most] w (QuietI w) := by
  have HB := Lib.hid (blks1 w #[.slice A n c] 38).2.1
  go_enter Tryd.func77, Tryd.ntmps77
  go_wp2
  all_goals
    go_ret
    exact ⟨_, rfl, HB.out⟩
theorem RdLvs_at {w : World} {b o : Nat} {lv : List Lv} (h : RdL (fun x cs => ∃ u, cs = [u] ∧ RdLv w u x) 1 w b o lv) (k : Nat) (hk : k < lv.length) : ∃ A c, RdLv w (.slice A lv[k].length c) lv[k] ∧ w.cell? ⟨b, o + k, none⟩ = some (.slice A lv[k].length c) ∧ b < w.heap.size := by
  obtain ⟨cs, _, ⟨u, rfl, hu⟩, ha⟩ := h.get k _ (List.getElem?_eq_getElem hk)
  obtain ⟨A, c, rfl, _⟩ := id hu
  have := ha 0 _ rfl
  rw [Nat.mul_one, Nat.add_zero] at this
  exact ⟨A, c, hu, this, World.block_lt_of_cell? w _ this⟩
set_option maxRecDepth 100000 in
set_option maxHeartbeats 1000000 in
theorem LevelsOf_q (lv : List Lv) (v : Value) (most : Int) (w : World) (h : RdLvs w v lv) : Calls Tryd.prog 40 #[v, .int .i64 most] w (QuietI w) := by
  obtain ⟨A, c, rfl, hc1, hc2, hr⟩ := h
  have hkl : (lv.length : Int) ≤ 9223372036854775807 := by omega
  have HR := Lib.hid hr
  clear hr hc1 hc2
  go_enter Tryd.func40, Tryd.ntmps40
  go_wp2_with fail
  go_loopw [5, 6] (fun n i wr => ∃ (r : Int) (j : Nat), j ≤ lv.length ∧ n = .int .i64 r ∧ i = .int .i64 j ∧ Hid (Below w.heap.size w wr)) (fun _ i _ => lv.length - (intOf i).toNat)
  case atStart => exact ⟨0, 0, by omega, rfl, rfl, Lib.hid (Below.refl _ _)⟩
  case round =>
    obtain ⟨r, j, hj, rfl, rfl, HV⟩ := hrel
    by_cases hlt : j < lv.length
    · by_cases hm : r ≤ most
      · rcases HR.out with rfl | ⟨b, o, rfl, hkr⟩
        · simp at hlt
        obtain ⟨A1, c1, hrd, e0, hbl⟩ := RdLvs_at hkr j hlt
        have hcw := (bcell HV.out).1
        have hj0 : (0 : Int) ≤ (j : Int) := Int.natCast_nonneg _
        have hj1 : (j : Int) < (lv.length : Int) := by omega
        clear hrd
        clear hkr
        go_wp2_with fail
        refine (LevelOf_q _ _ _ _ _).mono ?_
        rintro e w1 ⟨r1, rfl, hb1⟩
        have HB1 := Lib.hid hb1
        clear hb1
        go_wp2
        go_roundw
        case rel => exact ⟨_, j + 1, by omega, rfl, by go_num, Lib.hid (HV.out.trans (HB1.out.mono HV.out.size))⟩
        case measure => simp [intOf]; omega
      · go_wp2
        go_ret
        exact ⟨_, rfl, HV.out⟩
    · go_wp2
      go_ret
      exact ⟨_, rfl, HV.out⟩

def TermQ (t : Tm) : Prop := ∀ (cs : List Value) (most : Int) (w : World), RdT w t cs → Calls Tryd.prog 39 #[.agg cs.toArray, .int .i64 most] w (QuietI w)

set_option maxRecDepth 100000 in
set_option maxHeartbeats 1000000 in
theorem TermsOf_q0 (ts : List Tm) (ih : ∀ t ∈ ts, TermQ t) (v : Value) (most : Int) (w : World) (h : RdTs w v ts) : Calls Tryd.prog 51 #[v, .int .i64 most] w (QuietI w) := by
  obtain ⟨A, c, rfl, hc1, hc2, hr⟩ := h
  have hkl : (ts.length : Int) ≤ 9223372036854775807 := by omega
  have HR := Lib.hid hr
  clear hr hc1 hc2
  go_enter Tryd.func51, Tryd.ntmps51
  go_wp2_with fail
  go_loopw [5, 6] (fun n i wr => ∃ (r : Int) (j : Nat), j ≤ ts.length ∧ n = .int .i64 r ∧ i = .int .i64 j ∧ Hid (Below w.heap.size w wr)) (fun _ i _ => ts.length - (intOf i).toNat)
  case atStart => exact ⟨0, 0, by omega, rfl, rfl, Lib.hid (Below.refl _ _)⟩
  case round =>
    obtain ⟨r, j, hj, rfl, rfl, HV⟩ := hrel
    by_cases hlt : j < ts.length
    · by_cases hm : r ≤ most
      · rcases HR.out with rfl | ⟨b, o, rfl, hkr⟩
        · simp at hlt
        obtain ⟨q0, q1, q2, A5, l5, c5, A6, l6, c6, hTk, e0, e1, e2, e3, e4, hbl⟩ := RdT_at hkr j hlt
        have hcw := (bcell HV.out).1
        have hj0 : (0 : Int) ≤ (j : Int) := Int.natCast_nonneg _
        have hj1 : (j : Int) < (ts.length : Int) := by omega
        have HT := Lib.hid (fun m => ih ts[j] (List.getElem_mem hlt) _ m wr (RdT.below (keeps_of HV.out) _ _ hTk))
        clear hTk
        clear hkr
        go_wp2_with fail
        refine (HT.out _).mono ?_
        rintro e w1 ⟨r1, rfl, hb1⟩
        have HB1 := Lib.hid hb1
        clear hb1
        go_wp2
        go_roundw
        case rel => exact ⟨_, j + 1, by omega, rfl, by go_num, Lib.hid (HV.out.trans (HB1.out.mono HV.out.size))⟩
        case measure => simp [intOf]; omega
      · go_wp2
        go_ret
        exact ⟨_, rfl, HV.out⟩
    · go_wp2
      go_ret
      exact ⟨_, rfl, HV.out⟩

set_option maxRecDepth 100000 in
set_option maxHeartbeats 1000000 in
theorem TermOf_of (k n a : Int) (lv : List Lv) (kids : List Tm) (ih : ∀ t ∈ kids, TermQ t) : TermQ (.mk k n a lv kids) := by
  intro cs most w h
  obtain ⟨vl, vk, rfl, hlv, hk⟩ := (RdT_mk ..).1 h
  have HL := Lib.hid (fun W (hb : Keeps w W) => LevelsOf_q lv vl most W (hlv.below hb))
  have HT := Lib.hid (fun W (hb : Keeps w W) => TermsOf_q0 kids ih vk most W (hk.below hb))
  obtain ⟨A1, c1, rfl, _⟩ := id hlv
  obtain ⟨A2, c2, rfl, _⟩ := id hk
  obtain ⟨k0, hb0, hsz⟩ := blks1 w #[.int .i64 k, .int .i64 n, .int .i64 a, .slice A1 lv.length c1, .slice A2 kids.length c2] 30
  have g0 := k0.cell
  have n0 := k0.lt
  have HB := Lib.hid hb0
  clear h hlv hk ih k0 hb0 hsz
  go_enter Tryd.func39, Tryd.ntmps39
  go_wp2_with fail
  generalize (w.alloc _) = W at *
  refine start_ (n := 11) (S := fun W' => ∀ b o, b < W.heap.size → W'.cell? ⟨b, o, none⟩ = W.cell? ⟨b, o, none⟩) (ds := []) #[false, false, false, false, false, false, false, false, false, false, false] (by kernel_rfl) rfl rfl (by exact (fun _ _ _ => rfl)) (fun hHeld => ?_)
  refine take_ (i := 0) (N := some 5) (v := ?_) (a' := ?_) #[true, false, false, false, false, false, false, false, false, false, false] rfl rfl (by kernel_rfl) (fun _ _ _ h => h) (Or.inl ⟨by rfl, ?_⟩) hHeld ?_ ?_
  rotate_left
  · rintro w' hS'
    go_simp
    with_reducible rfl
  rotate_left
  · simp only [Act.put, List.setIfInBounds_toArray, List.set_cons_zero, List.set_cons_succ]
    rfl
  refine take_ (i := 1) (N := some 6) (v := ?_) (a' := ?_) #[true, true, false, false, false, false, false, false, false, false, false] rfl rfl (by kernel_rfl) (fun _ _ _ h => h) (Or.inl ⟨by rfl, ?_⟩) hHeld ?_ ?_
  rotate_left
  · rintro w' hS'
    go_simp
    with_reducible rfl
  rotate_left
  · simp only [Act.put, List.setIfInBounds_toArray, List.set_cons_zero, List.set_cons_succ]
    rfl
  refine take_ (i := 2) (N := some 7) (v := ?_) (a' := ?_) #[true, true, true, false, false, false, false, false, false, false, false] rfl rfl (by kernel_rfl) (fun _ _ _ h => h) (Or.inl ⟨by rfl, ?_⟩) hHeld ?_ ?_
  rotate_left
  · rintro w' hS'
    go_simp
    with_reducible rfl
  rotate_left
  · simp only [Act.put, List.setIfInBounds_toArray, List.set_cons_zero, List.set_cons_succ]
    rfl
  refine take_ (i := 5) (N := some 10) (v := ?_) (a' := ?_) #[true, true, true, false, false, true, false, false, false, false, false] rfl rfl (by kernel_rfl) (fun _ _ _ h => h) (Or.inl ⟨by rfl, ?_⟩) hHeld ?_ ?_
  rotate_left
  · rintro w' hS'
    go_simp
    with_reducible rfl
  rotate_left
  · simp only [Act.put, List.setIfInBounds_toArray, List.set_cons_zero, List.set_cons_succ]
    rfl
  refine take_ (i := 6) (N := some 11) (v := ?_) (a' := ?_) #[true, true, true, false, false, true, true, false, false, false, false] rfl rfl (by kernel_rfl) (fun _ _ _ h => h) (Or.inl ⟨by rfl, ?_⟩) hHeld ?_ ?_
  rotate_left
  · rintro w' hS'
    go_simp
    with_reducible rfl
  rotate_left
  · simp only [Act.put, List.setIfInBounds_toArray, List.set_cons_zero, List.set_cons_succ]
    rfl
  refine take_ (i := 7) (N := some 12) (v := ?_) (a' := ?_) #[true, true, true, false, false, true, true, true, false, false, false] rfl rfl (by kernel_rfl) (fun _ _ _ h => h) (Or.inl ⟨by rfl, ?_⟩) hHeld ?_ ?_
  rotate_left
  · rintro w' hS'
    go_simp
    with_reducible rfl
  rotate_left
  · simp only [Act.put, List.setIfInBounds_toArray, List.set_cons_zero, List.set_cons_succ]
    rfl
  refine one_ (i := 3) (N := some 8) #[true, true, true, true, false, true, true, true, false, false, false] rfl rfl (by kernel_rfl) (by decide) (fun K hK => ?_)
  go_simp
  refine (HL.out _ (Keeps.trans (keeps_of HB.out) HB.out.size hHeld)).mono ?_
  rintro e w1 ⟨r1, rfl, hb1⟩
  have HB1 := Lib.hid (undrew hb1)
  clear hb1
  refine hK.out _ _ (keeps_of HB1.out) (fun hHeld => ?_)
  clear hK K
  refine norm_ (a' := ?_) ?_ ?_
  rotate_left
  · first
      | rfl
      | (simp only [Act.put, List.setIfInBounds_toArray, List.set_cons_zero, List.set_cons_succ]; rfl)
  refine pure_ (i := 4) (N := some 9) (v := ?_) (a' := ?_) #[true, true, true, true, true, true, true, true, false, false, false] rfl rfl (by kernel_rfl) (fun _ _ _ h => h) (Or.inl ⟨by rfl, ?_⟩) ?_ ?_
  rotate_left
  · rintro w'
    go_simp
    with_reducible rfl
  rotate_left
  · simp only [Act.put, List.setIfInBounds_toArray, List.set_cons_zero, List.set_cons_succ]
    rfl
  refine one_ (i := 8) (N := some 13) #[true, true, true, true, true, true, true, true, true, false, false] rfl rfl (by kernel_rfl) (by decide) (fun K hK => ?_)
  go_simp
  refine (HT.out _ (Keeps.trans (keeps_of HB.out) HB.out.size hHeld)).mono ?_
  rintro e w2 ⟨r2, rfl, hb2⟩
  have HB2 := Lib.hid (HB1.out.trans (hb2.mono HB1.out.size))
  clear hb2
  refine hK.out _ _ (keeps_of HB2.out) (fun hHeld => ?_)
  clear hK K
  refine norm_ (a' := ?_) ?_ ?_
  rotate_left
  · first
      | rfl
      | (simp only [Act.put, List.setIfInBounds_toArray, List.set_cons_zero, List.set_cons_succ]; rfl)
  refine pure_ (i := 9) (N := some 14) (v := ?_) (a' := ?_) #[true, true, true, true, true, true, true, true, true, true, false] rfl rfl (by kernel_rfl) (fun _ _ _ h => h) (Or.inl ⟨by rfl, ?_⟩) ?_ ?_
  rotate_left
  · rintro w'
    go_simp
    with_reducible rfl
  rotate_left
  · simp only [Act.put, List.setIfInBounds_toArray, List.set_cons_zero, List.set_cons_succ]
    rfl
  refine pure_ (i := 10) (N := some 4) (v := ?_) (a' := ?_) #[true, true, true, true, true, true, true, true, true, true, true] rfl rfl (by kernel_rfl) (fun _ _ _ h => h) (Or.inl ⟨by rfl, ?_⟩) ?_ ?_
  rotate_left
  · rintro w'
    go_simp
    with_reducible rfl
  rotate_left
  · simp only [Act.put, List.setIfInBounds_toArray, List.set_cons_zero, List.set_cons_succ]
    rfl
  refine done_ (by kernel_rfl) ?_
  go_wp2
  go_ret
  exact ⟨_, rfl, HB.out.trans (HB2.out.mono HB.out.size)⟩
theorem TermOf_q : ∀ t, TermQ t := by
  intro t
  induction t using Tm.ind with
  | h k n a lv kids ih => exact TermOf_of k n a lv kids ih
theorem TermsOf_q (ts : List Tm) (v : Value) (most : Int) (w : World) (h : RdTs w v ts) : Calls Tryd.prog 51 #[v, .int .i64 most] w (QuietI w) := TermsOf_q0 ts (fun t _ => TermOf_q t) v most w h

end Go.Proofs.YtebgldnlkkhejaaDoor

/-! ## spandrellaw04: v, of, great, clean. -/
namespace Go.Proofs.YtebgldnlkkhejaaDoor
set_option linter.unusedSimpArgs false
set_option linter.unusedVariables false
open Go Go.RowKit Go.Proofs.YtebgldnlkkhejaaDoorW.PrintLast

def vT (n : Int) : Tm := .mk 1 n 0 [] []
set_option maxRecDepth 100000 in
theorem v_any (n : Int) (w : World) : Calls Tryd.prog 31 #[.int .i64 n] w fun e w' => e = .returned (.agg #[.int .i64 1, .int .i64 n, .int .i64 0, .slice none 0 0, .slice none 0 0]) ∧ Below w.heap.size w w' := by
  obtain ⟨k0, hb, hsz⟩ := blks1 w #[.int .i64 1, .int .i64 n, .int .i64 0, .slice none 0 0, .slice none 0 0] 30
  have HI := Lib.hid (And.intro k0 hb)
  clear k0 hb hsz
  go_enter Tryd.func31, Tryd.ntmps31
  go_wp2
  exact bodyPost_ret (ret_term Tryd.results31 rfl HI.out.1) rfl ⟨rfl, HI.out.2⟩
set_option maxRecDepth 100000 in
theorem of_any (k : Int) (A : Option Addr) (n c : Nat) (w : World) : Calls Tryd.prog 32 #[.int .i64 k, .slice A n c] w fun e w' => e = .returned (.agg #[.int .i64 k, .int .i64 0, .int .i64 0, .slice none 0 0, .slice A n c]) ∧ Below w.heap.size w w' := by
  obtain ⟨k0, hb, hsz⟩ := blks1 w #[.int .i64 k, .int .i64 0, .int .i64 0, .slice none 0 0, .slice A n c] 30
  have HI := Lib.hid (And.intro k0 hb)
  clear k0 hb hsz
  go_enter Tryd.func32, Tryd.ntmps32
  go_wp2
  exact bodyPost_ret (ret_term Tryd.results32 rfl HI.out.1) rfl ⟨rfl, HI.out.2⟩
/-- An append of nothing. -/
theorem app_none {P : Program} {w : World} {ops : Array Oper} {rest : List Oper} {o : Oper} {a : Act} {Q : Exit → Act → World → Prop} (hgd : o.guard = none) (s x : Operand) (t : TypeId)
    (ho : o.op = .call { callee := .builtin .append, args := #[s, x], argTypes := #[t, t] })
    (base : Nat) (e : TypeId) (z : Value) (size bytes : Nat) (ht : P.underlying t = some (.slice e)) (hinfo : (P.info? e).map (fun i => (i.zero, i.size, i.bytes)) = some (some z, size, bytes))
    (v : Value) (n c : Nat) (xs : List Value) (hs : a.eval s = v) (hown : w.ownsRow base e size v n xs) (hx : a.eval x = .slice none 0 c)
    (h : wpList P ops Q rest (a.put o.dst v) w) : wpList P ops Q (o :: rest) a w := by
  obtain ⟨i, hi, hz, hsize, hby⟩ := info_parts hinfo
  refine wpList_plain hgd fun K hK => ?_
  have hrun : (Builtin.append_ #[t, t] o.type #[v, .slice none 0 c]).run P w = .ok v w := by
    rcases hown.2 with ⟨rfl, rfl⟩ | ⟨g, cap, cur, rfl, _, _, hnc, _⟩
    · simp [Builtin.append_, run_underlying ht, sizeOf, typeInfo, hi, Builtin.lenOf, Builtin.firstCells]
    · simp [Builtin.append_, run_underlying ht, sizeOf, typeInfo, hi, Builtin.lenOf, Builtin.firstCells, hnc, storeCells]
  unfold Oper.wp
  simp [execOp, ho, resolve, invoke, builtin, hs, hx, hrun, Result.andThen]
  exact hK _ _ h
theorem one_tm {w : World} {inner : List Value} {l : List Tm} (h : OwL (fun x cs F => RdT w x cs ∧ F = []) 5 inner l []) : ∀ u ∈ inner, u.oneCell' = true :=
  h.mem (fun x cs F h u hu => by
    obtain ⟨A1, l1, c1, A2, l2, c2, rfl⟩ := h.1.cells
    simp only [List.mem_cons, List.not_mem_nil, or_false] at hu
    rcases hu with rfl | rfl | rfl | rfl | rfl <;> rfl)
/-- Some truth, nothing turned. -/
def QuietB (w : World) (e : Ending) (w' : World) : Prop := ∃ b : Bool, e = .returned (.bool b) ∧ Below w.heap.size w w'
set_option maxRecDepth 100000 in
set_option maxHeartbeats 1000000 in
theorem great_any (t : Tm) (ts : List Tm) (cs : List Value) (v : Value) (w : World) (ht : RdT w t cs) (h : RdTs w v ts) (hl : ts.length ≤ 1099511627776) :
    Calls Tryd.prog 17 #[.agg cs.toArray, v] w (QuietB w) := by
  obtain ⟨A1, l1, c1, A2, l2, c2, rfl⟩ := ht.cells
  obtain ⟨A, c, rfl, hc, _, hr⟩ := id h
  obtain ⟨k0, k1, hb, hsz⟩ := blks2 w #[.int .i64 t.kind, .int .i64 t.num, .int .i64 t.place, .slice A1 l1 c1, .slice A2 l2 c2] #[.int .i64 t.kind, .int .i64 t.num, .int .i64 t.place, .slice A1 l1 c1, .slice A2 l2 c2] 30 30
  have hrow := World.ownsRow_lit (base := 0) (e := 30) (size := 5) (w.alloc (.cells #[.int .i64 t.kind, .int .i64 t.num, .int .i64 t.place, .slice A1 l1 c1, .slice A2 l2 c2] 30)) #[.int .i64 t.kind, .int .i64 t.num, .int .i64 t.place, .slice A1 l1 c1, .slice A2 l2 c2] 1 (Nat.zero_le _) (by decide) (by simp)
  rw [World.size_alloc] at hrow
  cases A with
  | none =>
    obtain rfl : ts = [] := by
      rcases hr with h | ⟨b, o, h, _⟩
      · exact h
      · cases h
    have HI := Lib.hid (And.intro hrow (And.intro hb ht))
    clear k0 k1 hb hsz hrow hr ht h hc
    go_enter Tryd.func17, Tryd.ntmps17
    go_wp2_with (at_builtin; refine app_none rfl (.tmp 6) (.tmp 7) 28 rfl 0 30 _ 5 72 Tryd.underlying28 infoTm (.slice (some ⟨w.heap.size + 1, 0, none⟩) 1 1) 1 c _ rfl HI.out.1 rfl ?_)
    have hR : RdTs ((w.alloc (.cells #[.int .i64 t.kind, .int .i64 t.num, .int .i64 t.place, .slice A1 l1 c1, .slice A2 l2 c2] 30)).alloc (.cells #[.int .i64 t.kind, .int .i64 t.num, .int .i64 t.place, .slice A1 l1 c1, .slice A2 l2 c2] 30)) (.slice (some ⟨w.heap.size + 1, 0, none⟩) 1 1) [t] :=
      OwS.rd (R := RdR w) (fun x cs G _ h => RdT.below (keeps_of HI.out.2.1) _ _ h.1) (OwS.of_row (xs := [t]) HI.out.1 ⟨_, [], [], [], by simp, rfl, ⟨HI.out.2.2, rfl⟩, ⟨rfl, rfl⟩, rfl⟩)
    go_wp2_with fail
    refine (TermsOf_q [t] _ 600 _ hR).mono ?_
    rintro e w2 ⟨r, rfl, hb2⟩
    have HB := Lib.hid (HI.out.2.1.trans (hb2.mono HI.out.2.1.size))
    clear hb2 hR
    go_wp2
    go_ret
    exact ⟨_, rfl, HB.out⟩
  | some ad =>
    obtain ⟨inner, hin, hil, hic⟩ := RdS.inner (ad := ad) hr
    have HI := Lib.hid (And.intro hrow (And.intro hb (And.intro ht (And.intro hin (And.intro hil hic)))))
    have HL := Lib.hid hl
    clear k0 k1 hb hsz hrow hr ht h hc hin hil hic hl
    go_enter Tryd.func17, Tryd.ntmps17
    go_wp2_with (at_builtin; refine wpList_app rfl (.tmp 6) (.tmp 7) 28 rfl 0 30 _ 5 72 Tryd.underlying28 infoTm rfl (by decide) (.slice (some ⟨w.heap.size + 1, 0, none⟩) 1 1) 1 _ rfl HI.out.1 ad ts.length c inner rfl HI.out.2.2.2.2.1 (fun j u hj => (HI.out.2.1.cell (p := ad.add j) (World.block_lt_of_cell? w _ (HI.out.2.2.2.2.2 j u hj))).trans (HI.out.2.2.2.2.2 j u hj)) (one_tm HI.out.2.2.2.1) (by have := HL.out; simp only [maxLen]; omega) (by have := HL.out; omega) (Nat.zero_le _) ?_)
    intro v2 w5 hown2 hg hat
    obtain ⟨A9, c9, rfl⟩ := own_slice hown2
    have hb5 : Below w.heap.size w w5 := HI.out.2.1.grown hg (by have := HI.out.2.1.size; omega) (fun k e => by simp [Value.ownBlock] at e; omega)
    have hR : RdTs w5 (.slice A9 (1 + ts.length) c9) (t :: ts) := by
      rw [show 1 + ts.length = (t :: ts).length from Nat.add_comm _ _] at hown2 ⊢
      exact OwS.rd (R := RdR w) (fun x cs G _ h => RdT.below (keeps_of hb5) _ _ h.1) (OwS.of_row hown2 ⟨_, inner, [], [], by simp, rfl, ⟨HI.out.2.2.1, rfl⟩, HI.out.2.2.2.1, rfl⟩)
    have HB5 := Lib.hid hb5
    clear hown2 hg hat hb5
    go_wp2_with fail
    refine (TermsOf_q (t :: ts) _ 600 _ hR).mono ?_
    rintro e w2 ⟨r, rfl, hb2⟩
    have HB := Lib.hid (HB5.out.trans (hb2.mono HB5.out.size))
    clear hb2 hR
    go_wp2
    go_ret
    exact ⟨_, rfl, HB.out⟩
theorem cleanT_not {k n a : Int} {lv : List Lv} {ts : List Tm} (h : k ≠ 6 ∨ ts.length ≠ 2) : cleanT (.mk k n a lv ts) = true := by
  rcases ts with _ | ⟨x, _ | ⟨y, _ | ⟨z, zs⟩⟩⟩
  · rw [cleanT]; simp
  · rw [cleanT]; simp
  · rw [cleanT_two, if_neg (by simpa using h)]
  · rw [cleanT]; simp
set_option maxRecDepth 100000 in
set_option maxHeartbeats 2000000 in
theorem clean_any (t : Tm) (cs : List Value) (w : World) (h : RdT w t cs) :
    Calls Tryd.prog 26 #[.agg cs.toArray] w (fun e w' => e = .returned (.bool (cleanT t)) ∧ Below w.heap.size w w') := by
  obtain ⟨A1, l1, c1, A2, l2, c2, rfl⟩ := h.cells
  obtain ⟨k0, hb, hsz⟩ := blks1 w #[.int .i64 t.kind, .int .i64 t.num, .int .i64 t.place, .slice A1 l1 c1, .slice A2 l2 c2] 30
  have HI := Lib.hid (And.intro h (And.intro k0 hb))
  clear h k0 hb hsz
  go_enter Tryd.func26, Tryd.ntmps26
  go_wp2_with fail
  go_loopg [] t.nodes (fun gk wr => ∃ (u : Tm) (A1 : Option Addr) (l1 c1 : Nat) (A2 : Option Addr) (l2 c2 : Nat), Hid (RdT w u [.int .i64 u.kind, .int .i64 u.num, .int .i64 u.place, .slice A1 l1 c1, .slice A2 l2 c2] ∧ Blk wr w.heap.size #[.int .i64 u.kind, .int .i64 u.num, .int .i64 u.place, .slice A1 l1 c1, .slice A2 l2 c2] 30 ∧ Below w.heap.size w wr ∧ u.nodes ≤ gk ∧ cleanT t = cleanT u))
  case atStart => exact ⟨t, _, _, _, _, _, _, Lib.hid ⟨HI.out.1, HI.out.2.1, HI.out.2.2, Nat.le_refl _, rfl⟩⟩
  case round =>
    obtain ⟨u, A1, l1, c1, A2, l2, c2, HV⟩ := hrel
    clear HI
    obtain ⟨k, n, a, lv, kids⟩ := u
    obtain ⟨hu, k0, hb, hgk, hcl⟩ := HV.out
    have g0 := k0.cell
    have f0 := k0.frozen
    have n0 := k0.lt
    simp only [Tm.kind, Tm.num, Tm.place] at g0 hu
    obtain ⟨vl, vk, ee, ⟨A1', c1', rfl, -⟩, A2', c2', rfl, hc2', -⟩ := (RdT_mk ..).1 hu
    simp at ee
    obtain ⟨⟨rfl, rfl, rfl⟩, rfl, rfl, rfl⟩ := ee
    by_cases hk : k = 6
    · subst hk
      by_cases hl : kids.length = 2
      · rcases kids with _ | ⟨f, _ | ⟨x, _ | ⟨z, zs⟩⟩⟩ <;> simp at hl
        obtain ⟨A1', l1', c1', b, o, c2'', e, hc2, hbl, ⟨A3, l3, c3, A4, l4, c4, hf, af⟩, -⟩ := kids_two hu
        simp at e
        obtain ⟨⟨rfl, rfl, rfl⟩, rfl, rfl⟩ := e
        rw [cleanT_two, if_pos rfl] at hcl
        have hcw := (bcell hb).1
        have p0 := af 0 _ rfl
        have p1 := af 1 _ rfl
        have p2 := af 2 _ rfl
        have p3 := af 3 _ rfl
        have p4 := af 4 _ rfl
        simp only [Nat.add_zero, Nat.add_assoc, Nat.reduceAdd] at p0 p1 p2 p3 p4
        have HF := Lib.hid hf
        have hnu : (Tm.mk 6 n a lv [f, x]).nodes = f.nodes + x.nodes + 1 := by simp only [Tm.nodes, Tm.nodesL]; omega
        have HN := Lib.hid (And.intro hnu hgk)
        have HC := Lib.hid hcl
        clear hu hf af k0 hb hgk hcl hnu
        by_cases h1 : n = 0
        · subst h1
          by_cases h2 : a = 0
          · subst h2
            by_cases h3 : lv.length = 0
            · have hb0 : ((lv.length : Int) != 0) = false := by simp [h3]
              have H3 := Lib.hid h3
              clear h3
              go_wp2
              obtain ⟨-, k0, hb, -⟩ := HV.out
              go_roundg f.nodes
              case measure => have := HN.out; omega
              case rel => exact ⟨f, A3, l3, c3, A4, l4, c4, Lib.hid ⟨HF.out, put5_blk k0, put5_below hb (Nat.le_refl _), Nat.le_refl _, by rw [HC.out, List.eq_nil_of_length_eq_zero H3.out]; simp⟩⟩
            · have hb0 : ((lv.length : Int) != 0) = true := by simp; exact fun e => h3 (by rw [e]; rfl)
              have H3 := Lib.hid h3
              clear h3
              go_wp2
              go_ret
              refine ⟨ret_bool ?_, HV.out.2.2.1⟩
              rw [HC.out]
              have : lv ≠ [] := fun e => H3.out (by rw [e]; rfl)
              simp [this]
          · have hb0 : (a != 0) = true := by simp [h2]
            go_wp2
            go_ret
            refine ⟨ret_bool ?_, HV.out.2.2.1⟩
            rw [HC.out]
            simp [h2]
        · have hb0 : (n != 0) = true := by simp [h1]
          go_wp2
          go_ret
          refine ⟨ret_bool ?_, HV.out.2.2.1⟩
          rw [HC.out]
          simp [h1]
      · have hl2 : ((kids.length : Int) == 2) = false := by simp; omega
        clear hu k0 hb hgk hcl
        go_wp2
        go_ret
        exact ⟨ret_bool (by rw [HV.out.2.2.2.2, cleanT_not (.inr hl)]), HV.out.2.2.1⟩
    · have hk6 : (k == 6) = false := by simp [hk]
      clear hu k0 hb hgk hcl
      go_wp2
      go_ret
      exact ⟨ret_bool (by rw [HV.out.2.2.2.2, cleanT_not (.inl hk)]), HV.out.2.2.1⟩
end Go.Proofs.YtebgldnlkkhejaaDoor

/-! ## tele's functions of terms that fit: what they hand out reads as the plain laws say. -/
namespace Go.Proofs.YtebgldnlkkhejaaDoor
set_option linter.unusedSimpArgs false
set_option linter.unusedVariables false
open Go Go.RowKit Go.Proofs.YtebgldnlkkhejaaDoorW.PrintLast

theorem i64w (n : Int) : IntKind.i64.wrap n = wrap64 n := by
  rw [IntKind.wrap_i64]
  unfold wrap64
  first | rfl | omega
/-- A term, a row that fit: read. -/
structure Fi (w : World) (t : Tm) (cs : List Value) : Prop where
  i : In w t cs
  f : AllN Fits t
structure Fis (w : World) (v : Value) (ts : List Tm) : Prop where
  i : Ins w v ts
  f : ∀ t ∈ ts, AllN Fits t
theorem Fi.keeps {w w' : World} {t : Tm} {cs : List Value} (h : Fi w t cs) (hk : Keeps w w') : Fi w' t cs := ⟨h.i.keeps hk, h.f⟩
theorem Fis.keeps {w w' : World} {v : Value} {ts : List Tm} (h : Fis w v ts) (hk : Keeps w w') : Fis w' v ts := ⟨h.i.keeps hk, h.f⟩
theorem Fi.own {w : World} {t : Tm} {cs : List Value} (h : Fi w t cs) : ownT t = t := ownT_eq (num64_of _ h.f)
theorem Fis.own {w : World} {v : Value} {ts : List Tm} (h : Fis w v ts) : ts.map ownT = ts := ownTs_eq (fun t ht => num64_of _ (h.f t ht))
theorem map_own {ts : List Tm} (h : ∀ t ∈ ts, AllN Fits t) : ts.map ownT = ts := ownTs_eq (fun t ht => num64_of _ (h t ht))
/-- What is handed out: a term of so many nodes at most. -/
def GivesT (w : World) (t : Tm) (e : Ending) (w' : World) : Prop := ∃ (A1 : Option Addr) (l1 c1 : Nat) (A2 : Option Addr) (l2 c2 : Nat), e = .returned (.agg #[.int .i64 t.kind, .int .i64 t.num, .int .i64 t.place, .slice A1 l1 c1, .slice A2 l2 c2]) ∧ RdT w' t [.int .i64 t.kind, .int .i64 t.num, .int .i64 t.place, .slice A1 l1 c1, .slice A2 l2 c2] ∧ Below w.heap.size w w'
def GivesTs (w : World) (ts : List Tm) (e : Ending) (w' : World) : Prop := ∃ (A : Option Addr) (c : Nat), e = .returned (.slice A ts.length c) ∧ RdTs w' (.slice A ts.length c) ts ∧ Below w.heap.size w w'
theorem GivesT.of {w : World} {t : Tm} {e : Ending} {w' : World} (h : OutT w t e w') : GivesT w t e w' := by
  obtain ⟨cs, F, rfl, hO, hF, hb⟩ := h
  obtain ⟨A1, l1, c1, A2, l2, c2, rfl⟩ := hO.cells
  exact ⟨A1, l1, c1, A2, l2, c2, rfl, hO.rd, hb⟩
theorem GivesTs.of {w : World} {ts : List Tm} {e : Ending} {w' : World} (h : OutTs w ts e w') : GivesTs w ts e w' := by
  obtain ⟨A, c, F, rfl, hO, hF, hb⟩ := h
  exact ⟨A, c, rfl, hO.rd, hb⟩
theorem Pis4 {ts : List Tm} {t : Tm} {vk : Value} {cs : List Value} {w : World} (hK : Kinds w) (h : Fis w vk ts) (ht : Fi w t cs) : Calls Tryd.prog 19 #[vk, .agg cs.toArray] w (GivesT w (upT 4 ts t)) := by
  refine (Pis_any ts t vk cs w hK h.i ht.i).mono ?_
  rw [h.own, ht.own]
  exact fun e w' => GivesT.of
theorem Apps4 {ts : List Tm} {t : Tm} {vk : Value} {cs : List Value} {w : World} (hK : Kinds w) (ht : Fi w t cs) (h : Fis w vk ts) : Calls Tryd.prog 25 #[.agg cs.toArray, vk] w (GivesT w (appsT t ts)) := by
  refine (Apps_any t cs ts vk w hK ht.i h.i).mono ?_
  rw [h.own, ht.own]
  exact fun e w' => GivesT.of
theorem Lifts4 {ts : List Tm} {vk : Value} {w : World} (n frm : Int) (hK : Kinds w) (h : Fis w vk ts) : Calls Tryd.prog 28 #[vk, .int .i64 n, .int .i64 frm] w (GivesTs w (liftsT n frm 0 ts)) :=
  (Lifts_any n frm ts vk w hK h.i).mono (fun e w' => GivesTs.of)
theorem Lift4 {t : Tm} {cs : List Value} {w : World} (n frm : Int) (hK : Kinds w) (h : Fi w t cs) : Calls Tryd.prog 30 #[.agg cs.toArray, .int .i64 n, .int .i64 frm] w (GivesT w (liftT n frm 0 t)) :=
  (Lift_any t cs n frm w hK h.i).mono (fun e w' => GivesT.of)
theorem Put4 {t : Tm} {cs : List Value} {by_ : List Tm} {vb : Value} {w : World} (hK : Kinds w) (h : Fi w t cs) (hb : Fis w vb by_) : Calls Tryd.prog 29 #[.agg cs.toArray, vb] w (GivesT w (putT by_ t)) :=
  (Put_any t cs by_ vb w hK h.i h.f hb.i).mono (fun e w' => GivesT.of)
theorem Puts4 {row by_ : List Tm} {vr vb : Value} {w : World} (hK : Kinds w) (h : Fis w vr row) (hb : Fis w vb by_) (hM : Tm.nodesL row + row.length + 1 ≤ 1152921504606846976) : Calls Tryd.prog 27 #[vr, vb] w (GivesTs w (rowT (putNode by_) 0 row)) :=
  (Puts_any row by_ vr vb w 0 hK h.i h.f hb.i hM).mono (fun e w' => GivesTs.of)
/-- How Open ends where it can take so many off. -/
def GivesO (w : World) (ts : List Tm) (t : Tm) (e : Ending) (w' : World) : Prop := ∃ (A : Option Addr) (c : Nat) (A1 : Option Addr) (l1 c1 : Nat) (A2 : Option Addr) (l2 c2 : Nat), e = .returned (.tuple #[.slice A ts.length c, .agg #[.int .i64 t.kind, .int .i64 t.num, .int .i64 t.place, .slice A1 l1 c1, .slice A2 l2 c2], .bool true]) ∧
  RdTs w' (.slice A ts.length c) ts ∧ RdT w' t [.int .i64 t.kind, .int .i64 t.num, .int .i64 t.place, .slice A1 l1 c1, .slice A2 l2 c2] ∧ Below w.heap.size w w'
theorem Open4 {t : Tm} {cs : List Value} {w : World} (k : Nat) (ts : List Tm) (u : Tm) (hK : Kinds w) (h : Fi w t cs) (hk : (k : Int) ≤ 9223372036854775807) (hn : t.nodes ≤ 1099511627775) (ho : openT k t = some (ts, u)) (hf : ∀ x ∈ ts, AllN Fits x) (hu : AllN Fits u) :
    Calls Tryd.prog 20 #[.agg cs.toArray, .int .i64 (k : Int)] w (GivesO w ts u) := by
  refine (Open_any t cs k w hK h.i hk hn).mono ?_
  rintro e w' ⟨hb, hp⟩
  rw [show openZ (k : Int) t = some (ts, u) from by unfold openZ; rw [if_neg (by omega), Int.toNat_natCast]; exact ho] at hp
  obtain ⟨A, c, cs', F, rfl, hO1, hO2, hF⟩ := hp
  dsimp only at hO1 hO2 ⊢
  rw [map_own hf] at hO1
  rw [ownT_eq (num64_of _ hu)] at hO2
  obtain ⟨A1, l1, c1, A2, l2, c2, rfl⟩ := hO2.cells
  exact ⟨A, c, A1, l1, c1, A2, l2, c2, rfl, hO1.rd, hO2.rd, hb⟩
theorem OpenNo {t : Tm} {cs : List Value} {w : World} (k : Nat) (hK : Kinds w) (h : Fi w t cs) (hk : (k : Int) ≤ 9223372036854775807) (hn : t.nodes ≤ 1099511627775) (hc : countT t < k) :
    Calls Tryd.prog 20 #[.agg cs.toArray, .int .i64 (k : Int)] w (fun e w' => e = .returned (.tuple #[.slice none 0 0, .agg #[.int .i64 0, .int .i64 0, .int .i64 0, .slice none 0 0, .slice none 0 0], .bool false]) ∧ Below w.heap.size w w') := by
  refine (Open_any t cs k w hK h.i hk hn).mono ?_
  rintro e w' ⟨hb, hp⟩
  rw [show openZ (k : Int) t = none from by unfold openZ; rw [if_neg (by omega), Int.toNat_natCast]; exact openT_none t k hc] at hp
  exact ⟨hp, hb⟩
theorem spine_fits : ∀ t : Tm, AllN Fits t → AllN Fits (spineT t).1 ∧ ∀ x ∈ (spineT t).2, AllN Fits x := by
  intro t
  induction t using Tm.ind with
  | h k n a lv kids ih =>
    intro ho
    by_cases h : k = 6 ∧ kids.length = 2
    · obtain ⟨rfl, hl⟩ := h
      rcases kids with _ | ⟨f, _ | ⟨x, _ | ⟨z, zs⟩⟩⟩ <;> simp at hl
      rw [spineT_two, if_pos rfl]
      dsimp only
      have hf := ih f (by simp) (ho.kid f (by simp))
      refine ⟨hf.1, fun y hy => ?_⟩
      rcases List.mem_append.1 hy with hy | hy
      · exact hf.2 y hy
      · simp at hy
        subst hy
        exact ho.kid y (by simp)
    · rw [spineT_not (by omega)]
      exact ⟨ho, by simp⟩
/-- How Spine ends. -/
def GivesS (w : World) (t : Tm) (e : Ending) (w' : World) : Prop := ∃ (A : Option Addr) (c : Nat) (A1 : Option Addr) (l1 c1 : Nat) (A2 : Option Addr) (l2 c2 : Nat), e = .returned (.tuple #[.agg #[.int .i64 (spineT t).1.kind, .int .i64 (spineT t).1.num, .int .i64 (spineT t).1.place, .slice A1 l1 c1, .slice A2 l2 c2], .slice A (spineT t).2.length c]) ∧
  RdTs w' (.slice A (spineT t).2.length c) (spineT t).2 ∧ RdT w' (spineT t).1 [.int .i64 (spineT t).1.kind, .int .i64 (spineT t).1.num, .int .i64 (spineT t).1.place, .slice A1 l1 c1, .slice A2 l2 c2] ∧ Below w.heap.size w w'
theorem Spine4 {t : Tm} {cs : List Value} {w : World} (hK : Kinds w) (h : Fi w t cs) (hn : t.nodes ≤ 1099511627775) : Calls Tryd.prog 24 #[.agg cs.toArray] w (GivesS w t) := by
  refine (Spine_any t cs w hK h.i hn).mono ?_
  rintro e w' ⟨cs', A, c, F, F2, rfl, hO1, hO2, hF, hb⟩
  obtain ⟨f1, f2⟩ := spine_fits t h.f
  rw [ownT_eq (num64_of _ f1)] at hO1
  rw [map_own f2] at hO2
  obtain ⟨A1, l1, c1, A2, l2, c2, rfl⟩ := hO1.cells
  exact ⟨A, c, A1, l1, c1, A2, l2, c2, rfl, hO2.rd, hO1.rd, hb⟩
/-! ### Parts of rows -/
theorem rdTs_take {w : World} {A : Option Addr} {n c : Nat} {ts : List Tm} (h : RdTs w (.slice A n c) ts) (k : Nat) (hk : k ≤ n) : RdTs w (.slice A k c) (ts.take k) := by
  obtain ⟨A', c', he, h1, h2, h3⟩ := h
  simp at he
  obtain ⟨rfl, rfl, rfl⟩ := he
  have hl : (ts.take k).length = k := by rw [List.length_take]; omega
  refine ⟨A, c, by rw [hl], by omega, by omega, ?_⟩
  rcases h3 with rfl | ⟨b, o, rfl, h3⟩
  · left; simp
  · right
    refine ⟨b, o, rfl, ?_⟩
    clear h1 h2 hl hk
    induction ts generalizing o k with
    | nil => simp [RdL]
    | cons x xs ih =>
      cases k with
      | zero => simp [RdL]
      | succ k => exact ⟨h3.1, ih k _ h3.2⟩
theorem rdTs_drop {w : World} {A : Option Addr} {n c : Nat} {ts : List Tm} (h : RdTs w (.slice A n c) ts) (k : Nat) (hk : k ≤ n) (A' : Option Addr) (hA : ∀ b o, A = some ⟨b, o, none⟩ → k < n → A' = some ⟨b, o + k * 5, none⟩) (c' : Nat) (hc : n - k ≤ c') : RdTs w (.slice A' (n - k) c') (ts.drop k) := by
  obtain ⟨A1, c1, he, h1, h2, h3⟩ := h
  simp at he
  obtain ⟨rfl, rfl, rfl⟩ := he
  have hl : (ts.drop k).length = ts.length - k := List.length_drop ..
  refine ⟨A', c', by rw [hl], by omega, by omega, ?_⟩
  by_cases hkl : k < ts.length
  · rcases h3 with rfl | ⟨b, o, rfl, h3⟩
    · left; simp
    · right
      refine ⟨b, o + k * 5, hA b o rfl hkl, ?_⟩
      clear h1 h2 hl hk hkl hA hc
      induction ts generalizing o k with
      | nil => simp [RdL]
      | cons x xs ih =>
        cases k with
        | zero => simpa using h3
        | succ k =>
          have := ih k _ h3.2
          rw [show o + (k + 1) * 5 = o + 5 + k * 5 by omega]
          exact this
  · left
    rw [List.drop_of_length_le (by omega)]
theorem slice_from (A : Option Addr) (n c k : Nat) (hk : k ≤ n) (hn : n ≤ c) : ∃ (Ad : Option Addr) (cd : Nat), (∀ w, (Instr.slice 28 (.slice A n c) (some (.int .i64 (k : Int))) none none).run Tryd.prog w = .ok (.slice Ad (n - k) cd) w) ∧ n - k ≤ cd ∧ ∀ b o, A = some ⟨b, o, none⟩ → k < n → Ad = some ⟨b, o + k * 5, none⟩ := by
  refine ⟨if c = k then A else A.map (·.add (k * 5)), c - k, fun w => ?_, by omega, fun b o hA hlt => ?_⟩
  · simp [Instr.slice, Instr.sliceBounds, Instr.sliceBound, go_sem, hk, hn]
  · rw [if_neg (by omega), hA]
    simp [Addr.add]
/-! ### What applied terms are -/
theorem apps_fits : ∀ (l : List Tm) (f : Tm), AllN Fits f → (∀ x ∈ l, AllN Fits x) → AllN Fits (appsT f l)
  | [], f, h, _ => h
  | x :: l, f, h, hl => by
    rw [show appsT f (x :: l) = appsT (.mk 6 0 0 [] [f, x]) l from rfl]
    refine apps_fits l _ (.mk ⟨by decide, by decide⟩ (fun u hu => ?_)) (fun y hy => hl y (by simp [hy]))
    simp at hu
    rcases hu with rfl | rfl
    · exact h
    · exact hl _ (by simp)
theorem apps_okt : ∀ (l : List Tm) (f : Tm), Okt f → (∀ x ∈ l, Okt x) → Okt (appsT f l)
  | [], f, h, _ => h
  | x :: l, f, h, hl => by
    rw [show appsT f (x :: l) = appsT (.mk 6 0 0 [] [f, x]) l from rfl]
    refine apps_okt l _ (.mk ⟨by simp, by simp⟩ (by simp) (fun u hu => ?_)) (fun y hy => hl y (by simp [hy]))
    simp at hu
    rcases hu with rfl | rfl
    · exact h
    · exact hl _ (by simp)
theorem apps_nodes : ∀ (l : List Tm) (f : Tm), (appsT f l).nodes = f.nodes + Tm.nodesL l + l.length
  | [], f => by simp [appsT, Tm.nodesL]
  | x :: l, f => by
    rw [show appsT f (x :: l) = appsT (.mk 6 0 0 [] [f, x]) l from rfl, apps_nodes l]
    simp only [Tm.nodes, Tm.nodesL, List.length_cons]
    omega
theorem spine_nodes : ∀ t : Tm, (spineT t).1.nodes + Tm.nodesL (spineT t).2 + (spineT t).2.length = t.nodes := by
  intro t
  induction t using Tm.ind with
  | h k n a lv kids ih =>
    by_cases h : k = 6 ∧ kids.length = 2
    · obtain ⟨rfl, hl⟩ := h
      rcases kids with _ | ⟨f, _ | ⟨x, _ | ⟨z, zs⟩⟩⟩ <;> simp at hl
      rw [spineT_two, if_pos rfl]
      dsimp only
      have := ih f (by simp)
      have happ : ∀ l : List Tm, Tm.nodesL (l ++ [x]) = Tm.nodesL l + x.nodes := fun l => by
        induction l with
        | nil => simp [Tm.nodesL]
        | cons y ys ih => simp only [List.cons_append, Tm.nodesL, ih]; omega
      rw [happ]
      simp only [List.length_append, List.length_singleton, Tm.nodes, Tm.nodesL]
      omega
    · rw [spineT_not (by omega)]
      simp [Tm.nodesL]
end Go.Proofs.YtebgldnlkkhejaaDoor
