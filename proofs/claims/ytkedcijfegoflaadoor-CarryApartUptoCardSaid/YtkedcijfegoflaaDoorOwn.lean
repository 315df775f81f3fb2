/- What a call has made and owns, block by block (Ow..); an element appended. -/
import Derived.Test.YtkedcijfegoflaaDoorBase
namespace Go.Proofs.YtkedcijfegoflaaDoor
open Go Go.RowKit

/-! ### Blocks -/
/-- F: blocks of one's own, none twice, all from lo on, all there. -/
def Fr (lo : Nat) (w : World) (F : List Nat) : Prop := F.Nodup ∧ ∀ b ∈ F, lo ≤ b ∧ b < w.heap.size
theorem Fr.nil (lo : Nat) (w : World) : Fr lo w [] := ⟨by simp, by simp⟩
theorem Fr.mono {lo lo' : Nat} {w w' : World} {F : List Nat} (h : Fr lo w F) (hl : lo' ≤ lo) (hw : w.heap.size ≤ w'.heap.size) : Fr lo' w' F :=
  ⟨h.1, fun b hb => by have := h.2 b hb; omega⟩
theorem Fr.append {lo : Nat} {w w' : World} {F F' : List Nat} (h : Fr lo w F) (h' : Fr w.heap.size w' F') (hw : w.heap.size ≤ w'.heap.size) (hlo : lo ≤ w.heap.size) : Fr lo w' (F ++ F') := by
  refine ⟨List.nodup_append.2 ⟨h.1, h'.1, fun a ha b hb e => ?_⟩, fun b hb => ?_⟩
  · have := h.2 a ha; have := h'.2 b hb; omega
  · rcases List.mem_append.1 hb with hb | hb
    · have := h.2 b hb; omega
    · have := h'.2 b hb; omega
/-- The blocks in F hold in w' what they held in w. -/
def Same (F : List Nat) (w w' : World) : Prop := ∀ b ∈ F, w'.heap[b]? = w.heap[b]?
theorem Same.of_below {lo : Nat} {w w' : World} {F : List Nat} (h : Fr lo w F) (hb : Below w.heap.size w w') : Same F w w' := fun b hm => hb.block b (h.2 b hm).2
theorem Same.left {F F' : List Nat} {w w' : World} (h : Same (F ++ F') w w') : Same F w w' := fun b hb => h b (List.mem_append_left _ hb)
theorem Same.right {F F' : List Nat} {w w' : World} (h : Same (F ++ F') w w') : Same F' w w' := fun b hb => h b (List.mem_append_right _ hb)

/-! ### Rows of one's own -/
def OwL {α : Type} (R : α → List Value → List Nat → Prop) (sz : Nat) : List Value → List α → List Nat → Prop
  | inner, [], F => inner = [] ∧ F = []
  | inner, x :: xs, F => ∃ cs rest F1 F2, inner = cs ++ rest ∧ cs.length = sz ∧ R x cs F1 ∧ OwL R sz rest xs F2 ∧ F = F1 ++ F2
def OwS {α : Type} (R : World → α → List Value → List Nat → Prop) (sz : Nat) (e : TypeId) (w : World) (v : Value) (xs : List α) (F : List Nat) : Prop :=
  ∃ inner Fi, w.ownsRow 0 e sz v xs.length inner ∧ OwL (R w) sz inner xs Fi ∧ F = v.ownBlock.toList ++ Fi
theorem OwL.imp {α : Type} {R R' : α → List Value → List Nat → Prop} {sz : Nat} : ∀ {xs : List α} {inner : List Value} {F : List Nat}, (∀ x cs G, x ∈ xs → (∀ b ∈ G, b ∈ F) → R x cs G → R' x cs G) → OwL R sz inner xs F → OwL R' sz inner xs F
  | [], _, _, _, h => h
  | x :: xs, _, _, hR, ⟨cs, rest, F1, F2, h1, h2, h3, h4, h5⟩ => by
    subst h5
    exact ⟨cs, rest, F1, F2, h1, h2, hR x cs F1 (by simp) (fun b hb => List.mem_append_left _ hb) h3, h4.imp (fun y cs G hy hG => hR y cs G (by simp [hy]) (fun b hb => List.mem_append_right _ (hG b hb))), rfl⟩
theorem OwL.length {α : Type} {R : α → List Value → List Nat → Prop} {sz : Nat} : ∀ {xs : List α} {inner : List Value} {F : List Nat}, OwL R sz inner xs F → inner.length = xs.length * sz
  | [], _, _, h => by simp [h.1]
  | x :: xs, _, _, ⟨cs, rest, F1, F2, h1, h2, _, h4, _⟩ => by
    rw [h1, List.length_append, h2, h4.length, List.length_cons, Nat.add_mul]; omega
theorem OwL.snoc {α : Type} {R : α → List Value → List Nat → Prop} {sz : Nat} {x : α} {cx : List Value} {Fx : List Nat} (hx : R x cx Fx) (hc : cx.length = sz) : ∀ {xs : List α} {inner : List Value} {F : List Nat}, OwL R sz inner xs F → OwL R sz (inner ++ cx) (xs ++ [x]) (F ++ Fx)
  | [], _, _, ⟨h1, h2⟩ => by subst h1; subst h2; exact ⟨cx, [], Fx, [], by simp, hc, hx, ⟨rfl, rfl⟩, by simp⟩
  | y :: ys, _, _, ⟨cs, rest, F1, F2, h1, h2, h3, h4, h5⟩ => by
    subst h1; subst h5
    exact ⟨cs, rest ++ cx, F1, F2 ++ Fx, by simp, h2, h3, h4.snoc hx hc, by simp⟩
theorem OwS.nil {α : Type} (R : World → α → List Value → List Nat → Prop) (sz : Nat) (e : TypeId) (w : World) : OwS R sz e w (.slice none 0 0) [] [] :=
  ⟨[], [], World.ownsRow_nil w 0 e sz, ⟨rfl, rfl⟩, rfl⟩
theorem ownsRow_move {w w1 : World} {base : Nat} {e : TypeId} {size n : Nat} {v : Value} {xs : List Value} (h : w.ownsRow base e size v n xs) (hm : ∀ k, v.ownBlock = some k → w1.heap[k]? = w.heap[k]?) : w1.ownsRow base e size v n xs := by
  obtain ⟨h1, h2⟩ := h
  refine ⟨h1, ?_⟩
  rcases h2 with h2 | ⟨g, cap, cur, rfl, hg, hh, r⟩
  · exact .inl h2
  · exact .inr ⟨g, cap, cur, rfl, hg, (hm g (by simp [Value.ownBlock])).trans hh, r⟩
/-- R speaks of its own blocks alone. -/
def Mov {α : Type} (R : World → α → List Value → List Nat → Prop) : Prop := ∀ w w' x cs F, Same F w w' → R w x cs F → R w' x cs F
theorem OwS.move {α : Type} {R : World → α → List Value → List Nat → Prop} {sz : Nat} {e : TypeId} {w w' : World} {v : Value} {xs : List α} {F : List Nat} (hR : Mov R) (h : OwS R sz e w v xs F) (hs : Same F w w') : OwS R sz e w' v xs F := by
  obtain ⟨inner, Fi, h1, h2, rfl⟩ := h
  refine ⟨inner, Fi, ownsRow_move h1 (fun k hk => hs k (by simp [hk])), h2.imp (fun x cs G _ hG h => hR _ _ _ _ _ (fun b hb => hs b (List.mem_append_right _ (hG b hb))) h), rfl⟩
theorem OwS.slice {α : Type} {R : World → α → List Value → List Nat → Prop} {sz : Nat} {e : TypeId} {w : World} {v : Value} {xs : List α} {F : List Nat} (h : OwS R sz e w v xs F) : ∃ A c, v = .slice A xs.length c := by
  obtain ⟨inner, Fi, h1, _⟩ := h
  rcases h1.2 with ⟨rfl, h0⟩ | ⟨g, cap, cur, rfl, _⟩
  · exact ⟨none, 0, by rw [h0]⟩
  · exact ⟨_, cap, rfl⟩
theorem OwL.rd {α : Type} {R : α → List Value → List Nat → Prop} {R' : α → List Value → Prop} {sz : Nat} {w : World} {g : Nat} : ∀ {xs : List α} {inner : List Value} {F : List Nat} {o : Nat}, (∀ x cs G, x ∈ xs → R x cs G → R' x cs) → OwL R sz inner xs F → (∀ j u, inner[j]? = some u → w.cell? ⟨g, o + j, none⟩ = some u) → RdL R' sz w g o xs
  | [], _, _, _, _, _, _ => trivial
  | x :: xs, _, _, o, hR, ⟨cs, rest, F1, F2, h1, h2, h3, h4, h5⟩, hc => by
    subst h1
    refine ⟨⟨cs, h2, hR x cs F1 (by simp) h3, fun j u hj => hc j u ?_⟩, h4.rd (fun y cs G hy => hR y cs G (by simp [hy])) (fun j u hj => ?_)⟩
    · rw [List.getElem?_append_left (by have := (List.getElem?_eq_some_iff.1 hj).1; omega)]; exact hj
    · have := hc (sz + j) u (by rw [List.getElem?_append_right (by omega), h2, Nat.add_sub_cancel_left]; exact hj)
      rwa [show o + (sz + j) = o + sz + j by omega] at this
theorem OwS.rd {α : Type} {R : World → α → List Value → List Nat → Prop} {R' : α → List Value → Prop} {sz : Nat} {e : TypeId} {w : World} {v : Value} {xs : List α} {F : List Nat} (hR : ∀ x cs G, x ∈ xs → R w x cs G → R' x cs) (h : OwS R sz e w v xs F) : RdS R' sz w v xs := by
  obtain ⟨inner, Fi, h1, h2, rfl⟩ := h
  rcases h1.2 with ⟨rfl, h0⟩ | ⟨g, cap, cur, rfl, _, hh, hn, hm, hs, ht⟩
  · exact ⟨none, 0, by rw [h0], by omega, by omega, .inl (List.eq_nil_of_length_eq_zero h0)⟩
  · refine ⟨_, cap, rfl, hn, by simp only [maxLen] at hm; omega, .inr ⟨g, 0, rfl, h2.rd hR (fun j u hj => ?_)⟩⟩
    have := h1.cells (g := g) rfl j u hj
    rw [show (⟨g, 0, none⟩ : Addr).add j = ⟨g, 0 + j, none⟩ by unfold Addr.add; split <;> simp_all] at this
    exact this

/-! ### What is read, as one list of cells -/
theorem RdL.inner {α : Type} {R : α → List Value → Prop} {sz : Nat} {w : World} {b : Nat} : ∀ {xs : List α} {o : Nat}, RdL R sz w b o xs →
    ∃ inner, OwL (fun x cs F => R x cs ∧ F = []) sz inner xs [] ∧ inner.length = xs.length * sz ∧ ∀ j u, inner[j]? = some u → w.cell? ⟨b, o + j, none⟩ = some u
  | [], o, _ => ⟨[], ⟨rfl, rfl⟩, by simp, by simp⟩
  | x :: xs, o, ⟨⟨cs, h1, h2, h3⟩, h4⟩ => by
    obtain ⟨inner, g1, g2, g3⟩ := h4.inner
    refine ⟨cs ++ inner, ⟨cs, inner, [], [], rfl, h1, ⟨h2, rfl⟩, g1, rfl⟩, by rw [List.length_append, h1, g2, List.length_cons, Nat.add_mul]; omega, fun j u hj => ?_⟩
    by_cases hl : j < sz
    · rw [List.getElem?_append_left (by omega)] at hj
      exact h3 j u hj
    · rw [List.getElem?_append_right (by omega)] at hj
      have := g3 (j - cs.length) u hj
      rwa [show o + sz + (j - cs.length) = o + j by omega] at this
theorem addr0 (b o j : Nat) : (⟨b, o, none⟩ : Addr).add j = ⟨b, o + j, none⟩ := by unfold Addr.add; split <;> simp_all
theorem RdS.inner {α : Type} {R : α → List Value → Prop} {sz : Nat} {w : World} {ad : Addr} {xs : List α} (h : xs = [] ∨ ∃ b o, some ad = some ⟨b, o, none⟩ ∧ RdL R sz w b o xs) :
    ∃ inner, OwL (fun x cs F => R x cs ∧ F = []) sz inner xs [] ∧ inner.length = xs.length * sz ∧ ∀ j u, inner[j]? = some u → w.cell? (ad.add j) = some u := by
  rcases h with rfl | ⟨b, o, hA, h⟩
  · exact ⟨[], ⟨rfl, rfl⟩, by simp, by simp⟩
  · obtain ⟨inner, g1, g2, g3⟩ := h.inner
    injection hA with hA
    subst hA
    exact ⟨inner, g1, g2, fun j u hj => by rw [addr0]; exact g3 j u hj⟩
theorem OwL.mem {α : Type} {R : α → List Value → List Nat → Prop} {sz : Nat} {p : Value → Prop} : ∀ {xs : List α} {inner : List Value} {F : List Nat}, (∀ x cs F, R x cs F → ∀ u ∈ cs, p u) → OwL R sz inner xs F → ∀ u ∈ inner, p u
  | [], _, _, _, h, u, hu => by rw [h.1] at hu; cases hu
  | x :: xs, _, _, hR, ⟨cs, rest, F1, F2, h1, _, h3, h4, _⟩, u, hu => by
    subst h1
    rcases List.mem_append.1 hu with hu | hu
    · exact hR _ _ _ h3 u hu
    · exact h4.mem hR u hu

theorem OwS.of_row {α : Type} {R : World → α → List Value → List Nat → Prop} {sz : Nat} {e : TypeId} {w : World} {v : Value} {xs : List α} {inner : List Value} (h : w.ownsRow 0 e sz v xs.length inner) (hi : OwL (R w) sz inner xs []) : OwS R sz e w v xs v.ownBlock.toList :=
  ⟨inner, [], h, hi, by simp⟩
theorem Fr.one {lo : Nat} {w : World} {v : Value} (h : ∀ k, v.ownBlock = some k → lo ≤ k ∧ k < w.heap.size) : Fr lo w v.ownBlock.toList :=
  ⟨by cases v.ownBlock <;> simp, fun b hb => h b (by simpa using hb)⟩
theorem own_slice {w : World} {base : Nat} {e : TypeId} {size n : Nat} {v : Value} {xs : List Value} (h : w.ownsRow base e size v n xs) : ∃ A c, v = .slice A n c := by
  rcases h.2 with ⟨rfl, rfl⟩ | ⟨g, cap, cur, rfl, _⟩
  · exact ⟨none, 0, rfl⟩
  · exact ⟨_, cap, rfl⟩

/-! ### A block known whole -/
def Blk (w : World) (b : Nat) (cs : Array Value) (e : TypeId) : Prop := w.heap[b]? = some (.cells cs e (0, 0))
theorem Blk.cell {w : World} {b : Nat} {cs : Array Value} {e : TypeId} (h : Blk w b cs e) (j : Nat) : w.cell? ⟨b, j, none⟩ = cs[j]? := cell_of_row w b j cs e (0, 0) h
theorem Blk.frozen {w : World} {b : Nat} {cs : Array Value} {e : TypeId} (h : Blk w b cs e) (j : Nat) : w.frozen? ⟨b, j, none⟩ = false := frozen_of_row w b j cs e h
theorem Blk.lt {w : World} {b : Nat} {cs : Array Value} {e : TypeId} (h : Blk w b cs e) : b < w.heap.size := (Array.getElem?_eq_some_iff.1 h).1
theorem Blk.drew {w : World} {b : Nat} {cs : Array Value} {e : TypeId} (h : Blk w b cs e) : Blk w.drew b cs e := h
theorem keepsD {N : Nat} {w X : World} (h : ∀ b o, b < N → X.cell? ⟨b, o, none⟩ = w.cell? ⟨b, o, none⟩) : ∀ b o, b < N → X.drew.cell? ⟨b, o, none⟩ = w.cell? ⟨b, o, none⟩ := h
theorem Blk.below {w w' : World} {b : Nat} {cs : Array Value} {e : TypeId} (h : Blk w b cs e) (hb : Below w.heap.size w w') : Blk w' b cs e := (hb.block b h.lt).trans h
theorem Blk.new (w : World) (cs : Array Value) (e : TypeId) : Blk (w.alloc (.cells cs e)) w.heap.size cs e := heap_alloc_new w _
theorem Blk.alloc {w : World} {b : Nat} {cs : Array Value} {e : TypeId} (h : Blk w b cs e) (o : Obj) : Blk (w.alloc o) b cs e := (Below.heap_alloc w o b h.lt).trans h
theorem Blk.set {w : World} {b : Nat} {cs : Array Value} {e : TypeId} (h : Blk w b cs e) (j : Nat) (v : Value) : Blk (w.setCell ⟨b, j, none⟩ v) b (cs.setIfInBounds j v) e := by
  simp only [Blk, World.setCell, Array.getElem?_modify, if_true]
  rw [show w.heap[b]? = _ from h]
  rfl
theorem Blk.far {w : World} {b : Nat} {cs : Array Value} {e : TypeId} (h : Blk w b cs e) {a : Addr} (ha : b ≠ a.block) (v : Value) : Blk (w.setCell a v) b cs e := (Below.heap_setCell w a v b ha).trans h
theorem ownsRow_unique {w : World} {base : Nat} {e : TypeId} {size n : Nat} {v : Value} {xs ys : List Value} (h : w.ownsRow base e size v n xs) (h' : w.ownsRow base e size v n ys) : xs = ys := by
  rcases h.2 with ⟨rfl, h0⟩ | ⟨g, cap, cur, rfl, _, hh, _, _, _, ht⟩
  · have h1 := h.1; have h2 := h'.1
    rw [h0, Nat.zero_mul] at h1 h2
    rw [List.eq_nil_of_length_eq_zero h1, List.eq_nil_of_length_eq_zero h2]
  · rcases h'.2 with ⟨h1, _⟩ | ⟨g', cap', cur', h1, _, hh', _, _, _, ht'⟩
    · cases h1
    · injection h1 with h1 _ _
      injection h1 with h1
      injection h1 with h1
      subst h1
      rw [hh] at hh'
      injection hh' with hh'
      injection hh' with hh' _ _
      subst hh'
      rw [← ht, ← ht']

/-! ### An element appended -/
/-- In w the row v of xs is one's own (F), in w1 the element x is (Fx), made behind it; W1 is w1 but for new blocks; w2 is what the append leaves. -/
theorem OwS.push {α : Type} {R : World → α → List Value → List Nat → Prop} {sz : Nat} {e : TypeId} {w w1 W1 w2 : World} {v v2 : Value} {xs : List α} {x : α} {cx : List Value} {F Fx : List Nat} {lo : Nat} (hR : Mov R)
    (h : OwS R sz e w v xs F) (hF : Fr lo w F) (hb : Below w.heap.size w w1) (hlo : lo ≤ w.heap.size)
    (hx : R w1 x cx Fx) (hFx : Fr w.heap.size w1 Fx) (hW : Below w1.heap.size w1 W1)
    (happ : ∀ inner, w.ownsRow 0 e sz v xs.length inner → w2.ownsRow 0 e sz v2 (xs ++ [x]).length (inner ++ cx)) (hcx : cx.length = sz) (hg : W1.grownBy w2 v.ownBlock) (hat : v2.ownBlock = v.ownBlock ∨ v2.ownBlock = some W1.heap.size) (h2s : ∀ k, v2.ownBlock = some k → k < w2.heap.size) :
    ∃ F2, OwS R sz e w2 v2 (xs ++ [x]) F2 ∧ Fr lo w2 F2 := by
  obtain ⟨inner, Fi, h1, h2, rfl⟩ := h
  have s01 := hb.size
  have s12 := hW.size
  have s23 := hg.size
  have hmove : ∀ b, b ∈ Fi ++ Fx → W1.heap[b]? = w2.heap[b]? := by
    intro b hbm
    rcases List.mem_append.1 hbm with hbm | hbm
    · have hl := hF.2 b (List.mem_append_right _ hbm)
      refine (hg.block b (by omega) (fun he => ?_)).symm
      have := List.nodup_append.1 hF.1
      exact this.2.2 b (by simp [← he]) b hbm rfl
    · have hl := hFx.2 b hbm
      refine (hg.block b (by omega) (fun he => ?_)).symm
      have := (hF.2 b (List.mem_append_left _ (by simp [← he]))).2
      omega
  have hold : ∀ b, b ∈ Fi → w2.heap[b]? = w.heap[b]? := fun b hbm => by
    have hl := hF.2 b (List.mem_append_right _ hbm)
    rw [← hmove b (List.mem_append_left _ hbm), hW.block b (by omega), hb.block b (by omega)]
  have hnew : ∀ b, b ∈ Fx → w2.heap[b]? = w1.heap[b]? := fun b hbm => by
    have hl := hFx.2 b hbm
    rw [← hmove b (List.mem_append_right _ hbm), hW.block b (by omega)]
  refine ⟨v2.ownBlock.toList ++ (Fi ++ Fx), ⟨inner ++ cx, Fi ++ Fx, happ inner h1, ?_, rfl⟩, ?_, ?_⟩
  · exact (h2.imp (fun x cs G _ hG h => hR _ _ _ _ _ (fun b hbm => hold b (hG b hbm)) h)).snoc (hR _ _ _ _ _ (fun b hbm => hnew b hbm) hx) hcx
  · have hnd := List.nodup_append.1 hF.1
    refine List.nodup_append.2 ⟨by cases v2.ownBlock <;> simp, List.nodup_append.2 ⟨hnd.2.1, hFx.1, fun a ha b hb' e => ?_⟩, fun a ha b hb' e => ?_⟩
    · have := hF.2 a (List.mem_append_right _ ha); have := hFx.2 b hb'; omega
    · subst e
      have ha' : v2.ownBlock = some a := by simpa using ha
      rcases hat with hat | hat
      · have hv : v.ownBlock = some a := hat ▸ ha'
        rcases List.mem_append.1 hb' with hb' | hb'
        · exact hnd.2.2 a (by simp [hv]) a hb' rfl
        · have := hF.2 a (List.mem_append_left _ (by simp [hv])); have := hFx.2 a hb'; omega
      · have : a = W1.heap.size := by rw [ha'] at hat; simpa using hat
        rcases List.mem_append.1 hb' with hb' | hb'
        · have := hF.2 a (List.mem_append_right _ hb'); omega
        · have := hFx.2 a hb'; omega
  · intro b hbm
    rcases List.mem_append.1 hbm with hbm | hbm
    · have ha' : v2.ownBlock = some b := by simpa using hbm
      have hlt := h2s b ha'
      rcases hat with hat | hat
      · have := hF.2 b (List.mem_append_left _ (by rw [← hat, ha']; simp)); omega
      · have : b = W1.heap.size := by rw [ha'] at hat; simpa using hat
        omega
    · rcases List.mem_append.1 hbm with hbm | hbm
      · have := hF.2 b (List.mem_append_right _ hbm); omega
      · have := hFx.2 b hbm; omega

/-- The append of new cells onto a row of one's own, as a region's step. -/
theorem step_append {P : Program} {ops : Array Oper} {o : Oper} {a : Act} {w : World} {K : Act → World → Prop} {Q : Exit → Act → World → Prop} {E : Prop}
    (hg : o.guard = none) (s x : Operand) (t : TypeId) (hop : o.op = Op.call { callee := Callee.builtin Builtin.append, args := #[s, x], argTypes := #[t, t] })
    (e : TypeId) (z : Value) (size bytes : Nat) (ht : P.underlying t = some (.slice e)) (hinfo : (P.info? e).map (fun i => (i.zero, i.size, i.bytes)) = some (some z, size, bytes)) (hzs : z.cells.size = size) (hsz : 0 < size)
    (v : Value) (n : Nat) (xs : List Value) (hs : a.eval s = v) (hown : w.ownsRow 0 e size v n xs)
    (ad : Addr) (m c : Nat) (news : List Value) (hx : a.eval x = .slice (some ad) m c) (hl : news.length = m * size) (hnews : ∀ j u, news[j]? = some u → w.cell? (ad.add j) = some u) (h1 : ∀ u ∈ news, u.oneCell' = true)
    (h63 : n + m ≤ maxLen) (hbytes : (n + m) * bytes ≤ 140737488355328)
    (h : ∀ v' w', w'.ownsRow 0 e size v' (n + m) (xs ++ news) → w.grownBy w' v.ownBlock → (v'.ownBlock = v.ownBlock ∨ v'.ownBlock = some w.heap.size) → K (a.put o.dst v') w') :
    if Region.wanted o (yielded ops a.tmps) = true then Oper.wp P o a w K Q else E := by
  rw [if_pos (by simp [Region.wanted, hg])]
  obtain ⟨i, hi, hz, hsize, hby⟩ := info_parts hinfo
  obtain ⟨v', w', hr, h2, h3, _, h5⟩ := run_append_own_at (P := P) w 0 t o.type e i z size bytes ht hi hz hsize hby hzs hsz v n xs hown ad m c news hl hnews h1 h63 hbytes (Nat.zero_le _)
  unfold Oper.wp execOp
  simp only [hop, resolve, invoke, builtin, Sem.run_bind, Sem.run_pure, Result.andThen_ok, List.map_toArray, List.map_cons, List.map_nil, hs, hx, hr]
  exact h v' w' h2 h3 h5
/-- The cells of a new block are there. -/
theorem news_at {w : World} {g : Nat} {cs : List Value} {e : TypeId} (h : Blk w g cs.toArray e) : ∀ j u, cs[j]? = some u → w.cell? ((⟨g, 0, none⟩ : Addr).add j) = some u := fun j u hj => by
  rw [addr0, Nat.zero_add]
  rw [show w.cell? ⟨g, j, none⟩ = _ from cell_of_row w g j _ e (0, 0) h]
  simpa using hj

/-! ### The kinds -/
def OwPa (_ : World) (p : Pa) (cs : List Value) (F : List Nat) : Prop := RPa p cs ∧ F = []
theorem OwPa.mov : Mov OwPa := fun _ _ _ _ _ _ h => h
def OwLv (w : World) (v : Value) (l : Lv) (F : List Nat) : Prop := OwS OwPa 2 121 w v l F
def OwLv1 (w : World) (l : Lv) (cs : List Value) (F : List Nat) : Prop := ∃ u, cs = [u] ∧ OwLv w u l F
theorem OwLv1.mov : Mov OwLv1 := fun _ _ _ _ _ hs ⟨u, h1, h2⟩ => ⟨u, h1, h2.move OwPa.mov hs⟩
def OwLvs (w : World) (v : Value) (l : List Lv) (F : List Nat) : Prop := OwS OwLv1 1 38 w v l F
mutual
def OwT (w : World) : Tm → List Value → List Nat → Prop
  | .mk k n a lv kids, cs, F => ∃ vl vk F1 F2, cs = [.int .i64 k, .int .i64 n, .int .i64 a, vl, vk] ∧ OwLvs w vl lv F1 ∧
      (∃ inner Fi, w.ownsRow 0 30 5 vk kids.length inner ∧ OwTl w inner kids Fi ∧ F2 = vk.ownBlock.toList ++ Fi) ∧ F = F1 ++ F2
def OwTl (w : World) : List Value → List Tm → List Nat → Prop
  | inner, [], F => inner = [] ∧ F = []
  | inner, x :: xs, F => ∃ cs rest F1 F2, inner = cs ++ rest ∧ cs.length = 5 ∧ OwT w x cs F1 ∧ OwTl w rest xs F2 ∧ F = F1 ++ F2
end
theorem OwTl_iff (w : World) : ∀ (inner : List Value) (ts : List Tm) (F : List Nat), OwTl w inner ts F ↔ OwL (OwT w) 5 inner ts F
  | inner, [], F => by simp [OwTl, OwL]
  | inner, t :: ts, F => by simp only [OwTl, OwL, OwTl_iff w _ ts]
def OwTs (w : World) (v : Value) (ts : List Tm) (F : List Nat) : Prop := OwS OwT 5 30 w v ts F
theorem OwT_mk (w : World) (k n a : Int) (lv : List Lv) (kids : List Tm) (cs : List Value) (F : List Nat) :
    OwT w (.mk k n a lv kids) cs F ↔ ∃ vl vk F1 F2, cs = [.int .i64 k, .int .i64 n, .int .i64 a, vl, vk] ∧ OwLvs w vl lv F1 ∧ OwTs w vk kids F2 ∧ F = F1 ++ F2 := by
  simp only [OwT, OwTs, OwS, OwTl_iff]
theorem Tm.ind {P : Tm → Prop} (h : ∀ k n a lv kids, (∀ t ∈ kids, P t) → P (.mk k n a lv kids)) : ∀ t, P t := by
  intro t
  induction t using Tm.rec (motive_2 := fun ts => ∀ t ∈ ts, P t) with
  | mk k n a lv kids ih => exact h k n a lv kids ih
  | nil => rename_i hu; cases hu
  | cons t ts h1 h2 =>
    rename_i u hu
    rcases List.mem_cons.1 hu with rfl | hu
    · exact h1
    · exact h2 u hu
theorem OwT.mov : Mov OwT := by
  intro w w' t
  induction t using Tm.ind with
  | h k n a lv kids ih =>
    intro cs F hs h
    obtain ⟨vl, vk, F1, F2, h1, h2, h3, rfl⟩ := (OwT_mk ..).1 h
    obtain ⟨inner, Fi, g1, g2, rfl⟩ := h3
    exact (OwT_mk ..).2 ⟨vl, vk, F1, _, h1, h2.move OwLv1.mov hs.left, ⟨inner, Fi, ownsRow_move g1 (fun k hk => hs.right k (by simp [hk])),
      g2.imp (fun x cs G hx hG h => ih x hx cs G (fun b hb => hs.right b (List.mem_append_right _ (hG b hb))) h), rfl⟩, rfl⟩
theorem OwLv.rd {w : World} {v : Value} {l : Lv} {F : List Nat} (h : OwLv w v l F) : RdLv w v l := OwS.rd (fun _ _ _ _ h => h.1) h
theorem OwLvs.rd {w : World} {v : Value} {l : List Lv} {F : List Nat} (h : OwLvs w v l F) : RdLvs w v l := OwS.rd (fun _ _ _ _ ⟨u, h1, h2⟩ => ⟨u, h1, h2.rd⟩) h
theorem OwT.rd : ∀ (t : Tm) {w : World} {cs : List Value} {F : List Nat}, OwT w t cs F → RdT w t cs := by
  intro t
  induction t using Tm.ind with
  | h k n a lv kids ih =>
    intro w cs F h
    obtain ⟨vl, vk, F1, F2, h1, h2, h3, rfl⟩ := (OwT_mk ..).1 h
    exact (RdT_mk ..).2 ⟨vl, vk, h1, h2.rd, OwS.rd (fun x cs G hx h => ih x hx h) h3⟩
theorem OwTs.rd {w : World} {v : Value} {ts : List Tm} {F : List Nat} (h : OwTs w v ts F) : RdTs w v ts := OwS.rd (fun _ _ _ _ h => OwT.rd _ h) h
theorem OwTs.move {w w' : World} {v : Value} {ts : List Tm} {F : List Nat} (h : OwTs w v ts F) (hs : Same F w w') : OwTs w' v ts F := OwS.move OwT.mov h hs
theorem OwLvs.move {w w' : World} {v : Value} {l : List Lv} {F : List Nat} (h : OwLvs w v l F) (hs : Same F w w') : OwLvs w' v l F := OwS.move OwLv1.mov h hs
theorem OwT.cells {w : World} {t : Tm} {cs : List Value} {F : List Nat} (h : OwT w t cs F) : ∃ A1 l1 c1 A2 l2 c2, cs = [.int .i64 t.kind, .int .i64 t.num, .int .i64 t.place, .slice A1 l1 c1, .slice A2 l2 c2] := h.rd.cells

theorem OwL.get1 {α : Type} {Q : α → Value → Prop} : ∀ {xs : List α} {inner : List Value}, OwL (fun x cs F => (∃ u, cs = [u] ∧ Q x u) ∧ F = []) 1 inner xs [] → ∀ (i : Nat) (x : α), xs[i]? = some x → ∃ u, inner[i]? = some u ∧ Q x u
  | [], _, _, i, x, hx => by simp at hx
  | y :: ys, _, ⟨cs, rest, F1, F2, h1, _, ⟨⟨u, h3, h4⟩, _⟩, h5, h6⟩, 0, x, hx => by
    simp at hx; subst hx; subst h1; subst h3
    exact ⟨u, by simp, h4⟩
  | y :: ys, _, ⟨cs, rest, F1, F2, h1, _, ⟨⟨u, h3, h4⟩, _⟩, h5, h6⟩, i + 1, x, hx => by
    have hF2 : F2 = [] := (List.append_eq_nil_iff.1 h6.symm).2
    subst hF2; subst h1; subst h3
    obtain ⟨v, g1, g2⟩ := OwL.get1 h5 i x (by simpa using hx)
    exact ⟨v, by simpa using g1, g2⟩

/-- Five cells written over a block of five. -/
def put5 (w : World) (g : Nat) (c0 c1 c2 c3 c4 : Value) : World :=
  ((((w.setCell ⟨g, 0, none⟩ c0).setCell ⟨g, 1, none⟩ c1).setCell ⟨g, 2, none⟩ c2).setCell ⟨g, 3, none⟩ c3).setCell ⟨g, 4, none⟩ c4
theorem put5_blk {w : World} {g : Nat} {d0 d1 d2 d3 d4 c0 c1 c2 c3 c4 : Value} {e : TypeId} (h : Blk w g #[d0, d1, d2, d3, d4] e) : Blk (put5 w g c0 c1 c2 c3 c4) g #[c0, c1, c2, c3, c4] e :=
  ((((h.set 0 _).set 1 _).set 2 _).set 3 _).set 4 _
theorem put5_at (w : World) (g : Nat) (c0 c1 c2 c3 c4 : Value) (b : Nat) (hb : b ≠ g) : (put5 w g c0 c1 c2 c3 c4).heap[b]? = w.heap[b]? := by
  unfold put5
  rw [Below.heap_setCell _ _ _ _ (by exact hb), Below.heap_setCell _ _ _ _ (by exact hb), Below.heap_setCell _ _ _ _ (by exact hb), Below.heap_setCell _ _ _ _ (by exact hb), Below.heap_setCell _ _ _ _ (by exact hb)]
theorem put5_same {w : World} {g : Nat} {c0 c1 c2 c3 c4 : Value} {F : List Nat} (h : ∀ b ∈ F, b ≠ g) : Same F w (put5 w g c0 c1 c2 c3 c4) := fun b hb => put5_at _ _ _ _ _ _ _ b (h b hb)
theorem put5_size (w : World) (g : Nat) (c0 c1 c2 c3 c4 : Value) : (put5 w g c0 c1 c2 c3 c4).heap.size = w.heap.size := by simp [put5, World.setCell]
theorem put5_below {N : Nat} {w w2 : World} {g : Nat} {c0 c1 c2 c3 c4 : Value} (h : Below N w w2) (hN : N ≤ g) : Below N w (put5 w2 g c0 c1 c2 c3 c4) :=
  ((((h.setCell (by exact hN) _).setCell (by exact hN) _).setCell (by exact hN) _).setCell (by exact hN) _).setCell (by exact hN) _

/-! ### New blocks, one behind the other -/
theorem blks1 (w : World) (a : Array Value) (ea : TypeId) : Blk (w.alloc (.cells a ea)) w.heap.size a ea ∧ Below w.heap.size w (w.alloc (.cells a ea)) ∧ (w.alloc (.cells a ea)).heap.size = w.heap.size + 1 :=
  ⟨Blk.new w a ea, (Below.refl _ _).alloc (Nat.le_refl _) _, by simp⟩
theorem blks2 (w : World) (a b : Array Value) (ea eb : TypeId) : Blk ((w.alloc (.cells a ea)).alloc (.cells b eb)) w.heap.size a ea ∧ Blk ((w.alloc (.cells a ea)).alloc (.cells b eb)) (w.heap.size + 1) b eb ∧
    Below w.heap.size w ((w.alloc (.cells a ea)).alloc (.cells b eb)) ∧ ((w.alloc (.cells a ea)).alloc (.cells b eb)).heap.size = w.heap.size + 2 := by
  obtain ⟨h1, h2, h3⟩ := blks1 w a ea
  obtain ⟨g1, g2, g3⟩ := blks1 (w.alloc (.cells a ea)) b eb
  exact ⟨h1.alloc _, by rw [h3] at g1; exact g1, h2.trans (g2.mono (by omega)), by omega⟩
theorem blks3 (w : World) (a b c : Array Value) (ea eb ec : TypeId) : Blk (((w.alloc (.cells a ea)).alloc (.cells b eb)).alloc (.cells c ec)) w.heap.size a ea ∧ Blk (((w.alloc (.cells a ea)).alloc (.cells b eb)).alloc (.cells c ec)) (w.heap.size + 1) b eb ∧
    Blk (((w.alloc (.cells a ea)).alloc (.cells b eb)).alloc (.cells c ec)) (w.heap.size + 1 + 1) c ec ∧ Below w.heap.size w (((w.alloc (.cells a ea)).alloc (.cells b eb)).alloc (.cells c ec)) ∧ (((w.alloc (.cells a ea)).alloc (.cells b eb)).alloc (.cells c ec)).heap.size = w.heap.size + 3 := by
  obtain ⟨h1, h2, h3, h4⟩ := blks2 w a b ea eb
  obtain ⟨g1, g2, g3⟩ := blks1 ((w.alloc (.cells a ea)).alloc (.cells b eb)) c ec
  exact ⟨h1.alloc _, h2.alloc _, by rw [h4] at g1; exact g1, h3.trans (g2.mono (by omega)), by omega⟩
theorem blks4 (w : World) (a b c d : Array Value) (ea eb ec ed : TypeId) : let W := ((((w.alloc (.cells a ea)).alloc (.cells b eb)).alloc (.cells c ec)).alloc (.cells d ed))
    Blk W w.heap.size a ea ∧ Blk W (w.heap.size + 1) b eb ∧ Blk W (w.heap.size + 1 + 1) c ec ∧ Blk W (w.heap.size + 1 + 1 + 1) d ed ∧ Below w.heap.size w W ∧ W.heap.size = w.heap.size + 4 := by
  obtain ⟨h1, h2, h3, h4, h5⟩ := blks3 w a b c ea eb ec
  obtain ⟨g1, g2, g3⟩ := blks1 (((w.alloc (.cells a ea)).alloc (.cells b eb)).alloc (.cells c ec)) d ed
  exact ⟨h1.alloc _, h2.alloc _, h3.alloc _, by rw [h5] at g1; exact g1, h4.trans (g2.mono (by omega)), by omega⟩
end Go.Proofs.YtkedcijfegoflaaDoor
