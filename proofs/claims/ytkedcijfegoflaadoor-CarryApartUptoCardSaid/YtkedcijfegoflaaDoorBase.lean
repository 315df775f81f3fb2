/- The data of spandrel as plain Lean data; what the cells of a value say of them, read (Rd..) or owned block by block (Ow..). -/
import Derived.Test.YtkedcijfegoflaaDoorProg
import Derived.Below
import Derived.WalkKit
import Derived.OwnWalk
import Derived.KernelRfl
import Derived.Outline
import Derived.Lib.Hide
import Derived.Maps.AppendAt
namespace Go.Proofs.YtkedcijfegoflaaDoor
open Go Go.RowKit

/-! ### The data -/
abbrev Pa := Int × Int
abbrev Lv := List Pa
inductive Tm where
  | mk (kind num place : Int) (lv : List Lv) (kids : List Tm)
namespace Tm
def kind : Tm → Int | .mk k _ _ _ _ => k
def num : Tm → Int | .mk _ n _ _ _ => n
def place : Tm → Int | .mk _ _ a _ _ => a
def lv : Tm → List Lv | .mk _ _ _ l _ => l
def kids : Tm → List Tm | .mk _ _ _ _ ks => ks
mutual
def nodes : Tm → Nat
  | .mk _ _ _ _ ks => nodesL ks + 1
def nodesL : List Tm → Nat
  | [] => 0
  | t :: ts => nodes t + nodesL ts
end
end Tm
instance : Inhabited Tm := ⟨.mk 0 0 0 [] []⟩

/-! ### Reading: an element's cells, in line at a place; a slice's value -/
def AtP (w : World) (b o : Nat) (cs : List Value) : Prop := ∀ j u, cs[j]? = some u → w.cell? ⟨b, o + j, none⟩ = some u
/-- Every cell that was there holds what it held. (Rules of the walk; 'Below' says more.) -/
abbrev Keeps (w w' : World) : Prop := ∀ b o, b < w.heap.size → w'.cell? ⟨b, o, none⟩ = w.cell? ⟨b, o, none⟩
theorem keeps_of {w w' : World} (hb : Below w.heap.size w w') : Keeps w w' := fun _ _ h => hb.cell h
theorem AtP.below {w w' : World} {b o : Nat} {cs : List Value} (h : AtP w b o cs) (hb : Keeps w w') : AtP w' b o cs := fun j u hj => by
  have := h j u hj
  rw [hb _ _ (World.block_lt_of_cell? w _ this)]
  exact this
/-- Elements of sz cells, one behind the other. -/
def RdL {α : Type} (R : α → List Value → Prop) (sz : Nat) (w : World) (b : Nat) : Nat → List α → Prop
  | _, [] => True
  | o, x :: xs => (∃ cs, cs.length = sz ∧ R x cs ∧ AtP w b o cs) ∧ RdL R sz w b (o + sz) xs
def RdS {α : Type} (R : α → List Value → Prop) (sz : Nat) (w : World) (v : Value) (xs : List α) : Prop :=
  ∃ A c, v = .slice A xs.length c ∧ xs.length ≤ c ∧ xs.length ≤ 9223372036854775807 ∧ (xs = [] ∨ ∃ b o, A = some ⟨b, o, none⟩ ∧ RdL R sz w b o xs)

theorem RdL.get {α : Type} {R : α → List Value → Prop} {sz : Nat} {w : World} {b : Nat} : ∀ {xs : List α} {o : Nat}, RdL R sz w b o xs → ∀ i x, xs[i]? = some x → ∃ cs, cs.length = sz ∧ R x cs ∧ AtP w b (o + i * sz) cs
  | [], _, _, i, x, hx => by simp at hx
  | y :: ys, o, h, 0, x, hx => by
    simp at hx
    subst hx
    simpa using h.1
  | y :: ys, o, h, i + 1, x, hx => by
    obtain ⟨cs, h1, h2, h3⟩ := h.2.get i x (by simpa using hx)
    exact ⟨cs, h1, h2, by rwa [show o + (i + 1) * sz = o + sz + i * sz by rw [Nat.add_mul]; omega]⟩
theorem RdL.imp {α : Type} {R R' : α → List Value → Prop} {sz : Nat} {w w' : World} {b : Nat} (hA : ∀ o cs, AtP w b o cs → AtP w' b o cs) : ∀ {xs : List α} {o : Nat}, (∀ x, x ∈ xs → ∀ cs, R x cs → R' x cs) → RdL R sz w b o xs → RdL R' sz w' b o xs
  | [], _, _, _ => trivial
  | x :: xs, o, hR, ⟨⟨cs, h1, h2, h3⟩, h4⟩ => ⟨⟨cs, h1, hR x (by simp) cs h2, hA _ _ h3⟩, h4.imp hA (fun y hy => hR y (by simp [hy]))⟩

/-- One cell of a number; two in line. -/
def RInt (k : IntKind) (x : Int) (cs : List Value) : Prop := cs = [.int k x]
def RPa (p : Pa) (cs : List Value) : Prop := cs = [.int .i64 p.1, .int .i64 p.2]
def RdLv (w : World) (v : Value) (l : Lv) : Prop := RdS RPa 2 w v l
def RdLvs (w : World) (v : Value) (l : List Lv) : Prop := RdS (fun x cs => ∃ u, cs = [u] ∧ RdLv w u x) 1 w v l
mutual
def RdT (w : World) : Tm → List Value → Prop
  | .mk k n a lv kids, cs => ∃ vl vk, cs = [.int .i64 k, .int .i64 n, .int .i64 a, vl, vk] ∧ RdLvs w vl lv ∧
      ∃ A c, vk = .slice A kids.length c ∧ kids.length ≤ c ∧ kids.length ≤ 9223372036854775807 ∧ (kids = [] ∨ ∃ b o, A = some ⟨b, o, none⟩ ∧ RdTl w b o kids)
def RdTl (w : World) (b : Nat) : Nat → List Tm → Prop
  | _, [] => True
  | o, t :: ts => (∃ cs, cs.length = 5 ∧ RdT w t cs ∧ AtP w b o cs) ∧ RdTl w b (o + 5) ts
end
theorem RdTl_iff (w : World) (b : Nat) : ∀ (ts : List Tm) (o : Nat), RdTl w b o ts ↔ RdL (RdT w) 5 w b o ts
  | [], o => by simp [RdTl, RdL]
  | t :: ts, o => by simp only [RdTl, RdL, RdTl_iff w b ts]
def RdTs (w : World) (v : Value) (ts : List Tm) : Prop := RdS (RdT w) 5 w v ts
theorem RdT_mk (w : World) (k n a : Int) (lv : List Lv) (kids : List Tm) (cs : List Value) :
    RdT w (.mk k n a lv kids) cs ↔ ∃ vl vk, cs = [.int .i64 k, .int .i64 n, .int .i64 a, vl, vk] ∧ RdLvs w vl lv ∧ RdTs w vk kids := by
  simp only [RdT, RdTs, RdS, RdTl_iff]
/-- As the walk wants it: the value's cells written out. -/
def RdV (w : World) (t : Tm) (v : Value) : Prop := ∃ cs, v = .agg cs.toArray ∧ RdT w t cs

/-! ### Reading stays -/
theorem RdS.below {α : Type} {R R' : α → List Value → Prop} {sz : Nat} {w w' : World} {v : Value} {xs : List α} (hb : Keeps w w') (hR : ∀ x, x ∈ xs → ∀ cs, R x cs → R' x cs) (h : RdS R sz w v xs) : RdS R' sz w' v xs := by
  obtain ⟨A, c, hv, h1, h2, h3⟩ := h
  refine ⟨A, c, hv, h1, h2, ?_⟩
  rcases h3 with h3 | ⟨b, o, hA, h3⟩
  · exact .inl h3
  · exact .inr ⟨b, o, hA, h3.imp (fun _ _ h => h.below hb) hR⟩
theorem RdLv.below {w w' : World} {v : Value} {l : Lv} (h : RdLv w v l) (hb : Keeps w w') : RdLv w' v l := RdS.below hb (fun _ _ _ h => h) h
theorem RdLvs.below {w w' : World} {v : Value} {l : List Lv} (h : RdLvs w v l) (hb : Keeps w w') : RdLvs w' v l :=
  RdS.below hb (fun _ _ _ ⟨u, h1, h2⟩ => ⟨u, h1, h2.below hb⟩) h
mutual
theorem RdT.below {w w' : World} (hb : Keeps w w') : ∀ (t : Tm) (cs : List Value), RdT w t cs → RdT w' t cs
  | .mk k n a lv kids, cs, h => by
    simp only [RdT] at h ⊢
    obtain ⟨vl, vk, h1, h2, A, c, h3, h4, h5, h6⟩ := h
    refine ⟨vl, vk, h1, h2.below hb, A, c, h3, h4, h5, ?_⟩
    rcases h6 with h6 | ⟨b, o, hA, h6⟩
    · exact .inl h6
    · exact .inr ⟨b, o, hA, RdTl.below hb b kids o h6⟩
theorem RdTl.below {w w' : World} (hb : Keeps w w') (b : Nat) : ∀ (ts : List Tm) (o : Nat), RdTl w b o ts → RdTl w' b o ts
  | [], _, _ => by simp [RdTl]
  | t :: ts, o, h => by
    simp only [RdTl] at h ⊢
    obtain ⟨⟨cs, h1, h2, h3⟩, h4⟩ := h
    exact ⟨⟨cs, h1, RdT.below hb t cs h2, h3.below hb⟩, RdTl.below hb b ts _ h4⟩
end
theorem RdTs.below {w w' : World} {v : Value} {ts : List Tm} (h : RdTs w v ts) (hb : Keeps w w') : RdTs w' v ts :=
  RdS.below hb (fun t _ cs h => RdT.below hb t cs h) h

/-! ### For the walk -/
theorem RdT.cells {w : World} {t : Tm} {cs : List Value} (h : RdT w t cs) : ∃ A1 l1 c1 A2 l2 c2, cs = [.int .i64 t.kind, .int .i64 t.num, .int .i64 t.place, .slice A1 l1 c1, .slice A2 l2 c2] := by
  obtain ⟨k, n, a, lv, kids⟩ := t
  obtain ⟨vl, vk, rfl, ⟨A1, c1, rfl, _⟩, ⟨A2, c2, rfl, _⟩⟩ := (RdT_mk ..).1 h
  exact ⟨_, _, _, _, _, _, rfl⟩
theorem Keeps.trans {w w1 w2 : World} (h : Keeps w w1) (hs : w.heap.size ≤ w1.heap.size) (k : Keeps w1 w2) : Keeps w w2 := fun b o hb => (k b o (Nat.lt_of_lt_of_le hb hs)).trans (h b o hb)
theorem ret_bool {a b : Bool} (h : a = b) : Ending.returned (.bool a) = .returned (.bool b) := by rw [h]
theorem ret_int {k : IntKind} {a b : Int} (h : a = b) : Ending.returned (.int k a) = .returned (.int k b) := by rw [h]
theorem undrewB {B : Nat} {w w1 : World} (h : Below B w.drew w1) : Below B w w1 := ⟨h.os, h.tape, h.output, h.size, h.block⟩
theorem undrew {w w1 : World} (h : Below w.drew.heap.size w.drew w1) : Below w.heap.size w w1 := undrewB h
/-- A step more. -/
theorem Keeps.step {N : Nat} {w W w1 : World} (hS : ∀ b o, b < N → W.cell? ⟨b, o, none⟩ = w.cell? ⟨b, o, none⟩) (hN : N ≤ W.heap.size) (hb : Below W.heap.size W w1) : ∀ b o, b < N → w1.cell? ⟨b, o, none⟩ = w.cell? ⟨b, o, none⟩ :=
  fun b o h => (hb.cell (p := ⟨b, o, none⟩) (Nat.lt_of_lt_of_le h hN)).trans (hS b o h)
theorem RdT_at {w : World} {b o : Nat} {ts : List Tm} (h : RdL (RdT w) 5 w b o ts) (k : Nat) (hk : k < ts.length) :
    ∃ k0 n0 a0 A1 l1 c1 A2 l2 c2, RdT w ts[k] [.int .i64 k0, .int .i64 n0, .int .i64 a0, .slice A1 l1 c1, .slice A2 l2 c2] ∧
      w.cell? ⟨b, o + k * 5, none⟩ = some (.int .i64 k0) ∧ w.cell? ⟨b, o + k * 5 + 1, none⟩ = some (.int .i64 n0) ∧ w.cell? ⟨b, o + k * 5 + 2, none⟩ = some (.int .i64 a0) ∧
      w.cell? ⟨b, o + k * 5 + 3, none⟩ = some (.slice A1 l1 c1) ∧ w.cell? ⟨b, o + k * 5 + 4, none⟩ = some (.slice A2 l2 c2) ∧ b < w.heap.size := by
  obtain ⟨cs, hl, hr, ha⟩ := h.get k _ (List.getElem?_eq_getElem hk)
  obtain ⟨A1, l1, c1, A2, l2, c2, rfl⟩ := hr.cells
  have h0 := ha 0 _ rfl
  exact ⟨_, _, _, _, _, _, _, _, _, hr, h0, ha 1 _ rfl, ha 2 _ rfl, ha 3 _ rfl, ha 4 _ rfl, World.block_lt_of_cell? w _ h0⟩
/-- What was there reads as it did: rules for the walk. -/
theorem bcell {W w1 : World} (hb : Below W.heap.size W w1) : (∀ b o, b < W.heap.size → w1.cell? ⟨b, o, none⟩ = W.cell? ⟨b, o, none⟩) ∧ (∀ b o, b < W.heap.size → w1.frozen? ⟨b, o, none⟩ = W.frozen? ⟨b, o, none⟩) :=
  ⟨fun b o h => hb.cell (p := ⟨b, o, none⟩) h, fun b o h => hb.frozen (p := ⟨b, o, none⟩) h⟩
end Go.Proofs.YtkedcijfegoflaaDoor
