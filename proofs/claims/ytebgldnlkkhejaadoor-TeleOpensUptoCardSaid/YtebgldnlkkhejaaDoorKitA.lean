/- The data of spandrel as plain Lean data; what the cells of a value say of them, read (Rd..) or owned block by block (Ow..). -/
import Derived.Test.YtebgldnlkkhejaaDoorProg
import Derived.Below
import Derived.WalkKit
import Derived.OwnWalk
import Derived.KernelRfl
import Derived.Outline
import Derived.Lib.Hide
import Derived.Maps.AppendAt
import Derived.Deep.RegionHeld3
import Derived.Deep.AppendLies
import Derived.StillTactics
import Derived.Deep.QuietTactic
import Derived.BigQuiet
import Derived.Laws.EntriesVeiled
import Derived.WalkSpells
import Derived.Test.YtebgldnlkkhejaaDoorWLast
namespace Go.Proofs.YtebgldnlkkhejaaDoor
open Go Go.RowKit

/-! ### The data -/
abbrev Pa := Int × Int
abbrev Lv := List Pa
inductive Tm where
  | mk (kind num place : Int) (lv : List Lv) (kids : List Tm)
namespace Tm
def kind : Tm → Int | .mk k _ _ _ _ => k
def num : Tm → Int | .mk _ n _ _ _ => n
def place : Tm → Int | .mk _ _ a _ _ => a
def lv : Tm → List Lv | .mk _ _ _ l _ => l
def kids : Tm → List Tm | .mk _ _ _ _ ks => ks
mutual
def nodes : Tm → Nat
  | .mk _ _ _ _ ks => nodesL ks + 1
def nodesL : List Tm → Nat
  | [] => 0
  | t :: ts => nodes t + nodesL ts
end
end Tm
instance : Inhabited Tm := ⟨.mk 0 0 0 [] []⟩

/-! ### Reading: an element's cells, in line at a place; a slice's value -/
def AtP (w : World) (b o : Nat) (cs : List Value) : Prop := ∀ j u, cs[j]? = some u → w.cell? ⟨b, o + j, none⟩ = some u
/-- Every cell that was there holds what it held. (Rules of the walk; 'Below' says more.) -/
abbrev Keeps (w w' : World) : Prop := ∀ b o, b < w.heap.size → w'.cell? ⟨b, o, none⟩ = w.cell? ⟨b, o, none⟩
theorem keeps_of {w w' : World} (hb : Below w.heap.size w w') : Keeps w w' := fun _ _ h => hb.cell h
theorem AtP.below {w w' : World} {b o : Nat} {cs : List Value} (h : AtP w b o cs) (hb : Keeps w w') : AtP w' b o cs := fun j u hj => by
  have := h j u hj
  rw [hb _ _ (World.block_lt_of_cell? w _ this)]
  exact this
/-- Elements of sz cells, one behind the other. -/
def RdL {α : Type} (R : α → List Value → Prop) (sz : Nat) (w : World) (b : Nat) : Nat → List α → Prop
  | _, [] => True
  | o, x :: xs => (∃ cs, cs.length = sz ∧ R x cs ∧ AtP w b o cs) ∧ RdL R sz w b (o + sz) xs
def RdS {α : Type} (R : α → List Value → Prop) (sz : Nat) (w : World) (v : Value) (xs : List α) : Prop :=
  ∃ A c, v = .slice A xs.length c ∧ xs.length ≤ c ∧ xs.length ≤ 9223372036854775807 ∧ (xs = [] ∨ ∃ b o, A = some ⟨b, o, none⟩ ∧ RdL R sz w b o xs)

theorem RdL.get {α : Type} {R : α → List Value → Prop} {sz : Nat} {w : World} {b : Nat} : ∀ {xs : List α} {o : Nat}, RdL R sz w b o xs → ∀ i x, xs[i]? = some x → ∃ cs, cs.length = sz ∧ R x cs ∧ AtP w b (o + i * sz) cs
  | [], _, _, i, x, hx => by simp at hx
  | y :: ys, o, h, 0, x, hx => by
    simp at hx
    subst hx
    simpa using h.1
  | y :: ys, o, h, i + 1, x, hx => by
    obtain ⟨cs, h1, h2, h3⟩ := h.2.get i x (by simpa using hx)
    exact ⟨cs, h1, h2, by rwa [show o + (i + 1) * sz = o + sz + i * sz by rw [Nat.add_mul]; omega]⟩
theorem RdL.imp {α : Type} {R R' : α → List Value → Prop} {sz : Nat} {w w' : World} {b : Nat} (hA : ∀ o cs, AtP w b o cs → AtP w' b o cs) : ∀ {xs : List α} {o : Nat}, (∀ x, x ∈ xs → ∀ cs, R x cs → R' x cs) → RdL R sz w b o xs → RdL R' sz w' b o xs
  | [], _, _, _ => trivial
  | x :: xs, o, hR, ⟨⟨cs, h1, h2, h3⟩, h4⟩ => ⟨⟨cs, h1, hR x (by simp) cs h2, hA _ _ h3⟩, h4.imp hA (fun y hy => hR y (by simp [hy]))⟩

/-- One cell of a number; two in line. -/
def RInt (k : IntKind) (x : Int) (cs : List Value) : Prop := cs = [.int k x]
def RPa (p : Pa) (cs : List Value) : Prop := cs = [.int .i64 p.1, .int .i64 p.2]
def RdLv (w : World) (v : Value) (l : Lv) : Prop := RdS RPa 2 w v l
def RdLvs (w : World) (v : Value) (l : List Lv) : Prop := RdS (fun x cs => ∃ u, cs = [u] ∧ RdLv w u x) 1 w v l
mutual
def RdT (w : World) : Tm → List Value → Prop
  | .mk k n a lv kids, cs => ∃ vl vk, cs = [.int .i64 k, .int .i64 n, .int .i64 a, vl, vk] ∧ RdLvs w vl lv ∧
      ∃ A c, vk = .slice A kids.length c ∧ kids.length ≤ c ∧ kids.length ≤ 9223372036854775807 ∧ (kids = [] ∨ ∃ b o, A = some ⟨b, o, none⟩ ∧ RdTl w b o kids)
def RdTl (w : World) (b : Nat) : Nat → List Tm → Prop
  | _, [] => True
  | o, t :: ts => (∃ cs, cs.length = 5 ∧ RdT w t cs ∧ AtP w b o cs) ∧ RdTl w b (o + 5) ts
end
theorem RdTl_iff (w : World) (b : Nat) : ∀ (ts : List Tm) (o : Nat), RdTl w b o ts ↔ RdL (RdT w) 5 w b o ts
  | [], o => by simp [RdTl, RdL]
  | t :: ts, o => by simp only [RdTl, RdL, RdTl_iff w b ts]
def RdTs (w : World) (v : Value) (ts : List Tm) : Prop := RdS (RdT w) 5 w v ts
theorem RdT_mk (w : World) (k n a : Int) (lv : List Lv) (kids : List Tm) (cs : List Value) :
    RdT w (.mk k n a lv kids) cs ↔ ∃ vl vk, cs = [.int .i64 k, .int .i64 n, .int .i64 a, vl, vk] ∧ RdLvs w vl lv ∧ RdTs w vk kids := by
  simp only [RdT, RdTs, RdS, RdTl_iff]
/-- As the walk wants it: the value's cells written out. -/
def RdV (w : World) (t : Tm) (v : Value) : Prop := ∃ cs, v = .agg cs.toArray ∧ RdT w t cs

/-! ### Reading stays -/
theorem RdS.below {α : Type} {R R' : α → List Value → Prop} {sz : Nat} {w w' : World} {v : Value} {xs : List α} (hb : Keeps w w') (hR : ∀ x, x ∈ xs → ∀ cs, R x cs → R' x cs) (h : RdS R sz w v xs) : RdS R' sz w' v xs := by
  obtain ⟨A, c, hv, h1, h2, h3⟩ := h
  refine ⟨A, c, hv, h1, h2, ?_⟩
  rcases h3 with h3 | ⟨b, o, hA, h3⟩
  · exact .inl h3
  · exact .inr ⟨b, o, hA, h3.imp (fun _ _ h => h.below hb) hR⟩
theorem RdLv.below {w w' : World} {v : Value} {l : Lv} (h : RdLv w v l) (hb : Keeps w w') : RdLv w' v l := RdS.below hb (fun _ _ _ h => h) h
theorem RdLvs.below {w w' : World} {v : Value} {l : List Lv} (h : RdLvs w v l) (hb : Keeps w w') : RdLvs w' v l :=
  RdS.below hb (fun _ _ _ ⟨u, h1, h2⟩ => ⟨u, h1, h2.below hb⟩) h
mutual
theorem RdT.below {w w' : World} (hb : Keeps w w') : ∀ (t : Tm) (cs : List Value), RdT w t cs → RdT w' t cs
  | .mk k n a lv kids, cs, h => by
    simp only [RdT] at h ⊢
    obtain ⟨vl, vk, h1, h2, A, c, h3, h4, h5, h6⟩ := h
    refine ⟨vl, vk, h1, h2.below hb, A, c, h3, h4, h5, ?_⟩
    rcases h6 with h6 | ⟨b, o, hA, h6⟩
    · exact .inl h6
    · exact .inr ⟨b, o, hA, RdTl.below hb b kids o h6⟩
theorem RdTl.below {w w' : World} (hb : Keeps w w') (b : Nat) : ∀ (ts : List Tm) (o : Nat), RdTl w b o ts → RdTl w' b o ts
  | [], _, _ => by simp [RdTl]
  | t :: ts, o, h => by
    simp only [RdTl] at h ⊢
    obtain ⟨⟨cs, h1, h2, h3⟩, h4⟩ := h
    exact ⟨⟨cs, h1, RdT.below hb t cs h2, h3.below hb⟩, RdTl.below hb b ts _ h4⟩
end
theorem RdTs.below {w w' : World} {v : Value} {ts : List Tm} (h : RdTs w v ts) (hb : Keeps w w') : RdTs w' v ts :=
  RdS.below hb (fun t _ cs h => RdT.below hb t cs h) h

/-! ### For the walk -/
theorem RdT.cells {w : World} {t : Tm} {cs : List Value} (h : RdT w t cs) : ∃ A1 l1 c1 A2 l2 c2, cs = [.int .i64 t.kind, .int .i64 t.num, .int .i64 t.place, .slice A1 l1 c1, .slice A2 l2 c2] := by
  obtain ⟨k, n, a, lv, kids⟩ := t
  obtain ⟨vl, vk, rfl, ⟨A1, c1, rfl, _⟩, ⟨A2, c2, rfl, _⟩⟩ := (RdT_mk ..).1 h
  exact ⟨_, _, _, _, _, _, rfl⟩
theorem Keeps.trans {w w1 w2 : World} (h : Keeps w w1) (hs : w.heap.size ≤ w1.heap.size) (k : Keeps w1 w2) : Keeps w w2 := fun b o hb => (k b o (Nat.lt_of_lt_of_le hb hs)).trans (h b o hb)
theorem ret_bool {a b : Bool} (h : a = b) : Ending.returned (.bool a) = .returned (.bool b) := by rw [h]
theorem ret_int {k : IntKind} {a b : Int} (h : a = b) : Ending.returned (.int k a) = .returned (.int k b) := by rw [h]
theorem undrewB {B : Nat} {w w1 : World} (h : Below B w.drew w1) : Below B w w1 := ⟨h.os, h.tape, h.output, h.size, h.block⟩
theorem undrew {w w1 : World} (h : Below w.drew.heap.size w.drew w1) : Below w.heap.size w w1 := undrewB h
/-- A step more. -/
theorem Keeps.step {N : Nat} {w W w1 : World} (hS : ∀ b o, b < N → W.cell? ⟨b, o, none⟩ = w.cell? ⟨b, o, none⟩) (hN : N ≤ W.heap.size) (hb : Below W.heap.size W w1) : ∀ b o, b < N → w1.cell? ⟨b, o, none⟩ = w.cell? ⟨b, o, none⟩ :=
  fun b o h => (hb.cell (p := ⟨b, o, none⟩) (Nat.lt_of_lt_of_le h hN)).trans (hS b o h)
theorem RdT_at {w : World} {b o : Nat} {ts : List Tm} (h : RdL (RdT w) 5 w b o ts) (k : Nat) (hk : k < ts.length) :
    ∃ k0 n0 a0 A1 l1 c1 A2 l2 c2, RdT w ts[k] [.int .i64 k0, .int .i64 n0, .int .i64 a0, .slice A1 l1 c1, .slice A2 l2 c2] ∧
      w.cell? ⟨b, o + k * 5, none⟩ = some (.int .i64 k0) ∧ w.cell? ⟨b, o + k * 5 + 1, none⟩ = some (.int .i64 n0) ∧ w.cell? ⟨b, o + k * 5 + 2, none⟩ = some (.int .i64 a0) ∧
      w.cell? ⟨b, o + k * 5 + 3, none⟩ = some (.slice A1 l1 c1) ∧ w.cell? ⟨b, o + k * 5 + 4, none⟩ = some (.slice A2 l2 c2) ∧ b < w.heap.size := by
  obtain ⟨cs, hl, hr, ha⟩ := h.get k _ (List.getElem?_eq_getElem hk)
  obtain ⟨A1, l1, c1, A2, l2, c2, rfl⟩ := hr.cells
  have h0 := ha 0 _ rfl
  exact ⟨_, _, _, _, _, _, _, _, _, hr, h0, ha 1 _ rfl, ha 2 _ rfl, ha 3 _ rfl, ha 4 _ rfl, World.block_lt_of_cell? w _ h0⟩
/-- What was there reads as it did: rules for the walk. -/
theorem bcell {W w1 : World} (hb : Below W.heap.size W w1) : (∀ b o, b < W.heap.size → w1.cell? ⟨b, o, none⟩ = W.cell? ⟨b, o, none⟩) ∧ (∀ b o, b < W.heap.size → w1.frozen? ⟨b, o, none⟩ = W.frozen? ⟨b, o, none⟩) :=
  ⟨fun b o h => hb.cell (p := ⟨b, o, none⟩) h, fun b o h => hb.frozen (p := ⟨b, o, none⟩) h⟩
end Go.Proofs.YtebgldnlkkhejaaDoor

/-! ## What a call has made and owns, block by block (Ow..); an element appended. -/
namespace Go.Proofs.YtebgldnlkkhejaaDoor
open Go Go.RowKit

/-! ### Blocks -/
/-- F: blocks of one's own, none twice, all from lo on, all there. -/
def Fr (lo : Nat) (w : World) (F : List Nat) : Prop := F.Nodup ∧ ∀ b ∈ F, lo ≤ b ∧ b < w.heap.size
theorem Fr.nil (lo : Nat) (w : World) : Fr lo w [] := ⟨by simp, by simp⟩
theorem Fr.mono {lo lo' : Nat} {w w' : World} {F : List Nat} (h : Fr lo w F) (hl : lo' ≤ lo) (hw : w.heap.size ≤ w'.heap.size) : Fr lo' w' F :=
  ⟨h.1, fun b hb => by have := h.2 b hb; omega⟩
theorem Fr.append {lo : Nat} {w w' : World} {F F' : List Nat} (h : Fr lo w F) (h' : Fr w.heap.size w' F') (hw : w.heap.size ≤ w'.heap.size) (hlo : lo ≤ w.heap.size) : Fr lo w' (F ++ F') := by
  refine ⟨List.nodup_append.2 ⟨h.1, h'.1, fun a ha b hb e => ?_⟩, fun b hb => ?_⟩
  · have := h.2 a ha; have := h'.2 b hb; omega
  · rcases List.mem_append.1 hb with hb | hb
    · have := h.2 b hb; omega
    · have := h'.2 b hb; omega
/-- The blocks in F hold in w' what they held in w. -/
def Same (F : List Nat) (w w' : World) : Prop := ∀ b ∈ F, w'.heap[b]? = w.heap[b]?
theorem Same.of_below {lo : Nat} {w w' : World} {F : List Nat} (h : Fr lo w F) (hb : Below w.heap.size w w') : Same F w w' := fun b hm => hb.block b (h.2 b hm).2
theorem Same.left {F F' : List Nat} {w w' : World} (h : Same (F ++ F') w w') : Same F w w' := fun b hb => h b (List.mem_append_left _ hb)
theorem Same.right {F F' : List Nat} {w w' : World} (h : Same (F ++ F') w w') : Same F' w w' := fun b hb => h b (List.mem_append_right _ hb)

/-! ### Rows of one's own -/
def OwL {α : Type} (R : α → List Value → List Nat → Prop) (sz : Nat) : List Value → List α → List Nat → Prop
  | inner, [], F => inner = [] ∧ F = []
  | inner, x :: xs, F => ∃ cs rest F1 F2, inner = cs ++ rest ∧ cs.length = sz ∧ R x cs F1 ∧ OwL R sz rest xs F2 ∧ F = F1 ++ F2
def OwS {α : Type} (R : World → α → List Value → List Nat → Prop) (sz : Nat) (e : TypeId) (w : World) (v : Value) (xs : List α) (F : List Nat) : Prop :=
  ∃ inner Fi, w.ownsRow 0 e sz v xs.length inner ∧ OwL (R w) sz inner xs Fi ∧ F = v.ownBlock.toList ++ Fi
theorem OwL.imp {α : Type} {R R' : α → List Value → List Nat → Prop} {sz : Nat} : ∀ {xs : List α} {inner : List Value} {F : List Nat}, (∀ x cs G, x ∈ xs → (∀ b ∈ G, b ∈ F) → R x cs G → R' x cs G) → OwL R sz inner xs F → OwL R' sz inner xs F
  | [], _, _, _, h => h
  | x :: xs, _, _, hR, ⟨cs, rest, F1, F2, h1, h2, h3, h4, h5⟩ => by
    subst h5
    exact ⟨cs, rest, F1, F2, h1, h2, hR x cs F1 (by simp) (fun b hb => List.mem_append_left _ hb) h3, h4.imp (fun y cs G hy hG => hR y cs G (by simp [hy]) (fun b hb => List.mem_append_right _ (hG b hb))), rfl⟩
theorem OwL.length {α : Type} {R : α → List Value → List Nat → Prop} {sz : Nat} : ∀ {xs : List α} {inner : List Value} {F : List Nat}, OwL R sz inner xs F → inner.length = xs.length * sz
  | [], _, _, h => by simp [h.1]
  | x :: xs, _, _, ⟨cs, rest, F1, F2, h1, h2, _, h4, _⟩ => by
    rw [h1, List.length_append, h2, h4.length, List.length_cons, Nat.add_mul]; omega
theorem OwL.snoc {α : Type} {R : α → List Value → List Nat → Prop} {sz : Nat} {x : α} {cx : List Value} {Fx : List Nat} (hx : R x cx Fx) (hc : cx.length = sz) : ∀ {xs : List α} {inner : List Value} {F : List Nat}, OwL R sz inner xs F → OwL R sz (inner ++ cx) (xs ++ [x]) (F ++ Fx)
  | [], _, _, ⟨h1, h2⟩ => by subst h1; subst h2; exact ⟨cx, [], Fx, [], by simp, hc, hx, ⟨rfl, rfl⟩, by simp⟩
  | y :: ys, _, _, ⟨cs, rest, F1, F2, h1, h2, h3, h4, h5⟩ => by
    subst h1; subst h5
    exact ⟨cs, rest ++ cx, F1, F2 ++ Fx, by simp, h2, h3, h4.snoc hx hc, by simp⟩
theorem OwS.nil {α : Type} (R : World → α → List Value → List Nat → Prop) (sz : Nat) (e : TypeId) (w : World) : OwS R sz e w (.slice none 0 0) [] [] :=
  ⟨[], [], World.ownsRow_nil w 0 e sz, ⟨rfl, rfl⟩, rfl⟩
theorem ownsRow_move {w w1 : World} {base : Nat} {e : TypeId} {size n : Nat} {v : Value} {xs : List Value} (h : w.ownsRow base e size v n xs) (hm : ∀ k, v.ownBlock = some k → w1.heap[k]? = w.heap[k]?) : w1.ownsRow base e size v n xs := by
  obtain ⟨h1, h2⟩ := h
  refine ⟨h1, ?_⟩
  rcases h2 with h2 | ⟨g, cap, cur, rfl, hg, hh, r⟩
  · exact .inl h2
  · exact .inr ⟨g, cap, cur, rfl, hg, (hm g (by simp [Value.ownBlock])).trans hh, r⟩
/-- R speaks of its own blocks alone. -/
def Mov {α : Type} (R : World → α → List Value → List Nat → Prop) : Prop := ∀ w w' x cs F, Same F w w' → R w x cs F → R w' x cs F
theorem OwS.move {α : Type} {R : World → α → List Value → List Nat → Prop} {sz : Nat} {e : TypeId} {w w' : World} {v : Value} {xs : List α} {F : List Nat} (hR : Mov R) (h : OwS R sz e w v xs F) (hs : Same F w w') : OwS R sz e w' v xs F := by
  obtain ⟨inner, Fi, h1, h2, rfl⟩ := h
  refine ⟨inner, Fi, ownsRow_move h1 (fun k hk => hs k (by simp [hk])), h2.imp (fun x cs G _ hG h => hR _ _ _ _ _ (fun b hb => hs b (List.mem_append_right _ (hG b hb))) h), rfl⟩
theorem OwS.slice {α : Type} {R : World → α → List Value → List Nat → Prop} {sz : Nat} {e : TypeId} {w : World} {v : Value} {xs : List α} {F : List Nat} (h : OwS R sz e w v xs F) : ∃ A c, v = .slice A xs.length c := by
  obtain ⟨inner, Fi, h1, _⟩ := h
  rcases h1.2 with ⟨rfl, h0⟩ | ⟨g, cap, cur, rfl, _⟩
  · exact ⟨none, 0, by rw [h0]⟩
  · exact ⟨_, cap, rfl⟩
theorem OwL.rd {α : Type} {R : α → List Value → List Nat → Prop} {R' : α → List Value → Prop} {sz : Nat} {w : World} {g : Nat} : ∀ {xs : List α} {inner : List Value} {F : List Nat} {o : Nat}, (∀ x cs G, x ∈ xs → R x cs G → R' x cs) → OwL R sz inner xs F → (∀ j u, inner[j]? = some u → w.cell? ⟨g, o + j, none⟩ = some u) → RdL R' sz w g o xs
  | [], _, _, _, _, _, _ => trivial
  | x :: xs, _, _, o, hR, ⟨cs, rest, F1, F2, h1, h2, h3, h4, h5⟩, hc => by
    subst h1
    refine ⟨⟨cs, h2, hR x cs F1 (by simp) h3, fun j u hj => hc j u ?_⟩, h4.rd (fun y cs G hy => hR y cs G (by simp [hy])) (fun j u hj => ?_)⟩
    · rw [List.getElem?_append_left (by have := (List.getElem?_eq_some_iff.1 hj).1; omega)]; exact hj
    · have := hc (sz + j) u (by rw [List.getElem?_append_right (by omega), h2, Nat.add_sub_cancel_left]; exact hj)
      rwa [show o + (sz + j) = o + sz + j by omega] at this
theorem OwS.rd {α : Type} {R : World → α → List Value → List Nat → Prop} {R' : α → List Value → Prop} {sz : Nat} {e : TypeId} {w : World} {v : Value} {xs : List α} {F : List Nat} (hR : ∀ x cs G, x ∈ xs → R w x cs G → R' x cs) (h : OwS R sz e w v xs F) : RdS R' sz w v xs := by
  obtain ⟨inner, Fi, h1, h2, rfl⟩ := h
  rcases h1.2 with ⟨rfl, h0⟩ | ⟨g, cap, cur, rfl, _, hh, hn, hm, hs, ht⟩
  · exact ⟨none, 0, by rw [h0], by omega, by omega, .inl (List.eq_nil_of_length_eq_zero h0)⟩
  · refine ⟨_, cap, rfl, hn, by simp only [maxLen] at hm; omega, .inr ⟨g, 0, rfl, h2.rd hR (fun j u hj => ?_)⟩⟩
    have := h1.cells (g := g) rfl j u hj
    rw [show (⟨g, 0, none⟩ : Addr).add j = ⟨g, 0 + j, none⟩ by unfold Addr.add; split <;> simp_all] at this
    exact this

/-! ### What is read, as one list of cells -/
theorem RdL.inner {α : Type} {R : α → List Value → Prop} {sz : Nat} {w : World} {b : Nat} : ∀ {xs : List α} {o : Nat}, RdL R sz w b o xs →
    ∃ inner, OwL (fun x cs F => R x cs ∧ F = []) sz inner xs [] ∧ inner.length = xs.length * sz ∧ ∀ j u, inner[j]? = some u → w.cell? ⟨b, o + j, none⟩ = some u
  | [], o, _ => ⟨[], ⟨rfl, rfl⟩, by simp, by simp⟩
  | x :: xs, o, ⟨⟨cs, h1, h2, h3⟩, h4⟩ => by
    obtain ⟨inner, g1, g2, g3⟩ := h4.inner
    refine ⟨cs ++ inner, ⟨cs, inner, [], [], rfl, h1, ⟨h2, rfl⟩, g1, rfl⟩, by rw [List.length_append, h1, g2, List.length_cons, Nat.add_mul]; omega, fun j u hj => ?_⟩
    by_cases hl : j < sz
    · rw [List.getElem?_append_left (by omega)] at hj
      exact h3 j u hj
    · rw [List.getElem?_append_right (by omega)] at hj
      have := g3 (j - cs.length) u hj
      rwa [show o + sz + (j - cs.length) = o + j by omega] at this
theorem addr0 (b o j : Nat) : (⟨b, o, none⟩ : Addr).add j = ⟨b, o + j, none⟩ := by unfold Addr.add; split <;> simp_all
theorem RdS.inner {α : Type} {R : α → List Value → Prop} {sz : Nat} {w : World} {ad : Addr} {xs : List α} (h : xs = [] ∨ ∃ b o, some ad = some ⟨b, o, none⟩ ∧ RdL R sz w b o xs) :
    ∃ inner, OwL (fun x cs F => R x cs ∧ F = []) sz inner xs [] ∧ inner.length = xs.length * sz ∧ ∀ j u, inner[j]? = some u → w.cell? (ad.add j) = some u := by
  rcases h with rfl | ⟨b, o, hA, h⟩
  · exact ⟨[], ⟨rfl, rfl⟩, by simp, by simp⟩
  · obtain ⟨inner, g1, g2, g3⟩ := h.inner
    injection hA with hA
    subst hA
    exact ⟨inner, g1, g2, fun j u hj => by rw [addr0]; exact g3 j u hj⟩
theorem OwL.mem {α : Type} {R : α → List Value → List Nat → Prop} {sz : Nat} {p : Value → Prop} : ∀ {xs : List α} {inner : List Value} {F : List Nat}, (∀ x cs F, R x cs F → ∀ u ∈ cs, p u) → OwL R sz inner xs F → ∀ u ∈ inner, p u
  | [], _, _, _, h, u, hu => by rw [h.1] at hu; cases hu
  | x :: xs, _, _, hR, ⟨cs, rest, F1, F2, h1, _, h3, h4, _⟩, u, hu => by
    subst h1
    rcases List.mem_append.1 hu with hu | hu
    · exact hR _ _ _ h3 u hu
    · exact h4.mem hR u hu

theorem OwS.of_row {α : Type} {R : World → α → List Value → List Nat → Prop} {sz : Nat} {e : TypeId} {w : World} {v : Value} {xs : List α} {inner : List Value} (h : w.ownsRow 0 e sz v xs.length inner) (hi : OwL (R w) sz inner xs []) : OwS R sz e w v xs v.ownBlock.toList :=
  ⟨inner, [], h, hi, by simp⟩
theorem Fr.one {lo : Nat} {w : World} {v : Value} (h : ∀ k, v.ownBlock = some k → lo ≤ k ∧ k < w.heap.size) : Fr lo w v.ownBlock.toList :=
  ⟨by cases v.ownBlock <;> simp, fun b hb => h b (by simpa using hb)⟩
theorem own_slice {w : World} {base : Nat} {e : TypeId} {size n : Nat} {v : Value} {xs : List Value} (h : w.ownsRow base e size v n xs) : ∃ A c, v = .slice A n c := by
  rcases h.2 with ⟨rfl, rfl⟩ | ⟨g, cap, cur, rfl, _⟩
  · exact ⟨none, 0, rfl⟩
  · exact ⟨_, cap, rfl⟩

/-! ### A block known whole -/
def Blk (w : World) (b : Nat) (cs : Array Value) (e : TypeId) : Prop := w.heap[b]? = some (.cells cs e (0, 0))
theorem Blk.cell {w : World} {b : Nat} {cs : Array Value} {e : TypeId} (h : Blk w b cs e) (j : Nat) : w.cell? ⟨b, j, none⟩ = cs[j]? := cell_of_row w b j cs e (0, 0) h
theorem Blk.frozen {w : World} {b : Nat} {cs : Array Value} {e : TypeId} (h : Blk w b cs e) (j : Nat) : w.frozen? ⟨b, j, none⟩ = false := frozen_of_row w b j cs e h
theorem Blk.lt {w : World} {b : Nat} {cs : Array Value} {e : TypeId} (h : Blk w b cs e) : b < w.heap.size := (Array.getElem?_eq_some_iff.1 h).1
theorem Blk.drew {w : World} {b : Nat} {cs : Array Value} {e : TypeId} (h : Blk w b cs e) : Blk w.drew b cs e := h
theorem keepsD {N : Nat} {w X : World} (h : ∀ b o, b < N → X.cell? ⟨b, o, none⟩ = w.cell? ⟨b, o, none⟩) : ∀ b o, b < N → X.drew.cell? ⟨b, o, none⟩ = w.cell? ⟨b, o, none⟩ := h
theorem Blk.below {w w' : World} {b : Nat} {cs : Array Value} {e : TypeId} (h : Blk w b cs e) (hb : Below w.heap.size w w') : Blk w' b cs e := (hb.block b h.lt).trans h
theorem Blk.new (w : World) (cs : Array Value) (e : TypeId) : Blk (w.alloc (.cells cs e)) w.heap.size cs e := heap_alloc_new w _
theorem Blk.alloc {w : World} {b : Nat} {cs : Array Value} {e : TypeId} (h : Blk w b cs e) (o : Obj) : Blk (w.alloc o) b cs e := (Below.heap_alloc w o b h.lt).trans h
theorem Blk.set {w : World} {b : Nat} {cs : Array Value} {e : TypeId} (h : Blk w b cs e) (j : Nat) (v : Value) : Blk (w.setCell ⟨b, j, none⟩ v) b (cs.setIfInBounds j v) e := by
  simp only [Blk, World.setCell, Array.getElem?_modify, if_true]
  rw [show w.heap[b]? = _ from h]
  rfl
theorem Blk.far {w : World} {b : Nat} {cs : Array Value} {e : TypeId} (h : Blk w b cs e) {a : Addr} (ha : b ≠ a.block) (v : Value) : Blk (w.setCell a v) b cs e := (Below.heap_setCell w a v b ha).trans h
theorem ownsRow_unique {w : World} {base : Nat} {e : TypeId} {size n : Nat} {v : Value} {xs ys : List Value} (h : w.ownsRow base e size v n xs) (h' : w.ownsRow base e size v n ys) : xs = ys := by
  rcases h.2 with ⟨rfl, h0⟩ | ⟨g, cap, cur, rfl, _, hh, _, _, _, ht⟩
  · have h1 := h.1; have h2 := h'.1
    rw [h0, Nat.zero_mul] at h1 h2
    rw [List.eq_nil_of_length_eq_zero h1, List.eq_nil_of_length_eq_zero h2]
  · rcases h'.2 with ⟨h1, _⟩ | ⟨g', cap', cur', h1, _, hh', _, _, _, ht'⟩
    · cases h1
    · injection h1 with h1 _ _
      injection h1 with h1
      injection h1 with h1
      subst h1
      rw [hh] at hh'
      injection hh' with hh'
      injection hh' with hh' _ _
      subst hh'
      rw [← ht, ← ht']

/-! ### An element appended -/
/-- In w the row v of xs is one's own (F), in w1 the element x is (Fx), made behind it; W1 is w1 but for new blocks; w2 is what the append leaves. -/
theorem OwS.push {α : Type} {R : World → α → List Value → List Nat → Prop} {sz : Nat} {e : TypeId} {w w1 W1 w2 : World} {v v2 : Value} {xs : List α} {x : α} {cx : List Value} {F Fx : List Nat} {lo : Nat} (hR : Mov R)
    (h : OwS R sz e w v xs F) (hF : Fr lo w F) (hb : Below w.heap.size w w1) (hlo : lo ≤ w.heap.size)
    (hx : R w1 x cx Fx) (hFx : Fr w.heap.size w1 Fx) (hW : Below w1.heap.size w1 W1)
    (happ : ∀ inner, w.ownsRow 0 e sz v xs.length inner → w2.ownsRow 0 e sz v2 (xs ++ [x]).length (inner ++ cx)) (hcx : cx.length = sz) (hg : W1.grownBy w2 v.ownBlock) (hat : v2.ownBlock = v.ownBlock ∨ v2.ownBlock = some W1.heap.size) (h2s : ∀ k, v2.ownBlock = some k → k < w2.heap.size) :
    ∃ F2, OwS R sz e w2 v2 (xs ++ [x]) F2 ∧ Fr lo w2 F2 := by
  obtain ⟨inner, Fi, h1, h2, rfl⟩ := h
  have s01 := hb.size
  have s12 := hW.size
  have s23 := hg.size
  have hmove : ∀ b, b ∈ Fi ++ Fx → W1.heap[b]? = w2.heap[b]? := by
    intro b hbm
    rcases List.mem_append.1 hbm with hbm | hbm
    · have hl := hF.2 b (List.mem_append_right _ hbm)
      refine (hg.block b (by omega) (fun he => ?_)).symm
      have := List.nodup_append.1 hF.1
      exact this.2.2 b (by simp [← he]) b hbm rfl
    · have hl := hFx.2 b hbm
      refine (hg.block b (by omega) (fun he => ?_)).symm
      have := (hF.2 b (List.mem_append_left _ (by simp [← he]))).2
      omega
  have hold : ∀ b, b ∈ Fi → w2.heap[b]? = w.heap[b]? := fun b hbm => by
    have hl := hF.2 b (List.mem_append_right _ hbm)
    rw [← hmove b (List.mem_append_left _ hbm), hW.block b (by omega), hb.block b (by omega)]
  have hnew : ∀ b, b ∈ Fx → w2.heap[b]? = w1.heap[b]? := fun b hbm => by
    have hl := hFx.2 b hbm
    rw [← hmove b (List.mem_append_right _ hbm), hW.block b (by omega)]
  refine ⟨v2.ownBlock.toList ++ (Fi ++ Fx), ⟨inner ++ cx, Fi ++ Fx, happ inner h1, ?_, rfl⟩, ?_, ?_⟩
  · exact (h2.imp (fun x cs G _ hG h => hR _ _ _ _ _ (fun b hbm => hold b (hG b hbm)) h)).snoc (hR _ _ _ _ _ (fun b hbm => hnew b hbm) hx) hcx
  · have hnd := List.nodup_append.1 hF.1
    refine List.nodup_append.2 ⟨by cases v2.ownBlock <;> simp, List.nodup_append.2 ⟨hnd.2.1, hFx.1, fun a ha b hb' e => ?_⟩, fun a ha b hb' e => ?_⟩
    · have := hF.2 a (List.mem_append_right _ ha); have := hFx.2 b hb'; omega
    · subst e
      have ha' : v2.ownBlock = some a := by simpa using ha
      rcases hat with hat | hat
      · have hv : v.ownBlock = some a := hat ▸ ha'
        rcases List.mem_append.1 hb' with hb' | hb'
        · exact hnd.2.2 a (by simp [hv]) a hb' rfl
        · have := hF.2 a (List.mem_append_left _ (by simp [hv])); have := hFx.2 a hb'; omega
      · have : a = W1.heap.size := by rw [ha'] at hat; simpa using hat
        rcases List.mem_append.1 hb' with hb' | hb'
        · have := hF.2 a (List.mem_append_right _ hb'); omega
        · have := hFx.2 a hb'; omega
  · intro b hbm
    rcases List.mem_append.1 hbm with hbm | hbm
    · have ha' : v2.ownBlock = some b := by simpa using hbm
      have hlt := h2s b ha'
      rcases hat with hat | hat
      · have := hF.2 b (List.mem_append_left _ (by rw [← hat, ha']; simp)); omega
      · have : b = W1.heap.size := by rw [ha'] at hat; simpa using hat
        omega
    · rcases List.mem_append.1 hbm with hbm | hbm
      · have := hF.2 b (List.mem_append_right _ hbm); omega
      · have := hFx.2 b hbm; omega

/-- The append of new cells onto a row of one's own, as a region's step. -/
theorem step_append {P : Program} {ops : Array Oper} {o : Oper} {a : Act} {w : World} {K : Act → World → Prop} {Q : Exit → Act → World → Prop} {E : Prop}
    (hg : o.guard = none) (s x : Operand) (t : TypeId) (hop : o.op = Op.call { callee := Callee.builtin Builtin.append, args := #[s, x], argTypes := #[t, t] })
    (e : TypeId) (z : Value) (size bytes : Nat) (ht : P.underlying t = some (.slice e)) (hinfo : (P.info? e).map (fun i => (i.zero, i.size, i.bytes)) = some (some z, size, bytes)) (hzs : z.cells.size = size) (hsz : 0 < size)
    (v : Value) (n : Nat) (xs : List Value) (hs : a.eval s = v) (hown : w.ownsRow 0 e size v n xs)
    (ad : Addr) (m c : Nat) (news : List Value) (hx : a.eval x = .slice (some ad) m c) (hl : news.length = m * size) (hnews : ∀ j u, news[j]? = some u → w.cell? (ad.add j) = some u) (h1 : ∀ u ∈ news, u.oneCell' = true)
    (h63 : n + m ≤ maxLen) (hbytes : (n + m) * bytes ≤ 140737488355328)
    (h : ∀ v' w', w'.ownsRow 0 e size v' (n + m) (xs ++ news) → w.grownBy w' v.ownBlock → (v'.ownBlock = v.ownBlock ∨ v'.ownBlock = some w.heap.size) → K (a.put o.dst v') w') :
    if Region.wanted o (yielded ops a.tmps) = true then Oper.wp P o a w K Q else E := by
  rw [if_pos (by simp [Region.wanted, hg])]
  obtain ⟨i, hi, hz, hsize, hby⟩ := info_parts hinfo
  obtain ⟨v', w', hr, h2, h3, _, h5⟩ := run_append_own_at (P := P) w 0 t o.type e i z size bytes ht hi hz hsize hby hzs hsz v n xs hown ad m c news hl hnews h1 h63 hbytes (Nat.zero_le _)
  unfold Oper.wp execOp
  simp only [hop, resolve, invoke, builtin, Sem.run_bind, Sem.run_pure, Result.andThen_ok, List.map_toArray, List.map_cons, List.map_nil, hs, hx, hr]
  exact h v' w' h2 h3 h5
/-- The cells of a new block are there. -/
theorem news_at {w : World} {g : Nat} {cs : List Value} {e : TypeId} (h : Blk w g cs.toArray e) : ∀ j u, cs[j]? = some u → w.cell? ((⟨g, 0, none⟩ : Addr).add j) = some u := fun j u hj => by
  rw [addr0, Nat.zero_add]
  rw [show w.cell? ⟨g, j, none⟩ = _ from cell_of_row w g j _ e (0, 0) h]
  simpa using hj

/-! ### The kinds -/
def OwPa (_ : World) (p : Pa) (cs : List Value) (F : List Nat) : Prop := RPa p cs ∧ F = []
theorem OwPa.mov : Mov OwPa := fun _ _ _ _ _ _ h => h
def OwLv (w : World) (v : Value) (l : Lv) (F : List Nat) : Prop := OwS OwPa 2 117 w v l F
def OwLv1 (w : World) (l : Lv) (cs : List Value) (F : List Nat) : Prop := ∃ u, cs = [u] ∧ OwLv w u l F
theorem OwLv1.mov : Mov OwLv1 := fun _ _ _ _ _ hs ⟨u, h1, h2⟩ => ⟨u, h1, h2.move OwPa.mov hs⟩
def OwLvs (w : World) (v : Value) (l : List Lv) (F : List Nat) : Prop := OwS OwLv1 1 38 w v l F
mutual
def OwT (w : World) : Tm → List Value → List Nat → Prop
  | .mk k n a lv kids, cs, F => ∃ vl vk F1 F2, cs = [.int .i64 k, .int .i64 n, .int .i64 a, vl, vk] ∧ OwLvs w vl lv F1 ∧
      (∃ inner Fi, w.ownsRow 0 30 5 vk kids.length inner ∧ OwTl w inner kids Fi ∧ F2 = vk.ownBlock.toList ++ Fi) ∧ F = F1 ++ F2
def OwTl (w : World) : List Value → List Tm → List Nat → Prop
  | inner, [], F => inner = [] ∧ F = []
  | inner, x :: xs, F => ∃ cs rest F1 F2, inner = cs ++ rest ∧ cs.length = 5 ∧ OwT w x cs F1 ∧ OwTl w rest xs F2 ∧ F = F1 ++ F2
end
theorem OwTl_iff (w : World) : ∀ (inner : List Value) (ts : List Tm) (F : List Nat), OwTl w inner ts F ↔ OwL (OwT w) 5 inner ts F
  | inner, [], F => by simp [OwTl, OwL]
  | inner, t :: ts, F => by simp only [OwTl, OwL, OwTl_iff w _ ts]
def OwTs (w : World) (v : Value) (ts : List Tm) (F : List Nat) : Prop := OwS OwT 5 30 w v ts F
theorem OwT_mk (w : World) (k n a : Int) (lv : List Lv) (kids : List Tm) (cs : List Value) (F : List Nat) :
    OwT w (.mk k n a lv kids) cs F ↔ ∃ vl vk F1 F2, cs = [.int .i64 k, .int .i64 n, .int .i64 a, vl, vk] ∧ OwLvs w vl lv F1 ∧ OwTs w vk kids F2 ∧ F = F1 ++ F2 := by
  simp only [OwT, OwTs, OwS, OwTl_iff]
theorem Tm.ind {P : Tm → Prop} (h : ∀ k n a lv kids, (∀ t ∈ kids, P t) → P (.mk k n a lv kids)) : ∀ t, P t := by
  intro t
  induction t using Tm.rec (motive_2 := fun ts => ∀ t ∈ ts, P t) with
  | mk k n a lv kids ih => exact h k n a lv kids ih
  | nil => rename_i hu; cases hu
  | cons t ts h1 h2 =>
    rename_i u hu
    rcases List.mem_cons.1 hu with rfl | hu
    · exact h1
    · exact h2 u hu
theorem OwT.mov : Mov OwT := by
  intro w w' t
  induction t using Tm.ind with
  | h k n a lv kids ih =>
    intro cs F hs h
    obtain ⟨vl, vk, F1, F2, h1, h2, h3, rfl⟩ := (OwT_mk ..).1 h
    obtain ⟨inner, Fi, g1, g2, rfl⟩ := h3
    exact (OwT_mk ..).2 ⟨vl, vk, F1, _, h1, h2.move OwLv1.mov hs.left, ⟨inner, Fi, ownsRow_move g1 (fun k hk => hs.right k (by simp [hk])),
      g2.imp (fun x cs G hx hG h => ih x hx cs G (fun b hb => hs.right b (List.mem_append_right _ (hG b hb))) h), rfl⟩, rfl⟩
theorem OwLv.rd {w : World} {v : Value} {l : Lv} {F : List Nat} (h : OwLv w v l F) : RdLv w v l := OwS.rd (fun _ _ _ _ h => h.1) h
theorem OwLvs.rd {w : World} {v : Value} {l : List Lv} {F : List Nat} (h : OwLvs w v l F) : RdLvs w v l := OwS.rd (fun _ _ _ _ ⟨u, h1, h2⟩ => ⟨u, h1, h2.rd⟩) h
theorem OwT.rd : ∀ (t : Tm) {w : World} {cs : List Value} {F : List Nat}, OwT w t cs F → RdT w t cs := by
  intro t
  induction t using Tm.ind with
  | h k n a lv kids ih =>
    intro w cs F h
    obtain ⟨vl, vk, F1, F2, h1, h2, h3, rfl⟩ := (OwT_mk ..).1 h
    exact (RdT_mk ..).2 ⟨vl, vk, h1, h2.rd, OwS.rd (fun x cs G hx h => ih x hx h) h3⟩
theorem OwTs.rd {w : World} {v : Value} {ts : List Tm} {F : List Nat} (h : OwTs w v ts F) : RdTs w v ts := OwS.rd (fun _ _ _ _ h => OwT.rd _ h) h
theorem OwTs.move {w w' : World} {v : Value} {ts : List Tm} {F : List Nat} (h : OwTs w v ts F) (hs : Same F w w') : OwTs w' v ts F := OwS.move OwT.mov h hs
theorem OwLvs.move {w w' : World} {v : Value} {l : List Lv} {F : List Nat} (h : OwLvs w v l F) (hs : Same F w w') : OwLvs w' v l F := OwS.move OwLv1.mov h hs
theorem OwT.cells {w : World} {t : Tm} {cs : List Value} {F : List Nat} (h : OwT w t cs F) : ∃ A1 l1 c1 A2 l2 c2, cs = [.int .i64 t.kind, .int .i64 t.num, .int .i64 t.place, .slice A1 l1 c1, .slice A2 l2 c2] := h.rd.cells

theorem OwL.get1 {α : Type} {Q : α → Value → Prop} : ∀ {xs : List α} {inner : List Value}, OwL (fun x cs F => (∃ u, cs = [u] ∧ Q x u) ∧ F = []) 1 inner xs [] → ∀ (i : Nat) (x : α), xs[i]? = some x → ∃ u, inner[i]? = some u ∧ Q x u
  | [], _, _, i, x, hx => by simp at hx
  | y :: ys, _, ⟨cs, rest, F1, F2, h1, _, ⟨⟨u, h3, h4⟩, _⟩, h5, h6⟩, 0, x, hx => by
    simp at hx; subst hx; subst h1; subst h3
    exact ⟨u, by simp, h4⟩
  | y :: ys, _, ⟨cs, rest, F1, F2, h1, _, ⟨⟨u, h3, h4⟩, _⟩, h5, h6⟩, i + 1, x, hx => by
    have hF2 : F2 = [] := (List.append_eq_nil_iff.1 h6.symm).2
    subst hF2; subst h1; subst h3
    obtain ⟨v, g1, g2⟩ := OwL.get1 h5 i x (by simpa using hx)
    exact ⟨v, by simpa using g1, g2⟩

/-- Five cells written over a block of five. -/
def put5 (w : World) (g : Nat) (c0 c1 c2 c3 c4 : Value) : World :=
  ((((w.setCell ⟨g, 0, none⟩ c0).setCell ⟨g, 1, none⟩ c1).setCell ⟨g, 2, none⟩ c2).setCell ⟨g, 3, none⟩ c3).setCell ⟨g, 4, none⟩ c4
theorem put5_blk {w : World} {g : Nat} {d0 d1 d2 d3 d4 c0 c1 c2 c3 c4 : Value} {e : TypeId} (h : Blk w g #[d0, d1, d2, d3, d4] e) : Blk (put5 w g c0 c1 c2 c3 c4) g #[c0, c1, c2, c3, c4] e :=
  ((((h.set 0 _).set 1 _).set 2 _).set 3 _).set 4 _
theorem put5_at (w : World) (g : Nat) (c0 c1 c2 c3 c4 : Value) (b : Nat) (hb : b ≠ g) : (put5 w g c0 c1 c2 c3 c4).heap[b]? = w.heap[b]? := by
  unfold put5
  rw [Below.heap_setCell _ _ _ _ (by exact hb), Below.heap_setCell _ _ _ _ (by exact hb), Below.heap_setCell _ _ _ _ (by exact hb), Below.heap_setCell _ _ _ _ (by exact hb), Below.heap_setCell _ _ _ _ (by exact hb)]
theorem put5_same {w : World} {g : Nat} {c0 c1 c2 c3 c4 : Value} {F : List Nat} (h : ∀ b ∈ F, b ≠ g) : Same F w (put5 w g c0 c1 c2 c3 c4) := fun b hb => put5_at _ _ _ _ _ _ _ b (h b hb)
theorem put5_size (w : World) (g : Nat) (c0 c1 c2 c3 c4 : Value) : (put5 w g c0 c1 c2 c3 c4).heap.size = w.heap.size := by simp [put5, World.setCell]
theorem put5_below {N : Nat} {w w2 : World} {g : Nat} {c0 c1 c2 c3 c4 : Value} (h : Below N w w2) (hN : N ≤ g) : Below N w (put5 w2 g c0 c1 c2 c3 c4) :=
  ((((h.setCell (by exact hN) _).setCell (by exact hN) _).setCell (by exact hN) _).setCell (by exact hN) _).setCell (by exact hN) _

/-! ### New blocks, one behind the other -/
theorem blks1 (w : World) (a : Array Value) (ea : TypeId) : Blk (w.alloc (.cells a ea)) w.heap.size a ea ∧ Below w.heap.size w (w.alloc (.cells a ea)) ∧ (w.alloc (.cells a ea)).heap.size = w.heap.size + 1 :=
  ⟨Blk.new w a ea, (Below.refl _ _).alloc (Nat.le_refl _) _, by simp⟩
theorem blks2 (w : World) (a b : Array Value) (ea eb : TypeId) : Blk ((w.alloc (.cells a ea)).alloc (.cells b eb)) w.heap.size a ea ∧ Blk ((w.alloc (.cells a ea)).alloc (.cells b eb)) (w.heap.size + 1) b eb ∧
    Below w.heap.size w ((w.alloc (.cells a ea)).alloc (.cells b eb)) ∧ ((w.alloc (.cells a ea)).alloc (.cells b eb)).heap.size = w.heap.size + 2 := by
  obtain ⟨h1, h2, h3⟩ := blks1 w a ea
  obtain ⟨g1, g2, g3⟩ := blks1 (w.alloc (.cells a ea)) b eb
  exact ⟨h1.alloc _, by rw [h3] at g1; exact g1, h2.trans (g2.mono (by omega)), by omega⟩
theorem blks3 (w : World) (a b c : Array Value) (ea eb ec : TypeId) : Blk (((w.alloc (.cells a ea)).alloc (.cells b eb)).alloc (.cells c ec)) w.heap.size a ea ∧ Blk (((w.alloc (.cells a ea)).alloc (.cells b eb)).alloc (.cells c ec)) (w.heap.size + 1) b eb ∧
    Blk (((w.alloc (.cells a ea)).alloc (.cells b eb)).alloc (.cells c ec)) (w.heap.size + 1 + 1) c ec ∧ Below w.heap.size w (((w.alloc (.cells a ea)).alloc (.cells b eb)).alloc (.cells c ec)) ∧ (((w.alloc (.cells a ea)).alloc (.cells b eb)).alloc (.cells c ec)).heap.size = w.heap.size + 3 := by
  obtain ⟨h1, h2, h3, h4⟩ := blks2 w a b ea eb
  obtain ⟨g1, g2, g3⟩ := blks1 ((w.alloc (.cells a ea)).alloc (.cells b eb)) c ec
  exact ⟨h1.alloc _, h2.alloc _, by rw [h4] at g1; exact g1, h3.trans (g2.mono (by omega)), by omega⟩
theorem blks4 (w : World) (a b c d : Array Value) (ea eb ec ed : TypeId) : let W := ((((w.alloc (.cells a ea)).alloc (.cells b eb)).alloc (.cells c ec)).alloc (.cells d ed))
    Blk W w.heap.size a ea ∧ Blk W (w.heap.size + 1) b eb ∧ Blk W (w.heap.size + 1 + 1) c ec ∧ Blk W (w.heap.size + 1 + 1 + 1) d ed ∧ Below w.heap.size w W ∧ W.heap.size = w.heap.size + 4 := by
  obtain ⟨h1, h2, h3, h4, h5⟩ := blks3 w a b c ea eb ec
  obtain ⟨g1, g2, g3⟩ := blks1 (((w.alloc (.cells a ea)).alloc (.cells b eb)).alloc (.cells c ec)) d ed
  exact ⟨h1.alloc _, h2.alloc _, h3.alloc _, by rw [h5] at g1; exact g1, h4.trans (g2.mono (by omega)), by omega⟩
end Go.Proofs.YtebgldnlkkhejaaDoor

/-! ## term: small functions. -/
namespace Go.Proofs.YtebgldnlkkhejaaDoor
open Go Go.RowKit

/-! ### Binds: the table -/
def boundOf (k : Int) : Int := if k = 4 ∨ k = 5 ∨ k = 12 ∨ k = 16 ∨ k = 18 then 1 else if k = 7 then 2 else -1
def bindsB (k kid : Int) : Bool := decide (0 < k ∧ k < 25 ∧ 0 ≤ kid ∧ boundOf k = kid)
/-- The depth at a kid. -/
def deeper (k kid d : Int) : Int := if bindsB k kid then d + 1 else d
/-- What the table of kinds holds: of each kind which kid stands below its binder. -/
def Kinds (w : World) : Prop := 0 < w.heap.size ∧ ∀ k : Nat, 1 ≤ k → k < 25 → w.cell? ⟨0, k * 5 + 4, none⟩ = some (.int .i64 (boundOf k))
theorem Kinds.keeps {w w' : World} (h : Kinds w) (hb : Keeps w w') (hs : w.heap.size ≤ w'.heap.size) : Kinds w' := ⟨by have := h.1; omega, fun k h1 h2 => (hb _ _ h.1).trans (h.2 k h1 h2)⟩
theorem Kinds.below {w w' : World} (h : Kinds w) (hb : Below w.heap.size w w') : Kinds w' := h.keeps (keeps_of hb) hb.size

set_option maxRecDepth 100000 in
set_option maxHeartbeats 400000 in
theorem Binds_any (k kid : Int) (w : World) (hK : Kinds w) :
    Calls Tryd.prog 113 #[.int .i64 k, .int .i64 kid] w fun e w' => e = .returned (.bool (bindsB k kid)) ∧ w = w' := by
  by_cases h0 : 0 < k
  · by_cases h1 : k < 25
    · by_cases h2 : 0 ≤ kid
      · obtain ⟨n, rfl⟩ := Int.eq_ofNat_of_zero_le (show 0 ≤ k by omega)
        have hc := hK.2 n (by omega) (by omega)
        clear hK
        have hr := Lib.hid (show bindsB n kid = (boundOf n == kid) by simp only [bindsB]; by_cases h : boundOf n = kid <;> simp [h, h1, h2] <;> omega)
        go_enter Tryd.func113, Tryd.ntmps113
        go_wp2
        go_ret
        exact ⟨ret_bool hr.out.symm, rfl⟩
      · go_enter Tryd.func113, Tryd.ntmps113
        go_wp2
        go_ret
        exact ⟨ret_bool (decide_eq_false (by omega)).symm, rfl⟩
    · go_enter Tryd.func113, Tryd.ntmps113
      go_wp2
      go_ret
      exact ⟨ret_bool (decide_eq_false (by omega)).symm, rfl⟩
  · go_enter Tryd.func113, Tryd.ntmps113
    go_wp2
    go_ret
    exact ⟨ret_bool (decide_eq_false (by omega)).symm, rfl⟩
set_option maxRecDepth 100000 in
set_option maxHeartbeats 400000 in
theorem below_any (d k kid : Int) (fn : Fn) (first cap : Array Value) (w : World) (hK : Kinds w) (hd : 0 ≤ d) (hd' : d ≤ 4611686018427387904) :
    Calls Tryd.prog 92 #[.agg #[.int .i64 d, .func fn first cap], .int .i64 k, .int .i64 kid] w fun e w' => e = .returned (.agg #[.int .i64 (deeper k kid d), .func fn first cap]) ∧ Below w.heap.size w w' := by
  go_enter Tryd.func92, Tryd.ntmps92
  go_wp2_with fail
  refine (Binds_any _ _ _ (hK.below (((Below.refl _ _).alloc (by simp) _).alloc (by simp) _))).mono ?_
  rintro e w' ⟨rfl, rfl⟩
  cases hb : bindsB k kid
  all_goals
    have hr := Lib.hid (show deeper k kid d = _ by unfold deeper; rw [hb])
    clear hb hK
    go_wp2
  · exact bodyPost_ret (v := .agg #[.int .i64 d, .func fn first cap]) (by simp [results, Tryd.results92, go_sem]) rfl ⟨by rw [hr.out]; rfl, ((Below.refl _ _).alloc (Nat.le_refl _) _).alloc (by simp) _⟩
  · exact bodyPost_ret (v := .agg #[.int .i64 (d + 1), .func fn first cap]) (by simp [results, Tryd.results92, go_sem]) rfl ⟨by rw [hr.out]; rfl, ((Below.refl _ _).alloc (Nat.le_refl _) _).alloc (by simp) _⟩

/-- A struct result that lies in a block. -/
theorem ret_term {fn : Func} {p : Tmp} (h : fn.results = #[.cell p 30]) {tmps : Array Value} {w : World} {g : Nat} {c0 c1 c2 c3 c4 : Value} (hp : tmps.getD p undef = .pointer (some ⟨g, 0, none⟩)) (hg : Blk w g #[c0, c1, c2, c3, c4] 30) :
    (results fn tmps).run Tryd.prog w = .ok (.agg #[c0, c1, c2, c3, c4]) w :=
  results_cell_row h tmps w g 30 _ (0, 0) _ hp hg Tryd.underlying30 rfl (by simp only [List.size_toArray, List.length_cons, List.length_nil]; kernel_rfl)
/-- .. with another result behind it. -/
theorem ret_term_tmp {fn : Func} {p u : Tmp} (h : fn.results = #[.cell p 30, .tmp u]) {tmps : Array Value} {w : World} {g : Nat} {c0 c1 c2 c3 c4 x : Value} (hp : tmps.getD p undef = .pointer (some ⟨g, 0, none⟩)) (hx : tmps.getD u undef = x) (hg : Blk w g #[c0, c1, c2, c3, c4] 30) :
    (results fn tmps).run Tryd.prog w = .ok (.tuple #[.agg #[c0, c1, c2, c3, c4], x]) w := by
  have hp' : tmps[p]?.getD undef = .pointer (some ⟨g, 0, none⟩) := by simpa using hp
  have hx' : tmps[u]?.getD undef = x := by simpa using hx
  have hl := run_loadVar_row (P := Tryd.prog) w g 30 30 #[c0, c1, c2, c3, c4] (0, 0) _ hg Tryd.underlying30 rfl (by simp only [List.size_toArray, List.length_cons, List.length_nil]; kernel_rfl)
  simp [results, h, hp', hx', asAddr, hl]
/-! ### Clone -/
theorem infoPa : (Tryd.prog.info? 117).map (fun i => (i.zero, i.size, i.bytes)) = some (some (.agg #[.int .i64 0, .int .i64 0]), 2, 16) := by kernel_rfl
theorem infoLv : (Tryd.prog.info? 38).map (fun i => (i.zero, i.size, i.bytes)) = some (some (.agg #[.slice none 0 0]), 1, 24) := by kernel_rfl
theorem infoTm : (Tryd.prog.info? 30).map (fun i => (i.zero, i.size, i.bytes)) = some (some (.agg #[.int .i64 0, .int .i64 0, .int .i64 0, .slice none 0 0, .slice none 0 0]), 5, 72) := by kernel_rfl
theorem grown_lt {w : World} {e : TypeId} {sz n : Nat} {v : Value} {xs : List Value} (h : w.ownsRow 0 e sz v n xs) : ∀ k, v.ownBlock = some k → k < w.heap.size := fun k hk => (h.lt k hk).2

set_option maxRecDepth 100000 in
set_option maxHeartbeats 400000 in
theorem ClonePa_core (ad : Addr) (n c : Nat) (inner : List Value) (w : World) (hl : n ≤ 1099511627776) (hlen : inner.length = n * 2) (hcell : ∀ j u, inner[j]? = some u → w.cell? (ad.add j) = some u) (hone : ∀ u ∈ inner, u.oneCell' = true) :
    Calls Tryd.prog 91 #[.slice (some ad) n c] w fun e w' => ∃ A c', e = .returned (.slice A n c') ∧ w'.ownsRow 0 117 2 (.slice A n c') n inner ∧
      (∀ k, (Value.slice A n c').ownBlock = some k → w.heap.size ≤ k ∧ k < w'.heap.size) ∧ Below w.heap.size w w' := by
  obtain ⟨i0, hi, hz0, hz1, hz2⟩ := info_parts infoPa
  have hnil := @Lib.run_eql_slice_nil Tryd.prog
  have hcell' : ∀ j u, inner[j]? = some u → (w.alloc (.cells #[] 117)).cell? (ad.add j) = some u := fun j u hj => by
    have := hcell j u hj
    rw [World.cell?_of_block (Below.heap_alloc w _ _ (World.block_lt_of_cell? w _ this))]; exact this
  clear hcell
  go_enter Tryd.func91, Tryd.ntmps91
  go_wp2_with (at_builtin; refine wpList_append_own_at _ rfl (.tmp 5) (.tmp 6) 36 rfl 0 117 i0 _ 2 16 Tryd.underlying36 hi hz0 hz1 hz2 rfl (by decide) (.slice (some ⟨w.heap.size, 0, none⟩) 0 0) 0 [] rfl (World.ownsRow_lit w #[] 0 (Nat.zero_le _) (by simp [maxLen]) (by simp)) ad n c inner rfl hlen hcell' hone (by simp only [maxLen]; omega) (by omega) (Nat.zero_le _) ?_; intro v1 w1 hown1 hg1 _ hat1)
  clear hcell' hone hlen hnil
  rw [Nat.zero_add, List.nil_append] at hown1
  obtain ⟨A1, c1, rfl⟩ := own_slice hown1
  go_wp2
  go_ret
  have hs := hg1.size
  simp at hs
  refine ⟨_, _, rfl, hown1, fun k hk => ⟨?_, (hown1.lt k hk).2⟩, ((Below.refl _ _).alloc (Nat.le_refl _) _).grown hg1 (by simp) (by simp [Value.ownBlock])⟩
  rcases hat1 with h | h
  · rw [hk] at h; simp [Value.ownBlock] at h; omega
  · rw [hk] at h; simp at h; omega
set_option maxRecDepth 100000 in
theorem ClonePa_nil (c : Nat) (w : World) :
    Calls Tryd.prog 91 #[.slice none 0 c] w fun e w' => e = .returned (.slice none 0 0) ∧ w = w' := by
  have hnil := @Lib.run_eql_slice_nil Tryd.prog
  go_enter Tryd.func91, Tryd.ntmps91
  go_wp2
  go_ret
  exact ⟨rfl, rfl⟩
set_option maxRecDepth 100000 in
set_option maxHeartbeats 400000 in
theorem CloneLv_core (ad : Addr) (n c : Nat) (inner : List Value) (w : World) (hl : n ≤ 1099511627776) (hlen : inner.length = n * 1) (hcell : ∀ j u, inner[j]? = some u → w.cell? (ad.add j) = some u) (hone : ∀ u ∈ inner, u.oneCell' = true) :
    Calls Tryd.prog 90 #[.slice (some ad) n c] w fun e w' => ∃ A c', e = .returned (.slice A n c') ∧ w'.ownsRow 0 38 1 (.slice A n c') n inner ∧
      (∀ k, (Value.slice A n c').ownBlock = some k → w.heap.size ≤ k ∧ k < w'.heap.size) ∧ Below w.heap.size w w' := by
  obtain ⟨i0, hi, hz0, hz1, hz2⟩ := info_parts infoLv
  have hnil := @Lib.run_eql_slice_nil Tryd.prog
  have hcell' : ∀ j u, inner[j]? = some u → (w.alloc (.cells #[] 38)).cell? (ad.add j) = some u := fun j u hj => by
    have := hcell j u hj
    rw [World.cell?_of_block (Below.heap_alloc w _ _ (World.block_lt_of_cell? w _ this))]; exact this
  clear hcell
  go_enter Tryd.func90, Tryd.ntmps90
  go_wp2_with (at_builtin; refine wpList_append_own_at _ rfl (.tmp 5) (.tmp 6) 27 rfl 0 38 i0 _ 1 24 Tryd.underlying27 hi hz0 hz1 hz2 rfl (by decide) (.slice (some ⟨w.heap.size, 0, none⟩) 0 0) 0 [] rfl (World.ownsRow_lit w #[] 0 (Nat.zero_le _) (by simp [maxLen]) (by simp)) ad n c inner rfl hlen hcell' hone (by simp only [maxLen]; omega) (by omega) (Nat.zero_le _) ?_; intro v1 w1 hown1 hg1 _ hat1)
  clear hcell' hone hlen hnil
  rw [Nat.zero_add, List.nil_append] at hown1
  obtain ⟨A1, c1, rfl⟩ := own_slice hown1
  go_wp2
  go_ret
  have hs := hg1.size
  simp at hs
  refine ⟨_, _, rfl, hown1, fun k hk => ⟨?_, (hown1.lt k hk).2⟩, ((Below.refl _ _).alloc (Nat.le_refl _) _).grown hg1 (by simp) (by simp [Value.ownBlock])⟩
  rcases hat1 with h | h
  · rw [hk] at h; simp [Value.ownBlock] at h; omega
  · rw [hk] at h; simp at h; omega
set_option maxRecDepth 100000 in
theorem CloneLv_nil (c : Nat) (w : World) :
    Calls Tryd.prog 90 #[.slice none 0 c] w fun e w' => e = .returned (.slice none 0 0) ∧ w = w' := by
  have hnil := @Lib.run_eql_slice_nil Tryd.prog
  go_enter Tryd.func90, Tryd.ntmps90
  go_wp2
  go_ret
  exact ⟨rfl, rfl⟩

theorem one_pa {inner : List Value} {l : Lv} (h : OwL (fun x cs F => RPa x cs ∧ F = []) 2 inner l []) : ∀ u ∈ inner, u.oneCell' = true :=
  h.mem (fun x cs F h u hu => by rw [show cs = _ from h.1] at hu; simp at hu; rcases hu with rfl | rfl <;> rfl)
theorem ClonePa_any (l : Lv) (v : Value) (w : World) (h : RdLv w v l) (hl : l.length ≤ 1099511627776) :
    Calls Tryd.prog 91 #[v] w fun e w' => ∃ A n c F, e = .returned (.slice A n c) ∧ OwLv w' (.slice A n c) l F ∧ Fr w.heap.size w' F ∧ Below w.heap.size w w' := by
  obtain ⟨A, c, rfl, hc, hm, hr⟩ := h
  rcases A with _ | ad
  · rcases hr with rfl | ⟨b, o, hA, _⟩
    · refine (ClonePa_nil c w).mono ?_
      rintro e w' ⟨rfl, rfl⟩
      exact ⟨_, _, _, [], rfl, OwS.nil _ _ _ _, Fr.nil _ _, Below.refl _ _⟩
    · cases hA
  · obtain ⟨inner, hin, hlen, hcell⟩ := RdS.inner hr
    refine (ClonePa_core ad l.length c inner w hl hlen hcell (one_pa hin)).mono ?_
    rintro e w' ⟨A, c', rfl, h1, h2, h3⟩
    exact ⟨_, _, _, _, rfl, OwS.of_row h1 hin, Fr.one h2, h3⟩
theorem one_lv {w : World} {inner : List Value} {l : List Lv} (h : OwL (fun x cs F => (∃ u, cs = [u] ∧ RdLv w u x) ∧ F = []) 1 inner l []) : ∀ u ∈ inner, u.oneCell' = true :=
  h.mem (fun x cs F h u hu => by obtain ⟨⟨u', rfl, A, c, rfl, _⟩, _⟩ := h; simp at hu; rw [hu]; rfl)
theorem CloneLv_any (lv : List Lv) (v : Value) (w w0 : World) (h : RdLvs w0 v lv) (hk : Keeps w0 w) (hl : lv.length ≤ 1099511627776) :
    Calls Tryd.prog 90 #[v] w fun e w' => ∃ A c inner, e = .returned (.slice A lv.length c) ∧ w'.ownsRow 0 38 1 (.slice A lv.length c) lv.length inner ∧
      OwL (fun x cs F => (∃ u, cs = [u] ∧ RdLv w0 u x) ∧ F = []) 1 inner lv [] ∧ (∀ k, (Value.slice A lv.length c).ownBlock = some k → w.heap.size ≤ k ∧ k < w'.heap.size) ∧ Below w.heap.size w w' := by
  obtain ⟨A, c, rfl, hc, hm, hr⟩ := h
  rcases A with _ | ad
  · rcases hr with rfl | ⟨b, o, hA, _⟩
    · refine (CloneLv_nil c w).mono ?_
      rintro e w' ⟨rfl, rfl⟩
      exact ⟨none, 0, [], rfl, World.ownsRow_nil _ _ _ _, ⟨rfl, rfl⟩, by simp [Value.ownBlock], Below.refl _ _⟩
    · cases hA
  · obtain ⟨inner, hin, hlen, hcell⟩ := RdS.inner hr
    refine (CloneLv_core ad lv.length c inner w hl hlen (fun j u hj => ?_) (one_lv hin)).mono ?_
    · have h1 := hcell j u hj
      have h2 : w.cell? (ad.add j) = w0.cell? (ad.add j) := by
        have := hk (ad.add j).block (ad.add j).off (World.block_lt_of_cell? w0 _ h1)
        rcases hr with rfl | ⟨b, o, hA, _⟩
        · have := (List.getElem?_eq_some_iff.1 hj).1; simp at hlen; subst hlen; simp at this
        · injection hA with hA; subst hA; rw [addr0] at this ⊢; exact this
      rw [h2]; exact h1
    · rintro e w' ⟨A, c', rfl, h1, h2, h3⟩
      exact ⟨A, c', inner, rfl, h1, hin, h2, h3⟩
end Go.Proofs.YtebgldnlkkhejaaDoor

/-! ## term: own, Lift. -/
namespace Go.Proofs.YtebgldnlkkhejaaDoor
open Go Go.RowKit Go.Proofs.YtebgldnlkkhejaaDoorW.PrintLast

/-- Bounds that let every list be made: no list longer than 2^40. -/
def Okl (lv : List Lv) : Prop := lv.length ≤ 1099511627776 ∧ ∀ l ∈ lv, l.length ≤ 1099511627776

/-- own's loop: the first j levels have been made anew. -/
def OwnInv (w : World) (B : Nat) (cs1 cs2 : Array Value) (v1 : Value) (lv : List Lv) (inner : List Value) (wr : World) (j : Nat) : Prop :=
  ∃ innerD F, Below w.heap.size w wr ∧ Blk wr B cs1 30 ∧ Blk wr (B + 1) cs2 30 ∧ wr.ownsRow 0 38 1 v1 lv.length (innerD ++ inner.drop j) ∧
    OwL (OwLv1 wr) 1 innerD (lv.take j) F ∧ Fr (B + 2) wr (v1.ownBlock.toList ++ F)

theorem OwnInv.step {w : World} {B : Nat} {cs1 cs2 : Array Value} {g n cap : Nat} {lv : List Lv} {inner : List Value} {wr w2 : World} {j : Nat} {v' : Value} {F' : List Nat}
    (h : OwnInv w B cs1 cs2 (.slice (some ⟨g, 0, none⟩) n cap) lv inner wr j) (hn : n = lv.length) (hB : w.heap.size ≤ B) (hlt : j < lv.length) (hil : inner.length = lv.length)
    (hb2 : Below wr.heap.size wr w2) (hO : OwLv w2 v' lv[j] F') (hF2 : Fr wr.heap.size w2 F') :
    OwnInv w B cs1 cs2 (.slice (some ⟨g, 0, none⟩) n cap) lv inner (w2.setCell ⟨g, j, none⟩ v') (j + 1) := by
  subst hn
  obtain ⟨innerD, F, hb, hk1, hk2, hown, hD, hF⟩ := h
  have hdl := hD.length
  rw [List.length_take, Nat.min_eq_left (Nat.le_of_lt hlt), Nat.mul_one] at hdl
  have hgF := hF.2 g (by simp [Value.ownBlock])
  have hnd := List.nodup_append.1 hF.1
  have hown2 := ownsRow_move hown (w1 := w2) (fun k hk => hb2.block k (by have : k = g := by simpa [Value.ownBlock] using hk.symm
                                                                          omega))
  have hs := (hown2.stored j v').1
  have hD2 : OwL (OwLv1 w2) 1 innerD (lv.take j) F := hD.imp (fun x cs G _ hG h => OwLv1.mov _ _ _ _ _ (fun b hm => hb2.block b (hF.2 b (List.mem_append_right _ (hG b hm))).2) h)
  have hS : Same (F ++ F') w2 (w2.setCell ⟨g, j, none⟩ v') := fun b hm => Below.heap_setCell _ _ _ _ (by
    intro e
    have e : b = g := e
    subst e
    rcases List.mem_append.1 hm with hm | hm
    · exact hnd.2.2 b (by simp [Value.ownBlock]) b hm rfl
    · have := hF2.2 b hm; omega)
  refine ⟨innerD ++ [v'], F ++ F', (hb.trans (hb2.mono hb.size)).setCell (by show w.heap.size ≤ g; omega) _, ((hk1.below hb2).far (by show B ≠ g; omega) _), ((hk2.below hb2).far (by show B + 1 ≠ g; omega) _), ?_, ?_, ?_⟩
  · have e : (innerD ++ inner.drop j).set j v' = innerD ++ [v'] ++ inner.drop (j + 1) := by
      rw [List.set_append_right _ _ (by omega), hdl, Nat.sub_self, show inner.drop j = inner[j] :: inner.drop (j + 1) from List.drop_eq_getElem_cons (by omega), List.set_cons_zero]
      simp
    rw [← e]
    exact hs
  · rw [List.take_succ_eq_append_getElem hlt]
    exact ((hD2.imp (fun x cs G _ hG h => OwLv1.mov _ _ _ _ _ (fun b hm => hS b (List.mem_append_left _ (hG b hm))) h)).snoc (OwLv1.mov _ _ _ _ _ hS.right ⟨v', rfl, hO⟩) rfl)
  · rw [← List.append_assoc]
    have := hF.append hF2 hb2.size (by have := hk2.lt; omega)
    exact this.mono (Nat.le_refl _) (by simp [World.setCell])
set_option maxRecDepth 100000 in
set_option maxHeartbeats 1000000 in
theorem own_any (k n a : Int) (vl : Value) (A2 : Option Addr) (l2 c2 : Nat) (lv : List Lv) (w : World) (h : RdLvs w vl lv) (hok : Okl lv) :
    Calls Tryd.prog 62 #[.agg #[.int .i64 k, .int .i64 n, .int .i64 a, vl, .slice A2 l2 c2]] w fun e w' => ∃ A1 l1 c1 F, e = .returned (.agg #[.int .i64 k, .int .i64 n, .int .i64 a, .slice A1 l1 c1, .slice A2 l2 c2]) ∧ OwLvs w' (.slice A1 l1 c1) lv F ∧ Fr w.heap.size w' F ∧ Below w.heap.size w w' := by
  obtain ⟨A, c, rfl, hc, hm, hr⟩ := id h
  have hn : (lv.length : Int) ≤ 9223372036854775807 := by omega
  have HH := Lib.hid h
  have HOK := Lib.hid hok
  clear hr hm hc h hok
  go_enter Tryd.func62, Tryd.ntmps62
  go_wp2_with fail
  refine (CloneLv_any lv _ _ w HH.out (keeps_of (((Below.refl _ _).alloc (Nat.le_refl _) _).alloc (by simp) _)) HOK.out.1).mono ?_
  rintro e w1 ⟨A1, c1, inner, rfl, hown, hin, hlo, hb1⟩
  have HB := Lib.hid (((Below.refl w.heap.size w).alloc (Nat.le_refl _) _).alloc (by simp) _ |>.trans (hb1.mono (by simp; omega)))
  have HI := Lib.hid hin
  have HO := Lib.hid hown
  have HL := Lib.hid hlo
  have hk1 := ((Blk.new w _ _).alloc _).below hb1
  have hk2 : Blk w1 (w.heap.size + 1) _ _ := (show Blk _ (w.heap.size + 1) _ _ from by have := Blk.new (w.alloc (.cells #[.int .i64 k, .int .i64 n, .int .i64 a, .slice A lv.length c, .slice A2 l2 c2] 30)) #[.int .i64 0, .int .i64 0, .int .i64 0, .slice none 0 0, .slice none 0 0] 30; simpa using this).below hb1
  have hk1c := hk1.cell
  have hk1f := hk1.frozen
  have K1 := Lib.hid hk1
  have K2 := Lib.hid hk2
  clear hin hown hlo hb1 hk1 hk2
  go_wp2_with fail
  go_loopw [11] (fun i wr => ∃ j : Nat, j ≤ lv.length ∧ i = .int .i64 j ∧
      OwnInv w w.heap.size #[.int .i64 k, .int .i64 n, .int .i64 a, .slice A1 lv.length c1, .slice A2 l2 c2] #[.int .i64 0, .int .i64 0, .int .i64 0, .slice none 0 0, .slice none 0 0] (.slice A1 lv.length c1) lv inner wr j) (fun i _ => lv.length - (intOf i).toNat)
  case atStart =>
    refine ⟨0, by omega, rfl, [], [], HB.out.setCell (by simp) _, K1.out.set _ _, K2.out.far (by simp) _, ?_, ⟨by simp, rfl⟩, ?_⟩
    · have hl := HL.out
      refine ownsRow_move HO.out (fun b hb => Below.heap_setCell _ _ _ _ ?_)
      have := (hl b hb).1; simp at this ⊢; omega
    · rw [List.append_nil]
      have hl := HL.out
      exact (Fr.one (fun b hb => by have := hl b hb; simp at this; exact this)).mono (by omega) (by simp)
  case round =>
    obtain ⟨j, hj, rfl, hinv⟩ := hrel
    clear hk1c hk1f HB HO HL K1 K2
    have HV := Lib.hid hinv
    clear hinv
    by_cases hlt : j < lv.length
    · obtain ⟨innerD, F, hb, hk1, hk2, hown, hD, hF⟩ := HV.out
      have hil := (OwL.length HI.out)
      have hdl := hD.length
      rw [List.length_take, Nat.min_eq_left hj, Nat.mul_one] at hdl
      obtain ⟨g, cap, he, hgb, hgl⟩ := hown.form (by omega)
      injection he with he1 he2 he3
      subst he1 he3
      obtain ⟨u, hu⟩ : ∃ u, inner[j]? = some u := ⟨_, List.getElem?_eq_getElem (by omega)⟩
      obtain ⟨u', hur⟩ := OwL.get1 HI.out j lv[j] (List.getElem?_eq_getElem hlt)
      obtain ⟨hu1, hrd⟩ := hur
      rw [hu] at hu1
      injection hu1 with hu1
      subst hu1
      obtain ⟨Au, cu, rfl, hcu⟩ := id hrd
      have hcell : wr.cell? ⟨g, j, none⟩ = some (.slice Au (lv[j]).length cu) := by
        rw [hown.cellAt j (by omega), List.getElem?_append_right (by omega), List.getElem?_drop, hdl, Nat.sub_self, Nat.add_zero]; exact hu
      have hg0 := (hF.2 g (by simp [Value.ownBlock])).1
      have hfz := hown.frozenAt
      have hcB := hk1.cell
      have hj0 : (0 : Int) ≤ (j : Int) := Int.natCast_nonneg _
      have hj1 : (j : Int) < (lv.length : Int) := by omega
      have HC := Lib.hid (fun W (hW : Keeps w W) => ClonePa_any lv[j] _ W (hrd.below hW) (HOK.out.2 _ (List.getElem_mem hlt)))
      have HE := Lib.hid (And.intro hb (And.intro hk1 (And.intro hk2 (And.intro hown (And.intro hD (And.intro hF (And.intro hdl hil)))))))
      have hbs := hb.size
      have hws := hk1.lt
      have hgl' : g < wr.heap.size := hgl
      have hkw := keeps_of hb
      clear hb hk1 hk2 hown hD hF hdl hil hu hrd hcu hkw
      go_wp2_with fail
      refine start_ (n := 13) (S := fun W => ∀ b o, b < wr.heap.size → W.cell? ⟨b, o, none⟩ = wr.cell? ⟨b, o, none⟩) (ds := [12]) #[false, false, false, false, false, false, false, false, false, false, false, false, false] (by kernel_rfl) rfl rfl (by exact (fun _ _ _ => rfl)) (fun hHeld => ?_)
      refine take_ (i := 0) (N := some 14) (v := ?_) (a' := ?_) #[true, false, false, false, false, false, false, false, false, false, false, false, false] rfl rfl (by kernel_rfl) (fun _ _ _ h => h) (Or.inl ⟨by rfl, ?_⟩) hHeld ?_ ?_
      rotate_left
      · rintro w' hS'
        go_simp
        with_reducible rfl
      rotate_left
      · simp only [Act.put, List.setIfInBounds_toArray, List.set_cons_zero, List.set_cons_succ]
        rfl
      refine take_ (i := 1) (N := some 15) (v := ?_) (a' := ?_) #[true, true, false, false, false, false, false, false, false, false, false, false, false] rfl rfl (by kernel_rfl) (fun _ _ _ h => h) (Or.inl ⟨by rfl, ?_⟩) hHeld ?_ ?_
      rotate_left
      · rintro w' hS'
        go_simp
        with_reducible rfl
      rotate_left
      · simp only [Act.put, List.setIfInBounds_toArray, List.set_cons_zero, List.set_cons_succ]
        rfl
      refine take_ (i := 2) (N := some 16) (v := ?_) (a' := ?_) #[true, true, true, false, false, false, false, false, false, false, false, false, false] rfl rfl (by kernel_rfl) (fun _ _ _ h => h) (Or.inl ⟨by rfl, ?_⟩) hHeld ?_ ?_
      rotate_left
      · rintro w' hS'
        go_simp
        with_reducible rfl
      rotate_left
      · simp only [Act.put, List.setIfInBounds_toArray, List.set_cons_zero, List.set_cons_succ]
        rfl
      refine take_ (i := 3) (N := some 17) (v := ?_) (a' := ?_) #[true, true, true, true, false, false, false, false, false, false, false, false, false] rfl rfl (by kernel_rfl) (fun _ _ _ h => h) (Or.inl ⟨by rfl, ?_⟩) hHeld ?_ ?_
      rotate_left
      · rintro w' hS'
        go_simp
        with_reducible rfl
      rotate_left
      · simp only [Act.put, List.setIfInBounds_toArray, List.set_cons_zero, List.set_cons_succ]
        rfl
      refine take_ (i := 4) (N := some 18) (v := ?_) (a' := ?_) #[true, true, true, true, true, false, false, false, false, false, false, false, false] rfl rfl (by kernel_rfl) (fun _ _ _ h => h) (Or.inl ⟨by rfl, ?_⟩) hHeld ?_ ?_
      rotate_left
      · rintro w' hS'
        go_simp
        with_reducible rfl
      rotate_left
      · simp only [Act.put, List.setIfInBounds_toArray, List.set_cons_zero, List.set_cons_succ]
        rfl
      refine take_ (i := 5) (N := some 19) (v := ?_) (a' := ?_) #[true, true, true, true, true, true, false, false, false, false, false, false, false] rfl rfl (by kernel_rfl) (fun _ _ _ h => h) (Or.inl ⟨by rfl, ?_⟩) hHeld ?_ ?_
      rotate_left
      · rintro w' hS'
        go_simp
        with_reducible rfl
      rotate_left
      · simp only [Act.put, List.setIfInBounds_toArray, List.set_cons_zero, List.set_cons_succ]
        rfl
      refine take_ (i := 6) (N := some 20) (v := ?_) (a' := ?_) #[true, true, true, true, true, true, true, false, false, false, false, false, false] rfl rfl (by kernel_rfl) (fun _ _ _ h => h) (Or.inl ⟨by rfl, ?_⟩) hHeld ?_ ?_
      rotate_left
      · rintro w' hS'
        go_simp
        with_reducible rfl
      rotate_left
      · simp only [Act.put, List.setIfInBounds_toArray, List.set_cons_zero, List.set_cons_succ]
        rfl
      refine take_ (i := 7) (N := some 21) (v := ?_) (a' := ?_) #[true, true, true, true, true, true, true, true, false, false, false, false, false] rfl rfl (by kernel_rfl) (fun _ _ _ h => h) (Or.inl ⟨by rfl, ?_⟩) hHeld ?_ ?_
      rotate_left
      · rintro w' hS'
        go_simp
        with_reducible rfl
      rotate_left
      · simp only [Act.put, List.setIfInBounds_toArray, List.set_cons_zero, List.set_cons_succ]
        rfl
      refine take_ (i := 8) (N := some 22) (v := ?_) (a' := ?_) #[true, true, true, true, true, true, true, true, true, false, false, false, false] rfl rfl (by kernel_rfl) (fun _ _ _ h => h) (Or.inl ⟨by rfl, ?_⟩) hHeld ?_ ?_
      rotate_left
      · rintro w' hS'
        go_simp
        with_reducible rfl
      rotate_left
      · simp only [Act.put, List.setIfInBounds_toArray, List.set_cons_zero, List.set_cons_succ]
        rfl
      refine one_ (i := 9) (N := some 23) #[true, true, true, true, true, true, true, true, true, true, false, false, false] rfl rfl (by kernel_rfl) (by decide) (fun K hK => ?_)
      go_simp
      refine (HC.out _ (Keeps.trans (keeps_of HE.out.1) HE.out.1.size hHeld)).mono ?_
      rintro e w2 ⟨A2', n2', c2', F2', rfl, hO2, hF2, hb2⟩
      obtain ⟨hc2, hf2⟩ := bcell (undrew hb2)
      refine hK.out _ _ hc2 (fun hHeld => ?_)
      clear hK K
      refine norm_ (a' := ?_) ?_ ?_
      rotate_left
      · first
          | rfl
          | (simp only [Act.put, List.setIfInBounds_toArray, List.set_cons_zero, List.set_cons_succ]; rfl)
      refine take_ (i := 10) (N := some 24) (v := ?_) (a' := ?_) #[true, true, true, true, true, true, true, true, true, true, true, false, false] rfl rfl (by kernel_rfl) (fun _ _ _ h => h) (Or.inl ⟨by rfl, ?_⟩) hHeld ?_ ?_
      rotate_left
      · rintro w' hS'
        go_simp
        with_reducible rfl
      rotate_left
      · simp only [Act.put, List.setIfInBounds_toArray, List.set_cons_zero, List.set_cons_succ]
        rfl
      refine take_ (i := 11) (N := some 25) (v := ?_) (a' := ?_) #[true, true, true, true, true, true, true, true, true, true, true, true, false] rfl rfl (by kernel_rfl) (fun _ _ _ h => h) (Or.inl ⟨by rfl, ?_⟩) hHeld ?_ ?_
      rotate_left
      · rintro w' hS'
        go_simp
        with_reducible rfl
      rotate_left
      · simp only [Act.put, List.setIfInBounds_toArray, List.set_cons_zero, List.set_cons_succ]
        rfl
      refine last_ (i := 12) (N := none) #[true, true, true, true, true, true, true, true, true, true, true, true, true] rfl rfl (by kernel_rfl) (by decide) (fun K hK => ?_)
      go_simp
      refine hK.out _ _ ?_
      clear hK K
      refine norm_ (a' := ?_) ?_ ?_
      rotate_left
      · first
          | rfl
          | (simp only [Act.put, List.setIfInBounds_toArray, List.set_cons_zero, List.set_cons_succ]; rfl)
      refine done_ (by kernel_rfl) ?_
      go_wp2
      go_roundw
      case rel => exact ⟨j + 1, by omega, by go_num, HV.out.step rfl (Nat.le_refl _) hlt (by have := OwL.length HI.out; omega) (undrew hb2) hO2 hF2⟩
      case measure => simp [intOf]; omega
    · obtain ⟨innerD, F, hb, hk1, hk2, hown, hD, hF⟩ := HV.out
      have hc1 := hk1.cell
      have hc2 := hk2.cell
      have hf2 := hk2.frozen
      have KK := Lib.hid hk2
      have HB := Lib.hid hb
      have HO := Lib.hid (And.intro hown (And.intro hD hF))
      clear hb hown hk2 hD hF hk1
      go_wp2
      clear hc1 hc2 hf2
      obtain ⟨hown, hD, hF⟩ := HO.out
      have hj' : j = lv.length := by omega
      subst hj'
      have hl := (OwL.length HI.out)
      rw [List.drop_of_length_le (by omega), List.append_nil] at hown
      rw [List.take_length] at hD
      have hfar : ∀ (W : World) (v : Value) (i : Nat), Same ((Value.slice A1 lv.length c1).ownBlock.toList ++ F) W (W.setCell ⟨w.heap.size + 1, i, none⟩ v) := fun W v i b hb => Below.heap_setCell _ _ _ _ (by have := (hF.2 b hb).1; simp; omega)
      have hO : OwLvs wr (.slice A1 lv.length c1) lv ((Value.slice A1 lv.length c1).ownBlock.toList ++ F) := ⟨innerD, F, hown, hD, rfl⟩
      refine bodyPost_ret (ret_term Tryd.results62 (g := w.heap.size + 1) rfl ((((((KK.out.set 0 _).set 1 _).set 2 _).set 3 _).set 4 _))) rfl
        ⟨_, _, _, _, rfl, ((((hO.move (hfar _ _ _)).move (hfar _ _ _)).move (hfar _ _ _)).move (hfar _ _ _)).move (hfar _ _ _), hF.mono (by omega) (by simp [World.setCell]), ?_⟩
      exact ((((HB.out.setCell (by simp) _).setCell (by simp) _).setCell (by simp) _).setCell (by simp) _).setCell (by simp) _
end Go.Proofs.YtebgldnlkkhejaaDoor

/-! ## term: means, Lift$1. -/
namespace Go.Proofs.YtebgldnlkkhejaaDoor
open Go Go.RowKit Go.Proofs.YtebgldnlkkhejaaDoorW.PrintLast

set_option maxRecDepth 100000 in
set_option maxHeartbeats 400000 in
theorem means_any (d num : Int) (w : World) :
    Calls Tryd.prog 61 #[.agg #[.int .i64 d], .int .i64 num] w fun e w' => e = .returned (.tuple #[.int .i64 (wrap64 (num - d)), .bool (decide (d ≤ num))]) ∧ Below w.heap.size w w' := by
  go_enter Tryd.func61, Tryd.ntmps61
  go_wp2_with fail
  go_quiet (fail)
  go_wp2
  go_ret2
  exact ⟨rfl, ((Below.refl _ _).alloc (Nat.le_refl _) _).trans ⟨rfl, rfl, rfl, Nat.le_refl _, fun _ _ => rfl⟩⟩

/-- A function's end: a term of its own, put into the block of its result. -/
theorem term_end {fn : Func} {p : Tmp} (h : fn.results = #[.cell p 30]) {a0 : Act} {w w2 : World} {g lo : Nat} {d0 d1 d2 d3 d4 c0 c1 c2 c3 c4 : Value} {t : Tm} {F : List Nat}
    (hp : a0.tmps.getD p undef = .pointer (some ⟨g, 0, none⟩)) (hg : Blk w2 g #[d0, d1, d2, d3, d4] 30) (hO : OwT w2 t [c0, c1, c2, c3, c4] F) (hF : Fr lo w2 F) (hlo : w.heap.size ≤ lo) (hgF : ∀ b ∈ F, b ≠ g)
    (hb : Below w.heap.size w w2) (hg0 : w.heap.size ≤ g) (hd : a0.defers = []) :
    bodyPost Tryd.prog fn (fun e w' => ∃ cs F, e = Ending.returned (.agg cs.toArray) ∧ OwT w' t cs F ∧ Fr w.heap.size w' F ∧ Below w.heap.size w w') Exit.ret a0 (put5 w2 g c0 c1 c2 c3 c4) := by
  exact bodyPost_ret (ret_term h hp (put5_blk hg)) hd ⟨_, _, rfl, OwT.mov _ _ _ _ _ (put5_same hgF) hO, hF.mono hlo (by rw [put5_size]; exact Nat.le_refl _), put5_below hb hg0⟩
/-- .. a new block behind it (the walk moves 'alloc' outward). -/
theorem term_end1 {fn : Func} {p : Tmp} (h : fn.results = #[.cell p 30]) {a0 : Act} {w w2 : World} {g lo : Nat} {d0 d1 d2 d3 d4 c0 c1 c2 c3 c4 : Value} {t : Tm} {F : List Nat} {o : Obj}
    (hp : a0.tmps.getD p undef = .pointer (some ⟨g, 0, none⟩)) (hg : Blk w2 g #[d0, d1, d2, d3, d4] 30) (hO : OwT w2 t [c0, c1, c2, c3, c4] F) (hF : Fr lo w2 F) (hlo : w.heap.size ≤ lo) (hgF : ∀ b ∈ F, b ≠ g)
    (hb : Below w.heap.size w w2) (hg0 : w.heap.size ≤ g) (hd : a0.defers = []) :
    bodyPost Tryd.prog fn (fun e w' => ∃ cs F, e = Ending.returned (.agg cs.toArray) ∧ OwT w' t cs F ∧ Fr w.heap.size w' F ∧ Below w.heap.size w w') Exit.ret a0 ((put5 w2 g c0 c1 c2 c3 c4).alloc o) := by
  have hbA : Below (put5 w2 g c0 c1 c2 c3 c4).heap.size (put5 w2 g c0 c1 c2 c3 c4) ((put5 w2 g c0 c1 c2 c3 c4).alloc o) := (Below.refl _ _).alloc (Nat.le_refl _) o
  have hF2 : Fr w.heap.size (put5 w2 g c0 c1 c2 c3 c4) F := hF.mono hlo (by rw [put5_size]; exact Nat.le_refl _)
  have hB2 : Below w.heap.size w (put5 w2 g c0 c1 c2 c3 c4) := put5_below hb hg0
  exact bodyPost_ret (ret_term h hp ((put5_blk hg).below hbA)) hd ⟨_, _, rfl, OwT.mov _ _ _ _ _ (Same.of_below hF2 hbA) (OwT.mov _ _ _ _ _ (put5_same hgF) hO), hF2.mono (Nat.le_refl _) hbA.size, hB2.trans (hbA.mono hB2.size)⟩
/-- The ends of Lift$1. -/
theorem liftFn_end {fn : Func} (h : fn.results = #[.cell 6 30, .tmp 7]) {a0 : Act} {w w1 w2 : World} {g : Nat} {d0 d1 d2 d3 d4 : Value} {k num num' a : Int} {A1 A2 : Option Addr} {l1 c1 l2 c2 : Nat} {lv : List Lv} {F : List Nat}
    (hp : a0.tmps.getD 6 undef = .pointer (some ⟨g, 0, none⟩)) (hx : a0.tmps.getD 7 undef = .bool false) (hnum : num = num') (hg : Blk w2 g #[d0, d1, d2, d3, d4] 30) (hO : OwLvs w2 (.slice A1 l1 c1) lv F) (hF : Fr w1.heap.size w2 F) (hb1 : Below w1.heap.size w1 w2)
    (hb : Below w.heap.size w w1) (hg0 : w.heap.size ≤ g) (hg1 : g < w1.heap.size) (hd : a0.defers = []) :
    bodyPost Tryd.prog fn (fun e w' => ∃ A1 l1 c1 F, e = Ending.returned (.tuple #[.agg #[.int .i64 k, .int .i64 num', .int .i64 a, .slice A1 l1 c1, .slice A2 l2 c2], .bool false]) ∧ OwLvs w' (.slice A1 l1 c1) lv F ∧ Fr w.heap.size w' F ∧ Below w.heap.size w w')
      Exit.ret a0 (put5 w2 g (.int .i64 k) (.int .i64 num) (.int .i64 a) (.slice A1 l1 c1) (.slice A2 l2 c2)) := by
  subst hnum
  have hs := hb.size
  refine bodyPost_ret (ret_term_tmp h hp hx (put5_blk hg)) hd ⟨_, _, _, _, rfl, hO.move (put5_same (fun b hbm => by have := hF.2 b hbm; omega)), hF.mono (by omega) (by rw [put5_size]; exact Nat.le_refl _), put5_below (hb.trans (hb1.mono hs)) hg0⟩
/-- A lifted variable's number, at a depth. -/
def liftNum (n frm d k num : Int) : Int := if k = 1 ∧ d ≤ num ∧ frm ≤ wrap64 (num - d) then wrap64 (num + n) else num
set_option maxRecDepth 100000 in
set_option maxHeartbeats 400000 in
theorem liftFn_any (n frm d k num a : Int) (vl : Value) (A2 : Option Addr) (l2 c2 : Nat) (lv : List Lv) (fn : Fn) (first cap : Array Value) (bf bn : Nat) (w : World) (h : RdLvs w vl lv) (hok : Okl lv)
    (hf : w.cell? ⟨bf, 0, none⟩ = some (.int .i64 frm)) (hn : w.cell? ⟨bn, 0, none⟩ = some (.int .i64 n)) :
    Calls Tryd.prog 64 #[.agg #[.int .i64 d, .func fn first cap], .agg #[.int .i64 k, .int .i64 num, .int .i64 a, vl, .slice A2 l2 c2], .pointer (some ⟨bf, 0, none⟩), .pointer (some ⟨bn, 0, none⟩)] w fun e w' =>
      ∃ A1 l1 c1 F, e = .returned (.tuple #[.agg #[.int .i64 k, .int .i64 (liftNum n frm d k num), .int .i64 a, .slice A1 l1 c1, .slice A2 l2 c2], .bool false]) ∧ OwLvs w' (.slice A1 l1 c1) lv F ∧ Fr w.heap.size w' F ∧ Below w.heap.size w w' := by
  obtain ⟨A, c, rfl, hc, hm, hr⟩ := id h
  have HH := Lib.hid h
  have HOK := Lib.hid hok
  clear hr hm hc h hok
  go_enter Tryd.func64, Tryd.ntmps64
  go_wp2_with fail
  obtain ⟨k1, k2, k3, hb0, hsz⟩ := blks3 w #[.int .i64 d, .func fn first cap] #[.int .i64 k, .int .i64 num, .int .i64 a, .slice A lv.length c, .slice A2 l2 c2] #[.int .i64 0, .int .i64 0, .int .i64 0, .slice none 0 0, .slice none 0 0] 99 30 30
  refine (means_any _ _ _).mono ?_
  rintro e w1 ⟨rfl, hb1⟩
  replace k1 := k1.below hb1
  replace k2 := k2.below hb1
  replace k3 := k3.below hb1
  have hb := hb0.trans (hb1.mono hb0.size)
  have hsz1 := hb1.size
  rw [hsz] at hsz1
  clear hb0 hb1 hsz
  have hf1 : w1.cell? ⟨bf, 0, none⟩ = some (.int .i64 frm) := (hb.cell (p := ⟨bf, 0, none⟩) (World.block_lt_of_cell? w _ hf)).trans hf
  have hn1 : w1.cell? ⟨bn, 0, none⟩ = some (.int .i64 n) := (hb.cell (p := ⟨bn, 0, none⟩) (World.block_lt_of_cell? w _ hn)).trans hn
  clear hf hn
  have hk2 := k2.cell
  have hk2f := k2.frozen
  by_cases hk : k = 1 ∧ d ≤ num ∧ frm ≤ wrap64 (num - d)
  · obtain ⟨rfl, h1, h2⟩ := hk
    have hl := Lib.hid (show liftNum n frm d 1 num = wrap64 (num + n) by unfold liftNum; rw [if_pos ⟨rfl, h1, h2⟩])
    have h1b : decide (d ≤ num) = true := decide_eq_true h1
    have h2b : decide (frm ≤ wrap64 (num - d)) = true := decide_eq_true h2
    have K2 := Lib.hid k2
    have K3 := Lib.hid k3
    have HB := Lib.hid hb
    clear h1 h2 k1 k2 k3 hb
    go_wp2_with fail
    have HB2 := Lib.hid (HB.out.setCell (p := ⟨w.heap.size + 1, 1, none⟩) (by simp) (.int .i64 (wrap64 (num + n))))
    have K32 := Lib.hid (K3.out.far (a := ⟨w.heap.size + 1, 1, none⟩) (by simp) (.int .i64 (wrap64 (num + n))))
    refine (own_any 1 (wrap64 (num + n)) a _ A2 l2 c2 lv _ (HH.out.below (keeps_of HB2.out)) HOK.out).mono ?_
    rintro e w2 ⟨A1, l1, c1, F, rfl, hO, hF, hb2⟩
    have k3 := K32.out.below hb2
    have hc3 := k3.cell
    have hf3 := k3.frozen
    have K33 := Lib.hid k3
    have HO := Lib.hid (And.intro hO (And.intro hF hb2))
    clear hO hF hb2 k3 hk2 hk2f hf1 hn1
    go_wp2
    obtain ⟨hO, hF, hb2⟩ := HO.out
    exact liftFn_end Tryd.results64 rfl rfl hl.out.symm K33.out hO hF hb2 HB2.out (by omega) (by simp [World.setCell]; omega) rfl
  · have hl := Lib.hid (show liftNum n frm d k num = num by unfold liftNum; rw [if_neg hk])
    by_cases hk1 : k = 1
    · have hkb : (k == 1) = true := by rw [hk1]; rfl
      by_cases h1 : d ≤ num
      · have h1b : decide (d ≤ num) = true := decide_eq_true h1
        have h2b : decide (frm ≤ wrap64 (num - d)) = false := decide_eq_false (fun h => hk ⟨hk1, h1, h⟩)
        clear hk hk1 h1
        have K3 := Lib.hid k3
        have HB := Lib.hid hb
        clear k1 k2 k3 hb
        go_wp2_with fail
        refine (own_any k num a _ A2 l2 c2 lv _ (HH.out.below (keeps_of HB.out)) HOK.out).mono ?_
        rintro e w2 ⟨A1, l1, c1, F, rfl, hO, hF, hb2⟩
        have k3 := K3.out.below hb2
        have hc3 := k3.cell
        have hf3 := k3.frozen
        have K3 := Lib.hid k3
        have HO := Lib.hid (And.intro hO (And.intro hF hb2))
        clear hO hF hb2 k3
        go_wp2
        obtain ⟨hO, hF, hb2⟩ := HO.out
        exact liftFn_end Tryd.results64 rfl rfl hl.out.symm K3.out hO hF hb2 HB.out (by omega) (by omega) rfl
      · have h1b : decide (d ≤ num) = false := decide_eq_false h1
        clear hk hk1 h1
        have K3 := Lib.hid k3
        have HB := Lib.hid hb
        clear k1 k2 k3 hb
        go_wp2_with fail
        refine (own_any k num a _ A2 l2 c2 lv _ (HH.out.below (keeps_of HB.out)) HOK.out).mono ?_
        rintro e w2 ⟨A1, l1, c1, F, rfl, hO, hF, hb2⟩
        have k3 := K3.out.below hb2
        have hc3 := k3.cell
        have hf3 := k3.frozen
        have K3 := Lib.hid k3
        have HO := Lib.hid (And.intro hO (And.intro hF hb2))
        clear hO hF hb2 k3
        go_wp2
        obtain ⟨hO, hF, hb2⟩ := HO.out
        exact liftFn_end Tryd.results64 rfl rfl hl.out.symm K3.out hO hF hb2 HB.out (by omega) (by omega) rfl
    · have hkb : (k == 1) = false := beq_eq_false_iff_ne.2 hk1
      clear hk hk1
      have K3 := Lib.hid k3
      have HB := Lib.hid hb
      clear k1 k2 k3 hb
      go_wp2_with fail
      refine (own_any k num a _ A2 l2 c2 lv _ (HH.out.below (keeps_of HB.out)) HOK.out).mono ?_
      rintro e w2 ⟨A1, l1, c1, F, rfl, hO, hF, hb2⟩
      have k3 := K3.out.below hb2
      have hc3 := k3.cell
      have hf3 := k3.frozen
      have K3 := Lib.hid k3
      have HO := Lib.hid (And.intro hO (And.intro hF hb2))
      clear hO hF hb2 k3
      go_wp2
      obtain ⟨hO, hF, hb2⟩ := HO.out
      exact liftFn_end Tryd.results64 rfl rfl hl.out.symm K3.out hO hF hb2 HB.out (by omega) (by omega) rfl
end Go.Proofs.YtebgldnlkkhejaaDoor

/-! ## term: the walk through a term, whatever turns its nodes. -/
namespace Go.Proofs.YtebgldnlkkhejaaDoor
set_option linter.unusedSimpArgs false
set_option linter.unusedVariables false
open Go Go.RowKit Go.Proofs.YtebgldnlkkhejaaDoorW.PrintLast

/-- What becomes of a node at a depth: its number and levels; or another term, of whose kids nothing more. -/
abbrev Node := Int → Int → Int → Int → List Lv → (Int × List Lv) ⊕ Tm
mutual
def turnT (node : Node) : Int → Tm → Tm
  | d, .mk k n a lv kids => match node d k n a lv with
    | .inl (n', lv') => .mk k n' a lv' (turnL node d k 0 kids)
    | .inr t => t
def turnL (node : Node) (d k : Int) : Nat → List Tm → List Tm
  | _, [] => []
  | i, t :: ts => turnT node (deeper k i d) t :: turnL node d k (i + 1) ts
end
theorem turnL_length (node : Node) (d k : Int) : ∀ (ts : List Tm) (i : Nat), (turnL node d k i ts).length = ts.length
  | [], _ => by simp [turnL]
  | t :: ts, i => by simp [turnL, turnL_length node d k ts]
theorem turnL_take (node : Node) (d k : Int) : ∀ (ts : List Tm) (i j : Nat) (h : j < ts.length), turnL node d k i (ts.take (j + 1)) = turnL node d k i (ts.take j) ++ [turnT node (deeper k ((i + j : Nat) : Int) d) ts[j]]
  | [], _, _, h => by simp at h
  | t :: ts, i, 0, _ => by simp [turnL]
  | t :: ts, i, j + 1, h => by
    simp only [List.take_succ_cons, turnL, List.cons_append, List.getElem_cons_succ]
    rw [turnL_take node d k ts (i + 1) j (by simpa using h)]
    rw [show i + 1 + j = i + (j + 1) by omega]
/-- No list in a term is longer than 2^40. -/
inductive Okt : Tm → Prop
  | mk {k n a : Int} {lv : List Lv} {kids : List Tm} : Okl lv → kids.length ≤ 1099511627776 → (∀ t ∈ kids, Okt t) → Okt (.mk k n a lv kids)
theorem Okt.lv {k n a : Int} {lv : List Lv} {kids : List Tm} (h : Okt (.mk k n a lv kids)) : Okl lv := by cases h; assumption
theorem Okt.len {k n a : Int} {lv : List Lv} {kids : List Tm} (h : Okt (.mk k n a lv kids)) : kids.length ≤ 1099511627776 := by cases h; assumption
theorem Okt.kid {k n a : Int} {lv : List Lv} {kids : List Tm} (h : Okt (.mk k n a lv kids)) : ∀ t ∈ kids, Okt t := by cases h; assumption
theorem nodes_kid : ∀ {kids : List Tm} {t : Tm}, t ∈ kids → t.nodes ≤ Tm.nodesL kids
  | [], _, h => by cases h
  | u :: us, t, h => by
    rcases List.mem_cons.1 h with rfl | h
    · simp [Tm.nodesL]
    · have := nodes_kid h; simp [Tm.nodesL]; omega

/-- What a function that turns nodes does, called in any world that keeps w0. -/
def TurnPost (k a : Int) (A2 : Option Addr) (l2 c2 : Nat) (W : World) : (Int × List Lv) ⊕ Tm → Ending → World → Prop
  | .inl (n', lv'), e, w' => ∃ A1 l1 c1 F, e = .returned (.tuple #[.agg #[.int .i64 k, .int .i64 n', .int .i64 a, .slice A1 l1 c1, .slice A2 l2 c2], .bool false]) ∧ OwLvs w' (.slice A1 l1 c1) lv' F ∧ Fr W.heap.size w' F ∧ Below W.heap.size W w'
  | .inr t, e, w' => ∃ cs F, e = .returned (.tuple #[.agg cs.toArray, .bool true]) ∧ OwT w' t cs F ∧ Fr W.heap.size w' F ∧ Below W.heap.size W w'
/-- Every number in a term is so. -/
inductive AllN (Pn : Int → Prop) : Tm → Prop
  | mk {k n a : Int} {lv : List Lv} {kids : List Tm} : Pn n → (∀ t ∈ kids, AllN Pn t) → AllN Pn (.mk k n a lv kids)
theorem AllN.num {Pn : Int → Prop} {k n a : Int} {lv : List Lv} {kids : List Tm} (h : AllN Pn (.mk k n a lv kids)) : Pn n := by cases h; assumption
theorem AllN.kid {Pn : Int → Prop} {k n a : Int} {lv : List Lv} {kids : List Tm} (h : AllN Pn (.mk k n a lv kids)) : ∀ t ∈ kids, AllN Pn t := by cases h; assumption
theorem AllN.all : ∀ t, AllN (fun _ => True) t := by
  intro t
  induction t using Tm.ind with
  | h k n a lv kids ih => exact .mk trivial ih
def TurnOK (w0 : World) (fid : FuncId) (cap : Array Value) (node : Node) (Pn : Int → Prop) : Prop :=
  ∀ (d k n a : Int) (vl : Value) (A2 : Option Addr) (l2 c2 : Nat) (lv : List Lv) (W : World), Keeps w0 W → w0.heap.size ≤ W.heap.size → RdLvs W vl lv → Okl lv → 0 ≤ d → d ≤ 4611686018427387904 → Pn n →
    Calls Tryd.prog fid (#[.agg #[.int .i64 d, .func (.func fid) #[] cap], .agg #[.int .i64 k, .int .i64 n, .int .i64 a, vl, .slice A2 l2 c2]] ++ cap) W (TurnPost k a A2 l2 c2 W (node d k n a lv))
def WalkOK (w0 : World) (fid : FuncId) (cap : Array Value) (node : Node) (Pn : Int → Prop) (t : Tm) : Prop :=
  ∀ (d : Int) (cs : List Value) (W : World), Keeps w0 W → w0.heap.size ≤ W.heap.size → Kinds W → RdT W t cs → Okt t → 0 ≤ d → d + t.nodes ≤ 4611686018427387904 → AllN Pn t →
    Calls Tryd.prog 63 #[.agg #[.int .i64 d, .func (.func fid) #[] cap], .agg cs.toArray] W fun e w' => ∃ cs' F, e = .returned (.agg cs'.toArray) ∧ OwT w' (turnT node d t) cs' F ∧ Fr W.heap.size w' F ∧ Below W.heap.size W w'

/-- The loop over the kids. -/
structure WInv (w : World) (B3 : Nat) (lo : Nat) (b0 b1 b2 : Array Value) (k n' a : Int) (vl' v : Value) (lv' : List Lv) (F1 : List Nat) (done : List Tm) (F2 : List Nat) (wr : World) : Prop where
  hb : Below w.heap.size w wr
  k0 : Blk wr w.heap.size b0 99
  k1 : Blk wr (w.heap.size + 1) b1 30
  k2 : Blk wr (w.heap.size + 1 + 1) b2 30
  k3 : Blk wr B3 #[.int .i64 k, .int .i64 n', .int .i64 a, vl', v] 30
  h3 : w.heap.size + 1 + 1 < B3
  hlo : B3 < lo
  hlo' : lo ≤ wr.heap.size
  hO1 : OwLvs wr vl' lv' F1
  hF1 : Fr (w.heap.size + 3) wr F1 ∧ ∀ b ∈ F1, b < B3
  hO2 : OwTs wr v done F2
  hF2 : Fr lo wr F2

set_option maxRecDepth 100000 in
set_option maxHeartbeats 2000000 in
theorem walk_done (w0 : World) (fid : FuncId) (cap : Array Value) (node : Node) (Pn : Int → Prop) (hcall : ∀ args w, (callFunc fid args).run Tryd.prog w = .ok (.enter fid args) w) (hT : TurnOK w0 fid cap node Pn) (k n a : Int) (lv : List Lv) (kids : List Tm) (d : Int) (t' : Tm) (hnode : node d k n a lv = .inr t')
    (cs : List Value) (W : World) (hk0 : Keeps w0 W) (hs0 : w0.heap.size ≤ W.heap.size) (h : RdT W (.mk k n a lv kids) cs) (hok : Okt (.mk k n a lv kids)) (hd : 0 ≤ d) (hd' : d ≤ 4611686018427387904) (hPn : Pn n) :
    Calls Tryd.prog 63 #[.agg #[.int .i64 d, .func (.func fid) #[] cap], .agg cs.toArray] W fun e w' => ∃ cs' F, e = .returned (.agg cs'.toArray) ∧ OwT w' t' cs' F ∧ Fr W.heap.size w' F ∧ Below W.heap.size W w' := by
  obtain ⟨vl, vk, rfl, hlv, A2, c2, rfl, hc2, hm2, hkids⟩ := (RdT_mk ..).1 h
  obtain ⟨A1, c1, rfl, hc1, hm1, hr1⟩ := id hlv
  obtain ⟨k0, k1, k2, hb0, hsz⟩ := blks3 W #[.int .i64 d, .func (.func fid) #[] cap] #[.int .i64 k, .int .i64 n, .int .i64 a, .slice A1 lv.length c1, .slice A2 kids.length c2] #[.int .i64 0, .int .i64 0, .int .i64 0, .slice none 0 0, .slice none 0 0] 99 30 30
  have HC := Lib.hid (fun W' (hk : Keeps w0 W') (hs : w0.heap.size ≤ W'.heap.size) (hl : RdLvs W' (.slice A1 lv.length c1) lv) => hnode ▸ hT d k n a _ A2 kids.length c2 lv W' hk hs hl hok.lv hd hd' hPn)
  have HL := Lib.hid hlv
  have H0 := Lib.hid (And.intro hk0 (And.intro hs0 (And.intro k2 (And.intro hb0 hsz))))
  clear hlv hkids hc2 hm2 hc1 hm1 hr1 h hok hT hk0 hs0 k0 k1 k2 hb0 hsz hnode hPn
  go_enter Tryd.func63, Tryd.ntmps63
  go_wp2_with fail
  refine (HC.out _ (H0.out.1.trans H0.out.2.1 (keeps_of H0.out.2.2.2.1)) (Nat.le_trans H0.out.2.1 H0.out.2.2.2.1.size) (HL.out.below (keeps_of H0.out.2.2.2.1))).mono ?_
  rintro e w1 ⟨cs', F, rfl, hO, hF, hb1⟩
  obtain ⟨A3, l3, c3, A4, l4, c4, rfl⟩ := hO.cells
  obtain ⟨hk0, hs0, k2, hb0, hsz⟩ := H0.out
  have k2 := k2.below hb1
  have hf2 := k2.frozen
  have hc2 := k2.cell
  have hs1 := hb1.size
  rw [hsz] at hs1
  have hlt2 : W.heap.size + 1 + 1 < w1.heap.size := by omega
  have H1 := Lib.hid (And.intro k2 (And.intro hO (And.intro hF (And.intro hb0 (And.intro hb1 hsz)))))
  clear k2 hO hF hb0 hb1 hk0 hs0 hsz
  go_wp2
  obtain ⟨k2, hO, hF, hb0, hb1, hsz⟩ := H1.out
  rw [hsz] at hF
  exact term_end1 Tryd.results63 rfl k2 hO hF (by omega) (fun b hb => by have := hF.2 b hb; omega) (hb0.trans (hb1.mono hb0.size)) (by omega) rfl

theorem WInv.push {w : World} {B3 lo : Nat} {b0 b1 b2 : Array Value} {k n' a : Int} {vl' v v2 : Value} {lv' : List Lv} {F1 F2 Fx : List Nat} {done : List Tm} {x : Tm} {cx : List Value} {wr w1 W1 w2 : World}
    (h : WInv w B3 lo b0 b1 b2 k n' a vl' v lv' F1 done F2 wr) (hb : Below wr.heap.size wr w1) (hx : OwT w1 x cx Fx) (hFx : Fr wr.heap.size w1 Fx) (hW : Below w1.heap.size w1 W1) (hcx : cx.length = 5)
    (happ : ∀ inner, wr.ownsRow 0 30 5 v done.length inner → w2.ownsRow 0 30 5 v2 (done.length + 1) (inner ++ cx)) (hg : W1.grownBy w2 v.ownBlock) (hat : v2.ownBlock = v.ownBlock ∨ v2.ownBlock = some W1.heap.size) (h2s : ∀ k, v2.ownBlock = some k → k < w2.heap.size) :
    ∃ F2', WInv w B3 lo b0 b1 b2 k n' a vl' v2 lv' F1 (done ++ [x]) F2' (w2.setCell ⟨B3, 4, none⟩ v2) := by
  obtain ⟨hb', k0, k1, k2, k3, h3, hlo, hlo', hO1, hF1, hO2, hF2⟩ := h
  obtain ⟨F2', hO', hF'⟩ := OwS.push OwT.mov hO2 hF2 hb hlo' hx hFx hW (fun inner hi => by rw [List.length_append, List.length_singleton]; exact happ inner hi) hcx hg hat h2s
  have s1 := hb.size
  have s2 := hW.size
  have s3 := hg.size
  have hvlo : ∀ q, v.ownBlock = some q → lo ≤ q := fun q hq => by
    obtain ⟨inner, Fi, g1, g2, rfl⟩ := hO2
    exact (hF2.2 q (List.mem_append_left _ (by simp [hq]))).1
  have hold : ∀ q, q < lo → w2.heap[q]? = wr.heap[q]? := fun q hq => by
    rw [hg.block q (by omega) (fun e => by have := hvlo q e.symm; omega), hW.block q (by omega), hb.block q (by omega)]
  have hlt : ∀ q, q < lo → q ≠ B3 → (w2.setCell ⟨B3, 4, none⟩ v2).heap[q]? = wr.heap[q]? := fun q hq hne => by
    rw [Below.heap_setCell _ _ _ _ (by exact hne)]; exact hold q hq
  refine ⟨F2', ⟨⟨?_, ?_, ?_, ?_, ?_⟩, ?_, ?_, ?_, ?_, h3, hlo, by simp [World.setCell]; omega, ?_, ⟨hF1.1.mono (Nat.le_refl _) (by simp [World.setCell]; omega), hF1.2⟩, ?_, ?_⟩⟩
  · show w2.os = w.os; rw [hg.os, hW.os, hb.os, hb'.os]
  · show w2.tape = w.tape; rw [hg.tape, hW.tape, hb.tape, hb'.tape]
  · show w2.output = w.output; rw [hg.output, hW.output, hb.output, hb'.output]
  · have := hb'.size; simp [World.setCell]; omega
  · intro q hq; rw [hlt q (by omega) (by omega)]; exact hb'.block q hq
  · exact (hlt _ (by omega) (by omega)).trans k0
  · exact (hlt _ (by omega) (by omega)).trans k1
  · exact (hlt _ (by omega) (by omega)).trans k2
  · exact (show Blk w2 B3 _ _ from (hold _ hlo).trans k3).set 4 v2
  · exact hO1.move (fun q hq => hlt q (by have := hF1.2 q hq; omega) (by have := hF1.2 q hq; omega))
  · exact hO'.move OwT.mov (fun q hq => Below.heap_setCell _ _ _ _ (by have := (hF'.2 q hq).1; show q ≠ B3; omega))
  · exact hF'.mono (Nat.le_refl _) (by simp [World.setCell])

set_option maxRecDepth 100000 in
set_option maxHeartbeats 4000000 in
theorem walk_kids (w0 : World) (fid : FuncId) (cap : Array Value) (node : Node) (Pn : Int → Prop) (hcall : ∀ args w, (callFunc fid args).run Tryd.prog w = .ok (.enter fid args) w) (hT : TurnOK w0 fid cap node Pn) (k n a : Int) (lv : List Lv) (kids : List Tm) (ih : ∀ t ∈ kids, WalkOK w0 fid cap node Pn t)
    (d n' : Int) (lv' : List Lv) (hnode : node d k n a lv = .inl (n', lv'))
    (cs : List Value) (W : World) (hk0 : Keeps w0 W) (hs0 : w0.heap.size ≤ W.heap.size) (hK : Kinds W) (h : RdT W (.mk k n a lv kids) cs) (hok : Okt (.mk k n a lv kids)) (hd : 0 ≤ d) (hd' : d + (Tm.mk k n a lv kids).nodes ≤ 4611686018427387904) (hN : AllN Pn (.mk k n a lv kids)) :
    Calls Tryd.prog 63 #[.agg #[.int .i64 d, .func (.func fid) #[] cap], .agg cs.toArray] W fun e w' => ∃ cs' F, e = .returned (.agg cs'.toArray) ∧ OwT w' (.mk k n' a lv' (turnL node d k 0 kids)) cs' F ∧ Fr W.heap.size w' F ∧ Below W.heap.size W w' := by
  obtain ⟨vl, vk, rfl, hlv, A2, c2, rfl, hc2, hm2, hkids⟩ := (RdT_mk ..).1 h
  obtain ⟨A1, c1, rfl, hc1, hm1, hr1⟩ := id hlv
  obtain ⟨k0, k1, k2, hb0, hsz⟩ := blks3 W #[.int .i64 d, .func (.func fid) #[] cap] #[.int .i64 k, .int .i64 n, .int .i64 a, .slice A1 lv.length c1, .slice A2 kids.length c2] #[.int .i64 0, .int .i64 0, .int .i64 0, .slice none 0 0, .slice none 0 0] 99 30 30
  have hdn : d ≤ 4611686018427387904 := by simp [Tm.nodes] at hd'; omega
  have HC := Lib.hid (fun W' (hk : Keeps w0 W') (hs : w0.heap.size ≤ W'.heap.size) (hl : RdLvs W' (.slice A1 lv.length c1) lv) => hnode ▸ hT d k n a _ A2 kids.length c2 lv W' hk hs hl hok.lv hd hdn hN.num)
  have HL := Lib.hid hlv
  have H0 := Lib.hid (And.intro hk0 (And.intro hs0 (And.intro k0 (And.intro k1 (And.intro k2 (And.intro hb0 hsz))))))
  have HK := Lib.hid hK
  have HR := Lib.hid hkids
  have HOK := Lib.hid hok
  have hkl : (kids.length : Int) ≤ 9223372036854775807 := by omega
  have HIH := Lib.hid ih
  have HPN := Lib.hid hN.kid
  have HD := Lib.hid hd'
  clear hlv hkids hc2 hm2 hc1 hm1 hr1 h hok hT hk0 hs0 k0 k1 k2 hb0 hsz hnode hK ih hd' hN
  go_enter Tryd.func63, Tryd.ntmps63
  go_wp2_with fail
  have hbb := H0.out.2.2.2.2.2.1
  refine (HC.out _ (H0.out.1.trans H0.out.2.1 (keeps_of hbb)) (Nat.le_trans H0.out.2.1 hbb.size) (HL.out.below (keeps_of hbb))).mono ?_
  rintro e w1 ⟨A3, l3, c3, F1, rfl, hO1, hF1, hb1⟩
  clear hbb
  obtain ⟨hk0, hs0, k0, k1, k2, hb0, hsz⟩ := H0.out
  have HI : WInv W w1.heap.size (w1.heap.size + 1) #[.int .i64 d, .func (.func fid) #[] cap] #[.int .i64 k, .int .i64 n, .int .i64 a, .slice A1 lv.length c1, .slice A2 kids.length c2] #[.int .i64 0, .int .i64 0, .int .i64 0, .slice none 0 0, .slice none 0 0]
      k n' a (.slice A3 l3 c3) (.slice none 0 0) lv' F1 [] [] (w1.alloc (.cells #[.int .i64 k, .int .i64 n', .int .i64 a, .slice A3 l3 c3, .slice none 0 0] 30)) := by
    have hs1 := hb1.size
    rw [hsz] at hs1 hF1
    have hbA : Below w1.heap.size w1 (w1.alloc (.cells #[.int .i64 k, .int .i64 n', .int .i64 a, .slice A3 l3 c3, .slice none 0 0] 30)) := (Below.refl _ _).alloc (Nat.le_refl _) _
    exact ⟨(hb0.trans (hb1.mono hb0.size)).trans (hbA.mono (by omega)), (k0.below hb1).below hbA, (k1.below hb1).below hbA, (k2.below hb1).below hbA, Blk.new _ _ _, by omega, by omega, by simp, hO1.move (Same.of_below hF1 hbA), ⟨hF1.mono (Nat.le_refl _) hbA.size, fun b hb => (hF1.2 b hb).2⟩, OwS.nil _ _ _ _, Fr.nil _ _⟩
  have HI := Lib.hid HI
  have hs1 := hb1.size
  rw [hsz] at hs1
  clear hO1 hF1 hb1 hk0 hs0 k0 k1 k2 hb0 hsz
  go_wp2_with fail
  go_loopw [25] (fun i wr => ∃ j : Nat, j ≤ kids.length ∧ i = .int .i64 j ∧ ∃ A c F2,
      Hid (WInv W w1.heap.size (w1.heap.size + 1) #[.int .i64 d, .func (.func fid) #[] cap] #[.int .i64 k, .int .i64 n, .int .i64 a, .slice A1 lv.length c1, .slice A2 kids.length c2] #[.int .i64 0, .int .i64 0, .int .i64 0, .slice none 0 0, .slice none 0 0]
        k n' a (.slice A3 l3 c3) (.slice A j c) lv' F1 (turnL node d k 0 (kids.take j)) F2 wr)) (fun i _ => kids.length - (intOf i).toNat)
  case atStart => exact ⟨0, by omega, rfl, none, 0, [], HI⟩
  case round =>
    obtain ⟨j, hj, rfl, A, c, F2, HV⟩ := hrel
    clear HI
    by_cases hlt : j < kids.length
    · rcases HR.out with rfl | ⟨b, o, rfl, hkr⟩
      · simp at hlt
      obtain ⟨q0, q1, q2, A5, l5, c5, A6, l6, c6, hTk, e0, e1, e2, e3, e4, hbl⟩ := RdT_at hkr j hlt
      have hv := HV.out
      have hcw := (bcell hv.hb).1
      have HTk := Lib.hid hTk
      have hj0 : (0 : Int) ≤ (j : Int) := Int.natCast_nonneg _
      have hj1 : (j : Int) < (kids.length : Int) := by omega
      clear hv hkr hTk
      go_wp2_with fail
      clear e0 e1 e2 e3 e4 hcw
      have hv := HV.out
      obtain ⟨kA, hbA, hsA⟩ := blks1 wr #[.int .i64 q0, .int .i64 q1, .int .i64 q2, .slice A5 l5 c5, .slice A6 l6 c6] 30
      generalize wr.alloc (.cells #[.int .i64 q0, .int .i64 q1, .int .i64 q2, .slice A5 l5 c5, .slice A6 l6 c6] 30) = wA at *
      have g0 := (hv.k0.below hbA).cell
      have g1 := (hv.k1.below hbA).cell
      have g3 := (hv.k3.below hbA).cell
      have gA := kA.cell
      have n0 : W.heap.size < wA.heap.size := (hv.k0.below hbA).lt
      have n1 : W.heap.size + 1 < wA.heap.size := (hv.k1.below hbA).lt
      have n3 : w1.heap.size < wA.heap.size := (hv.k3.below hbA).lt
      have nA : wr.heap.size < wA.heap.size := kA.lt
      have hbW := hv.hb.trans (hbA.mono hv.hb.size)
      have HW := Lib.hid hbW
      have HKID := Lib.hid (fun W' (hb' : Below W.heap.size W W') => HIH.out kids[j] (List.getElem_mem hlt) (deeper k j d) _ W' (H0.out.1.trans H0.out.2.1 (keeps_of hb')) (Nat.le_trans H0.out.2.1 hb'.size) (HK.out.below hb') (RdT.below (keeps_of hb') _ _ HTk.out) (HOK.out.kid _ (List.getElem_mem hlt))
        (by unfold deeper; split <;> omega) (by have := HD.out; have := nodes_kid (List.getElem_mem hlt); simp only [Tm.nodes] at *; unfold deeper; split <;> omega) (HPN.out kids[j] (List.getElem_mem hlt)))
      have HA := Lib.hid (And.intro hbA hsA)
      clear hv kA hbA hsA hbW
      refine start_ (n := 13) (S := fun W' => ∀ b o, b < wA.heap.size → W'.cell? ⟨b, o, none⟩ = wA.cell? ⟨b, o, none⟩) (ds := [10, 12]) #[false, false, false, false, false, false, false, false, false, false, false, false, false] (by kernel_rfl) rfl rfl (by exact (fun _ _ _ => rfl)) (fun hHeld => ?_)
      refine take_ (i := 0) (N := some 30) (v := ?_) (a' := ?_) #[true, false, false, false, false, false, false, false, false, false, false, false, false] rfl rfl (by kernel_rfl) (fun _ _ _ h => h) (Or.inl ⟨by rfl, ?_⟩) hHeld ?_ ?_
      rotate_left
      · rintro w' hS'
        go_simp
        with_reducible rfl
      rotate_left
      · simp only [Act.put, List.setIfInBounds_toArray, List.set_cons_zero, List.set_cons_succ]
        rfl
      refine take_ (i := 1) (N := some 31) (v := ?_) (a' := ?_) #[true, true, false, false, false, false, false, false, false, false, false, false, false] rfl rfl (by kernel_rfl) (fun _ _ _ h => h) (Or.inl ⟨by rfl, ?_⟩) hHeld ?_ ?_
      rotate_left
      · rintro w' hS'
        go_simp
        with_reducible rfl
      rotate_left
      · simp only [Act.put, List.setIfInBounds_toArray, List.set_cons_zero, List.set_cons_succ]
        rfl
      refine take_ (i := 2) (N := some 32) (v := ?_) (a' := ?_) #[true, true, true, false, false, false, false, false, false, false, false, false, false] rfl rfl (by kernel_rfl) (fun _ _ _ h => h) (Or.inl ⟨by rfl, ?_⟩) hHeld ?_ ?_
      rotate_left
      · rintro w' hS'
        go_simp
        with_reducible rfl
      rotate_left
      · simp only [Act.put, List.setIfInBounds_toArray, List.set_cons_zero, List.set_cons_succ]
        rfl
      refine take_ (i := 3) (N := some 33) (v := ?_) (a' := ?_) #[true, true, true, true, false, false, false, false, false, false, false, false, false] rfl rfl (by kernel_rfl) (fun _ _ _ h => h) (Or.inl ⟨by rfl, ?_⟩) hHeld ?_ ?_
      rotate_left
      · rintro w' hS'
        go_simp
        with_reducible rfl
      rotate_left
      · simp only [Act.put, List.setIfInBounds_toArray, List.set_cons_zero, List.set_cons_succ]
        rfl
      refine take_ (i := 4) (N := some 34) (v := ?_) (a' := ?_) #[true, true, true, true, true, false, false, false, false, false, false, false, false] rfl rfl (by kernel_rfl) (fun _ _ _ h => h) (Or.inl ⟨by rfl, ?_⟩) hHeld ?_ ?_
      rotate_left
      · rintro w' hS'
        go_simp
        with_reducible rfl
      rotate_left
      · simp only [Act.put, List.setIfInBounds_toArray, List.set_cons_zero, List.set_cons_succ]
        rfl
      refine take_ (i := 5) (N := some 35) (v := ?_) (a' := ?_) #[true, true, true, true, true, true, false, false, false, false, false, false, false] rfl rfl (by kernel_rfl) (fun _ _ _ h => h) (Or.inl ⟨by rfl, ?_⟩) hHeld ?_ ?_
      rotate_left
      · rintro w' hS'
        go_simp
        with_reducible rfl
      rotate_left
      · simp only [Act.put, List.setIfInBounds_toArray, List.set_cons_zero, List.set_cons_succ]
        rfl
      refine take_ (i := 7) (N := some 37) (v := ?_) (a' := ?_) #[true, true, true, true, true, true, false, true, false, false, false, false, false] rfl rfl (by kernel_rfl) (fun _ _ _ h => h) (Or.inl ⟨by rfl, ?_⟩) hHeld ?_ ?_
      rotate_left
      · rintro w' hS'
        go_simp
        with_reducible rfl
      rotate_left
      · simp only [Act.put, List.setIfInBounds_toArray, List.set_cons_zero, List.set_cons_succ]
        rfl
      refine one_ (i := 6) (N := some 36) #[true, true, true, true, true, true, true, true, false, false, false, false, false] rfl rfl (by kernel_rfl) (by decide) (fun K hK => ?_)
      go_simp
      refine (below_any d k j (.func fid) #[] cap _ (HK.out.below HW.out.drew) hd hdn).mono ?_
      rintro e w2 ⟨rfl, hb2⟩
      have HB2 := Lib.hid (undrew hb2)
      clear hb2
      refine hK.out _ _ (keeps_of HB2.out) (fun hHeld => ?_)
      clear hK K
      refine norm_ (a' := ?_) ?_ ?_
      rotate_left
      · first
          | rfl
          | (simp only [Act.put, List.setIfInBounds_toArray, List.set_cons_zero, List.set_cons_succ]; rfl)
      refine one_ (i := 8) (N := some 38) #[true, true, true, true, true, true, true, true, true, false, false, false, false] rfl rfl (by kernel_rfl) (by decide) (fun K hK => ?_)
      go_simp
      refine (HKID.out w2 (HW.out.trans (HB2.out.mono HW.out.size))).mono ?_
      rintro e w3 ⟨cs', Fx, rfl, hx, hFx, hb3⟩
      obtain ⟨A7, l7, c7, A8, l8, c8, rfl⟩ := hx.cells
      have HX := Lib.hid (And.intro hx (And.intro hFx hb3))
      clear hx hFx hb3
      refine hK.out _ _ (Keeps.trans (keeps_of HB2.out) HB2.out.size (keeps_of HX.out.2.2)) (fun hHeld => ?_)
      clear hK K
      refine norm_ (a' := ?_) ?_ ?_
      rotate_left
      · first
          | rfl
          | (simp only [Act.put, List.setIfInBounds_toArray, List.set_cons_zero, List.set_cons_succ]; rfl)
      refine one_ (i := 9) (N := some 39) #[true, true, true, true, true, true, true, true, true, true, false, false, false] rfl rfl (by kernel_rfl) (by decide) (fun K hK => ?_)
      go_simp
      refine hK.out _ _ (Keeps.trans (Keeps.trans (keeps_of HB2.out) HB2.out.size (keeps_of HX.out.2.2)) (Nat.le_trans HB2.out.size HX.out.2.2.size) (keeps_of ((Below.refl _ _).alloc (Nat.le_refl _) _))) (fun hHeld => ?_)
      clear hK K
      refine norm_ (a' := ?_) ?_ ?_
      rotate_left
      · first
          | rfl
          | (simp only [Act.put, List.setIfInBounds_toArray, List.set_cons_zero, List.set_cons_succ]; rfl)
      refine last_ (i := 10) (N := some 40) #[true, true, true, true, true, true, true, true, true, true, true, false, false] rfl rfl (by kernel_rfl) (by decide) (fun K hK => ?_)
      have hv := HV.out
      have hOs := hv.hO2
      obtain ⟨inner, Fi, hown, hin, hFi⟩ := id hOs
      have hlen : (turnL node d k 0 (kids.take j)).length = j := by rw [turnL_length, List.length_take]; omega
      rw [hlen] at hown
      have hb35 : Below wr.heap.size wr w3 := (HA.out.1.trans (HB2.out.mono HA.out.1.size)).trans (HX.out.2.2.mono (Nat.le_trans HA.out.1.size HB2.out.size))
      have hbW1 : Below w3.heap.size w3 (w3.alloc (.cells #[.int .i64 (turnT node (deeper k j d) kids[j]).kind, .int .i64 (turnT node (deeper k j d) kids[j]).num, .int .i64 (turnT node (deeper k j d) kids[j]).place, .slice A7 l7 c7, .slice A8 l8 c8] 30)) := (Below.refl _ _).alloc (Nat.le_refl _) _
      have hmv : ∀ q, q < wr.heap.size → (w3.alloc (.cells #[.int .i64 (turnT node (deeper k j d) kids[j]).kind, .int .i64 (turnT node (deeper k j d) kids[j]).num, .int .i64 (turnT node (deeper k j d) kids[j]).place, .slice A7 l7 c7, .slice A8 l8 c8] 30)).heap[q]? = wr.heap[q]? := fun q hq => by
        rw [hbW1.block q (Nat.lt_of_lt_of_le hq hb35.size), hb35.block q hq]
      have hjl := HOK.out.len
      refine step_append rfl (.tmp 31) (.tmp 39) 28 rfl 30 _ 5 72 Tryd.underlying28 infoTm rfl (by decide) (.slice A j c) j inner rfl (ownsRow_move hown (fun q hq => hmv q (hown.lt q hq).2))
        ⟨w3.heap.size, 0, none⟩ 1 1 [.int .i64 (turnT node (deeper k j d) kids[j]).kind, .int .i64 (turnT node (deeper k j d) kids[j]).num, .int .i64 (turnT node (deeper k j d) kids[j]).place, .slice A7 l7 c7, .slice A8 l8 c8] rfl rfl (news_at (Blk.new w3 _ _)) (by simp [Value.oneCell']) (by simp only [maxLen]; omega) (by omega) ?_
      intro v2 w5 hown2 hg hat
      obtain ⟨A9, c9, rfl⟩ := own_slice hown2
      have HP := Lib.hid (hv.push hb35 HX.out.1 (HX.out.2.1.mono (Nat.le_trans HA.out.1.size HB2.out.size) (Nat.le_refl _)) hbW1 rfl (fun inner' hi' => by rw [hlen] at hi' ⊢; rw [ownsRow_unique hi' hown]; exact hown2) hg hat (fun q hq => (hown2.lt q hq).2))
      have k35 : Blk w5 w1.heap.size _ 30 := (show w5.heap[w1.heap.size]? = wr.heap[w1.heap.size]? from by
        rw [hg.block _ (by have := hv.hlo; have := hv.hlo'; have := hb35.size; simp; omega) (fun e => by have := (hv.hF2.2 w1.heap.size (by rw [hFi, ← e]; simp)).1; omega)]
        exact hmv _ (by have := hv.hlo; have := hv.hlo'; omega)).trans hv.k3
      have c35 := k35.cell
      have f35 := k35.frozen
      clear hv hOs hown hin hFi hlen hb35 hbW1 hmv hjl hown2 hg hat k35
      refine hK.out _ _ ?_
      clear hK K
      refine norm_ (a' := ?_) ?_ ?_
      rotate_left
      · first
          | rfl
          | (simp only [Act.put, List.setIfInBounds_toArray, List.set_cons_zero, List.set_cons_succ]; rfl)
      refine pure_ (i := 11) (N := some 41) (v := ?_) (a' := ?_) #[true, true, true, true, true, true, true, true, true, true, true, true, false] rfl rfl (by kernel_rfl) (fun _ _ _ h => h) (Or.inl ⟨by rfl, ?_⟩) ?_ ?_
      rotate_left
      · rintro w'
        go_simp
        with_reducible rfl
      rotate_left
      · simp only [Act.put, List.setIfInBounds_toArray, List.set_cons_zero, List.set_cons_succ]
        rfl
      refine last_ (i := 12) (N := none) #[true, true, true, true, true, true, true, true, true, true, true, true, true] rfl rfl (by kernel_rfl) (by decide) (fun K hK => ?_)
      go_simp
      refine hK.out _ _ ?_
      clear hK K
      refine norm_ (a' := ?_) ?_ ?_
      rotate_left
      · first
          | rfl
          | (simp only [Act.put, List.setIfInBounds_toArray, List.set_cons_zero, List.set_cons_succ]; rfl)
      refine done_ (by kernel_rfl) ?_
      clear c35 f35 g0 g1 g3 gA
      go_wp2
      go_roundw
      case rel =>
        obtain ⟨F2', hw⟩ := HP.out
        rw [show turnL node d k 0 (kids.take j) ++ [turnT node (deeper k j d) kids[j]] = turnL node d k 0 (kids.take (j + 1)) from by rw [turnL_take node d k kids 0 j hlt, Nat.zero_add]] at hw
        exact ⟨j + 1, by omega, by go_num, A9, c9, F2', hw⟩
      case measure => simp [intOf]; omega
    · have hv := HV.out
      have c3 := hv.k3.cell
      have c2' := hv.k2.cell
      have f2' := hv.k2.frozen
      clear hv
      go_wp2
      clear c3 c2' f2'
      have hjk : j = kids.length := by omega
      subst hjk
      obtain ⟨hb', k0, k1, k2, k3, h3, hlo, hlo', hO1, hF1, hO2, hF2⟩ := HV.out
      rw [List.take_length] at hO2
      have hO := (OwT_mk wr k n' a lv' (turnL node d k 0 kids) _ (F1 ++ F2)).2 ⟨_, _, F1, F2, rfl, hO1, hO2, rfl⟩
      have hF : Fr (W.heap.size + 3) wr (F1 ++ F2) := ⟨List.nodup_append.2 ⟨hF1.1.1, hF2.1, fun x hx y hy e => by have := hF1.2 x hx; have := (hF2.2 y hy).1; omega⟩, fun x hx => by
        rcases List.mem_append.1 hx with hx | hx
        · exact hF1.1.2 x hx
        · have := hF2.2 x hx; omega⟩
      exact term_end Tryd.results63 rfl k2 hO hF (by omega) (fun b hb => by have := (hF.2 b hb).1; omega) hb' (by omega) rfl
/-- The walk, whatever turns the nodes. -/
theorem walk_any (w0 : World) (fid : FuncId) (cap : Array Value) (node : Node) (Pn : Int → Prop) (hcall : ∀ args w, (callFunc fid args).run Tryd.prog w = .ok (.enter fid args) w) (hT : TurnOK w0 fid cap node Pn) : ∀ t, WalkOK w0 fid cap node Pn t := by
  intro t
  induction t using Tm.ind with
  | h k n a lv kids ih =>
    intro d cs W hk0 hs0 hK h hok hd hd' hN
    cases hn : node d k n a lv with
    | inl p =>
      obtain ⟨n', lv'⟩ := p
      have := walk_kids w0 fid cap node Pn hcall hT k n a lv kids ih d n' lv' hn cs W hk0 hs0 hK h hok hd hd' hN
      simpa only [turnT, hn] using this
    | inr t' =>
      have := walk_done w0 fid cap node Pn hcall hT k n a lv kids d t' hn cs W hk0 hs0 h hok hd (by simp [Tm.nodes] at hd'; omega) hN.num
      simpa only [turnT, hn] using this
end Go.Proofs.YtebgldnlkkhejaaDoor

/-! ## term.Lift: every term lifted, in memory of its own. -/
namespace Go.Proofs.YtebgldnlkkhejaaDoor
set_option linter.unusedSimpArgs false
set_option linter.unusedVariables false
open Go Go.RowKit Go.Proofs.YtebgldnlkkhejaaDoorW.PrintLast

def liftNode (n frm : Int) : Node := fun d k num _ lv => .inl (liftNum n frm d k num, lv)
def liftT (n frm d : Int) (t : Tm) : Tm := turnT (liftNode n frm) d t
theorem lift_turn (n frm : Int) (w0 : World) (bf bn : Nat) (hf : w0.cell? ⟨bf, 0, none⟩ = some (.int .i64 frm)) (hn : w0.cell? ⟨bn, 0, none⟩ = some (.int .i64 n)) :
    TurnOK w0 64 #[.pointer (some ⟨bf, 0, none⟩), .pointer (some ⟨bn, 0, none⟩)] (liftNode n frm) (fun _ => True) := by
  intro d k num a vl A2 l2 c2 lv W hk hs hl hok hd hd' _
  exact liftFn_any n frm d k num a vl A2 l2 c2 lv _ _ _ bf bn W hl hok ((hk _ _ (World.block_lt_of_cell? w0 _ hf)).trans hf) ((hk _ _ (World.block_lt_of_cell? w0 _ hn)).trans hn)
theorem liftCall (args : Array Value) (w : World) : (callFunc 64 args).run Tryd.prog w = .ok (.enter 64 args) w :=
  enters_ Tryd.func64 (by kernel_rfl) (by kernel_rfl) args w
/-- What a call that is handed a term may ask of it. -/
structure In (w : World) (t : Tm) (cs : List Value) : Prop where
  rd : RdT w t cs
  ok : Okt t
  few : t.nodes ≤ 1152921504606846976
theorem In.keeps {w w' : World} {t : Tm} {cs : List Value} (h : In w t cs) (hk : Keeps w w') : In w' t cs := ⟨RdT.below hk _ _ h.rd, h.ok, h.few⟩
/-- What a call hands out: a term of its own. -/
def OutT (w : World) (t : Tm) (e : Ending) (w' : World) : Prop := ∃ cs F, e = .returned (.agg cs.toArray) ∧ OwT w' t cs F ∧ Fr w.heap.size w' F ∧ Below w.heap.size w w'

set_option maxRecDepth 100000 in
set_option maxHeartbeats 1000000 in
theorem Lift_any (t : Tm) (cs : List Value) (n frm : Int) (w : World) (hK : Kinds w) (h : In w t cs) :
    Calls Tryd.prog 30 #[.agg cs.toArray, .int .i64 n, .int .i64 frm] w (OutT w (liftT n frm 0 t)) := by
  obtain ⟨A1, l1, c1, A2, l2, c2, rfl⟩ := h.rd.cells
  have hmf : ∀ (fn : Fn) (first cap : Array Value) (w : World), (Instr.makeFunc fn first cap).run Tryd.prog w = .ok (.func fn first cap) w := fun _ _ _ _ => rfl
  obtain ⟨k0, k1, k2, k3, hb, hsz⟩ := blks4 w #[.int .i64 t.kind, .int .i64 t.num, .int .i64 t.place, .slice A1 l1 c1, .slice A2 l2 c2] #[.int .i64 n] #[.int .i64 frm] #[.int .i64 0, .int .i64 0, .int .i64 0, .slice none 0 0, .slice none 0 0] 30 3 3 30
  have HC := Lib.hid (walk_any _ 64 _ (liftNode n frm) _ liftCall (lift_turn n frm _ _ _ ((k2.cell 0).trans rfl) ((k1.cell 0).trans rfl)) t 0 _ _ (fun _ _ _ => rfl) (Nat.le_refl _) (hK.below hb) (RdT.below (keeps_of hb) _ _ h.rd) h.ok (Int.le_refl _) (by have := h.few; omega) (AllN.all t))
  have H := Lib.hid (And.intro k3 (And.intro hb hsz))
  clear k0 k1 k2 k3 hb hsz hK h
  go_enter Tryd.func30, Tryd.ntmps30
  go_wp2_with fail
  refine HC.out.mono ?_
  rintro e w1 ⟨cs', F, rfl, hO, hF, hb1⟩
  obtain ⟨A3, l3, c3, A4, l4, c4, rfl⟩ := hO.cells
  obtain ⟨k3, hb, hsz⟩ := H.out
  have k3 := k3.below hb1
  have c3' := k3.cell
  have f3' := k3.frozen
  have H1 := Lib.hid (And.intro k3 (And.intro hO (And.intro hF (And.intro hb1 (And.intro hb hsz)))))
  clear k3 hO hF hb1 hb hsz
  go_wp2
  obtain ⟨k3, hO, hF, hb1, hb, hsz⟩ := H1.out
  rw [hsz] at hF
  exact term_end Tryd.results30 rfl k3 hO hF (by omega) (fun b hb => by have := (hF.2 b hb).1; omega) (hb.trans (hb1.mono hb.size)) (by omega) rfl
end Go.Proofs.YtebgldnlkkhejaaDoor

/-! ## Rows of one's own: an append in a walk; what a call hands out. -/
namespace Go.Proofs.YtebgldnlkkhejaaDoor
set_option linter.unusedSimpArgs false
set_option linter.unusedVariables false
open Go Go.RowKit Go.Proofs.YtebgldnlkkhejaaDoorW.PrintLast

/-- The append of new cells onto a row of one's own, in a walk. -/
theorem wpList_app {P : Program} {ops : Array Oper} {rest : List Oper} {o : Oper} {a : Act} {w : World} {Q : Exit → Act → World → Prop}
    (hg : o.guard = none) (s x : Operand) (t : TypeId) (hop : o.op = Op.call { callee := Callee.builtin Builtin.append, args := #[s, x], argTypes := #[t, t] })
    (base : Nat) (e : TypeId) (z : Value) (size bytes : Nat) (ht : P.underlying t = some (.slice e)) (hinfo : (P.info? e).map (fun i => (i.zero, i.size, i.bytes)) = some (some z, size, bytes)) (hzs : z.cells.size = size) (hsz : 0 < size)
    (v : Value) (n : Nat) (xs : List Value) (hs : a.eval s = v) (hown : w.ownsRow base e size v n xs)
    (ad : Addr) (m c : Nat) (news : List Value) (hx : a.eval x = .slice (some ad) m c) (hl : news.length = m * size) (hnews : ∀ j u, news[j]? = some u → w.cell? (ad.add j) = some u) (h1 : ∀ u ∈ news, u.oneCell' = true)
    (h63 : n + m ≤ maxLen) (hbytes : (n + m) * bytes ≤ 140737488355328) (hbase : base ≤ w.heap.size)
    (h : ∀ v' w', w'.ownsRow base e size v' (n + m) (xs ++ news) → w.grownBy w' v.ownBlock → (v'.ownBlock = v.ownBlock ∨ v'.ownBlock = some w.heap.size) → wpList P ops Q rest (a.put o.dst v') w') :
    wpList P ops Q (o :: rest) a w := by
  obtain ⟨i, hi, hz, hsize, hby⟩ := info_parts hinfo
  exact wpList_append_own_at _ hg s x t hop base e i z size bytes ht hi hz hsize hby hzs hsz v n xs hs hown ad m c news hx hl hnews h1 h63 hbytes hbase (fun v' w' h2 h3 _ h5 => h v' w' h2 h3 h5)
/-- What a call hands out: terms of its own. -/
def OutTs (w : World) (ts : List Tm) (e : Ending) (w' : World) : Prop := ∃ A c F, e = .returned (.slice A ts.length c) ∧ OwTs w' (.slice A ts.length c) ts F ∧ Fr w.heap.size w' F ∧ Below w.heap.size w w'
end Go.Proofs.YtebgldnlkkhejaaDoor
