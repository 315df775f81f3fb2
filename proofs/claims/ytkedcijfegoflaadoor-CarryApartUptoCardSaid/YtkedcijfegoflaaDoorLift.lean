/- term.Lift: every term lifted, in memory of its own. -/
import Derived.Test.YtkedcijfegoflaaDoorWalk
namespace Go.Proofs.YtkedcijfegoflaaDoor
set_option linter.unusedSimpArgs false
set_option linter.unusedVariables false
open Go Go.RowKit Go.Proofs.YtkedcijfegoflaaDoorW.PrintLast

def liftNode (n frm : Int) : Node := fun d k num _ lv => .inl (liftNum n frm d k num, lv)
def liftT (n frm d : Int) (t : Tm) : Tm := turnT (liftNode n frm) d t
theorem lift_turn (n frm : Int) (w0 : World) (bf bn : Nat) (hf : w0.cell? ⟨bf, 0, none⟩ = some (.int .i64 frm)) (hn : w0.cell? ⟨bn, 0, none⟩ = some (.int .i64 n)) :
    TurnOK w0 66 #[.pointer (some ⟨bf, 0, none⟩), .pointer (some ⟨bn, 0, none⟩)] (liftNode n frm) := by
  intro d k num a vl A2 l2 c2 lv W hk hs hl hok hd hd'
  exact liftFn_any n frm d k num a vl A2 l2 c2 lv _ _ _ bf bn W hl hok ((hk _ _ (World.block_lt_of_cell? w0 _ hf)).trans hf) ((hk _ _ (World.block_lt_of_cell? w0 _ hn)).trans hn)
theorem liftCall (args : Array Value) (w : World) : (callFunc 66 args).run Tryd.prog w = .ok (.enter 66 args) w :=
  enters_ Tryd.func66 (by kernel_rfl) (by kernel_rfl) args w
/-- What a call that is handed a term may ask of it. -/
structure In (w : World) (t : Tm) (cs : List Value) : Prop where
  rd : RdT w t cs
  ok : Okt t
  few : t.nodes ≤ 1152921504606846976
theorem In.keeps {w w' : World} {t : Tm} {cs : List Value} (h : In w t cs) (hk : Keeps w w') : In w' t cs := ⟨RdT.below hk _ _ h.rd, h.ok, h.few⟩
/-- What a call hands out: a term of its own. -/
def OutT (w : World) (t : Tm) (e : Ending) (w' : World) : Prop := ∃ cs F, e = .returned (.agg cs.toArray) ∧ OwT w' t cs F ∧ Fr w.heap.size w' F ∧ Below w.heap.size w w'

set_option maxRecDepth 100000 in
set_option maxHeartbeats 1000000 in
theorem Lift_any (t : Tm) (cs : List Value) (n frm : Int) (w : World) (hK : Kinds w) (h : In w t cs) :
    Calls Tryd.prog 32 #[.agg cs.toArray, .int .i64 n, .int .i64 frm] w (OutT w (liftT n frm 0 t)) := by
  obtain ⟨A1, l1, c1, A2, l2, c2, rfl⟩ := h.rd.cells
  have hmf : ∀ (fn : Fn) (first cap : Array Value) (w : World), (Instr.makeFunc fn first cap).run Tryd.prog w = .ok (.func fn first cap) w := fun _ _ _ _ => rfl
  obtain ⟨k0, k1, k2, k3, hb, hsz⟩ := blks4 w #[.int .i64 t.kind, .int .i64 t.num, .int .i64 t.place, .slice A1 l1 c1, .slice A2 l2 c2] #[.int .i64 n] #[.int .i64 frm] #[.int .i64 0, .int .i64 0, .int .i64 0, .slice none 0 0, .slice none 0 0] 30 3 3 30
  have HC := Lib.hid (walk_any _ 66 _ (liftNode n frm) liftCall (lift_turn n frm _ _ _ ((k2.cell 0).trans rfl) ((k1.cell 0).trans rfl)) t 0 _ _ (fun _ _ _ => rfl) (Nat.le_refl _) (hK.below hb) (RdT.below (keeps_of hb) _ _ h.rd) h.ok (Int.le_refl _) (by have := h.few; omega))
  have H := Lib.hid (And.intro k3 (And.intro hb hsz))
  clear k0 k1 k2 k3 hb hsz hK h
  go_enter Tryd.func32, Tryd.ntmps32
  go_wp2_with fail
  refine HC.out.mono ?_
  rintro e w1 ⟨cs', F, rfl, hO, hF, hb1⟩
  obtain ⟨A3, l3, c3, A4, l4, c4, rfl⟩ := hO.cells
  obtain ⟨k3, hb, hsz⟩ := H.out
  have k3 := k3.below hb1
  have c3' := k3.cell
  have f3' := k3.frozen
  have H1 := Lib.hid (And.intro k3 (And.intro hO (And.intro hF (And.intro hb1 (And.intro hb hsz)))))
  clear k3 hO hF hb1 hb hsz
  go_wp2
  obtain ⟨k3, hO, hF, hb1, hb, hsz⟩ := H1.out
  rw [hsz] at hF
  exact term_end Tryd.results32 rfl k3 hO hF (by omega) (fun b hb => by have := (hF.2 b hb).1; omega) (hb.trans (hb1.mono hb.size)) (by omega) rfl
end Go.Proofs.YtkedcijfegoflaaDoor
