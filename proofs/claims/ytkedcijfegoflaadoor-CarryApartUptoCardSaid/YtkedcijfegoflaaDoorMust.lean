/- carry: must, and what it asks. -/
import Derived.Test.YtkedcijfegoflaaDoorLift
import Derived.WalkLawsBesides
namespace Go.Proofs.YtkedcijfegoflaaDoor
set_option linter.unusedSimpArgs false
set_option linter.unusedVariables false
open Go Go.RowKit Go.Proofs.YtkedcijfegoflaaDoorW.PrintLast

def RdBs (w : World) (v : Value) (bs : List Bool) : Prop := RdS (fun b cs => cs = [.bool b]) 1 w v bs
/-- The place of the first that is false, from i on. -/
def firstNo : Nat → List Bool → Int
  | _, [] => -1
  | i, b :: bs => if b then firstNo (i + 1) bs else i
theorem firstNo_take : ∀ (bs : List Bool) (i k : Nat), (∀ j (h : j < bs.length), j < k → bs[j] = true) → (h : k < bs.length) → bs[k] = false → firstNo i bs = ((i + k : Nat) : Int)
  | [], _, _, _, h, _ => by simp at h
  | b :: bs, i, 0, _, _, hb => by simp at hb; simp [firstNo, hb]
  | b :: bs, i, k + 1, ha, h, hb => by
    have h0 : b = true := ha 0 (by simp) (by omega)
    simp only [firstNo, h0, if_true]
    rw [firstNo_take bs (i + 1) k (fun j h' hj => ha (j + 1) (by simpa using h') (by omega)) (by simpa using h) (by simpa using hb)]
    congr 1; omega
theorem firstNo_all : ∀ (bs : List Bool) (i : Nat), (∀ j (h : j < bs.length), bs[j] = true) → firstNo i bs = -1
  | [], _, _ => rfl
  | b :: bs, i, ha => by
    have h0 : b = true := ha 0 (by simp)
    simp only [firstNo, h0, if_true]
    exact firstNo_all bs (i + 1) (fun j h => ha (j + 1) (by simpa using h))
theorem firstNo_ge : ∀ (bs : List Bool) (i : Nat), decide (0 ≤ firstNo i bs) = !bs.all id
  | [], _ => by simp [firstNo]
  | b :: bs, i => by
    cases b
    · simp [firstNo]
    · simp only [firstNo, if_true, List.all_cons, id, Bool.true_and]; exact firstNo_ge bs (i + 1)

set_option maxRecDepth 100000 in
set_option maxHeartbeats 400000 in
theorem Index_any (bs : List Bool) (v : Value) (w : World) (h : RdBs w v bs) :
    Calls Tryd.prog 127 #[v, .bool false] w fun e w' => e = .returned (.int .i64 (firstNo 0 bs)) ∧ w = w' := by
  obtain ⟨A, c, rfl, hc, hm, hr⟩ := h
  have hn : (bs.length : Int) ≤ 9223372036854775807 := by omega
  clear hm
  go_enter Tryd.func127, Tryd.ntmps127
  go_wp2_with fail
  go_loop [8] (fun i => ∃ k : Nat, k ≤ bs.length ∧ i = .int .i64 k ∧ Hid (∀ j (h : j < bs.length), j < k → bs[j] = true)) (fun i => bs.length - (intOf i).toNat)
  case atStart => exact ⟨0, by omega, rfl, fun j _ hj => by omega⟩
  case round =>
    obtain ⟨k, hk, rfl, ha⟩ := hrel
    by_cases hlt : k < bs.length
    · rcases hr with rfl | ⟨b, o, rfl, hr⟩
      · simp at hlt
      obtain ⟨cs, hcl, rfl, hca⟩ := hr.get k _ (List.getElem?_eq_getElem hlt)
      have e0 := hca 0 _ rfl
      rw [Nat.mul_one, Nat.add_zero] at e0
      cases hb : bs[k]
      · rw [hb] at e0
        have HF := Lib.hid (firstNo_take bs 0 k ha.out hlt hb)
        clear hb hca hcl hr ha
        go_wp2
        go_ret
        exact ⟨ret_int (by rw [HF.out]; simp), rfl⟩
      · rw [hb] at e0
        have HA := Lib.hid (show ∀ j (h : j < bs.length), j < k + 1 → bs[j] = true from fun j h hj => by
          by_cases e : j = k
          · subst e; exact hb
          · exact ha.out j h (by omega))
        clear hb hca hcl hr ha
        go_wp2
        go_round
        case rel => exact ⟨k + 1, by omega, by go_num, HA.out⟩
        case measure => simp [intOf]; omega
    · have HF := Lib.hid (firstNo_all bs 0 (fun j h => ha.out j h (by omega)))
      clear ha hr
      go_wp2
      go_ret
      exact ⟨ret_int HF.out.symm, rfl⟩
set_option maxRecDepth 100000 in
theorem Contains_any (bs : List Bool) (v : Value) (w : World) (h : RdBs w v bs) :
    Calls Tryd.prog 120 #[v, .bool false] w fun e w' => e = .returned (.bool (!bs.all id)) ∧ w = w' := by
  obtain ⟨A, c, rfl, _⟩ := id h
  have H := Lib.hid h
  have HG := Lib.hid (firstNo_ge bs 0)
  clear h
  go_enter Tryd.func120, Tryd.ntmps120
  go_wp2_with (go_at_call 127; refine (Index_any bs _ _ H.out).mono ?_; rintro e w' ⟨rfl, rfl⟩)
  go_ret
  exact ⟨ret_bool HG.out, rfl⟩
/-- How must ends. -/
def MustPost (T : TypeId) (w : World) : Bool → Ending → World → Prop
  | true, e, w' => e = .returned (.tuple #[]) ∧ w = w'
  | false, e, w' => e = .panicked [{ v := .iface T (.agg #[]), recovered := false }] ∧ w = w'
set_option maxRecDepth 100000 in
theorem must_any (bs : List Bool) (v : Value) (w : World) (h : RdBs w v bs) :
    Calls Tryd.prog 110 #[v] w (MustPost 137 w (bs.all id)) := by
  obtain ⟨A, c, rfl, _⟩ := id h
  have H := Lib.hid h
  clear h
  have HC := Lib.hid (Contains_any bs _ w H.out)
  cases hb : bs.all id
  all_goals
    rw [hb] at HC
    clear hb H
    go_enter Tryd.func110, Tryd.ntmps110
    go_wp2_with (go_at_call 120; refine HC.out.mono ?_; rintro e w' ⟨rfl, rfl⟩)
  · exact ⟨rfl, rfl, rfl⟩
  · go_end0
    exact ⟨rfl, rfl⟩

/-! ### Declarations -/
structure Dc where
  kind : Int
  levels : Int
  type : Tm
  body : Tm
  params : List Tm
  sort : Lv
  members : List (List Tm)
  ctors : List (Int × Tm)
def RdMs (w : World) (v : Value) (l : List (List Tm)) : Prop := RdS (fun x cs => ∃ u, cs = [u] ∧ RdTs w u x) 1 w v l
def RdCs (w : World) (v : Value) (l : List (Int × Tm)) : Prop := RdS (fun x cs => ∃ ct, cs = .int .i64 x.1 :: ct ∧ RdT w x.2 ct) 6 w v l
def RdD (w : World) (d : Dc) (cs : List Value) : Prop := ∃ t b p s m c, cs = .int .i64 d.kind :: .int .i64 d.levels :: (t ++ b ++ [p, s, m, c]) ∧ RdT w d.type t ∧ RdT w d.body b ∧ RdTs w p d.params ∧ RdLv w s d.sort ∧ RdMs w m d.members ∧ RdCs w c d.ctors
def RdDs (w : World) (v : Value) (ds : List Dc) : Prop := RdS (RdD w) 16 w v ds
def RdIs (w : World) (v : Value) (l : List Int) : Prop := RdS (fun x cs => cs = [.int .i64 x]) 1 w v l
theorem RdMs.below {w w' : World} {v : Value} {l : List (List Tm)} (h : RdMs w v l) (hb : Keeps w w') : RdMs w' v l := RdS.below hb (fun _ _ _ ⟨u, h1, h2⟩ => ⟨u, h1, h2.below hb⟩) h
theorem RdCs.below {w w' : World} {v : Value} {l : List (Int × Tm)} (h : RdCs w v l) (hb : Keeps w w') : RdCs w' v l := RdS.below hb (fun _ _ _ ⟨u, h1, h2⟩ => ⟨u, h1, RdT.below hb _ _ h2⟩) h
theorem RdD.below {w w' : World} {d : Dc} {cs : List Value} (hb : Keeps w w') (h : RdD w d cs) : RdD w' d cs := by
  obtain ⟨t, b, p, s, m, c, h0, h1, h2, h3, h4, h5, h6⟩ := h
  exact ⟨t, b, p, s, m, c, h0, RdT.below hb _ _ h1, RdT.below hb _ _ h2, h3.below hb, h4.below hb, h5.below hb, h6.below hb⟩
theorem RdDs.below {w w' : World} {v : Value} {ds : List Dc} (h : RdDs w v ds) (hb : Keeps w w') : RdDs w' v ds := RdS.below hb (fun _ _ _ h => h.below hb) h
theorem RdIs.below {w w' : World} {v : Value} {l : List Int} (h : RdIs w v l) (hb : Keeps w w') : RdIs w' v l := RdS.below hb (fun _ _ _ h => h) h
theorem RdD.cells {w : World} {d : Dc} {cs : List Value} (h : RdD w d cs) : ∃ t0 t1 t2 b0 b1 b2 A1 l1 c1 A2 l2 c2 A3 l3 c3 A4 l4 c4 A5 l5 c5 A6 l6 c6 A7 c7 A8 c8, cs = [.int .i64 d.kind, .int .i64 d.levels, .int .i64 t0, .int .i64 t1, .int .i64 t2, .slice A1 l1 c1, .slice A2 l2 c2, .int .i64 b0, .int .i64 b1, .int .i64 b2, .slice A3 l3 c3, .slice A4 l4 c4, .slice A5 l5 c5, .slice A6 l6 c6, .slice A7 d.members.length c7, .slice A8 d.ctors.length c8] := by
  obtain ⟨t, b, p, s, m, c, rfl, h1, h2, h3, h4, h5, h6⟩ := h
  obtain ⟨A1, l1, c1, A2, l2, c2, rfl⟩ := h1.cells
  obtain ⟨A3, l3, c3, A4, l4, c4, rfl⟩ := h2.cells
  obtain ⟨A5, c5, rfl, _⟩ := h3
  obtain ⟨A6, c6, rfl, _⟩ := h4
  obtain ⟨A7, c7, rfl, _⟩ := h5
  obtain ⟨A8, c8, rfl, _⟩ := h6
  exact ⟨_, _, _, _, _, _, _, _, _, _, _, _, _, _, _, _, _, _, _, _, _, _, _, _, _, _, _, _, rfl⟩

/-! ### The constant of a name -/
theorem RdBs_blk {w : World} {g : Nat} {e : TypeId} {bs : List Bool} (h : Blk w g (bs.map Value.bool).toArray e) (hl : bs.length ≤ 9223372036854775807) : RdBs w (.slice (some ⟨g, 0, none⟩) bs.length bs.length) bs := by
  refine ⟨_, _, rfl, Nat.le_refl _, hl, .inr ⟨g, 0, rfl, ?_⟩⟩
  have key : ∀ (cs : List Bool) (o : Nat), (∀ j b, cs[j]? = some b → w.cell? ⟨g, o + j, none⟩ = some (.bool b)) → RdL (fun b cs => cs = [Value.bool b]) 1 w g o cs := by
    intro cs
    induction cs with
    | nil => intro o _; trivial
    | cons b cs ih =>
      intro o hc
      refine ⟨⟨[.bool b], rfl, rfl, fun j u hj => ?_⟩, ih (o + 1) (fun j b' hj => ?_)⟩
      · match j, hj with
        | 0, hj => simp at hj; subst hj; exact hc 0 b rfl
      · have := hc (j + 1) b' (by simpa using hj)
        rwa [show o + (j + 1) = o + 1 + j by omega] at this
  refine key bs 0 (fun j b hj => ?_)
  rw [Nat.zero_add, h.cell j]
  simp [hj]
/-- How a call ends that finds a number, or throws that there is none. -/
def absentEnd : Ending := .panicked [{ v := .iface 137 (.agg #[]), recovered := false }]
def Finds (w : World) (o : Option Int) (e : Ending) (w' : World) : Prop := (e = match o with | some n => .returned (.int .i64 n) | none => absentEnd) ∧ Below w.heap.size w w'
def withinI (d : Dc) (place many : Int) : Option Int := if d.kind = 3 ∧ 0 ≤ place ∧ place < many then some place else none
set_option maxRecDepth 100000 in
set_option maxHeartbeats 400000 in
theorem within_any (d : Dc) (cs : List Value) (at_ many : Int) (w : World) (h : RdD w d cs) :
    Calls Tryd.prog 119 #[.agg cs.toArray, .int .i64 at_, .int .i64 many] w (Finds w (withinI d at_ many)) := by
  obtain ⟨t0, t1, t2, b0, b1, b2, A1, l1, c1, A2, l2, c2, A3, l3, c3, A4, l4, c4, A5, l5, c5, A6, l6, c6, A7, c7, A8, c8, rfl⟩ := h.cells
  obtain ⟨k0, k1, hb, hsz⟩ := blks2 w #[.int .i64 d.kind, .int .i64 d.levels, .int .i64 t0, .int .i64 t1, .int .i64 t2, .slice A1 l1 c1, .slice A2 l2 c2, .int .i64 b0, .int .i64 b1, .int .i64 b2, .slice A3 l3 c3, .slice A4 l4 c4, .slice A5 l5 c5, .slice A6 l6 c6, .slice A7 d.members.length c7, .slice A8 d.ctors.length c8]
    #[.bool (d.kind == 3), .bool (decide (0 ≤ at_)), .bool (decide (at_ < many))] 42 4
  have HC := Lib.hid (must_any [d.kind == 3, decide (0 ≤ at_), decide (at_ < many)] _ _ (RdBs_blk k1 (by simp)))
  have HB := Lib.hid hb
  clear h k0 k1 hb hsz
  by_cases hw : d.kind = 3 ∧ 0 ≤ at_ ∧ at_ < many
  · have hs := Lib.hid (show withinI d at_ many = some at_ by unfold withinI; rw [if_pos hw])
    rw [show [d.kind == 3, decide (0 ≤ at_), decide (at_ < many)].all id = true by simp [hw]] at HC
    clear hw
    go_enter Tryd.func119, Tryd.ntmps119
    go_wp2_with fail
    refine HC.out.mono ?_
    rintro e w' ⟨rfl, rfl⟩
    go_wp2
    go_ret
    unfold Finds
    rw [hs.out]
    exact ⟨rfl, HB.out⟩
  · have hs := Lib.hid (show withinI d at_ many = none by unfold withinI; rw [if_neg hw])
    rw [show [d.kind == 3, decide (0 ≤ at_), decide (at_ < many)].all id = false by simp; omega] at HC
    clear hw
    go_enter Tryd.func119, Tryd.ntmps119
    go_wp2_with fail
    refine HC.out.mono ?_
    rintro e w' ⟨rfl, rfl⟩
    refine ⟨rfl, ?_⟩
    unfold Finds
    rw [hs.out]
    exact ⟨rfl, HB.out⟩
end Go.Proofs.YtkedcijfegoflaaDoor
