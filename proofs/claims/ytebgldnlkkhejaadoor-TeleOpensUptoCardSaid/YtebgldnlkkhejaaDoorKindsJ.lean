/- The table of kinds: what a row lays of it gives what the walks ask (Kinds); a world that meets it. -/
import Derived.Test.YtebgldnlkkhejaaDoorRows
import Derived.Test.YtebgldnlkkhejaaDoorKitA
import Derived.ProofKit
import Derived.OpenShut
import Derived.LaidLaws
import Derived.Handed
namespace Go.Proofs.YtebgldnlkkhejaaDoor
open Go Go.ChangeShapes Go.WideShapes Go.ChangeAt Go.RowKit
set_option maxRecDepth 100000
theorem ownK : ownKnob Tryd.prog.godebug = none := by kernel_rfl
theorem kindsN : Tryd.prog.globalNamed "spandrel/term.kinds" = some 0 := by kernel_rfl
theorem kindsT : (Tryd.prog.globals[0]?).map (·.type) = some 159 := by kernel_rfl
theorem cellsHas : Tryd.prog.cellsOf 158 = 5 := by kernel_rfl
theorem kind_row {H : Type} : ∀ k : Nat, 1 ≤ k → k < 25 → ∃ (l : List (DataW H)) (a b c d : DataW H), Rows.laid_spandrel_term_kinds = .agg l ∧ l[k]? = some (.agg [a, b, c, d, .lit (.int .i64 (boundOf k))]) := by
  intro k h1 h2
  match k, h1, h2 with
  | 1, _, _ => exact ⟨_, _, _, _, _, rfl, rfl⟩
  | 2, _, _ => exact ⟨_, _, _, _, _, rfl, rfl⟩
  | 3, _, _ => exact ⟨_, _, _, _, _, rfl, rfl⟩
  | 4, _, _ => exact ⟨_, _, _, _, _, rfl, rfl⟩
  | 5, _, _ => exact ⟨_, _, _, _, _, rfl, rfl⟩
  | 6, _, _ => exact ⟨_, _, _, _, _, rfl, rfl⟩
  | 7, _, _ => exact ⟨_, _, _, _, _, rfl, rfl⟩
  | 8, _, _ => exact ⟨_, _, _, _, _, rfl, rfl⟩
  | 9, _, _ => exact ⟨_, _, _, _, _, rfl, rfl⟩
  | 10, _, _ => exact ⟨_, _, _, _, _, rfl, rfl⟩
  | 11, _, _ => exact ⟨_, _, _, _, _, rfl, rfl⟩
  | 12, _, _ => exact ⟨_, _, _, _, _, rfl, rfl⟩
  | 13, _, _ => exact ⟨_, _, _, _, _, rfl, rfl⟩
  | 14, _, _ => exact ⟨_, _, _, _, _, rfl, rfl⟩
  | 15, _, _ => exact ⟨_, _, _, _, _, rfl, rfl⟩
  | 16, _, _ => exact ⟨_, _, _, _, _, rfl, rfl⟩
  | 17, _, _ => exact ⟨_, _, _, _, _, rfl, rfl⟩
  | 18, _, _ => exact ⟨_, _, _, _, _, rfl, rfl⟩
  | 19, _, _ => exact ⟨_, _, _, _, _, rfl, rfl⟩
  | 20, _, _ => exact ⟨_, _, _, _, _, rfl, rfl⟩
  | 21, _, _ => exact ⟨_, _, _, _, _, rfl, rfl⟩
  | 22, _, _ => exact ⟨_, _, _, _, _, rfl, rfl⟩
  | 23, _, _ => exact ⟨_, _, _, _, _, rfl, rfl⟩
  | 24, _, _ => exact ⟨_, _, _, _, _, rfl, rfl⟩
  | k + 25, _, h2 => omega
theorem kinds_of_laid {W : World} (h : laidMet Tryd.prog [("spandrel/term.kinds", Rows.laid_spandrel_term_kinds)] W) : Kinds W := by
  obtain ⟨ps, ⟨g, t, cs, fuel, p, q, hg, ht, hvar, hd, _, _⟩, _⟩ := h
  obtain rfl := Option.some.inj (kindsN.symm.trans hg)
  obtain rfl := Option.some.inj (kindsT.symm.trans ht)
  obtain ⟨xs, m, rfl, hx, hl, hlen, hf⟩ := DataW.trod_array Tryd.underlying159 hd
  have key : ∀ k : Nat, 1 ≤ k → k < 25 → W.cell? ⟨0, k * 5 + 4, none⟩ = some (.int .i64 (boundOf k)) := by
    intro k h1 h2
    obtain ⟨l, a, b, c, d, e1, e2⟩ := kind_row (H := Unit) k h1 h2
    have hx1 := (Prod.mk.inj hx).1
    have hxl : xs.map (·.1) = l := by
      have h0 : DataW.agg (xs.map (·.1)) = DataW.agg l := hx1.symm.trans e1
      injection h0
    have hk := hf k h2
    rw [cellsHas] at hk
    have hy : ∃ y, xs[k]? = some y ∧ y.1 = .agg [a, b, c, d, .lit (.int .i64 (boundOf k))] := by
      rw [← hxl, List.getElem?_map] at e2
      obtain ⟨y, hy, he⟩ := Option.map_eq_some_iff.1 e2
      exact ⟨y, hy, he⟩
    obtain ⟨y, hy, hye⟩ := hy
    rw [hy] at hk
    obtain ⟨ys, m', rfl, hz, hl', hlen', hf'⟩ := DataW.trod_struct Tryd.underlying158 hk
    subst hz
    have hzl : ys.map (·.1) = [a, b, c, d, .lit (.int .i64 (boundOf k))] := by
      have h0 : DataW.agg (ys.map (·.1)) = DataW.agg [a, b, c, d, .lit (.int .i64 (boundOf k))] := hye
      injection h0
    have h4 := hf' 4 _ rfl
    have hv : ∃ v, ys[4]? = some v ∧ v.1 = .lit (.int .i64 (boundOf k)) := by
      have e3 : (ys.map (·.1))[4]? = some (.lit (.int .i64 (boundOf k))) := by rw [hzl]; rfl
      rw [List.getElem?_map] at e3
      obtain ⟨v, hv, he⟩ := Option.map_eq_some_iff.1 e3
      exact ⟨v, hv, he⟩
    obtain ⟨v, hv, hve⟩ := hv
    rw [hv] at h4
    obtain ⟨n, hcs, hxv, _⟩ := DataW.trod_int Tryd.underlying3 h4
    subst hxv
    have hn : n = boundOf k := by
      have h0 : DataW.lit (Lit.int .i64 n) = DataW.lit (Lit.int .i64 (boundOf k)) := hve
      injection h0 with h0
      injection h0
    subst hn
    have hc := World.var?_cell kindsN hvar (k * 5 + 4)
    rw [hc]
    have h5 : (((cs.toList.drop (k * 5)).take 5).drop 4).take 1 = [.int .i64 (boundOf k)] := hcs
    have h6 : ((((cs.toList.drop (k * 5)).take 5).drop 4).take 1)[0]? = some (.int .i64 (boundOf k)) := by rw [h5]; rfl
    rw [List.getElem?_take_of_lt (by omega), List.getElem?_drop, List.getElem?_take_of_lt (by omega), List.getElem?_drop] at h6
    simpa using h6
  exact ⟨World.block_lt_of_cell? W _ (key 1 (by omega) (by omega)), key⟩
/-- The settled world with the table laid. -/
noncomputable def kindsWorld (os : Os) : World :=
  let w0 := World.holding Tryd.prog os ⟨#[], #[], []⟩
  { w0 with heap := w0.heap.modify 0 fun
      | .cells _ t frozen => .cells #[.bool false, .bool false, .int .i64 0, .int .i64 0, .int .i64 0, .bool true, .bool false, .int .i64 0, .int .i64 0, .int .i64 (-1), .bool false, .bool false, .int .i64 1, .int .i64 0, .int .i64 (-1), .bool true, .bool false, .int .i64 (-1), .int .i64 0, .int .i64 (-1), .bool false, .bool false, .int .i64 0, .int .i64 2, .int .i64 1, .bool false, .bool false, .int .i64 0, .int .i64 2, .int .i64 1, .bool false, .bool false, .int .i64 0, .int .i64 2, .int .i64 (-1), .bool false, .bool false, .int .i64 0, .int .i64 3, .int .i64 2, .bool true, .bool true, .int .i64 (-1), .int .i64 0, .int .i64 (-1), .bool true, .bool true, .int .i64 (-1), .int .i64 0, .int .i64 (-1), .bool true, .bool true, .int .i64 (-1), .int .i64 0, .int .i64 (-1), .bool false, .bool true, .int .i64 0, .int .i64 0, .int .i64 (-1), .bool false, .bool false, .int .i64 0, .int .i64 2, .int .i64 1, .bool false, .bool false, .int .i64 0, .int .i64 2, .int .i64 (-1), .bool false, .bool false, .int .i64 0, .int .i64 1, .int .i64 (-1), .bool false, .bool false, .int .i64 0, .int .i64 1, .int .i64 (-1), .bool false, .bool false, .int .i64 0, .int .i64 2, .int .i64 1, .bool false, .bool false, .int .i64 0, .int .i64 2, .int .i64 (-1), .bool false, .bool false, .int .i64 0, .int .i64 5, .int .i64 1, .bool false, .bool false, .int .i64 0, .int .i64 3, .int .i64 (-1), .bool false, .bool false, .int .i64 0, .int .i64 0, .int .i64 (-1), .bool false, .bool false, .int .i64 0, .int .i64 6, .int .i64 (-1), .bool true, .bool false, .int .i64 0, .int .i64 0, .int .i64 (-1), .bool true, .bool true, .int .i64 0, .int .i64 0, .int .i64 (-1), .bool false, .bool true, .int .i64 0, .int .i64 2, .int .i64 (-1)] t frozen
      | o => o }
set_option maxRecDepth 100000 in
theorem kindsWorld_met (os : Os) (args : Array Value) : laidMet Tryd.prog [("spandrel/term.kinds", Rows.laid_spandrel_term_kinds)] ((kindsWorld os).forCall (fun _ _ => 0) ⟨#[], args, []⟩).memory :=
  laidMet_of_run' 8 (by kernel_rfl) (by kernel_rfl)
end Go.Proofs.YtebgldnlkkhejaaDoor
