/- spandrellaw04.TeleOpens returns true and leaves its arguments as they were, wherever term.kinds holds what the program's text lays in it: for every row, term, row of terms of bulk at most 1048576 in all, and every number. -/
import Derived.Test.YtebgldnlkkhejaaDoorKindsJ
import Derived.Test.YtebgldnlkkhejaaDoorTrodJ
import Derived.Test.YtebgldnlkkhejaaDoorTopensWalk
import Derived.Test.YtebgldnlkkhejaaDoorCards
import Derived.Test.YtebgldnlkkhejaaDoorTie
import Derived.WalkKit
import Derived.ProofKit
import Derived.OpenShut
import Derived.ChangeOld
import Derived.Below
import Derived.Carry
import Derived.Deep.DeepHandedRow
import Derived.Lib.LaidTab
namespace Go.Proofs.YtebgldnlkkhejaaDoor
open Go.ChangeShapes Go.WideShapes Go.ChangeAt Go.RowKit
set_option linter.unusedVariables false
theorem laidOutB' : laidOutB Tryd.prog = true := by kernel_rfl
theorem row_of {w : World} {v : Value} {ts : List Tm} (h : RdTs w v ts) (hf : ∀ t ∈ ts, AllN Fits64 t) (hb : bTs ts ≤ 1048576) : Fis w v ts := by
  have h1 := len_bulk ts
  have hm : ∀ t ∈ ts, bT t ≤ 1048576 := fun t ht => by
    have := sum_mem bT ts t ht
    unfold bTs at hb
    rw [bTl_eq] at hb
    omega
  refine ⟨⟨h, by unfold bTs at hb; omega, fun t ht => ?_⟩, hf⟩
  obtain ⟨g1, g2⟩ := okt_of t (hm t ht)
  have := hm t ht
  exact ⟨g1, by omega⟩
set_option maxRecDepth 100000 in
theorem topens_contract (H : Type) (enc : TypeId × Value → H) (W : World) (base : Nat) (args : Array Value) (ds gs : List (DataW H)) (before : List MemPlace)
    (hval : ∀ (j : Nat) t v, Tryd.f4.params[j]? = some t → args[j]? = some v → Value.okWide Tryd.prog W .any base t v)
    (hW : DataW.Whole enc Tryd.prog Tryd.f4.params.toList Rows.teleOpensSpec.vars false W args.toList ds gs before) (hL : laidMet Tryd.prog Rows.teleOpensRow.laid W) (hU : Rows.uptoBulkAll (ds ++ gs) ≤ 1048576) :
    Calls Tryd.prog 4 args W fun e W' => ∃ v, e = .returned v ∧ Rows.teleOpensSpec.post enc Tryd.prog Tryd.f4 false true false false W args v W' := by
  have hW' := hW
  obtain ⟨p, q, hA0, hV, rfl, hfz, hnd⟩ := hW
  have hA : DataW.TrodAll enc Tryd.prog W 0 (fun _ => true) true Tryd.f4.params.toList args.toList ds p := hA0
  rw [Tryd.params4] at hA hval
  obtain ⟨v0, v1, v2, v3, d0, d1, d2, d3, p0, p1, p2, p3, rfl, rfl, rfl, h0, h1, h2, h3⟩ := trodAll_four hA
  obtain ⟨rfl, rfl⟩ := trodVars_none hV
  clear hA0
  simp only [List.append_nil] at hW' hU
  have k0 := h0
  have k1 := h1
  have k2 := h2
  have k3 := h3
  have lt0 : ∀ x ∈ p0, x.block < W.heap.size := by obtain ⟨m, hm⟩ := k0; exact DataW.trod_lt m _ _ _ hm
  have lt1 : ∀ x ∈ p1, x.block < W.heap.size := by obtain ⟨m, hm⟩ := k1; exact DataW.trod_lt m _ _ _ hm
  have lt2 : ∀ x ∈ p2, x.block < W.heap.size := by obtain ⟨m, hm⟩ := k2; exact DataW.trod_lt m _ _ _ hm
  have lt3 : ∀ x ∈ p3, x.block < W.heap.size := by obtain ⟨m, hm⟩ := k3; exact DataW.trod_lt m _ _ _ hm
  obtain ⟨f0, g0⟩ := h0
  obtain ⟨f1, g1⟩ := h1
  obtain ⟨f2, g2⟩ := h2
  obtain ⟨w0, row, hc0, hr0, hf0, hB0⟩ := tsn_of_trod g0
  obtain ⟨t, ⟨hr1, hf1⟩, hB1⟩ := tn_of_trod _ _ _ g1
  obtain ⟨w2, by_, hc2, hr2, hf2, hB2⟩ := tsn_of_trod g2
  obtain ⟨a0, len0, cap0, rfl⟩ := okWide_slice Tryd.underlying28 (hval 0 28 v0 rfl rfl)
  obtain ⟨cs1, rfl, -⟩ := okWide_struct Tryd.underlying30 (hval 1 30 v1 rfl rfl)
  obtain ⟨a2, len2, cap2, rfl⟩ := okWide_slice Tryd.underlying28 (hval 2 28 v2 rfl rfl)
  obtain ⟨n3, rfl⟩ := okWide_int Tryd.underlying3 (hval 3 3 v3 rfl rfl)
  simp [Value.cells] at hc0 hc2
  subst hc0; subst hc2
  simp only [Rows.uptoBulkAll] at hU
  have hB0' : bTs row ≤ Rows.uptoBulk d0 := hB0
  have hB1' : bT t ≤ Rows.uptoBulk d1 := hB1
  have hB2' : bTs by_ ≤ Rows.uptoBulk d2 := hB2
  have ht : Fi W t cs1.toList := by
    obtain ⟨e1, e2⟩ := okt_of t (by omega)
    have e3 : RdT W t cs1.toList := hr1
    exact ⟨⟨e3, e1, by omega⟩, hf1⟩
  have n1 := nodes_bulk t
  have n2 := nodesL_bulk row
  have n3' := len_bulk row
  have n4 := nodesL_bulk by_
  have b1 : bTs row = bTl row + 1 := rfl
  have b2 : bTs by_ = bTl by_ + 1 := rfl
  have hM : (t.nodes + Tm.nodesL row + row.length + 1) * (Tm.nodesL by_ + 1) ≤ 1099511627775 := by
    have h1 : t.nodes + Tm.nodesL row + row.length + 1 ≤ 524288 := by omega
    have h2 : Tm.nodesL by_ + 1 ≤ 524288 := by omega
    exact Nat.le_trans (Nat.mul_le_mul h1 h2) (by decide)
  have hcall := PCarryNames.topens_any row by_ t _ _ cs1.toList n3 W (kinds_of_laid hL) (row_of hr0 hf0 (by omega)) ht (row_of hr2 hf2 (by omega)) hM
  rw [show cs1.toList.toArray = cs1 from rfl] at hcall
  refine hcall.mono fun e W' ⟨he, bel⟩ => ?_
  subst he
  refine ⟨_, rfl, _, _, _, [], p0 ++ (p1 ++ (p2 ++ p3)), [], hW', trodAll_mk1 (shut_bool Tryd.underlying4 _), ?_, rfl, bel.frame _, fun h => by cases h⟩
  exact trodAll_mk4 (Below.trod laidOutB' (by kernel_rfl) (of_decide_eq_true (by kernel_rfl)) k0 bel lt0) (Below.trod laidOutB' (by kernel_rfl) (of_decide_eq_true (by kernel_rfl)) k1 bel lt1)
    (Below.trod laidOutB' (by kernel_rfl) (of_decide_eq_true (by kernel_rfl)) k2 bel lt2) (Below.trod laidOutB' (by kernel_rfl) (of_decide_eq_true (by kernel_rfl)) k3 bel lt3)
def zeroArgs : Array Value := #[.slice none 0 0, .agg #[.int .i64 0, .int .i64 0, .int .i64 0, .slice none 0 0, .slice none 0 0], .slice none 0 0, .int .i64 0]
theorem topens_reads (os : Os) {H : Type} (enc : TypeId × Value → H) : ∃ places, DataW.whole enc Tryd.prog ((kindsWorld os).forCall (fun _ _ => 0) ⟨#[], zeroArgs, []⟩).memory Tryd.f4.params.toList Rows.teleOpensSpec.vars false zeroArgs.toList 8 = some ([.nil, .agg [.lit (.int .i64 0), .lit (.int .i64 0), .lit (.int .i64 0), .nil, .nil], .nil, .lit (.int .i64 0)], [], places) :=
  ⟨[], by kernel_rfl⟩
set_option maxRecDepth 100000 in
theorem topens_lifted (os : Os) (started : os.Started) (H : Type) (enc : TypeId × Value → H) (F : Stop.Interp) :
    ReturnsInHanded {} Tryd.checked os 4 .any ((Rows.OpenSpec.upto Rows.teleOpensSpec).preRow enc Tryd.prog Tryd.f4 Rows.teleOpensUptoRow.domain false Rows.teleOpensUptoRow.laid) (((Rows.OpenSpec.upto Rows.teleOpensSpec).at F).post enc Tryd.prog Tryd.f4 false true false false) := by
  obtain ⟨places, hx⟩ := topens_reads os enc
  refine returnsInHanded_of_row (C := Tryd.checked) (s := Rows.OpenSpec.upto Rows.teleOpensSpec) ownK started (by kernel_rfl) Tryd.func4
    (witness_row_at (enc := enc) (C := Tryd.checked) false (kindsWorld os) zeroArgs rfl (by kernel_rfl) (by kernel_rfl) (by kernel_rfl)
      (OpenSpec.preRow_of_cond 8 hx (by kernel_rfl) (fun k hk => by cases hk; kernel_rfl) (by kernel_rfl) (kindsWorld_met os _))) ?_
  intro W base args ds gs before hval hW _ hcond _ hL _ _
  exact topens_contract H enc W base args ds gs before hval hW hL (of_decide_eq_true (hcond _ rfl))
theorem topens_said : Rows.TeleOpensUptoSaid :=
  OpenClaim.holds_of_cond 4 Tryd.f4 rfl rfl rfl rfl rfl rfl rfl ⟨rfl, rfl, rfl, rfl, rfl⟩ rfl rfl rfl rfl rfl (by kernel_rfl) Tryd.func4 (by kernel_rfl)
    (of_decide_eq_true (by kernel_rfl)) (by unfold Func.isWrapper; first | (rw [if_pos (by decide +kernel)]; kernel_rfl) | (rw [if_neg (by decide +kernel)]; exact ⟨rfl, rfl⟩))
    (fun os started H enc _ F => by rw [OpenClaim.pre_eq_preRow]; exact topens_lifted os started H enc F)
theorem topens_plain (f : FuncId) (fn : Func) (hf : Tryd.pinned.checked.prog.funcNamed "spandrel/spandrellaw04.TeleOpens" = some f) (hfn : Tryd.pinned.checked.prog.funcs[f]? = some fn) :
    true = Tryd.pinned.checked.prog.looks [] ∧ ∀ (j : Nat) t, fn.params[j]? = some t → Tryd.pinned.checked.prog.wantsStandIn t = false := by
  obtain rfl : f = 4 := Option.some.inj ((show Tryd.prog.funcNamed "spandrel/spandrellaw04.TeleOpens" = some 4 by kernel_rfl).symm.trans hf) |>.symm
  obtain rfl : fn = Tryd.f4 := (Option.some.inj (Tryd.func4.symm.trans hfn)).symm
  refine ⟨by kernel_rfl, fun j t ht => ?_⟩
  rw [Tryd.params4] at ht
  have h1 : Tryd.prog.wantsStandIn 28 = false := by kernel_rfl
  have h2 : Tryd.prog.wantsStandIn 30 = false := by kernel_rfl
  have h3 : Tryd.prog.wantsStandIn 3 = false := by kernel_rfl
  have hm := Array.mem_of_getElem? ht
  simp at hm
  rcases hm with rfl | rfl | rfl | rfl
  · exact h1
  · exact h2
  · exact h1
  · exact h3
theorem TeleOpens : Rows.TeleOpensUptoCardSaid :=
  Claim7.holds_tied_plain_at .later [] _ _ _ _ topens_said (fun _ h => by cases h) (by kernel_rfl) (fun _ h => by cases h) teleOpensUpto_row_tie rfl ⟨rfl, rfl⟩ (by kernel_rfl) rfl topens_plain (by kernel_rfl)
#print axioms TeleOpens
end Go.Proofs.YtebgldnlkkhejaaDoor
