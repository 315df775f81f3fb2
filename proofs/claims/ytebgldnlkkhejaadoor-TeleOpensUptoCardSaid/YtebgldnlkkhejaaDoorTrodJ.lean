/- From the form's reading of an argument (DataW.trod) to ours (RdT, RdTs), with its bulk; its numbers fit. -/
import Derived.Test.YtebgldnlkkhejaaDoorRows
import Derived.Test.YtebgldnlkkhejaaDoorKitA
import Derived.ChangeArms
namespace Go.Proofs.YtebgldnlkkhejaaDoor
open Go Go.RowKit
set_option linter.unusedVariables false
set_option maxRecDepth 100000

/-! ### Bulk -/
def bLv (l : Lv) : Nat := 3 * l.length + 2
def bLvs (lv : List Lv) : Nat := (lv.map bLv).sum + 1
mutual
def bT : Tm → Nat
  | .mk _ _ _ lv kids => bLvs lv + (bTl kids + 1) + 4
def bTl : List Tm → Nat
  | [] => 0
  | t :: ts => bT t + bTl ts
end
theorem bTl_eq : ∀ ts, bTl ts = (ts.map bT).sum
  | [] => by simp [bTl]
  | t :: ts => by simp [bTl, bTl_eq ts]
def bTs (ts : List Tm) : Nat := bTl ts + 1
theorem bT_pos (t : Tm) : 1 ≤ bT t := by cases t; simp [bT]
theorem sum_mem {α : Type} (B : α → Nat) : ∀ (xs : List α) (x : α), x ∈ xs → B x ≤ (xs.map B).sum
  | [], _, h => by cases h
  | y :: ys, x, h => by
    rcases List.mem_cons.1 h with rfl | h
    · simp
    · have := sum_mem B ys x h; simp; omega
theorem sum_len {α : Type} (B : α → Nat) (hB : ∀ x, 1 ≤ B x) : ∀ (xs : List α), xs.length ≤ (xs.map B).sum
  | [] => by simp
  | y :: ys => by have := sum_len B hB ys; have := hB y; simp; omega
theorem sum3 {α : Type} : ∀ l : List α, (l.map (fun _ => 3)).sum = 3 * l.length
  | [] => rfl
  | x :: l => by have := sum3 l; simp only [List.map_cons, List.sum_cons, List.length_cons]; omega
theorem okl_of {lv : List Lv} (h : bLvs lv ≤ 1048576) : Okl lv := by
  unfold bLvs at h
  refine ⟨by have := sum_len bLv (fun l => by unfold bLv; omega) lv; omega, fun l hl => ?_⟩
  have h1 := sum_mem bLv lv l hl
  have h2 : bLv l = 3 * l.length + 2 := rfl
  omega
theorem nodes_bulk : ∀ t : Tm, 6 * t.nodes ≤ bT t := by
  intro t
  induction t using Tm.ind with
  | h k n a lv kids ih =>
    have key : ∀ ts : List Tm, (∀ t ∈ ts, 6 * t.nodes ≤ bT t) → 6 * Tm.nodesL ts ≤ bTl ts := by
      intro ts
      induction ts with
      | nil => intro _; simp [Tm.nodesL, bTl]
      | cons t ts iht =>
        intro hh
        have h1 := hh t (by simp)
        have h2 := iht (fun t ht => hh t (by simp [ht]))
        simp only [Tm.nodesL, bTl]
        omega
    have := key kids ih
    simp only [Tm.nodes, bT, bLvs]
    omega
theorem nodesL_bulk : ∀ ts : List Tm, 6 * Tm.nodesL ts ≤ bTl ts
  | [] => by simp [Tm.nodesL, bTl]
  | t :: ts => by
    have h1 := nodes_bulk t
    have h2 := nodesL_bulk ts
    simp only [Tm.nodesL, bTl]
    omega
theorem len_bulk : ∀ ts : List Tm, 6 * ts.length ≤ bTl ts
  | [] => by simp [bTl]
  | t :: ts => by
    have h1 := nodes_bulk t
    have h3 : 1 ≤ t.nodes := by cases t; simp [Tm.nodes]
    have h2 := len_bulk ts
    simp only [List.length_cons, bTl]
    omega
theorem okt_of : ∀ t : Tm, bT t ≤ 1048576 → Okt t ∧ t.nodes ≤ bT t := by
  intro t
  induction t using Tm.ind with
  | h k n a lv kids ih =>
    intro h
    simp only [bT] at h
    have hk : ∀ t ∈ kids, bT t ≤ 1048576 := fun t ht => by have := sum_mem bT kids t ht; rw [bTl_eq] at h; omega
    refine ⟨.mk (okl_of (by omega)) (by have := sum_len bT bT_pos kids; rw [bTl_eq] at h; omega) (fun t ht => (ih t ht (hk t ht)).1), ?_⟩
    have key : ∀ ts : List Tm, (∀ t ∈ ts, t.nodes ≤ bT t) → Tm.nodesL ts ≤ bTl ts := by
      intro ts
      induction ts with
      | nil => intro _; simp [Tm.nodesL, bTl]
      | cons t ts iht =>
        intro hh
        have h1 := hh t (by simp)
        have h2 := iht (fun t ht => hh t (by simp [ht]))
        simp only [Tm.nodesL, bTl]
        omega
    have := key kids (fun t ht => (ih t ht (hk t ht)).2)
    simp only [Tm.nodes, bT]
    omega

/-! ### Rows -/
theorem RdL.ofGet {α : Type} {R : α → List Value → Prop} {sz : Nat} {w : World} {b : Nat} : ∀ {xs : List α} {o : Nat}, (∀ i x, xs[i]? = some x → ∃ cs, cs.length = sz ∧ R x cs ∧ AtP w b (o + i * sz) cs) → RdL R sz w b o xs
  | [], _, _ => trivial
  | x :: xs, o, h => by
    obtain ⟨cs, h1, h2, h3⟩ := h 0 x rfl
    refine ⟨⟨cs, h1, h2, by simpa using h3⟩, RdL.ofGet (fun i y hy => ?_)⟩
    obtain ⟨cs, h1, h2, h3⟩ := h (i + 1) y (by simpa using hy)
    exact ⟨cs, h1, h2, by rwa [show o + sz + i * sz = o + (i + 1) * sz by rw [Nat.add_mul]; omega]⟩
theorem buildL {α β : Type} (Q : Nat → β → α → Prop) : ∀ (ys : List β) (o : Nat), (∀ i y, ys[i]? = some y → ∃ x, Q (o + i) y x) → ∃ xs : List α, xs.length = ys.length ∧ ∀ i y x, ys[i]? = some y → xs[i]? = some x → Q (o + i) y x
  | [], o, _ => ⟨[], rfl, fun i y x h => by simp at h⟩
  | y :: ys, o, h => by
    obtain ⟨x, hx⟩ := h 0 y rfl
    obtain ⟨xs, h1, h2⟩ := buildL Q ys (o + 1) (fun i z hz => by
      obtain ⟨x, hx⟩ := h (i + 1) z (by simpa using hz)
      exact ⟨x, by rwa [show o + 1 + i = o + (i + 1) by omega]⟩)
    refine ⟨x :: xs, by simp [h1], fun i z u hz hu => ?_⟩
    cases i with
    | zero => simp at hz hu; subst hz; subst hu; exact hx
    | succ i => have := h2 i z u (by simpa using hz) (by simpa using hu); rwa [show o + 1 + i = o + (i + 1) by omega] at this
theorem sum_le {α β : Type} (B : α → Nat) (C : β → Nat) : ∀ (xs : List α) (ys : List β), xs.length = ys.length → (∀ (i : Nat) (y : β) (x : α), ys[i]? = some y → xs[i]? = some x → B x ≤ C y) → (xs.map B).sum ≤ (ys.map C).sum
  | [], [], _, _ => by simp
  | x :: xs, y :: ys, hl, h => by
    have h1 := h 0 y x rfl rfl
    have h2 := sum_le B C xs ys (by simpa using hl) (fun i z u hz hu => h (i + 1) z u (by simpa using hz) (by simpa using hu))
    simp; omega
theorem bulkAll_eq {H : Type} : ∀ ds : List (DataW H), Rows.uptoBulkAll ds = (ds.map Rows.uptoBulk).sum
  | [] => by simp [Rows.uptoBulkAll]
  | d :: ds => by simp [Rows.uptoBulkAll, bulkAll_eq ds]

section
variable {H : Type} {enc : TypeId × Value → H} {W : World} {base : Nat} {sp : Nat → Bool} {held : Bool}
theorem rdS_of_trod {α : Type} {R : α → List Value → Prop} {B : α → Nat} {T e sz : Nat} (hT : Tryd.prog.underlying T = some (.slice e)) (hsz : Tryd.prog.cellsOf e = sz) (hs : 0 < sz) {fuel : Nat} {cs : List Value} {y : DataW H × List MemPlace}
    (h : DataW.trod enc Tryd.prog W base sp held fuel T cs = some y)
    (hR : ∀ m, m < fuel → ∀ cs y, DataW.trod enc Tryd.prog W base sp held m e cs = some y → ∃ x, R x cs ∧ B x ≤ Rows.uptoBulk y.1) :
    ∃ v xs, cs = [v] ∧ RdS R sz W v xs ∧ (xs.map B).sum + 1 ≤ Rows.uptoBulk y.1 := by
  rcases DataW.trod_slice hT h with ⟨rfl, rfl⟩ | ⟨a, len, cap, elems, rest, n, rfl, rfl, rfl, _, hl, hm, hel, hx, _⟩
  · exact ⟨_, [], rfl, ⟨none, 0, rfl, by simp, by simp, .inl rfl⟩, by simp [Rows.uptoBulk]⟩
  · rw [hsz] at hx
    have hq : ∀ i y, elems[i]? = some y → ∃ x, ∃ cs, W.cells? base (a.add (i * sz)) sz = some cs ∧ R x cs ∧ B x ≤ Rows.uptoBulk y.1 := by
      intro i y hy
      have hi := (List.getElem?_eq_some_iff.1 hy).1
      have h0 := hx i (by omega)
      rw [hy] at h0
      obtain ⟨cs, h1, h2⟩ := Option.bind_eq_some_iff.1 h0
      obtain ⟨x, h3, h4⟩ := hR n (by omega) cs y h2
      exact ⟨x, cs, h1, h3, h4⟩
    obtain ⟨xs, hxl, hxs⟩ := buildL (fun i (y : DataW H × List MemPlace) x => ∃ cs, W.cells? base (a.add (i * sz)) sz = some cs ∧ R x cs ∧ B x ≤ Rows.uptoBulk y.1) elems 0 (fun i y hy => by rw [Nat.zero_add]; exact hq i y hy)
    have hlen : xs.length = len := by omega
    have hmm : cap ≤ 9223372036854775807 := by simpa [maxLen] using hm
    refine ⟨_, xs, rfl, ⟨some a, cap, by rw [hlen], by omega, by omega, ?_⟩, ?_⟩
    · by_cases h0 : xs = []
      · exact .inl h0
      have hp : 0 < xs.length := List.length_pos_iff.2 h0
      have hspot : a.spot = none := by
        obtain ⟨cs, h1, _, _⟩ := hxs 0 elems[0] xs[0] (List.getElem?_eq_getElem (by omega)) (List.getElem?_eq_getElem hp)
        obtain ⟨_, hlen1, hcell⟩ := World.cells?_some h1
        have h2 := hcell 0 hs
        rw [List.getElem?_eq_getElem (by omega)] at h2
        have := World.cell?_spot h2
        simpa [Addr.add] using this
      obtain ⟨b, o, s⟩ := a
      have hspot : s = none := hspot
      subst hspot
      refine .inr ⟨b, o, rfl, RdL.ofGet (fun i x hx' => ?_)⟩
      have hi := (List.getElem?_eq_some_iff.1 hx').1
      obtain ⟨cs, h1, h2, _⟩ := hxs i elems[i] x (List.getElem?_eq_getElem (by omega)) hx'
      obtain ⟨_, hlen1, hcell⟩ := World.cells?_some h1
      refine ⟨cs, hlen1, h2, fun j u hj => ?_⟩
      have hj' : j < sz := by have := (List.getElem?_eq_some_iff.1 hj).1; omega
      have := hcell j hj'
      rw [hj] at this
      rwa [Nat.zero_add, addr0, addr0] at this
    · have := sum_le B (fun y : DataW H × List MemPlace => Rows.uptoBulk y.1) xs elems hxl (fun i y x hy hx' => by obtain ⟨_, _, _, h⟩ := hxs i y x hy hx'; exact h)
      simp only [Rows.uptoBulk, bulkAll_eq, List.map_map]
      have e : (elems.map (Rows.uptoBulk ∘ fun x => x.1)).sum = (elems.map (fun y => Rows.uptoBulk y.1)).sum := rfl
      omega
theorem cInt : Tryd.prog.cellsOf 3 = 1 := by kernel_rfl
theorem cPa : Tryd.prog.cellsOf 117 = 2 := by kernel_rfl
theorem cLv : Tryd.prog.cellsOf 38 = 1 := by kernel_rfl
theorem cTm : Tryd.prog.cellsOf 30 = 5 := by kernel_rfl
theorem cPas : Tryd.prog.cellsOf 36 = 1 := by kernel_rfl
theorem cLvs : Tryd.prog.cellsOf 27 = 1 := by kernel_rfl
theorem cTms : Tryd.prog.cellsOf 28 = 1 := by kernel_rfl
theorem cKind : Tryd.prog.cellsOf 26 = 1 := by kernel_rfl
theorem pa_of_trod {fuel : Nat} {cs : List Value} {y : DataW H × List MemPlace} (h : DataW.trod enc Tryd.prog W base sp held fuel 117 cs = some y) : ∃ p, RPa p cs ∧ 3 ≤ Rows.uptoBulk y.1 := by
  obtain ⟨xs, n, rfl, rfl, hl, hlen, hf⟩ := DataW.trod_struct Tryd.underlying117 h
  rw [cPa] at hl
  match xs, hlen, hf with
  | [x0, x1], _, hf =>
    have h0 : DataW.trod enc Tryd.prog W base sp held n 3 ((cs.drop 0).take 1) = some x0 := hf 0 _ rfl
    have h1 : DataW.trod enc Tryd.prog W base sp held n 3 ((cs.drop 1).take 1) = some x1 := hf 1 _ rfl
    obtain ⟨n0, hc0, rfl, _⟩ := DataW.trod_int Tryd.underlying3 h0
    obtain ⟨n1, hc1, rfl, _⟩ := DataW.trod_int Tryd.underlying3 h1
    match cs, hl with
    | [c0, c1], _ =>
      simp at hc0 hc1
      subst hc0; subst hc1
      exact ⟨(n0, n1), rfl, by simp [Rows.uptoBulk, Rows.uptoBulkAll]⟩
theorem lv_of_trod {fuel : Nat} {cs : List Value} {y : DataW H × List MemPlace} (h : DataW.trod enc Tryd.prog W base sp held fuel 38 cs = some y) : ∃ l, (∃ u, cs = [u] ∧ RdLv W u l) ∧ bLv l ≤ Rows.uptoBulk y.1 := by
  obtain ⟨xs, n, rfl, rfl, hl, hlen, hf⟩ := DataW.trod_struct Tryd.underlying38 h
  rw [cLv] at hl
  match xs, hlen, hf with
  | [x0], _, hf =>
    have h0 : DataW.trod enc Tryd.prog W base sp held n 36 ((cs.drop 0).take 1) = some x0 := hf 0 _ rfl
    rw [List.drop_zero, List.take_of_length_le (by omega)] at h0
    obtain ⟨v, l, rfl, hr, hb⟩ := rdS_of_trod (R := RPa) (B := fun _ => 3) Tryd.underlying36 cPa (by decide) (y := x0) h0 (fun m _ cs y h => pa_of_trod h)
    refine ⟨l, ⟨v, rfl, hr⟩, ?_⟩
    rw [sum3] at hb
    simp [Rows.uptoBulk, Rows.uptoBulkAll, bLv] at hb ⊢
    omega
theorem lvs_of_trod {fuel : Nat} {cs : List Value} {y : DataW H × List MemPlace} (h : DataW.trod enc Tryd.prog W base sp held fuel 27 cs = some y) : ∃ v lv, cs = [v] ∧ RdLvs W v lv ∧ bLvs lv ≤ Rows.uptoBulk y.1 :=
  rdS_of_trod (B := bLv) Tryd.underlying27 cLv (by decide) h (fun m _ cs y h => lv_of_trod h)
/-- A number that fits an int. -/
abbrev Fits64 (n : Int) : Prop := -9223372036854775808 ≤ n ∧ n ≤ 9223372036854775807
theorem fits_of_wf {n : Int} (h : (Lit.int .i64 n).wf = true) : Fits64 n := by
  simp only [Lit.wf, Bool.and_eq_true, decide_eq_true_eq] at h
  have h1 : IntKind.i64.min = -9223372036854775808 := by decide
  have h2 : IntKind.i64.max = 9223372036854775807 := by decide
  rw [h1, h2] at h
  exact h
theorem RdL.part {α : Type} {R R' : α → List Value → Prop} {sz : Nat} {w : World} {b : Nat} : ∀ {xs : List α} {o : Nat}, RdL (fun x cs => R x cs ∧ R' x cs) sz w b o xs → RdL R sz w b o xs ∧ ∀ x ∈ xs, ∃ cs, R' x cs
  | [], _, _ => ⟨trivial, by simp⟩
  | x :: xs, o, ⟨⟨cs, h1, ⟨h2, h3⟩, h4⟩, h5⟩ => by
    obtain ⟨g1, g2⟩ := h5.part
    refine ⟨⟨⟨cs, h1, h2, h4⟩, g1⟩, fun y hy => ?_⟩
    rcases List.mem_cons.1 hy with rfl | hy
    · exact ⟨cs, h3⟩
    · exact g2 y hy
theorem RdS.part {α : Type} {R : α → List Value → Prop} {p : α → Prop} {sz : Nat} {w : World} {v : Value} {xs : List α} (h : RdS (fun x cs => R x cs ∧ p x) sz w v xs) : RdS R sz w v xs ∧ ∀ x ∈ xs, p x := by
  obtain ⟨A, c, hv, h1, h2, h3⟩ := h
  rcases h3 with rfl | ⟨b, o, hA, h3⟩
  · exact ⟨⟨A, c, hv, h1, h2, .inl rfl⟩, by simp⟩
  · obtain ⟨g1, g2⟩ := RdL.part (R' := fun x _ => p x) h3
    exact ⟨⟨A, c, hv, h1, h2, .inr ⟨b, o, hA, g1⟩⟩, fun x hx => by obtain ⟨_, h⟩ := g2 x hx; exact h⟩
theorem tn_of_trod : ∀ (fuel : Nat) (cs : List Value) (y : DataW H × List MemPlace), DataW.trod enc Tryd.prog W base sp held fuel 30 cs = some y → ∃ t, (RdT W t cs ∧ AllN Fits64 t) ∧ bT t ≤ Rows.uptoBulk y.1 := by
  intro fuel
  induction fuel using Nat.strongRecOn with
  | _ fuel ih =>
  intro cs y h
  obtain ⟨xs, n, rfl, rfl, hl, hlen, hf⟩ := DataW.trod_struct Tryd.underlying30 h
  rw [cTm] at hl
  match xs, hlen, hf with
  | [x0, x1, x2, x3, x4], _, hf =>
    have h0 : DataW.trod enc Tryd.prog W base sp held n 26 ((cs.drop 0).take 1) = some x0 := hf 0 _ rfl
    have h1 : DataW.trod enc Tryd.prog W base sp held n 3 ((cs.drop 1).take 1) = some x1 := hf 1 _ rfl
    have h2 : DataW.trod enc Tryd.prog W base sp held n 3 ((cs.drop 2).take 1) = some x2 := hf 2 _ rfl
    have h3 : DataW.trod enc Tryd.prog W base sp held n 27 ((cs.drop 3).take 1) = some x3 := hf 3 _ rfl
    have h4 : DataW.trod enc Tryd.prog W base sp held n 28 ((cs.drop 4).take 1) = some x4 := hf 4 _ rfl
    match cs, hl with
    | [c0, c1, c2, c3, c4], _ =>
      obtain ⟨n0, hc0, rfl, _⟩ := DataW.trod_int Tryd.underlying26 h0
      obtain ⟨n1, hc1, rfl, hw1⟩ := DataW.trod_int Tryd.underlying3 h1
      obtain ⟨n2, hc2, rfl, _⟩ := DataW.trod_int Tryd.underlying3 h2
      simp at hc0 hc1 hc2
      subst hc0; subst hc1; subst hc2
      obtain ⟨v3, lv, hc3, hr3, hb3⟩ := lvs_of_trod (y := x3) h3
      obtain ⟨v4, kids, hc4, hr4, hb4⟩ := rdS_of_trod (R := fun t cs => RdT W t cs ∧ AllN Fits64 t) (B := bT) Tryd.underlying28 cTm (by decide) (y := x4) h4 (fun m hm cs y h => ih m (by omega) cs y h)
      simp at hc3 hc4
      subst hc3; subst hc4
      obtain ⟨hr5, hr6⟩ := RdS.part hr4
      refine ⟨.mk n0 n1 n2 lv kids, ⟨(RdT_mk ..).2 ⟨_, _, rfl, hr3, hr5⟩, .mk (fits_of_wf hw1) hr6⟩, ?_⟩
      simp [Rows.uptoBulk, Rows.uptoBulkAll, bT, bTl_eq] at hb4 ⊢
      omega
theorem t_of_trod : ∀ (fuel : Nat) (cs : List Value) (y : DataW H × List MemPlace), DataW.trod enc Tryd.prog W base sp held fuel 30 cs = some y → ∃ t, RdT W t cs ∧ bT t ≤ Rows.uptoBulk y.1 := fun fuel cs y h => by
  obtain ⟨t, ⟨h1, _⟩, h2⟩ := tn_of_trod fuel cs y h
  exact ⟨t, h1, h2⟩
theorem tsn_of_trod {fuel : Nat} {cs : List Value} {y : DataW H × List MemPlace} (h : DataW.trod enc Tryd.prog W base sp held fuel 28 cs = some y) : ∃ v ts, cs = [v] ∧ RdTs W v ts ∧ (∀ t ∈ ts, AllN Fits64 t) ∧ bTs ts ≤ Rows.uptoBulk y.1 := by
  obtain ⟨v, ts, h1, h2, h3⟩ := rdS_of_trod (R := fun t cs => RdT W t cs ∧ AllN Fits64 t) (B := bT) Tryd.underlying28 cTm (by decide) h (fun m _ cs y h => tn_of_trod m cs y h)
  obtain ⟨g1, g2⟩ := RdS.part h2
  exact ⟨v, ts, h1, g1, g2, by unfold bTs; rw [bTl_eq]; exact h3⟩
theorem ts_of_trod {fuel : Nat} {cs : List Value} {y : DataW H × List MemPlace} (h : DataW.trod enc Tryd.prog W base sp held fuel 28 cs = some y) : ∃ v ts, cs = [v] ∧ RdTs W v ts ∧ bTs ts ≤ Rows.uptoBulk y.1 := by
  obtain ⟨v, ts, h1, h2, h3⟩ := rdS_of_trod (R := RdT W) (B := bT) Tryd.underlying28 cTm (by decide) h (fun m _ cs y h => t_of_trod m cs y h)
  exact ⟨v, ts, h1, h2, by unfold bTs; rw [bTl_eq]; exact h3⟩
end
end Go.Proofs.YtebgldnlkkhejaaDoor
