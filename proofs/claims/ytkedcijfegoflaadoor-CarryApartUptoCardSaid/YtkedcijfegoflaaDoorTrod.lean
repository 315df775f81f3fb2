/- From the form's reading of an argument (DataW.trod) to ours (RdT, RdDs ..), with its bulk. -/
import Derived.Test.YtkedcijfegoflaaDoorRows
import Derived.Test.YtkedcijfegoflaaDoorMust
import Derived.ChangeArms
namespace Go.Proofs.YtkedcijfegoflaaDoor
open Go Go.RowKit
set_option linter.unusedVariables false
set_option maxRecDepth 100000

/-! ### Bulk -/
def bLv (l : Lv) : Nat := 3 * l.length + 2
def bLvs (lv : List Lv) : Nat := (lv.map bLv).sum + 1
mutual
def bT : Tm → Nat
  | .mk _ _ _ lv kids => bLvs lv + (bTl kids + 1) + 4
def bTl : List Tm → Nat
  | [] => 0
  | t :: ts => bT t + bTl ts
end
theorem bTl_eq : ∀ ts, bTl ts = (ts.map bT).sum
  | [] => by simp [bTl]
  | t :: ts => by simp [bTl, bTl_eq ts]
def bTs (ts : List Tm) : Nat := bTl ts + 1
def bM (m : List Tm) : Nat := bTs m + 1
def bC (c : Int × Tm) : Nat := bT c.2 + 2
def bD (d : Dc) : Nat := bT d.type + bT d.body + bTs d.params + bLv d.sort + ((d.members.map bM).sum + 1) + ((d.ctors.map bC).sum + 1) + 3
def bDs (ds : List Dc) : Nat := (ds.map bD).sum + 1
theorem bT_pos (t : Tm) : 1 ≤ bT t := by cases t; simp [bT]
theorem sum_mem {α : Type} (B : α → Nat) : ∀ (xs : List α) (x : α), x ∈ xs → B x ≤ (xs.map B).sum
  | [], _, h => by cases h
  | y :: ys, x, h => by
    rcases List.mem_cons.1 h with rfl | h
    · simp
    · have := sum_mem B ys x h; simp; omega
theorem sum_len {α : Type} (B : α → Nat) (hB : ∀ x, 1 ≤ B x) : ∀ (xs : List α), xs.length ≤ (xs.map B).sum
  | [] => by simp
  | y :: ys => by have := sum_len B hB ys; have := hB y; simp; omega
theorem sum3 {α : Type} : ∀ l : List α, (l.map (fun _ => 3)).sum = 3 * l.length
  | [] => rfl
  | x :: l => by have := sum3 l; simp only [List.map_cons, List.sum_cons, List.length_cons]; omega
theorem okl_of {lv : List Lv} (h : bLvs lv ≤ 1048576) : Okl lv := by
  unfold bLvs at h
  refine ⟨by have := sum_len bLv (fun l => by unfold bLv; omega) lv; omega, fun l hl => ?_⟩
  have h1 := sum_mem bLv lv l hl
  have h2 : bLv l = 3 * l.length + 2 := rfl
  omega
theorem okt_of : ∀ t : Tm, bT t ≤ 1048576 → Okt t ∧ t.nodes ≤ bT t := by
  intro t
  induction t using Tm.ind with
  | h k n a lv kids ih =>
    intro h
    simp only [bT] at h
    have hk : ∀ t ∈ kids, bT t ≤ 1048576 := fun t ht => by have := sum_mem bT kids t ht; rw [bTl_eq] at h; omega
    refine ⟨.mk (okl_of (by omega)) (by have := sum_len bT bT_pos kids; rw [bTl_eq] at h; omega) (fun t ht => (ih t ht (hk t ht)).1), ?_⟩
    have key : ∀ ts : List Tm, (∀ t ∈ ts, t.nodes ≤ bT t) → Tm.nodesL ts ≤ bTl ts := by
      intro ts
      induction ts with
      | nil => intro _; simp [Tm.nodesL, bTl]
      | cons t ts iht =>
        intro hh
        have h1 := hh t (by simp)
        have h2 := iht (fun t ht => hh t (by simp [ht]))
        simp only [Tm.nodesL, bTl]
        omega
    have := key kids (fun t ht => (ih t ht (hk t ht)).2)
    simp only [Tm.nodes, bT]
    omega

/-! ### Rows -/
theorem RdL.ofGet {α : Type} {R : α → List Value → Prop} {sz : Nat} {w : World} {b : Nat} : ∀ {xs : List α} {o : Nat}, (∀ i x, xs[i]? = some x → ∃ cs, cs.length = sz ∧ R x cs ∧ AtP w b (o + i * sz) cs) → RdL R sz w b o xs
  | [], _, _ => trivial
  | x :: xs, o, h => by
    obtain ⟨cs, h1, h2, h3⟩ := h 0 x rfl
    refine ⟨⟨cs, h1, h2, by simpa using h3⟩, RdL.ofGet (fun i y hy => ?_)⟩
    obtain ⟨cs, h1, h2, h3⟩ := h (i + 1) y (by simpa using hy)
    exact ⟨cs, h1, h2, by rwa [show o + sz + i * sz = o + (i + 1) * sz by rw [Nat.add_mul]; omega]⟩
theorem buildL {α β : Type} (Q : Nat → β → α → Prop) : ∀ (ys : List β) (o : Nat), (∀ i y, ys[i]? = some y → ∃ x, Q (o + i) y x) → ∃ xs : List α, xs.length = ys.length ∧ ∀ i y x, ys[i]? = some y → xs[i]? = some x → Q (o + i) y x
  | [], o, _ => ⟨[], rfl, fun i y x h => by simp at h⟩
  | y :: ys, o, h => by
    obtain ⟨x, hx⟩ := h 0 y rfl
    obtain ⟨xs, h1, h2⟩ := buildL Q ys (o + 1) (fun i z hz => by
      obtain ⟨x, hx⟩ := h (i + 1) z (by simpa using hz)
      exact ⟨x, by rwa [show o + 1 + i = o + (i + 1) by omega]⟩)
    refine ⟨x :: xs, by simp [h1], fun i z u hz hu => ?_⟩
    cases i with
    | zero => simp at hz hu; subst hz; subst hu; exact hx
    | succ i => have := h2 i z u (by simpa using hz) (by simpa using hu); rwa [show o + 1 + i = o + (i + 1) by omega] at this
theorem sum_le {α β : Type} (B : α → Nat) (C : β → Nat) : ∀ (xs : List α) (ys : List β), xs.length = ys.length → (∀ (i : Nat) (y : β) (x : α), ys[i]? = some y → xs[i]? = some x → B x ≤ C y) → (xs.map B).sum ≤ (ys.map C).sum
  | [], [], _, _ => by simp
  | x :: xs, y :: ys, hl, h => by
    have h1 := h 0 y x rfl rfl
    have h2 := sum_le B C xs ys (by simpa using hl) (fun i z u hz hu => h (i + 1) z u (by simpa using hz) (by simpa using hu))
    simp; omega
theorem bulkAll_eq {H : Type} : ∀ ds : List (DataW H), Rows.uptoBulkAll ds = (ds.map Rows.uptoBulk).sum
  | [] => by simp [Rows.uptoBulkAll]
  | d :: ds => by simp [Rows.uptoBulkAll, bulkAll_eq ds]

section
variable {H : Type} {enc : TypeId × Value → H} {W : World} {base : Nat} {sp : Nat → Bool} {held : Bool}
theorem rdS_of_trod {α : Type} {R : α → List Value → Prop} {B : α → Nat} {T e sz : Nat} (hT : Tryd.prog.underlying T = some (.slice e)) (hsz : Tryd.prog.cellsOf e = sz) (hs : 0 < sz) {fuel : Nat} {cs : List Value} {y : DataW H × List MemPlace}
    (h : DataW.trod enc Tryd.prog W base sp held fuel T cs = some y)
    (hR : ∀ m, m < fuel → ∀ cs y, DataW.trod enc Tryd.prog W base sp held m e cs = some y → ∃ x, R x cs ∧ B x ≤ Rows.uptoBulk y.1) :
    ∃ v xs, cs = [v] ∧ RdS R sz W v xs ∧ (xs.map B).sum + 1 ≤ Rows.uptoBulk y.1 := by
  rcases DataW.trod_slice hT h with ⟨rfl, rfl⟩ | ⟨a, len, cap, elems, rest, n, rfl, rfl, rfl, _, hl, hm, hel, hx, _⟩
  · exact ⟨_, [], rfl, ⟨none, 0, rfl, by simp, by simp, .inl rfl⟩, by simp [Rows.uptoBulk]⟩
  · rw [hsz] at hx
    have hq : ∀ i y, elems[i]? = some y → ∃ x, ∃ cs, W.cells? base (a.add (i * sz)) sz = some cs ∧ R x cs ∧ B x ≤ Rows.uptoBulk y.1 := by
      intro i y hy
      have hi := (List.getElem?_eq_some_iff.1 hy).1
      have h0 := hx i (by omega)
      rw [hy] at h0
      obtain ⟨cs, h1, h2⟩ := Option.bind_eq_some_iff.1 h0
      obtain ⟨x, h3, h4⟩ := hR n (by omega) cs y h2
      exact ⟨x, cs, h1, h3, h4⟩
    obtain ⟨xs, hxl, hxs⟩ := buildL (fun i (y : DataW H × List MemPlace) x => ∃ cs, W.cells? base (a.add (i * sz)) sz = some cs ∧ R x cs ∧ B x ≤ Rows.uptoBulk y.1) elems 0 (fun i y hy => by rw [Nat.zero_add]; exact hq i y hy)
    have hlen : xs.length = len := by omega
    have hmm : cap ≤ 9223372036854775807 := by simpa [maxLen] using hm
    refine ⟨_, xs, rfl, ⟨some a, cap, by rw [hlen], by omega, by omega, ?_⟩, ?_⟩
    · by_cases h0 : xs = []
      · exact .inl h0
      have hp : 0 < xs.length := List.length_pos_iff.2 h0
      have hspot : a.spot = none := by
        obtain ⟨cs, h1, _, _⟩ := hxs 0 elems[0] xs[0] (List.getElem?_eq_getElem (by omega)) (List.getElem?_eq_getElem hp)
        obtain ⟨_, hlen1, hcell⟩ := World.cells?_some h1
        have h2 := hcell 0 hs
        rw [List.getElem?_eq_getElem (by omega)] at h2
        have := World.cell?_spot h2
        simpa [Addr.add] using this
      obtain ⟨b, o, s⟩ := a
      have hspot : s = none := hspot
      subst hspot
      refine .inr ⟨b, o, rfl, RdL.ofGet (fun i x hx' => ?_)⟩
      have hi := (List.getElem?_eq_some_iff.1 hx').1
      obtain ⟨cs, h1, h2, _⟩ := hxs i elems[i] x (List.getElem?_eq_getElem (by omega)) hx'
      obtain ⟨_, hlen1, hcell⟩ := World.cells?_some h1
      refine ⟨cs, hlen1, h2, fun j u hj => ?_⟩
      have hj' : j < sz := by have := (List.getElem?_eq_some_iff.1 hj).1; omega
      have := hcell j hj'
      rw [hj] at this
      rwa [Nat.zero_add, addr0, addr0] at this
    · have := sum_le B (fun y : DataW H × List MemPlace => Rows.uptoBulk y.1) xs elems hxl (fun i y x hy hx' => by obtain ⟨_, _, _, h⟩ := hxs i y x hy hx'; exact h)
      simp only [Rows.uptoBulk, bulkAll_eq, List.map_map]
      have e : (elems.map (Rows.uptoBulk ∘ fun x => x.1)).sum = (elems.map (fun y => Rows.uptoBulk y.1)).sum := rfl
      omega
theorem cInt : Tryd.prog.cellsOf 3 = 1 := by kernel_rfl
theorem cPa : Tryd.prog.cellsOf 121 = 2 := by kernel_rfl
theorem cLv : Tryd.prog.cellsOf 38 = 1 := by kernel_rfl
theorem cTm : Tryd.prog.cellsOf 30 = 5 := by kernel_rfl
theorem cPas : Tryd.prog.cellsOf 36 = 1 := by kernel_rfl
theorem cLvs : Tryd.prog.cellsOf 27 = 1 := by kernel_rfl
theorem cTms : Tryd.prog.cellsOf 28 = 1 := by kernel_rfl
theorem cKind : Tryd.prog.cellsOf 26 = 1 := by kernel_rfl
theorem pa_of_trod {fuel : Nat} {cs : List Value} {y : DataW H × List MemPlace} (h : DataW.trod enc Tryd.prog W base sp held fuel 121 cs = some y) : ∃ p, RPa p cs ∧ 3 ≤ Rows.uptoBulk y.1 := by
  obtain ⟨xs, n, rfl, rfl, hl, hlen, hf⟩ := DataW.trod_struct Tryd.underlying121 h
  rw [cPa] at hl
  match xs, hlen, hf with
  | [x0, x1], _, hf =>
    have h0 : DataW.trod enc Tryd.prog W base sp held n 3 ((cs.drop 0).take 1) = some x0 := hf 0 _ rfl
    have h1 : DataW.trod enc Tryd.prog W base sp held n 3 ((cs.drop 1).take 1) = some x1 := hf 1 _ rfl
    obtain ⟨n0, hc0, rfl, _⟩ := DataW.trod_int Tryd.underlying3 h0
    obtain ⟨n1, hc1, rfl, _⟩ := DataW.trod_int Tryd.underlying3 h1
    match cs, hl with
    | [c0, c1], _ =>
      simp at hc0 hc1
      subst hc0; subst hc1
      exact ⟨(n0, n1), rfl, by simp [Rows.uptoBulk, Rows.uptoBulkAll]⟩
theorem lv_of_trod {fuel : Nat} {cs : List Value} {y : DataW H × List MemPlace} (h : DataW.trod enc Tryd.prog W base sp held fuel 38 cs = some y) : ∃ l, (∃ u, cs = [u] ∧ RdLv W u l) ∧ bLv l ≤ Rows.uptoBulk y.1 := by
  obtain ⟨xs, n, rfl, rfl, hl, hlen, hf⟩ := DataW.trod_struct Tryd.underlying38 h
  rw [cLv] at hl
  match xs, hlen, hf with
  | [x0], _, hf =>
    have h0 : DataW.trod enc Tryd.prog W base sp held n 36 ((cs.drop 0).take 1) = some x0 := hf 0 _ rfl
    rw [List.drop_zero, List.take_of_length_le (by omega)] at h0
    obtain ⟨v, l, rfl, hr, hb⟩ := rdS_of_trod (R := RPa) (B := fun _ => 3) Tryd.underlying36 cPa (by decide) (y := x0) h0 (fun m _ cs y h => pa_of_trod h)
    refine ⟨l, ⟨v, rfl, hr⟩, ?_⟩
    rw [sum3] at hb
    simp [Rows.uptoBulk, Rows.uptoBulkAll, bLv] at hb ⊢
    omega
theorem lvs_of_trod {fuel : Nat} {cs : List Value} {y : DataW H × List MemPlace} (h : DataW.trod enc Tryd.prog W base sp held fuel 27 cs = some y) : ∃ v lv, cs = [v] ∧ RdLvs W v lv ∧ bLvs lv ≤ Rows.uptoBulk y.1 :=
  rdS_of_trod (B := bLv) Tryd.underlying27 cLv (by decide) h (fun m _ cs y h => lv_of_trod h)
theorem t_of_trod : ∀ (fuel : Nat) (cs : List Value) (y : DataW H × List MemPlace), DataW.trod enc Tryd.prog W base sp held fuel 30 cs = some y → ∃ t, RdT W t cs ∧ bT t ≤ Rows.uptoBulk y.1 := by
  intro fuel
  induction fuel using Nat.strongRecOn with
  | _ fuel ih =>
  intro cs y h
  obtain ⟨xs, n, rfl, rfl, hl, hlen, hf⟩ := DataW.trod_struct Tryd.underlying30 h
  rw [cTm] at hl
  match xs, hlen, hf with
  | [x0, x1, x2, x3, x4], _, hf =>
    have h0 : DataW.trod enc Tryd.prog W base sp held n 26 ((cs.drop 0).take 1) = some x0 := hf 0 _ rfl
    have h1 : DataW.trod enc Tryd.prog W base sp held n 3 ((cs.drop 1).take 1) = some x1 := hf 1 _ rfl
    have h2 : DataW.trod enc Tryd.prog W base sp held n 3 ((cs.drop 2).take 1) = some x2 := hf 2 _ rfl
    have h3 : DataW.trod enc Tryd.prog W base sp held n 27 ((cs.drop 3).take 1) = some x3 := hf 3 _ rfl
    have h4 : DataW.trod enc Tryd.prog W base sp held n 28 ((cs.drop 4).take 1) = some x4 := hf 4 _ rfl
    match cs, hl with
    | [c0, c1, c2, c3, c4], _ =>
      obtain ⟨n0, hc0, rfl, _⟩ := DataW.trod_int Tryd.underlying26 h0
      obtain ⟨n1, hc1, rfl, _⟩ := DataW.trod_int Tryd.underlying3 h1
      obtain ⟨n2, hc2, rfl, _⟩ := DataW.trod_int Tryd.underlying3 h2
      simp at hc0 hc1 hc2
      subst hc0; subst hc1; subst hc2
      obtain ⟨v3, lv, hc3, hr3, hb3⟩ := lvs_of_trod (y := x3) h3
      obtain ⟨v4, kids, hc4, hr4, hb4⟩ := rdS_of_trod (R := RdT W) (B := bT) Tryd.underlying28 cTm (by decide) (y := x4) h4 (fun m hm cs y h => ih m (by omega) cs y h)
      simp at hc3 hc4
      subst hc3; subst hc4
      refine ⟨.mk n0 n1 n2 lv kids, (RdT_mk ..).2 ⟨_, _, rfl, hr3, hr4⟩, ?_⟩
      simp [Rows.uptoBulk, Rows.uptoBulkAll, bT, bTl_eq] at hb4 ⊢
      omega
theorem ts_of_trod {fuel : Nat} {cs : List Value} {y : DataW H × List MemPlace} (h : DataW.trod enc Tryd.prog W base sp held fuel 28 cs = some y) : ∃ v ts, cs = [v] ∧ RdTs W v ts ∧ bTs ts ≤ Rows.uptoBulk y.1 := by
  obtain ⟨v, ts, h1, h2, h3⟩ := rdS_of_trod (R := RdT W) (B := bT) Tryd.underlying28 cTm (by decide) h (fun m _ cs y h => t_of_trod m cs y h)
  exact ⟨v, ts, h1, h2, by unfold bTs; rw [bTl_eq]; exact h3⟩
theorem cMe : Tryd.prog.cellsOf 145 = 1 := by kernel_rfl
theorem cCt : Tryd.prog.cellsOf 147 = 6 := by kernel_rfl
theorem cDc : Tryd.prog.cellsOf 42 = 16 := by kernel_rfl
theorem cMes : Tryd.prog.cellsOf 39 = 1 := by kernel_rfl
theorem cCts : Tryd.prog.cellsOf 40 = 1 := by kernel_rfl
theorem cDKind : Tryd.prog.cellsOf 35 = 1 := by kernel_rfl
theorem m_of_trod {fuel : Nat} {cs : List Value} {y : DataW H × List MemPlace} (h : DataW.trod enc Tryd.prog W base sp held fuel 145 cs = some y) : ∃ m, (∃ u, cs = [u] ∧ RdTs W u m) ∧ bM m ≤ Rows.uptoBulk y.1 := by
  obtain ⟨xs, n, rfl, rfl, hl, hlen, hf⟩ := DataW.trod_struct Tryd.underlying145 h
  rw [cMe] at hl
  match xs, hlen, hf with
  | [x0], _, hf =>
    have h0 : DataW.trod enc Tryd.prog W base sp held n 28 ((cs.drop 0).take 1) = some x0 := hf 0 _ rfl
    rw [List.drop_zero, List.take_of_length_le (by omega)] at h0
    obtain ⟨v, m, rfl, hr, hb⟩ := ts_of_trod (y := x0) h0
    refine ⟨m, ⟨v, rfl, hr⟩, ?_⟩
    simp [Rows.uptoBulk, Rows.uptoBulkAll, bM] at hb ⊢
    omega
theorem c_of_trod {fuel : Nat} {cs : List Value} {y : DataW H × List MemPlace} (h : DataW.trod enc Tryd.prog W base sp held fuel 147 cs = some y) : ∃ c : Int × Tm, (∃ ct, cs = .int .i64 c.1 :: ct ∧ RdT W c.2 ct) ∧ bC c ≤ Rows.uptoBulk y.1 := by
  obtain ⟨xs, n, rfl, rfl, hl, hlen, hf⟩ := DataW.trod_struct Tryd.underlying147 h
  rw [cCt] at hl
  match xs, hlen, hf with
  | [x0, x1], _, hf =>
    have h0 : DataW.trod enc Tryd.prog W base sp held n 3 ((cs.drop 0).take 1) = some x0 := hf 0 _ rfl
    have h1 : DataW.trod enc Tryd.prog W base sp held n 30 ((cs.drop 1).take 5) = some x1 := hf 1 _ rfl
    match cs, hl with
    | [c0, c1, c2, c3, c4, c5], _ =>
      obtain ⟨n0, hc0, rfl, _⟩ := DataW.trod_int Tryd.underlying3 h0
      simp at hc0
      subst hc0
      obtain ⟨t, hr, hb⟩ := t_of_trod _ _ x1 h1
      refine ⟨(n0, t), ⟨_, rfl, hr⟩, ?_⟩
      simp [Rows.uptoBulk, Rows.uptoBulkAll, bC] at hb ⊢
      omega
theorem d_of_trod {fuel : Nat} {cs : List Value} {y : DataW H × List MemPlace} (h : DataW.trod enc Tryd.prog W base sp held fuel 42 cs = some y) : ∃ d, RdD W d cs ∧ bD d ≤ Rows.uptoBulk y.1 := by
  obtain ⟨xs, n, rfl, rfl, hl, hlen, hf⟩ := DataW.trod_struct Tryd.underlying42 h
  rw [cDc] at hl
  match xs, hlen, hf with
  | [x0, x1, x2, x3, x4, x5, x6, x7], _, hf =>
    have h0 : DataW.trod enc Tryd.prog W base sp held n 35 ((cs.drop 0).take 1) = some x0 := hf 0 _ rfl
    have h1 : DataW.trod enc Tryd.prog W base sp held n 3 ((cs.drop 1).take 1) = some x1 := hf 1 _ rfl
    have h2 : DataW.trod enc Tryd.prog W base sp held n 30 ((cs.drop 2).take 5) = some x2 := hf 2 _ rfl
    have h3 : DataW.trod enc Tryd.prog W base sp held n 30 ((cs.drop 7).take 5) = some x3 := hf 3 _ rfl
    have h4 : DataW.trod enc Tryd.prog W base sp held n 28 ((cs.drop 12).take 1) = some x4 := hf 4 _ rfl
    have h5 : DataW.trod enc Tryd.prog W base sp held n 38 ((cs.drop 13).take 1) = some x5 := hf 5 _ rfl
    have h6 : DataW.trod enc Tryd.prog W base sp held n 39 ((cs.drop 14).take 1) = some x6 := hf 6 _ rfl
    have h7 : DataW.trod enc Tryd.prog W base sp held n 40 ((cs.drop 15).take 1) = some x7 := hf 7 _ rfl
    match cs, hl with
    | [c0, c1, c2, c3, c4, c5, c6, c7, c8, c9, c10, c11, c12, c13, c14, c15], _ =>
      obtain ⟨n0, hc0, rfl, _⟩ := DataW.trod_int Tryd.underlying35 h0
      obtain ⟨n1, hc1, rfl, _⟩ := DataW.trod_int Tryd.underlying3 h1
      simp at hc0 hc1
      subst hc0; subst hc1
      obtain ⟨t, hr2, hb2⟩ := t_of_trod _ _ x2 h2
      obtain ⟨b, hr3, hb3⟩ := t_of_trod _ _ x3 h3
      obtain ⟨v4, ps, hc4, hr4, hb4⟩ := ts_of_trod (y := x4) h4
      obtain ⟨s, ⟨v5, hc5, hr5⟩, hb5⟩ := lv_of_trod (y := x5) h5
      obtain ⟨v6, ms, hc6, hr6, hb6⟩ := rdS_of_trod (B := bM) Tryd.underlying39 cMe (by decide) (y := x6) h6 (fun m _ cs y h => m_of_trod h)
      obtain ⟨v7, cts, hc7, hr7, hb7⟩ := rdS_of_trod (B := bC) Tryd.underlying40 cCt (by decide) (y := x7) h7 (fun m _ cs y h => c_of_trod h)
      simp at hc4 hc5 hc6 hc7
      subst hc4; subst hc5; subst hc6; subst hc7
      refine ⟨⟨n0, n1, t, b, ps, s, ms, cts⟩, ⟨_, _, _, _, _, _, rfl, hr2, hr3, hr4, hr5, hr6, hr7⟩, ?_⟩
      simp only [Rows.uptoBulk, Rows.uptoBulkAll, bD, List.map_cons, List.map_nil] at hb2 hb3 hb4 hb5 hb6 hb7 ⊢
      omega
theorem ds_of_trod {fuel : Nat} {cs : List Value} {y : DataW H × List MemPlace} (h : DataW.trod enc Tryd.prog W base sp held fuel 22 cs = some y) : ∃ v ds, cs = [v] ∧ RdDs W v ds ∧ bDs ds ≤ Rows.uptoBulk y.1 :=
  rdS_of_trod (B := bD) Tryd.underlying22 cDc (by decide) h (fun m _ cs y h => d_of_trod h)
end
end Go.Proofs.YtkedcijfegoflaaDoor
