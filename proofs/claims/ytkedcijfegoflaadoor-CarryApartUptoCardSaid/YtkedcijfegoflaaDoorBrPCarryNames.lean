/- Between the print's data (S.., k..) and ours (Tm, Lv, Pa; Rd..). -/
import Derived.Test.YtkedcijfegoflaaDoorOwn
import Derived.Test.YtkedcijfegoflaaDoorPCarryNamesx0
namespace Go.Proofs.YtkedcijfegoflaaDoor.PCarryNames
set_option linter.unusedSimpArgs false
set_option linter.unusedVariables false
open Go Go.RowKit Go.Proofs.YtkedcijfegoflaaDoor Go.Proofs.YtkedcijfegoflaaDoorW.PrintWords Go.Proofs.YtkedcijfegoflaaDoorW.PrintLast Go.Proofs.YtkedcijfegoflaaDoorW.PrintMore

theorem RdL.of_get {α : Type} {R : α → List Value → Prop} {sz : Nat} {w : World} {b : Nat} : ∀ {xs : List α} {o : Nat}, (∀ i x, xs[i]? = some x → ∃ cs, cs.length = sz ∧ R x cs ∧ AtP w b (o + i * sz) cs) → RdL R sz w b o xs
  | [], _, _ => trivial
  | x :: xs, o, h => by
    obtain ⟨cs, h1, h2, h3⟩ := h 0 x rfl
    refine ⟨⟨cs, h1, h2, by simpa using h3⟩, RdL.of_get (fun i y hy => ?_)⟩
    obtain ⟨cs, h1, h2, h3⟩ := h (i + 1) y (by simpa using hy)
    exact ⟨cs, h1, h2, by rwa [show o + sz + i * sz = o + (i + 1) * sz by rw [Nat.add_mul]; omega]⟩
theorem RdS_of_reads {α β : Type} (f : α → β) {R : β → List Value → Prop} {R' : α → List Value → Prop} {sz : Nat} (hsz : 0 < sz) {w : World} {A : Option Addr} {n c : Nat} {xs : List α}
    (h : ReadsRow R sz w A n (xs.map f)) (hc : n ≤ c) (hR : ∀ x ∈ xs, ∀ cs, R (f x) cs → R' x cs) : RdS R' sz w (.slice A n c) xs := by
  obtain ⟨h1, h2, h3⟩ := h
  rw [List.length_map] at h1
  subst h1
  refine ⟨A, c, rfl, hc, h2, ?_⟩
  by_cases h0 : xs = []
  · exact .inl h0
  have hp : 0 < xs.length := List.length_pos_iff.2 h0
  obtain ⟨ad, rfl, hg⟩ := h3 hp
  have hs : ad.spot = none := by
    obtain ⟨cs, hl, _, hcell⟩ := hg 0 (f xs[0]) (by simp [List.getElem?_eq_getElem hp])
    have := hcell 0 cs[0] (List.getElem?_eq_getElem (by omega))
    have := World.cell?_spot this
    simpa [Addr.add] using this
  obtain ⟨b, o, s⟩ := ad
  have hs : s = none := hs
  subst hs
  refine .inr ⟨b, o, rfl, RdL.of_get (fun i x hx => ?_)⟩
  obtain ⟨cs, hl, hr, hcell⟩ := hg i (f x) (by rw [List.getElem?_map, hx]; rfl)
  refine ⟨cs, hl, hR x (List.mem_of_getElem? hx) cs hr, fun j u hj => ?_⟩
  have := hcell j u hj
  rwa [addr0, ← Nat.add_assoc] at this
theorem reads_of_RdS {α β : Type} (f : α → β) {R : β → List Value → Prop} {R' : α → List Value → Prop} {sz : Nat} {w : World} {v : Value} {xs : List α}
    (h : RdS R' sz w v xs) (hR : ∀ x ∈ xs, ∀ cs, R' x cs → R (f x) cs) : ∃ A c, v = .slice A xs.length c ∧ xs.length ≤ c ∧ ReadsRow R sz w A xs.length (xs.map f) := by
  obtain ⟨A, c, rfl, h1, h2, h3⟩ := h
  refine ⟨A, c, rfl, h1, by simp, h2, fun hp => ?_⟩
  rcases h3 with rfl | ⟨b, o, rfl, h3⟩
  · simp at hp
  refine ⟨_, rfl, fun j p hj => ?_⟩
  rw [List.getElem?_map] at hj
  obtain ⟨x, hx, rfl⟩ := Option.map_eq_some_iff.1 hj
  obtain ⟨cs, hl, hr, ha⟩ := h3.get j x hx
  exact ⟨cs, hl, hR x (List.mem_of_getElem? hx) cs hr, fun i u hu => by rw [addr0, ← Nat.add_assoc]; exact ha i u hu⟩

/-! ### The data -/
def sPa (p : Pa) : S121 := ⟨p.1, p.2⟩
def sLv (l : Lv) : S38 := ⟨l.map sPa⟩
mutual
def sT : Tm → S30
  | .mk k n a lv kids => ⟨k, n, a, lv.map sLv, sTl kids⟩
def sTl : List Tm → List S30
  | [] => []
  | t :: ts => sT t :: sTl ts
end
theorem sTl_eq : ∀ ts, sTl ts = ts.map sT
  | [] => by simp [sTl]
  | t :: ts => by simp [sTl, sTl_eq ts]
theorem pa_k {w : World} {p : Pa} {cs : List Value} : k121.K w (sPa p) cs ↔ RPa p cs := by
  constructor
  · intro h; exact k121_open h
  · rintro rfl; exact k121_mk w (sPa p)
theorem lv_of_k {w : World} {l : Lv} {cs : List Value} (h : k38.K w (sLv l) cs) : ∃ u, cs = [u] ∧ RdLv w u l := by
  obtain ⟨A, c, rfl, hc, hr⟩ := k38_open h
  exact ⟨_, rfl, RdS_of_reads sPa (by decide) hr hc (fun x _ cs h => pa_k.1 h)⟩
theorem k_of_lv {w : World} {l : Lv} {cs : List Value} (h : ∃ u, cs = [u] ∧ RdLv w u l) : k38.K w (sLv l) cs := by
  obtain ⟨u, rfl, h⟩ := h
  obtain ⟨A, c, rfl, hc, hr⟩ := reads_of_RdS (R := k121.K w) sPa h (fun x _ cs h => pa_k.2 h)
  have := k38_mk w (sLv l) (A0 := A) (c0 := c) (by simpa [sLv] using hc) (by simp only [sLv, List.length_map]; exact hr)
  simpa [sLv] using this
theorem lvs_of_k {w : World} {A : Option Addr} {n c : Nat} {lv : List Lv} (h : k38.C w A n (lv.map sLv)) (hc : n ≤ c) : RdLvs w (.slice A n c) lv :=
  RdS_of_reads sLv (by decide) h hc (fun x _ cs h => lv_of_k h)
theorem k_of_lvs {w : World} {v : Value} {lv : List Lv} (h : RdLvs w v lv) : ∃ A c, v = .slice A lv.length c ∧ lv.length ≤ c ∧ k38.C w A lv.length (lv.map sLv) :=
  reads_of_RdS (R := k38.K w) sLv h (fun x _ cs h => k_of_lv h)
theorem lv_v_of_k {w : World} {A : Option Addr} {n c : Nat} {l : Lv} (h : k121.C w A n (l.map sPa)) (hc : n ≤ c) : RdLv w (.slice A n c) l :=
  RdS_of_reads sPa (by decide) h hc (fun x _ cs h => pa_k.1 h)
theorem k_of_lv_v {w : World} {v : Value} {l : Lv} (h : RdLv w v l) : ∃ A c, v = .slice A l.length c ∧ l.length ≤ c ∧ k121.C w A l.length (l.map sPa) :=
  reads_of_RdS (R := k121.K w) sPa h (fun x _ cs h => pa_k.2 h)
theorem t_of_k {w : World} : ∀ (t : Tm) (cs : List Value), k30.K w (sT t) cs → RdT w t cs := by
  intro t
  induction t using Tm.ind with
  | h k n a lv kids ih =>
    intro cs h
    obtain ⟨A3, c3, A4, c4, rfl, l3, g3, l4, g4⟩ := k30_open h
    simp only [sT, sTl_eq, List.length_map] at l3 g3 l4 g4 ⊢
    exact (RdT_mk ..).2 ⟨_, _, rfl, lvs_of_k g3 l3, RdS_of_reads sT (by decide) g4 l4 (fun x hx cs h => ih x hx cs h)⟩
theorem k_of_t {w : World} : ∀ (t : Tm) (cs : List Value), RdT w t cs → k30.K w (sT t) cs := by
  intro t
  induction t using Tm.ind with
  | h k n a lv kids ih =>
    intro cs h
    obtain ⟨vl, vk, rfl, h1, h2⟩ := (RdT_mk ..).1 h
    obtain ⟨A3, c3, rfl, l3, g3⟩ := k_of_lvs h1
    obtain ⟨A4, c4, rfl, l4, g4⟩ := reads_of_RdS (R := k30.K w) sT h2 (fun x hx cs h => ih x hx cs h)
    have := k30_mk w (sT (.mk k n a lv kids)) (A3 := A3) (c3 := c3) (by simpa [sT] using l3) (by simp only [sT, List.length_map]; exact g3) (A4 := A4) (c4 := c4) (by simpa [sT, sTl_eq] using l4) (by simp only [sT, sTl_eq, List.length_map]; exact g4)
    simpa [sT, sTl_eq] using this
theorem ts_of_k {w : World} {A : Option Addr} {n c : Nat} {ts : List Tm} (h : k30.C w A n (sTl ts)) (hc : n ≤ c) : RdTs w (.slice A n c) ts := by
  rw [sTl_eq] at h
  exact RdS_of_reads sT (by decide) h hc (fun x _ cs h => t_of_k x cs h)
theorem k_of_ts {w : World} {v : Value} {ts : List Tm} (h : RdTs w v ts) : ∃ A c, v = .slice A ts.length c ∧ ts.length ≤ c ∧ k30.C w A ts.length (sTl ts) := by
  rw [sTl_eq]
  exact reads_of_RdS (R := k30.K w) sT h (fun x _ cs h => k_of_t x cs h)
end Go.Proofs.YtkedcijfegoflaaDoor.PCarryNames
