/- Between the print's data (S.., k..) and ours (Tm, Lv, Pa; Rd..). -/
import Derived.Test.YtebgldnlkkhejaaDoorKitA
import Derived.Test.YtebgldnlkkhejaaDoorPCarryNamesx0
import Derived.Test.YtebgldnlkkhejaaDoorPCarryNamesx4
import Derived.Test.YtebgldnlkkhejaaDoorKitC
import Derived.Test.YtebgldnlkkhejaaDoorKitB
namespace Go.Proofs.YtebgldnlkkhejaaDoor.PCarryNames
set_option linter.unusedSimpArgs false
set_option linter.unusedVariables false
open Go Go.RowKit Go.Proofs.YtebgldnlkkhejaaDoor Go.Proofs.YtebgldnlkkhejaaDoorW.PrintWords Go.Proofs.YtebgldnlkkhejaaDoorW.PrintLast Go.Proofs.YtebgldnlkkhejaaDoorW.PrintMore

theorem RdL.of_get {α : Type} {R : α → List Value → Prop} {sz : Nat} {w : World} {b : Nat} : ∀ {xs : List α} {o : Nat}, (∀ i x, xs[i]? = some x → ∃ cs, cs.length = sz ∧ R x cs ∧ AtP w b (o + i * sz) cs) → RdL R sz w b o xs
  | [], _, _ => trivial
  | x :: xs, o, h => by
    obtain ⟨cs, h1, h2, h3⟩ := h 0 x rfl
    refine ⟨⟨cs, h1, h2, by simpa using h3⟩, RdL.of_get (fun i y hy => ?_)⟩
    obtain ⟨cs, h1, h2, h3⟩ := h (i + 1) y (by simpa using hy)
    exact ⟨cs, h1, h2, by rwa [show o + sz + i * sz = o + (i + 1) * sz by rw [Nat.add_mul]; omega]⟩
theorem RdS_of_reads {α β : Type} (f : α → β) {R : β → List Value → Prop} {R' : α → List Value → Prop} {sz : Nat} (hsz : 0 < sz) {w : World} {A : Option Addr} {n c : Nat} {xs : List α}
    (h : ReadsRow R sz w A n (xs.map f)) (hc : n ≤ c) (hR : ∀ x ∈ xs, ∀ cs, R (f x) cs → R' x cs) : RdS R' sz w (.slice A n c) xs := by
  obtain ⟨h1, h2, h3⟩ := h
  rw [List.length_map] at h1
  subst h1
  refine ⟨A, c, rfl, hc, h2, ?_⟩
  by_cases h0 : xs = []
  · exact .inl h0
  have hp : 0 < xs.length := List.length_pos_iff.2 h0
  obtain ⟨ad, rfl, hg⟩ := h3 hp
  have hs : ad.spot = none := by
    obtain ⟨cs, hl, _, hcell⟩ := hg 0 (f xs[0]) (by simp [List.getElem?_eq_getElem hp])
    have := hcell 0 cs[0] (List.getElem?_eq_getElem (by omega))
    have := World.cell?_spot this
    simpa [Addr.add] using this
  obtain ⟨b, o, s⟩ := ad
  have hs : s = none := hs
  subst hs
  refine .inr ⟨b, o, rfl, RdL.of_get (fun i x hx => ?_)⟩
  obtain ⟨cs, hl, hr, hcell⟩ := hg i (f x) (by rw [List.getElem?_map, hx]; rfl)
  refine ⟨cs, hl, hR x (List.mem_of_getElem? hx) cs hr, fun j u hj => ?_⟩
  have := hcell j u hj
  rwa [addr0, ← Nat.add_assoc] at this
theorem reads_of_RdS {α β : Type} (f : α → β) {R : β → List Value → Prop} {R' : α → List Value → Prop} {sz : Nat} {w : World} {v : Value} {xs : List α}
    (h : RdS R' sz w v xs) (hR : ∀ x ∈ xs, ∀ cs, R' x cs → R (f x) cs) : ∃ A c, v = .slice A xs.length c ∧ xs.length ≤ c ∧ ReadsRow R sz w A xs.length (xs.map f) := by
  obtain ⟨A, c, rfl, h1, h2, h3⟩ := h
  refine ⟨A, c, rfl, h1, by simp, h2, fun hp => ?_⟩
  rcases h3 with rfl | ⟨b, o, rfl, h3⟩
  · simp at hp
  refine ⟨_, rfl, fun j p hj => ?_⟩
  rw [List.getElem?_map] at hj
  obtain ⟨x, hx, rfl⟩ := Option.map_eq_some_iff.1 hj
  obtain ⟨cs, hl, hr, ha⟩ := h3.get j x hx
  exact ⟨cs, hl, hR x (List.mem_of_getElem? hx) cs hr, fun i u hu => by rw [addr0, ← Nat.add_assoc]; exact ha i u hu⟩

/-! ### The data -/
def sPa (p : Pa) : S117 := ⟨p.1, p.2⟩
def sLv (l : Lv) : S38 := ⟨l.map sPa⟩
mutual
def sT : Tm → S30
  | .mk k n a lv kids => ⟨k, n, a, lv.map sLv, sTl kids⟩
def sTl : List Tm → List S30
  | [] => []
  | t :: ts => sT t :: sTl ts
end
theorem sTl_eq : ∀ ts, sTl ts = ts.map sT
  | [] => by simp [sTl]
  | t :: ts => by simp [sTl, sTl_eq ts]
theorem pa_k {w : World} {p : Pa} {cs : List Value} : k117.K w (sPa p) cs ↔ RPa p cs := by
  constructor
  · intro h; exact k117_open h
  · rintro rfl; exact k117_mk w (sPa p)
theorem lv_of_k {w : World} {l : Lv} {cs : List Value} (h : k38.K w (sLv l) cs) : ∃ u, cs = [u] ∧ RdLv w u l := by
  obtain ⟨A, c, rfl, hc, hr⟩ := k38_open h
  exact ⟨_, rfl, RdS_of_reads sPa (by decide) hr hc (fun x _ cs h => pa_k.1 h)⟩
theorem k_of_lv {w : World} {l : Lv} {cs : List Value} (h : ∃ u, cs = [u] ∧ RdLv w u l) : k38.K w (sLv l) cs := by
  obtain ⟨u, rfl, h⟩ := h
  obtain ⟨A, c, rfl, hc, hr⟩ := reads_of_RdS (R := k117.K w) sPa h (fun x _ cs h => pa_k.2 h)
  have := k38_mk w (sLv l) (A0 := A) (c0 := c) (by simpa [sLv] using hc) (by simp only [sLv, List.length_map]; exact hr)
  simpa [sLv] using this
theorem lvs_of_k {w : World} {A : Option Addr} {n c : Nat} {lv : List Lv} (h : k38.C w A n (lv.map sLv)) (hc : n ≤ c) : RdLvs w (.slice A n c) lv :=
  RdS_of_reads sLv (by decide) h hc (fun x _ cs h => lv_of_k h)
theorem k_of_lvs {w : World} {v : Value} {lv : List Lv} (h : RdLvs w v lv) : ∃ A c, v = .slice A lv.length c ∧ lv.length ≤ c ∧ k38.C w A lv.length (lv.map sLv) :=
  reads_of_RdS (R := k38.K w) sLv h (fun x _ cs h => k_of_lv h)
theorem lv_v_of_k {w : World} {A : Option Addr} {n c : Nat} {l : Lv} (h : k117.C w A n (l.map sPa)) (hc : n ≤ c) : RdLv w (.slice A n c) l :=
  RdS_of_reads sPa (by decide) h hc (fun x _ cs h => pa_k.1 h)
theorem k_of_lv_v {w : World} {v : Value} {l : Lv} (h : RdLv w v l) : ∃ A c, v = .slice A l.length c ∧ l.length ≤ c ∧ k117.C w A l.length (l.map sPa) :=
  reads_of_RdS (R := k117.K w) sPa h (fun x _ cs h => pa_k.2 h)
theorem t_of_k {w : World} : ∀ (t : Tm) (cs : List Value), k30.K w (sT t) cs → RdT w t cs := by
  intro t
  induction t using Tm.ind with
  | h k n a lv kids ih =>
    intro cs h
    obtain ⟨A3, c3, A4, c4, rfl, l3, g3, l4, g4⟩ := k30_open h
    simp only [sT, sTl_eq, List.length_map] at l3 g3 l4 g4 ⊢
    exact (RdT_mk ..).2 ⟨_, _, rfl, lvs_of_k g3 l3, RdS_of_reads sT (by decide) g4 l4 (fun x hx cs h => ih x hx cs h)⟩
theorem k_of_t {w : World} : ∀ (t : Tm) (cs : List Value), RdT w t cs → k30.K w (sT t) cs := by
  intro t
  induction t using Tm.ind with
  | h k n a lv kids ih =>
    intro cs h
    obtain ⟨vl, vk, rfl, h1, h2⟩ := (RdT_mk ..).1 h
    obtain ⟨A3, c3, rfl, l3, g3⟩ := k_of_lvs h1
    obtain ⟨A4, c4, rfl, l4, g4⟩ := reads_of_RdS (R := k30.K w) sT h2 (fun x hx cs h => ih x hx cs h)
    have := k30_mk w (sT (.mk k n a lv kids)) (A3 := A3) (c3 := c3) (by simpa [sT] using l3) (by simp only [sT, List.length_map]; exact g3) (A4 := A4) (c4 := c4) (by simpa [sT, sTl_eq] using l4) (by simp only [sT, sTl_eq, List.length_map]; exact g4)
    simpa [sT, sTl_eq] using this
theorem ts_of_k {w : World} {A : Option Addr} {n c : Nat} {ts : List Tm} (h : k30.C w A n (sTl ts)) (hc : n ≤ c) : RdTs w (.slice A n c) ts := by
  rw [sTl_eq] at h
  exact RdS_of_reads sT (by decide) h hc (fun x _ cs h => t_of_k x cs h)
theorem k_of_ts {w : World} {v : Value} {ts : List Tm} (h : RdTs w v ts) : ∃ A c, v = .slice A ts.length c ∧ ts.length ≤ c ∧ k30.C w A ts.length (sTl ts) := by
  rw [sTl_eq]
  exact reads_of_RdS (R := k30.K w) sT h (fun x _ cs h => k_of_t x cs h)
end Go.Proofs.YtebgldnlkkhejaaDoor.PCarryNames

/-! ## The reference's levels, Binds and below (spandrelref02), over the print. -/
namespace Go.Proofs.YtebgldnlkkhejaaDoor.PCarryNames
set_option linter.unusedSimpArgs false
set_option linter.unusedVariables false
open Go Go.RowKit Go.Proofs.YtebgldnlkkhejaaDoor Go.Proofs.YtebgldnlkkhejaaDoorW.PrintWords Go.Proofs.YtebgldnlkkhejaaDoorW.PrintLast Go.Proofs.YtebgldnlkkhejaaDoorW.PrintMore

theorem Ev.pos {α : Type} {c : Prop} [Decidable c] {f g : Nat → Option α} {r : α} (hc : c) (h : Ev f r) : Ev (fun n => if c then f n else g n) r := Ev.congr (fun _ => if_pos hc) h
theorem Ev.neg {α : Type} {c : Prop} [Decidable c] {f g : Nat → Option α} {r : α} (hc : ¬ c) (h : Ev g r) : Ev (fun n => if c then f n else g n) r := Ev.congr (fun _ => if_neg hc) h
theorem Ev.bind_some {α β : Type} {a : α} {f : Nat → α → Option β} {r : β} (h : Ev (fun n => f n a) r) : Ev (fun n => (some a).bind (f n)) r := h
theorem Ev.eq {α : Type} {g : Nat → Option α} {r r' : α} (h : Ev g r) (e : r = r') : Ev g r' := e ▸ h
/-- One round: g at k + 1 is what its text says. -/
theorem Ev.round {α : Type} {g : Nat → Option α} {r : α} (h : Ev (fun k => g (k + 1)) r) : Ev g r := Ev.step (fun _ => rfl) h
theorem wrap_id {x : Int} (h0 : 0 ≤ x) (h1 : x ≤ 9223372036854775807) : wrap64 x = x := by unfold wrap64; omega

theorem Binds_ev (k kid : Int) : Ev (fun n => spandrelref02_Binds.f n k kid) (bindsB k kid) := by
  refine ⟨1, fun n hn => ?_⟩
  obtain ⟨m, rfl⟩ : ∃ m, n = m + 1 := ⟨n - 1, by omega⟩
  unfold spandrelref02_Binds.f bindsB boundOf
  simp only [spandrelref02_Binds.j0]
  by_cases h4 : k = 4
  · subst h4; simp; rw [Bool.eq_iff_iff]; simp; omega
  by_cases h5 : k = 5
  · subst h5; simp; rw [Bool.eq_iff_iff]; simp; omega
  by_cases h12 : k = 12
  · subst h12; simp; rw [Bool.eq_iff_iff]; simp; omega
  by_cases h16 : k = 16
  · subst h16; simp; rw [Bool.eq_iff_iff]; simp; omega
  by_cases h18 : k = 18
  · subst h18; simp; rw [Bool.eq_iff_iff]; simp; omega
  by_cases h7 : k = 7
  · subst h7; simp; rw [Bool.eq_iff_iff]; simp; omega
  simp [h4, h5, h12, h16, h18, h7]; omega
theorem below_ev (k n0 a : Int) (l3 : List S38) (l4 : List S30) (kid d : Int) (hd : 0 ≤ d) (hd' : d ≤ 4611686018427387904) : Ev (fun n => spandrelref02_below.f n k n0 a l3 l4 kid d) (deeper k kid d) := by
  unfold spandrelref02_below.f
  refine Ev.bind (Binds_ev k kid) ?_
  unfold deeper
  cases h : bindsB k kid
  · exact Ev.neg (by simp) (Ev.now _)
  · refine Ev.pos rfl ?_
    rw [wrap_id (by omega) (by omega)]
    exact Ev.now _
theorem rd_lv (lv : List Lv) (i : Nat) (h : i < lv.length) : rd_T38 (lv.map sLv) (i : Int) = sLv lv[i] := by
  simp [rd_T38, List.getD_eq_getElem?_getD, h]
theorem levels_ev (lv : List Lv) (hok : Okl lv) : Ev (fun n => spandrelref02_levels.f n (lv.map sLv)) (lv.map sLv) := by
  have key : ∀ (m j : Nat), lv.length - j = m → j ≤ lv.length → Ev (fun n => spandrelref02_levels.l0 n (lv.map sLv) ((lv.take j).map sLv) (j : Int)) (lv.map sLv) := by
    intro m
    induction m with
    | zero =>
      intro j hm hj
      refine Ev.round ?_
      simp only [spandrelref02_levels.l0, List.length_map]
      refine Ev.neg (by omega) ?_
      rw [List.take_of_length_le (by omega)]
      exact Ev.now _
    | succ m ih =>
      intro j hm hj
      have hl := hok.1
      have hl2 := hok.2 lv[j] (List.getElem_mem (by omega))
      refine Ev.round ?_
      simp only [spandrelref02_levels.l0, List.length_map, rd_lv lv j (by omega)]
      refine Ev.pos (by omega) ?_
      refine Ev.bind_some ?_
      refine Ev.pos (by omega) ?_
      refine Ev.pos (by simp [sLv]; omega) ?_
      refine Ev.pos (by simp; omega) ?_
      rw [wrap_id (by omega) (by omega)]
      have := ih (j + 1) (by omega) (by omega)
      rw [List.take_succ_eq_append_getElem (by omega), List.map_append] at this
      exact this
  exact key lv.length 0 (by omega) (by omega)

/-! ### A row of levels that the print tells, as one of ours -/
theorem inner_pa {w : World} {base : Nat} {ok : Nat → Prop} : ∀ {l : Lv} {inner : List Value}, Reps (k117.M w base ok) 2 (l.map sPa) inner → OwL (OwPa w) 2 inner l []
  | [], inner, h => by
    have := h.1
    simp at this
    exact ⟨this, rfl⟩
  | p :: l, inner, h => by
    have hl := h.1
    simp only [List.map_cons, List.length_cons, List.length_map] at hl
    have h0 := h.2 0 (sPa p) (by simp)
    rw [Nat.zero_mul, List.drop_zero] at h0
    have ht : Reps (k117.M w base ok) 2 (l.map sPa) (inner.drop 2) := by
      refine ⟨by rw [List.length_drop, hl, List.length_map]; omega, fun j q hq => ?_⟩
      have := h.2 (j + 1) q (by simpa using hq)
      rwa [List.drop_drop, show 2 + j * 2 = (j + 1) * 2 by omega]
    exact ⟨inner.take 2, inner.drop 2, [], [], by simp, by rw [List.length_take]; omega, ⟨k117_openM h0, rfl⟩, inner_pa ht, rfl⟩
theorem lv_of_M {w : World} {base : Nat} {ok : Nat → Prop} {l : Lv} {cs : List Value} (h : k38.M w base ok (sLv l) cs) : ∃ v, cs = [v] ∧ OwLv w v l v.ownBlock.toList ∧ ∀ k, v.ownBlock = some k → ok k ∧ base ≤ k ∧ k < w.heap.size := by
  obtain ⟨v, rfl, h0, inner, ho, hr⟩ := k38_openM h
  simp only [sLv, List.length_map] at ho
  exact ⟨v, rfl, OwS.of_row (own_weaken ho (Nat.zero_le _)) (inner_pa hr), fun k hk => ⟨h0 k hk, ho.lt k hk⟩⟩
theorem inner_lv {w : World} {base : Nat} {ok : Nat → Prop} {f : Nat → Nat} : ∀ {lv : List Lv} {inner : List Value} {i : Nat}, Reps ((Kd.tag f k38).M w base ok) 1 ((lv.map sLv).zipIdx i) inner →
    ∃ F, OwL (OwLv1 w) 1 inner lv F ∧ F.Nodup ∧ ∀ k ∈ F, ok k ∧ base ≤ k ∧ k < w.heap.size ∧ i ≤ f k
  | [], inner, i, h => by
    have := h.1
    simp at this
    exact ⟨[], ⟨this, rfl⟩, by simp, by simp⟩
  | l :: lv, inner, i, h => by
    have hl := h.1
    simp only [List.map_cons, List.zipIdx_cons, List.length_cons, List.length_zipIdx, List.length_map] at hl
    have h0 := h.2 0 (sLv l, i) (by simp)
    rw [Nat.zero_mul, List.drop_zero] at h0
    have ht : Reps ((Kd.tag f k38).M w base ok) 1 ((lv.map sLv).zipIdx (i + 1)) (inner.drop 1) := by
      refine ⟨by rw [List.length_drop, hl, List.length_zipIdx, List.length_map]; omega, fun j q hq => ?_⟩
      have := h.2 (j + 1) q (by simpa using hq)
      rwa [List.drop_drop, show 1 + j * 1 = (j + 1) * 1 by omega]
    obtain ⟨v, hv, hO, hk⟩ := lv_of_M h0
    obtain ⟨F, g1, g2, g3⟩ := inner_lv ht
    refine ⟨v.ownBlock.toList ++ F, ⟨inner.take 1, inner.drop 1, _, F, (List.take_append_drop 1 inner).symm, by rw [List.length_take]; omega, ⟨v, hv, hO⟩, g1, rfl⟩, List.nodup_append.2 ⟨by cases v.ownBlock <;> simp, g2, fun a ha b hb e => ?_⟩, fun k hkm => ?_⟩
    · have := (hk a (by simpa using ha)).1.2
      have := (g3 b hb).2.2.2
      subst e
      omega
    · rcases List.mem_append.1 hkm with hkm | hkm
      · obtain ⟨⟨h1, h2⟩, h3, h4⟩ := hk k (by simpa using hkm)
        exact ⟨h1, h3, h4, by omega⟩
      · obtain ⟨h1, h2, h3, h4⟩ := g3 k hkm
        exact ⟨h1, h2, h3, by omega⟩
theorem lvs_of_S {w : World} {base : Nat} {ok : Nat → Prop} {v : Value} {lv : List Lv} (h : Kd.S k38 38 w base ok v (lv.map sLv)) : ∃ A c F, v = .slice A lv.length c ∧ OwLvs w v lv F ∧ Fr base w F := by
  obtain ⟨f, h0, inner, ho, hr⟩ := h
  rw [List.length_zipIdx, List.length_map] at ho
  obtain ⟨F, g1, g2, g3⟩ := inner_lv hr
  obtain ⟨A, c, hv⟩ := own_slice ho
  refine ⟨A, c, v.ownBlock.toList ++ F, hv, ⟨inner, F, own_weaken ho (Nat.zero_le _), g1, rfl⟩, List.nodup_append.2 ⟨by cases v.ownBlock <;> simp, g2, fun a ha b hb e => ?_⟩, fun k hk => ?_⟩
  · subst e
    have hv' : v.ownBlock = some a := by simpa using ha
    exact (g3 a hb).1.2 hv'.symm
  · rcases List.mem_append.1 hk with hk | hk
    · exact ho.lt k (by simpa using hk)
    · exact ⟨(g3 k hk).2.1, (g3 k hk).2.2.1⟩
theorem refLevels_any (lv : List Lv) (v : Value) (w : World) (h : RdLvs w v lv) (hok : Okl lv) :
    Calls Tryd.prog 121 #[v] w fun e w' => ∃ A c F, e = .returned (.slice A lv.length c) ∧ OwLvs w' (.slice A lv.length c) lv F ∧ Fr w.heap.size w' F ∧ Below w.heap.size w w' := by
  obtain ⟨n, hn⟩ := (levels_ev lv hok).rounds
  obtain ⟨A, c, rfl, hl, hr⟩ := k_of_lvs h
  have e3 : (lv.map sLv).length = lv.length := List.length_map ..
  have hc := spandrelref02_levels.calls n A c (lv.map sLv) _ w (by rw [e3]; exact hr) (by rw [e3]; exact hl) hn
  rw [e3] at hc
  refine hc.mono ?_
  rintro e w' ⟨v0, rfl, hS, hb⟩
  obtain ⟨A', c', F, rfl, hO, hF⟩ := lvs_of_S hS
  exact ⟨A', c', F, rfl, hO, hF, hb⟩
theorem refBelow_any (t : Tm) (cs : List Value) (kid d : Int) (w : World) (h : RdT w t cs) (hd : 0 ≤ d) (hd' : d ≤ 4611686018427387904) :
    Calls Tryd.prog 110 #[.agg cs.toArray, .int .i64 kid, .int .i64 d] w fun e w' => e = .returned (.int .i64 (deeper t.kind kid d)) ∧ Below w.heap.size w w' := by
  obtain ⟨k, n0, a, lv, kids⟩ := t
  obtain ⟨vl, vk, rfl, h1, h2⟩ := (RdT_mk ..).1 h
  obtain ⟨A3, c3, rfl, l3, g3⟩ := k_of_lvs h1
  obtain ⟨A4, c4, rfl, l4, g4⟩ := k_of_ts h2
  obtain ⟨n, hn⟩ := (below_ev k n0 a (lv.map sLv) (sTl kids) kid d hd hd').rounds
  have e3 : (lv.map sLv).length = lv.length := List.length_map ..
  have e4 : (sTl kids).length = kids.length := by rw [sTl_eq, List.length_map]
  have hc := spandrelref02_below.calls n k n0 a A3 c3 (lv.map sLv) A4 c4 (sTl kids) kid d _ w (by rw [e3]; exact g3) (by rw [e3]; exact l3) (by rw [e4]; exact g4) (by rw [e4]; exact l4) hn
  rw [e3, e4] at hc
  exact hc
end Go.Proofs.YtebgldnlkkhejaaDoor.PCarryNames

/-! ## Are two terms the same: the kit's SameLevels (over the print), SameTerm, SameTerms. -/
namespace Go.Proofs.YtebgldnlkkhejaaDoor.PCarryNames
set_option linter.unusedSimpArgs false
set_option linter.unusedVariables false
open Go Go.RowKit Go.Proofs.YtebgldnlkkhejaaDoor Go.Proofs.YtebgldnlkkhejaaDoorW.PrintWords Go.Proofs.YtebgldnlkkhejaaDoorW.PrintLast Go.Proofs.YtebgldnlkkhejaaDoorW.PrintMore

theorem rd_pa (l : Lv) (i : Nat) (h : i < l.length) : rd_T117 (l.map sPa) (i : Int) = sPa l[i] := by
  simp [rd_T117, List.getD_eq_getElem?_getD, h]
theorem beq_cons' {α : Type} [BEq α] (a b : α) (l l' : List α) : (a :: l == b :: l') = ((a == b) && (l == l')) := rfl
theorem ne_of_len {α : Type} [BEq α] [LawfulBEq α] {l l' : List α} (h : l.length ≠ l'.length) : (l == l') = false := beq_eq_false_iff_ne.2 (fun e => h (by rw [e]))
theorem parts_ev (l l' : Lv) (hl : l.length ≤ 9223372036854775807) : Ev (fun n => spandrelkit_SameParts.f n (l.map sPa) (l'.map sPa)) (l == l') := by
  unfold spandrelkit_SameParts.f
  simp only [List.length_map]
  by_cases he : l.length = l'.length
  · refine Ev.pos (by omega) ?_
    have key : ∀ (m j : Nat), l.length - j = m → j ≤ l.length → Ev (fun n => spandrelkit_SameParts.l0 n (l.map sPa) (l'.map sPa) (j : Int)) (l.drop j == l'.drop j) := by
      intro m
      induction m with
      | zero =>
        intro j hm hj
        refine Ev.round ?_
        simp only [spandrelkit_SameParts.l0, List.length_map]
        refine Ev.neg (by omega) ?_
        rw [List.drop_of_length_le (by omega), List.drop_of_length_le (by omega)]
        exact Ev.now _
      | succ m ih =>
        intro j hm hj
        refine Ev.round ?_
        simp only [spandrelkit_SameParts.l0, List.length_map, rd_pa l j (by omega), rd_pa l' j (by omega)]
        refine Ev.pos (by omega) ?_
        refine Ev.pos (by omega) ?_
        refine Ev.pos (by omega) ?_
        have h1 : l.drop j = l[j] :: l.drop (j + 1) := List.drop_eq_getElem_cons (by omega)
        have h2 : l'.drop j = l'[j] :: l'.drop (j + 1) := List.drop_eq_getElem_cons (by omega)
        by_cases hp : l[j] = l'[j]
        · refine Ev.neg (by simp [sPa, hp]) ?_
          rw [wrap_id (by omega) (by omega), h1, h2, hp]
          refine Ev.eq (ih (j + 1) (by omega) (by omega)) ?_
          rw [beq_cons', beq_self_eq_true, Bool.true_and]
        · refine Ev.pos (by
            have : ¬ (l[j].1 = l'[j].1 ∧ l[j].2 = l'[j].2) := fun h => hp (Prod.ext h.1 h.2)
            simp [sPa]; omega) ?_
          refine Ev.eq (Ev.now false) ?_
          have : (l[j] == l'[j]) = false := beq_eq_false_iff_ne.2 hp
          rw [h1, h2, beq_cons', this, Bool.false_and]
    exact Ev.eq (key l.length 0 (by omega) (by omega)) (by simp)
  · refine Ev.neg (by omega) (Ev.eq (Ev.now false) (ne_of_len he).symm)
theorem sameLevels_ev (lv lv' : List Lv) (hl : lv.length ≤ 9223372036854775807) (hl2 : ∀ l ∈ lv, l.length ≤ 9223372036854775807) : Ev (fun n => spandrelkit_SameLevels.f n (lv.map sLv) (lv'.map sLv)) (lv == lv') := by
  unfold spandrelkit_SameLevels.f
  simp only [List.length_map]
  by_cases he : lv.length = lv'.length
  · refine Ev.pos (by omega) ?_
    have key : ∀ (m j : Nat), lv.length - j = m → j ≤ lv.length → Ev (fun n => spandrelkit_SameLevels.l0 n (lv.map sLv) (lv'.map sLv) (j : Int)) (lv.drop j == lv'.drop j) := by
      intro m
      induction m with
      | zero =>
        intro j hm hj
        refine Ev.round ?_
        simp only [spandrelkit_SameLevels.l0, List.length_map]
        refine Ev.neg (by omega) ?_
        rw [List.drop_of_length_le (by omega), List.drop_of_length_le (by omega)]
        exact Ev.now _
      | succ m ih =>
        intro j hm hj
        refine Ev.round ?_
        simp only [spandrelkit_SameLevels.l0, List.length_map, rd_lv lv j (by omega), rd_lv lv' j (by omega)]
        refine Ev.pos (by omega) ?_
        refine Ev.pos (by omega) ?_
        refine Ev.pos (by omega) ?_
        have h1 : lv.drop j = lv[j] :: lv.drop (j + 1) := List.drop_eq_getElem_cons (by omega)
        have h2 : lv'.drop j = lv'[j] :: lv'.drop (j + 1) := List.drop_eq_getElem_cons (by omega)
        have h3 : Ev (fun n => spandrelkit_SameLevel.f n (sLv lv[j]).f0 (sLv lv'[j]).f0) (lv[j] == lv'[j]) := Ev.bind (parts_ev lv[j] lv'[j] (hl2 _ (List.getElem_mem (by omega)))) (Ev.now _)
        refine Ev.bind h3 ?_
        rw [h1, h2]
        by_cases hp : lv[j] = lv'[j]
        · refine Ev.pos (by simp [hp]) ?_
          rw [wrap_id (by omega) (by omega), hp]
          refine Ev.eq (ih (j + 1) (by omega) (by omega)) ?_
          rw [beq_cons', beq_self_eq_true, Bool.true_and]
        · refine Ev.neg (by simp [hp]) ?_
          refine Ev.eq (Ev.now false) ?_
          have : (lv[j] == lv'[j]) = false := beq_eq_false_iff_ne.2 hp
          rw [beq_cons', this, Bool.false_and]
    exact Ev.eq (key lv.length 0 (by omega) (by omega)) (by simp)
  · refine Ev.neg (by omega) (Ev.eq (Ev.now false) (ne_of_len he).symm)
theorem len_lvs {w : World} {v : Value} {lv : List Lv} (h : RdLvs w v lv) : lv.length ≤ 9223372036854775807 ∧ ∀ l ∈ lv, l.length ≤ 9223372036854775807 := by
  obtain ⟨A, c, _, _, h1, h2⟩ := h
  refine ⟨h1, fun l hl => ?_⟩
  rcases h2 with rfl | ⟨b, o, _, h2⟩
  · cases hl
  obtain ⟨i, hi, rfl⟩ := List.mem_iff_getElem.1 hl
  obtain ⟨cs, _, ⟨u, _, hu⟩, _⟩ := h2.get i _ (List.getElem?_eq_getElem hi)
  obtain ⟨_, _, _, _, h3, _⟩ := hu
  exact h3
theorem SameLevels_any (lv lv' : List Lv) (v v' : Value) (w : World) (h : RdLvs w v lv) (h' : RdLvs w v' lv') :
    Calls Tryd.prog 46 #[v, v'] w fun e w' => e = .returned (.bool (lv == lv')) ∧ Below w.heap.size w w' := by
  obtain ⟨n, hn⟩ := (sameLevels_ev lv lv' (len_lvs h).1 (len_lvs h).2).rounds
  obtain ⟨A, c, rfl, hl, hr⟩ := k_of_lvs h
  obtain ⟨A', c', rfl, hl', hr'⟩ := k_of_lvs h'
  have e3 : (lv.map sLv).length = lv.length := List.length_map ..
  have e4 : (lv'.map sLv).length = lv'.length := List.length_map ..
  have hc := spandrelkit_SameLevels.calls n A c (lv.map sLv) A' c' (lv'.map sLv) _ w (by rw [e3]; exact hr) (by rw [e3]; exact hl) (by rw [e4]; exact hr') (by rw [e4]; exact hl') hn
  rw [e3, e4] at hc
  exact hc

mutual
def Tm.eqb : Tm → Tm → Bool
  | .mk k n a lv ks, .mk k' n' a' lv' ks' => k == k' && n == n' && a == a' && lv == lv' && Tm.eqbL ks ks'
def Tm.eqbL : List Tm → List Tm → Bool
  | [], [] => true
  | t :: ts, u :: us => Tm.eqb t u && Tm.eqbL ts us
  | _, _ => false
end
theorem Tm.eqbL_snoc : ∀ (ts us : List Tm) (k : Nat) (h : k < ts.length) (h' : k < us.length), Tm.eqbL (ts.take k) (us.take k) = true → Tm.eqbL (ts.take (k + 1)) (us.take (k + 1)) = Tm.eqb ts[k] us[k]
  | [], _, _, h, _, _ => by simp at h
  | _ :: _, [], _, _, h', _ => by simp at h'
  | t :: ts, u :: us, 0, _, _, _ => by simp [Tm.eqbL]
  | t :: ts, u :: us, k + 1, h, h', he => by
    simp only [List.take_succ_cons, Tm.eqbL, Bool.and_eq_true] at he ⊢
    rw [Tm.eqbL_snoc ts us k (by simpa using h) (by simpa using h') he.2, he.1]
    simp
theorem Tm.eqbL_take : ∀ (ts us : List Tm) (k : Nat), Tm.eqbL (ts.take k) (us.take k) = false → Tm.eqbL ts us = false
  | [], [], k, h => by simp [Tm.eqbL] at h
  | [], u :: us, k, h => by simp [Tm.eqbL]
  | t :: ts, [], k, h => by simp [Tm.eqbL]
  | t :: ts, u :: us, 0, h => by simp [Tm.eqbL] at h
  | t :: ts, u :: us, k + 1, h => by
    simp only [List.take_succ_cons, Tm.eqbL, Bool.and_eq_false_iff] at h ⊢
    rcases h with h | h
    · exact .inl h
    · exact .inr (Tm.eqbL_take ts us k h)
theorem Tm.eqbL_len : ∀ (ts us : List Tm), ts.length ≠ us.length → Tm.eqbL ts us = false
  | [], [], h => by simp at h
  | [], u :: us, h => by simp [Tm.eqbL]
  | t :: ts, [], h => by simp [Tm.eqbL]
  | t :: ts, u :: us, h => by simp [Tm.eqbL, Tm.eqbL_len ts us (by simpa using h)]
def SameP (t : Tm) : Prop := ∀ (u : Tm) (cs cs' : List Value) (w : World), RdT w t cs → RdT w u cs' →
  Calls Tryd.prog 10 #[.agg cs.toArray, .agg cs'.toArray] w fun e w' => e = .returned (.bool (Tm.eqb t u)) ∧ Below w.heap.size w w'

set_option maxRecDepth 100000 in
set_option maxHeartbeats 400000 in
theorem SameTerms_of (ts us : List Tm) (hP : ∀ t ∈ ts, SameP t) (v v' : Value) (w : World) (h : RdTs w v ts) (h' : RdTs w v' us) :
    Calls Tryd.prog 47 #[v, v'] w fun e w' => e = .returned (.bool (Tm.eqbL ts us)) ∧ Below w.heap.size w w' := by
  obtain ⟨A, c, rfl, hc1, hc2, hr⟩ := h
  obtain ⟨A', c', rfl, hc1', hc2', hr'⟩ := h'
  have hb1 : (ts.length : Int) ≤ 9223372036854775807 := by omega
  clear hc2 hc2'
  by_cases hl : ts.length = us.length
  · have hne : ((ts.length : Int) != (us.length : Int)) = false := by simp [hl]
    have HL := Lib.hid hl; clear hl
    go_enter Tryd.func47, Tryd.ntmps47
    go_wp2_with fail
    go_loopw [5] (fun i wr => ∃ k : Nat, k ≤ ts.length ∧ i = .int .i64 k ∧ Below w.heap.size w wr ∧ Hid (Tm.eqbL (ts.take k) (us.take k) = true)) (fun i _ => ts.length - (intOf i).toNat)
    case atStart => exact ⟨0, by omega, rfl, Below.refl _ _, by simp [Hid, Tm.eqbL]⟩
    case round =>
      obtain ⟨k, hk, rfl, hb, he⟩ := hrel
      by_cases hlt : k < ts.length
      · rcases hr with rfl | ⟨b, o, rfl, hr⟩
        · simp at hlt
        rcases hr' with rfl | ⟨b', o', rfl, hr'⟩
        · have := HL.out; rw [this] at hlt; simp at hlt
        have hlt' : k < us.length := by rw [← HL.out]; exact hlt
        obtain ⟨k0, n0, a0, A1, l1, c1, A2, l2, c2, hT, e0, e1, e2, e3, e4, hbl⟩ := RdT_at hr k hlt
        obtain ⟨k0', n0', a0', A1', l1', c1', A2', l2', c2', hT', e0', e1', e2', e3', e4', hbl'⟩ := RdT_at hr' k hlt'
        obtain ⟨hc, hf⟩ := bcell hb
        have HC := Lib.hid (fun W (hW : Keeps w W) => hP ts[k] (List.getElem_mem hlt) us[k] _ _ W (RdT.below hW _ _ hT) (RdT.below hW _ _ hT'))
        have HS := Lib.hid (Tm.eqbL_snoc ts us k hlt hlt' he)
        have HT := Lib.hid (Tm.eqbL_take ts us (k + 1))
        cases hq : Tm.eqb ts[k] us[k]
        all_goals
          rw [hq] at HC HS
          clear hq
          go_wp2_with fail
          go_region_held3 (fun W => ∀ b o, b < w.heap.size → W.cell? ⟨b, o, none⟩ = w.cell? ⟨b, o, none⟩)
            (first | exact hc | exact Keeps.step hc hb.size (undrew hb2))
            (first | (go_at_call 10; refine (HC.out _ (by assumption)).mono ?_; rintro e w1 ⟨rfl, hb2⟩))
          clear hc hf e0 e1 e2 e3 e4 e0' e1' e2' e3' e4'
          go_wp2
        · go_ret
          exact ⟨ret_bool (HT.out HS.out).symm, hb.trans ((undrew hb2).mono hb.size)⟩
        · go_roundw
          case rel => exact ⟨k + 1, by omega, by go_num, hb.trans ((undrew hb2).mono hb.size), HS.out⟩
          case measure => simp [intOf]; omega
      · go_wp2
        go_ret
        have hk' : k = ts.length := by omega
        subst hk'
        have h1 := he.out
        rw [List.take_length, HL.out, List.take_length] at h1
        exact ⟨ret_bool h1.symm, hb⟩
  · have hne : ((ts.length : Int) != (us.length : Int)) = true := by simp; omega
    go_enter Tryd.func47, Tryd.ntmps47
    go_wp2
    go_ret
    exact ⟨ret_bool (Tm.eqbL_len ts us hl).symm, Below.refl _ _⟩

set_option maxRecDepth 100000 in
set_option maxHeartbeats 1000000 in
theorem SameTerm_of (k n a : Int) (lv : List Lv) (kids : List Tm) (ih : ∀ t ∈ kids, SameP t) : SameP (.mk k n a lv kids) := by
  intro u cs cs' w h h'
  obtain ⟨k', n', a', lv', kids'⟩ := u
  obtain ⟨vl, vk, rfl, h1, h2⟩ := (RdT_mk ..).1 h
  obtain ⟨vl', vk', rfl, h1', h2'⟩ := (RdT_mk ..).1 h'
  have hb := blks2 w #[.int .i64 k, .int .i64 n, .int .i64 a, vl, vk] #[.int .i64 k', .int .i64 n', .int .i64 a', vl', vk'] 30 30
  have HC := Lib.hid (fun W (hk : Keeps w W) => SameLevels_any lv lv' vl vl' W (h1.below hk) (h1'.below hk))
  have HT := Lib.hid (fun W (hk : Keeps w W) => SameTerms_of kids kids' ih vk vk' W (h2.below hk) (h2'.below hk))
  obtain ⟨A1, c1, rfl, _⟩ := id h1
  obtain ⟨A2, c2, rfl, _⟩ := id h2
  obtain ⟨A1', c1', rfl, _⟩ := id h1'
  obtain ⟨A2', c2', rfl, _⟩ := id h2'
  have HB := Lib.hid hb
  clear h h' h1 h2 h1' h2' ih hb
  obtain ⟨r, hr⟩ : ∃ r, r = Tm.eqb (.mk k n a lv kids) (.mk k' n' a' lv' kids') := ⟨_, rfl⟩
  rw [← hr]
  simp only [Tm.eqb] at hr
  have e1 : (k == k') = true ∨ (k == k') = false := by cases (k == k') <;> simp
  rcases e1 with e1 | e1
  rotate_left
  · have HR := Lib.hid (show r = false by rw [hr, e1]; simp)
    clear hr
    go_enter Tryd.func10, Tryd.ntmps10
    go_wp2
    go_ret
    exact ⟨ret_bool HR.out.symm, HB.out.2.2.1⟩
  have e2 : (n == n') = true ∨ (n == n') = false := by cases (n == n') <;> simp
  rcases e2 with e2 | e2
  rotate_left
  · have HR := Lib.hid (show r = false by rw [hr, e2]; simp)
    clear hr
    go_enter Tryd.func10, Tryd.ntmps10
    go_wp2
    go_ret
    exact ⟨ret_bool HR.out.symm, HB.out.2.2.1⟩
  have e3 : (a == a') = true ∨ (a == a') = false := by cases (a == a') <;> simp
  rcases e3 with e3 | e3
  rotate_left
  · have HR := Lib.hid (show r = false by rw [hr, e3]; simp)
    clear hr
    go_enter Tryd.func10, Tryd.ntmps10
    go_wp2
    go_ret
    exact ⟨ret_bool HR.out.symm, HB.out.2.2.1⟩
  have HR := Lib.hid (show r = ((lv == lv') && Tm.eqbL kids kids') by rw [hr, e1, e2, e3]; simp)
  clear hr
  go_enter Tryd.func10, Tryd.ntmps10
  go_wp2_with fail
  generalize ((w.alloc _).alloc _) = W at *
  obtain ⟨k0, k1, hb, hsz⟩ := HB.out
  refine (HC.out W (keeps_of hb)).mono ?_
  rintro e w1 ⟨rfl, hb1⟩
  have k0 := k0.below hb1
  have k1 := k1.below hb1
  have hbw := hb.trans (hb1.mono hb.size)
  have g0 := k0.cell
  have g1 := k1.cell
  have HW := Lib.hid hbw
  clear hb hb1 k0 k1 hbw hsz HB
  have e4 : (lv == lv') = true ∨ (lv == lv') = false := by cases (lv == lv') <;> simp
  rcases e4 with e4 | e4
  · rw [e4] at HR
    rw [e4]
    clear e4
    go_wp2_with fail
    refine (HT.out w1 (keeps_of HW.out)).mono ?_
    rintro e w2 ⟨rfl, hb2⟩
    have HB2 := Lib.hid hb2
    clear hb2
    go_wp2
    go_ret
    exact ⟨ret_bool (by rw [HR.out]; simp), HW.out.trans (HB2.out.mono HW.out.size)⟩
  · rw [e4] at HR
    rw [e4]
    clear e4
    go_wp2
    go_ret
    exact ⟨ret_bool (by rw [HR.out]; simp), HW.out⟩
theorem Same_any : ∀ t, SameP t := by
  intro t
  induction t using Tm.ind with
  | h k n a lv kids ih => exact SameTerm_of k n a lv kids ih
mutual
theorem eqb_refl : ∀ t : Tm, Tm.eqb t t = true
  | .mk k n a lv kids => by simp [Tm.eqb, eqbL_refl kids]
theorem eqbL_refl : ∀ ts : List Tm, Tm.eqbL ts ts = true
  | [] => rfl
  | t :: ts => by simp [Tm.eqbL, eqb_refl t, eqbL_refl ts]
end
end Go.Proofs.YtebgldnlkkhejaaDoor.PCarryNames

/-! ## spandrellaw04: same, rows, awake. -/
namespace Go.Proofs.YtebgldnlkkhejaaDoor.PCarryNames
set_option linter.unusedSimpArgs false
set_option linter.unusedVariables false
open Go Go.RowKit Go.Proofs.YtebgldnlkkhejaaDoor Go.Proofs.YtebgldnlkkhejaaDoorW.PrintLast

set_option maxRecDepth 100000 in
theorem same4_any (t u : Tm) (cs cs' : List Value) (w : World) (h : RdT w t cs) (h' : RdT w u cs') :
    Calls Tryd.prog 22 #[.agg cs.toArray, .agg cs'.toArray] w fun e w' => e = .returned (.bool (Tm.eqb t u)) ∧ Below w.heap.size w w' := by
  obtain ⟨A1, l1, c1, A2, l2, c2, rfl⟩ := h.cells
  obtain ⟨A3, l3, c3, A4, l4, c4, rfl⟩ := h'.cells
  obtain ⟨k0, k1, hb, hsz⟩ := blks2 w #[.int .i64 t.kind, .int .i64 t.num, .int .i64 t.place, .slice A1 l1 c1, .slice A2 l2 c2] #[.int .i64 u.kind, .int .i64 u.num, .int .i64 u.place, .slice A3 l3 c3, .slice A4 l4 c4] 30 30
  have HC := Lib.hid (Same_any t u _ _ _ (RdT.below (keeps_of hb) _ _ h) (RdT.below (keeps_of hb) _ _ h'))
  have HB := Lib.hid hb
  clear k0 k1 hb hsz h h'
  go_enter Tryd.func22, Tryd.ntmps22
  go_wp2_with fail
  refine HC.out.mono ?_
  rintro e w1 ⟨rfl, hb1⟩
  have HB1 := Lib.hid (HB.out.trans (hb1.mono HB.out.size))
  clear hb1 HC HB
  go_wp2
  go_ret
  exact ⟨rfl, HB1.out⟩
set_option maxRecDepth 100000 in
theorem rows4_any (ts us : List Tm) (v v' : Value) (w : World) (h : RdTs w v ts) (h' : RdTs w v' us) :
    Calls Tryd.prog 21 #[v, v'] w fun e w' => e = .returned (.bool (Tm.eqbL ts us)) ∧ Below w.heap.size w w' := by
  have HC := Lib.hid (SameTerms_of ts us (fun t _ => Same_any t) v v' w h h')
  obtain ⟨A, c, rfl, -⟩ := h
  obtain ⟨A', c', rfl, -⟩ := h'
  go_enter Tryd.func21, Tryd.ntmps21
  go_wp2_with fail
  refine HC.out.mono ?_
  rintro e w1 ⟨rfl, hb1⟩
  have HB1 := Lib.hid hb1
  clear hb1 HC
  go_wp2
  go_ret
  exact ⟨rfl, HB1.out⟩
/-! ### The chapter's examples -/
def v5 (n : Int) : E5 := ⟨1, n, 0, none, 0, 0, none, 0, 0⟩
def o5 (k : Int) (z : Nat) : E5 := ⟨k, 0, 0, none, 0, 0, some ⟨z, 0, none⟩, 2, 2⟩
theorem rd_v (w : World) (n : Int) : RdT w (vT n) (v5 n).cells := (RdT_mk ..).2 ⟨_, _, rfl, rdLvs_nil w, none, 0, rfl, by simp, by simp, .inl rfl⟩
def of2 (k : Int) (x y : Tm) : Tm := .mk k 0 0 [] [x, y]
theorem rd_of2 {w : World} {z : Nat} {k : Int} {x y : E5} {a b : Tm} (h : Blk w z (x.cells ++ y.cells).toArray 30) (ha : RdT w a x.cells) (hb : RdT w b y.cells) : RdT w (of2 k a b) (o5 k z).cells := rd_two h ha hb
theorem rds_two {w : World} {z : Nat} {x y : E5} {a b : Tm} (h : Blk w z (x.cells ++ y.cells).toArray 30) (ha : RdT w a x.cells) (hb : RdT w b y.cells) : RdTs w (.slice (some ⟨z, 0, none⟩) 2 2) [a, b] := by
  obtain ⟨h1, h2⟩ := atP_blk h rfl
  exact ⟨some ⟨z, 0, none⟩, 2, rfl, by simp, by simp, .inr ⟨z, 0, rfl, ⟨_, rfl, ha, h1⟩, ⟨_, rfl, hb, h2⟩, trivial⟩⟩
theorem fit_v (n : Int) (h1 : -9223372036854775808 ≤ n) (h2 : n ≤ 9223372036854775807) : AllN Fits (vT n) := .mk ⟨h1, h2⟩ (by simp)
theorem own_v (n : Int) (h1 : -9223372036854775808 ≤ n) (h2 : n ≤ 9223372036854775807) : ownT (vT n) = vT n := ownT_eq (num64_of _ (fit_v n h1 h2))
theorem okt_v (n : Int) : Okt (vT n) ∧ (vT n).nodes ≤ 1152921504606846976 := ⟨.mk ⟨by simp, by simp⟩ (by simp) (by simp), by simp [vT, Tm.nodes, Tm.nodesL]⟩
theorem okt_of2 {k : Int} {x y : Tm} (hx : Okt x) (hy : Okt y) : Okt (of2 k x y) := .mk ⟨by simp, by simp⟩ (by simp) (by
  intro t ht
  simp at ht
  rcases ht with rfl | rfl
  · exact hx
  · exact hy)
theorem spine_ex : spineT (of2 6 (of2 6 (vT 9) (vT 1)) (vT 2)) = (vT 9, [vT 1, vT 2]) := by
  simp [of2, vT, spineT]
set_option maxRecDepth 100000 in
set_option maxHeartbeats 4000000 in
theorem awake4_any (w : World) (hK : Kinds w) :
    Calls Tryd.prog 16 #[] w fun e w' => e = .returned (.bool true) ∧ Below w.heap.size w w' := by
  have HK := Lib.hid hK
  clear hK
  go_enter Tryd.func16, Tryd.ntmps16
  go_wp2_with fail
  refine (v_any 9 w).mono ?_
  rintro e w1 ⟨rfl, hb⟩
  have HB1 := Lib.hid hb
  clear hb
  go_wp2_with fail
  refine (v_any 1 w1).mono ?_
  rintro e w2 ⟨rfl, hb⟩
  have HB2 := Lib.hid (HB1.out.trans (hb.mono HB1.out.size))
  clear hb HB1
  have HZ := Lib.hid (blks1 w2 ((v5 9).cells ++ (v5 1).cells).toArray 30)
  go_wp2_with fail
  obtain ⟨kz, hb, -⟩ := HZ.out
  obtain ⟨wz, hwz⟩ : ∃ wz, wz = w2.alloc (.cells ((v5 9).cells ++ (v5 1).cells).toArray 30) := ⟨_, rfl⟩
  rw [← hwz] at kz hb
  rw [show w2.alloc (.cells #[.int .i64 1, .int .i64 9, .int .i64 0, .slice none 0 0, .slice none 0 0, .int .i64 1, .int .i64 1, .int .i64 0, .slice none 0 0, .slice none 0 0] 30) = wz from hwz.symm]
  have HB3 := Lib.hid (And.intro (HB2.out.trans (hb.mono HB2.out.size)) kz)
  clear kz hb hwz HZ HB2
  refine (of_any 6 _ 2 2 wz).mono ?_
  rintro e w3 ⟨rfl, hb⟩
  have HB4 := Lib.hid (And.intro (HB3.out.1.trans (hb.mono HB3.out.1.size)) (HB3.out.2.below hb))
  clear hb HB3
  go_wp2_with fail
  refine (v_any 2 w3).mono ?_
  rintro e w4 ⟨rfl, hb⟩
  have HB5 := Lib.hid (And.intro (HB4.out.1.trans (hb.mono HB4.out.1.size)) (HB4.out.2.below hb))
  clear hb HB4
  have HZ := Lib.hid (blks1 w4 ((o5 6 w2.heap.size).cells ++ (v5 2).cells).toArray 30)
  go_wp2_with fail
  obtain ⟨kz, hb, -⟩ := HZ.out
  obtain ⟨wy, hwz⟩ : ∃ wy, wy = w4.alloc (.cells ((o5 6 w2.heap.size).cells ++ (v5 2).cells).toArray 30) := ⟨_, rfl⟩
  rw [← hwz] at kz hb
  rw [show w4.alloc (.cells #[.int .i64 6, .int .i64 0, .int .i64 0, .slice none 0 0, .slice (some ⟨w2.heap.size, 0, none⟩) 2 2, .int .i64 1, .int .i64 2, .int .i64 0, .slice none 0 0, .slice none 0 0] 30) = wy from hwz.symm]
  have HB6 := Lib.hid (And.intro (HB5.out.1.trans (hb.mono HB5.out.1.size)) (And.intro (HB5.out.2.below hb) kz))
  clear kz hb hwz HZ HB5
  refine (of_any 6 _ 2 2 wy).mono ?_
  rintro e w5 ⟨rfl, hb⟩
  have HB7 := Lib.hid (And.intro (HB6.out.1.trans (hb.mono HB6.out.1.size)) (And.intro (HB6.out.2.1.below hb) (HB6.out.2.2.below hb)))
  clear hb HB6
  go_wp2_with fail
  refine (Spine_any (of2 6 (of2 6 (vT 9) (vT 1)) (vT 2)) (o5 6 w4.heap.size).cells w5 (HK.out.below HB7.out.1) ⟨rd_of2 HB7.out.2.2 (rd_of2 HB7.out.2.1 (rd_v _ 9) (rd_v _ 1)) (rd_v _ 2), okt_of2 (okt_of2 (okt_v 9).1 (okt_v 1).1) (okt_v 2).1, by simp [of2, vT, Tm.nodes, Tm.nodesL]⟩ (by simp [of2, vT, Tm.nodes, Tm.nodesL])).mono ?_
  rintro e w6 ⟨csh, Al, cl, Fh, Fl, rfl, hO1, hO2, hF, hb⟩
  rw [spine_ex] at hO1 hO2 ⊢
  dsimp only at hO1 hO2 ⊢
  rw [own_v 9 (by decide) (by decide)] at hO1
  simp only [List.map_cons, List.map_nil, own_v 1 (by decide) (by decide), own_v 2 (by decide) (by decide)] at hO2
  obtain ⟨A1, l1, c1, A2, l2, c2, rfl⟩ := hO1.cells
  have HL := Lib.hid (And.intro (HB7.out.1.trans (hb.mono HB7.out.1.size)) (And.intro hO1.rd hO2.rd))
  clear hO1 hO2 hF hb HB7
  simp only [List.length_cons, List.length_nil, Nat.zero_add, Nat.reduceAdd]
  have HK1 := Lib.hid (blks1 w6 #[.int .i64 1, .int .i64 9, .int .i64 0, .slice A1 l1 c1, .slice A2 l2 c2] 30)
  simp only [vT, Tm.kind, Tm.num, Tm.place]
  go_wp2_with fail
  obtain ⟨k1, hb, -⟩ := HK1.out
  obtain ⟨wA, hwA⟩ : ∃ wA, wA = w6.alloc (.cells #[.int .i64 1, .int .i64 9, .int .i64 0, .slice A1 l1 c1, .slice A2 l2 c2] 30) := ⟨_, rfl⟩
  rw [← hwA] at k1 hb ⊢
  have g1 := k1.cell
  have n1 := k1.lt
  have HS0 := Lib.hid (And.intro (Below.refl wA.heap.size wA) (And.intro (RdT.below (keeps_of hb) _ _ HL.out.2.1) (HL.out.2.2.below (keeps_of hb))))
  have HW := Lib.hid (HL.out.1.trans (hb.mono HL.out.1.size))
  clear k1 hb hwA HK1 HL
  refine start_ (n := 33) (S := fun W' => ∀ b o, b < wA.heap.size → W'.cell? ⟨b, o, none⟩ = wA.cell? ⟨b, o, none⟩) (ds := []) #[false, false, false, false, false, false, false, false, false, false, false, false, false, false, false, false, false, false, false, false, false, false, false, false, false, false, false, false, false, false, false, false, false] (by kernel_rfl) rfl rfl (by exact (fun _ _ _ => rfl)) (fun hHeld => ?_)
  refine one_ (i := 0) (N := some 14) #[true, false, false, false, false, false, false, false, false, false, false, false, false, false, false, false, false, false, false, false, false, false, false, false, false, false, false, false, false, false, false, false, false] rfl rfl (by kernel_rfl) (by decide) (fun K hK => ?_)
  go_simp
  refine (v_any 1 _).mono ?_
  rintro e x1 ⟨rfl, hb⟩
  replace hb := undrew hb
  have HS1 := Lib.hid (And.intro (HS0.out.1.trans (hb.mono HS0.out.1.size)) (And.intro (RdT.below (keeps_of hb) _ _ HS0.out.2.1) (HS0.out.2.2.below (keeps_of hb))))
  clear HS0
  clear hb
  refine hK.out _ _ (keeps_of HS1.out.1) (fun hHeld => ?_)
  clear hK K
  refine norm_ (a' := ?_) ?_ ?_
  rotate_left
  · first
      | rfl
      | (simp only [Act.put, List.setIfInBounds_toArray, List.set_cons_zero, List.set_cons_succ]; rfl)
  refine one_ (i := 1) (N := some 15) #[true, true, false, false, false, false, false, false, false, false, false, false, false, false, false, false, false, false, false, false, false, false, false, false, false, false, false, false, false, false, false, false, false] rfl rfl (by kernel_rfl) (by decide) (fun K hK => ?_)
  go_simp
  refine (v_any 2 _).mono ?_
  rintro e x2 ⟨rfl, hb⟩
  have HS2 := Lib.hid (And.intro (HS1.out.1.trans (hb.mono HS1.out.1.size)) (And.intro (RdT.below (keeps_of hb) _ _ HS1.out.2.1) (HS1.out.2.2.below (keeps_of hb))))
  clear HS1
  clear hb
  refine hK.out _ _ (keeps_of HS2.out.1) (fun hHeld => ?_)
  clear hK K
  refine norm_ (a' := ?_) ?_ ?_
  rotate_left
  · first
      | rfl
      | (simp only [Act.put, List.setIfInBounds_toArray, List.set_cons_zero, List.set_cons_succ]; rfl)
  refine join_ (σ := Nat) 29 #[true, true, true, true, false, false, false, false, false, false, false, false, false, false, false, false, false, false, false, false, false, false, false, false, false, false, false, false, false, false, false, false, false] (fun s => [(16, .slice (some ⟨s, 0, none⟩) 2 2), (17, .agg (v5 3).cells.toArray)]) (fun s w' => Below x2.heap.size x2 w' ∧ Blk w' s ((v5 1).cells ++ (v5 2).cells).toArray 30) ?_ ?_
  rotate_left
  · intro hJ
    refine two_ (i := 2) (j := 3) (Ni := some 16) (Nj := some 17) #[true, true, true, false, false, false, false, false, false, false, false, false, false, false, false, false, false, false, false, false, false, false, false, false, false, false, false, false, false, false, false, false, false] #[true, true, false, true, false, false, false, false, false, false, false, false, false, false, false, false, false, false, false, false, false, false, false, false, false, false, false, false, false, false, false, false, false] rfl rfl rfl rfl (by kernel_rfl) (by decide) (by decide) (fun K hK => ?_) (fun K hK => ?_)
    · go_simp
      have hbz : Below x2.heap.size x2 (x2.alloc (.cells #[.int .i64 1, .int .i64 1, .int .i64 0, .slice none 0 0, .slice none 0 0, .int .i64 1, .int .i64 2, .int .i64 0, .slice none 0 0, .slice none 0 0] 30)) := (Below.refl _ _).alloc (Nat.le_refl _) _
      refine hK.out _ _ (keeps_of (HS2.out.1.trans (hbz.mono HS2.out.1.size))) (fun hHeld => ?_)
      clear hK K
      refine one_ (i := 3) (N := some 17) #[true, true, true, true, false, false, false, false, false, false, false, false, false, false, false, false, false, false, false, false, false, false, false, false, false, false, false, false, false, false, false, false, false] rfl rfl (by kernel_rfl) (by decide) (fun K hK => ?_)
      go_simp
      refine (v_any 3 _).mono ?_
      rintro e x3 ⟨rfl, hb⟩
      have hb3 := hbz.trans (hb.mono hbz.size)
      refine hK.out _ _ (keeps_of (HS2.out.1.trans (hb3.mono HS2.out.1.size))) (fun hHeld => ?_)
      clear hK K
      refine norm_ (a' := ?_) ?_ ?_
      rotate_left
      · first
          | rfl
          | (simp only [Act.put, List.setIfInBounds_toArray, List.set_cons_zero, List.set_cons_succ]; rfl)
      exact hJ x2.heap.size _ ⟨hb3, (Blk.new x2 _ _).below hb⟩
    · go_simp
      refine (v_any 3 _).mono ?_
      rintro e x3 ⟨rfl, hb⟩
      refine hK.out _ _ (keeps_of (HS2.out.1.trans (hb.mono HS2.out.1.size))) (fun hHeld => ?_)
      clear hK K
      refine norm_ (a' := ?_) ?_ ?_
      rotate_left
      · first
          | rfl
          | (simp only [Act.put, List.setIfInBounds_toArray, List.set_cons_zero, List.set_cons_succ]; rfl)
      refine one_ (i := 2) (N := some 16) #[true, true, true, true, false, false, false, false, false, false, false, false, false, false, false, false, false, false, false, false, false, false, false, false, false, false, false, false, false, false, false, false, false] rfl rfl (by kernel_rfl) (by decide) (fun K hK => ?_)
      go_simp
      have hbz : Below x3.heap.size x3 (x3.alloc (.cells #[.int .i64 1, .int .i64 1, .int .i64 0, .slice none 0 0, .slice none 0 0, .int .i64 1, .int .i64 2, .int .i64 0, .slice none 0 0, .slice none 0 0] 30)) := (Below.refl _ _).alloc (Nat.le_refl _) _
      have hb3 := hb.trans (hbz.mono hb.size)
      refine hK.out _ _ (keeps_of (HS2.out.1.trans (hb3.mono HS2.out.1.size))) (fun hHeld => ?_)
      clear hK K
      refine norm_ (a' := ?_) ?_ ?_
      rotate_left
      · first
          | rfl
          | (simp only [Act.put, List.setIfInBounds_toArray, List.set_cons_zero, List.set_cons_succ]; rfl)
      exact hJ x3.heap.size _ ⟨hb3, Blk.new x3 _ _⟩
  rintro z1 x4 ⟨hb4, kz1⟩
  refine norm_ (a' := ?_) ?_ ?_
  rotate_left
  · simp only [putAll, Act.put, List.setIfInBounds_toArray, List.set_cons_zero, List.set_cons_succ, v5, E5.cells]
    rfl
  have HS3 := Lib.hid (And.intro (HS2.out.1.trans (hb4.mono HS2.out.1.size)) (And.intro (RdT.below (keeps_of hb4) _ _ HS2.out.2.1) (And.intro (HS2.out.2.2.below (keeps_of hb4)) (kz1))))
  clear HS2
  clear hb4 kz1
  refine one_ (i := 4) (N := some 18) #[true, true, true, true, true, false, false, false, false, false, false, false, false, false, false, false, false, false, false, false, false, false, false, false, false, false, false, false, false, false, false, false, false] rfl rfl (by kernel_rfl) (by decide) (fun K hK => ?_)
  go_simp
  refine (Pis_any [vT 1, vT 2] (vT 3) (.slice (some ⟨z1, 0, none⟩) 2 2) (v5 3).cells x4 (HK.out.below (HW.out.trans (HS3.out.1.mono HW.out.size))) ⟨rds_two HS3.out.2.2.2 (rd_v _ 1) (rd_v _ 2), by decide, fun t ht => by simp at ht; rcases ht with rfl | rfl <;> exact okt_v _⟩ ⟨rd_v _ 3, (okt_v 3).1, (okt_v 3).2⟩).mono ?_
  rintro e x13 ⟨cs5, F5, rfl, hO, hF, hb⟩
  rw [show upT 4 ([vT 1, vT 2].map ownT) (ownT (vT 3)) = of2 4 (vT 1) (of2 4 (vT 2) (vT 3)) from by simp only [List.map_cons, List.map_nil, own_v 1 (by decide) (by decide), own_v 2 (by decide) (by decide), own_v 3 (by decide) (by decide)]; rfl] at hO
  obtain ⟨A3, l3, c3, A4, l4, c4, rfl⟩ := hO.cells
  have hR := hO.rd
  have HS4 := Lib.hid (And.intro (HS3.out.1.trans (hb.mono HS3.out.1.size)) (And.intro (RdT.below (keeps_of hb) _ _ HS3.out.2.1) (And.intro (HS3.out.2.2.1.below (keeps_of hb)) (hR))))
  clear HS3
  clear hO hF hb hR
  refine hK.out _ _ (keeps_of HS4.out.1) (fun hHeld => ?_)
  clear hK K
  refine norm_ (a' := ?_) ?_ ?_
  rotate_left
  · first
      | rfl
      | (simp only [Act.put, List.setIfInBounds_toArray, List.set_cons_zero, List.set_cons_succ]; rfl)
  refine one_ (i := 5) (N := some 19) #[true, true, true, true, true, true, false, false, false, false, false, false, false, false, false, false, false, false, false, false, false, false, false, false, false, false, false, false, false, false, false, false, false] rfl rfl (by kernel_rfl) (by decide) (fun K hK => ?_)
  go_simp
  refine (v_any 1 _).mono ?_
  rintro e x14 ⟨rfl, hb⟩
  have HS5 := Lib.hid (And.intro (HS4.out.1.trans (hb.mono HS4.out.1.size)) (And.intro (RdT.below (keeps_of hb) _ _ HS4.out.2.1) (And.intro (HS4.out.2.2.1.below (keeps_of hb)) (RdT.below (keeps_of hb) _ _ HS4.out.2.2.2))))
  clear HS4
  clear hb
  refine hK.out _ _ (keeps_of HS5.out.1) (fun hHeld => ?_)
  clear hK K
  refine norm_ (a' := ?_) ?_ ?_
  rotate_left
  · first
      | rfl
      | (simp only [Act.put, List.setIfInBounds_toArray, List.set_cons_zero, List.set_cons_succ]; rfl)
  refine one_ (i := 6) (N := some 20) #[true, true, true, true, true, true, true, false, false, false, false, false, false, false, false, false, false, false, false, false, false, false, false, false, false, false, false, false, false, false, false, false, false] rfl rfl (by kernel_rfl) (by decide) (fun K hK => ?_)
  go_simp
  refine (v_any 2 _).mono ?_
  rintro e x15 ⟨rfl, hb⟩
  have HS6 := Lib.hid (And.intro (HS5.out.1.trans (hb.mono HS5.out.1.size)) (And.intro (RdT.below (keeps_of hb) _ _ HS5.out.2.1) (And.intro (HS5.out.2.2.1.below (keeps_of hb)) (RdT.below (keeps_of hb) _ _ HS5.out.2.2.2))))
  clear HS5
  clear hb
  refine hK.out _ _ (keeps_of HS6.out.1) (fun hHeld => ?_)
  clear hK K
  refine norm_ (a' := ?_) ?_ ?_
  rotate_left
  · first
      | rfl
      | (simp only [Act.put, List.setIfInBounds_toArray, List.set_cons_zero, List.set_cons_succ]; rfl)
  refine one_ (i := 7) (N := some 21) #[true, true, true, true, true, true, true, true, false, false, false, false, false, false, false, false, false, false, false, false, false, false, false, false, false, false, false, false, false, false, false, false, false] rfl rfl (by kernel_rfl) (by decide) (fun K hK => ?_)
  go_simp
  refine (v_any 3 _).mono ?_
  rintro e x16 ⟨rfl, hb⟩
  have HS7 := Lib.hid (And.intro (HS6.out.1.trans (hb.mono HS6.out.1.size)) (And.intro (RdT.below (keeps_of hb) _ _ HS6.out.2.1) (And.intro (HS6.out.2.2.1.below (keeps_of hb)) (RdT.below (keeps_of hb) _ _ HS6.out.2.2.2))))
  clear HS6
  clear hb
  refine hK.out _ _ (keeps_of HS7.out.1) (fun hHeld => ?_)
  clear hK K
  refine norm_ (a' := ?_) ?_ ?_
  rotate_left
  · first
      | rfl
      | (simp only [Act.put, List.setIfInBounds_toArray, List.set_cons_zero, List.set_cons_succ]; rfl)
  refine one_ (i := 8) (N := some 22) #[true, true, true, true, true, true, true, true, true, false, false, false, false, false, false, false, false, false, false, false, false, false, false, false, false, false, false, false, false, false, false, false, false] rfl rfl (by kernel_rfl) (by decide) (fun K hK => ?_)
  go_simp
  have kz := Blk.new x16 ((v5 2).cells ++ (v5 3).cells).toArray 30
  have hb : Below x16.heap.size x16 (x16.alloc (.cells ((v5 2).cells ++ (v5 3).cells).toArray 30)) := (Below.refl _ _).alloc (Nat.le_refl _) _
  dsimp only [v5, o5, E5.cells, List.cons_append, List.nil_append] at kz hb
  generalize x16.alloc _ = x17 at kz hb ⊢
  have HS8 := Lib.hid (And.intro (HS7.out.1.trans (hb.mono HS7.out.1.size)) (And.intro (RdT.below (keeps_of hb) _ _ HS7.out.2.1) (And.intro (HS7.out.2.2.1.below (keeps_of hb)) (And.intro (RdT.below (keeps_of hb) _ _ HS7.out.2.2.2) (kz)))))
  clear HS7
  clear kz hb
  refine hK.out _ _ (keeps_of HS8.out.1) (fun hHeld => ?_)
  clear hK K
  refine norm_ (a' := ?_) ?_ ?_
  rotate_left
  · first
      | rfl
      | (simp only [Act.put, List.setIfInBounds_toArray, List.set_cons_zero, List.set_cons_succ]; rfl)
  refine one_ (i := 9) (N := some 23) #[true, true, true, true, true, true, true, true, true, true, false, false, false, false, false, false, false, false, false, false, false, false, false, false, false, false, false, false, false, false, false, false, false] rfl rfl (by kernel_rfl) (by decide) (fun K hK => ?_)
  go_simp
  refine (of_any 4 (some ⟨x16.heap.size, 0, none⟩) 2 2 _).mono ?_
  rintro e x18 ⟨rfl, hb⟩
  have HS9 := Lib.hid (And.intro (HS8.out.1.trans (hb.mono HS8.out.1.size)) (And.intro (RdT.below (keeps_of hb) _ _ HS8.out.2.1) (And.intro (HS8.out.2.2.1.below (keeps_of hb)) (And.intro (RdT.below (keeps_of hb) _ _ HS8.out.2.2.2.1) (HS8.out.2.2.2.2.below hb)))))
  clear HS8
  clear hb
  refine hK.out _ _ (keeps_of HS9.out.1) (fun hHeld => ?_)
  clear hK K
  refine norm_ (a' := ?_) ?_ ?_
  rotate_left
  · first
      | rfl
      | (simp only [Act.put, List.setIfInBounds_toArray, List.set_cons_zero, List.set_cons_succ]; rfl)
  refine one_ (i := 10) (N := some 24) #[true, true, true, true, true, true, true, true, true, true, true, false, false, false, false, false, false, false, false, false, false, false, false, false, false, false, false, false, false, false, false, false, false] rfl rfl (by kernel_rfl) (by decide) (fun K hK => ?_)
  go_simp
  have kz := Blk.new x18 ((v5 1).cells ++ (o5 4 x16.heap.size).cells).toArray 30
  have hb : Below x18.heap.size x18 (x18.alloc (.cells ((v5 1).cells ++ (o5 4 x16.heap.size).cells).toArray 30)) := (Below.refl _ _).alloc (Nat.le_refl _) _
  dsimp only [v5, o5, E5.cells, List.cons_append, List.nil_append] at kz hb
  generalize x18.alloc _ = x19 at kz hb ⊢
  have HS10 := Lib.hid (And.intro (HS9.out.1.trans (hb.mono HS9.out.1.size)) (And.intro (RdT.below (keeps_of hb) _ _ HS9.out.2.1) (And.intro (HS9.out.2.2.1.below (keeps_of hb)) (And.intro (RdT.below (keeps_of hb) _ _ HS9.out.2.2.2.1) (And.intro (HS9.out.2.2.2.2.below hb) (kz))))))
  clear HS9
  clear kz hb
  refine hK.out _ _ (keeps_of HS10.out.1) (fun hHeld => ?_)
  clear hK K
  refine norm_ (a' := ?_) ?_ ?_
  rotate_left
  · first
      | rfl
      | (simp only [Act.put, List.setIfInBounds_toArray, List.set_cons_zero, List.set_cons_succ]; rfl)
  refine one_ (i := 11) (N := some 25) #[true, true, true, true, true, true, true, true, true, true, true, true, false, false, false, false, false, false, false, false, false, false, false, false, false, false, false, false, false, false, false, false, false] rfl rfl (by kernel_rfl) (by decide) (fun K hK => ?_)
  go_simp
  refine (of_any 4 (some ⟨x18.heap.size, 0, none⟩) 2 2 _).mono ?_
  rintro e x20 ⟨rfl, hb⟩
  have HS11 := Lib.hid (And.intro (HS10.out.1.trans (hb.mono HS10.out.1.size)) (And.intro (RdT.below (keeps_of hb) _ _ HS10.out.2.1) (And.intro (HS10.out.2.2.1.below (keeps_of hb)) (And.intro (RdT.below (keeps_of hb) _ _ HS10.out.2.2.2.1) (And.intro (HS10.out.2.2.2.2.1.below hb) (HS10.out.2.2.2.2.2.below hb))))))
  clear HS10
  clear hb
  refine hK.out _ _ (keeps_of HS11.out.1) (fun hHeld => ?_)
  clear hK K
  refine norm_ (a' := ?_) ?_ ?_
  rotate_left
  · first
      | rfl
      | (simp only [Act.put, List.setIfInBounds_toArray, List.set_cons_zero, List.set_cons_succ]; rfl)
  refine one_ (i := 12) (N := some 26) #[true, true, true, true, true, true, true, true, true, true, true, true, true, false, false, false, false, false, false, false, false, false, false, false, false, false, false, false, false, false, false, false, false] rfl rfl (by kernel_rfl) (by decide) (fun K hK => ?_)
  go_simp
  refine (same4_any (of2 4 (vT 1) (of2 4 (vT 2) (vT 3))) (of2 4 (vT 1) (of2 4 (vT 2) (vT 3))) _ (o5 4 x18.heap.size).cells x20 HS11.out.2.2.2.1 (rd_of2 (x := v5 1) (y := (o5 4 x16.heap.size)) HS11.out.2.2.2.2.2 (rd_v _ 1) (rd_of2 (x := v5 2) (y := v5 3) HS11.out.2.2.2.2.1 (rd_v _ 2) (rd_v _ 3)))).mono ?_
  rintro e x21 ⟨rfl, hb⟩
  rw [eqb_refl]
  have HS12 := Lib.hid (And.intro (HS11.out.1.trans (hb.mono HS11.out.1.size)) (And.intro (RdT.below (keeps_of hb) _ _ HS11.out.2.1) (HS11.out.2.2.1.below (keeps_of hb))))
  clear HS11
  clear hb
  refine hK.out _ _ (keeps_of HS12.out.1) (fun hHeld => ?_)
  clear hK K
  refine norm_ (a' := ?_) ?_ ?_
  rotate_left
  · first
      | rfl
      | (simp only [Act.put, List.setIfInBounds_toArray, List.set_cons_zero, List.set_cons_succ]; rfl)
  refine pure_ (i := 13) (N := some 27) (v := ?_) (a' := ?_) #[true, true, true, true, true, true, true, true, true, true, true, true, true, true, false, false, false, false, false, false, false, false, false, false, false, false, false, false, false, false, false, false, false] rfl rfl (by kernel_rfl) (fun _ _ _ h => h) (Or.inl ⟨by rfl, ?_⟩) ?_ ?_
  rotate_left
  · rintro w'
    go_simp
    with_reducible rfl
  rotate_left
  · simp only [Act.put, List.setIfInBounds_toArray, List.set_cons_zero, List.set_cons_succ]
    rfl
  refine one_ (i := 14) (N := some 28) #[true, true, true, true, true, true, true, true, true, true, true, true, true, true, true, false, false, false, false, false, false, false, false, false, false, false, false, false, false, false, false, false, false] rfl rfl (by kernel_rfl) (by decide) (fun K hK => ?_)
  go_simp
  have hV := Vars_nat 1 2 x21 (by decide)
  refine hV.mono ?_
  clear hV
  rintro e x22 ⟨Av, cv, Fv, rfl, hO, hF, hb⟩
  have hvs : varsT ((2 : Nat) : Int) 1 2 = [vT 2, vT 1] := by simp [varsT, varT, vT, wrap64, List.range_succ]
  rw [hvs] at hO ⊢
  simp only [List.length_cons, List.length_nil, Nat.zero_add, Nat.reduceAdd] at hO ⊢
  have hR := hO.rd
  have HS13 := Lib.hid (And.intro (HS12.out.1.trans (hb.mono HS12.out.1.size)) (And.intro (RdT.below (keeps_of hb) _ _ HS12.out.2.1) (And.intro (HS12.out.2.2.below (keeps_of hb)) (hR))))
  clear HS12
  clear hO hF hb hR hvs
  refine hK.out _ _ (keeps_of HS13.out.1) (fun hHeld => ?_)
  clear hK K
  refine norm_ (a' := ?_) ?_ ?_
  rotate_left
  · first
      | rfl
      | (simp only [Act.put, List.setIfInBounds_toArray, List.set_cons_zero, List.set_cons_succ]; rfl)
  refine one_ (i := 15) (N := some 29) #[true, true, true, true, true, true, true, true, true, true, true, true, true, true, true, true, false, false, false, false, false, false, false, false, false, false, false, false, false, false, false, false, false] rfl rfl (by kernel_rfl) (by decide) (fun K hK => ?_)
  go_simp
  refine (v_any 2 _).mono ?_
  rintro e x23 ⟨rfl, hb⟩
  have HS14 := Lib.hid (And.intro (HS13.out.1.trans (hb.mono HS13.out.1.size)) (And.intro (RdT.below (keeps_of hb) _ _ HS13.out.2.1) (And.intro (HS13.out.2.2.1.below (keeps_of hb)) (HS13.out.2.2.2.below (keeps_of hb)))))
  clear HS13
  clear hb
  refine hK.out _ _ (keeps_of HS14.out.1) (fun hHeld => ?_)
  clear hK K
  refine norm_ (a' := ?_) ?_ ?_
  rotate_left
  · first
      | rfl
      | (simp only [Act.put, List.setIfInBounds_toArray, List.set_cons_zero, List.set_cons_succ]; rfl)
  refine one_ (i := 16) (N := some 30) #[true, true, true, true, true, true, true, true, true, true, true, true, true, true, true, true, true, false, false, false, false, false, false, false, false, false, false, false, false, false, false, false, false] rfl rfl (by kernel_rfl) (by decide) (fun K hK => ?_)
  go_simp
  refine (v_any 1 _).mono ?_
  rintro e x24 ⟨rfl, hb⟩
  have HS15 := Lib.hid (And.intro (HS14.out.1.trans (hb.mono HS14.out.1.size)) (And.intro (RdT.below (keeps_of hb) _ _ HS14.out.2.1) (And.intro (HS14.out.2.2.1.below (keeps_of hb)) (HS14.out.2.2.2.below (keeps_of hb)))))
  clear HS14
  clear hb
  refine hK.out _ _ (keeps_of HS15.out.1) (fun hHeld => ?_)
  clear hK K
  refine norm_ (a' := ?_) ?_ ?_
  rotate_left
  · first
      | rfl
      | (simp only [Act.put, List.setIfInBounds_toArray, List.set_cons_zero, List.set_cons_succ]; rfl)
  refine one_ (i := 17) (N := some 31) #[true, true, true, true, true, true, true, true, true, true, true, true, true, true, true, true, true, true, false, false, false, false, false, false, false, false, false, false, false, false, false, false, false] rfl rfl (by kernel_rfl) (by decide) (fun K hK => ?_)
  go_simp
  have kz := Blk.new x24 ((v5 2).cells ++ (v5 1).cells).toArray 30
  have hb : Below x24.heap.size x24 (x24.alloc (.cells ((v5 2).cells ++ (v5 1).cells).toArray 30)) := (Below.refl _ _).alloc (Nat.le_refl _) _
  dsimp only [v5, o5, E5.cells, List.cons_append, List.nil_append] at kz hb
  generalize x24.alloc _ = x25 at kz hb ⊢
  have HS16 := Lib.hid (And.intro (HS15.out.1.trans (hb.mono HS15.out.1.size)) (And.intro (RdT.below (keeps_of hb) _ _ HS15.out.2.1) (And.intro (HS15.out.2.2.1.below (keeps_of hb)) (And.intro (HS15.out.2.2.2.below (keeps_of hb)) (kz)))))
  clear HS15
  clear kz hb
  refine hK.out _ _ (keeps_of HS16.out.1) (fun hHeld => ?_)
  clear hK K
  refine norm_ (a' := ?_) ?_ ?_
  rotate_left
  · first
      | rfl
      | (simp only [Act.put, List.setIfInBounds_toArray, List.set_cons_zero, List.set_cons_succ]; rfl)
  refine one_ (i := 18) (N := some 32) #[true, true, true, true, true, true, true, true, true, true, true, true, true, true, true, true, true, true, true, false, false, false, false, false, false, false, false, false, false, false, false, false, false] rfl rfl (by kernel_rfl) (by decide) (fun K hK => ?_)
  go_simp
  refine (rows4_any [vT 2, vT 1] [vT 2, vT 1] _ _ x25 HS16.out.2.2.2.1 (rds_two (x := v5 2) (y := v5 1) HS16.out.2.2.2.2 (rd_v _ 2) (rd_v _ 1))).mono ?_
  rintro e x26 ⟨rfl, hb⟩
  rw [eqbL_refl]
  have HS17 := Lib.hid (And.intro (HS16.out.1.trans (hb.mono HS16.out.1.size)) (And.intro (RdT.below (keeps_of hb) _ _ HS16.out.2.1) (HS16.out.2.2.1.below (keeps_of hb))))
  clear HS16
  clear hb
  refine hK.out _ _ (keeps_of HS17.out.1) (fun hHeld => ?_)
  clear hK K
  refine norm_ (a' := ?_) ?_ ?_
  rotate_left
  · first
      | rfl
      | (simp only [Act.put, List.setIfInBounds_toArray, List.set_cons_zero, List.set_cons_succ]; rfl)
  refine pure_ (i := 19) (N := some 33) (v := ?_) (a' := ?_) #[true, true, true, true, true, true, true, true, true, true, true, true, true, true, true, true, true, true, true, true, false, false, false, false, false, false, false, false, false, false, false, false, false] rfl rfl (by kernel_rfl) (fun _ _ _ h => h) (Or.inl ⟨by rfl, ?_⟩) ?_ ?_
  rotate_left
  · rintro w'
    go_simp
    with_reducible rfl
  rotate_left
  · simp only [Act.put, List.setIfInBounds_toArray, List.set_cons_zero, List.set_cons_succ]
    rfl
  refine pure_ (i := 20) (N := some 34) (v := ?_) (a' := ?_) #[true, true, true, true, true, true, true, true, true, true, true, true, true, true, true, true, true, true, true, true, true, false, false, false, false, false, false, false, false, false, false, false, false] rfl rfl (by kernel_rfl) (fun _ _ _ h => h) (Or.inl ⟨by rfl, ?_⟩) ?_ ?_
  rotate_left
  · rintro w'
    go_simp
    with_reducible rfl
  rotate_left
  · simp only [Act.put, List.setIfInBounds_toArray, List.set_cons_zero, List.set_cons_succ]
    rfl
  refine take_ (i := 21) (N := some 35) (v := ?_) (a' := ?_) #[true, true, true, true, true, true, true, true, true, true, true, true, true, true, true, true, true, true, true, true, true, true, false, false, false, false, false, false, false, false, false, false, false] rfl rfl (by kernel_rfl) (fun _ _ _ h => h) (Or.inl ⟨by rfl, ?_⟩) hHeld ?_ ?_
  rotate_left
  · rintro w' hS'
    go_simp
    with_reducible rfl
  rotate_left
  · simp only [Act.put, List.setIfInBounds_toArray, List.set_cons_zero, List.set_cons_succ]
    rfl
  refine one_ (i := 22) (N := some 36) #[true, true, true, true, true, true, true, true, true, true, true, true, true, true, true, true, true, true, true, true, true, true, true, false, false, false, false, false, false, false, false, false, false] rfl rfl (by kernel_rfl) (by decide) (fun K hK => ?_)
  go_simp
  refine (v_any 9 _).mono ?_
  rintro e x27 ⟨rfl, hb⟩
  have HS18 := Lib.hid (And.intro (HS17.out.1.trans (hb.mono HS17.out.1.size)) (And.intro (RdT.below (keeps_of hb) _ _ HS17.out.2.1) (HS17.out.2.2.below (keeps_of hb))))
  clear HS17
  clear hb
  refine hK.out _ _ (keeps_of HS18.out.1) (fun hHeld => ?_)
  clear hK K
  refine norm_ (a' := ?_) ?_ ?_
  rotate_left
  · first
      | rfl
      | (simp only [Act.put, List.setIfInBounds_toArray, List.set_cons_zero, List.set_cons_succ]; rfl)
  refine one_ (i := 23) (N := some 37) #[true, true, true, true, true, true, true, true, true, true, true, true, true, true, true, true, true, true, true, true, true, true, true, true, false, false, false, false, false, false, false, false, false] rfl rfl (by kernel_rfl) (by decide) (fun K hK => ?_)
  go_simp
  refine (same4_any (vT 9) (vT 9) _ (v5 9).cells x27 HS18.out.2.1 (rd_v _ 9)).mono ?_
  rintro e x28 ⟨rfl, hb⟩
  rw [eqb_refl]
  have HS19 := Lib.hid (And.intro (HS18.out.1.trans (hb.mono HS18.out.1.size)) (HS18.out.2.2.below (keeps_of hb)))
  clear HS18
  clear hb
  refine hK.out _ _ (keeps_of HS19.out.1) (fun hHeld => ?_)
  clear hK K
  refine norm_ (a' := ?_) ?_ ?_
  rotate_left
  · first
      | rfl
      | (simp only [Act.put, List.setIfInBounds_toArray, List.set_cons_zero, List.set_cons_succ]; rfl)
  refine pure_ (i := 24) (N := some 38) (v := ?_) (a' := ?_) #[true, true, true, true, true, true, true, true, true, true, true, true, true, true, true, true, true, true, true, true, true, true, true, true, true, false, false, false, false, false, false, false, false] rfl rfl (by kernel_rfl) (fun _ _ _ h => h) (Or.inl ⟨by rfl, ?_⟩) ?_ ?_
  rotate_left
  · rintro w'
    go_simp
    with_reducible rfl
  rotate_left
  · simp only [Act.put, List.setIfInBounds_toArray, List.set_cons_zero, List.set_cons_succ]
    rfl
  refine pure_ (i := 25) (N := some 39) (v := ?_) (a' := ?_) #[true, true, true, true, true, true, true, true, true, true, true, true, true, true, true, true, true, true, true, true, true, true, true, true, true, true, false, false, false, false, false, false, false] rfl rfl (by kernel_rfl) (fun _ _ _ h => h) (Or.inl ⟨by rfl, ?_⟩) ?_ ?_
  rotate_left
  · rintro w'
    go_simp
    with_reducible rfl
  rotate_left
  · simp only [Act.put, List.setIfInBounds_toArray, List.set_cons_zero, List.set_cons_succ]
    rfl
  refine pure_ (i := 26) (N := some 40) (v := ?_) (a' := ?_) #[true, true, true, true, true, true, true, true, true, true, true, true, true, true, true, true, true, true, true, true, true, true, true, true, true, true, true, false, false, false, false, false, false] rfl rfl (by kernel_rfl) (fun _ _ _ h => h) (Or.inl ⟨by rfl, ?_⟩) ?_ ?_
  rotate_left
  · rintro w'
    go_simp
    with_reducible rfl
  rotate_left
  · simp only [Act.put, List.setIfInBounds_toArray, List.set_cons_zero, List.set_cons_succ]
    rfl
  refine one_ (i := 27) (N := some 41) #[true, true, true, true, true, true, true, true, true, true, true, true, true, true, true, true, true, true, true, true, true, true, true, true, true, true, true, true, false, false, false, false, false] rfl rfl (by kernel_rfl) (by decide) (fun K hK => ?_)
  go_simp
  refine (v_any 1 _).mono ?_
  rintro e x29 ⟨rfl, hb⟩
  have HS20 := Lib.hid (And.intro (HS19.out.1.trans (hb.mono HS19.out.1.size)) (HS19.out.2.below (keeps_of hb)))
  clear HS19
  clear hb
  refine hK.out _ _ (keeps_of HS20.out.1) (fun hHeld => ?_)
  clear hK K
  refine norm_ (a' := ?_) ?_ ?_
  rotate_left
  · first
      | rfl
      | (simp only [Act.put, List.setIfInBounds_toArray, List.set_cons_zero, List.set_cons_succ]; rfl)
  refine one_ (i := 28) (N := some 42) #[true, true, true, true, true, true, true, true, true, true, true, true, true, true, true, true, true, true, true, true, true, true, true, true, true, true, true, true, true, false, false, false, false] rfl rfl (by kernel_rfl) (by decide) (fun K hK => ?_)
  go_simp
  refine (v_any 2 _).mono ?_
  rintro e x30 ⟨rfl, hb⟩
  have HS21 := Lib.hid (And.intro (HS20.out.1.trans (hb.mono HS20.out.1.size)) (HS20.out.2.below (keeps_of hb)))
  clear HS20
  clear hb
  refine hK.out _ _ (keeps_of HS21.out.1) (fun hHeld => ?_)
  clear hK K
  refine norm_ (a' := ?_) ?_ ?_
  rotate_left
  · first
      | rfl
      | (simp only [Act.put, List.setIfInBounds_toArray, List.set_cons_zero, List.set_cons_succ]; rfl)
  refine one_ (i := 29) (N := some 43) #[true, true, true, true, true, true, true, true, true, true, true, true, true, true, true, true, true, true, true, true, true, true, true, true, true, true, true, true, true, true, false, false, false] rfl rfl (by kernel_rfl) (by decide) (fun K hK => ?_)
  go_simp
  have kz := Blk.new x30 ((v5 1).cells ++ (v5 2).cells).toArray 30
  have hb : Below x30.heap.size x30 (x30.alloc (.cells ((v5 1).cells ++ (v5 2).cells).toArray 30)) := (Below.refl _ _).alloc (Nat.le_refl _) _
  dsimp only [v5, o5, E5.cells, List.cons_append, List.nil_append] at kz hb
  generalize x30.alloc _ = x31 at kz hb ⊢
  have HS22 := Lib.hid (And.intro (HS21.out.1.trans (hb.mono HS21.out.1.size)) (And.intro (HS21.out.2.below (keeps_of hb)) (kz)))
  clear HS21
  clear kz hb
  refine hK.out _ _ (keeps_of HS22.out.1) (fun hHeld => ?_)
  clear hK K
  refine norm_ (a' := ?_) ?_ ?_
  rotate_left
  · first
      | rfl
      | (simp only [Act.put, List.setIfInBounds_toArray, List.set_cons_zero, List.set_cons_succ]; rfl)
  refine one_ (i := 30) (N := some 44) #[true, true, true, true, true, true, true, true, true, true, true, true, true, true, true, true, true, true, true, true, true, true, true, true, true, true, true, true, true, true, true, false, false] rfl rfl (by kernel_rfl) (by decide) (fun K hK => ?_)
  go_simp
  refine (rows4_any [vT 1, vT 2] [vT 1, vT 2] _ _ x31 HS22.out.2.1 (rds_two (x := v5 1) (y := v5 2) HS22.out.2.2 (rd_v _ 1) (rd_v _ 2))).mono ?_
  rintro e x32 ⟨rfl, hb⟩
  rw [eqbL_refl]
  have HS23 := Lib.hid (HS22.out.1.trans (hb.mono HS22.out.1.size))
  clear HS22
  clear hb
  refine hK.out _ _ (keeps_of HS23.out) (fun hHeld => ?_)
  clear hK K
  refine norm_ (a' := ?_) ?_ ?_
  rotate_left
  · first
      | rfl
      | (simp only [Act.put, List.setIfInBounds_toArray, List.set_cons_zero, List.set_cons_succ]; rfl)
  refine pure_ (i := 31) (N := some 45) (v := ?_) (a' := ?_) #[true, true, true, true, true, true, true, true, true, true, true, true, true, true, true, true, true, true, true, true, true, true, true, true, true, true, true, true, true, true, true, true, false] rfl rfl (by kernel_rfl) (fun _ _ _ h => h) (Or.inl ⟨by rfl, ?_⟩) ?_ ?_
  rotate_left
  · rintro w'
    go_simp
    with_reducible rfl
  rotate_left
  · simp only [Act.put, List.setIfInBounds_toArray, List.set_cons_zero, List.set_cons_succ]
    rfl
  refine pure_ (i := 32) (N := some 0) (v := ?_) (a' := ?_) #[true, true, true, true, true, true, true, true, true, true, true, true, true, true, true, true, true, true, true, true, true, true, true, true, true, true, true, true, true, true, true, true, true] rfl rfl (by kernel_rfl) (fun _ _ _ h => h) (Or.inl ⟨by rfl, ?_⟩) ?_ ?_
  rotate_left
  · rintro w'
    go_simp
    with_reducible rfl
  rotate_left
  · simp only [Act.put, List.setIfInBounds_toArray, List.set_cons_zero, List.set_cons_succ]
    rfl
  refine done_ (by kernel_rfl) ?_
  clear g1 n1
  go_wp2
  go_ret
  exact ⟨rfl, HW.out.trans (HS23.out.mono HW.out.size)⟩
end Go.Proofs.YtebgldnlkkhejaaDoor.PCarryNames
