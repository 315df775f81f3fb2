/- The reference's levels, Binds and below (spandrelref02), over the print. -/
import Derived.Test.YtkedcijfegoflaaDoorLift
import Derived.Test.YtkedcijfegoflaaDoorBrPCarryNames
import Derived.Test.YtkedcijfegoflaaDoorPCarryNamesx4
namespace Go.Proofs.YtkedcijfegoflaaDoor.PCarryNames
set_option linter.unusedSimpArgs false
set_option linter.unusedVariables false
open Go Go.RowKit Go.Proofs.YtkedcijfegoflaaDoor Go.Proofs.YtkedcijfegoflaaDoorW.PrintWords Go.Proofs.YtkedcijfegoflaaDoorW.PrintLast Go.Proofs.YtkedcijfegoflaaDoorW.PrintMore

theorem Ev.pos {α : Type} {c : Prop} [Decidable c] {f g : Nat → Option α} {r : α} (hc : c) (h : Ev f r) : Ev (fun n => if c then f n else g n) r := Ev.congr (fun _ => if_pos hc) h
theorem Ev.neg {α : Type} {c : Prop} [Decidable c] {f g : Nat → Option α} {r : α} (hc : ¬ c) (h : Ev g r) : Ev (fun n => if c then f n else g n) r := Ev.congr (fun _ => if_neg hc) h
theorem Ev.bind_some {α β : Type} {a : α} {f : Nat → α → Option β} {r : β} (h : Ev (fun n => f n a) r) : Ev (fun n => (some a).bind (f n)) r := h
theorem Ev.eq {α : Type} {g : Nat → Option α} {r r' : α} (h : Ev g r) (e : r = r') : Ev g r' := e ▸ h
/-- One round: g at k + 1 is what its text says. -/
theorem Ev.round {α : Type} {g : Nat → Option α} {r : α} (h : Ev (fun k => g (k + 1)) r) : Ev g r := Ev.step (fun _ => rfl) h
theorem wrap_id {x : Int} (h0 : 0 ≤ x) (h1 : x ≤ 9223372036854775807) : wrap64 x = x := by unfold wrap64; omega

theorem Binds_ev (k kid : Int) : Ev (fun n => spandrelref02_Binds.f n k kid) (bindsB k kid) := by
  refine ⟨1, fun n hn => ?_⟩
  obtain ⟨m, rfl⟩ : ∃ m, n = m + 1 := ⟨n - 1, by omega⟩
  unfold spandrelref02_Binds.f bindsB boundOf
  simp only [spandrelref02_Binds.j0]
  by_cases h4 : k = 4
  · subst h4; simp; rw [Bool.eq_iff_iff]; simp; omega
  by_cases h5 : k = 5
  · subst h5; simp; rw [Bool.eq_iff_iff]; simp; omega
  by_cases h12 : k = 12
  · subst h12; simp; rw [Bool.eq_iff_iff]; simp; omega
  by_cases h16 : k = 16
  · subst h16; simp; rw [Bool.eq_iff_iff]; simp; omega
  by_cases h18 : k = 18
  · subst h18; simp; rw [Bool.eq_iff_iff]; simp; omega
  by_cases h7 : k = 7
  · subst h7; simp; rw [Bool.eq_iff_iff]; simp; omega
  simp [h4, h5, h12, h16, h18, h7]; omega
theorem below_ev (k n0 a : Int) (l3 : List S38) (l4 : List S30) (kid d : Int) (hd : 0 ≤ d) (hd' : d ≤ 4611686018427387904) : Ev (fun n => spandrelref02_below.f n k n0 a l3 l4 kid d) (deeper k kid d) := by
  unfold spandrelref02_below.f
  refine Ev.bind (Binds_ev k kid) ?_
  unfold deeper
  cases h : bindsB k kid
  · exact Ev.neg (by simp) (Ev.now _)
  · refine Ev.pos rfl ?_
    rw [wrap_id (by omega) (by omega)]
    exact Ev.now _
theorem rd_lv (lv : List Lv) (i : Nat) (h : i < lv.length) : rd_T38 (lv.map sLv) (i : Int) = sLv lv[i] := by
  simp [rd_T38, List.getD_eq_getElem?_getD, h]
theorem levels_ev (lv : List Lv) (hok : Okl lv) : Ev (fun n => spandrelref02_levels.f n (lv.map sLv)) (lv.map sLv) := by
  have key : ∀ (m j : Nat), lv.length - j = m → j ≤ lv.length → Ev (fun n => spandrelref02_levels.l0 n (lv.map sLv) ((lv.take j).map sLv) (j : Int)) (lv.map sLv) := by
    intro m
    induction m with
    | zero =>
      intro j hm hj
      refine Ev.round ?_
      simp only [spandrelref02_levels.l0, List.length_map]
      refine Ev.neg (by omega) ?_
      rw [List.take_of_length_le (by omega)]
      exact Ev.now _
    | succ m ih =>
      intro j hm hj
      have hl := hok.1
      have hl2 := hok.2 lv[j] (List.getElem_mem (by omega))
      refine Ev.round ?_
      simp only [spandrelref02_levels.l0, List.length_map, rd_lv lv j (by omega)]
      refine Ev.pos (by omega) ?_
      refine Ev.bind_some ?_
      refine Ev.pos (by omega) ?_
      refine Ev.pos (by simp [sLv]; omega) ?_
      refine Ev.pos (by simp; omega) ?_
      rw [wrap_id (by omega) (by omega)]
      have := ih (j + 1) (by omega) (by omega)
      rw [List.take_succ_eq_append_getElem (by omega), List.map_append] at this
      exact this
  exact key lv.length 0 (by omega) (by omega)

/-! ### A row of levels that the print tells, as one of ours -/
theorem inner_pa {w : World} {base : Nat} {ok : Nat → Prop} : ∀ {l : Lv} {inner : List Value}, Reps (k121.M w base ok) 2 (l.map sPa) inner → OwL (OwPa w) 2 inner l []
  | [], inner, h => by
    have := h.1
    simp at this
    exact ⟨this, rfl⟩
  | p :: l, inner, h => by
    have hl := h.1
    simp only [List.map_cons, List.length_cons, List.length_map] at hl
    have h0 := h.2 0 (sPa p) (by simp)
    rw [Nat.zero_mul, List.drop_zero] at h0
    have ht : Reps (k121.M w base ok) 2 (l.map sPa) (inner.drop 2) := by
      refine ⟨by rw [List.length_drop, hl, List.length_map]; omega, fun j q hq => ?_⟩
      have := h.2 (j + 1) q (by simpa using hq)
      rwa [List.drop_drop, show 2 + j * 2 = (j + 1) * 2 by omega]
    exact ⟨inner.take 2, inner.drop 2, [], [], by simp, by rw [List.length_take]; omega, ⟨k121_openM h0, rfl⟩, inner_pa ht, rfl⟩
theorem lv_of_M {w : World} {base : Nat} {ok : Nat → Prop} {l : Lv} {cs : List Value} (h : k38.M w base ok (sLv l) cs) : ∃ v, cs = [v] ∧ OwLv w v l v.ownBlock.toList ∧ ∀ k, v.ownBlock = some k → ok k ∧ base ≤ k ∧ k < w.heap.size := by
  obtain ⟨v, rfl, h0, inner, ho, hr⟩ := k38_openM h
  simp only [sLv, List.length_map] at ho
  exact ⟨v, rfl, OwS.of_row (own_weaken ho (Nat.zero_le _)) (inner_pa hr), fun k hk => ⟨h0 k hk, ho.lt k hk⟩⟩
theorem inner_lv {w : World} {base : Nat} {ok : Nat → Prop} {f : Nat → Nat} : ∀ {lv : List Lv} {inner : List Value} {i : Nat}, Reps ((Kd.tag f k38).M w base ok) 1 ((lv.map sLv).zipIdx i) inner →
    ∃ F, OwL (OwLv1 w) 1 inner lv F ∧ F.Nodup ∧ ∀ k ∈ F, ok k ∧ base ≤ k ∧ k < w.heap.size ∧ i ≤ f k
  | [], inner, i, h => by
    have := h.1
    simp at this
    exact ⟨[], ⟨this, rfl⟩, by simp, by simp⟩
  | l :: lv, inner, i, h => by
    have hl := h.1
    simp only [List.map_cons, List.zipIdx_cons, List.length_cons, List.length_zipIdx, List.length_map] at hl
    have h0 := h.2 0 (sLv l, i) (by simp)
    rw [Nat.zero_mul, List.drop_zero] at h0
    have ht : Reps ((Kd.tag f k38).M w base ok) 1 ((lv.map sLv).zipIdx (i + 1)) (inner.drop 1) := by
      refine ⟨by rw [List.length_drop, hl, List.length_zipIdx, List.length_map]; omega, fun j q hq => ?_⟩
      have := h.2 (j + 1) q (by simpa using hq)
      rwa [List.drop_drop, show 1 + j * 1 = (j + 1) * 1 by omega]
    obtain ⟨v, hv, hO, hk⟩ := lv_of_M h0
    obtain ⟨F, g1, g2, g3⟩ := inner_lv ht
    refine ⟨v.ownBlock.toList ++ F, ⟨inner.take 1, inner.drop 1, _, F, (List.take_append_drop 1 inner).symm, by rw [List.length_take]; omega, ⟨v, hv, hO⟩, g1, rfl⟩, List.nodup_append.2 ⟨by cases v.ownBlock <;> simp, g2, fun a ha b hb e => ?_⟩, fun k hkm => ?_⟩
    · have := (hk a (by simpa using ha)).1.2
      have := (g3 b hb).2.2.2
      subst e
      omega
    · rcases List.mem_append.1 hkm with hkm | hkm
      · obtain ⟨⟨h1, h2⟩, h3, h4⟩ := hk k (by simpa using hkm)
        exact ⟨h1, h3, h4, by omega⟩
      · obtain ⟨h1, h2, h3, h4⟩ := g3 k hkm
        exact ⟨h1, h2, h3, by omega⟩
theorem lvs_of_S {w : World} {base : Nat} {ok : Nat → Prop} {v : Value} {lv : List Lv} (h : Kd.S k38 38 w base ok v (lv.map sLv)) : ∃ A c F, v = .slice A lv.length c ∧ OwLvs w v lv F ∧ Fr base w F := by
  obtain ⟨f, h0, inner, ho, hr⟩ := h
  rw [List.length_zipIdx, List.length_map] at ho
  obtain ⟨F, g1, g2, g3⟩ := inner_lv hr
  obtain ⟨A, c, hv⟩ := own_slice ho
  refine ⟨A, c, v.ownBlock.toList ++ F, hv, ⟨inner, F, own_weaken ho (Nat.zero_le _), g1, rfl⟩, List.nodup_append.2 ⟨by cases v.ownBlock <;> simp, g2, fun a ha b hb e => ?_⟩, fun k hk => ?_⟩
  · subst e
    have hv' : v.ownBlock = some a := by simpa using ha
    exact (g3 a hb).1.2 hv'.symm
  · rcases List.mem_append.1 hk with hk | hk
    · exact ho.lt k (by simpa using hk)
    · exact ⟨(g3 k hk).2.1, (g3 k hk).2.2.1⟩
theorem refLevels_any (lv : List Lv) (v : Value) (w : World) (h : RdLvs w v lv) (hok : Okl lv) :
    Calls Tryd.prog 122 #[v] w fun e w' => ∃ A c F, e = .returned (.slice A lv.length c) ∧ OwLvs w' (.slice A lv.length c) lv F ∧ Fr w.heap.size w' F ∧ Below w.heap.size w w' := by
  obtain ⟨n, hn⟩ := (levels_ev lv hok).rounds
  obtain ⟨A, c, rfl, hl, hr⟩ := k_of_lvs h
  have e3 : (lv.map sLv).length = lv.length := List.length_map ..
  have hc := spandrelref02_levels.calls n A c (lv.map sLv) _ w (by rw [e3]; exact hr) (by rw [e3]; exact hl) hn
  rw [e3] at hc
  refine hc.mono ?_
  rintro e w' ⟨v0, rfl, hS, hb⟩
  obtain ⟨A', c', F, rfl, hO, hF⟩ := lvs_of_S hS
  exact ⟨A', c', F, rfl, hO, hF, hb⟩
theorem refBelow_any (t : Tm) (cs : List Value) (kid d : Int) (w : World) (h : RdT w t cs) (hd : 0 ≤ d) (hd' : d ≤ 4611686018427387904) :
    Calls Tryd.prog 111 #[.agg cs.toArray, .int .i64 kid, .int .i64 d] w fun e w' => e = .returned (.int .i64 (deeper t.kind kid d)) ∧ Below w.heap.size w w' := by
  obtain ⟨k, n0, a, lv, kids⟩ := t
  obtain ⟨vl, vk, rfl, h1, h2⟩ := (RdT_mk ..).1 h
  obtain ⟨A3, c3, rfl, l3, g3⟩ := k_of_lvs h1
  obtain ⟨A4, c4, rfl, l4, g4⟩ := k_of_ts h2
  obtain ⟨n, hn⟩ := (below_ev k n0 a (lv.map sLv) (sTl kids) kid d hd hd').rounds
  have e3 : (lv.map sLv).length = lv.length := List.length_map ..
  have e4 : (sTl kids).length = kids.length := by rw [sTl_eq, List.length_map]
  have hc := spandrelref02_below.calls n k n0 a A3 c3 (lv.map sLv) A4 c4 (sTl kids) kid d _ w (by rw [e3]; exact g3) (by rw [e3]; exact l3) (by rw [e4]; exact g4) (by rw [e4]; exact l4) hn
  rw [e3, e4] at hc
  exact hc
end Go.Proofs.YtkedcijfegoflaaDoor.PCarryNames
