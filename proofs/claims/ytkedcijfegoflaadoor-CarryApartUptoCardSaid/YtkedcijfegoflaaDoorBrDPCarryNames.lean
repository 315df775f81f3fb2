/- Between the print's declarations and ours; the law's 'some', the reference's Count and At. -/
import Derived.Test.YtkedcijfegoflaaDoorCount
import Derived.Test.YtkedcijfegoflaaDoorRefLPCarryNames
import Derived.Test.YtkedcijfegoflaaDoorPCarryNamesx3
import Derived.Test.YtkedcijfegoflaaDoorPCarryNamesx2
namespace Go.Proofs.YtkedcijfegoflaaDoor.PCarryNames
set_option linter.unusedSimpArgs false
set_option linter.unusedVariables false
open Go Go.RowKit Go.Proofs.YtkedcijfegoflaaDoor Go.Proofs.YtkedcijfegoflaaDoorW.PrintWords Go.Proofs.YtkedcijfegoflaaDoorW.PrintLast Go.Proofs.YtkedcijfegoflaaDoorW.PrintMore

def sM (m : List Tm) : S145 := ⟨sTl m⟩
def sC (c : Int × Tm) : S147 := ⟨c.1, sT c.2⟩
def sD (d : Dc) : S42 := ⟨d.kind, d.levels, sT d.type, sT d.body, sTl d.params, sLv d.sort, d.members.map sM, d.ctors.map sC⟩
theorem m_of_k {w : World} {m : List Tm} {cs : List Value} (h : k145.K w (sM m) cs) : ∃ u, cs = [u] ∧ RdTs w u m := by
  obtain ⟨A, c, rfl, hc, hr⟩ := k145_open h
  exact ⟨_, rfl, ts_of_k hr hc⟩
theorem k_of_m {w : World} {m : List Tm} {cs : List Value} (h : ∃ u, cs = [u] ∧ RdTs w u m) : k145.K w (sM m) cs := by
  obtain ⟨u, rfl, h⟩ := h
  obtain ⟨A, c, rfl, hc, hr⟩ := k_of_ts h
  have e : (sTl m).length = m.length := by rw [sTl_eq, List.length_map]
  have := k145_mk w (sM m) (A0 := A) (c0 := c) (by simp only [sM, e]; exact hc) (by simp only [sM, e]; exact hr)
  simpa only [sM, e] using this
theorem c_of_k {w : World} {x : Int × Tm} {cs : List Value} (h : k147.K w (sC x) cs) : ∃ ct, cs = .int .i64 x.1 :: ct ∧ RdT w x.2 ct := by
  obtain ⟨_, ct, rfl, rfl, h2⟩ := h
  exact ⟨ct, rfl, t_of_k _ _ h2⟩
theorem k_of_c {w : World} {x : Int × Tm} {cs : List Value} (h : ∃ ct, cs = .int .i64 x.1 :: ct ∧ RdT w x.2 ct) : k147.K w (sC x) cs := by
  obtain ⟨ct, rfl, h⟩ := h
  exact ⟨[.int .i64 x.1], ct, rfl, rfl, k_of_t _ _ h⟩
theorem d_of_k {w : World} {d : Dc} {cs : List Value} (h : k42.K w (sD d) cs) : RdD w d cs := by
  obtain ⟨_, _, rfl, rfl, ⟨_, _, rfl, rfl, ⟨t, _, rfl, s2, ⟨b, _, rfl, s7, ⟨_, _, rfl, ⟨A12, c12, rfl, l12, g12⟩, ⟨_, _, rfl, s13, ⟨_, _, rfl, ⟨A14, c14, rfl, l14, g14⟩, ⟨A15, c15, rfl, l15, g15⟩⟩⟩⟩⟩⟩⟩⟩ := h
  obtain ⟨u, rfl, hs⟩ := lv_of_k s13
  refine ⟨t, b, _, _, _, _, ?_, t_of_k _ _ s2, t_of_k _ _ s7, ts_of_k g12 l12, hs, RdS_of_reads sM (by decide) g14 l14 (fun x _ cs h => m_of_k h), RdS_of_reads sC (by decide) g15 l15 (fun x _ cs h => c_of_k h)⟩
  simp [sD]
theorem k_of_d {w : World} {d : Dc} {cs : List Value} (h : RdD w d cs) : k42.K w (sD d) cs := by
  obtain ⟨t, b, p, s, m, c, rfl, h1, h2, h3, h4, h5, h6⟩ := h
  obtain ⟨A12, c12, rfl, l12, g12⟩ := k_of_ts h3
  obtain ⟨A14, c14, rfl, l14, g14⟩ := reads_of_RdS (R := k145.K w) sM h5 (fun x _ cs h => k_of_m h)
  obtain ⟨A15, c15, rfl, l15, g15⟩ := reads_of_RdS (R := k147.K w) sC h6 (fun x _ cs h => k_of_c h)
  have e12 : (sTl d.params).length = d.params.length := by rw [sTl_eq, List.length_map]
  refine ⟨[.int .i64 d.kind], _, rfl, rfl, ⟨[.int .i64 d.levels], _, rfl, rfl, ⟨t, _, ?_, k_of_t _ _ h1, ⟨b, _, rfl, k_of_t _ _ h2, ⟨_, _, rfl, ⟨A12, c12, rfl, ?_, ?_⟩, ⟨[s], _, rfl, k_of_lv ⟨s, rfl, h4⟩, ⟨_, _, rfl, ⟨A14, c14, rfl, ?_, ?_⟩, ⟨A15, c15, rfl, ?_, ?_⟩⟩⟩⟩⟩⟩⟩⟩
  · simp only [sD, e12, List.length_map, List.append_assoc, List.cons_append, List.nil_append]
    exact List.append_assoc t b _
  · simp only [sD, e12]; exact l12
  · simp only [sD, e12]; exact g12
  · simp only [sD, List.length_map]; exact l14
  · simp only [sD, List.length_map]; exact g14
  · simp only [sD, List.length_map]; exact l15
  · simp only [sD, List.length_map]; exact g15
theorem ds_of_k {w : World} {A : Option Addr} {n c : Nat} {ds : List Dc} (h : k42.C w A n (ds.map sD)) (hc : n ≤ c) : RdDs w (.slice A n c) ds := RdS_of_reads sD (by decide) h hc (fun x _ cs h => d_of_k h)
theorem k_of_ds {w : World} {v : Value} {ds : List Dc} (h : RdDs w v ds) : ∃ A c, v = .slice A ds.length c ∧ ds.length ≤ c ∧ k42.C w A ds.length (ds.map sD) :=
  reads_of_RdS (R := k42.K w) sD h (fun x _ cs h => k_of_d h)

/-! ### The reference's Count and At -/
theorem refCount_ev (d : Dc) : Ev (fun n => spandrelref21_Count.f n (sD d).f0 (sD d).f1 (sD d).f2.f0 (sD d).f2.f1 (sD d).f2.f2 (sD d).f2.f3 (sD d).f2.f4 (sD d).f3.f0 (sD d).f3.f1 (sD d).f3.f2 (sD d).f3.f3 (sD d).f3.f4 (sD d).f4 (sD d).f5.f0 (sD d).f6 (sD d).f7) (countI d) := by
  unfold spandrelref21_Count.f
  have e0 : (sD d).f0 = d.kind := rfl
  have e6 : (sD d).f6.length = d.members.length := by simp [sD]
  have e7 : (sD d).f7.length = d.ctors.length := by simp [sD]
  simp only [e0]
  by_cases h1 : d.kind = 1
  · have hc : countI d = 1 := by unfold countI; rw [if_pos (.inl h1)]
    rw [hc]
    refine Ev.pos h1 (Ev.round ?_)
    simp only [spandrelref21_Count.j0]
    exact Ev.pos (by simp [h1]) (Ev.now _)
  · refine Ev.neg h1 (Ev.round ?_)
    simp only [spandrelref21_Count.j0, e6, e7]
    by_cases h2 : d.kind = 2
    · have hc : countI d = 1 := by unfold countI; rw [if_pos (.inr h2)]
      rw [hc]
      exact Ev.pos (by simp [h2]) (Ev.now _)
    · refine Ev.neg (by simp [h2]) ?_
      by_cases h3 : d.kind = 3
      · have hc : countI d = wrap64 (wrap64 (6 + wrap64 (2 * d.members.length)) + wrap64 (2 * d.ctors.length)) := by unfold countI; rw [if_neg (by omega), if_pos h3]
        rw [hc]
        exact Ev.pos h3 (Ev.now _)
      · have hc : countI d = 0 := by unfold countI; rw [if_neg (by omega), if_neg h3]
        rw [hc]
        exact Ev.neg h3 (Ev.now _)
theorem rd_d (ds : List Dc) (i : Nat) (h : i < ds.length) : rd_T42 (ds.map sD) (i : Int) = sD ds[i] := by
  simp [rd_T42, List.getD_eq_getElem?_getD, h]
theorem refAt_ev (ds : List Dc) (hl : ds.length ≤ 1099511627776) : Ev (fun n => spandrelref21_At.f n (ds.map sD)) (atI ds) := by
  have key : ∀ (m j : Nat), ds.length - j = m → j ≤ ds.length → Ev (fun n => spandrelref21_At.l0 n (ds.map sD) (atFrom 0 (ds.take j)) (sumFrom 0 (ds.take j)) (j : Int)) (atI ds) := by
    intro m
    induction m with
    | zero =>
      intro j hm hj
      refine Ev.round ?_
      simp only [spandrelref21_At.l0, List.length_map]
      refine Ev.neg (by omega) ?_
      rw [List.take_of_length_le (by omega)]
      exact Ev.now _
    | succ m ih =>
      intro j hm hj
      refine Ev.round ?_
      simp only [spandrelref21_At.l0, List.length_map, rd_d ds j (by omega)]
      refine Ev.pos (by omega) ?_
      refine Ev.pos (by rw [atFrom_length, List.length_take]; omega) ?_
      refine Ev.pos (by omega) ?_
      refine Ev.bind (refCount_ev ds[j]) ?_
      rw [wrap_id (x := (j : Int) + 1) (by omega) (by omega)]
      have := ih (j + 1) (by omega) (by omega)
      rw [atFrom_snoc ds 0 j (by omega), sumFrom_snoc ds 0 j (by omega)] at this
      exact this
  exact key ds.length 0 (by omega) (by omega)
theorem refAt_any (ds : List Dc) (v : Value) (w : World) (h : RdDs w v ds) (hl : ds.length ≤ 1099511627776) :
    Calls Tryd.prog 9 #[v] w fun e w' => ∃ A c, e = .returned (.slice A (atI ds).length c) ∧ RdIs w' (.slice A (atI ds).length c) (atI ds) ∧ Below w.heap.size w w' := by
  obtain ⟨n, hn⟩ := (refAt_ev ds hl).rounds
  obtain ⟨A, c, rfl, hl', hr⟩ := k_of_ds h
  have e3 : (ds.map sD).length = ds.length := List.length_map ..
  have hc := spandrelref21_At.calls n A c (ds.map sD) _ w (by rw [e3]; exact hr) (by rw [e3]; exact hl') hn
  rw [e3] at hc
  refine hc.mono ?_
  rintro e w' ⟨v0, rfl, hR, hb⟩
  obtain ⟨A', c', rfl, l, g⟩ := Kd.R_reads hR
  exact ⟨A', c', rfl, RdS_of_reads id (by decide) (by rw [List.map_id]; exact g) l (fun x _ cs h => h), hb⟩

/-! ### The law's declarations -/
def z : Tm := .mk 0 0 0 [] []
def someDs : List Dc := [⟨3, 0, z, z, [], [], [[]], [(0, z), (0, z)]⟩, ⟨2, 0, z, z, [], [], [], []⟩, ⟨3, 0, z, z, [], [], [[], []], [(0, z)]⟩, ⟨1, 0, z, z, [], [], [], []⟩, ⟨0, 0, z, z, [], [], [], []⟩]
theorem some_f : spandrellaw21_some.f = some (someDs.map sD) := by
  unfold spandrellaw21_some.f
  rw [if_pos (by decide), if_pos (by decide), if_pos (by decide), if_pos (by decide)]
  rfl
theorem some_any (w : World) :
    Calls Tryd.prog 8 #[] w fun e w' => ∃ A c, e = .returned (.slice A 5 c) ∧ RdDs w' (.slice A 5 c) someDs ∧ Below w.heap.size w w' := by
  have hc := spandrellaw21_some.calls _ w some_f
  refine hc.mono ?_
  rintro e w' ⟨v0, rfl, hN, hb⟩
  obtain ⟨A', c', rfl, l, g⟩ := Kd.N_reads hN
  exact ⟨A', c', rfl, ds_of_k g l, hb⟩
end Go.Proofs.YtkedcijfegoflaaDoor.PCarryNames
