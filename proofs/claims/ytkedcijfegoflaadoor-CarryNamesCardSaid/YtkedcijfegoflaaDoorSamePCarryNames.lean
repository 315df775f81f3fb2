/- Are two terms the same: the kit's SameLevels (over the print), SameTerm, SameTerms. -/
import Derived.Test.YtkedcijfegoflaaDoorLift
import Derived.Test.YtkedcijfegoflaaDoorBrPCarryNames
import Derived.Test.YtkedcijfegoflaaDoorRefLPCarryNames
namespace Go.Proofs.YtkedcijfegoflaaDoor.PCarryNames
set_option linter.unusedSimpArgs false
set_option linter.unusedVariables false
open Go Go.RowKit Go.Proofs.YtkedcijfegoflaaDoor Go.Proofs.YtkedcijfegoflaaDoorW.PrintWords Go.Proofs.YtkedcijfegoflaaDoorW.PrintLast Go.Proofs.YtkedcijfegoflaaDoorW.PrintMore

theorem rd_pa (l : Lv) (i : Nat) (h : i < l.length) : rd_T121 (l.map sPa) (i : Int) = sPa l[i] := by
  simp [rd_T121, List.getD_eq_getElem?_getD, h]
theorem beq_cons' {α : Type} [BEq α] (a b : α) (l l' : List α) : (a :: l == b :: l') = ((a == b) && (l == l')) := rfl
theorem ne_of_len {α : Type} [BEq α] [LawfulBEq α] {l l' : List α} (h : l.length ≠ l'.length) : (l == l') = false := beq_eq_false_iff_ne.2 (fun e => h (by rw [e]))
theorem parts_ev (l l' : Lv) (hl : l.length ≤ 9223372036854775807) : Ev (fun n => spandrelkit_SameParts.f n (l.map sPa) (l'.map sPa)) (l == l') := by
  unfold spandrelkit_SameParts.f
  simp only [List.length_map]
  by_cases he : l.length = l'.length
  · refine Ev.pos (by omega) ?_
    have key : ∀ (m j : Nat), l.length - j = m → j ≤ l.length → Ev (fun n => spandrelkit_SameParts.l0 n (l.map sPa) (l'.map sPa) (j : Int)) (l.drop j == l'.drop j) := by
      intro m
      induction m with
      | zero =>
        intro j hm hj
        refine Ev.round ?_
        simp only [spandrelkit_SameParts.l0, List.length_map]
        refine Ev.neg (by omega) ?_
        rw [List.drop_of_length_le (by omega), List.drop_of_length_le (by omega)]
        exact Ev.now _
      | succ m ih =>
        intro j hm hj
        refine Ev.round ?_
        simp only [spandrelkit_SameParts.l0, List.length_map, rd_pa l j (by omega), rd_pa l' j (by omega)]
        refine Ev.pos (by omega) ?_
        refine Ev.pos (by omega) ?_
        refine Ev.pos (by omega) ?_
        have h1 : l.drop j = l[j] :: l.drop (j + 1) := List.drop_eq_getElem_cons (by omega)
        have h2 : l'.drop j = l'[j] :: l'.drop (j + 1) := List.drop_eq_getElem_cons (by omega)
        by_cases hp : l[j] = l'[j]
        · refine Ev.neg (by simp [sPa, hp]) ?_
          rw [wrap_id (by omega) (by omega), h1, h2, hp]
          refine Ev.eq (ih (j + 1) (by omega) (by omega)) ?_
          rw [beq_cons', beq_self_eq_true, Bool.true_and]
        · refine Ev.pos (by
            have : ¬ (l[j].1 = l'[j].1 ∧ l[j].2 = l'[j].2) := fun h => hp (Prod.ext h.1 h.2)
            simp [sPa]; omega) ?_
          refine Ev.eq (Ev.now false) ?_
          have : (l[j] == l'[j]) = false := beq_eq_false_iff_ne.2 hp
          rw [h1, h2, beq_cons', this, Bool.false_and]
    exact Ev.eq (key l.length 0 (by omega) (by omega)) (by simp)
  · refine Ev.neg (by omega) (Ev.eq (Ev.now false) (ne_of_len he).symm)
theorem sameLevels_ev (lv lv' : List Lv) (hl : lv.length ≤ 9223372036854775807) (hl2 : ∀ l ∈ lv, l.length ≤ 9223372036854775807) : Ev (fun n => spandrelkit_SameLevels.f n (lv.map sLv) (lv'.map sLv)) (lv == lv') := by
  unfold spandrelkit_SameLevels.f
  simp only [List.length_map]
  by_cases he : lv.length = lv'.length
  · refine Ev.pos (by omega) ?_
    have key : ∀ (m j : Nat), lv.length - j = m → j ≤ lv.length → Ev (fun n => spandrelkit_SameLevels.l0 n (lv.map sLv) (lv'.map sLv) (j : Int)) (lv.drop j == lv'.drop j) := by
      intro m
      induction m with
      | zero =>
        intro j hm hj
        refine Ev.round ?_
        simp only [spandrelkit_SameLevels.l0, List.length_map]
        refine Ev.neg (by omega) ?_
        rw [List.drop_of_length_le (by omega), List.drop_of_length_le (by omega)]
        exact Ev.now _
      | succ m ih =>
        intro j hm hj
        refine Ev.round ?_
        simp only [spandrelkit_SameLevels.l0, List.length_map, rd_lv lv j (by omega), rd_lv lv' j (by omega)]
        refine Ev.pos (by omega) ?_
        refine Ev.pos (by omega) ?_
        refine Ev.pos (by omega) ?_
        have h1 : lv.drop j = lv[j] :: lv.drop (j + 1) := List.drop_eq_getElem_cons (by omega)
        have h2 : lv'.drop j = lv'[j] :: lv'.drop (j + 1) := List.drop_eq_getElem_cons (by omega)
        have h3 : Ev (fun n => spandrelkit_SameLevel.f n (sLv lv[j]).f0 (sLv lv'[j]).f0) (lv[j] == lv'[j]) := Ev.bind (parts_ev lv[j] lv'[j] (hl2 _ (List.getElem_mem (by omega)))) (Ev.now _)
        refine Ev.bind h3 ?_
        rw [h1, h2]
        by_cases hp : lv[j] = lv'[j]
        · refine Ev.pos (by simp [hp]) ?_
          rw [wrap_id (by omega) (by omega), hp]
          refine Ev.eq (ih (j + 1) (by omega) (by omega)) ?_
          rw [beq_cons', beq_self_eq_true, Bool.true_and]
        · refine Ev.neg (by simp [hp]) ?_
          refine Ev.eq (Ev.now false) ?_
          have : (lv[j] == lv'[j]) = false := beq_eq_false_iff_ne.2 hp
          rw [beq_cons', this, Bool.false_and]
    exact Ev.eq (key lv.length 0 (by omega) (by omega)) (by simp)
  · refine Ev.neg (by omega) (Ev.eq (Ev.now false) (ne_of_len he).symm)
theorem len_lvs {w : World} {v : Value} {lv : List Lv} (h : RdLvs w v lv) : lv.length ≤ 9223372036854775807 ∧ ∀ l ∈ lv, l.length ≤ 9223372036854775807 := by
  obtain ⟨A, c, _, _, h1, h2⟩ := h
  refine ⟨h1, fun l hl => ?_⟩
  rcases h2 with rfl | ⟨b, o, _, h2⟩
  · cases hl
  obtain ⟨i, hi, rfl⟩ := List.mem_iff_getElem.1 hl
  obtain ⟨cs, _, ⟨u, _, hu⟩, _⟩ := h2.get i _ (List.getElem?_eq_getElem hi)
  obtain ⟨_, _, _, _, h3, _⟩ := hu
  exact h3
theorem SameLevels_any (lv lv' : List Lv) (v v' : Value) (w : World) (h : RdLvs w v lv) (h' : RdLvs w v' lv') :
    Calls Tryd.prog 47 #[v, v'] w fun e w' => e = .returned (.bool (lv == lv')) ∧ Below w.heap.size w w' := by
  obtain ⟨n, hn⟩ := (sameLevels_ev lv lv' (len_lvs h).1 (len_lvs h).2).rounds
  obtain ⟨A, c, rfl, hl, hr⟩ := k_of_lvs h
  obtain ⟨A', c', rfl, hl', hr'⟩ := k_of_lvs h'
  have e3 : (lv.map sLv).length = lv.length := List.length_map ..
  have e4 : (lv'.map sLv).length = lv'.length := List.length_map ..
  have hc := spandrelkit_SameLevels.calls n A c (lv.map sLv) A' c' (lv'.map sLv) _ w (by rw [e3]; exact hr) (by rw [e3]; exact hl) (by rw [e4]; exact hr') (by rw [e4]; exact hl') hn
  rw [e3, e4] at hc
  exact hc

mutual
def Tm.eqb : Tm → Tm → Bool
  | .mk k n a lv ks, .mk k' n' a' lv' ks' => k == k' && n == n' && a == a' && lv == lv' && Tm.eqbL ks ks'
def Tm.eqbL : List Tm → List Tm → Bool
  | [], [] => true
  | t :: ts, u :: us => Tm.eqb t u && Tm.eqbL ts us
  | _, _ => false
end
theorem Tm.eqbL_snoc : ∀ (ts us : List Tm) (k : Nat) (h : k < ts.length) (h' : k < us.length), Tm.eqbL (ts.take k) (us.take k) = true → Tm.eqbL (ts.take (k + 1)) (us.take (k + 1)) = Tm.eqb ts[k] us[k]
  | [], _, _, h, _, _ => by simp at h
  | _ :: _, [], _, _, h', _ => by simp at h'
  | t :: ts, u :: us, 0, _, _, _ => by simp [Tm.eqbL]
  | t :: ts, u :: us, k + 1, h, h', he => by
    simp only [List.take_succ_cons, Tm.eqbL, Bool.and_eq_true] at he ⊢
    rw [Tm.eqbL_snoc ts us k (by simpa using h) (by simpa using h') he.2, he.1]
    simp
theorem Tm.eqbL_take : ∀ (ts us : List Tm) (k : Nat), Tm.eqbL (ts.take k) (us.take k) = false → Tm.eqbL ts us = false
  | [], [], k, h => by simp [Tm.eqbL] at h
  | [], u :: us, k, h => by simp [Tm.eqbL]
  | t :: ts, [], k, h => by simp [Tm.eqbL]
  | t :: ts, u :: us, 0, h => by simp [Tm.eqbL] at h
  | t :: ts, u :: us, k + 1, h => by
    simp only [List.take_succ_cons, Tm.eqbL, Bool.and_eq_false_iff] at h ⊢
    rcases h with h | h
    · exact .inl h
    · exact .inr (Tm.eqbL_take ts us k h)
theorem Tm.eqbL_len : ∀ (ts us : List Tm), ts.length ≠ us.length → Tm.eqbL ts us = false
  | [], [], h => by simp at h
  | [], u :: us, h => by simp [Tm.eqbL]
  | t :: ts, [], h => by simp [Tm.eqbL]
  | t :: ts, u :: us, h => by simp [Tm.eqbL, Tm.eqbL_len ts us (by simpa using h)]
def SameP (t : Tm) : Prop := ∀ (u : Tm) (cs cs' : List Value) (w : World), RdT w t cs → RdT w u cs' →
  Calls Tryd.prog 11 #[.agg cs.toArray, .agg cs'.toArray] w fun e w' => e = .returned (.bool (Tm.eqb t u)) ∧ Below w.heap.size w w'

set_option maxRecDepth 100000 in
set_option maxHeartbeats 400000 in
theorem SameTerms_of (ts us : List Tm) (hP : ∀ t ∈ ts, SameP t) (v v' : Value) (w : World) (h : RdTs w v ts) (h' : RdTs w v' us) :
    Calls Tryd.prog 48 #[v, v'] w fun e w' => e = .returned (.bool (Tm.eqbL ts us)) ∧ Below w.heap.size w w' := by
  obtain ⟨A, c, rfl, hc1, hc2, hr⟩ := h
  obtain ⟨A', c', rfl, hc1', hc2', hr'⟩ := h'
  have hb1 : (ts.length : Int) ≤ 9223372036854775807 := by omega
  clear hc2 hc2'
  by_cases hl : ts.length = us.length
  · have hne : ((ts.length : Int) != (us.length : Int)) = false := by simp [hl]
    have HL := Lib.hid hl; clear hl
    go_enter Tryd.func48, Tryd.ntmps48
    go_wp2_with fail
    go_loopw [5] (fun i wr => ∃ k : Nat, k ≤ ts.length ∧ i = .int .i64 k ∧ Below w.heap.size w wr ∧ Hid (Tm.eqbL (ts.take k) (us.take k) = true)) (fun i _ => ts.length - (intOf i).toNat)
    case atStart => exact ⟨0, by omega, rfl, Below.refl _ _, by simp [Hid, Tm.eqbL]⟩
    case round =>
      obtain ⟨k, hk, rfl, hb, he⟩ := hrel
      by_cases hlt : k < ts.length
      · rcases hr with rfl | ⟨b, o, rfl, hr⟩
        · simp at hlt
        rcases hr' with rfl | ⟨b', o', rfl, hr'⟩
        · have := HL.out; rw [this] at hlt; simp at hlt
        have hlt' : k < us.length := by rw [← HL.out]; exact hlt
        obtain ⟨k0, n0, a0, A1, l1, c1, A2, l2, c2, hT, e0, e1, e2, e3, e4, hbl⟩ := RdT_at hr k hlt
        obtain ⟨k0', n0', a0', A1', l1', c1', A2', l2', c2', hT', e0', e1', e2', e3', e4', hbl'⟩ := RdT_at hr' k hlt'
        obtain ⟨hc, hf⟩ := bcell hb
        have HC := Lib.hid (fun W (hW : Keeps w W) => hP ts[k] (List.getElem_mem hlt) us[k] _ _ W (RdT.below hW _ _ hT) (RdT.below hW _ _ hT'))
        have HS := Lib.hid (Tm.eqbL_snoc ts us k hlt hlt' he)
        have HT := Lib.hid (Tm.eqbL_take ts us (k + 1))
        cases hq : Tm.eqb ts[k] us[k]
        all_goals
          rw [hq] at HC HS
          clear hq
          go_wp2_with fail
          go_region_held3 (fun W => ∀ b o, b < w.heap.size → W.cell? ⟨b, o, none⟩ = w.cell? ⟨b, o, none⟩)
            (first | exact hc | exact Keeps.step hc hb.size (undrew hb2))
            (first | (go_at_call 11; refine (HC.out _ (by assumption)).mono ?_; rintro e w1 ⟨rfl, hb2⟩))
          clear hc hf e0 e1 e2 e3 e4 e0' e1' e2' e3' e4'
          go_wp2
        · go_ret
          exact ⟨ret_bool (HT.out HS.out).symm, hb.trans ((undrew hb2).mono hb.size)⟩
        · go_roundw
          case rel => exact ⟨k + 1, by omega, by go_num, hb.trans ((undrew hb2).mono hb.size), HS.out⟩
          case measure => simp [intOf]; omega
      · go_wp2
        go_ret
        have hk' : k = ts.length := by omega
        subst hk'
        have h1 := he.out
        rw [List.take_length, HL.out, List.take_length] at h1
        exact ⟨ret_bool h1.symm, hb⟩
  · have hne : ((ts.length : Int) != (us.length : Int)) = true := by simp; omega
    go_enter Tryd.func48, Tryd.ntmps48
    go_wp2
    go_ret
    exact ⟨ret_bool (Tm.eqbL_len ts us hl).symm, Below.refl _ _⟩

set_option maxRecDepth 100000 in
set_option maxHeartbeats 1000000 in
theorem SameTerm_of (k n a : Int) (lv : List Lv) (kids : List Tm) (ih : ∀ t ∈ kids, SameP t) : SameP (.mk k n a lv kids) := by
  intro u cs cs' w h h'
  obtain ⟨k', n', a', lv', kids'⟩ := u
  obtain ⟨vl, vk, rfl, h1, h2⟩ := (RdT_mk ..).1 h
  obtain ⟨vl', vk', rfl, h1', h2'⟩ := (RdT_mk ..).1 h'
  have hb := blks2 w #[.int .i64 k, .int .i64 n, .int .i64 a, vl, vk] #[.int .i64 k', .int .i64 n', .int .i64 a', vl', vk'] 30 30
  have HC := Lib.hid (fun W (hk : Keeps w W) => SameLevels_any lv lv' vl vl' W (h1.below hk) (h1'.below hk))
  have HT := Lib.hid (fun W (hk : Keeps w W) => SameTerms_of kids kids' ih vk vk' W (h2.below hk) (h2'.below hk))
  obtain ⟨A1, c1, rfl, _⟩ := id h1
  obtain ⟨A2, c2, rfl, _⟩ := id h2
  obtain ⟨A1', c1', rfl, _⟩ := id h1'
  obtain ⟨A2', c2', rfl, _⟩ := id h2'
  have HB := Lib.hid hb
  clear h h' h1 h2 h1' h2' ih hb
  obtain ⟨r, hr⟩ : ∃ r, r = Tm.eqb (.mk k n a lv kids) (.mk k' n' a' lv' kids') := ⟨_, rfl⟩
  rw [← hr]
  simp only [Tm.eqb] at hr
  have e1 : (k == k') = true ∨ (k == k') = false := by cases (k == k') <;> simp
  rcases e1 with e1 | e1
  rotate_left
  · have HR := Lib.hid (show r = false by rw [hr, e1]; simp)
    clear hr
    go_enter Tryd.func11, Tryd.ntmps11
    go_wp2
    go_ret
    exact ⟨ret_bool HR.out.symm, HB.out.2.2.1⟩
  have e2 : (n == n') = true ∨ (n == n') = false := by cases (n == n') <;> simp
  rcases e2 with e2 | e2
  rotate_left
  · have HR := Lib.hid (show r = false by rw [hr, e2]; simp)
    clear hr
    go_enter Tryd.func11, Tryd.ntmps11
    go_wp2
    go_ret
    exact ⟨ret_bool HR.out.symm, HB.out.2.2.1⟩
  have e3 : (a == a') = true ∨ (a == a') = false := by cases (a == a') <;> simp
  rcases e3 with e3 | e3
  rotate_left
  · have HR := Lib.hid (show r = false by rw [hr, e3]; simp)
    clear hr
    go_enter Tryd.func11, Tryd.ntmps11
    go_wp2
    go_ret
    exact ⟨ret_bool HR.out.symm, HB.out.2.2.1⟩
  have HR := Lib.hid (show r = ((lv == lv') && Tm.eqbL kids kids') by rw [hr, e1, e2, e3]; simp)
  clear hr
  go_enter Tryd.func11, Tryd.ntmps11
  go_wp2_with fail
  generalize ((w.alloc _).alloc _) = W at *
  obtain ⟨k0, k1, hb, hsz⟩ := HB.out
  refine (HC.out W (keeps_of hb)).mono ?_
  rintro e w1 ⟨rfl, hb1⟩
  have k0 := k0.below hb1
  have k1 := k1.below hb1
  have hbw := hb.trans (hb1.mono hb.size)
  have g0 := k0.cell
  have g1 := k1.cell
  have HW := Lib.hid hbw
  clear hb hb1 k0 k1 hbw hsz HB
  have e4 : (lv == lv') = true ∨ (lv == lv') = false := by cases (lv == lv') <;> simp
  rcases e4 with e4 | e4
  · rw [e4] at HR
    rw [e4]
    clear e4
    go_wp2_with fail
    refine (HT.out w1 (keeps_of HW.out)).mono ?_
    rintro e w2 ⟨rfl, hb2⟩
    have HB2 := Lib.hid hb2
    clear hb2
    go_wp2
    go_ret
    exact ⟨ret_bool (by rw [HR.out]; simp), HW.out.trans (HB2.out.mono HW.out.size)⟩
  · rw [e4] at HR
    rw [e4]
    clear e4
    go_wp2
    go_ret
    exact ⟨ret_bool (by rw [HR.out]; simp), HW.out⟩
theorem Same_any : ∀ t, SameP t := by
  intro t
  induction t using Tm.ind with
  | h k n a lv kids ih => exact SameTerm_of k n a lv kids ih
mutual
theorem eqb_refl : ∀ t : Tm, Tm.eqb t t = true
  | .mk k n a lv kids => by simp [Tm.eqb, eqbL_refl kids]
theorem eqbL_refl : ∀ ts : List Tm, Tm.eqbL ts ts = true
  | [] => rfl
  | t :: ts => by simp [Tm.eqbL, eqb_refl t, eqbL_refl ts]
end
end Go.Proofs.YtkedcijfegoflaaDoor.PCarryNames
