/- carry: a term carried over. -/
import Derived.Test.YtkedcijfegoflaaDoorName5
namespace Go.Proofs.YtkedcijfegoflaaDoor
set_option linter.unusedSimpArgs false
set_option linter.unusedVariables false
open Go Go.RowKit Go.Proofs.YtkedcijfegoflaaDoorW.PrintLast

mutual
/-- A term carried over. -/
def carT (ds : List Dc) (ats : List Int) : Tm → Tm
  | .mk k n a lv kids => match nameI ds ats k n a with
    | some m => .mk 3 m 0 lv (carL ds ats kids)
    | none => .mk k (liftNum 0 0 0 k n) a lv (carL ds ats kids)
def carL (ds : List Dc) (ats : List Int) : List Tm → List Tm
  | [] => []
  | t :: ts => carT ds ats t :: carL ds ats ts
end
theorem carL_eq (ds : List Dc) (ats : List Int) : ∀ ts, carL ds ats ts = ts.map (carT ds ats)
  | [] => by simp [carL]
  | t :: ts => by simp [carL, carL_eq ds ats ts]
theorem carL_take (ds : List Dc) (ats : List Int) (ts : List Tm) (j : Nat) (h : j < ts.length) : carL ds ats (ts.take (j + 1)) = carL ds ats (ts.take j) ++ [carT ds ats ts[j]] := by
  rw [carL_eq, carL_eq, List.take_succ_eq_append_getElem h, List.map_append]
  rfl
/-- The append of new cells onto a row of one's own, in a walk. -/
theorem wpList_app {P : Program} {ops : Array Oper} {rest : List Oper} {o : Oper} {a : Act} {w : World} {Q : Exit → Act → World → Prop}
    (hg : o.guard = none) (s x : Operand) (t : TypeId) (hop : o.op = Op.call { callee := Callee.builtin Builtin.append, args := #[s, x], argTypes := #[t, t] })
    (base : Nat) (e : TypeId) (z : Value) (size bytes : Nat) (ht : P.underlying t = some (.slice e)) (hinfo : (P.info? e).map (fun i => (i.zero, i.size, i.bytes)) = some (some z, size, bytes)) (hzs : z.cells.size = size) (hsz : 0 < size)
    (v : Value) (n : Nat) (xs : List Value) (hs : a.eval s = v) (hown : w.ownsRow base e size v n xs)
    (ad : Addr) (m c : Nat) (news : List Value) (hx : a.eval x = .slice (some ad) m c) (hl : news.length = m * size) (hnews : ∀ j u, news[j]? = some u → w.cell? (ad.add j) = some u) (h1 : ∀ u ∈ news, u.oneCell' = true)
    (h63 : n + m ≤ maxLen) (hbytes : (n + m) * bytes ≤ 140737488355328) (hbase : base ≤ w.heap.size)
    (h : ∀ v' w', w'.ownsRow base e size v' (n + m) (xs ++ news) → w.grownBy w' v.ownBlock → (v'.ownBlock = v.ownBlock ∨ v'.ownBlock = some w.heap.size) → wpList P ops Q rest (a.put o.dst v') w') :
    wpList P ops Q (o :: rest) a w := by
  obtain ⟨i, hi, hz, hsize, hby⟩ := info_parts hinfo
  exact wpList_append_own_at _ hg s x t hop base e i z size bytes ht hi hz hsize hby hzs hsz v n xs hs hown ad m c news hx hl hnews h1 h63 hbytes hbase (fun v' w' h2 h3 _ h5 => h v' w' h2 h3 h5)
/-- What a call may count on: the declarations and bases, the kinds. -/
structure CEnv (w : World) (vd va : Value) (ds : List Dc) (ats : List Int) : Prop where
  hK : Kinds w
  hd : RdDs w vd ds
  ha : RdIs w va ats
theorem CEnv.below {w w' : World} {vd va : Value} {ds : List Dc} {ats : List Int} (h : CEnv w vd va ds ats) (hb : Below w.heap.size w w') : CEnv w' vd va ds ats := ⟨h.hK.below hb, h.hd.below (keeps_of hb), h.ha.below (keeps_of hb)⟩
def CarOK (ds : List Dc) (ats : List Int) (t : Tm) : Prop := ∀ (vd va : Value) (cs : List Value) (W : World), CEnv W vd va ds ats → In W t cs →
  Calls Tryd.prog 49 #[.agg #[vd, va], .agg cs.toArray] W (OutT W (carT ds ats t))
/-- What a call hands out: terms of its own. -/
def OutTs (w : World) (ts : List Tm) (e : Ending) (w' : World) : Prop := ∃ A c F, e = .returned (.slice A ts.length c) ∧ OwTs w' (.slice A ts.length c) ts F ∧ Fr w.heap.size w' F ∧ Below w.heap.size w w'
structure TInv (w : World) (b0 : Array Value) (v : Value) (done : List Tm) (F : List Nat) (wr : World) : Prop where
  hb : Below w.heap.size w wr
  k0 : Blk wr w.heap.size b0 76
  hO : OwTs wr v done F
  hF : Fr (w.heap.size + 1) wr F
theorem TInv.push {w : World} {b0 : Array Value} {v v2 : Value} {F Fx : List Nat} {done : List Tm} {x : Tm} {cx : List Value} {wr w1 W1 w2 : World}
    (h : TInv w b0 v done F wr) (hb : Below wr.heap.size wr w1) (hx : OwT w1 x cx Fx) (hFx : Fr wr.heap.size w1 Fx) (hW : Below w1.heap.size w1 W1) (hcx : cx.length = 5)
    (happ : ∀ inner, wr.ownsRow 0 30 5 v done.length inner → w2.ownsRow 0 30 5 v2 (done.length + 1) (inner ++ cx)) (hg : W1.grownBy w2 v.ownBlock) (hat : v2.ownBlock = v.ownBlock ∨ v2.ownBlock = some W1.heap.size) (h2s : ∀ k, v2.ownBlock = some k → k < w2.heap.size) :
    ∃ F', TInv w b0 v2 (done ++ [x]) F' w2 := by
  obtain ⟨hb', k0, hO, hF⟩ := h
  have l0 := k0.lt
  obtain ⟨F', hO', hF'⟩ := OwS.push OwT.mov hO hF hb (by omega) hx hFx hW (fun inner hi => by rw [List.length_append, List.length_singleton]; exact happ inner hi) hcx hg hat h2s
  have s1 := hb.size
  have s2 := hW.size
  have s3 := hg.size
  have hvlo : ∀ q, v.ownBlock = some q → w.heap.size + 1 ≤ q := fun q hq => by
    obtain ⟨inner, Fi, g1, g2, rfl⟩ := hO
    exact (hF.2 q (List.mem_append_left _ (by simp [hq]))).1
  have hold : ∀ q, q < w.heap.size + 1 → w2.heap[q]? = wr.heap[q]? := fun q hq => by
    rw [hg.block q (by omega) (fun e => by have := hvlo q e.symm; omega), hW.block q (by omega), hb.block q (by omega)]
  refine ⟨F', ⟨?_, ?_, ?_, ?_, ?_⟩, (hold _ (by omega)).trans k0, hO', hF'⟩
  · show w2.os = w.os; rw [hg.os, hW.os, hb.os, hb'.os]
  · show w2.tape = w.tape; rw [hg.tape, hW.tape, hb.tape, hb'.tape]
  · show w2.output = w.output; rw [hg.output, hW.output, hb.output, hb'.output]
  · have := hb'.size; omega
  · intro q hq; rw [hold q (by omega)]; exact hb'.block q hq

set_option maxRecDepth 100000 in
set_option maxHeartbeats 2000000 in
theorem terms_of (ds : List Dc) (ats : List Int) (ts : List Tm) (ih : ∀ t ∈ ts, CarOK ds ats t) (vd va vk : Value) (w : World) (hE : CEnv w vd va ds ats) (h : RdTs w vk ts) (hl : ts.length ≤ 1099511627776) (hok : ∀ t ∈ ts, Okt t ∧ t.nodes ≤ 1152921504606846976) :
    Calls Tryd.prog 86 #[.agg #[vd, va], vk] w (OutTs w (carL ds ats ts)) := by
  obtain ⟨A0, c0, rfl, hc0, hm0, hr⟩ := id h
  have HIN := Lib.hid (fun (i : Nat) (hi : i < ts.length) (W : World) (hb : Below w.heap.size w W) (cs : List Value) (hcs : RdT w ts[i] cs) => ih ts[i] (List.getElem_mem hi) vd va cs W (hE.below hb) ⟨RdT.below (keeps_of hb) _ _ hcs, (hok _ (List.getElem_mem hi)).1, (hok _ (List.getElem_mem hi)).2⟩)
  obtain ⟨k0, hb0, hsz⟩ := blks1 w #[vd, va] 76
  obtain ⟨Ad, cd, rfl, _⟩ := id hE.hd
  obtain ⟨Aa, ca, rfl, _⟩ := id hE.ha
  have HI : TInv w #[.slice Ad ds.length cd, .slice Aa ats.length ca] (.slice none 0 0) [] [] (w.alloc (.cells #[.slice Ad ds.length cd, .slice Aa ats.length ca] 76)) := ⟨hb0, k0, OwS.nil _ _ _ _, Fr.nil _ _⟩
  have HI := Lib.hid HI
  have HR := Lib.hid hr
  have HL := Lib.hid hl
  have hkl : (ts.length : Int) ≤ 9223372036854775807 := by omega
  clear hE h hok ih hc0 hm0 hr hl k0 hb0 hsz
  go_enter Tryd.func86, Tryd.ntmps86
  go_wp2_with fail
  go_loopw [4, 9] (fun v i wr => ∃ j : Nat, j ≤ ts.length ∧ i = .int .i64 j ∧ ∃ A c F, v = .slice A j c ∧ Hid (TInv w #[.slice Ad ds.length cd, .slice Aa ats.length ca] (.slice A j c) (carL ds ats (ts.take j)) F wr)) (fun _ i _ => ts.length - (intOf i).toNat)
  case atStart => exact ⟨0, by omega, rfl, none, 0, [], rfl, HI⟩
  case round =>
    obtain ⟨j, hj, rfl, A, c, F, rfl, HV⟩ := hrel
    clear HI
    by_cases hlt : j < ts.length
    · rcases HR.out with rfl | ⟨b, o, rfl, hkr⟩
      · simp at hlt
      obtain ⟨q0, q1, q2, A5, l5, c5, A6, l6, c6, hTk, e0, e1, e2, e3, e4, hbl⟩ := RdT_at hkr j hlt
      have hv := HV.out
      have hcw := (bcell hv.hb).1
      have HTk := Lib.hid hTk
      have hj0 : (0 : Int) ≤ (j : Int) := Int.natCast_nonneg _
      have hj1 : (j : Int) < (ts.length : Int) := by omega
      have g0 := hv.k0.cell
      have n0 := hv.k0.lt
      have hl0 : (carL ds ats (ts.take j)).length = j := by rw [carL_eq, List.length_map, List.length_take]; omega
      clear hkr hTk hv
      go_wp2_with fail
      clear e0 e1 e2 e3 e4 hcw g0
      have hv := HV.out
      have hA : Below wr.heap.size wr (wr.alloc (.cells #[.int .i64 q0, .int .i64 q1, .int .i64 q2, .slice A5 l5 c5, .slice A6 l6 c6] 30)) := (Below.refl _ _).alloc (Nat.le_refl _) _
      refine (HIN.out j hlt _ (hv.hb.trans (hA.mono hv.hb.size)) _ HTk.out).mono ?_
      rintro e w1 ⟨cs', Fx, rfl, hx, hFx, hb1⟩
      obtain ⟨A7, l7, c7, A8, l8, c8, rfl⟩ := hx.cells
      have hbx := hA.trans (hb1.mono hA.size)
      have HX := Lib.hid (And.intro hx (And.intro (hFx.mono hA.size (Nat.le_refl _)) hbx))
      have hOs := hv.hO
      obtain ⟨inner, Fi, hown, hin, hFi⟩ := id hOs
      rw [hl0] at hown
      have hbW1 : Below w1.heap.size w1 (w1.alloc (.cells #[.int .i64 (carT ds ats ts[j]).kind, .int .i64 (carT ds ats ts[j]).num, .int .i64 (carT ds ats ts[j]).place, .slice A7 l7 c7, .slice A8 l8 c8] 30)) := (Below.refl _ _).alloc (Nat.le_refl _) _
      have hown1 := ownsRow_move hown (fun q hq => (hbW1.block q (Nat.lt_of_lt_of_le (hown.lt q hq).2 hbx.size)).trans (hbx.block q (hown.lt q hq).2))
      have HO := Lib.hid hown1
      have HW := Lib.hid hown
      have HB := Lib.hid hbW1
      have HL0 := Lib.hid hl0
      clear hv hx hFx hb1 hbx hOs hown hin hFi hbW1 hA hown1 hl0
      go_wp2_with (at_builtin; refine wpList_app rfl (.tmp 13) (.tmp 17) 28 rfl 0 30 _ 5 72 Tryd.underlying28 infoTm rfl (by decide) (.slice A j c) j inner rfl HO.out ⟨w1.heap.size, 0, none⟩ 1 1 [.int .i64 (carT ds ats ts[j]).kind, .int .i64 (carT ds ats ts[j]).num, .int .i64 (carT ds ats ts[j]).place, .slice A7 l7 c7, .slice A8 l8 c8] rfl rfl (news_at (Blk.new w1 _ _)) (by simp [Value.oneCell']) (by have := HL.out; simp only [maxLen]; omega) (by have := HL.out; omega) (Nat.zero_le _) ?_)
      intro v2 w5 hown2 hg hat
      obtain ⟨A9, c9, rfl⟩ := own_slice hown2
      have HP := Lib.hid (HV.out.push HX.out.2.2 HX.out.1 HX.out.2.1 HB.out rfl (fun inner' hi' => by rw [HL0.out] at hi' ⊢; rw [ownsRow_unique hi' HW.out]; exact hown2) hg (by rw [World.size_alloc]; exact hat) (fun q hq => (hown2.lt q hq).2))
      clear hown2 hg hat
      go_wp2
      go_roundw
      case rel =>
        obtain ⟨F', hw⟩ := HP.out
        rw [show carL ds ats (ts.take j) ++ [carT ds ats ts[j]] = carL ds ats (ts.take (j + 1)) from (carL_take ds ats ts j hlt).symm] at hw
        exact ⟨j + 1, by omega, by go_num, A9, c9, F', rfl, hw⟩
      case measure => simp [intOf]; omega
    · go_wp2
      go_ret
      have hjk : j = ts.length := by omega
      subst hjk
      obtain ⟨hb', k0, hO, hF⟩ := HV.out
      rw [List.take_length] at hO
      have hl : (carL ds ats ts).length = ts.length := by rw [carL_eq, List.length_map]
      refine ⟨A, c, F, ?_, by rw [hl]; exact hO, hF.mono (by omega) (Nat.le_refl _), hb'⟩
      rw [hl]
      rfl
end Go.Proofs.YtkedcijfegoflaaDoor
