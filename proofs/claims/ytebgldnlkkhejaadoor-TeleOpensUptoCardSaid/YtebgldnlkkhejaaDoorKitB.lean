/- tele: own, owns, Lifts. -/
import Derived.Test.YtebgldnlkkhejaaDoorKitA
import Derived.Laws.OwnMore
import Derived.RangeFuncNested
import Derived.RangeFuncBound
import Derived.RangeFuncCalls
import Derived.RangeFuncLeaves
import Derived.RangeFuncBox
import Derived.Shelf.Abstract
import Derived.Shelf.RegionOpen
import Derived.OwnWalkIn
import Derived.TacticsInMore
import Derived.LoopNIn
import Derived.LoopIn
import Derived.Defers
import Derived.Recover
import Derived.RegionTactic
import Derived.ChangeAlike
import Derived.Test.YtebgldnlkkhejaaDoorWMore
namespace Go.Proofs.YtebgldnlkkhejaaDoor
set_option linter.unusedSimpArgs false
set_option linter.unusedVariables false
open Go Go.RowKit Go.Proofs.YtebgldnlkkhejaaDoorW.PrintLast

/-- A term handed on: lifted by nothing. -/
def ownT (t : Tm) : Tm := liftT 0 0 0 t
set_option maxRecDepth 100000 in
set_option maxHeartbeats 1000000 in
theorem ownT_any (t : Tm) (cs : List Value) (w : World) (hK : Kinds w) (h : In w t cs) :
    Calls Tryd.prog 54 #[.agg cs.toArray] w (OutT w (ownT t)) := by
  obtain ⟨A1, l1, c1, A2, l2, c2, rfl⟩ := h.rd.cells
  obtain ⟨k0, k1, hb, hsz⟩ := blks2 w #[.int .i64 t.kind, .int .i64 t.num, .int .i64 t.place, .slice A1 l1 c1, .slice A2 l2 c2] #[.int .i64 0, .int .i64 0, .int .i64 0, .slice none 0 0, .slice none 0 0] 30 30
  have HC := Lib.hid (Lift_any t _ 0 0 _ (hK.below hb) (h.keeps (keeps_of hb)))
  have H := Lib.hid (And.intro k1 (And.intro hb hsz))
  clear k0 k1 hb hsz hK h
  go_enter Tryd.func54, Tryd.ntmps54
  go_wp2_with fail
  refine HC.out.mono ?_
  rintro e w1 ⟨cs', F, rfl, hO, hF, hb1⟩
  obtain ⟨A3, l3, c3, A4, l4, c4, rfl⟩ := hO.cells
  obtain ⟨k1, hb, hsz⟩ := H.out
  have k1 := k1.below hb1
  have c1' := k1.cell
  have f1' := k1.frozen
  have H1 := Lib.hid (And.intro k1 (And.intro hO (And.intro hF (And.intro hb1 (And.intro hb hsz)))))
  clear k1 hO hF hb1 hb hsz
  go_wp2
  obtain ⟨k1, hO, hF, hb1, hb, hsz⟩ := H1.out
  rw [hsz] at hF
  exact term_end Tryd.results54 rfl k1 hO hF (by omega) (fun b hb => by have := (hF.2 b hb).1; omega) (hb.trans (hb1.mono hb.size)) (by omega) rfl
/-- Terms made one behind the other: a row under construction. -/
structure OInv (w : World) (v : Value) (done : List Tm) (F : List Nat) (wr : World) : Prop where
  hb : Below w.heap.size w wr
  hO : OwTs wr v done F
  hF : Fr w.heap.size wr F
theorem OInv.push {w : World} {v v2 : Value} {F Fx : List Nat} {done : List Tm} {x : Tm} {cx : List Value} {wr w1 W1 w2 : World}
    (h : OInv w v done F wr) (hb : Below wr.heap.size wr w1) (hx : OwT w1 x cx Fx) (hFx : Fr wr.heap.size w1 Fx) (hW : Below w1.heap.size w1 W1) (hcx : cx.length = 5)
    (happ : ∀ inner, wr.ownsRow 0 30 5 v done.length inner → w2.ownsRow 0 30 5 v2 (done.length + 1) (inner ++ cx)) (hg : W1.grownBy w2 v.ownBlock) (hat : v2.ownBlock = v.ownBlock ∨ v2.ownBlock = some W1.heap.size) (h2s : ∀ k, v2.ownBlock = some k → k < w2.heap.size) :
    ∃ F', OInv w v2 (done ++ [x]) F' w2 := by
  obtain ⟨hb', hO, hF⟩ := h
  have l0 := hb'.size
  obtain ⟨F', hO', hF'⟩ := OwS.push OwT.mov hO hF hb l0 hx hFx hW (fun inner hi => by rw [List.length_append, List.length_singleton]; exact happ inner hi) hcx hg hat h2s
  have s1 := hb.size
  have s2 := hW.size
  have s3 := hg.size
  have hvlo : ∀ q, v.ownBlock = some q → w.heap.size ≤ q := fun q hq => by
    obtain ⟨inner, Fi, g1, g2, rfl⟩ := hO
    exact (hF.2 q (List.mem_append_left _ (by simp [hq]))).1
  have hold : ∀ q, q < w.heap.size → w2.heap[q]? = wr.heap[q]? := fun q hq => by
    rw [hg.block q (by omega) (fun e => by have := hvlo q e.symm; omega), hW.block q (by omega), hb.block q (by omega)]
  refine ⟨F', ⟨?_, ?_, ?_, ?_, ?_⟩, hO', hF'⟩
  · show w2.os = w.os; rw [hg.os, hW.os, hb.os, hb'.os]
  · show w2.tape = w.tape; rw [hg.tape, hW.tape, hb.tape, hb'.tape]
  · show w2.output = w.output; rw [hg.output, hW.output, hb.output, hb'.output]
  · omega
  · intro q hq; rw [hold q (by omega)]; exact hb'.block q hq
/-- What may be asked of a row that is handed in. -/
structure Ins (w : World) (v : Value) (ts : List Tm) : Prop where
  rd : RdTs w v ts
  len : ts.length ≤ 1099511627776
  ok : ∀ t ∈ ts, Okt t ∧ t.nodes ≤ 1152921504606846976
theorem Ins.keeps {w w' : World} {v : Value} {ts : List Tm} (h : Ins w v ts) (hk : Keeps w w') : Ins w' v ts := ⟨h.rd.below hk, h.len, h.ok⟩
theorem map_take (f : Tm → Tm) (ts : List Tm) (j : Nat) (h : j < ts.length) : (ts.take (j + 1)).map f = (ts.take j).map f ++ [f ts[j]] := by
  rw [List.take_succ_eq_append_getElem h, List.map_append]
  rfl

set_option maxRecDepth 100000 in
set_option maxHeartbeats 2000000 in
theorem owns_any (ts : List Tm) (vk : Value) (w : World) (hK : Kinds w) (h : Ins w vk ts) :
    Calls Tryd.prog 87 #[vk] w (OutTs w (ts.map ownT)) := by
  obtain ⟨A0, c0, rfl, hc0, hm0, hr⟩ := id h.rd
  have HIN := Lib.hid (fun (i : Nat) (hi : i < ts.length) (W : World) (hb : Below w.heap.size w W) (cs : List Value) (hcs : RdT w ts[i] cs) => ownT_any ts[i] cs W (hK.below hb) ⟨RdT.below (keeps_of hb) _ _ hcs, (h.ok _ (List.getElem_mem hi)).1, (h.ok _ (List.getElem_mem hi)).2⟩)
  have HI : OInv w (.slice none 0 0) [] [] w := ⟨Below.refl _ _, OwS.nil _ _ _ _, Fr.nil _ _⟩
  have HI := Lib.hid HI
  have HR := Lib.hid hr
  have HL := Lib.hid h.len
  have hkl : (ts.length : Int) ≤ 9223372036854775807 := by have := h.len; omega
  clear hK h hc0 hm0 hr
  go_enter Tryd.func87, Tryd.ntmps87
  go_wp2_with fail
  go_loopw [2, 7] (fun v i wr => ∃ j : Nat, j ≤ ts.length ∧ i = .int .i64 j ∧ ∃ A c F, v = .slice A j c ∧ Hid (OInv w (.slice A j c) ((ts.take j).map ownT) F wr)) (fun _ i _ => ts.length - (intOf i).toNat)
  case atStart => exact ⟨0, by omega, rfl, none, 0, [], rfl, HI⟩
  case round =>
    obtain ⟨j, hj, rfl, A, c, F, rfl, HV⟩ := hrel
    clear HI
    by_cases hlt : j < ts.length
    · rcases HR.out with rfl | ⟨b, o, rfl, hkr⟩
      · simp at hlt
      obtain ⟨q0, q1, q2, A5, l5, c5, A6, l6, c6, hTk, e0, e1, e2, e3, e4, hbl⟩ := RdT_at hkr j hlt
      have hv := HV.out
      have hcw := (bcell hv.hb).1
      have HTk := Lib.hid hTk
      have hj0 : (0 : Int) ≤ (j : Int) := Int.natCast_nonneg _
      have hj1 : (j : Int) < (ts.length : Int) := by omega
      have hl0 : ((ts.take j).map ownT).length = j := by rw [List.length_map, List.length_take]; omega
      clear hkr hTk hv
      go_wp2_with fail
      clear e0 e1 e2 e3 e4 hcw
      have hv := HV.out
      have hA : Below wr.heap.size wr (wr.alloc (.cells #[.int .i64 q0, .int .i64 q1, .int .i64 q2, .slice A5 l5 c5, .slice A6 l6 c6] 30)) := (Below.refl _ _).alloc (Nat.le_refl _) _
      refine (HIN.out j hlt _ (hv.hb.trans (hA.mono hv.hb.size)) _ HTk.out).mono ?_
      rintro e w1 ⟨cs', Fx, rfl, hx, hFx, hb1⟩
      obtain ⟨A7, l7, c7, A8, l8, c8, rfl⟩ := hx.cells
      have hbx := hA.trans (hb1.mono hA.size)
      have HX := Lib.hid (And.intro hx (And.intro (hFx.mono hA.size (Nat.le_refl _)) hbx))
      have hOs := hv.hO
      obtain ⟨inner, Fi, hown, hin, hFi⟩ := id hOs
      rw [hl0] at hown
      have hbW1 : Below w1.heap.size w1 (w1.alloc (.cells #[.int .i64 (ownT ts[j]).kind, .int .i64 (ownT ts[j]).num, .int .i64 (ownT ts[j]).place, .slice A7 l7 c7, .slice A8 l8 c8] 30)) := (Below.refl _ _).alloc (Nat.le_refl _) _
      have hown1 := ownsRow_move hown (fun q hq => (hbW1.block q (Nat.lt_of_lt_of_le (hown.lt q hq).2 hbx.size)).trans (hbx.block q (hown.lt q hq).2))
      have HO := Lib.hid hown1
      have HW := Lib.hid hown
      have HB := Lib.hid hbW1
      have HL0 := Lib.hid hl0
      clear hv hx hFx hb1 hbx hOs hown hin hFi hbW1 hA hown1 hl0
      go_wp2_with (at_builtin; refine wpList_app rfl (.tmp 11) (.tmp 14) 28 rfl 0 30 _ 5 72 Tryd.underlying28 infoTm rfl (by decide) (.slice A j c) j inner rfl HO.out ⟨w1.heap.size, 0, none⟩ 1 1 [.int .i64 (ownT ts[j]).kind, .int .i64 (ownT ts[j]).num, .int .i64 (ownT ts[j]).place, .slice A7 l7 c7, .slice A8 l8 c8] rfl rfl (news_at (Blk.new w1 _ _)) (by simp [Value.oneCell']) (by have := HL.out; simp only [maxLen]; omega) (by have := HL.out; omega) (Nat.zero_le _) ?_)
      intro v2 w5 hown2 hg hat
      obtain ⟨A9, c9, rfl⟩ := own_slice hown2
      have HP := Lib.hid (HV.out.push HX.out.2.2 HX.out.1 HX.out.2.1 HB.out rfl (fun inner' hi' => by rw [HL0.out] at hi' ⊢; rw [ownsRow_unique hi' HW.out]; exact hown2) hg (by rw [World.size_alloc]; exact hat) (fun q hq => (hown2.lt q hq).2))
      clear hown2 hg hat
      go_wp2
      go_roundw
      case rel =>
        obtain ⟨F', hw⟩ := HP.out
        rw [← map_take ownT ts j hlt] at hw
        exact ⟨j + 1, by omega, by go_num, A9, c9, F', rfl, hw⟩
      case measure => simp [intOf]; omega
    · go_wp2
      go_ret
      have hjk : j = ts.length := by omega
      subst hjk
      obtain ⟨hb', hO, hF⟩ := HV.out
      rw [List.take_length] at hO
      refine ⟨A, c, F, ?_, by rw [List.length_map]; exact hO, hF, hb'⟩
      rw [List.length_map]
      rfl
end Go.Proofs.YtebgldnlkkhejaaDoor

/-! ## tele: Count, Apps. -/
namespace Go.Proofs.YtebgldnlkkhejaaDoor
set_option linter.unusedSimpArgs false
set_option linter.unusedVariables false
open Go Go.RowKit Go.Proofs.YtebgldnlkkhejaaDoorW.PrintLast

/-- How many KPi's there are. -/
def countT : Tm → Nat
  | .mk k _ _ _ [_, y] => if k = 4 then countT y + 1 else 0
  | _ => 0
theorem countT_two (k n a : Int) (lv : List Lv) (x y : Tm) : countT (.mk k n a lv [x, y]) = if k = 4 then countT y + 1 else 0 := by
  rw [countT]
theorem countT_not {k n a : Int} {lv : List Lv} {ts : List Tm} (h : ts.length ≠ 2) : countT (.mk k n a lv ts) = 0 := by
  rcases ts with _ | ⟨x, _ | ⟨y, _ | ⟨z, zs⟩⟩⟩
  · rw [countT]; simp
  · rw [countT]; simp
  · simp at h
  · rw [countT]; simp
theorem countT_le : ∀ t : Tm, countT t ≤ t.nodes := by
  intro t
  induction t using Tm.ind with
  | h k n a lv kids ih =>
    by_cases h : kids.length = 2
    · rcases kids with _ | ⟨x, _ | ⟨y, _ | ⟨z, zs⟩⟩⟩ <;> simp at h
      rw [countT_two]
      have := ih y (by simp)
      simp only [Tm.nodes, Tm.nodesL]
      split <;> omega
    · rw [countT_not h]; omega
/-- Two kids, read. -/
theorem kids_two {w : World} {k n a : Int} {lv : List Lv} {x y : Tm} {cs : List Value} (h : RdT w (.mk k n a lv [x, y]) cs) :
    ∃ A1 l1 c1 b o c2, cs = [.int .i64 k, .int .i64 n, .int .i64 a, .slice A1 l1 c1, .slice (some ⟨b, o, none⟩) 2 c2] ∧ 2 ≤ c2 ∧ b < w.heap.size ∧
    (∃ A3 l3 c3 A4 l4 c4, RdT w x [.int .i64 x.kind, .int .i64 x.num, .int .i64 x.place, .slice A3 l3 c3, .slice A4 l4 c4] ∧ AtP w b o [.int .i64 x.kind, .int .i64 x.num, .int .i64 x.place, .slice A3 l3 c3, .slice A4 l4 c4]) ∧
    (∃ A3 l3 c3 A4 l4 c4, RdT w y [.int .i64 y.kind, .int .i64 y.num, .int .i64 y.place, .slice A3 l3 c3, .slice A4 l4 c4] ∧ AtP w b (o + 5) [.int .i64 y.kind, .int .i64 y.num, .int .i64 y.place, .slice A3 l3 c3, .slice A4 l4 c4]) := by
  obtain ⟨vl, vk, rfl, ⟨A1, c1, rfl, _⟩, A2, c2, rfl, hc2, _, hr⟩ := (RdT_mk ..).1 h
  rcases hr with hr | ⟨b, o, rfl, ⟨cx, _, hx, ax⟩, ⟨cy, _, hy, ay⟩, _⟩
  · simp at hr
  · obtain ⟨A3, l3, c3, A4, l4, c4, rfl⟩ := hx.cells
    obtain ⟨A5, l5, c5, A6, l6, c6, rfl⟩ := hy.cells
    exact ⟨_, _, _, b, o, c2, rfl, hc2, World.block_lt_of_cell? w _ (ax 0 _ rfl), ⟨_, _, _, _, _, _, hx, ax⟩, ⟨_, _, _, _, _, _, hy, ay⟩⟩

set_option maxRecDepth 100000 in
set_option maxHeartbeats 2000000 in
theorem Count_tele (t : Tm) (cs : List Value) (w : World) (h : RdT w t cs) (hn : t.nodes ≤ 4611686018427387904) :
    Calls Tryd.prog 23 #[.agg cs.toArray] w (fun e w' => e = .returned (.int .i64 (countT t)) ∧ Below w.heap.size w w') := by
  obtain ⟨A1, l1, c1, A2, l2, c2, rfl⟩ := h.cells
  obtain ⟨k0, hb, hsz⟩ := blks1 w #[.int .i64 t.kind, .int .i64 t.num, .int .i64 t.place, .slice A1 l1 c1, .slice A2 l2 c2] 30
  have hcn := countT_le t
  have HI := Lib.hid (And.intro h (And.intro k0 hb))
  clear h k0 hb hsz
  go_enter Tryd.func23, Tryd.ntmps23
  go_wp2_with fail
  go_loopw [2] (fun n wr => ∃ (j : Nat) (u : Tm) (A1 : Option Addr) (l1 c1 : Nat) (A2 : Option Addr) (l2 c2 : Nat), n = .int .i64 j ∧ countT t = j + countT u ∧ Hid (RdT w u [.int .i64 u.kind, .int .i64 u.num, .int .i64 u.place, .slice A1 l1 c1, .slice A2 l2 c2] ∧ Blk wr w.heap.size #[.int .i64 u.kind, .int .i64 u.num, .int .i64 u.place, .slice A1 l1 c1, .slice A2 l2 c2] 30 ∧ Below w.heap.size w wr)) (fun n _ => countT t - (intOf n).toNat)
  case atStart => exact ⟨0, t, _, _, _, _, _, _, rfl, by omega, HI⟩
  case round =>
    obtain ⟨j, u, A1, l1, c1, A2, l2, c2, rfl, hju, HV⟩ := hrel
    clear HI
    obtain ⟨k, n, a, lv, kids⟩ := u
    obtain ⟨hu, k0, hb⟩ := HV.out
    have g0 := k0.cell
    have n0 := k0.lt
    simp only [Tm.kind, Tm.num, Tm.place] at g0 hu
    have hkl : l2 = kids.length := by
      obtain ⟨vl, vk, e, _, A, c, rfl, _⟩ := (RdT_mk ..).1 hu
      simp at e
      omega
    by_cases hk : k = 4
    · subst hk
      by_cases hl : kids.length = 2
      · rcases kids with _ | ⟨x, _ | ⟨y, _ | ⟨z, zs⟩⟩⟩ <;> simp at hl
        rw [countT_two, if_pos rfl] at hju
        obtain ⟨A1', l1', c1', b, o, c2', e, hc2, hbl, -, A5, l5, c5, A6, l6, c6, hy, ay⟩ := kids_two hu
        simp at e
        obtain ⟨⟨rfl, rfl, rfl⟩, rfl, rfl, rfl⟩ := e
        have e0 := ay 0 _ rfl
        have e1 := ay 1 _ rfl
        have e2 := ay 2 _ rfl
        have e3 := ay 3 _ rfl
        have e4 := ay 4 _ rfl
        simp only [Nat.add_zero, Nat.add_assoc, Nat.reduceAdd] at e0 e1 e2 e3 e4
        have hcw := (bcell hb).1
        have HY := Lib.hid hy
        have f0 := k0.frozen
        clear hu hkl hy ay k0 hb
        go_wp2
        clear e0 e1 e2 e3 e4 hcw g0 f0
        obtain ⟨-, k0, hb⟩ := HV.out
        go_roundw
        case rel => exact ⟨j + 1, y, A5, l5, c5, A6, l6, c6, by go_num, by omega, Lib.hid ⟨HY.out, put5_blk k0, put5_below hb (Nat.le_refl _)⟩⟩
        case measure => simp [intOf]; omega
      · have hz : countT (.mk 4 n a lv kids) = 0 := countT_not hl
        rw [hz] at hju
        have hl2 : (l2 : Int) ≠ 2 := by omega
        clear hu hkl k0 hb
        go_wp2
        go_ret
        exact ⟨by rw [hju]; rfl, HV.out.2.2⟩
    · have hz : countT (.mk k n a lv kids) = 0 := by
        by_cases hl : kids.length = 2
        · rcases kids with _ | ⟨x, _ | ⟨y, _ | ⟨z, zs⟩⟩⟩ <;> simp at hl
          rw [countT_two, if_neg hk]
        · exact countT_not hl
      rw [hz] at hju
      clear hu hkl k0 hb
      go_wp2
      go_ret
      exact ⟨by rw [hju]; rfl, HV.out.2.2⟩
end Go.Proofs.YtebgldnlkkhejaaDoor

/-! ## tele: Apps. -/
namespace Go.Proofs.YtebgldnlkkhejaaDoor
set_option linter.unusedSimpArgs false
set_option linter.unusedVariables false
open Go Go.RowKit Go.Proofs.YtebgldnlkkhejaaDoorW.PrintLast

/-- Two terms of one's own, joined under a node. -/
theorem ow_pair {w : World} {lo : Nat} {K : Int} {x y : Tm} {cx cy : List Value} {Fx Fy : List Nat} (hx : OwT w x cx Fx) (hy : OwT w y cy Fy) (hF : Fr lo w (Fx ++ Fy)) (hlo : lo ≤ w.heap.size) (lx : cx.length = 5) (ly : cy.length = 5) :
    OwT (w.alloc (.cells (cx ++ cy).toArray 30)) (.mk K 0 0 [] [x, y]) [.int .i64 K, .int .i64 0, .int .i64 0, .slice none 0 0, .slice (some ⟨w.heap.size, 0, none⟩) 2 2] (w.heap.size :: (Fx ++ Fy)) ∧
    Fr lo (w.alloc (.cells (cx ++ cy).toArray 30)) (w.heap.size :: (Fx ++ Fy)) := by
  have hS : Same (Fx ++ Fy) w (w.alloc (.cells (cx ++ cy).toArray 30)) := fun b hb => heap_alloc_old w _ (hF.2 b hb).2
  have hi : OwL (OwT (w.alloc (.cells (cx ++ cy).toArray 30))) 5 (cx ++ cy) [x, y] (Fx ++ Fy) := by
    have h1 := OwL.snoc (R := OwT (w.alloc (.cells (cx ++ cy).toArray 30))) (sz := 5) (OwT.mov _ _ _ _ _ hS.left hx) lx (xs := []) (inner := []) (F := []) ⟨rfl, rfl⟩
    have h2 := OwL.snoc (R := OwT (w.alloc (.cells (cx ++ cy).toArray 30))) (sz := 5) (OwT.mov _ _ _ _ _ hS.right hy) ly h1
    simpa using h2
  have hr := World.ownsRow_lit (base := 0) (e := 30) (size := 5) w (cx ++ cy).toArray 2 (Nat.zero_le _) (by decide) (by simp [lx, ly])
  refine ⟨(OwT_mk ..).2 ⟨_, _, [], w.heap.size :: (Fx ++ Fy), rfl, OwS.nil _ _ _ _, ⟨cx ++ cy, Fx ++ Fy, hr, hi, rfl⟩, rfl⟩, ?_, ?_⟩
  · rw [List.nodup_cons]
    exact ⟨fun hm => by have := (hF.2 _ hm).2; omega, hF.1⟩
  · intro b hb
    rw [World.size_alloc]
    rcases List.mem_cons.1 hb with rfl | hb
    · omega
    · have := hF.2 b hb; omega
/-- A term at arguments. -/
def appsT (f : Tm) (l : List Tm) : Tm := l.foldl (fun f a => .mk 6 0 0 [] [f, a]) f
theorem appsT_snoc (f : Tm) (l : List Tm) (a : Tm) : appsT f (l ++ [a]) = .mk 6 0 0 [] [appsT f l, a] := by simp [appsT]
/-- A term under construction, in a block of its own. -/
structure AInv (w : World) (t : Tm) (c0 c1 c2 c3 c4 : Value) (F : List Nat) (wr : World) : Prop where
  hb : Below w.heap.size w wr
  k0 : Blk wr w.heap.size #[c0, c1, c2, c3, c4] 30
  k1 : Blk wr (w.heap.size + 1) #[.int .i64 0, .int .i64 0, .int .i64 0, .slice none 0 0, .slice none 0 0] 30
  hO : OwT wr t [c0, c1, c2, c3, c4] F
  hF : Fr (w.heap.size + 2) wr F
theorem AInv.push {w wr w3 : World} {t x : Tm} {c0 c1 c2 c3 c4 : Value} {F Fx : List Nat} {cx : List Value} {K : Int}
    (h : AInv w t c0 c1 c2 c3 c4 F wr) (hb : Below wr.heap.size wr w3) (hx : OwT w3 x cx Fx) (hFx : Fr wr.heap.size w3 Fx) (lx : cx.length = 5) :
    AInv w (.mk K 0 0 [] [t, x]) (.int .i64 K) (.int .i64 0) (.int .i64 0) (.slice none 0 0) (.slice (some ⟨w3.heap.size, 0, none⟩) 2 2) (w3.heap.size :: (F ++ Fx))
      (put5 (w3.alloc (.cells ([c0, c1, c2, c3, c4] ++ cx).toArray 30)) w.heap.size (.int .i64 K) (.int .i64 0) (.int .i64 0) (.slice none 0 0) (.slice (some ⟨w3.heap.size, 0, none⟩) 2 2)) := by
  obtain ⟨hb', k0, k1, hO, hF⟩ := h
  have l1 := k1.lt
  have s1 := hb.size
  have hFF : Fr (w.heap.size + 2) w3 (F ++ Fx) := hF.append hFx s1 (by omega)
  obtain ⟨g1, g2⟩ := ow_pair (K := K) (OwT.mov _ _ _ _ _ (Same.of_below hF hb) hO) hx hFF (by omega) rfl lx
  have hbA : Below wr.heap.size wr (w3.alloc (.cells ([c0, c1, c2, c3, c4] ++ cx).toArray 30)) := hb.alloc s1 _
  refine ⟨put5_below (hb'.trans (hbA.mono hb'.size)) (Nat.le_refl _), put5_blk (k0.below hbA), ?_, OwT.mov _ _ _ _ _ (put5_same (fun b hb => by have := (g2.2 b hb).1; omega)) g1, g2.mono (Nat.le_refl _) (by rw [put5_size]; exact Nat.le_refl _)⟩
  exact (put5_at _ _ _ _ _ _ _ _ (by omega)).trans (k1.below hbA)

set_option maxRecDepth 100000 in
set_option maxHeartbeats 2000000 in
theorem Apps_any (f : Tm) (cs : List Value) (ts : List Tm) (vk : Value) (w : World) (hK : Kinds w) (hf : In w f cs) (h : Ins w vk ts) :
    Calls Tryd.prog 25 #[.agg cs.toArray, vk] w (OutT w (appsT (ownT f) (ts.map ownT))) := by
  obtain ⟨A1, l1, c1, A2, l2, c2, rfl⟩ := hf.rd.cells
  obtain ⟨A0, c0, rfl, hc0, hm0, hr⟩ := id h.rd
  obtain ⟨k0, k1, hb, hsz⟩ := blks2 w #[.int .i64 f.kind, .int .i64 f.num, .int .i64 f.place, .slice A1 l1 c1, .slice A2 l2 c2] #[.int .i64 0, .int .i64 0, .int .i64 0, .slice none 0 0, .slice none 0 0] 30 30
  have HIN := Lib.hid (fun (i : Nat) (hi : i < ts.length) (W : World) (hb : Below w.heap.size w W) (cs : List Value) (hcs : RdT w ts[i] cs) => ownT_any ts[i] cs W (hK.below hb) ⟨RdT.below (keeps_of hb) _ _ hcs, (h.ok _ (List.getElem_mem hi)).1, (h.ok _ (List.getElem_mem hi)).2⟩)
  have HC := Lib.hid (ownT_any f _ _ (hK.below hb) (hf.keeps (keeps_of hb)))
  have HR := Lib.hid hr
  have HL := Lib.hid h.len
  have H := Lib.hid (And.intro k0 (And.intro k1 (And.intro hb hsz)))
  have hkl : (ts.length : Int) ≤ 9223372036854775807 := by have := h.len; omega
  clear k0 k1 hb hsz hK h hf hc0 hm0 hr
  go_enter Tryd.func25, Tryd.ntmps25
  go_wp2_with fail
  refine HC.out.mono ?_
  rintro e w1 ⟨cs', F, rfl, hO, hF, hb1⟩
  obtain ⟨A3, l3, c3, A4, l4, c4, rfl⟩ := hO.cells
  obtain ⟨k0, k1, hb, hsz⟩ := H.out
  rw [hsz] at hF
  have k0 := k0.below hb1
  have k1 := k1.below hb1
  have c0' := k0.cell
  have f0' := k0.frozen
  have hsz1 := k1.lt
  have HI := Lib.hid (show AInv w (appsT (ownT f) []) _ _ _ _ _ F (put5 w1 w.heap.size (.int .i64 (ownT f).kind) (.int .i64 (ownT f).num) (.int .i64 (ownT f).place) (.slice A3 l3 c3) (.slice A4 l4 c4)) from
    ⟨put5_below (hb.trans (hb1.mono hb.size)) (Nat.le_refl _), put5_blk k0, (put5_at _ _ _ _ _ _ _ _ (by omega)).trans k1, OwT.mov _ _ _ _ _ (put5_same (fun b hb => by have := (hF.2 b hb).1; omega)) hO, hF.mono (Nat.le_refl _) (by rw [put5_size]; exact Nat.le_refl _)⟩)
  clear k0 k1 hb hsz hO hF hb1 hsz1 H HC
  go_wp2_with fail
  clear c0' f0'
  go_loopw [11] (fun i wr => ∃ j : Nat, j ≤ ts.length ∧ i = .int .i64 j ∧ Hid (∃ (k n a : Int) (A1 : Option Addr) (l1 c1 : Nat) (A2 : Option Addr) (l2 c2 : Nat) (F : List Nat), AInv w (appsT (ownT f) ((ts.take j).map ownT)) (.int .i64 k) (.int .i64 n) (.int .i64 a) (.slice A1 l1 c1) (.slice A2 l2 c2) F wr)) (fun i _ => ts.length - (intOf i).toNat)
  case atStart => exact ⟨0, by omega, rfl, Lib.hid ⟨_, _, _, _, _, _, _, _, _, _, HI.out⟩⟩
  case round =>
    obtain ⟨j, hj, rfl, HV0⟩ := hrel
    obtain ⟨k, n, a, A1, l1, c1, A2, l2, c2, F, hv0⟩ := HV0.out
    have HV := Lib.hid hv0
    clear HI HV0 hv0
    by_cases hlt : j < ts.length
    · rcases HR.out with rfl | ⟨b, o, rfl, hkr⟩
      · simp at hlt
      obtain ⟨q0, q1, q2, A5, l5, c5, A6, l6, c6, hTk, e0, e1, e2, e3, e4, hbl⟩ := RdT_at hkr j hlt
      have hv := HV.out
      have hcw := (bcell hv.hb).1
      have HTk := Lib.hid hTk
      have hj0 : (0 : Int) ≤ (j : Int) := Int.natCast_nonneg _
      have hj1 : (j : Int) < (ts.length : Int) := by omega
      clear hkr hTk hv
      go_wp2_with fail
      clear e0 e1 e2 e3 e4 hcw
      have hv := HV.out
      obtain ⟨kA, hbA, hsA⟩ := blks1 wr #[.int .i64 q0, .int .i64 q1, .int .i64 q2, .slice A5 l5 c5, .slice A6 l6 c6] 30
      generalize wr.alloc (.cells #[.int .i64 q0, .int .i64 q1, .int .i64 q2, .slice A5 l5 c5, .slice A6 l6 c6] 30) = wA at *
      have g0 := (hv.k0.below hbA).cell
      have gA := kA.cell
      have n0 : w.heap.size < wA.heap.size := (hv.k0.below hbA).lt
      have nA : wr.heap.size < wA.heap.size := kA.lt
      have HW := Lib.hid (hv.hb.trans (hbA.mono hv.hb.size))
      have HA := Lib.hid hbA
      clear hv kA hbA hsA
      refine start_ (n := 6) (S := fun W' => ∀ b o, b < wA.heap.size → W'.cell? ⟨b, o, none⟩ = wA.cell? ⟨b, o, none⟩) (ds := [5]) #[false, false, false, false, false, false] (by kernel_rfl) rfl rfl (by exact (fun _ _ _ => rfl)) (fun hHeld => ?_)
      refine take_ (i := 0) (N := some 15) (v := ?_) (a' := ?_) #[true, false, false, false, false, false] rfl rfl (by kernel_rfl) (fun _ _ _ h => h) (Or.inl ⟨by rfl, ?_⟩) hHeld ?_ ?_
      rotate_left
      · rintro w' hS'
        go_simp
        with_reducible rfl
      rotate_left
      · simp only [Act.put, List.setIfInBounds_toArray, List.set_cons_zero, List.set_cons_succ]
        rfl
      refine take_ (i := 1) (N := some 16) (v := ?_) (a' := ?_) #[true, true, false, false, false, false] rfl rfl (by kernel_rfl) (fun _ _ _ h => h) (Or.inl ⟨by rfl, ?_⟩) hHeld ?_ ?_
      rotate_left
      · rintro w' hS'
        go_simp
        with_reducible rfl
      rotate_left
      · simp only [Act.put, List.setIfInBounds_toArray, List.set_cons_zero, List.set_cons_succ]
        rfl
      refine one_ (i := 2) (N := some 17) #[true, true, true, false, false, false] rfl rfl (by kernel_rfl) (by decide) (fun K hK => ?_)
      go_simp
      refine (HIN.out j hlt _ (HW.out.drew) _ HTk.out).mono ?_
      rintro e w3 ⟨cs', Fx, rfl, hx, hFx, hb3⟩
      obtain ⟨A7, l7, c7, A8, l8, c8, rfl⟩ := hx.cells
      have HX := Lib.hid (And.intro hx (And.intro (show Fr wA.heap.size w3 Fx from hFx) (undrew hb3)))
      clear hx hFx hb3
      refine hK.out _ _ (keeps_of HX.out.2.2) (fun hHeld => ?_)
      clear hK K
      refine norm_ (a' := ?_) ?_ ?_
      rotate_left
      · first
          | rfl
          | (simp only [Act.put, List.setIfInBounds_toArray, List.set_cons_zero, List.set_cons_succ]; rfl)
      refine one_ (i := 3) (N := some 18) #[true, true, true, true, false, false] rfl rfl (by kernel_rfl) (by decide) (fun K hK => ?_)
      go_simp
      refine hK.out _ _ (Keeps.trans (keeps_of HX.out.2.2) HX.out.2.2.size (keeps_of ((Below.refl _ _).alloc (Nat.le_refl _) _))) (fun hHeld => ?_)
      clear hK K
      refine norm_ (a' := ?_) ?_ ?_
      rotate_left
      · first
          | rfl
          | (simp only [Act.put, List.setIfInBounds_toArray, List.set_cons_zero, List.set_cons_succ]; rfl)
      refine pure_ (i := 4) (N := some 19) (v := ?_) (a' := ?_) #[true, true, true, true, true, false] rfl rfl (by kernel_rfl) (fun _ _ _ h => h) (Or.inl ⟨by rfl, ?_⟩) ?_ ?_
      rotate_left
      · rintro w'
        go_simp
        with_reducible rfl
      rotate_left
      · simp only [Act.put, List.setIfInBounds_toArray, List.set_cons_zero, List.set_cons_succ]
        rfl
      refine last_ (i := 5) (N := none) #[true, true, true, true, true, true] rfl rfl (by kernel_rfl) (by decide) (fun K hK => ?_)
      have hv := HV.out
      have hb33 : Below wr.heap.size wr w3 := HA.out.trans (HX.out.2.2.mono HA.out.size)
      have k35 := hv.k0.below (hb33.alloc hb33.size (.cells #[.int .i64 k, .int .i64 n, .int .i64 a, .slice A1 l1 c1, .slice A2 l2 c2, .int .i64 (ownT ts[j]).kind, .int .i64 (ownT ts[j]).num, .int .i64 (ownT ts[j]).place, .slice A7 l7 c7, .slice A8 l8 c8] 30))
      have c35 := k35.cell
      have f35 := k35.frozen
      clear k35 hv hb33
      go_simp
      refine hK.out _ _ ?_
      clear hK K
      refine norm_ (a' := ?_) ?_ ?_
      rotate_left
      · first
          | rfl
          | (simp only [Act.put, List.setIfInBounds_toArray, List.set_cons_zero, List.set_cons_succ]; rfl)
      refine done_ (by kernel_rfl) ?_
      clear c35 f35 g0 gA
      go_wp2
      go_roundw
      case rel =>
        have hv := HV.out
        have hb33 : Below wr.heap.size wr w3 := HA.out.trans (HX.out.2.2.mono HA.out.size)
        have hw := hv.push (K := 6) hb33 HX.out.1 (HX.out.2.1.mono HA.out.size (Nat.le_refl _)) rfl
        rw [← appsT_snoc, ← map_take ownT ts j hlt] at hw
        exact ⟨j + 1, by omega, by go_num, Lib.hid ⟨_, _, _, _, _, _, _, _, _, _, hw⟩⟩
      case measure => simp [intOf]; omega
    · have hv := HV.out
      have g0 := hv.k0.cell
      have n0 := hv.k0.lt
      have g1 := hv.k1.cell
      have f1 := hv.k1.frozen
      have n1 := hv.k1.lt
      clear hv
      go_wp2
      have hjk : j = ts.length := by omega
      subst hjk
      have hv := HV.out
      have hO := hv.hO
      rw [List.take_length] at hO
      exact term_end Tryd.results25 rfl hv.k1 hO hv.hF (by omega) (fun b hb => by have := (hv.hF.2 b hb).1; omega) hv.hb (by omega) rfl
end Go.Proofs.YtebgldnlkkhejaaDoor

/-! ## slices.Backward over terms: what it hands to its rounds. -/
namespace Go.Proofs.YtebgldnlkkhejaaDoor
set_option linter.unusedSimpArgs false
set_option linter.unusedVariables false
open Go Go.RowKit Go.Shelf Go.Proofs.YtebgldnlkkhejaaDoorW.PrintLast

attribute [local go_sem] Oper.semAt_some
/-- A term's five cells. -/
structure E5 where
  k : Int
  n : Int
  a : Int
  A1 : Option Addr
  l1 : Nat
  c1 : Nat
  A2 : Option Addr
  l2 : Nat
  c2 : Nat
abbrev E5.cells (e : E5) : List Value := [.int .i64 e.k, .int .i64 e.n, .int .i64 e.a, .slice e.A1 e.l1 e.c1, .slice e.A2 e.l2 e.c2]
/-- The last one first, with its place. -/
def backL (es : List E5) (k : Nat) : List (Nat × E5) := (es.zipIdx.map (fun p => (p.2, p.1))).reverse.take k
theorem backL_length (es : List E5) {k : Nat} (hk : k ≤ es.length) : (backL es k).length = k := by simp [backL, hk]
theorem backL_succ (es : List E5) {k : Nat} (hk : k < es.length) : backL es (k + 1) = backL es k ++ [(es.length - 1 - k, es[es.length - 1 - k])] := by
  unfold backL
  rw [List.take_succ_eq_append_getElem (by simpa using hk), List.getElem_reverse, List.getElem_map, List.getElem_zipIdx]
  simp
/-- What a slice value holds. -/
def Holds5 (W : World) (sv : Value) (es : List E5) : Prop := ∃ A c, sv = .slice A es.length c ∧ es.length ≤ c ∧ (es = [] ∨ ∃ b o, A = some ⟨b, o, none⟩ ∧ b < W.heap.size ∧ ∀ j, (h : j < es.length) → AtP W b (o + j * 5) es[j].cells)

/-- What a round keeps: what lay below, and one block more (the iterator's own variable). -/
def BelowX (n₀ B : Nat) (W W' : World) : Prop := Below n₀ W W' ∧ W'.heap[B]? = W.heap[B]?
theorem BelowX.refl (n₀ B : Nat) (W : World) : BelowX n₀ B W W := ⟨Below.refl _ _, rfl⟩
theorem BelowX.trans {n₀ B : Nat} {X Y Z : World} (h : BelowX n₀ B X Y) (k : BelowX n₀ B Y Z) : BelowX n₀ B X Z := ⟨h.1.trans k.1, k.2.trans h.2⟩
theorem belowX_b {n₀ B : Nat} {w : World} (hn : n₀ ≤ w.heap.size) (hB : B < w.heap.size) (W : World) (l : Nat) (o o' : Obj) (hl : w.heap.size ≤ l) (h : W.heap[l]? = some o) (hc : o.isCells = false) (hw : o.isWalk = false) : BelowX n₀ B W (W.putObj l o') :=
  ⟨belowK_b hn W l o o' hl h hc hw, (grownBy_putObj' W l o').block B (by have := (Array.getElem?_eq_some_iff.1 h).1; omega) (fun e => by cases e; omega)⟩
theorem keptX {W W' : World} {B : Nat} {v : Value} {T : TypeId} (h : W'.heap[B]? = W.heap[B]?) (hB : Blk W B #[v] T) : W'.cell? ⟨B, 0, none⟩ = some v := (Blk.cell (show Blk W' B #[v] T from h.trans hB) 0).trans rfl

set_option maxRecDepth 100000 in
set_option maxHeartbeats 2000000 in
theorem back1_in (F : Fence) (n : Nat) (h7 : F.fn 112) (hro : F.round = none) (hn : 1 ≤ n) (l Bs n₀ c : Nat) (A : Option Addr) (es : List E5) (hreach : es.length ≤ 1099511627776) (hc : es.length ≤ c) (J Jx : List (Nat × E5) → World → Prop)
    (hY : ∀ pre x W, J pre W → pre.length < es.length → YieldAt F (n - 1) Tryd.prog l #[.int .i64 ((x.1 : Nat) : Int), .agg x.2.cells.toArray] W fun e W' =>
      (e = .returned (.bool true) ∧ J (pre ++ [x]) W' ∧ BelowX n₀ Bs W W') ∨ (e = .returned (.bool false) ∧ Jx (pre ++ [x]) W'))
    (W : World) (hBs : Blk W Bs #[.slice A es.length c] 28) (hA : es = [] ∨ ∃ b o, A = some ⟨b, o, none⟩ ∧ b < n₀ ∧ ∀ j, (h : j < es.length) → AtP W b (o + j * 5) es[j].cells) (h0 : J [] W) :
    CallsIn F n Tryd.prog 112 #[.func (.yield l) #[] #[], .pointer (some ⟨Bs, 0, none⟩)] W fun e W' => (∃ v, e = .returned v) ∧
      ((∃ ys, ys = backL es es.length ∧ J ys W') ∨ (∃ pre, (∃ k, k ≤ es.length ∧ pre = backL es k) ∧ Jx pre W')) := by
  refine callsIn_of_wp Tryd.func112 rfl h7 ?_ hro
  simp only [Tryd.ntmps112, List.size_toArray, List.length_cons, List.length_nil, Nat.reduceAdd, Nat.reduceSub, Array.replicate_succ, Array.replicate_zero, List.push_toArray, List.append_toArray, List.nil_append, List.cons_append]
  have hw0 : wrap64 ((es.length : Int) - 1) = (es.length : Int) - 1 := by unfold wrap64; omega
  have hBs0 := keptX rfl hBs
  gi_wp2
  clear hBs0
  gi_loopw [3] (fun i wr => ∃ k : Nat, k ≤ es.length ∧ i = .int .i64 ((es.length : Int) - 1 - k) ∧ J (backL es k) wr ∧ BelowX n₀ Bs W wr)
    (fun i _ => (intOf i + 1).toNat)
  case atStart => exact ⟨0, Nat.zero_le _, by simp, by simpa [backL] using h0, BelowX.refl _ _ _⟩
  case round =>
    obtain ⟨k, hk, rfl, hJs, hnx⟩ := hrel
    have hBs' := keptX hnx.2 hBs
    by_cases hlt : k < es.length
    · rcases hA with rfl | ⟨b, o, rfl, hb, hcs⟩
      · simp at hlt
      obtain ⟨x, hx⟩ : ∃ x, x = es[es.length - 1 - k] := ⟨_, rfl⟩
      obtain ⟨fn, tmps, assign, body, hy, hR⟩ := hY _ (es.length - 1 - k, x) wr hJs (by rw [backL_length _ hk]; exact hlt)
      dsimp only at hy
      have hat := hcs (es.length - 1 - k) (by omega)
      rw [← hx] at hat
      have e0 := (hnx.1.cell (p := ⟨b, _, none⟩) hb).trans (hat 0 _ rfl)
      have e1 := (hnx.1.cell (p := ⟨b, _, none⟩) hb).trans (hat 1 _ rfl)
      have e2 := (hnx.1.cell (p := ⟨b, _, none⟩) hb).trans (hat 2 _ rfl)
      have e3 := (hnx.1.cell (p := ⟨b, _, none⟩) hb).trans (hat 3 _ rfl)
      have e4 := (hnx.1.cell (p := ⟨b, _, none⟩) hb).trans (hat 4 _ rfl)
      obtain ⟨q, hq⟩ : ∃ q : Nat, q = es.length - 1 - k := ⟨_, rfl⟩
      have hqi : (es.length : Int) - 1 - k = (q : Int) := by omega
      have hql : q < es.length := by omega
      rw [← hq] at e0 e1 e2 e3 e4 hy
      rw [hqi]
      have hq0 : (0 : Int) ≤ (q : Int) := Int.natCast_nonneg _
      have hq1 : (q : Int) < (es.length : Int) := by omega
      simp only [Nat.add_zero] at e0
      have HQ := Lib.hid (And.intro hq hx)
      dsimp only [E5.cells] at hy
      clear hat hq hqi hcs hx
      gi_wp2
      refine hR.mono ?_
      rintro e W3 (⟨rfl, hJ3, hk3⟩ | ⟨rfl, hJx3⟩)
      · gi_wp2
        go_roundw
        case rel => have hq := HQ.out.1; exact ⟨k + 1, by omega, by go_num, by rw [backL_succ _ hlt, ← HQ.out.2]; exact hJ3, hnx.trans hk3⟩
        case measure => have hq := HQ.out.1; simp [intOf] <;> omega
      · gi_wp2
        refine bodyPost_ret (results_none rfl _ _ _) rfl ?_
        exact ⟨⟨_, rfl⟩, .inr ⟨_, ⟨k + 1, by omega, by rw [backL_succ _ hlt, ← HQ.out.2]⟩, hJx3⟩⟩
    · obtain rfl : k = es.length := by omega
      gi_wp2
      go_end0
      exact ⟨⟨_, rfl⟩, .inl ⟨_, rfl, hJs⟩⟩
end Go.Proofs.YtebgldnlkkhejaaDoor

/-! ## tele: above (a range over slices.Backward). -/
namespace Go.Proofs.YtebgldnlkkhejaaDoor
set_option linter.unusedSimpArgs false
set_option linter.unusedVariables false
open Go Go.RowKit Go.Shelf Go.Proofs.YtebgldnlkkhejaaDoorW.PrintLast

attribute [local go_sem] Oper.semAt_some
set_option maxHeartbeats 1000000 in
theorem Backward_in (F : Fence) (n : Nat) (h5 : F.fn 88) (hro : F.round = none) (A : Option Addr) (len c : Nat) (w : World) :
    CallsIn F n Tryd.prog 88 #[.slice A len c] w fun e w' => e = .returned (.func (.func 112) #[] #[.pointer (some ⟨w.heap.size, 0, none⟩)]) ∧ w' = w.alloc (.cells #[.slice A len c] 28) := by
  refine callsIn_of_wp Tryd.func88 rfl h5 ?_ hro
  simp only [Tryd.ntmps88, List.size_toArray, List.length_cons, List.length_nil, Nat.reduceAdd, Nat.reduceSub, Array.replicate_succ, Array.replicate_zero, List.push_toArray, List.append_toArray, List.nil_append, List.cons_append]
  gi_wp2
  go_ret
  exact ⟨rfl, rfl⟩
/-- .. as a contract of an iterator. -/
theorem back_stops (F : Fence) (n : Nat) (h7 : F.fn 112) (hro : F.round = none) (hn : 1 ≤ n) (Bs n₀ c : Nat) (A : Option Addr) (es : List E5) (hreach : es.length ≤ 1099511627776) (hc : es.length ≤ c) (w : World) (hBs : Bs < w.heap.size) (hn₀ : n₀ ≤ w.heap.size)
    (hB : Blk w Bs #[.slice A es.length c] 28) (hA : es = [] ∨ ∃ b o, A = some ⟨b, o, none⟩ ∧ b < n₀ ∧ ∀ j, (h : j < es.length) → AtP w b (o + j * 5) es[j].cells) :
    SeqStopsK F n Tryd.prog 112 #[.pointer (some ⟨Bs, 0, none⟩)] (fun x : Nat × E5 => #[Value.int .i64 ((x.1 : Nat) : Int), .agg x.2.cells.toArray]) (BelowX n₀ Bs) (fun ys => ys = backL es es.length) (fun pre => ∃ k, k ≤ es.length ∧ pre = backL es k) es.length w := fun l J Jx W hW _ _ hY h0 =>
  back1_in F n h7 hro hn l Bs n₀ c A es hreach hc J Jx hY W ((hW.block Bs hBs).trans hB) (hA.imp id (fun ⟨b, o, h1, h2, h3⟩ => ⟨b, o, h1, h2, fun j hj => (h3 j hj).below (keeps_of hW)⟩)) h0

/-- Nodes laid one above the other, each with two kids: what came, and what lay so far. -/
inductive Stk (W : World) (K : Int) (B0 : Nat) (b : E5) : List (Nat × E5) → E5 → List Nat → Prop
  | nil : Stk W K B0 b [] b []
  | snoc {pre : List (Nat × E5)} {r : E5} {F : List Nat} (x : Nat × E5) (B : Nat) : Stk W K B0 b pre r F → B0 ≤ B → (∀ q ∈ F, q < B) → Blk W B (x.2.cells ++ r.cells).toArray 30 →
      Stk W K B0 b (pre ++ [x]) ⟨K, 0, 0, none, 0, 0, some ⟨B, 0, none⟩, 2, 2⟩ (B :: F)
theorem Stk.move {W W' : World} {K : Int} {B0 : Nat} {b : E5} {pre : List (Nat × E5)} {r : E5} {F : List Nat} (h : Stk W K B0 b pre r F) : Same F W W' → Stk W' K B0 b pre r F := by
  induction h with
  | nil => exact fun _ => .nil
  | snoc x B h h1 h2 h3 ih => exact fun hs => .snoc x B (ih (fun q hq => hs q (List.mem_cons_of_mem _ hq))) h1 h2 ((hs B (List.mem_cons_self ..)).trans h3)
theorem Stk.lo {W : World} {K : Int} {B0 : Nat} {b : E5} {pre : List (Nat × E5)} {r : E5} {F : List Nat} (h : Stk W K B0 b pre r F) : ∀ q ∈ F, B0 ≤ q ∧ ∃ cs, Blk W q cs 30 := by
  induction h with
  | nil => exact fun _ hq => by simp at hq
  | snoc x B h h1 h2 h3 ih =>
    intro q hq
    rcases List.mem_cons.1 hq with rfl | hq
    · exact ⟨h1, _, h3⟩
    · exact ih q hq
/-- What a round may turn (blocks that are no cells) is none of it. -/
theorem Blk.own {X Y : World} {B : Nat} {cs : Array Value} {T : TypeId} {row : Option Nat} (h : Blk X B cs T) (hg : X.grownBy Y row) (hr : ∀ r, row = some r → ∃ o : Obj, X.heap[r]? = some o ∧ o.isCells = false) : Blk Y B cs T :=
  (hg.block B h.lt (fun e => by obtain ⟨o, ho, hc⟩ := hr B e.symm; rw [show X.heap[B]? = _ from h] at ho; cases ho; cases hc)).trans h
theorem Stk.own {X Y : World} {K : Int} {B0 : Nat} {b : E5} {pre : List (Nat × E5)} {r : E5} {F : List Nat} {row : Option Nat} (h : Stk X K B0 b pre r F) (hg : X.grownBy Y row) (hr : ∀ r, row = some r → ∃ o : Obj, X.heap[r]? = some o ∧ o.isCells = false) : Stk Y K B0 b pre r F :=
  h.move (fun q hq => by obtain ⟨_, cs, hb⟩ := h.lo q hq; exact (hb.own hg hr).trans hb.symm)
/-- What above's variables hold between two rounds. -/
structure UpInv (w : World) (K : Int) (b : E5) (pre : List (Nat × E5)) (W : World) : Prop where
  hb : Below w.heap.size w W
  kK : Blk W (w.heap.size + 1) #[.int .i64 K] 26
  kR : Blk W (w.heap.size + 1 + 1 + 1) #[.int .i64 0, .int .i64 0, .int .i64 0, .slice none 0 0, .slice none 0 0] 30
  st : ∃ r F, Blk W (w.heap.size + 1 + 1) r.cells.toArray 30 ∧ Stk W K (w.heap.size + 5) b pre r F
  sz : w.heap.size + 5 ≤ W.heap.size
theorem UpInv.own {w : World} {K : Int} {b : E5} : OwnFrom (w.heap.size + 5) (UpInv w K b) := by
  rintro pre X Y row ⟨hb, kK, kR, ⟨r, F, h1, h2⟩, sz⟩ hg hr
  have hr' : ∀ r, row = some r → ∃ o : Obj, X.heap[r]? = some o ∧ o.isCells = false := fun r e => (hr r e).2
  exact ⟨hb.grown hg (by omega) (fun k e => by have := (hr k e).1; omega), kK.own hg hr', kR.own hg hr', ⟨r, F, h1.own hg hr', h2.own hg hr'⟩, Nat.le_trans sz hg.size⟩

/-- .. and what a round makes of them. -/
theorem UpInv.push {w W : World} {K : Int} {b r x : E5} {i : Nat} {pre : List (Nat × E5)} {F : List Nat} (h : UpInv w K b pre W) (h1 : Blk W (w.heap.size + 1 + 1) r.cells.toArray 30) (h2 : Stk W K (w.heap.size + 5) b pre r F) (B : Nat) :
    KeepsFrom B W ((put5 W (w.heap.size + 1 + 1) (.int .i64 K) (.int .i64 0) (.int .i64 0) (.slice none 0 0) (.slice (some ⟨W.heap.size, 0, none⟩) 2 2)).alloc (.cells (x.cells ++ r.cells).toArray 30)) ∧
    BelowX w.heap.size (w.heap.size + 1 + 1 + 1 + 1) W ((put5 W (w.heap.size + 1 + 1) (.int .i64 K) (.int .i64 0) (.int .i64 0) (.slice none 0 0) (.slice (some ⟨W.heap.size, 0, none⟩) 2 2)).alloc (.cells (x.cells ++ r.cells).toArray 30)) ∧
    UpInv w K b (pre ++ [(i, x)]) ((put5 W (w.heap.size + 1 + 1) (.int .i64 K) (.int .i64 0) (.int .i64 0) (.slice none 0 0) (.slice (some ⟨W.heap.size, 0, none⟩) 2 2)).alloc (.cells (x.cells ++ r.cells).toArray 30)) := by
  obtain ⟨hb, kK, kR, -, sz⟩ := h
  have hbs := hb.size
  have hsz := put5_size W (w.heap.size + 1 + 1) (.int .i64 K) (.int .i64 0) (.int .i64 0) (.slice none 0 0) (.slice (some ⟨W.heap.size, 0, none⟩) 2 2)
  have hat := put5_at W (w.heap.size + 1 + 1) (.int .i64 K) (.int .i64 0) (.int .i64 0) (.slice none 0 0) (.slice (some ⟨W.heap.size, 0, none⟩) 2 2)
  have h5 := put5_blk (c0 := .int .i64 K) (c1 := .int .i64 0) (c2 := .int .i64 0) (c3 := .slice none 0 0) (c4 := .slice (some ⟨W.heap.size, 0, none⟩) 2 2) h1
  have hbe : Below w.heap.size W (put5 W (w.heap.size + 1 + 1) (.int .i64 K) (.int .i64 0) (.int .i64 0) (.slice none 0 0) (.slice (some ⟨W.heap.size, 0, none⟩) 2 2)) := put5_below (Below.refl _ _) (by omega)
  have hko : KeepsOthers W (put5 W (w.heap.size + 1 + 1) (.int .i64 K) (.int .i64 0) (.int .i64 0) (.slice none 0 0) (.slice (some ⟨W.heap.size, 0, none⟩) 2 2)) := ((((KeepsOthers.setCell _ _ _).trans (KeepsOthers.setCell _ _ _)).trans (KeepsOthers.setCell _ _ _)).trans (KeepsOthers.setCell _ _ _)).trans (KeepsOthers.setCell _ _ _)
  generalize put5 W (w.heap.size + 1 + 1) (.int .i64 K) (.int .i64 0) (.int .i64 0) (.slice none 0 0) (.slice (some ⟨W.heap.size, 0, none⟩) 2 2) = X at *
  have hA : Below X.heap.size X (X.alloc (.cells (x.cells ++ r.cells).toArray 30)) := (Below.refl _ _).alloc (Nat.le_refl _) _
  have hkeep : ∀ q, q < W.heap.size → q ≠ w.heap.size + 1 + 1 → (X.alloc (.cells (x.cells ++ r.cells).toArray 30)).heap[q]? = W.heap[q]? := fun q hq hne => (hA.block q (by omega)).trans (hat q hne)
  have hlo := h2.lo
  refine ⟨(hko.trans (KeepsOthers.alloc _ _)).from _, ⟨hbe.trans (hA.mono (by omega)), hkeep _ (by omega) (by omega)⟩, ⟨(hb.trans hbe).trans (hA.mono (by omega)), (hkeep _ (by omega) (by omega)).trans kK, (hkeep _ (by omega) (by omega)).trans kR, ⟨⟨K, 0, 0, none, 0, 0, some ⟨W.heap.size, 0, none⟩, 2, 2⟩, W.heap.size :: F, h5.below hA, ?_⟩, by have := hA.size; omega⟩⟩
  refine Stk.snoc (i, x) W.heap.size (h2.move (fun q hq => ?_)) sz (fun q hq => ?_) ?_
  · obtain ⟨h3, cs, h4⟩ := hlo q hq
    exact hkeep q h4.lt (by omega)
  · obtain ⟨h3, cs, h4⟩ := hlo q hq
    exact h4.lt
  · have := Blk.new X (x.cells ++ r.cells).toArray 30
    rw [hsz] at this
    exact this

set_option maxRecDepth 100000 in
set_option maxHeartbeats 4000000 in
theorem above_any (A : Option Addr) (c : Nat) (es : List E5) (K : Int) (b : E5) (w : World) (hreach : es.length ≤ 1099511627776) (hc : es.length ≤ c)
    (hA : es = [] ∨ ∃ b o, A = some ⟨b, o, none⟩ ∧ b < w.heap.size ∧ ∀ j, (h : j < es.length) → AtP w b (o + j * 5) es[j].cells) :
    Calls Tryd.prog 53 #[.agg #[.slice A es.length c], .int .i64 K, .agg b.cells.toArray] w (fun e w' => ∃ r F, e = .returned (.agg r.cells.toArray) ∧ Stk w' K (w.heap.size + 5) b (backL es es.length) r F ∧ Below w.heap.size w w') := by
  refine (callsIn_wide (n := 4)).1 ?_
  have hro : Fence.wide.round = none := rfl
  refine callsIn_of_wp_marks Tryd.func53 rfl trivial ?_ hro
  simp only [Tryd.ntmps53, List.size_toArray, List.length_cons, List.length_nil, Nat.reduceAdd, Nat.reduceSub, Array.replicate_succ, Array.replicate_zero, List.push_toArray, List.append_toArray, List.nil_append, List.cons_append]
  obtain ⟨kn, nn, an, A1, l1, c1, A2, l2, c2⟩ := b
  dsimp only [E5.cells]
  gi_wp2_with fail
  refine ⟨trivial, (Backward_in Fence.wide _ trivial hro _ _ _ _).mono ?_⟩
  rintro e w' ⟨rfl, rfl⟩
  obtain ⟨k0, k1, k2, k3, hb, hsz⟩ := blks4 w #[.slice A es.length c] #[.int .i64 K] #[.int .i64 kn, .int .i64 nn, .int .i64 an, .slice A1 l1 c1, .slice A2 l2 c2] #[.int .i64 0, .int .i64 0, .int .i64 0, .slice none 0 0, .slice none 0 0] 80 26 30 30
  obtain ⟨k4, hb4, hs4⟩ := blks1 ((((w.alloc (.cells #[.slice A es.length c] 80)).alloc (.cells #[.int .i64 K] 26)).alloc (.cells #[.int .i64 kn, .int .i64 nn, .int .i64 an, .slice A1 l1 c1, .slice A2 l2 c2] 30)).alloc (.cells #[.int .i64 0, .int .i64 0, .int .i64 0, .slice none 0 0, .slice none 0 0] 30)) #[.slice A es.length c] 28
  rw [hsz] at hs4 k4
  replace k1 := k1.below hb4
  replace k2 := k2.below hb4
  replace k3 := k3.below hb4
  have hbw := hb.trans (hb4.mono (by omega))
  clear k0 hb hb4
  gi_wp2_with fail
  obtain ⟨W0, hW0⟩ : ∃ W0, (((((w.alloc (.cells #[.slice A es.length c] 80)).alloc (.cells #[.int .i64 K] 26)).alloc (.cells #[.int .i64 kn, .int .i64 nn, .int .i64 an, .slice A1 l1 c1, .slice A2 l2 c2] 30)).alloc (.cells #[.int .i64 0, .int .i64 0, .int .i64 0, .slice none 0 0, .slice none 0 0] 30)).alloc (.cells #[.slice A es.length c] 28)) = W0 := ⟨_, rfl⟩
  rw [hW0] at k1 k2 k3 k4 hs4 hbw ⊢
  clear hW0 hsz
  have hs5 : W0.heap.size = w.heap.size + 5 := by omega
  have hI0 : UpInv w K ⟨kn, nn, an, A1, l1, c1, A2, l2, c2⟩ [] W0 := ⟨hbw, k1, k3, ⟨_, [], k2, .nil⟩, by omega⟩
  refine wpIn_rangeFunc_ownH hro (by omega) (gf := 112) (lb := #[.pointer (some ⟨w.heap.size + 1 + 1 + 1 + 1, 0, none⟩)]) rfl trivial (enters_of Tryd.func112 (by kernel_rfl) rfl)
    (back_stops Fence.wide (4 - 1) trivial hro (by omega) (w.heap.size + 1 + 1 + 1 + 1) w.heap.size c A es hreach hc W0 (by omega) (by omega) k4 (hA.imp id (fun ⟨b, o, h1, h2, h3⟩ => ⟨b, o, h1, h2, fun j hj => (h3 j hj).below (keeps_of hbw)⟩)))
    BelowX.trans (belowX_b (by omega) (by omega)) (Below.refl _ _) (fun _ => rfl)
    (UpInv w K ⟨kn, nn, an, A1, l1, c1, A2, l2, c2⟩)
    (fun _ _ _ => False)
    (by rw [hs5]; exact UpInv.own)
    (fun _ _ _ _ _ hs _ _ => hs)
    hI0
    (fun x a' W => ∃ Bx, w.heap.size + 5 ≤ Bx ∧ Blk W Bx x.2.cells.toArray 30 ∧ a' = { tmps := #[.agg #[.slice A es.length c], .int .i64 K, .agg #[.int .i64 kn, .int .i64 nn, .int .i64 an, .slice A1 l1 c1, .slice A2 l2 c2], .pointer (some ⟨w.heap.size, 0, none⟩), .pointer (some ⟨w.heap.size + 1, 0, none⟩), .pointer (some ⟨w.heap.size + 1 + 1, 0, none⟩), .pointer (some ⟨w.heap.size + 1 + 1 + 1, 0, none⟩), undef, .pointer (some ⟨Bx, 0, none⟩), .pointer (some ⟨w.heap.size, 0, none⟩), .slice A es.length c, .func (.func 112) #[] #[.pointer (some ⟨w.heap.size + 1 + 1 + 1 + 1, 0, none⟩)], .int .i64 (x.1 : Int), .agg x.2.cells.toArray, undef, undef, undef, undef, undef, undef], defers := [] })
    (fun x a' _ X Y row hs hg hr => by obtain ⟨Bx, h1, h2, h3⟩ := hs; exact ⟨Bx, h1, h2.own hg (fun r e => (hr r e).2), h3⟩)
    ?assign ?body ?done ?stop
  case assign =>
    rintro l pre ⟨i, x⟩ W K' hI hK
    dsimp only [E5.cells]
    gi_wp2
    have hA' : Below W.heap.size W (W.alloc (.cells x.cells.toArray 30)) := (Below.refl _ W).alloc (Nat.le_refl _) _
    refine hK _ _ ((KeepsOthers.alloc _ _).from _) ⟨hA'.mono (by have := hI.sz; omega), hA'.block _ (by have := hI.sz; omega)⟩ ?_ ⟨W.heap.size, hI.sz, Blk.new W _ _, rfl⟩
    obtain ⟨hb, kK, kR, ⟨r, F, h1, h2⟩, sz⟩ := hI
    exact ⟨hb.trans (hA'.mono hb.size), kK.below hA', kR.below hA', ⟨r, F, h1.below hA', h2.move (fun q hq => by obtain ⟨_, cs, hq'⟩ := h2.lo q hq; exact hA'.block q hq'.lt)⟩, Nat.le_trans sz hA'.size⟩
  case body =>
    rintro l pre ⟨i, x⟩ a' W hl ⟨rr, hr⟩ hI ⟨Bx, hBx, bX, rfl⟩ hlt
    obtain ⟨hb, kK, kR, ⟨r, F, h1, h2⟩, sz⟩ := hI
    dsimp only [E5.cells] at bX h1 ⊢
    have cK := kK.cell
    have cX := bX.cell
    have c2' := h1.cell
    have f2' := h1.frozen
    have hlX := bX.lt
    have hl2 := h1.lt
    gi_wp2
    exact UpInv.push ⟨hb, kK, kR, ⟨r, F, h1, h2⟩, sz⟩ h1 h2 _
  case done =>
    rintro D ys W hD rfl hI hK
    obtain ⟨hb, kK, kR, ⟨r, F, h1, h2⟩, sz⟩ := hI
    dsimp only [E5.cells] at h1
    have c2' := h1.cell
    have c3' := kR.cell
    have f3' := kR.frozen
    have hl3 := kR.lt
    gi_wp2
    have hK' : (put5 W (w.heap.size + 1 + 1 + 1) (.int .i64 r.k) (.int .i64 r.n) (.int .i64 r.a) (.slice r.A1 r.l1 r.c1) (.slice r.A2 r.l2 r.c2)).heap[D]? = some (.deferred (some [])) := (put5_at _ _ _ _ _ _ _ _ (by omega)).trans hK
    refine ⟨by simp, .inl ⟨_, _, rfl, run_takeDeferred hK', ?_⟩⟩
    have hp : put5 W (w.heap.size + 1 + 1 + 1) (.int .i64 r.k) (.int .i64 r.n) (.int .i64 r.a) (.slice r.A1 r.l1 r.c1) (.slice r.A2 r.l2 r.c2) = ((((W.setCell ⟨w.heap.size + 1 + 1 + 1, 0, none⟩ (.int .i64 r.k)).setCell ⟨w.heap.size + 1 + 1 + 1, 1, none⟩ (.int .i64 r.n)).setCell ⟨w.heap.size + 1 + 1 + 1, 2, none⟩ (.int .i64 r.a)).setCell ⟨w.heap.size + 1 + 1 + 1, 3, none⟩ (.slice r.A1 r.l1 r.c1)).setCell ⟨w.heap.size + 1 + 1 + 1, 4, none⟩ (.slice r.A2 r.l2 r.c2) := rfl
    rw [← hp]
    have h5 := put5_blk (c0 := .int .i64 r.k) (c1 := .int .i64 r.n) (c2 := .int .i64 r.a) (c3 := .slice r.A1 r.l1 r.c1) (c4 := .slice r.A2 r.l2 r.c2) kR
    have hat := put5_at W (w.heap.size + 1 + 1 + 1) (.int .i64 r.k) (.int .i64 r.n) (.int .i64 r.a) (.slice r.A1 r.l1 r.c1) (.slice r.A2 r.l2 r.c2)
    have hbe := put5_below (c0 := .int .i64 r.k) (c1 := .int .i64 r.n) (c2 := .int .i64 r.a) (c3 := .slice r.A1 r.l1 r.c1) (c4 := .slice r.A2 r.l2 r.c2) hb (show w.heap.size ≤ w.heap.size + 1 + 1 + 1 by omega)
    clear hp
    generalize put5 W (w.heap.size + 1 + 1 + 1) (.int .i64 r.k) (.int .i64 r.n) (.int .i64 r.a) (.slice r.A1 r.l1 r.c1) (.slice r.A2 r.l2 r.c2) = X at *
    have hk := (grownBy_putObj' X D (.deferred none)).block
    have h6 : Blk (X.putObj D (.deferred none)) (w.heap.size + 1 + 1 + 1) #[.int .i64 r.k, .int .i64 r.n, .int .i64 r.a, .slice r.A1 r.l1 r.c1, .slice r.A2 r.l2 r.c2] 30 := (hk _ h5.lt (fun e => by cases e; omega)).trans h5
    refine ⟨_, ret_term Tryd.results53 rfl h6, r, F, rfl, h2.move (fun q hq => ?_), hbe.trans (belowK_b (w := w) (Nat.le_refl _) X D _ _ (by omega) hK' rfl rfl)⟩
    obtain ⟨h3, cs, h4⟩ := h2.lo q hq
    have h7 := hat q (by omega)
    exact (hk q (by have := (show Blk X q cs 30 from h7.trans h4).lt; omega) (fun e => by cases e; rw [show W.heap[D]? = _ from h4] at hK; cases hK)).trans h7
  case stop =>
    rintro D c pre W _ _ h _
    exact h.elim
end Go.Proofs.YtebgldnlkkhejaaDoor

/-! ## tele: what above lays is a term of one's own; of. -/
namespace Go.Proofs.YtebgldnlkkhejaaDoor
set_option linter.unusedSimpArgs false
set_option linter.unusedVariables false
open Go Go.RowKit Go.Shelf Go.Proofs.YtebgldnlkkhejaaDoorW.PrintLast

/-- A row laid above a term. -/
def upT (K : Int) (ts : List Tm) (t : Tm) : Tm := ts.foldr (fun a b => .mk K 0 0 [] [a, b]) t
/-- .. what came, without its place. -/
inductive StkE (W : World) (K : Int) (B0 : Nat) (b : E5) : List E5 → E5 → List Nat → Prop
  | nil : StkE W K B0 b [] b []
  | snoc {pre : List E5} {r : E5} {F : List Nat} (x : E5) (B : Nat) : StkE W K B0 b pre r F → B0 ≤ B → (∀ q ∈ F, B0 ≤ q ∧ q < B) → Blk W B (x.cells ++ r.cells).toArray 30 →
      StkE W K B0 b (pre ++ [x]) ⟨K, 0, 0, none, 0, 0, some ⟨B, 0, none⟩, 2, 2⟩ (B :: F)
theorem Stk.e {W : World} {K : Int} {B0 : Nat} {b : E5} {pre : List (Nat × E5)} {r : E5} {F : List Nat} (h : Stk W K B0 b pre r F) : StkE W K B0 b (pre.map (·.2)) r F := by
  induction h with
  | nil => exact .nil
  | snoc x B h h1 h2 h3 ih =>
    rw [List.map_append]
    exact .snoc x.2 B ih h1 (fun q hq => ⟨(h.lo q hq).1, h2 q hq⟩) h3
theorem StkE.inv {W : World} {K : Int} {B0 : Nat} {b : E5} {pre : List E5} {x : E5} {r' : E5} {F' : List Nat} (h : StkE W K B0 b (pre ++ [x]) r' F') :
    ∃ r F B, StkE W K B0 b pre r F ∧ B0 ≤ B ∧ (∀ q ∈ F, B0 ≤ q ∧ q < B) ∧ Blk W B (x.cells ++ r.cells).toArray 30 ∧ r' = ⟨K, 0, 0, none, 0, 0, some ⟨B, 0, none⟩, 2, 2⟩ ∧ F' = B :: F := by
  obtain ⟨l, hl⟩ : ∃ l, pre ++ [x] = l := ⟨_, rfl⟩
  rw [hl] at h
  cases h with
  | nil => simp at hl
  | @snoc pre2 r F y B h h1 h2 h3 =>
    obtain ⟨e1, e2⟩ := List.append_inj' hl rfl
    simp at e2
    subst e1 e2
    exact ⟨r, F, B, h, h1, h2, h3, rfl, rfl⟩
theorem backL_all (es : List E5) : (backL es es.length).map (·.2) = es.reverse := by
  unfold backL
  rw [List.take_of_length_le (by simp), List.map_reverse, List.map_map]
  congr 1
  rw [show ((fun x : Nat × E5 => x.2) ∘ fun p : E5 × Nat => (p.2, p.1)) = Prod.fst from rfl, List.zipIdx_map_fst]
/-- Elements, their cells, what they own. -/
def OwE (w : World) : List E5 → List Tm → List Nat → Prop
  | [], [], F => F = []
  | e :: es, t :: ts, F => ∃ F1 F2, OwT w t e.cells F1 ∧ OwE w es ts F2 ∧ F = F1 ++ F2
  | _, _, _ => False
theorem OwE.length {w : World} : ∀ {es : List E5} {ts : List Tm} {F : List Nat}, OwE w es ts F → es.length = ts.length
  | [], [], _, _ => rfl
  | e :: es, t :: ts, F, ⟨F1, F2, h1, h2, _⟩ => by simp [OwE.length h2]
  | [], _ :: _, _, h => h.elim
  | _ :: _, [], _, h => h.elim
theorem OwE.move {w w' : World} : ∀ {es : List E5} {ts : List Tm} {F : List Nat}, OwE w es ts F → Same F w w' → OwE w' es ts F
  | [], [], _, h, _ => h
  | e :: es, t :: ts, F, ⟨F1, F2, h1, h2, e3⟩, hs => ⟨F1, F2, OwT.mov _ _ _ _ _ (fun q hq => hs q (by rw [e3]; exact List.mem_append_left _ hq)) h1, OwE.move h2 (fun q hq => hs q (by rw [e3]; exact List.mem_append_right _ hq)), e3⟩
  | [], _ :: _, _, h, _ => h.elim
  | _ :: _, [], _, h, _ => h.elim
theorem own_es {w : World} {g : Nat} : ∀ {ts : List Tm} {inner : List Value} {F : List Nat} {o : Nat}, OwL (OwT w) 5 inner ts F → (∀ j u, inner[j]? = some u → w.cell? ⟨g, o + j, none⟩ = some u) →
    ∃ es, OwE w es ts F ∧ ∀ j, (h : j < es.length) → AtP w g (o + j * 5) es[j].cells
  | [], inner, F, o, ⟨_, hF⟩, _ => ⟨[], hF, fun j h => by simp at h⟩
  | t :: ts, inner, F, o, ⟨cs, rest, F1, F2, hi, hc, h1, h2, hF⟩, hat => by
    obtain ⟨A1, l1, c1, A2, l2, c2, rfl⟩ := h1.cells
    obtain ⟨es, he, ha⟩ := own_es (o := o + 5) h2 (fun j u hj => by
      have := hat (5 + j) u (by rw [hi, List.getElem?_append_right (by rw [hc]; omega), hc]; simpa using hj)
      rwa [show o + 5 + j = o + (5 + j) by omega])
    refine ⟨⟨t.kind, t.num, t.place, A1, l1, c1, A2, l2, c2⟩ :: es, ⟨F1, F2, h1, he, hF⟩, fun j h => ?_⟩
    rcases j with _ | j
    · intro i u hu
      have := hat i u (by rw [hi, List.getElem?_append_left (by have := (List.getElem?_eq_some_iff.1 hu).1; simpa using this)]; exact hu)
      simpa using this
    · have := ha j (by simpa using h)
      rw [show o + (j + 1) * 5 = o + 5 + j * 5 by omega]
      exact this
theorem stk_own {W : World} {K : Int} {B0 : Nat} {b : E5} {tb : Tm} {Fb : List Nat} (hb : OwT W tb b.cells Fb) (hFb : ∀ q ∈ Fb, q < B0) (hnb : Fb.Nodup) :
    ∀ {es : List E5} {ts : List Tm} {Fi : List Nat} {r : E5} {F : List Nat}, StkE W K B0 b es.reverse r F → OwE W es ts Fi → (∀ q ∈ Fi, q < B0) → (Fi ++ Fb).Nodup →
    ∃ F', OwT W (upT K ts tb) r.cells F' ∧ F'.Nodup ∧ ∀ q ∈ F', q ∈ Fi ++ Fb ∨ q ∈ F
  | [], [], Fi, r, F, hS, hE, _, hn => by
    have : r = b := by
      rw [List.reverse_nil] at hS
      generalize hl : ([] : List E5) = l at hS
      cases hS with
      | nil => rfl
      | snoc x B => simp at hl
    subst this
    exact ⟨Fb, hb, hnb, fun q hq => .inl (List.mem_append_right _ hq)⟩
  | e :: es, t :: ts, Fi, r, F, hS, ⟨F1, F2, h1, h2, e3⟩, hlt, hn => by
    rw [List.reverse_cons] at hS
    obtain ⟨r0, F0, B, hS0, hB, hF0, hblk, rfl, rfl⟩ := hS.inv
    subst e3
    rw [List.append_assoc] at hn
    have hn' := List.nodup_append.1 hn
    obtain ⟨F', g1, g2, g3⟩ := stk_own hb hFb hnb hS0 h2 (fun q hq => hlt q (List.mem_append_right _ hq)) hn'.2.1
    have hF1 : ∀ q ∈ F1, q < B0 := fun q hq => hlt q (List.mem_append_left _ hq)
    have hF' : ∀ q ∈ F', q < B := fun q hq => by
      rcases g3 q hq with h | h
      · rcases List.mem_append.1 h with h | h
        · have := hlt q (List.mem_append_right _ h); omega
        · have := hFb q h; omega
      · exact (hF0 q h).2
    refine ⟨B :: (F1 ++ F'), ?_, ?_, ?_⟩
    · refine (OwT_mk ..).2 ⟨_, _, [], B :: (F1 ++ F'), rfl, OwS.nil _ _ _ _, ⟨e.cells ++ r0.cells, F1 ++ F', ?_, ?_, rfl⟩, rfl⟩
      · exact ⟨by simp, .inr ⟨B, 2, _, rfl, Nat.zero_le _, hblk, Nat.le_refl _, by decide, by simp, by simp⟩⟩
      · have k1 := OwL.snoc (R := OwT W) (sz := 5) h1 rfl (xs := []) (inner := []) (F := []) ⟨rfl, rfl⟩
        have k2 := OwL.snoc (R := OwT W) (sz := 5) g1 rfl k1
        simp only [List.nil_append] at k2
        exact k2
    · rw [List.nodup_cons]
      refine ⟨fun hm => ?_, List.nodup_append.2 ⟨hn'.1, g2, fun p hp q hq e => ?_⟩⟩
      · rcases List.mem_append.1 hm with h | h
        · have := hF1 _ h; omega
        · have := hF' _ h; omega
      · subst e
        rcases g3 p hq with h | h
        · exact hn'.2.2 p hp p h rfl
        · have := (hF0 p h).1; have := hF1 p hp; omega
    · intro q hq
      rcases List.mem_cons.1 hq with rfl | hq
      · exact .inr (List.mem_cons_self ..)
      · rcases List.mem_append.1 hq with hq | hq
        · exact .inl (List.mem_append_left _ (List.mem_append_left _ hq))
        · rcases g3 q hq with h | h
          · exact .inl (by rw [List.append_assoc]; exact List.mem_append_right _ h)
          · exact .inr (List.mem_cons_of_mem _ h)
  | [], _ :: _, _, _, _, _, h, _, _ => h.elim
  | _ :: _, [], _, _, _, _, h, _, _ => h.elim
/-- above, of a row and a term of one's own. -/
theorem above_own (ts : List Tm) (tb : Tm) (v : Value) (cb : List Value) (K : Int) (w : World) (lo : Nat) (F : List Nat) (Fb : List Nat) (hl : ts.length ≤ 1099511627776) (h : OwTs w v ts F) (hb : OwT w tb cb Fb) (hF : Fr lo w (F ++ Fb)) (hlo : lo ≤ w.heap.size) :
    Calls Tryd.prog 53 #[.agg #[v], .int .i64 K, .agg cb.toArray] w (fun e w' => ∃ cs F', e = .returned (.agg cs.toArray) ∧ OwT w' (upT K ts tb) cs F' ∧ Fr lo w' F' ∧ Below w.heap.size w w') := by
  obtain ⟨inner, Fi, hown, hin, rfl⟩ := id h
  obtain ⟨A, c, rfl⟩ := OwS.slice h
  obtain ⟨A1, l1, c1, A2, l2, c2, rfl⟩ := hb.cells
  have hcap : ts.length ≤ c := by
    rcases hown.2 with ⟨e, e2⟩ | ⟨g, cap, cur, e, _, _, h1, _⟩
    · omega
    · simp at e; omega
  have hFn := List.nodup_append.1 hF.1
  have hFi := List.nodup_append.1 hFn.1
  have hes : ∃ es, OwE w es ts Fi ∧ (es = [] ∨ ∃ b o, A = some ⟨b, o, none⟩ ∧ b < w.heap.size ∧ ∀ j, (h : j < es.length) → AtP w b (o + j * 5) es[j].cells) := by
    rcases hown.2 with ⟨e, e2⟩ | ⟨g, cap, cur, e, _, hg, _⟩
    · have : ts = [] := List.length_eq_zero_iff.1 e2
      subst this
      exact ⟨[], hin.2, .inl rfl⟩
    · simp at e
      obtain ⟨rfl, rfl⟩ := e
      obtain ⟨es, h1, h2⟩ := own_es (g := g) (o := 0) hin (fun j u hj => by
        have := hown.cells (g := g) rfl j u hj
        rwa [addr0] at this)
      exact ⟨es, h1, .inr ⟨g, 0, rfl, (Array.getElem?_eq_some_iff.1 hg).1, h2⟩⟩
  obtain ⟨es, hE, hat⟩ := hes
  have hel := hE.length
  rw [← hel] at hcap hl ⊢
  refine (above_any A c es K ⟨tb.kind, tb.num, tb.place, A1, l1, c1, A2, l2, c2⟩ w hl hcap hat).mono ?_
  rintro e w' ⟨r, G, rfl, hS, hbw⟩
  have hS2 := hS.e
  rw [backL_all] at hS2
  have hlt : ∀ q ∈ Fi ++ Fb, q < w.heap.size := fun q hq => by
    rcases List.mem_append.1 hq with hq | hq
    · exact (hF.2 q (List.mem_append_left _ (List.mem_append_right _ hq))).2
    · exact (hF.2 q (List.mem_append_right _ hq)).2
  have hsm : Same (Fi ++ Fb) w w' := fun q hq => hbw.block q (hlt q hq)
  obtain ⟨F', g1, g2, g3⟩ := stk_own (OwT.mov _ _ _ _ _ hsm.right hb) (fun q hq => by have := hlt q (List.mem_append_right _ hq); omega) hFn.2.1 hS2 (hE.move hsm.left) (fun q hq => by have := hlt q (List.mem_append_left _ hq); omega)
    (List.nodup_append.2 ⟨hFi.2.1, hFn.2.1, fun p hp q hq => hFn.2.2 p (List.mem_append_right _ hp) q hq⟩)
  refine ⟨_, F', rfl, g1, ⟨g2, fun q hq => ?_⟩, hbw⟩
  rcases g3 q hq with h' | h'
  · have h1 := hlt q h'
    have h2 : lo ≤ q := by
      rcases List.mem_append.1 h' with h'' | h''
      · exact (hF.2 q (List.mem_append_left _ (List.mem_append_right _ h''))).1
      · exact (hF.2 q (List.mem_append_right _ h'')).1
    have := hbw.size
    omega
  · obtain ⟨h1, cs, h2⟩ := hS.lo q h'
    have := h2.lt
    omega
end Go.Proofs.YtebgldnlkkhejaaDoor

/-! ## tele: of, Pis, Lams. -/
namespace Go.Proofs.YtebgldnlkkhejaaDoor
set_option linter.unusedSimpArgs false
set_option linter.unusedVariables false
open Go Go.RowKit Go.Shelf Go.Proofs.YtebgldnlkkhejaaDoorW.PrintLast

theorem ret_work {fn : Func} {p : Tmp} (h : fn.results = #[.cell p 82]) {tmps : Array Value} {w : World} {g : Nat} {c0 : Value} (hp : tmps.getD p undef = .pointer (some ⟨g, 0, none⟩)) (hg : Blk w g #[c0] 82) :
    (results fn tmps).run Tryd.prog w = .ok (.agg #[c0]) w :=
  results_cell_row h tmps w g 82 _ (0, 0) _ hp hg Tryd.underlying82 rfl (by simp only [List.size_toArray, List.length_cons, List.length_nil]; kernel_rfl)
set_option maxRecDepth 100000 in
set_option maxHeartbeats 1000000 in
theorem workOf_any (ts : List Tm) (vk : Value) (w : World) (hK : Kinds w) (h : Ins w vk ts) :
    Calls Tryd.prog 52 #[vk] w (fun e w' => ∃ A c F, e = .returned (.agg #[.slice A ts.length c]) ∧ OwTs w' (.slice A ts.length c) (ts.map ownT) F ∧ Fr (w.heap.size + 1) w' F ∧ Below w.heap.size w w') := by
  obtain ⟨A0, c0, rfl, -⟩ := id h.rd
  obtain ⟨k0, hb, hsz⟩ := blks1 w #[.slice none 0 0] 82
  have HC := Lib.hid (owns_any ts _ _ (hK.below hb) (h.keeps (keeps_of hb)))
  have H := Lib.hid (And.intro k0 (And.intro hb hsz))
  clear k0 hb hsz hK h
  go_enter Tryd.func52, Tryd.ntmps52
  go_wp2_with fail
  refine HC.out.mono ?_
  rintro e w1 ⟨A, c, F, rfl, hO, hF, hb1⟩
  obtain ⟨k0, hb, hsz⟩ := H.out
  rw [hsz] at hF
  replace k0 := k0.below hb1
  have c0' := k0.cell
  have f0' := k0.frozen
  have H1 := Lib.hid (And.intro k0 (And.intro hO (And.intro hF (And.intro hb1 hb))))
  clear k0 hO hF hb1 hb hsz
  rw [List.length_map]
  go_wp2
  obtain ⟨k0, hO, hF, hb1, hb⟩ := H1.out
  rw [List.length_map] at hO
  refine bodyPost_ret (ret_work Tryd.results52 rfl (k0.set 0 _)) rfl ⟨A, c, F, rfl, hO.move (fun q hq => Below.heap_setCell _ _ _ _ (by have := (hF.2 q hq).1; simp; omega)), hF.mono (Nat.le_refl _) (by simp [World.setCell]), (hb.trans (hb1.mono hb.size)).setCell (by simp) _⟩

theorem field_work (A : Option Addr) (n c : Nat) (w : World) : (Instr.field 82 (.agg #[.slice A n c]) 0).run Tryd.prog w = .ok (.agg #[.slice A n c]) w := by kernel_rfl
set_option maxRecDepth 100000 in
set_option maxHeartbeats 400000 in
theorem Pis_any (ts : List Tm) (t : Tm) (vk : Value) (cs : List Value) (w : World) (hK : Kinds w) (h : Ins w vk ts) (ht : In w t cs) :
    Calls Tryd.prog 19 #[vk, .agg cs.toArray] w (OutT w (upT 4 (ts.map ownT) (ownT t))) := by
  obtain ⟨A0, c0, rfl, -⟩ := id h.rd
  obtain ⟨A1, l1, c1, A2, l2, c2, rfl⟩ := ht.rd.cells
  obtain ⟨k0, k1, hb, hsz⟩ := blks2 w #[.int .i64 t.kind, .int .i64 t.num, .int .i64 t.place, .slice A1 l1 c1, .slice A2 l2 c2] #[.int .i64 0, .int .i64 0, .int .i64 0, .slice none 0 0, .slice none 0 0] 30 30
  have HI := Lib.hid (And.intro h (And.intro ht hK))
  clear h ht hK
  go_enter Tryd.func19, Tryd.ntmps19
  go_wp2_with fail
  obtain ⟨wA, hA⟩ : ∃ wA, wA = ((w.alloc (.cells #[.int .i64 t.kind, .int .i64 t.num, .int .i64 t.place, .slice A1 l1 c1, .slice A2 l2 c2] 30)).alloc (.cells #[.int .i64 0, .int .i64 0, .int .i64 0, .slice none 0 0, .slice none 0 0] 30)) := ⟨_, rfl⟩
  rw [← hA] at k0 k1 hb hsz ⊢
  clear hA
  have g0 := k0.cell
  have n0 := k0.lt
  have H := Lib.hid (And.intro k1 (And.intro hb hsz))
  clear k0 k1 hb hsz
  refine start_ (n := 7) (S := fun W' => ∀ b o, b < wA.heap.size → W'.cell? ⟨b, o, none⟩ = wA.cell? ⟨b, o, none⟩) (ds := [6]) #[false, false, false, false, false, false, false] (by kernel_rfl) rfl rfl (by exact (fun _ _ _ => rfl)) (fun hHeld => ?_)
  refine take_ (i := 0) (N := some 5) (v := ?_) (a' := ?_) #[true, false, false, false, false, false, false] rfl rfl (by kernel_rfl) (fun _ _ _ h => h) (Or.inl ⟨by rfl, ?_⟩) hHeld ?_ ?_
  rotate_left
  · rintro w' hS'
    go_simp
    with_reducible rfl
  rotate_left
  · simp only [Act.put, List.setIfInBounds_toArray, List.set_cons_zero, List.set_cons_succ]
    rfl
  refine take_ (i := 3) (N := some 8) (v := ?_) (a' := ?_) #[true, false, false, true, false, false, false] rfl rfl (by kernel_rfl) (fun _ _ _ h => h) (Or.inl ⟨by rfl, ?_⟩) hHeld ?_ ?_
  rotate_left
  · rintro w' hS'
    go_simp
    with_reducible rfl
  rotate_left
  · simp only [Act.put, List.setIfInBounds_toArray, List.set_cons_zero, List.set_cons_succ]
    rfl
  refine one_ (i := 1) (N := some 6) #[true, true, false, true, false, false, false] rfl rfl (by kernel_rfl) (by decide) (fun K hK => ?_)
  go_simp
  refine (workOf_any ts _ _ (HI.out.2.2.below H.out.2.1.drew) (HI.out.1.keeps (keeps_of H.out.2.1.drew))).mono ?_
  rintro e w2 ⟨A3, c3, F2, rfl, hO2, hF2, hb2⟩
  have hfd := field_work A3 ts.length c3
  have H2 := Lib.hid (And.intro hO2 (And.intro (show Fr (wA.heap.size + 1) w2 F2 from hF2) (undrew hb2)))
  clear hO2 hF2 hb2
  refine hK.out _ _ (keeps_of H2.out.2.2) (fun hHeld => ?_)
  clear hK K
  refine norm_ (a' := ?_) ?_ ?_
  rotate_left
  · first
      | rfl
      | (simp only [Act.put, List.setIfInBounds_toArray, List.set_cons_zero, List.set_cons_succ]; rfl)
  refine pure_ (i := 2) (N := some 7) (v := ?_) (a' := ?_) #[true, true, true, true, false, false, false] rfl rfl (by kernel_rfl) (fun _ _ _ h => h) (Or.inl ⟨by rfl, ?_⟩) ?_ ?_
  rotate_left
  · rintro w'
    go_simp
    with_reducible rfl
  rotate_left
  · simp only [Act.put, List.setIfInBounds_toArray, List.set_cons_zero, List.set_cons_succ]
    rfl
  refine one_ (i := 4) (N := some 9) #[true, true, true, true, true, false, false] rfl rfl (by kernel_rfl) (by decide) (fun K hK => ?_)
  go_simp
  have hb3 := H.out.2.1.trans (H2.out.2.2.mono H.out.2.1.size)
  refine (ownT_any t _ w2 (HI.out.2.2.below hb3) (HI.out.2.1.keeps (keeps_of hb3))).mono ?_
  clear hb3
  rintro e w3 ⟨cs3, F3, rfl, hO3, hF3, hb3⟩
  obtain ⟨A4, l4, c4, A5, l5, c5, rfl⟩ := hO3.cells
  have H3 := Lib.hid (And.intro hO3 (And.intro hF3 (And.intro hb3 (H2.out.2.2.trans (hb3.mono H2.out.2.2.size)))))
  clear hO3 hF3 hb3
  refine hK.out _ _ (keeps_of H3.out.2.2.2) (fun hHeld => ?_)
  clear hK K
  refine norm_ (a' := ?_) ?_ ?_
  rotate_left
  · first
      | rfl
      | (simp only [Act.put, List.setIfInBounds_toArray, List.set_cons_zero, List.set_cons_succ]; rfl)
  refine one_ (i := 5) (N := some 10) #[true, true, true, true, true, true, false] rfl rfl (by kernel_rfl) (by decide) (fun K hK => ?_)
  go_simp
  have hO2 : OwTs w3 (.slice A3 ts.length c3) (ts.map ownT) F2 := H2.out.1.move (Same.of_below H2.out.2.1 H3.out.2.2.1)
  refine (above_own (ts.map ownT) (ownT t) _ _ 4 w3 wA.heap.size F2 F3 (by rw [List.length_map]; exact HI.out.1.len) hO2 H3.out.1 ((H2.out.2.1.mono (by omega) (Nat.le_refl _)).append H3.out.2.1 H3.out.2.2.1.size (by have := H2.out.2.2.size; omega)) (by have := H3.out.2.2.2.size; omega)).mono ?_
  rintro e w4 ⟨cs4, F4, rfl, hO4, hF4, hb4⟩
  obtain ⟨A6, l6, c6, A7, l7, c7, rfl⟩ := hO4.cells
  have hb34 := H3.out.2.2.2.trans (hb4.mono H3.out.2.2.2.size)
  have k1 := H.out.1.below hb34
  have c1' := k1.cell
  have f1' := k1.frozen
  have H4 := Lib.hid (And.intro hO4 (And.intro hF4 (And.intro hb34 k1)))
  clear hO4 hF4 hb4 hb34 k1 hO2
  refine hK.out _ _ (keeps_of H4.out.2.2.1) (fun hHeld => ?_)
  clear hK K
  refine norm_ (a' := ?_) ?_ ?_
  rotate_left
  · first
      | rfl
      | (simp only [Act.put, List.setIfInBounds_toArray, List.set_cons_zero, List.set_cons_succ]; rfl)
  refine last_ (i := 6) (N := none) #[true, true, true, true, true, true, true] rfl rfl (by kernel_rfl) (by decide) (fun K hK => ?_)
  go_simp
  refine hK.out _ _ ?_
  clear hK K
  refine norm_ (a' := ?_) ?_ ?_
  rotate_left
  · first
      | rfl
      | (simp only [Act.put, List.setIfInBounds_toArray, List.set_cons_zero, List.set_cons_succ]; rfl)
  refine done_ (by kernel_rfl) ?_
  clear g0 c1' f1' hfd
  go_wp2
  obtain ⟨hO4, hF4, hb34, k1⟩ := H4.out
  have hsz := H.out.2.2
  exact term_end Tryd.results19 rfl k1 hO4 hF4 (by omega) (fun b hb => by have := (hF4.2 b hb).1; omega) (H.out.2.1.trans (hb34.mono H.out.2.1.size)) (by omega) rfl
end Go.Proofs.YtebgldnlkkhejaaDoor

/-! ## tele: open. -/
namespace Go.Proofs.YtebgldnlkkhejaaDoor
set_option linter.unusedSimpArgs false
set_option linter.unusedVariables false
open Go Go.RowKit Go.Proofs.YtebgldnlkkhejaaDoorW.PrintLast

/-- KPi's taken off. -/
def openT : Nat → Tm → Option (List Tm × Tm)
  | 0, t => some ([], t)
  | n + 1, .mk k _ _ _ [a, b] => if k = 4 then (openT n b).map (fun p => (a :: p.1, p.2)) else none
  | _ + 1, _ => none
theorem openT_two (m : Nat) (k n a : Int) (lv : List Lv) (x y : Tm) : openT (m + 1) (.mk k n a lv [x, y]) = if k = 4 then (openT m y).map (fun p => (x :: p.1, p.2)) else none := by
  rw [openT]
theorem openT_not {m : Nat} {k n a : Int} {lv : List Lv} {ts : List Tm} (h : k ≠ 4 ∨ ts.length ≠ 2) : openT (m + 1) (.mk k n a lv ts) = none := by
  rcases ts with _ | ⟨x, _ | ⟨y, _ | ⟨z, zs⟩⟩⟩
  · rw [openT]; simp
  · rw [openT]; simp
  · rw [openT_two, if_neg (by simpa using h)]
  · rw [openT]; simp
/-- Elements that are read where they lay in w, in a row of one's own. -/
abbrev RdR (w : World) : World → Tm → List Value → List Nat → Prop := fun _ x cs F => RdT w x cs ∧ F = []
theorem RdR.mov (w : World) : Mov (RdR w) := fun _ _ _ _ _ _ h => h
structure RInv (w : World) (v : Value) (done : List Tm) (F : List Nat) (wr : World) : Prop where
  hb : Below w.heap.size w wr
  hO : OwS (RdR w) 5 30 wr v done F
  hF : Fr (w.heap.size + 2) wr F
  hs : w.heap.size + 2 ≤ wr.heap.size
theorem RInv.push {w : World} {v v2 : Value} {F : List Nat} {done : List Tm} {x : Tm} {cx : List Value} {wr w1 W1 w2 : World}
    (h : RInv w v done F wr) (hb : Below wr.heap.size wr w1) (hx : RdT w x cx) (hW : Below w1.heap.size w1 W1) (hcx : cx.length = 5)
    (happ : ∀ inner, wr.ownsRow 0 30 5 v done.length inner → w2.ownsRow 0 30 5 v2 (done.length + 1) (inner ++ cx)) (hg : W1.grownBy w2 v.ownBlock) (hat : v2.ownBlock = v.ownBlock ∨ v2.ownBlock = some W1.heap.size) (h2s : ∀ k, v2.ownBlock = some k → k < w2.heap.size) :
    (∃ F', RInv w v2 (done ++ [x]) F' w2) ∧ ∀ q, q < w.heap.size + 2 → w2.heap[q]? = wr.heap[q]? := by
  obtain ⟨hb', hO, hF, hs⟩ := h
  have l0 := hb'.size
  obtain ⟨F', hO', hF'⟩ := OwS.push (Fx := []) (RdR.mov w) hO hF hb hs (show RdR w w1 x cx [] from ⟨hx, rfl⟩) (Fr.nil _ _) hW (fun inner hi => by rw [List.length_append, List.length_singleton]; exact happ inner hi) hcx hg hat h2s
  have s1 := hb.size
  have s2 := hW.size
  have s3 := hg.size
  have hvlo : ∀ q, v.ownBlock = some q → w.heap.size + 2 ≤ q := fun q hq => by
    obtain ⟨inner, Fi, g1, g2, rfl⟩ := hO
    exact (hF.2 q (List.mem_append_left _ (by simp [hq]))).1
  have hold : ∀ q, q < w.heap.size + 2 → w2.heap[q]? = wr.heap[q]? := fun q hq => by
    rw [hg.block q (by omega) (fun e => by have := hvlo q e.symm; omega), hW.block q (by omega), hb.block q (by omega)]
  refine ⟨⟨F', ⟨?_, ?_, ?_, ?_, ?_⟩, hO', hF', by omega⟩, hold⟩
  · show w2.os = w.os; rw [hg.os, hW.os, hb.os, hb'.os]
  · show w2.tape = w.tape; rw [hg.tape, hW.tape, hb.tape, hb'.tape]
  · show w2.output = w.output; rw [hg.output, hW.output, hb.output, hb'.output]
  · omega
  · intro q hq; rw [hold q (by omega)]; exact hb'.block q hq
theorem RInv.set {w : World} {v : Value} {F : List Nat} {done : List Tm} {wr : World} (h : RInv w v done F wr) (c0 c1 c2 c3 c4 : Value) : RInv w v done F (put5 wr w.heap.size c0 c1 c2 c3 c4) :=
  ⟨put5_below h.hb (Nat.le_refl _), OwS.move (RdR.mov w) h.hO (put5_same (fun b hb => by have := (h.hF.2 b hb).1; omega)), h.hF.mono (Nat.le_refl _) (by rw [put5_size]; exact Nat.le_refl _), by rw [put5_size]; exact h.hs⟩
theorem ret_tmp_term {fn : Func} {p u : Tmp} (h : fn.results = #[.tmp u, .cell p 30]) {tmps : Array Value} {w : World} {g : Nat} {c0 c1 c2 c3 c4 x : Value} (hp : tmps.getD p undef = .pointer (some ⟨g, 0, none⟩)) (hx : tmps.getD u undef = x) (hg : Blk w g #[c0, c1, c2, c3, c4] 30) :
    (results fn tmps).run Tryd.prog w = .ok (.tuple #[x, .agg #[c0, c1, c2, c3, c4]]) w := by
  have hp' : tmps[p]?.getD undef = .pointer (some ⟨g, 0, none⟩) := by simpa using hp
  have hx' : tmps[u]?.getD undef = x := by simpa using hx
  have hl := run_loadVar_row (P := Tryd.prog) w g 30 30 #[c0, c1, c2, c3, c4] (0, 0) _ hg Tryd.underlying30 rfl (by simp only [List.size_toArray, List.length_cons, List.length_nil]; kernel_rfl)
  simp [results, h, hp', hx', asAddr, hl]
def fewEnd : Ending := .panicked [{ v := .iface 86 (.agg #[]), recovered := false }]
/-- How open ends. -/
def Opens (w : World) (o : Option (List Tm × Tm)) (e : Ending) (w' : World) : Prop := Below w.heap.size w w' ∧
  match o with
  | none => e = fewEnd
  | some p => ∃ (A : Option Addr) (c : Nat) (cs : List Value) (F : List Nat × List Nat), e = .returned (.tuple #[.slice A p.1.length c, .agg cs.toArray]) ∧ OwTs w' (.slice A p.1.length c) (p.1.map ownT) (F.1) ∧ OwT w' (ownT p.2) cs F.2 ∧ Fr w.heap.size w' (F.1 ++ F.2)

set_option maxRecDepth 100000 in
set_option maxHeartbeats 2000000 in
theorem open_neg (t : Tm) (cs : List Value) (n : Int) (w : World) (h : RdT w t cs) (hn : n < 0) :
    Calls Tryd.prog 56 #[.agg cs.toArray, .int .i64 n] w (Opens w none) := by
  obtain ⟨A1, l1, c1, A2, l2, c2, rfl⟩ := h.cells
  have HB := Lib.hid (blks2 w #[.int .i64 t.kind, .int .i64 t.num, .int .i64 t.place, .slice A1 l1 c1, .slice A2 l2 c2] #[.int .i64 0, .int .i64 0, .int .i64 0, .slice none 0 0, .slice none 0 0] 30 30)
  clear h
  go_enter Tryd.func56, Tryd.ntmps56
  go_wp2
  exact ⟨rfl, HB.out.2.2.1, rfl⟩
theorem owns_len (ts : List Tm) (vk : Value) (w : World) (hK : Kinds w) (h : Ins w vk ts) :
    Calls Tryd.prog 87 #[vk] w (fun e w' => ∃ A c F, e = .returned (.slice A ts.length c) ∧ OwTs w' (.slice A ts.length c) (ts.map ownT) F ∧ Fr w.heap.size w' F ∧ Below w.heap.size w w') := by
  refine (owns_any ts vk w hK h).mono ?_
  rintro e w' ⟨A, c, F, h1, h2, h3, h4⟩
  rw [List.length_map] at h1 h2
  exact ⟨A, c, F, h1, h2, h3, h4⟩
set_option maxRecDepth 100000 in
set_option maxHeartbeats 800000 in
theorem open_any (t : Tm) (cs : List Value) (n : Nat) (w : World) (hK : Kinds w) (h : In w t cs) (hnn : (n : Int) ≤ 9223372036854775807) (hnodes : t.nodes ≤ 1099511627775) :
    Calls Tryd.prog 56 #[.agg cs.toArray, .int .i64 n] w (Opens w (openT n t)) := by
  obtain ⟨A1, l1, c1, A2, l2, c2, rfl⟩ := h.rd.cells
  obtain ⟨k0, k1, hb, hsz⟩ := blks2 w #[.int .i64 t.kind, .int .i64 t.num, .int .i64 t.place, .slice A1 l1 c1, .slice A2 l2 c2] #[.int .i64 0, .int .i64 0, .int .i64 0, .slice none 0 0, .slice none 0 0] 30 30
  have HI := Lib.hid (And.intro h.rd (And.intro k0 (And.intro k1 (And.intro (show RInv w (.slice none 0 0) [] [] _ from ⟨hb, OwS.nil _ _ _ _, Fr.nil _ _, by omega⟩) h.ok))))
  have hn0 : (0 : Int) ≤ (n : Int) := Int.natCast_nonneg _
  have HK := Lib.hid hK
  have HN := Lib.hid hnodes
  clear h k0 k1 hb hsz hK hnodes
  go_enter Tryd.func56, Tryd.ntmps56
  go_wp2_with fail
  go_loopw [4, 11] (fun v i wr => ∃ (j : Nat) (u : Tm) (done : List Tm) (A1 : Option Addr) (l1 c1 : Nat) (A2 : Option Addr) (l2 c2 : Nat) (A : Option Addr) (c : Nat) (F : List Nat), i = .int .i64 j ∧ j ≤ n ∧ v = .slice A done.length c ∧ done.length = j ∧
    Hid (openT n t = (openT (n - j) u).map (fun p => (done ++ p.1, p.2)) ∧ j + u.nodes ≤ t.nodes ∧ (∀ x ∈ done, Okt x ∧ x.nodes ≤ t.nodes) ∧ Okt u) ∧
    Hid (RdT w u [.int .i64 u.kind, .int .i64 u.num, .int .i64 u.place, .slice A1 l1 c1, .slice A2 l2 c2] ∧ Blk wr w.heap.size #[.int .i64 u.kind, .int .i64 u.num, .int .i64 u.place, .slice A1 l1 c1, .slice A2 l2 c2] 30 ∧
      Blk wr (w.heap.size + 1) #[.int .i64 0, .int .i64 0, .int .i64 0, .slice none 0 0, .slice none 0 0] 30 ∧ RInv w (.slice A done.length c) done F wr)) (fun _ i _ => n - (intOf i).toNat)
  case atStart => exact ⟨0, t, [], _, _, _, _, _, _, none, 0, [], rfl, by omega, rfl, rfl, Lib.hid ⟨by rw [Nat.sub_zero]; cases openT n t <;> rfl, by omega, by simp, HI.out.2.2.2.2⟩, Lib.hid ⟨HI.out.1, HI.out.2.1, HI.out.2.2.1, HI.out.2.2.2.1⟩⟩
  case round =>
    obtain ⟨j, u, done, A1, l1, c1, A2, l2, c2, A, c, F, rfl, hj, rfl, rfl, HU, HV⟩ := hrel
    clear HI
    have hj0 : (0 : Int) ≤ (done.length : Int) := Int.natCast_nonneg _
    by_cases hlt : done.length < n
    · have hj1 : (done.length : Int) < (n : Int) := by omega
      obtain ⟨k, nm, a, lv, kids⟩ := u
      obtain ⟨hu, k0, k1, hv⟩ := HV.out
      have g0 := k0.cell
      have n0 := k0.lt
      simp only [Tm.kind, Tm.num, Tm.place] at g0 hu
      have hkl : l2 = kids.length := by
        obtain ⟨vl, vk, e, _, A, c, rfl, _⟩ := (RdT_mk ..).1 hu
        simp at e
        omega
      by_cases hk : k = 4
      · subst hk
        by_cases hl : kids.length = 2
        · rcases kids with _ | ⟨x, _ | ⟨y, _ | ⟨z, zs⟩⟩⟩ <;> simp at hl
          obtain ⟨A1', l1', c1', b, o, c2', e, hc2, hbl, ⟨A3, l3, c3, A4, l4, c4, hx, ax⟩, A5, l5, c5, A6, l6, c6, hy, ay⟩ := kids_two hu
          simp at e
          obtain ⟨⟨rfl, rfl, rfl⟩, rfl, rfl, rfl⟩ := e
          have e0 := ay 0 _ rfl
          have e1 := ay 1 _ rfl
          have e2 := ay 2 _ rfl
          have e3 := ay 3 _ rfl
          have e4 := ay 4 _ rfl
          have d0 := ax 0 _ rfl
          have d1 := ax 1 _ rfl
          have d2 := ax 2 _ rfl
          have d3 := ax 3 _ rfl
          have d4 := ax 4 _ rfl
          simp only [Nat.add_zero, Nat.add_assoc, Nat.reduceAdd] at e0 e1 e2 e3 e4 d0 d1 d2 d3 d4
          have hcw := (bcell hv.hb).1
          have hsw := hv.hb.size
          have HX := Lib.hid hx
          have HY := Lib.hid hy
          have hlB : b < wr.heap.size := by omega
          obtain ⟨inner, Fi, hown, hin, hFi⟩ := id hv.hO
          have HW := Lib.hid hown
          have hA : Below wr.heap.size wr (wr.alloc (.cells #[.int .i64 x.kind, .int .i64 x.num, .int .i64 x.place, .slice A3 l3 c3, .slice A4 l4 c4] 30)) := (Below.refl _ _).alloc (Nat.le_refl _) _
          have HO := Lib.hid (ownsRow_move hown (fun q hq => hA.block q (hown.lt q hq).2))
          have HB := Lib.hid hA
          have hjl : done.length ≤ 1099511627775 := by have := HU.out.2.1; have := HN.out; omega
          clear hu hkl hx hy ax ay k0 k1 hv hown hin hFi hA hsw
          go_wp2_with (at_builtin; refine wpList_app rfl (.tmp 24) (.tmp 29) 28 rfl 0 30 _ 5 72 Tryd.underlying28 infoTm rfl (by decide) (.slice A done.length c) done.length inner rfl HO.out ⟨wr.heap.size, 0, none⟩ 1 1 [.int .i64 x.kind, .int .i64 x.num, .int .i64 x.place, .slice A3 l3 c3, .slice A4 l4 c4] rfl rfl (news_at (Blk.new wr _ _)) (by simp [Value.oneCell']) (by simp only [maxLen]; omega) (by omega) (Nat.zero_le _) ?_)
          intro v2 w5 hown2 hg hat
          obtain ⟨A9, c9, rfl⟩ := own_slice hown2
          obtain ⟨⟨F', hp⟩, hold⟩ := HV.out.2.2.2.push (Below.refl _ _) HX.out HB.out rfl (fun inner' hi' => by rw [ownsRow_unique hi' HW.out]; exact hown2) hg (by rw [World.size_alloc]; exact hat) (fun q hq => (hown2.lt q hq).2)
          have k0 : Blk w5 w.heap.size _ _ := (hold _ (by omega)).trans HV.out.2.1
          have k1 : Blk w5 (w.heap.size + 1) _ _ := (hold _ (by omega)).trans HV.out.2.2.1
          have g5 := k0.cell
          have f5 := k0.frozen
          simp only [Tm.kind, Tm.num, Tm.place] at g5
          have hc5 := (bcell hp.hb).1
          have HP := Lib.hid (And.intro hp (And.intro k0 k1))
          have n5 := k0.lt
          clear hown2 hg hat hp hold k0 k1 g0 hcw d0 d1 d2 d3 d4 n0
          go_wp2
          clear e0 e1 e2 e3 e4 hc5 g5 f5
          go_roundw
          case rel =>
            obtain ⟨hp, k0, k1⟩ := HP.out
            obtain ⟨h1, h2, h3, h4⟩ := HU.out
            have hkx := h4.kid x (by simp)
            have hky := h4.kid y (by simp)
            simp only [Tm.nodes, Tm.nodesL] at h2
            refine ⟨done.length + 1, y, done ++ [x], A5, l5, c5, A6, l6, c6, A9, c9, F', by go_num, by omega, by simp, by simp, Lib.hid ⟨?_, by omega, ?_, hky⟩, Lib.hid ⟨HY.out, put5_blk k0, (put5_at _ _ _ _ _ _ _ _ (by omega)).trans k1, ?_⟩⟩
            · rw [h1, show n - done.length = (n - (done.length + 1)) + 1 by omega, openT_two, if_pos rfl, Option.map_map]
              congr 1
              funext p
              simp
            · intro z hz
              rcases List.mem_append.1 hz with hz | hz
              · exact h3 z hz
              · obtain rfl := List.mem_singleton.1 hz
                exact ⟨hkx, by omega⟩
            · rw [List.length_append, List.length_singleton]
              exact hp.set _ _ _ _ _
          case measure => simp [intOf]; omega
        · have hz : openT n t = none := by
            rw [HU.out.1, show n - done.length = (n - (done.length + 1)) + 1 by omega, openT_not (.inr hl)]; rfl
          have hl2 : (l2 : Int) ≠ 2 := by omega
          rw [hz]
          have HZ := Lib.hid hv.hb
          clear hu hkl k0 k1 hv hz
          go_wp2
          exact ⟨rfl, HZ.out, rfl⟩
      · have hz : openT n t = none := by
          rw [HU.out.1, show n - done.length = (n - (done.length + 1)) + 1 by omega, openT_not (.inl hk)]; rfl
        rw [hz]
        have HZ := Lib.hid hv.hb
        clear hu hkl k0 k1 hv hz
        go_wp2
        exact ⟨rfl, HZ.out, rfl⟩
    · have hjn : done.length = n := by omega
      have hz : openT n t = some (done, u) := by
        rw [HU.out.1, show n - done.length = 0 by omega]
        simp [openT]
      rw [hz]
      obtain ⟨hu, k0, k1, hv⟩ := HV.out
      have g0 := k0.cell
      have n0 := k0.lt
      have hRO : OwS (RdR w) 5 30 wr (.slice A done.length c) done F := hv.hO
      have HIns := Lib.hid (show Ins wr (.slice A done.length c) done from ⟨OwS.rd (fun x cs G _ h => RdT.below (keeps_of hv.hb) _ _ h.1) hRO, by have := HU.out.2.1; have := HN.out; omega, fun x hx => ⟨(HU.out.2.2.1 x hx).1, by have := (HU.out.2.2.1 x hx).2; have := HN.out; omega⟩⟩)
      have HIn := Lib.hid (show In wr u _ from ⟨RdT.below (keeps_of hv.hb) _ _ hu, HU.out.2.2.2, by have := HU.out.2.1; have := HN.out; omega⟩)
      have HKr := Lib.hid (HK.out.below hv.hb)
      have HZ := Lib.hid hz
      clear hu k0 k1 hv hz hRO hjn
      go_wp2_with fail
      refine start_ (n := 6) (S := fun W' => ∀ b o, b < wr.heap.size → W'.cell? ⟨b, o, none⟩ = wr.cell? ⟨b, o, none⟩) (ds := [5]) #[false, false, false, false, false, false] (by kernel_rfl) rfl rfl (by exact (fun _ _ _ => rfl)) (fun hHeld => ?_)
      refine take_ (i := 0) (N := some 36) (v := ?_) (a' := ?_) #[true, false, false, false, false, false] rfl rfl (by kernel_rfl) (fun _ _ _ h => h) (Or.inl ⟨by rfl, ?_⟩) hHeld ?_ ?_
      rotate_left
      · rintro w' hS'
        go_simp
        with_reducible rfl
      rotate_left
      · simp only [Act.put, List.setIfInBounds_toArray, List.set_cons_zero, List.set_cons_succ]
        rfl
      refine take_ (i := 2) (N := some 38) (v := ?_) (a' := ?_) #[true, false, true, false, false, false] rfl rfl (by kernel_rfl) (fun _ _ _ h => h) (Or.inl ⟨by rfl, ?_⟩) hHeld ?_ ?_
      rotate_left
      · rintro w' hS'
        go_simp
        with_reducible rfl
      rotate_left
      · simp only [Act.put, List.setIfInBounds_toArray, List.set_cons_zero, List.set_cons_succ]
        rfl
      refine one_ (i := 1) (N := some 37) #[true, true, true, false, false, false] rfl rfl (by kernel_rfl) (by decide) (fun K hK => ?_)
      go_simp
      refine (owns_len done _ _ (HKr.out.below (Below.refl _ _).drew) (HIns.out.keeps (keeps_of (Below.refl _ _).drew))).mono ?_
      rintro e w2 ⟨A3, c3, F2, rfl, hO2, hF2, hb2⟩
      have H2 := Lib.hid (And.intro hO2 (And.intro (show Fr wr.heap.size w2 F2 from hF2) (undrew hb2)))
      clear hO2 hF2 hb2
      refine hK.out _ _ (keeps_of H2.out.2.2) (fun hHeld => ?_)
      clear hK K
      refine norm_ (a' := ?_) ?_ ?_
      rotate_left
      · first
          | rfl
          | (simp only [Act.put, List.setIfInBounds_toArray, List.set_cons_zero, List.set_cons_succ]; rfl)
      refine one_ (i := 3) (N := some 39) #[true, true, true, true, false, false] rfl rfl (by kernel_rfl) (by decide) (fun K hK => ?_)
      go_simp
      refine (ownT_any u _ w2 (HKr.out.below H2.out.2.2) (HIn.out.keeps (keeps_of H2.out.2.2))).mono ?_
      rintro e w3 ⟨cs3, F3, rfl, hO3, hF3, hb3⟩
      obtain ⟨A4, l4, c4, A5, l5, c5, rfl⟩ := hO3.cells
      have hb23 := H2.out.2.2.trans (hb3.mono H2.out.2.2.size)
      have k1 := HV.out.2.2.1.below hb23
      have c1' := k1.cell
      have f1' := k1.frozen
      have H3 := Lib.hid (And.intro hO3 (And.intro hF3 (And.intro hb3 (And.intro hb23 k1))))
      clear hO3 hF3 hb3 k1 hb23
      refine hK.out _ _ (keeps_of H3.out.2.2.2.1) (fun hHeld => ?_)
      clear hK K
      refine norm_ (a' := ?_) ?_ ?_
      rotate_left
      · first
          | rfl
          | (simp only [Act.put, List.setIfInBounds_toArray, List.set_cons_zero, List.set_cons_succ]; rfl)
      refine pure_ (i := 4) (N := some 4) (v := ?_) (a' := ?_) #[true, true, true, true, true, false] rfl rfl (by kernel_rfl) (fun _ _ _ h => h) (Or.inl ⟨by rfl, ?_⟩) ?_ ?_
      rotate_left
      · rintro w'
        go_simp
        with_reducible rfl
      rotate_left
      · simp only [Act.put, List.setIfInBounds_toArray, List.set_cons_zero, List.set_cons_succ]
        rfl
      refine last_ (i := 5) (N := none) #[true, true, true, true, true, true] rfl rfl (by kernel_rfl) (by decide) (fun K hK => ?_)
      go_simp
      refine hK.out _ _ ?_
      clear hK K
      refine norm_ (a' := ?_) ?_ ?_
      rotate_left
      · first
          | rfl
          | (simp only [Act.put, List.setIfInBounds_toArray, List.set_cons_zero, List.set_cons_succ]; rfl)
      refine done_ (by kernel_rfl) ?_
      clear g0 c1' f1'
      go_wp2
      have hvb := HV.out.2.2.2.hb
      have hvs := HV.out.2.2.2.hs
      obtain ⟨hO3, hF3, hb3, hb23, k1⟩ := H3.out
      obtain ⟨hO2, hF2, hb2⟩ := H2.out
      have hFF : Fr wr.heap.size w3 (F2 ++ F3) := hF2.append hF3 hb3.size hb2.size
      have hne : ∀ q ∈ F2 ++ F3, q ≠ w.heap.size + 1 := fun q hq => by have := (hFF.2 q hq).1; omega
      have hsm := put5_same (c0 := .int .i64 (ownT u).kind) (c1 := .int .i64 (ownT u).num) (c2 := .int .i64 (ownT u).place) (c3 := .slice A4 l4 c4) (c4 := .slice A5 l5 c5) (w := w3) hne
      refine bodyPost_ret (ret_tmp_term Tryd.results56 rfl rfl (put5_blk k1)) rfl ?_
      rw [HZ.out]
      exact ⟨put5_below (hvb.trans (hb23.mono hvb.size)) (by omega), A3, c3, _, (F2, F3), rfl, (hO2.move (Same.of_below hF2 hb3)).move hsm.left, OwT.mov _ _ _ _ _ hsm.right hO3, hFF.mono (by omega) (Nat.le_of_eq (put5_size _ _ _ _ _ _ _).symm)⟩
end Go.Proofs.YtebgldnlkkhejaaDoor

/-! ## tele: Open (it recovers). -/
namespace Go.Proofs.YtebgldnlkkhejaaDoor
set_option linter.unusedSimpArgs false
set_option linter.unusedVariables false
open Go Go.RowKit Go.Proofs.YtebgldnlkkhejaaDoorW.PrintLast

set_option maxRecDepth 100000 in
set_option maxHeartbeats 800000 in
theorem few_panicking (g : Nat) (x : Value) (d0 d1 d2 d3 d4 : Value) (y : Bool) (older : List PanicEntry) (w : World) (k0 : Blk w g #[x] 28) (k1 : Blk w (g + 1) #[d0, d1, d2, d3, d4] 30) (k2 : Blk w (g + 1 + 1) #[.bool y] 4) :
    CallsD Tryd.prog 55 #[.pointer (some ⟨g, 0, none⟩), .pointer (some ⟨g + 1, 0, none⟩), .pointer (some ⟨g + 1 + 1, 0, none⟩)] (.panicking ({ v := .iface 86 (.agg #[]), recovered := false } :: older)) w fun e u' w' =>
      e = .returned (.tuple #[]) ∧ u' = .panicking ({ v := .iface 86 (.agg #[]), recovered := true } :: older) ∧ Blk w' g #[.slice none 0 0] 28 ∧ Blk w' (g + 1) #[.int .i64 0, .int .i64 0, .int .i64 0, .slice none 0 0, .slice none 0 0] 30 ∧ Blk w' (g + 1 + 1) #[.bool false] 4 ∧ (∀ N, N ≤ g → Below N w w') := by
  have hta : ∀ w, (Instr.typeAssert (.iface 86 (.agg #[])) 20 86 true).run Tryd.prog w = .ok (.tuple #[.agg #[], .bool true]) w := fun _ => by kernel_rfl
  have l0 := k0.lt
  have l1 := k1.lt
  have l2 := k2.lt
  have c0 := k0.cell
  have c1 := k1.cell
  have c2 := k2.cell
  have f0 := k0.frozen
  have f1 := k1.frozen
  have f2 := k2.frozen
  refine callsD_of_wpS Tryd.func55 rfl fun c₀ cs hu => ?_
  apply wpS_seq
  apply wpS_region
  simp [wpOpsS, go_sem, recoverD, hu, Tryd.ntmps55, Exit.thenS]
  refine wpS_of_wp ?_
  simp only [Array.replicate_succ, Array.replicate_zero, List.push_toArray, List.setIfInBounds_toArray, List.append_toArray, List.nil_append, List.cons_append, List.set_cons_zero, List.set_cons_succ]
  go_wp2
  refine ⟨rfl, _, rfl, _, by simp [results, Tryd.results55], rfl, rfl, ?_, ?_, ?_, fun N hN => ?_⟩
  · exact (Blk.far (show Blk (put5 (w.setCell ⟨g, 0, none⟩ (.slice none 0 0)) (g + 1) (.int .i64 0) (.int .i64 0) (.int .i64 0) (.slice none 0 0) (.slice none 0 0)) g _ _ from (put5_at _ _ _ _ _ _ _ _ (by omega)).trans (k0.set 0 _)) (by simp; omega) _).alloc _
  · exact ((put5_blk (k1.far (by simp) _)).far (by simp) _).alloc _
  · exact (Blk.set (show Blk (put5 (w.setCell ⟨g, 0, none⟩ (.slice none 0 0)) (g + 1) (.int .i64 0) (.int .i64 0) (.int .i64 0) (.slice none 0 0) (.slice none 0 0)) (g + 1 + 1) _ _ from (put5_at _ _ _ _ _ _ _ _ (by omega)).trans (k2.far (by simp; omega) _)) 0 _).alloc _
  · have h1 : Below N w (put5 (w.setCell ⟨g, 0, none⟩ (.slice none 0 0)) (g + 1) (.int .i64 0) (.int .i64 0) (.int .i64 0) (.slice none 0 0) (.slice none 0 0)) := put5_below ((Below.refl N w).setCell (p := ⟨g, 0, none⟩) (by exact hN) _) (by omega)
    have h2 := h1.setCell (p := ⟨g + 1 + 1, 0, none⟩) (by show N ≤ g + 1 + 1; omega) (.bool false)
    exact h2.alloc (Nat.le_trans (by omega) h2.size) _
set_option maxRecDepth 100000 in
set_option maxHeartbeats 400000 in
/-- .. while a frame returns: it does nothing. -/
theorem few_idle (a b c : Value) (w : World) :
    CallsD Tryd.prog 55 #[a, b, c] .returning w fun e u' w' => e = .returned (.tuple #[]) ∧ u' = .returning ∧ w = w' := by
  refine callsD_of_wpS Tryd.func55 rfl fun c₀ cs hu => ?_
  apply wpS_seq
  apply wpS_region
  simp [wpOpsS, go_sem, recoverD, hu, Tryd.ntmps55, Exit.thenS]
  refine wpS_of_wp ?_
  simp only [Array.replicate_succ, Array.replicate_zero, List.push_toArray, List.setIfInBounds_toArray, List.append_toArray, List.nil_append, List.cons_append, List.set_cons_zero, List.set_cons_succ]
  go_wp2
  cases c₀
  simp_all [bodyPostS, results, Tryd.results55]
def openZ (n : Int) (t : Tm) : Option (List Tm × Tm) := if n < 0 then none else openT n.toNat t
/-- How Open ends. -/
def OpenPost (w : World) (o : Option (List Tm × Tm)) (e : Ending) (w' : World) : Prop := Below w.heap.size w w' ∧
  match o with
  | none => e = .returned (.tuple #[.slice none 0 0, .agg #[.int .i64 0, .int .i64 0, .int .i64 0, .slice none 0 0, .slice none 0 0], .bool false])
  | some p => ∃ (A : Option Addr) (c : Nat) (cs : List Value) (F : List Nat × List Nat), e = .returned (.tuple #[.slice A p.1.length c, .agg cs.toArray, .bool true]) ∧ OwTs w' (.slice A p.1.length c) (p.1.map ownT) (F.1) ∧ OwT w' (ownT p.2) cs F.2 ∧ Fr w.heap.size w' (F.1 ++ F.2)
theorem openZ_any (t : Tm) (cs : List Value) (n : Int) (w : World) (hK : Kinds w) (h : In w t cs) (hnn : n ≤ 9223372036854775807) (hnodes : t.nodes ≤ 1099511627775) :
    Calls Tryd.prog 56 #[.agg cs.toArray, .int .i64 n] w (Opens w (openZ n t)) := by
  by_cases hn : n < 0
  · rw [openZ, if_pos hn]; exact open_neg t cs n w h.rd hn
  · rw [openZ, if_neg hn]
    have := open_any t cs n.toNat w hK h (by omega) hnodes
    rwa [show ((n.toNat : Nat) : Int) = n by omega] at this
/-- Three results stored. -/
theorem three_set {X : World} {g : Nat} {x x' d0 d1 d2 d3 d4 c0 c1 c2 c3 c4 y y' : Value} {F : List Nat} {N : Nat} {T1 T2 T3 : TypeId} (j1 : Blk X g #[x] T1) (j2 : Blk X (g + 1) #[d0, d1, d2, d3, d4] T2) (j3 : Blk X (g + 1 + 1) #[y] T3) (hF : ∀ q ∈ F, g + 1 + 1 < q) (hN : N ≤ g) :
    Blk ((put5 (X.setCell ⟨g, 0, none⟩ x') (g + 1) c0 c1 c2 c3 c4).setCell ⟨g + 1 + 1, 0, none⟩ y') g #[x'] T1 ∧ Blk ((put5 (X.setCell ⟨g, 0, none⟩ x') (g + 1) c0 c1 c2 c3 c4).setCell ⟨g + 1 + 1, 0, none⟩ y') (g + 1) #[c0, c1, c2, c3, c4] T2 ∧
    Blk ((put5 (X.setCell ⟨g, 0, none⟩ x') (g + 1) c0 c1 c2 c3 c4).setCell ⟨g + 1 + 1, 0, none⟩ y') (g + 1 + 1) #[y'] T3 ∧ Same F X ((put5 (X.setCell ⟨g, 0, none⟩ x') (g + 1) c0 c1 c2 c3 c4).setCell ⟨g + 1 + 1, 0, none⟩ y') ∧
    Below N X ((put5 (X.setCell ⟨g, 0, none⟩ x') (g + 1) c0 c1 c2 c3 c4).setCell ⟨g + 1 + 1, 0, none⟩ y') ∧ ((put5 (X.setCell ⟨g, 0, none⟩ x') (g + 1) c0 c1 c2 c3 c4).setCell ⟨g + 1 + 1, 0, none⟩ y').heap.size = X.heap.size := by
  have hat := put5_at (X.setCell ⟨g, 0, none⟩ x') (g + 1) c0 c1 c2 c3 c4
  refine ⟨Blk.far (show Blk (put5 (X.setCell ⟨g, 0, none⟩ x') (g + 1) c0 c1 c2 c3 c4) g _ _ from (hat _ (by omega)).trans (j1.set 0 x')) (by simp; omega) _, (put5_blk (j2.far (a := ⟨g, 0, none⟩) (by simp) x')).far (by simp) _,
    Blk.set (show Blk (put5 (X.setCell ⟨g, 0, none⟩ x') (g + 1) c0 c1 c2 c3 c4) (g + 1 + 1) _ _ from (hat _ (by omega)).trans (j3.far (a := ⟨g, 0, none⟩) (by simp; omega) x')) 0 y', fun q hq => ?_, ?_, ?_⟩
  · have := hF q hq
    exact (Below.heap_setCell _ _ _ _ (by simp; omega)).trans ((hat q (by omega)).trans (Below.heap_setCell _ _ _ _ (by simp; omega)))
  · exact (put5_below ((Below.refl N X).setCell (p := ⟨g, 0, none⟩) (by exact hN) _) (by omega)).setCell (p := ⟨g + 1 + 1, 0, none⟩) (by show N ≤ g + 1 + 1; omega) _
  · rw [show ((put5 (X.setCell ⟨g, 0, none⟩ x') (g + 1) c0 c1 c2 c3 c4).setCell ⟨g + 1 + 1, 0, none⟩ y').heap.size = (put5 (X.setCell ⟨g, 0, none⟩ x') (g + 1) c0 c1 c2 c3 c4).heap.size from by simp [World.setCell], put5_size]
    simp [World.setCell]
set_option maxRecDepth 100000 in
set_option maxHeartbeats 1000000 in
theorem Open_any (t : Tm) (cs : List Value) (n : Int) (w : World) (hK : Kinds w) (h : In w t cs) (hnn : n ≤ 9223372036854775807) (hnodes : t.nodes ≤ 1099511627775) :
    Calls Tryd.prog 20 #[.agg cs.toArray, .int .i64 n] w (OpenPost w (openZ n t)) := by
  obtain ⟨A1, l1, c1, A2, l2, c2, rfl⟩ := h.rd.cells
  have hmf : ∀ (fn : Fn) (first cap : Array Value) (w : World), (Instr.makeFunc fn first cap).run Tryd.prog w = .ok (.func fn first cap) w := fun _ _ _ _ => rfl
  have HB := Lib.hid (blks4 w #[.int .i64 t.kind, .int .i64 t.num, .int .i64 t.place, .slice A1 l1 c1, .slice A2 l2 c2] #[.slice none 0 0] #[.int .i64 0, .int .i64 0, .int .i64 0, .slice none 0 0, .slice none 0 0] #[.bool false] 30 28 30 4)
  have HI := Lib.hid (And.intro h (And.intro hK (And.intro hnn hnodes)))
  clear h hK hnn hnodes
  go_enter_defers Tryd.func20, Tryd.ntmps20
  go_wp2_with fail
  generalize ((((w.alloc _).alloc _).alloc _).alloc _) = W at *
  obtain ⟨k0, k1, k2, k3, hb, hsz⟩ := HB.out
  have HC := Lib.hid (openZ_any t _ n W (HI.out.2.1.below hb) (HI.out.1.keeps (keeps_of hb)) HI.out.2.2.1 HI.out.2.2.2)
  have H2 := Lib.hid (And.intro k1 (And.intro k2 (And.intro k3 (And.intro hb hsz))))
  clear k0 k1 k2 k3 hb hsz HB
  refine HC.out.mono ?_
  rintro e w1 ⟨hb1, ho⟩
  obtain ⟨k1, k2, k3, hb, hsz⟩ := H2.out
  replace k1 := k1.below hb1
  replace k2 := k2.below hb1
  replace k3 := k3.below hb1
  have hw := hb.trans (hb1.mono hb.size)
  cases hz : openZ n t with
  | none =>
    have HZ := Lib.hid hz
    rw [hz] at ho
    dsimp only at ho
    subst ho
    clear hb hb1 H2 hmf hz HC
    unfold fewEnd
    dsimp only
    refine leaves_cons (f := 55) (args := #[.pointer (some ⟨w.heap.size + 1, 0, none⟩), .pointer (some ⟨w.heap.size + 1 + 1, 0, none⟩), .pointer (some ⟨w.heap.size + 1 + 1 + 1, 0, none⟩)]) (by simp) (by simp [go_sem]) ?_
    refine (few_panicking _ _ _ _ _ _ _ _ _ _ k1 k2 k3).mono ?_
    rintro e u' w2 ⟨rfl, rfl, j1, j2, j3, hj⟩
    have q1 := j1.cell 0
    have q20 := j2.cell 0
    have q21 := j2.cell 1
    have q22 := j2.cell 2
    have q23 := j2.cell 3
    have q24 := j2.cell 4
    have q3 := j3.cell 0
    refine ⟨.tuple #[.slice none 0 0, .agg #[.int .i64 0, .int .i64 0, .int .i64 0, .slice none 0 0, .slice none 0 0], .bool false], ?_, hw.trans ((hj (w.heap.size + 1) (by omega)).mono (by omega)), rfl⟩
    simp [results, Tryd.results20, go_sem, q1, q20, q21, q22, q23, q24, q3]
  | some p =>
    have HZ := Lib.hid hz
    rw [hz] at ho
    obtain ⟨A, c, cs, F, rfl, hO1, hO2, hF⟩ := ho
    obtain ⟨A3, l3, c3, A4, l4, c4, rfl⟩ := hO2.cells
    have g1 := k1.cell
    have g2 := k2.cell
    have g3 := k3.cell
    have f1 := k1.frozen
    have f2 := k2.frozen
    have f3 := k3.frozen
    have n1 := k1.lt
    have n2 := k2.lt
    have n3 := k3.lt
    have HE := Lib.hid (And.intro k1 (And.intro k2 (And.intro k3 (And.intro hw (And.intro hO1 (And.intro hO2 hF))))))
    clear k1 k2 k3 hb hb1 hw hO1 hO2 hF hz H2 HC
    go_wp2_with fail
    obtain ⟨k1, k2, k3, hw, hO1, hO2, hF⟩ := HE.out
    have hlo : ∀ q ∈ F.1 ++ F.2, w.heap.size + 4 ≤ q := fun q hq => by have := (hF.2 q hq).1; omega
    have m1 : Same (F.1 ++ F.2) w1 (w1.setCell ⟨w.heap.size + 1, 0, none⟩ (.slice A p.1.length c)) := fun q hq => Below.heap_setCell _ _ _ _ (by have := hlo q hq; simp; omega)
    have m2 := put5_same (c0 := .int .i64 (ownT p.2).kind) (c1 := .int .i64 (ownT p.2).num) (c2 := .int .i64 (ownT p.2).place) (c3 := .slice A3 l3 c3) (c4 := .slice A4 l4 c4) (w := w1.setCell ⟨w.heap.size + 1, 0, none⟩ (.slice A p.1.length c)) (g := w.heap.size + 1 + 1) (F := F.1 ++ F.2) (fun q hq => by have := hlo q hq; omega)
    have hat := put5_at (w1.setCell ⟨w.heap.size + 1, 0, none⟩ (.slice A p.1.length c)) (w.heap.size + 1 + 1) (.int .i64 (ownT p.2).kind) (.int .i64 (ownT p.2).num) (.int .i64 (ownT p.2).place) (.slice A3 l3 c3) (.slice A4 l4 c4)
    have j1 := (hat (w.heap.size + 1) (by omega)).trans (k1.set 0 (.slice A p.1.length c))
    have j2 := put5_blk (c0 := .int .i64 (ownT p.2).kind) (c1 := .int .i64 (ownT p.2).num) (c2 := .int .i64 (ownT p.2).place) (c3 := .slice A3 l3 c3) (c4 := .slice A4 l4 c4) (k2.far (a := ⟨w.heap.size + 1, 0, none⟩) (by simp) (.slice A p.1.length c))
    have j3 := (hat (w.heap.size + 1 + 1 + 1) (by omega)).trans (k3.far (a := ⟨w.heap.size + 1, 0, none⟩) (by simp; omega) (.slice A p.1.length c))
    have hX := put5_below (c0 := .int .i64 (ownT p.2).kind) (c1 := .int .i64 (ownT p.2).num) (c2 := .int .i64 (ownT p.2).place) (c3 := .slice A3 l3 c3) (c4 := .slice A4 l4 c4) (hw.setCell (p := ⟨w.heap.size + 1, 0, none⟩) (by simp) (.slice A p.1.length c)) (show w.heap.size ≤ w.heap.size + 1 + 1 by omega)
    have hO1' := (hO1.move m1.left).move m2.left
    have hO2' := OwT.mov _ _ _ _ _ m2.right (OwT.mov _ _ _ _ _ m1.right hO2)
    have hsz2 := put5_size (w1.setCell ⟨w.heap.size + 1, 0, none⟩ (.slice A p.1.length c)) (w.heap.size + 1 + 1) (.int .i64 (ownT p.2).kind) (.int .i64 (ownT p.2).num) (.int .i64 (ownT p.2).place) (.slice A3 l3 c3) (.slice A4 l4 c4)
    have hF' : Fr (w.heap.size + 4) (put5 (w1.setCell ⟨w.heap.size + 1, 0, none⟩ (.slice A p.1.length c)) (w.heap.size + 1 + 1) (.int .i64 (ownT p.2).kind) (.int .i64 (ownT p.2).num) (.int .i64 (ownT p.2).place) (.slice A3 l3 c3) (.slice A4 l4 c4)) (F.1 ++ F.2) := ⟨hF.1, fun q hq => ⟨hlo q hq, by rw [hsz2]; simpa [World.setCell] using (hF.2 q hq).2⟩⟩
    clear hw hO1 hO2 hF k1 k2 k3 HE m1 m2 hat hlo g1 g2 g3 f1 f2 f3 n1 n2 n3 hsz2
    obtain ⟨X, hXe⟩ : ∃ X, X = put5 (w1.setCell ⟨w.heap.size + 1, 0, none⟩ (.slice A p.1.length c)) (w.heap.size + 1 + 1) (.int .i64 (ownT p.2).kind) (.int .i64 (ownT p.2).num) (.int .i64 (ownT p.2).place) (.slice A3 l3 c3) (.slice A4 l4 c4) := ⟨_, rfl⟩
    have hXu := hXe
    unfold put5 at hXu
    rw [← hXu]
    rw [← hXe] at j1 j2 j3 hX hO1' hO2' hF'
    clear hXe hXu
    replace j1 : Blk X (w.heap.size + 1) #[.slice A p.1.length c] 28 := j1
    replace j3 : Blk X (w.heap.size + 1 + 1 + 1) #[.bool false] 4 := j3
    have g1 := j1.cell
    have g2 := j2.cell
    have g3 := j3.cell
    have f1 := j1.frozen
    have f2 := j2.frozen
    have f3 := j3.frozen
    have n1 := j1.lt
    have n2 := j2.lt
    have n3 := j3.lt
    have HE := Lib.hid (And.intro j1 (And.intro j2 (And.intro j3 (And.intro hX (And.intro hO1' (And.intro hO2' hF'))))))
    clear j1 j2 j3 hX hO1' hO2' hF'
    go_region
    all_goals clear g1 g2 g3 f1 f2 f3
    all_goals go_wp2
    obtain ⟨j1, j2, j3, hX, hO1, hO2, hF⟩ := HE.out
    obtain ⟨y1, y2, y3, hS, hY, hYs⟩ := three_set (x' := .slice A p.1.length c) (c0 := .int .i64 (ownT p.2).kind) (c1 := .int .i64 (ownT p.2).num) (c2 := .int .i64 (ownT p.2).place) (c3 := .slice A3 l3 c3) (c4 := .slice A4 l4 c4) (y' := .bool true) (F := F.1 ++ F.2) (N := w.heap.size) j1 j2 j3 (fun q hq => by have := (hF.2 q hq).1; omega) (by omega)
    refine leaves_cons (f := 55) (args := #[.pointer (some ⟨w.heap.size + 1, 0, none⟩), .pointer (some ⟨w.heap.size + 1 + 1, 0, none⟩), .pointer (some ⟨w.heap.size + 1 + 1 + 1, 0, none⟩)]) (by simp) (by simp [go_sem]) ?_
    refine (few_idle _ _ _ _).mono ?_
    rintro e u' w2 ⟨rfl, rfl, rfl⟩
    obtain ⟨Y, hYe⟩ : ∃ Y, Y = (put5 (X.setCell ⟨w.heap.size + 1, 0, none⟩ (.slice A p.1.length c)) (w.heap.size + 1 + 1) (.int .i64 (ownT p.2).kind) (.int .i64 (ownT p.2).num) (.int .i64 (ownT p.2).place) (.slice A3 l3 c3) (.slice A4 l4 c4)).setCell ⟨w.heap.size + 1 + 1 + 1, 0, none⟩ (.bool true) := ⟨_, rfl⟩
    have hYu := hYe
    unfold put5 at hYu
    rw [← hYu]
    rw [← hYe] at y1 y2 y3 hS hY hYs
    clear hYe hYu
    have q1 := y1.drew.cell 0
    have q20 := y2.drew.cell 0
    have q21 := y2.drew.cell 1
    have q22 := y2.drew.cell 2
    have q23 := y2.drew.cell 3
    have q24 := y2.drew.cell 4
    have q3 := y3.drew.cell 0
    refine ⟨.tuple #[.slice A p.1.length c, .agg #[.int .i64 (ownT p.2).kind, .int .i64 (ownT p.2).num, .int .i64 (ownT p.2).place, .slice A3 l3 c3, .slice A4 l4 c4], .bool true], ?_, ?_⟩
    · simp [results, Tryd.results20, go_sem, q1, q20, q21, q22, q23, q24, q3]
    · rw [HZ.out]
      exact ⟨(hX.trans hY).drew, A, c, _, F, rfl, hO1.move hS.left, OwT.mov _ _ _ _ _ hS.right hO2, hF.mono (by omega) (Nat.le_of_eq hYs.symm)⟩
end Go.Proofs.YtebgldnlkkhejaaDoor

/-! ## tele: Lifts. -/
namespace Go.Proofs.YtebgldnlkkhejaaDoor
set_option linter.unusedSimpArgs false
set_option linter.unusedVariables false
open Go Go.RowKit Go.Proofs.YtebgldnlkkhejaaDoorW.PrintLast

/-- A row lifted. -/
def liftsT (n frm : Int) : Nat → List Tm → List Tm
  | _, [] => []
  | j, t :: ts => liftT n (wrap64 (frm + (j : Nat))) 0 t :: liftsT n frm (j + 1) ts
theorem liftsT_length (n frm : Int) : ∀ (ts : List Tm) (j : Nat), (liftsT n frm j ts).length = ts.length
  | [], _ => rfl
  | t :: ts, j => by simp [liftsT, liftsT_length n frm ts]
theorem liftsT_take (n frm : Int) : ∀ (ts : List Tm) (i j : Nat) (h : j < ts.length), liftsT n frm i (ts.take (j + 1)) = liftsT n frm i (ts.take j) ++ [liftT n (wrap64 (frm + ((i + j : Nat) : Int))) 0 ts[j]]
  | [], _, _, h => by simp at h
  | t :: ts, i, 0, _ => by simp [liftsT]
  | t :: ts, i, j + 1, h => by
    simp only [List.take_succ_cons, liftsT, List.cons_append, List.getElem_cons_succ]
    rw [liftsT_take n frm ts (i + 1) j (by simpa using h)]
    rw [show i + 1 + j = i + (j + 1) by omega]

set_option maxRecDepth 100000 in
set_option maxHeartbeats 2000000 in
theorem Lifts_any (n frm : Int) (ts : List Tm) (vk : Value) (w : World) (hK : Kinds w) (h : Ins w vk ts) :
    Calls Tryd.prog 28 #[vk, .int .i64 n, .int .i64 frm] w (OutTs w (liftsT n frm 0 ts)) := by
  obtain ⟨A0, c0, rfl, hc0, hm0, hr⟩ := id h.rd
  have HIN := Lib.hid (fun (i : Nat) (hi : i < ts.length) (W : World) (hb : Below w.heap.size w W) (cs : List Value) (hcs : RdT w ts[i] cs) => Lift_any ts[i] cs n (wrap64 (frm + (i : Nat))) W (hK.below hb) ⟨RdT.below (keeps_of hb) _ _ hcs, (h.ok _ (List.getElem_mem hi)).1, (h.ok _ (List.getElem_mem hi)).2⟩)
  have HI : OInv w (.slice none 0 0) [] [] w := ⟨Below.refl _ _, OwS.nil _ _ _ _, Fr.nil _ _⟩
  have HI := Lib.hid HI
  have HR := Lib.hid hr
  have HL := Lib.hid h.len
  have hkl : (ts.length : Int) ≤ 9223372036854775807 := by have := h.len; omega
  clear hK h hc0 hm0 hr
  go_enter Tryd.func28, Tryd.ntmps28
  go_wp2_with fail
  go_loopw [6, 11] (fun v i wr => ∃ j : Nat, j ≤ ts.length ∧ i = .int .i64 j ∧ ∃ A c F, v = .slice A j c ∧ Hid (OInv w (.slice A j c) (liftsT n frm 0 (ts.take j)) F wr)) (fun _ i _ => ts.length - (intOf i).toNat)
  case atStart => exact ⟨0, by omega, rfl, none, 0, [], rfl, HI⟩
  case round =>
    obtain ⟨j, hj, rfl, A, c, F, rfl, HV⟩ := hrel
    clear HI
    by_cases hlt : j < ts.length
    · rcases HR.out with rfl | ⟨b, o, rfl, hkr⟩
      · simp at hlt
      obtain ⟨q0, q1, q2, A5, l5, c5, A6, l6, c6, hTk, e0, e1, e2, e3, e4, hbl⟩ := RdT_at hkr j hlt
      have hv := HV.out
      have hcw := (bcell hv.hb).1
      have HTk := Lib.hid hTk
      have hj0 : (0 : Int) ≤ (j : Int) := Int.natCast_nonneg _
      have hj1 : (j : Int) < (ts.length : Int) := by omega
      have hl0 : (liftsT n frm 0 (ts.take j)).length = j := by rw [liftsT_length, List.length_take]; omega
      clear hkr hTk hv
      go_wp2_with fail
      clear e0 e1 e2 e3 e4 hcw
      have hv := HV.out
      have hA : Below wr.heap.size wr (wr.alloc (.cells #[.int .i64 q0, .int .i64 q1, .int .i64 q2, .slice A5 l5 c5, .slice A6 l6 c6] 30)) := (Below.refl _ _).alloc (Nat.le_refl _) _
      refine (HIN.out j hlt _ (hv.hb.trans (hA.mono hv.hb.size)) _ HTk.out).mono ?_
      rintro e w1 ⟨cs', Fx, rfl, hx, hFx, hb1⟩
      obtain ⟨A7, l7, c7, A8, l8, c8, rfl⟩ := hx.cells
      have hbx := hA.trans (hb1.mono hA.size)
      have HX := Lib.hid (And.intro hx (And.intro (hFx.mono hA.size (Nat.le_refl _)) hbx))
      have hOs := hv.hO
      obtain ⟨inner, Fi, hown, hin, hFi⟩ := id hOs
      rw [hl0] at hown
      have hbW1 : Below w1.heap.size w1 (w1.alloc (.cells #[.int .i64 (liftT n (wrap64 (frm + (j : Nat))) 0 ts[j]).kind, .int .i64 (liftT n (wrap64 (frm + (j : Nat))) 0 ts[j]).num, .int .i64 (liftT n (wrap64 (frm + (j : Nat))) 0 ts[j]).place, .slice A7 l7 c7, .slice A8 l8 c8] 30)) := (Below.refl _ _).alloc (Nat.le_refl _) _
      have hown1 := ownsRow_move hown (fun q hq => (hbW1.block q (Nat.lt_of_lt_of_le (hown.lt q hq).2 hbx.size)).trans (hbx.block q (hown.lt q hq).2))
      have HO := Lib.hid hown1
      have HW := Lib.hid hown
      have HB := Lib.hid hbW1
      have HL0 := Lib.hid hl0
      clear hv hx hFx hb1 hbx hOs hown hin hFi hbW1 hA hown1 hl0
      go_wp2_with (at_builtin; refine wpList_app rfl (.tmp 16) (.tmp 23) 28 rfl 0 30 _ 5 72 Tryd.underlying28 infoTm rfl (by decide) (.slice A j c) j inner rfl HO.out ⟨w1.heap.size, 0, none⟩ 1 1 [.int .i64 (liftT n (wrap64 (frm + (j : Nat))) 0 ts[j]).kind, .int .i64 (liftT n (wrap64 (frm + (j : Nat))) 0 ts[j]).num, .int .i64 (liftT n (wrap64 (frm + (j : Nat))) 0 ts[j]).place, .slice A7 l7 c7, .slice A8 l8 c8] rfl rfl (news_at (Blk.new w1 _ _)) (by simp [Value.oneCell']) (by have := HL.out; simp only [maxLen]; omega) (by have := HL.out; omega) (Nat.zero_le _) ?_)
      intro v2 w5 hown2 hg hat
      obtain ⟨A9, c9, rfl⟩ := own_slice hown2
      have HP := Lib.hid (HV.out.push HX.out.2.2 HX.out.1 HX.out.2.1 HB.out rfl (fun inner' hi' => by rw [HL0.out] at hi' ⊢; rw [ownsRow_unique hi' HW.out]; exact hown2) hg (by rw [World.size_alloc]; exact hat) (fun q hq => (hown2.lt q hq).2))
      clear hown2 hg hat
      go_wp2
      go_roundw
      case rel =>
        obtain ⟨F', hw⟩ := HP.out
        rw [show liftsT n frm 0 (ts.take j) ++ [liftT n (wrap64 (frm + (j : Nat))) 0 ts[j]] = liftsT n frm 0 (ts.take (j + 1)) from by rw [liftsT_take n frm ts 0 j hlt]; simp] at hw
        exact ⟨j + 1, by omega, by go_num, A9, c9, F', rfl, hw⟩
      case measure => simp [intOf]; omega
    · go_wp2
      go_ret
      have hjk : j = ts.length := by omega
      subst hjk
      obtain ⟨hb', hO, hF⟩ := HV.out
      rw [List.take_length] at hO
      refine ⟨A, c, F, ?_, by rw [liftsT_length]; exact hO, hF, hb'⟩
      rw [liftsT_length]
      rfl
end Go.Proofs.YtebgldnlkkhejaaDoor

/-! ## term.Size: how many nodes. -/
namespace Go.Proofs.YtebgldnlkkhejaaDoor
set_option linter.unusedSimpArgs false
set_option linter.unusedVariables false
open Go Go.RowKit Go.Proofs.YtebgldnlkkhejaaDoorW.PrintLast

def SizeOK (t : Tm) : Prop := ∀ (cs : List Value) (w : World), RdT w t cs → t.nodes ≤ 4611686018427387904 → Calls Tryd.prog 18 #[.agg cs.toArray] w (fun e w' => e = .returned (.int .i64 (t.nodes : Int)) ∧ Below w.heap.size w w')
theorem nodesL_take : ∀ (ts : List Tm) (j : Nat) (h : j < ts.length), Tm.nodesL (ts.take (j + 1)) = Tm.nodesL (ts.take j) + ts[j].nodes
  | [], _, h => by simp at h
  | t :: ts, 0, _ => by simp [Tm.nodesL]
  | t :: ts, j + 1, h => by
    simp only [List.take_succ_cons, Tm.nodesL, List.getElem_cons_succ]
    rw [nodesL_take ts j (by simpa using h)]
    omega
theorem nodesL_le : ∀ (ts : List Tm) (j : Nat), Tm.nodesL (ts.take j) ≤ Tm.nodesL ts
  | [], _ => by simp
  | t :: ts, 0 => by simp [Tm.nodesL]
  | t :: ts, j + 1 => by
    simp only [List.take_succ_cons, Tm.nodesL]
    have := nodesL_le ts j
    omega
set_option maxRecDepth 100000 in
set_option maxHeartbeats 1000000 in
theorem Size_of (k n a : Int) (lv : List Lv) (kids : List Tm) (ih : ∀ t ∈ kids, SizeOK t) : SizeOK (.mk k n a lv kids) := by
  intro cs w h hn
  obtain ⟨vl, vk, rfl, ⟨A1, c1, rfl, _⟩, hk⟩ := (RdT_mk ..).1 h
  obtain ⟨A2, c2, rfl, _, hkm, hr⟩ := id hk
  have hkl : (kids.length : Int) ≤ 9223372036854775807 := by omega
  obtain ⟨k0, hb, hsz⟩ := blks1 w #[.int .i64 k, .int .i64 n, .int .i64 a, .slice A1 lv.length c1, .slice A2 kids.length c2] 30
  have g0 := k0.cell
  have n0 := k0.lt
  have HI := Lib.hid hb
  have HR := Lib.hid hr
  have HN := Lib.hid hn
  have HIH := Lib.hid ih
  clear h hk hkm hr hn ih k0 hb hsz
  go_enter Tryd.func18, Tryd.ntmps18
  go_wp2_with fail
  clear g0 n0
  go_loopw [3, 9] (fun v i wr => ∃ (j m : Nat), j ≤ kids.length ∧ i = .int .i64 j ∧ v = .int .i64 m ∧ Hid (m = Tm.nodesL (kids.take j) + 1 ∧ Below w.heap.size w wr)) (fun _ i _ => kids.length - (intOf i).toNat)
  case atStart => exact ⟨0, 1, by omega, rfl, rfl, Lib.hid ⟨by simp [Tm.nodesL], HI.out⟩⟩
  case round =>
    obtain ⟨j, m, hj, rfl, rfl, HV⟩ := hrel
    clear HI
    by_cases hlt : j < kids.length
    · rcases HR.out with rfl | ⟨b, o, rfl, hkr⟩
      · simp at hlt
      obtain ⟨q0, q1, q2, A5, l5, c5, A6, l6, c6, hTk, e0, e1, e2, e3, e4, hbl⟩ := RdT_at hkr j hlt
      have hcw := (bcell HV.out.2).1
      have hj0 : (0 : Int) ≤ (j : Int) := Int.natCast_nonneg _
      have hj1 : (j : Int) < (kids.length : Int) := by omega
      have hA : Below wr.heap.size wr (wr.alloc (.cells #[.int .i64 q0, .int .i64 q1, .int .i64 q2, .slice A5 l5 c5, .slice A6 l6 c6] 30)) := (Below.refl _ _).alloc (Nat.le_refl _) _
      have hbA := HV.out.2.trans (hA.mono HV.out.2.size)
      have hm := nodesL_take kids j hlt
      have hle := nodesL_le kids (j + 1)
      have hnn := HN.out
      simp only [Tm.nodes] at hnn
      have hme := HV.out.1
      have HT := Lib.hid (HIH.out kids[j] (List.getElem_mem hlt) _ _ (RdT.below (keeps_of hbA) _ _ hTk) (by omega))
      have HX := Lib.hid (And.intro hbA (And.intro (show m + kids[j].nodes = Tm.nodesL (kids.take (j + 1)) + 1 by omega) (show m + kids[j].nodes ≤ 4611686018427387905 by omega)))
      have hw : wrap64 ((m : Int) + (kids[j].nodes : Int)) = ((m + kids[j].nodes : Nat) : Int) := by unfold wrap64; omega
      clear hTk hkr hA hbA hm hle hnn hme
      go_wp2_with fail
      clear e0 e1 e2 e3 e4 hcw
      refine HT.out.mono ?_
      rintro e w1 ⟨rfl, hb1⟩
      have HB1 := Lib.hid hb1
      clear hb1
      go_wp2
      go_roundw
      case rel => exact ⟨j + 1, m + kids[j].nodes, by omega, by go_num, by first | rfl | (rw [hw]) | go_num, Lib.hid ⟨HX.out.2.1, HX.out.1.trans (HB1.out.mono HX.out.1.size)⟩⟩
      case measure => simp [intOf]; omega
    · go_wp2
      go_ret
      have hjk : j = kids.length := by omega
      have hme := HV.out.1
      rw [hjk, List.take_length] at hme
      exact ⟨ret_int (by rw [hme]; simp [Tm.nodes]), HV.out.2⟩
theorem Size_any : ∀ t, SizeOK t := by
  intro t
  induction t using Tm.ind with
  | h k n a lv kids ih => exact Size_of k n a lv kids ih
end Go.Proofs.YtebgldnlkkhejaaDoor

/-! ## tele: Vars. -/
namespace Go.Proofs.YtebgldnlkkhejaaDoor
set_option linter.unusedSimpArgs false
set_option linter.unusedVariables false
open Go Go.RowKit Go.Proofs.YtebgldnlkkhejaaDoorW.PrintLast Go.Proofs.YtebgldnlkkhejaaDoorW.PrintMore
attribute [local go_sem] max2_int min2_int max_two min_two

def varT (n frm : Int) (k : Nat) : Tm := .mk 1 (wrap64 (wrap64 (wrap64 (frm + n) - 1) - (k : Nat))) 0 [] []
/-- Variables. -/
def varsT (n frm : Int) (m : Nat) : List Tm := (List.range m).map (varT n frm)
theorem varsT_succ (n frm : Int) (m : Nat) : varsT n frm (m + 1) = varsT n frm m ++ [varT n frm m] := by simp [varsT, List.range_succ]
theorem varsT_length (n frm : Int) (m : Nat) : (varsT n frm m).length = m := by simp [varsT]
theorem varT_own (n frm : Int) (k : Nat) (w : World) : OwT w (varT n frm k) [.int .i64 1, .int .i64 (wrap64 (wrap64 (wrap64 (frm + n) - 1) - (k : Nat))), .int .i64 0, .slice none 0 0, .slice none 0 0] [] :=
  (OwT_mk ..).2 ⟨_, _, [], [], rfl, OwS.nil _ _ _ _, OwS.nil _ _ _ _, rfl⟩
set_option maxRecDepth 100000 in
set_option maxHeartbeats 1000000 in
theorem Vars_nat (frm : Int) (m : Nat) (w : World) (hl : m ≤ 1099511627776) :
    Calls Tryd.prog 35 #[.int .i64 (m : Int), .int .i64 frm] w (OutTs w (varsT m frm m)) := by
  have HI : OInv w (.slice none 0 0) [] [] w := ⟨Below.refl _ _, OwS.nil _ _ _ _, Fr.nil _ _⟩
  have HI := Lib.hid HI
  have HL := Lib.hid hl
  have hkl : (m : Int) ≤ 9223372036854775807 := by omega
  have hm0 : (0 : Int) ≤ (m : Int) := Int.natCast_nonneg _
  clear hl
  go_enter Tryd.func35, Tryd.ntmps35
  go_wp2_with fail
  go_loopw [4, 8] (fun v i wr => ∃ j : Nat, j ≤ m ∧ i = .int .i64 j ∧ ∃ A c F, v = .slice A j c ∧ Hid (OInv w (.slice A j c) (varsT m frm j) F wr)) (fun _ i _ => m - (intOf i).toNat)
  case atStart => exact ⟨0, by omega, rfl, none, 0, [], rfl, HI⟩
  case round =>
    obtain ⟨j, hj, rfl, A, c, F, rfl, HV⟩ := hrel
    clear HI
    by_cases hlt : j < m
    · have hj0 : (0 : Int) ≤ (j : Int) := Int.natCast_nonneg _
      have hj1 : (j : Int) < (m : Int) := by omega
      have hl0 := varsT_length m frm j
      have hv := HV.out
      obtain ⟨inner, Fi, hown, hin, hFi⟩ := id hv.hO
      rw [hl0] at hown
      have hbW1 : Below wr.heap.size wr (wr.alloc (.cells #[.int .i64 1, .int .i64 (wrap64 (wrap64 (wrap64 (frm + (m : Int)) - 1) - (j : Nat))), .int .i64 0, .slice none 0 0, .slice none 0 0] 30)) := (Below.refl _ _).alloc (Nat.le_refl _) _
      have hown1 := ownsRow_move hown (fun q hq => hbW1.block q (hown.lt q hq).2)
      have HO := Lib.hid hown1
      have HW := Lib.hid hown
      have HB := Lib.hid hbW1
      have HL0 := Lib.hid hl0
      clear hv hown hin hFi hbW1 hown1 hl0
      go_wp2_with (at_builtin; refine wpList_app rfl (.tmp 11) (.tmp 19) 28 rfl 0 30 _ 5 72 Tryd.underlying28 infoTm rfl (by decide) (.slice A j c) j inner rfl HO.out ⟨wr.heap.size, 0, none⟩ 1 1 [.int .i64 1, .int .i64 (wrap64 (wrap64 (wrap64 (frm + (m : Int)) - 1) - (j : Nat))), .int .i64 0, .slice none 0 0, .slice none 0 0] rfl rfl (news_at (Blk.new wr _ _)) (by simp [Value.oneCell']) (by have := HL.out; simp only [maxLen]; omega) (by have := HL.out; omega) (Nat.zero_le _) ?_)
      intro v2 w5 hown2 hg hat
      obtain ⟨A9, c9, rfl⟩ := own_slice hown2
      have HP := Lib.hid (HV.out.push (Below.refl _ _) (varT_own m frm j wr) (Fr.nil _ _) HB.out rfl (fun inner' hi' => by rw [HL0.out] at hi' ⊢; rw [ownsRow_unique hi' HW.out]; exact hown2) hg (by rw [World.size_alloc]; exact hat) (fun q hq => (hown2.lt q hq).2))
      clear hown2 hg hat
      go_wp2
      go_roundw
      case rel =>
        obtain ⟨F', hw⟩ := HP.out
        rw [← varsT_succ] at hw
        exact ⟨j + 1, by omega, by go_num, A9, c9, F', rfl, hw⟩
      case measure => simp [intOf]; omega
    · go_wp2
      go_ret
      have hjk : j = m := by omega
      subst hjk
      obtain ⟨hb', hO, hF⟩ := HV.out
      refine ⟨A, c, F, ?_, by rw [varsT_length]; exact hO, hF, hb'⟩
      rw [varsT_length]
      rfl
set_option maxRecDepth 100000 in
set_option maxHeartbeats 1000000 in
theorem Vars_neg (n frm : Int) (w : World) (hn : n < 0) :
    Calls Tryd.prog 35 #[.int .i64 n, .int .i64 frm] w (OutTs w []) := by
  go_enter Tryd.func35, Tryd.ntmps35
  go_wp2_with fail
  go_loopw [4, 8] (fun v i wr => i = .int .i64 0 ∧ v = .slice none 0 0 ∧ wr = w) (fun _ _ _ => 0)
  case atStart => exact ⟨rfl, rfl, rfl⟩
  case round =>
    obtain ⟨rfl, rfl, rfl⟩ := hrel
    go_wp2
    go_ret
    exact ⟨none, 0, [], rfl, OwS.nil _ _ _ _, Fr.nil _ _, Below.refl _ _⟩
/-- .. whatever the number. -/
theorem Vars_any (n frm : Int) (w : World) (hl : n ≤ 1099511627776) : Calls Tryd.prog 35 #[.int .i64 n, .int .i64 frm] w (OutTs w (varsT n frm n.toNat)) := by
  by_cases hn : n < 0
  · rw [show n.toNat = 0 by omega]; exact Vars_neg n frm w hn
  · have := Vars_nat frm n.toNat w (by omega)
    rwa [show ((n.toNat : Nat) : Int) = n by omega] at this
end Go.Proofs.YtebgldnlkkhejaaDoor

/-! ## tele: plain laws. -/
namespace Go.Proofs.YtebgldnlkkhejaaDoor
set_option linter.unusedSimpArgs false
set_option linter.unusedVariables false
open Go Go.RowKit

/-- Every number fits an int. -/
inductive Num64 : Tm → Prop
  | mk {k n a : Int} {lv : List Lv} {kids : List Tm} : -9223372036854775808 ≤ n → n ≤ 9223372036854775807 → (∀ t ∈ kids, Num64 t) → Num64 (.mk k n a lv kids)
theorem liftNum0 {d k n : Int} (h1 : -9223372036854775808 ≤ n) (h2 : n ≤ 9223372036854775807) : liftNum 0 0 d k n = n := by
  unfold liftNum
  split
  · rw [Int.add_zero]; unfold wrap64; omega
  · rfl
theorem turnL_same {node : Node} : ∀ {ts : List Tm}, (∀ t ∈ ts, ∀ d, turnT node d t = t) → ∀ (d k : Int) (i : Nat), turnL node d k i ts = ts
  | [], _, _, _, _ => by simp [turnL]
  | t :: ts, h, d, k, i => by
    simp only [turnL]
    rw [h t (by simp), turnL_same (fun t ht => h t (by simp [ht]))]
/-- What is lifted by nothing is what it was. -/
theorem lift0 : ∀ t, Num64 t → ∀ d, liftT 0 0 d t = t := by
  intro t
  induction t using Tm.ind with
  | h k n a lv kids ih =>
    intro h d
    cases h with
    | mk h1 h2 h3 =>
      unfold liftT
      simp only [turnT, liftNode]
      rw [liftNum0 h1 h2, turnL_same (fun t ht d => ih t ht (h3 t ht) d)]
theorem ownT_eq {t : Tm} (h : Num64 t) : ownT t = t := lift0 t h 0
theorem ownTs_eq {ts : List Tm} (h : ∀ t ∈ ts, Num64 t) : ts.map ownT = ts := by
  induction ts with
  | nil => rfl
  | cons t ts ih => rw [List.map_cons, ownT_eq (h t (by simp)), ih (fun t ht => h t (by simp [ht]))]
theorem upT_cons (K : Int) (a : Tm) (ts : List Tm) (t : Tm) : upT K (a :: ts) t = .mk K 0 0 [] [a, upT K ts t] := rfl
theorem countT_up (t : Tm) : ∀ row : List Tm, countT (upT 4 row t) = row.length + countT t
  | [] => by simp [upT]
  | a :: row => by rw [upT_cons, countT_two, if_pos rfl, countT_up t row, List.length_cons]; omega
/-- Fewer taken off: the rest lies above still. -/
theorem openT_up (t : Tm) : ∀ (row : List Tm) (k : Nat), k ≤ row.length → openT k (upT 4 row t) = some (row.take k, upT 4 (row.drop k) t)
  | row, 0, _ => by rw [openT]; rfl
  | [], k + 1, h => by simp at h
  | a :: row, k + 1, h => by
    rw [upT_cons, openT_two, if_pos rfl, openT_up t row k (by simpa using h)]
    rfl
theorem openT_all (row : List Tm) (t : Tm) : openT row.length (upT 4 row t) = some (row, t) := by
  rw [openT_up t row row.length (Nat.le_refl _), List.take_length, List.drop_length]
  rfl
/-- More than there are: none. -/
theorem openT_none : ∀ (t : Tm) (m : Nat), countT t < m → openT m t = none := by
  intro t
  induction t using Tm.ind with
  | h k n a lv kids ih =>
    intro m hm
    obtain ⟨m, rfl⟩ : ∃ m', m = m' + 1 := ⟨m - 1, by omega⟩
    by_cases hl : kids.length = 2
    · rcases kids with _ | ⟨x, _ | ⟨y, _ | ⟨z, zs⟩⟩⟩ <;> simp at hl
      rw [countT_two] at hm
      rw [openT_two]
      by_cases hk : k = 4
      · rw [if_pos hk] at hm ⊢
        rw [ih y (by simp) m (by omega)]
        rfl
      · rw [if_neg hk]
    · exact openT_not (.inr hl)
end Go.Proofs.YtebgldnlkkhejaaDoor

/-! ## tele: plain laws of spines. -/
namespace Go.Proofs.YtebgldnlkkhejaaDoor
set_option linter.unusedSimpArgs false
set_option linter.unusedVariables false
open Go Go.RowKit

/-- A term's head, and its arguments. -/
def spineT : Tm → Tm × List Tm
  | .mk k n a lv [f, x] => if k = 6 then ((spineT f).1, (spineT f).2 ++ [x]) else (.mk k n a lv [f, x], [])
  | t => (t, [])
theorem spineT_two (k n a : Int) (lv : List Lv) (f x : Tm) : spineT (.mk k n a lv [f, x]) = if k = 6 then ((spineT f).1, (spineT f).2 ++ [x]) else (.mk k n a lv [f, x], []) := by
  rw [spineT]
theorem spineT_not {k n a : Int} {lv : List Lv} {ts : List Tm} (h : k ≠ 6 ∨ ts.length ≠ 2) : spineT (.mk k n a lv ts) = (.mk k n a lv ts, []) := by
  rcases ts with _ | ⟨x, _ | ⟨y, _ | ⟨z, zs⟩⟩⟩
  · rw [spineT]; simp
  · rw [spineT]; simp
  · rw [spineT_two, if_neg (by simpa using h)]
  · rw [spineT]; simp
theorem spineT_apps : ∀ (row : List Tm) (t : Tm), spineT (appsT t row) = ((spineT t).1, (spineT t).2 ++ row)
  | [], t => by simp [appsT]
  | x :: row, t => by
    rw [show appsT t (x :: row) = appsT (.mk 6 0 0 [] [t, x]) row from rfl, spineT_apps row, spineT_two, if_pos rfl]
    simp
/-- Nothing stands at a spine's nodes but their kids. -/
def cleanT : Tm → Bool
  | .mk k n a lv [f, x] => if k = 6 then n == 0 && a == 0 && lv.isEmpty && cleanT f else true
  | _ => true
theorem cleanT_two (k n a : Int) (lv : List Lv) (f x : Tm) : cleanT (.mk k n a lv [f, x]) = if k = 6 then n == 0 && a == 0 && lv.isEmpty && cleanT f else true := by
  rw [cleanT]
theorem apps_spine : ∀ t, cleanT t = true → appsT (spineT t).1 (spineT t).2 = t := by
  intro t
  induction t using Tm.ind with
  | h k n a lv kids ih =>
    intro hc
    by_cases h : k = 6 ∧ kids.length = 2
    · obtain ⟨rfl, hl⟩ := h
      rcases kids with _ | ⟨f, _ | ⟨x, _ | ⟨z, zs⟩⟩⟩ <;> simp at hl
      rw [cleanT_two, if_pos rfl] at hc
      simp only [Bool.and_eq_true, beq_iff_eq, List.isEmpty_iff] at hc
      obtain ⟨⟨⟨rfl, rfl⟩, rfl⟩, hf⟩ := hc
      rw [spineT_two, if_pos rfl, appsT_snoc, ih f (by simp) hf]
    · rw [spineT_not (by omega)]
      rfl
end Go.Proofs.YtebgldnlkkhejaaDoor

/-! ## tele: plain laws of lifting a row. -/
namespace Go.Proofs.YtebgldnlkkhejaaDoor
set_option linter.unusedSimpArgs false
set_option linter.unusedVariables false
open Go Go.RowKit

theorem liftNum_shift {n i e k m : Int} (hi : 0 ≤ i) (he : 0 ≤ e) (h1 : -9223372036854775808 ≤ m) (h2 : m ≤ 9223372036854775807) : liftNum n 0 (i + e) k m = liftNum n i e k m := by
  have hiff : (k = 1 ∧ i + e ≤ m ∧ 0 ≤ wrap64 (m - (i + e))) ↔ (k = 1 ∧ e ≤ m ∧ i ≤ wrap64 (m - e)) := by
    constructor
    · rintro ⟨a, b, c⟩
      refine ⟨a, by omega, ?_⟩
      have : wrap64 (m - e) = m - e := by unfold wrap64; omega
      omega
    · rintro ⟨a, b, c⟩
      have h3 : wrap64 (m - e) = m - e := by unfold wrap64; omega
      refine ⟨a, by omega, ?_⟩
      have : wrap64 (m - (i + e)) = m - (i + e) := by unfold wrap64; omega
      omega
  unfold liftNum
  by_cases h : k = 1 ∧ i + e ≤ m ∧ 0 ≤ wrap64 (m - (i + e))
  · rw [if_pos h, if_pos (hiff.1 h)]
  · rw [if_neg h, if_neg (fun h' => h (hiff.2 h'))]
theorem deeper_shift (k j i e : Int) : deeper k j (i + e) = i + deeper k j e := by
  unfold deeper
  split <;> omega
theorem deeper_nonneg {k j e : Int} (h : 0 ≤ e) : 0 ≤ deeper k j e := by
  unfold deeper
  split <;> omega
theorem turnL_shift {node1 node2 : Node} {i : Int} : ∀ {ts : List Tm}, (∀ t ∈ ts, ∀ e, 0 ≤ e → turnT node1 (i + e) t = turnT node2 e t) → ∀ (k : Int) (j : Nat) (e : Int), 0 ≤ e → turnL node1 (i + e) k j ts = turnL node2 e k j ts
  | [], _, _, _, _, _ => by simp [turnL]
  | t :: ts, h, k, j, e, he => by
    simp only [turnL]
    rw [deeper_shift, h t (by simp) _ (deeper_nonneg he), turnL_shift (fun t ht => h t (by simp [ht])) k (j + 1) e he]
/-- A bound from which it is lifted and a depth are one. -/
theorem lift_shift (n i : Int) (hi : 0 ≤ i) : ∀ t, Num64 t → ∀ e, 0 ≤ e → liftT n 0 (i + e) t = liftT n i e t := by
  intro t
  induction t using Tm.ind with
  | h k m a lv kids ih =>
    intro h e he
    cases h with
    | mk h1 h2 h3 =>
      unfold liftT
      simp only [turnT, liftNode]
      rw [liftNum_shift hi he h1 h2, turnL_shift (fun t ht e he => ih t ht (h3 t ht) e he) k 0 e he]
/-- A row lifted below its own binders. -/
theorem lift_up (n : Int) (t : Tm) : ∀ (row : List Tm) (j : Nat), (∀ r ∈ row, Num64 r) → j + row.length ≤ 4611686018427387904 → liftT n 0 (j : Int) (upT 4 row t) = upT 4 (liftsT n 0 j row) (liftT n 0 ((j + row.length : Nat) : Int) t)
  | [], j, _, _ => by simp [upT, liftsT]
  | r :: row, j, h, hl => by
    have ih := lift_up n t row (j + 1) (fun r hr => h r (by simp [hr])) (by simp at hl; omega)
    rw [upT_cons]
    have e0 : deeper 4 ((0 : Nat) : Int) (j : Int) = (j : Int) := by unfold deeper; rw [if_neg (by decide)]
    have e1 : deeper 4 ((0 + 1 : Nat) : Int) (j : Int) = ((j + 1 : Nat) : Int) := by unfold deeper; rw [if_pos (by decide)]; omega
    have hr := lift_shift n (j : Int) (by omega) r (h r (by simp)) 0 (by omega)
    rw [Int.add_zero] at hr
    have hw : wrap64 (0 + (j : Int)) = (j : Int) := by unfold wrap64; simp at hl; omega
    unfold liftT at ih hr ⊢
    simp only [turnT, liftNode, turnL, e0, e1]
    rw [show (liftNum n 0 (j : Int) 4 0) = 0 from by unfold liftNum; rw [if_neg (by omega)]]
    simp only [liftsT, upT_cons, hw, List.length_cons]
    unfold liftT
    rw [hr, show j + (row.length + 1) = j + 1 + row.length by omega, ih]
end Go.Proofs.YtebgldnlkkhejaaDoor

/-! ## term.Put: the function that turns a node. -/
namespace Go.Proofs.YtebgldnlkkhejaaDoor
set_option linter.unusedSimpArgs false
set_option linter.unusedVariables false
open Go Go.RowKit Go.Proofs.YtebgldnlkkhejaaDoorW.PrintLast

/-- A node turned where terms are put for the lowest variables. -/
def putNode (by_ : List Tm) : Node := fun d k n _ lv =>
  if k = 1 ∧ d ≤ n then
    if wrap64 (n - d) < (by_.length : Int) then .inr (liftT d 0 0 (by_[by_.length - 1 - (wrap64 (n - d)).toNat]?.getD default))
    else .inl (wrap64 (n - by_.length), lv)
  else .inl (n, lv)
def putT (by_ : List Tm) (t : Tm) : Tm := turnT (putNode by_) 0 t
theorem putFn_end {fn : Func} (h : fn.results = #[.cell 5 30, .tmp 6]) {a0 : Act} {w w1 w2 : World} {g : Nat} {d0 d1 d2 d3 d4 : Value} {k num num' a : Int} {A1 A2 : Option Addr} {l1 c1 l2 c2 : Nat} {lv : List Lv} {F : List Nat}
    (hp : a0.tmps.getD 5 undef = .pointer (some ⟨g, 0, none⟩)) (hx : a0.tmps.getD 6 undef = .bool false) (hnum : num = num') (hg : Blk w2 g #[d0, d1, d2, d3, d4] 30) (hO : OwLvs w2 (.slice A1 l1 c1) lv F) (hF : Fr w1.heap.size w2 F) (hb1 : Below w1.heap.size w1 w2)
    (hb : Below w.heap.size w w1) (hg0 : w.heap.size ≤ g) (hg1 : g < w1.heap.size) (hd : a0.defers = []) :
    bodyPost Tryd.prog fn (fun e w' => ∃ A1 l1 c1 F, e = Ending.returned (.tuple #[.agg #[.int .i64 k, .int .i64 num', .int .i64 a, .slice A1 l1 c1, .slice A2 l2 c2], .bool false]) ∧ OwLvs w' (.slice A1 l1 c1) lv F ∧ Fr w.heap.size w' F ∧ Below w.heap.size w w')
      Exit.ret a0 (put5 w2 g (.int .i64 k) (.int .i64 num) (.int .i64 a) (.slice A1 l1 c1) (.slice A2 l2 c2)) := by
  subst hnum
  have hs := hb.size
  refine bodyPost_ret (ret_term_tmp h hp hx (put5_blk hg)) hd ⟨_, _, _, _, rfl, hO.move (put5_same (fun b hbm => by have := hF.2 b hbm; omega)), hF.mono (by omega) (by rw [put5_size]; exact Nat.le_refl _), put5_below (hb.trans (hb1.mono hs)) hg0⟩
set_option maxRecDepth 100000 in
set_option maxHeartbeats 1000000 in
/-- No variable of the outer ones. -/
theorem putFn_keep (by_ : List Tm) (A : Option Addr) (c : Nat) (d k num a : Int) (vl : Value) (A2 : Option Addr) (l2 c2 : Nat) (lv : List Lv) (fn : Fn) (first cap : Array Value) (bb : Nat) (w : World) (h : RdLvs w vl lv) (hok : Okl lv)
    (hbb : w.cell? ⟨bb, 0, none⟩ = some (.slice A by_.length c)) (hk : ¬(k = 1 ∧ d ≤ num)) :
    Calls Tryd.prog 60 #[.agg #[.int .i64 d, .func fn first cap], .agg #[.int .i64 k, .int .i64 num, .int .i64 a, vl, .slice A2 l2 c2], .pointer (some ⟨bb, 0, none⟩)] w fun e w' =>
      ∃ A1 l1 c1 F, e = .returned (.tuple #[.agg #[.int .i64 k, .int .i64 num, .int .i64 a, .slice A1 l1 c1, .slice A2 l2 c2], .bool false]) ∧ OwLvs w' (.slice A1 l1 c1) lv F ∧ Fr w.heap.size w' F ∧ Below w.heap.size w w' := by
  obtain ⟨A1, c1, rfl, hc, hm, hr⟩ := id h
  have HH := Lib.hid h
  have HOK := Lib.hid hok
  clear hr hm hc h hok
  go_enter Tryd.func60, Tryd.ntmps60
  go_wp2_with fail
  obtain ⟨k1, k2, k3, hb0, hsz⟩ := blks3 w #[.int .i64 d, .func fn first cap] #[.int .i64 k, .int .i64 num, .int .i64 a, .slice A1 lv.length c1, .slice A2 l2 c2] #[.int .i64 0, .int .i64 0, .int .i64 0, .slice none 0 0, .slice none 0 0] 99 30 30
  refine (means_any _ _ _).mono ?_
  rintro e w1 ⟨rfl, hb1⟩
  replace k1 := k1.below hb1
  replace k2 := k2.below hb1
  replace k3 := k3.below hb1
  have hb := hb0.trans (hb1.mono hb0.size)
  have hsz1 := hb1.size
  rw [hsz] at hsz1
  clear hb0 hb1 hsz
  have hk2 := k2.cell
  have hk2f := k2.frozen
  by_cases hk1 : k = 1
  · have h1b : decide (d ≤ num) = false := decide_eq_false (fun h => hk ⟨hk1, h⟩)
    subst hk1
    clear hk
    have K3 := Lib.hid k3
    have HB := Lib.hid hb
    clear k1 k2 k3 hb
    go_wp2_with fail
    refine (own_any 1 num a _ A2 l2 c2 lv _ (HH.out.below (keeps_of HB.out)) HOK.out).mono ?_
    rintro e w2 ⟨A1, l1, c1, F, rfl, hO, hF, hb2⟩
    have k3 := K3.out.below hb2
    have hc3 := k3.cell
    have hf3 := k3.frozen
    have K3 := Lib.hid k3
    have HO := Lib.hid (And.intro hO (And.intro hF hb2))
    clear hO hF hb2 k3
    go_wp2
    obtain ⟨hO, hF, hb2⟩ := HO.out
    exact putFn_end Tryd.results60 rfl rfl rfl K3.out hO hF hb2 HB.out (by omega) (by omega) rfl
  · have hkb : (k != 1) = true := by simpa using hk1
    clear hk hk1
    have K3 := Lib.hid k3
    have HB := Lib.hid hb
    clear k1 k2 k3 hb
    go_wp2_with fail
    refine (own_any k num a _ A2 l2 c2 lv _ (HH.out.below (keeps_of HB.out)) HOK.out).mono ?_
    rintro e w2 ⟨A1, l1, c1, F, rfl, hO, hF, hb2⟩
    have k3 := K3.out.below hb2
    have hc3 := k3.cell
    have hf3 := k3.frozen
    have K3 := Lib.hid k3
    have HO := Lib.hid (And.intro hO (And.intro hF hb2))
    clear hO hF hb2 k3
    go_wp2
    obtain ⟨hO, hF, hb2⟩ := HO.out
    exact putFn_end Tryd.results60 rfl rfl rfl K3.out hO hF hb2 HB.out (by omega) (by omega) rfl
set_option maxRecDepth 100000 in
set_option maxHeartbeats 1000000 in
/-- A variable beyond those that are put. -/
theorem putFn_far (by_ : List Tm) (A : Option Addr) (c : Nat) (d num a : Int) (vl : Value) (A2 : Option Addr) (l2 c2 : Nat) (lv : List Lv) (fn : Fn) (first cap : Array Value) (bb : Nat) (w : World) (h : RdLvs w vl lv) (hok : Okl lv)
    (hbb : w.cell? ⟨bb, 0, none⟩ = some (.slice A by_.length c)) (hk : d ≤ num) (hfar : (by_.length : Int) ≤ wrap64 (num - d)) :
    Calls Tryd.prog 60 #[.agg #[.int .i64 d, .func fn first cap], .agg #[.int .i64 1, .int .i64 num, .int .i64 a, vl, .slice A2 l2 c2], .pointer (some ⟨bb, 0, none⟩)] w fun e w' =>
      ∃ A1 l1 c1 F, e = .returned (.tuple #[.agg #[.int .i64 1, .int .i64 (wrap64 (num - by_.length)), .int .i64 a, .slice A1 l1 c1, .slice A2 l2 c2], .bool false]) ∧ OwLvs w' (.slice A1 l1 c1) lv F ∧ Fr w.heap.size w' F ∧ Below w.heap.size w w' := by
  obtain ⟨A1, c1, rfl, hc, hm, hr⟩ := id h
  have HH := Lib.hid h
  have HOK := Lib.hid hok
  clear hr hm hc h hok
  go_enter Tryd.func60, Tryd.ntmps60
  go_wp2_with fail
  obtain ⟨k1, k2, k3, hb0, hsz⟩ := blks3 w #[.int .i64 d, .func fn first cap] #[.int .i64 1, .int .i64 num, .int .i64 a, .slice A1 lv.length c1, .slice A2 l2 c2] #[.int .i64 0, .int .i64 0, .int .i64 0, .slice none 0 0, .slice none 0 0] 99 30 30
  refine (means_any _ _ _).mono ?_
  rintro e w1 ⟨rfl, hb1⟩
  replace k1 := k1.below hb1
  replace k2 := k2.below hb1
  replace k3 := k3.below hb1
  have hb := hb0.trans (hb1.mono hb0.size)
  have hsz1 := hb1.size
  rw [hsz] at hsz1
  clear hb0 hb1 hsz
  have hbb1 : w1.cell? ⟨bb, 0, none⟩ = some (.slice A by_.length c) := (hb.cell (p := ⟨bb, 0, none⟩) (World.block_lt_of_cell? w _ hbb)).trans hbb
  have hbl := World.block_lt_of_cell? w _ hbb
  simp only at hbl
  have hbne : bb ≠ w.heap.size + 1 := by omega
  clear hbb
  have hk2 := k2.cell
  have hk2f := k2.frozen
  have h1b : decide (d ≤ num) = true := decide_eq_true hk
  have h2b : decide (wrap64 (num - d) < (by_.length : Int)) = false := decide_eq_false (by omega)
  have K3 := Lib.hid k3
  have HB := Lib.hid hb
  clear k1 k2 k3 hb hk hfar
  go_wp2_with fail
  have HB2 := Lib.hid (HB.out.setCell (p := ⟨w.heap.size + 1, 1, none⟩) (by simp) (.int .i64 (wrap64 (num - (by_.length : Int)))))
  have K32 := Lib.hid (K3.out.far (a := ⟨w.heap.size + 1, 1, none⟩) (by simp) (.int .i64 (wrap64 (num - (by_.length : Int)))))
  refine (own_any 1 (wrap64 (num - (by_.length : Int))) a _ A2 l2 c2 lv _ (HH.out.below (keeps_of HB2.out)) HOK.out).mono ?_
  rintro e w2 ⟨A1, l1, c1, F, rfl, hO, hF, hb2⟩
  have k3 := K32.out.below hb2
  have hc3 := k3.cell
  have hf3 := k3.frozen
  have K33 := Lib.hid k3
  have HO := Lib.hid (And.intro hO (And.intro hF hb2))
  clear hO hF hb2 k3 hk2 hk2f hbb1
  go_wp2
  obtain ⟨hO, hF, hb2⟩ := HO.out
  exact putFn_end Tryd.results60 rfl rfl rfl K33.out hO hF hb2 HB2.out (by omega) (by simp [World.setCell]; omega) rfl
end Go.Proofs.YtebgldnlkkhejaaDoor

/-! ## tele: plain law of a row turned below its own binders. -/
namespace Go.Proofs.YtebgldnlkkhejaaDoor
set_option linter.unusedSimpArgs false
set_option linter.unusedVariables false
open Go Go.RowKit

/-- A row turned, each term one binder deeper than the one ahead of it. -/
def rowT (node : Node) : Nat → List Tm → List Tm
  | _, [] => []
  | j, r :: row => turnT node (j : Int) r :: rowT node (j + 1) row
theorem rowT_length (node : Node) : ∀ (row : List Tm) (j : Nat), (rowT node j row).length = row.length
  | [], _ => rfl
  | r :: row, j => by simp [rowT, rowT_length node row]
theorem turn_up {node : Node} (hn : ∀ j : Nat, node (j : Int) 4 0 0 [] = .inl (0, [])) (t : Tm) : ∀ (row : List Tm) (j : Nat), turnT node (j : Int) (upT 4 row t) = upT 4 (rowT node j row) (turnT node ((j + row.length : Nat) : Int) t)
  | [], j => by simp [upT, rowT]
  | r :: row, j => by
    have ih := turn_up hn t row (j + 1)
    rw [upT_cons]
    have e0 : deeper 4 ((0 : Nat) : Int) (j : Int) = (j : Int) := by unfold deeper; rw [if_neg (by decide)]
    have e1 : deeper 4 ((0 + 1 : Nat) : Int) (j : Int) = ((j + 1 : Nat) : Int) := by unfold deeper; rw [if_pos (by decide)]; omega
    simp only [turnT, hn j, turnL, e0, e1, rowT, upT_cons, List.length_cons]
    rw [show j + (row.length + 1) = j + 1 + row.length by omega, ih]
theorem put_pi (by_ : List Tm) (j : Nat) : putNode by_ (j : Int) 4 0 0 [] = .inl (0, []) := by
  unfold putNode
  rw [if_neg (by omega)]
/-- Terms put in a row below its own binders. -/
theorem put_up (by_ row : List Tm) (t : Tm) : putT by_ (upT 4 row t) = upT 4 (rowT (putNode by_) 0 row) (turnT (putNode by_) (row.length : Int) t) := by
  have := turn_up (put_pi by_) t row 0
  simpa [putT] using this
end Go.Proofs.YtebgldnlkkhejaaDoor

/-! ## term.Put: a variable that is put. -/
namespace Go.Proofs.YtebgldnlkkhejaaDoor
set_option linter.unusedSimpArgs false
set_option linter.unusedVariables false
open Go Go.RowKit Go.Proofs.YtebgldnlkkhejaaDoorW.PrintLast

set_option maxRecDepth 100000 in
set_option maxHeartbeats 1000000 in
theorem putFn_in (by_ : List Tm) (A : Option Addr) (c : Nat) (d num a : Int) (vl : Value) (A2 : Option Addr) (l2 c2 : Nat) (lv : List Lv) (fn : Fn) (first cap : Array Value) (bb : Nat) (w : World) (h : RdLvs w vl lv) (hK : Kinds w) (hby : RdTs w (.slice A by_.length c) by_) (hok : ∀ t ∈ by_, Okt t ∧ t.nodes ≤ 1152921504606846976)
    (hbb : w.cell? ⟨bb, 0, none⟩ = some (.slice A by_.length c)) (hk : d ≤ num) (q : Nat) (hq : q < by_.length) (hqe : wrap64 (num - d) = (by_.length : Int) - 1 - (q : Int)) :
    Calls Tryd.prog 60 #[.agg #[.int .i64 d, .func fn first cap], .agg #[.int .i64 1, .int .i64 num, .int .i64 a, vl, .slice A2 l2 c2], .pointer (some ⟨bb, 0, none⟩)] w fun e w' =>
      ∃ cs F, e = .returned (.tuple #[.agg cs.toArray, .bool true]) ∧ OwT w' (liftT d 0 0 by_[q]) cs F ∧ Fr w.heap.size w' F ∧ Below w.heap.size w w' := by
  obtain ⟨A1, c1, rfl, -⟩ := id h
  obtain ⟨A', c', e, hc', hm', hr⟩ := id hby
  simp at e
  obtain ⟨rfl, rfl⟩ := e
  rcases hr with rfl | ⟨b, o, rfl, hkr⟩
  · simp at hq
  obtain ⟨q0, q1, q2, A5, l5, c5, A6, l6, c6, hTk, e0, e1, e2, e3, e4, hbl⟩ := RdT_at hkr q hq
  have HIn := Lib.hid (show In w by_[q] _ from ⟨hTk, (hok _ (List.getElem_mem hq)).1, (hok _ (List.getElem_mem hq)).2⟩)
  have HK := Lib.hid hK
  clear hkr hby hTk hok hK h hc'
  go_enter Tryd.func60, Tryd.ntmps60
  go_wp2_with fail
  obtain ⟨k1, k2, k3, hb0, hsz⟩ := blks3 w #[.int .i64 d, .func fn first cap] #[.int .i64 1, .int .i64 num, .int .i64 a, .slice A1 lv.length c1, .slice A2 l2 c2] #[.int .i64 0, .int .i64 0, .int .i64 0, .slice none 0 0, .slice none 0 0] 99 30 30
  refine (means_any _ _ _).mono ?_
  rintro e w1 ⟨rfl, hb1⟩
  replace k1 := k1.below hb1
  replace k2 := k2.below hb1
  replace k3 := k3.below hb1
  have hb := hb0.trans (hb1.mono hb0.size)
  have hsz1 := hb1.size
  rw [hsz] at hsz1
  clear hb0 hb1 hsz
  have hbb1 : w1.cell? ⟨bb, 0, none⟩ = some (.slice (some ⟨b, o, none⟩) by_.length c) := (hb.cell (p := ⟨bb, 0, none⟩) (World.block_lt_of_cell? w _ hbb)).trans hbb
  have hbbl : bb < w.heap.size := World.block_lt_of_cell? w _ hbb
  have hbb2 : bb < w1.heap.size := by omega
  have hbl1 : b < w1.heap.size := by omega
  have hcw := (bcell hb).1
  clear hbb
  have g1 := k1.cell
  have g2 := k2.cell
  have n1 := k1.lt
  have n2 := k2.lt
  have h1b : decide (d ≤ num) = true := decide_eq_true hk
  have h2b : decide (wrap64 (num - d) < (by_.length : Int)) = true := decide_eq_true (by omega)
  have hw1 : wrap64 ((by_.length : Int) - 1) = (by_.length : Int) - 1 := by unfold wrap64; omega
  have hw2 : wrap64 ((by_.length : Int) - 1 - wrap64 (num - d)) = (q : Int) := by rw [hqe]; unfold wrap64; omega
  have hw3 : IntKind.i64.wrap (IntKind.i64.wrap ((by_.length : Int) - 1) - wrap64 (num - d)) = (q : Int) := by
    rw [IntKind.wrap_i64, IntKind.wrap_i64, hqe]; omega
  have hq0 : (0 : Int) ≤ (q : Int) := Int.natCast_nonneg _
  have hq1 : (q : Int) < (by_.length : Int) := by omega
  have H3 := Lib.hid (And.intro k3 hb)
  clear k1 k2 k3 hb hk hqe
  go_wp2_with fail
  refine start_ (n := 14) (S := fun W' => ∀ b o, b < w1.heap.size → W'.cell? ⟨b, o, none⟩ = w1.cell? ⟨b, o, none⟩) (ds := [12, 13]) #[false, false, false, false, false, false, false, false, false, false, false, false, false, false] (by kernel_rfl) rfl rfl (by exact (fun _ _ _ => rfl)) (fun hHeld => ?_)
  refine take_ (i := 0) (N := some 36) (v := ?_) (a' := ?_) #[true, false, false, false, false, false, false, false, false, false, false, false, false, false] rfl rfl (by kernel_rfl) (fun _ _ _ h => h) (Or.inl ⟨by rfl, ?_⟩) hHeld ?_ ?_
  rotate_left
  · rintro w' hS'
    go_simp
    with_reducible rfl
  rotate_left
  · simp only [Act.put, List.setIfInBounds_toArray, List.set_cons_zero, List.set_cons_succ]
    rfl
  refine take_ (i := 1) (N := some 37) (v := ?_) (a' := ?_) #[true, true, false, false, false, false, false, false, false, false, false, false, false, false] rfl rfl (by kernel_rfl) (fun _ _ _ h => h) (Or.inl ⟨by rfl, ?_⟩) hHeld ?_ ?_
  rotate_left
  · rintro w' hS'
    go_simp
    with_reducible rfl
  rotate_left
  · simp only [Act.put, List.setIfInBounds_toArray, List.set_cons_zero, List.set_cons_succ]
    rfl
  refine take_ (i := 2) (N := some 38) (v := ?_) (a' := ?_) #[true, true, true, false, false, false, false, false, false, false, false, false, false, false] rfl rfl (by kernel_rfl) (fun _ _ _ h => h) (Or.inl ⟨by rfl, ?_⟩) hHeld ?_ ?_
  rotate_left
  · rintro w' hS'
    go_simp
    with_reducible rfl
  rotate_left
  · simp only [Act.put, List.setIfInBounds_toArray, List.set_cons_zero, List.set_cons_succ]
    rfl
  refine take_ (i := 3) (N := some 39) (v := ?_) (a' := ?_) #[true, true, true, true, false, false, false, false, false, false, false, false, false, false] rfl rfl (by kernel_rfl) (fun _ _ _ h => h) (Or.inl ⟨by rfl, ?_⟩) hHeld ?_ ?_
  rotate_left
  · rintro w' hS'
    go_simp
    with_reducible rfl
  rotate_left
  · simp only [Act.put, List.setIfInBounds_toArray, List.set_cons_zero, List.set_cons_succ]
    rfl
  refine take_ (i := 4) (N := some 40) (v := ?_) (a' := ?_) #[true, true, true, true, true, false, false, false, false, false, false, false, false, false] rfl rfl (by kernel_rfl) (fun _ _ _ h => h) (Or.inl ⟨by rfl, ?_⟩) hHeld ?_ ?_
  rotate_left
  · rintro w' hS'
    go_simp
    with_reducible rfl
  rotate_left
  · simp only [Act.put, List.setIfInBounds_toArray, List.set_cons_zero, List.set_cons_succ]
    rfl
  refine take_ (i := 5) (N := some 41) (v := ?_) (a' := ?_) #[true, true, true, true, true, true, false, false, false, false, false, false, false, false] rfl rfl (by kernel_rfl) (fun _ _ _ h => h) (Or.inl ⟨by rfl, ?_⟩) hHeld ?_ ?_
  rotate_left
  · rintro w' hS'
    go_simp
    with_reducible rfl
  rotate_left
  · simp only [Act.put, List.setIfInBounds_toArray, List.set_cons_zero, List.set_cons_succ]
    rfl
  refine take_ (i := 6) (N := some 42) (v := ?_) (a' := ?_) #[true, true, true, true, true, true, true, false, false, false, false, false, false, false] rfl rfl (by kernel_rfl) (fun _ _ _ h => h) (Or.inl ⟨by rfl, ?_⟩) hHeld ?_ ?_
  rotate_left
  · rintro w' hS'
    go_simp
    with_reducible rfl
  rotate_left
  · simp only [Act.put, List.setIfInBounds_toArray, List.set_cons_zero, List.set_cons_succ]
    rfl
  refine take_ (i := 7) (N := some 43) (v := ?_) (a' := ?_) #[true, true, true, true, true, true, true, true, false, false, false, false, false, false] rfl rfl (by kernel_rfl) (fun _ _ _ h => h) (Or.inl ⟨by rfl, ?_⟩) hHeld ?_ ?_
  rotate_left
  · rintro w' hS'
    go_simp
    with_reducible rfl
  rotate_left
  · simp only [Act.put, List.setIfInBounds_toArray, List.set_cons_zero, List.set_cons_succ]
    rfl
  refine take_ (i := 8) (N := some 44) (v := ?_) (a' := ?_) #[true, true, true, true, true, true, true, true, true, false, false, false, false, false] rfl rfl (by kernel_rfl) (fun _ _ _ h => h) (Or.inl ⟨by rfl, ?_⟩) hHeld ?_ ?_
  rotate_left
  · rintro w' hS'
    go_simp
    with_reducible rfl
  rotate_left
  · simp only [Act.put, List.setIfInBounds_toArray, List.set_cons_zero, List.set_cons_succ]
    rfl
  refine take_ (i := 9) (N := some 45) (v := ?_) (a' := ?_) #[true, true, true, true, true, true, true, true, true, true, false, false, false, false] rfl rfl (by kernel_rfl) (fun _ _ _ h => h) (Or.inl ⟨by rfl, ?_⟩) hHeld ?_ ?_
  rotate_left
  · rintro w' hS'
    go_simp
    with_reducible rfl
  rotate_left
  · simp only [Act.put, List.setIfInBounds_toArray, List.set_cons_zero, List.set_cons_succ]
    rfl
  refine take_ (i := 10) (N := some 46) (v := ?_) (a' := ?_) #[true, true, true, true, true, true, true, true, true, true, true, false, false, false] rfl rfl (by kernel_rfl) (fun _ _ _ h => h) (Or.inl ⟨by rfl, ?_⟩) hHeld ?_ ?_
  rotate_left
  · rintro w' hS'
    go_simp
    with_reducible rfl
  rotate_left
  · simp only [Act.put, List.setIfInBounds_toArray, List.set_cons_zero, List.set_cons_succ]
    rfl
  refine one_ (i := 11) (N := some 47) #[true, true, true, true, true, true, true, true, true, true, true, true, false, false] rfl rfl (by kernel_rfl) (by decide) (fun K hK => ?_)
  go_simp
  refine (Lift_any by_[q] _ d 0 _ (HK.out.below H3.out.2.drew) (HIn.out.keeps (keeps_of H3.out.2.drew))).mono ?_
  rintro e w2 ⟨cs, F, rfl, hO, hF, hb2⟩
  obtain ⟨A7, l7, c7, A8, l8, c8, rfl⟩ := hO.cells
  have k3 := H3.out.1.below (undrew hb2)
  have c3' := k3.cell
  have f3' := k3.frozen
  have H4 := Lib.hid (And.intro hO (And.intro (show Fr w1.heap.size w2 F from hF) (And.intro (undrew hb2) k3)))
  clear hO hF hb2 k3
  refine hK.out _ _ (keeps_of H4.out.2.2.1) (fun hHeld => ?_)
  clear hK K
  refine norm_ (a' := ?_) ?_ ?_
  rotate_left
  · first
      | rfl
      | (simp only [Act.put, List.setIfInBounds_toArray, List.set_cons_zero, List.set_cons_succ]; rfl)
  refine last_ (i := 12) (N := none) #[true, true, true, true, true, true, true, true, true, true, true, true, true, false] rfl rfl (by kernel_rfl) (by decide) (fun K hK => ?_)
  go_simp
  refine hK.out _ _ ?_
  clear hK K
  refine norm_ (a' := ?_) ?_ ?_
  rotate_left
  · first
      | rfl
      | (simp only [Act.put, List.setIfInBounds_toArray, List.set_cons_zero, List.set_cons_succ]; rfl)
  refine last_ (i := 13) (N := some 6) #[true, true, true, true, true, true, true, true, true, true, true, true, true, true] rfl rfl (by kernel_rfl) (by decide) (fun K hK => ?_)
  go_simp
  refine hK.out _ _ ?_
  clear hK K
  refine norm_ (a' := ?_) ?_ ?_
  rotate_left
  · first
      | rfl
      | (simp only [Act.put, List.setIfInBounds_toArray, List.set_cons_zero, List.set_cons_succ]; rfl)
  refine done_ (by kernel_rfl) ?_
  clear c3' f3' g1 g2 e0 e1 e2 e3 e4
  go_wp2
  obtain ⟨hO, hF, hb2, k3⟩ := H4.out
  have hb := H3.out.2
  exact bodyPost_ret (ret_term_tmp Tryd.results60 rfl rfl (put5_blk k3)) rfl ⟨_, _, rfl, OwT.mov _ _ _ _ _ (put5_same (fun b hbm => by have := (hF.2 b hbm).1; omega)) hO, hF.mono (by omega) (Nat.le_of_eq (put5_size _ _ _ _ _ _ _).symm), put5_below (hb.trans (hb2.mono hb.size)) (by omega)⟩
end Go.Proofs.YtebgldnlkkhejaaDoor

/-! ## term.Put: every term with terms put in it, in memory of its own. -/
namespace Go.Proofs.YtebgldnlkkhejaaDoor
set_option linter.unusedSimpArgs false
set_option linter.unusedVariables false
open Go Go.RowKit Go.Proofs.YtebgldnlkkhejaaDoorW.PrintLast

abbrev Fits (n : Int) : Prop := -9223372036854775808 ≤ n ∧ n ≤ 9223372036854775807
theorem put_turn (by_ : List Tm) (A : Option Addr) (c : Nat) (w0 : World) (bb : Nat) (hbb : w0.cell? ⟨bb, 0, none⟩ = some (.slice A by_.length c)) (hK : Kinds w0) (hby : RdTs w0 (.slice A by_.length c) by_) (hok : ∀ t ∈ by_, Okt t ∧ t.nodes ≤ 1152921504606846976) :
    TurnOK w0 60 #[.pointer (some ⟨bb, 0, none⟩)] (putNode by_) Fits := by
  intro d k num a vl A2 l2 c2 lv W hk hs hl hokl hd hd' hn
  have hbbW := (hk _ _ (World.block_lt_of_cell? w0 _ hbb)).trans hbb
  unfold putNode
  by_cases h1 : k = 1 ∧ d ≤ num
  · rw [if_pos h1]
    obtain ⟨rfl, hdn⟩ := h1
    have hw : wrap64 (num - d) = num - d := by unfold wrap64; have := hn.1; have := hn.2; omega
    by_cases h2 : wrap64 (num - d) < (by_.length : Int)
    · rw [if_pos h2]
      have hq : by_.length - 1 - (wrap64 (num - d)).toNat < by_.length := by rw [hw] at h2 ⊢; omega
      rw [List.getElem?_eq_getElem hq, Option.getD_some]
      exact putFn_in by_ A c d num a vl A2 l2 c2 lv _ _ _ bb W hl (hK.keeps hk hs) (hby.below hk) hok hbbW hdn _ hq (by rw [hw] at h2 ⊢; omega)
    · rw [if_neg h2]
      exact putFn_far by_ A c d num a vl A2 l2 c2 lv _ _ _ bb W hl hokl hbbW hdn (by omega)
  · rw [if_neg h1]
    exact putFn_keep by_ A c d k num a vl A2 l2 c2 lv _ _ _ bb W hl hokl hbbW h1
theorem putCall (args : Array Value) (w : World) : (callFunc 60 args).run Tryd.prog w = .ok (.enter 60 args) w :=
  enters_ Tryd.func60 (by kernel_rfl) (by kernel_rfl) args w
set_option maxRecDepth 100000 in
set_option maxHeartbeats 1000000 in
theorem Put_any (t : Tm) (cs : List Value) (by_ : List Tm) (vb : Value) (w : World) (hK : Kinds w) (h : In w t cs) (hN : AllN Fits t) (hb : Ins w vb by_) :
    Calls Tryd.prog 29 #[.agg cs.toArray, vb] w (OutT w (putT by_ t)) := by
  obtain ⟨A1, l1, c1, A2, l2, c2, rfl⟩ := h.rd.cells
  obtain ⟨A, c, rfl, -⟩ := id hb.rd
  have hmf : ∀ (fn : Fn) (first cap : Array Value) (w : World), (Instr.makeFunc fn first cap).run Tryd.prog w = .ok (.func fn first cap) w := fun _ _ _ _ => rfl
  obtain ⟨k0, k1, k2, hbw, hsz⟩ := blks3 w #[.int .i64 t.kind, .int .i64 t.num, .int .i64 t.place, .slice A1 l1 c1, .slice A2 l2 c2] #[.slice A by_.length c] #[.int .i64 0, .int .i64 0, .int .i64 0, .slice none 0 0, .slice none 0 0] 30 28 30
  have HC := Lib.hid (walk_any _ 60 _ (putNode by_) _ putCall (put_turn by_ A c _ _ ((k1.cell 0).trans rfl) (hK.below hbw) (hb.rd.below (keeps_of hbw)) hb.ok) t 0 _ _ (fun _ _ _ => rfl) (Nat.le_refl _) (hK.below hbw) (RdT.below (keeps_of hbw) _ _ h.rd) h.ok (Int.le_refl _) (by have := h.few; omega) hN)
  have H := Lib.hid (And.intro k2 (And.intro hbw hsz))
  clear k0 k1 k2 hbw hsz hK h hb
  go_enter Tryd.func29, Tryd.ntmps29
  go_wp2_with fail
  refine HC.out.mono ?_
  rintro e w1 ⟨cs', F, rfl, hO, hF, hb1⟩
  obtain ⟨A3, l3, c3, A4, l4, c4, rfl⟩ := hO.cells
  obtain ⟨k2, hbw, hsz⟩ := H.out
  have k2 := k2.below hb1
  have c2' := k2.cell
  have f2' := k2.frozen
  have H1 := Lib.hid (And.intro k2 (And.intro hO (And.intro hF (And.intro hb1 (And.intro hbw hsz)))))
  clear k2 hO hF hb1 hbw hsz
  go_wp2
  obtain ⟨k2, hO, hF, hb1, hbw, hsz⟩ := H1.out
  rw [hsz] at hF
  exact term_end Tryd.results29 rfl k2 hO hF (by omega) (fun b hb => by have := (hF.2 b hb).1; omega) (hbw.trans (hb1.mono hbw.size)) (by omega) rfl
end Go.Proofs.YtebgldnlkkhejaaDoor

/-! ## tele: plain laws: what is made of terms that fit fits too; how great it is. -/
namespace Go.Proofs.YtebgldnlkkhejaaDoor
set_option linter.unusedSimpArgs false
set_option linter.unusedVariables false
open Go Go.RowKit

theorem num64_of : ∀ t, AllN Fits t → Num64 t := by
  intro t
  induction t using Tm.ind with
  | h k n a lv kids ih => exact fun h => .mk h.num.1 h.num.2 (fun t ht => ih t ht (h.kid t ht))
theorem wrap_fits (x : Int) : Fits (wrap64 x) := by unfold wrap64; constructor <;> omega
/-- A turn whose numbers fit. -/
structure FitNode (node : Node) : Prop where
  inl : ∀ d k n a lv p, node d k n a lv = .inl p → Fits n → Fits p.1
  inr : ∀ d k n a lv t, node d k n a lv = .inr t → AllN Fits t
theorem turn_fits {node : Node} (hn : FitNode node) : ∀ t, AllN Fits t → ∀ d, AllN Fits (turnT node d t) := by
  intro t
  induction t using Tm.ind with
  | h k n a lv kids ih =>
    intro h d
    simp only [turnT]
    cases hp : node d k n a lv with
    | inr t' => exact hn.inr _ _ _ _ _ _ hp
    | inl p =>
      obtain ⟨n', lv'⟩ := p
      refine .mk (hn.inl _ _ _ _ _ _ hp h.num) ?_
      have key : ∀ (ts : List Tm) (i : Nat), (∀ t ∈ ts, ∀ d, AllN Fits (turnT node d t)) → ∀ u ∈ turnL node d k i ts, AllN Fits u := by
        intro ts
        induction ts with
        | nil => intro i _ u hu; simp [turnL] at hu
        | cons t ts iht =>
          intro i hts u hu
          simp only [turnL] at hu
          rcases List.mem_cons.1 hu with rfl | hu
          · exact hts t (by simp) _
          · exact iht (i + 1) (fun t ht => hts t (by simp [ht])) u hu
      exact key kids 0 (fun t ht => ih t ht (h.kid t ht))
theorem lift_node_fits (n frm : Int) : FitNode (liftNode n frm) := by
  refine ⟨fun d k m a lv p hp h => ?_, fun d k m a lv t hp => ?_⟩
  · unfold liftNode at hp
    injection hp with hp
    subst hp
    unfold liftNum
    split
    · exact wrap_fits _
    · exact h
  · unfold liftNode at hp
    cases hp
theorem lift_fits (n frm d : Int) (t : Tm) (h : AllN Fits t) : AllN Fits (liftT n frm d t) := turn_fits (lift_node_fits n frm) t h d
theorem put_node_fits {by_ : List Tm} (hb : ∀ t ∈ by_, AllN Fits t) : FitNode (putNode by_) := by
  refine ⟨fun d k m a lv p hp h => ?_, fun d k m a lv t hp => ?_⟩
  · unfold putNode at hp
    split at hp
    · split at hp
      · cases hp
      · injection hp with hp
        subst hp
        exact wrap_fits _
    · injection hp with hp
      subst hp
      exact h
  · unfold putNode at hp
    split at hp
    · split at hp
      · injection hp with hp
        subst hp
        refine lift_fits _ _ _ _ ?_
        cases hq : by_[by_.length - 1 - (wrap64 (m - d)).toNat]? with
        | none => exact .mk ⟨by decide, by decide⟩ (by simp [Inhabited.default])
        | some u => exact hb u (List.mem_of_getElem? hq)
      · cases hp
    · cases hp
theorem up_fits (K : Int) : ∀ (row : List Tm) (t : Tm), (∀ r ∈ row, AllN Fits r) → AllN Fits t → AllN Fits (upT K row t)
  | [], t, _, h => h
  | r :: row, t, hr, h => by
    rw [upT_cons]
    refine .mk ⟨by decide, by decide⟩ (fun u hu => ?_)
    simp at hu
    rcases hu with rfl | rfl
    · exact hr _ (by simp)
    · exact up_fits K row t (fun r hr' => hr r (by simp [hr'])) h
theorem up_kids : ∀ (row : List Tm) (t : Tm), AllN Fits (upT 4 row t) → (∀ r ∈ row, AllN Fits r) ∧ AllN Fits t
  | [], t, h => ⟨by simp, h⟩
  | r :: row, t, h => by
    rw [upT_cons] at h
    obtain ⟨h1, h2⟩ := up_kids row t (h.kid _ (by simp))
    refine ⟨fun u hu => ?_, h2⟩
    rcases List.mem_cons.1 hu with rfl | hu
    · exact h.kid _ (by simp)
    · exact h1 u hu
/-! ### How great -/
theorem up_nodes (K : Int) (t : Tm) : ∀ row : List Tm, (upT K row t).nodes = Tm.nodesL row + row.length + t.nodes
  | [] => by simp [upT, Tm.nodesL]
  | r :: row => by
    rw [upT_cons]
    simp only [Tm.nodes, Tm.nodesL, up_nodes K t row, List.length_cons]
    omega
theorem up_okt (K : Int) : ∀ (row : List Tm) (t : Tm), (∀ r ∈ row, Okt r) → Okt t → Okt (upT K row t)
  | [], t, _, h => h
  | r :: row, t, hr, h => by
    rw [upT_cons]
    refine .mk ⟨by simp, by simp⟩ (by simp) (fun u hu => ?_)
    simp at hu
    rcases hu with rfl | rfl
    · exact hr _ (by simp)
    · exact up_okt K row t (fun r hr' => hr r (by simp [hr'])) h
/-- A turn that keeps levels; what it puts is no greater than M. -/
structure SizeNode (node : Node) (M : Nat) : Prop where
  pos : 1 ≤ M
  inl : ∀ d k n a lv p, node d k n a lv = .inl p → p.2 = lv
  inr : ∀ d k n a lv t, node d k n a lv = .inr t → Okt t ∧ t.nodes ≤ M
theorem turn_size {node : Node} {M : Nat} (hn : SizeNode node M) : ∀ t, Okt t → ∀ d, Okt (turnT node d t) ∧ (turnT node d t).nodes ≤ t.nodes * M := by
  intro t
  induction t using Tm.ind with
  | h k n a lv kids ih =>
    intro h d
    simp only [turnT]
    have hM := hn.pos
    cases hp : node d k n a lv with
    | inr t' =>
      obtain ⟨h1, h2⟩ := hn.inr _ _ _ _ _ _ hp
      refine ⟨h1, Nat.le_trans h2 ?_⟩
      simp only [Tm.nodes, Nat.add_mul, Nat.one_mul]
      omega
    | inl p =>
      obtain ⟨n', lv'⟩ := p
      have hl : lv' = lv := hn.inl _ _ _ _ _ _ hp
      subst hl
      have key : ∀ (ts : List Tm) (i : Nat), (∀ t ∈ ts, ∀ d, Okt (turnT node d t) ∧ (turnT node d t).nodes ≤ t.nodes * M) → (∀ u ∈ turnL node d k i ts, Okt u) ∧ Tm.nodesL (turnL node d k i ts) ≤ Tm.nodesL ts * M := by
        intro ts
        induction ts with
        | nil => intro i _; simp [turnL, Tm.nodesL]
        | cons t ts iht =>
          intro i hts
          obtain ⟨g1, g2⟩ := hts t (by simp) (deeper k i d)
          obtain ⟨g3, g4⟩ := iht (i + 1) (fun t ht => hts t (by simp [ht]))
          simp only [turnL, Tm.nodesL, Nat.add_mul]
          refine ⟨fun u hu => ?_, by omega⟩
          rcases List.mem_cons.1 hu with rfl | hu
          · exact g1
          · exact g3 u hu
      obtain ⟨g1, g2⟩ := key kids 0 (fun t ht => ih t ht (h.kid t ht))
      refine ⟨.mk h.lv (by rw [turnL_length]; exact h.len) g1, ?_⟩
      simp only [Tm.nodes, Nat.add_mul, Nat.one_mul]
      omega
theorem lift_node_size (n frm : Int) : SizeNode (liftNode n frm) 1 := by
  refine ⟨Nat.le_refl _, fun d k m a lv p hp => ?_, fun d k m a lv t hp => ?_⟩
  · unfold liftNode at hp
    injection hp with hp
    rw [← hp]
  · unfold liftNode at hp
    cases hp
theorem lift_size (n frm d : Int) (t : Tm) (h : Okt t) : Okt (liftT n frm d t) ∧ (liftT n frm d t).nodes ≤ t.nodes := by
  have := turn_size (lift_node_size n frm) t h d
  rwa [Nat.mul_one] at this
theorem put_node_size {by_ : List Tm} {M : Nat} (hM : 1 ≤ M) (hb : ∀ t ∈ by_, Okt t ∧ t.nodes ≤ M) : SizeNode (putNode by_) M := by
  refine ⟨hM, fun d k m a lv p hp => ?_, fun d k m a lv t hp => ?_⟩
  · unfold putNode at hp
    split at hp
    · split at hp
      · cases hp
      · injection hp with hp
        rw [← hp]
    · injection hp with hp
      rw [← hp]
  · unfold putNode at hp
    split at hp
    · split at hp
      · injection hp with hp
        subst hp
        cases hq : by_[by_.length - 1 - (wrap64 (m - d)).toNat]? with
        | none =>
          have : Okt (default : Tm) := .mk ⟨by simp, by simp⟩ (by simp) (by simp)
          obtain ⟨h1, h2⟩ := lift_size d 0 0 default this
          exact ⟨h1, Nat.le_trans h2 hM⟩
        | some u =>
          obtain ⟨g1, g2⟩ := hb u (List.mem_of_getElem? hq)
          obtain ⟨h1, h2⟩ := lift_size d 0 0 u g1
          exact ⟨h1, Nat.le_trans h2 g2⟩
      · cases hp
    · cases hp
theorem put_size {by_ : List Tm} {M : Nat} (hM : 1 ≤ M) (hb : ∀ t ∈ by_, Okt t ∧ t.nodes ≤ M) (t : Tm) (h : Okt t) : Okt (putT by_ t) ∧ (putT by_ t).nodes ≤ t.nodes * M := turn_size (put_node_size hM hb) t h 0
end Go.Proofs.YtebgldnlkkhejaaDoor

/-! ## tele: above, of a row that is read where it lay. -/
namespace Go.Proofs.YtebgldnlkkhejaaDoor
set_option linter.unusedSimpArgs false
set_option linter.unusedVariables false
open Go Go.RowKit Go.Shelf Go.Proofs.YtebgldnlkkhejaaDoorW.PrintLast

/-- Elements and their cells, read. -/
def RdE (w : World) : List E5 → List Tm → Prop
  | [], [] => True
  | e :: es, t :: ts => RdT w t e.cells ∧ RdE w es ts
  | _, _ => False
theorem RdE.length {w : World} : ∀ {es : List E5} {ts : List Tm}, RdE w es ts → es.length = ts.length
  | [], [], _ => rfl
  | e :: es, t :: ts, ⟨_, h⟩ => by simp [RdE.length h]
  | [], _ :: _, h => h.elim
  | _ :: _, [], h => h.elim
theorem RdE.keeps {w w' : World} (hk : Keeps w w') : ∀ {es : List E5} {ts : List Tm}, RdE w es ts → RdE w' es ts
  | [], [], _ => trivial
  | e :: es, t :: ts, ⟨h1, h2⟩ => ⟨RdT.below hk _ _ h1, RdE.keeps hk h2⟩
  | [], _ :: _, h => h.elim
  | _ :: _, [], h => h.elim
theorem rd_es {w : World} {g : Nat} : ∀ {ts : List Tm} {o : Nat}, RdL (RdT w) 5 w g o ts → ∃ es, RdE w es ts ∧ ∀ j, (h : j < es.length) → AtP w g (o + j * 5) es[j].cells
  | [], o, _ => ⟨[], trivial, fun j h => by simp at h⟩
  | t :: ts, o, ⟨⟨cs, hl, hr, ha⟩, h⟩ => by
    obtain ⟨A1, l1, c1, A2, l2, c2, rfl⟩ := hr.cells
    obtain ⟨es, h1, h2⟩ := rd_es h
    refine ⟨⟨t.kind, t.num, t.place, A1, l1, c1, A2, l2, c2⟩ :: es, ⟨hr, h1⟩, fun j hj => ?_⟩
    rcases j with _ | j
    · simpa using ha
    · have := h2 j (by simpa using hj)
      rw [show o + (j + 1) * 5 = o + 5 + j * 5 by omega]
      exact this
theorem rdLvs_nil (w : World) : RdLvs w (.slice none 0 0) [] := ⟨none, 0, rfl, by simp, by simp, .inl rfl⟩
theorem atP_blk {W : World} {B : Nat} {x y : List Value} {T : TypeId} (h : Blk W B (x ++ y).toArray T) (hx : x.length = 5) : AtP W B 0 x ∧ AtP W B 5 y := by
  constructor
  · intro j u hj
    have hl := (List.getElem?_eq_some_iff.1 hj).1
    rw [Nat.zero_add, h.cell j]
    simp only [List.getElem?_toArray]
    rw [List.getElem?_append_left hl]
    exact hj
  · intro j u hj
    rw [h.cell (5 + j)]
    simp only [List.getElem?_toArray]
    rw [List.getElem?_append_right (by omega), hx, Nat.add_sub_cancel_left]
    exact hj
theorem rd_two {W : World} {B : Nat} {K : Int} {x y : E5} {a b : Tm} (h : Blk W B (x.cells ++ y.cells).toArray 30) (ha : RdT W a x.cells) (hb : RdT W b y.cells) :
    RdT W (.mk K 0 0 [] [a, b]) (E5.cells ⟨K, 0, 0, none, 0, 0, some ⟨B, 0, none⟩, 2, 2⟩) := by
  obtain ⟨h1, h2⟩ := atP_blk h rfl
  exact (RdT_mk ..).2 ⟨_, _, rfl, rdLvs_nil W, some ⟨B, 0, none⟩, 2, rfl, by simp, by simp, .inr ⟨B, 0, rfl, ⟨_, rfl, ha, h1⟩, ⟨_, rfl, hb, h2⟩, trivial⟩⟩
theorem stk_rd {W : World} {K : Int} {B0 : Nat} {b : E5} {tb : Tm} (hb : RdT W tb b.cells) :
    ∀ {es : List E5} {ts : List Tm} {r : E5} {F : List Nat}, StkE W K B0 b es.reverse r F → RdE W es ts → RdT W (upT K ts tb) r.cells
  | [], [], r, F, hS, _ => by
    have : r = b := by
      rw [List.reverse_nil] at hS
      generalize hl : ([] : List E5) = l at hS
      cases hS with
      | nil => rfl
      | snoc x B => simp at hl
    subst this
    exact hb
  | e :: es, t :: ts, r, F, hS, ⟨h1, h2⟩ => by
    rw [List.reverse_cons] at hS
    obtain ⟨r0, F0, B, hS0, hB, hF0, hblk, rfl, rfl⟩ := hS.inv
    exact rd_two hblk h1 (stk_rd hb hS0 h2)
  | [], _ :: _, _, _, _, h => h.elim
  | _ :: _, [], _, _, _, h => h.elim
/-- above, of a row and a term that are read. -/
theorem above_rd (ts : List Tm) (tb : Tm) (v : Value) (cb : List Value) (K : Int) (w : World) (hl : ts.length ≤ 1099511627776) (h : RdTs w v ts) (hb : RdT w tb cb) :
    Calls Tryd.prog 53 #[.agg #[v], .int .i64 K, .agg cb.toArray] w (fun e w' => ∃ cs, e = .returned (.agg cs.toArray) ∧ RdT w' (upT K ts tb) cs ∧ Below w.heap.size w w') := by
  obtain ⟨A, c, rfl, hc, _, hr⟩ := id h
  obtain ⟨A1, l1, c1, A2, l2, c2, rfl⟩ := hb.cells
  have hes : ∃ es, RdE w es ts ∧ (es = [] ∨ ∃ b o, A = some ⟨b, o, none⟩ ∧ b < w.heap.size ∧ ∀ j, (h : j < es.length) → AtP w b (o + j * 5) es[j].cells) := by
    rcases hr with rfl | ⟨b, o, rfl, hr⟩
    · exact ⟨[], trivial, .inl rfl⟩
    · obtain ⟨es, h1, h2⟩ := rd_es hr
      refine ⟨es, h1, ?_⟩
      by_cases h0 : es = []
      · exact .inl h0
      · have hp : 0 < es.length := List.length_pos_iff.2 h0
        exact .inr ⟨b, o, rfl, World.block_lt_of_cell? w _ (h2 0 hp 0 _ rfl), h2⟩
  obtain ⟨es, hE, hat⟩ := hes
  have hel := hE.length
  rw [← hel] at hc hl ⊢
  refine (above_any A c es K ⟨tb.kind, tb.num, tb.place, A1, l1, c1, A2, l2, c2⟩ w hl hc hat).mono ?_
  rintro e w' ⟨r, G, rfl, hS, hbw⟩
  have hS2 := hS.e
  rw [backL_all] at hS2
  exact ⟨_, rfl, stk_rd (RdT.below (keeps_of hbw) _ _ hb) hS2 (hE.keeps (keeps_of hbw)), hbw⟩
end Go.Proofs.YtebgldnlkkhejaaDoor

/-! ## tele: with, Puts. -/
namespace Go.Proofs.YtebgldnlkkhejaaDoor
set_option linter.unusedSimpArgs false
set_option linter.unusedVariables false
open Go Go.RowKit Go.Shelf Go.Proofs.YtebgldnlkkhejaaDoorW.PrintLast

set_option maxRecDepth 100000 in
set_option maxHeartbeats 1000000 in
theorem with_any (A : Option Addr) (n c : Nat) (w : World) :
    Calls Tryd.prog 59 #[.agg #[.slice none 0 0], .slice A n c] w fun e w' => e = .returned (.agg #[.slice A n c]) ∧ Below w.heap.size w w' := by
  obtain ⟨k0, k1, hb, hsz⟩ := blks2 w #[.slice A n c] #[.slice A n c] 82 82
  have HI := Lib.hid (And.intro k1 hb)
  clear k0 k1 hb hsz
  go_enter Tryd.func59, Tryd.ntmps59
  go_wp2
  exact bodyPost_ret (ret_work Tryd.results59 rfl HI.out.1) rfl ⟨rfl, HI.out.2⟩
/-- Two kids, owned. -/
theorem own_two {w : World} {k n a : Int} {lv : List Lv} {x y : Tm} {cs : List Value} {F : List Nat} (h : OwT w (.mk k n a lv [x, y]) cs F) :
    ∃ (A1 : Option Addr) (l1 c1 b c2 : Nat) (x5 y5 : E5) (Fx Fy : List Nat), cs = [.int .i64 k, .int .i64 n, .int .i64 a, .slice A1 l1 c1, .slice (some ⟨b, 0, none⟩) 2 c2] ∧ b ∈ F ∧ OwT w x x5.cells Fx ∧ AtP w b 0 x5.cells ∧ OwT w y y5.cells Fy ∧ AtP w b 5 y5.cells ∧
      (∀ q ∈ Fx ++ Fy, q ∈ F) ∧ (F.Nodup → (Fx ++ Fy).Nodup) ∧ 2 ≤ c2 := by
  obtain ⟨vl, vk, F1, F2, rfl, h1, h2, rfl⟩ := (OwT_mk ..).1 h
  obtain ⟨A1, c1, rfl⟩ := OwS.slice h1
  obtain ⟨inner, Fi, hown, hin, rfl⟩ := h2
  rcases hown.2 with ⟨_, h0⟩ | ⟨g, cap, cur, rfl, _, hg, hn, _⟩
  · simp at h0
  obtain ⟨cx, r1, Fx, G1, rfl, hcx, hx, ⟨cy, r2, Fy, G2, rfl, hcy, hy, ⟨rfl, rfl⟩, rfl⟩, rfl⟩ := hin
  obtain ⟨A3, l3, c3, A4, l4, c4, rfl⟩ := hx.cells
  obtain ⟨A5, l5, c5, A6, l6, c6, rfl⟩ := hy.cells
  refine ⟨A1, lv.length, c1, g, cap, ⟨x.kind, x.num, x.place, A3, l3, c3, A4, l4, c4⟩, ⟨y.kind, y.num, y.place, A5, l5, c5, A6, l6, c6⟩, Fx, Fy, rfl, by simp [Value.ownBlock], hx, fun j u hj => ?_, hy, fun j u hj => ?_, fun q hq => ?_, fun hnd => ?_, by simpa using hn⟩
  · have := hown.cells (g := g) rfl j u (by rw [List.getElem?_append_left (by have := (List.getElem?_eq_some_iff.1 hj).1; simpa using this)]; exact hj)
    rwa [addr0] at this
  · have := hown.cells (g := g) rfl (5 + j) u (by rw [List.getElem?_append_right (by simp), List.getElem?_append_left (by have := (List.getElem?_eq_some_iff.1 hj).1; simp at this ⊢; omega)]; simpa using hj)
    rwa [addr0, Nat.zero_add] at this
  · simp only [List.append_nil] at hq ⊢
    exact List.mem_append_right _ (List.mem_append_right _ hq)
  · have h3 := (List.nodup_append.1 hnd).2.1
    have h4 := (List.nodup_append.1 h3).2.1
    simpa using h4
/-- An element appended that lay already. -/
theorem OwS.push2 {α : Type} {R : World → α → List Value → List Nat → Prop} {sz : Nat} {e : TypeId} {W1 w2 : World} {v v2 : Value} {xs : List α} {x : α} {cx : List Value} {F Fx : List Nat} {lo : Nat} (hR : Mov R)
    (h : OwS R sz e W1 v xs F) (hx : R W1 x cx Fx) (hF : Fr lo W1 (F ++ Fx)) (happ : ∀ inner, W1.ownsRow 0 e sz v xs.length inner → w2.ownsRow 0 e sz v2 (xs ++ [x]).length (inner ++ cx)) (hcx : cx.length = sz)
    (hg : W1.grownBy w2 v.ownBlock) (hat : v2.ownBlock = v.ownBlock ∨ v2.ownBlock = some W1.heap.size) (h2s : ∀ k, v2.ownBlock = some k → k < w2.heap.size) :
    ∃ F2, OwS R sz e w2 v2 (xs ++ [x]) F2 ∧ F2.Nodup ∧ ∀ q ∈ F2, (q ∈ F ++ Fx ∨ q = W1.heap.size) ∧ q < w2.heap.size := by
  obtain ⟨inner, Fi, h1, h2, rfl⟩ := h
  have s1 := hg.size
  have hnd := List.nodup_append.1 hF.1
  have hnd1 := List.nodup_append.1 hnd.1
  have hsame : Same (Fi ++ Fx) W1 w2 := fun b hb => by
    have hl : b < W1.heap.size := by
      rcases List.mem_append.1 hb with hb | hb
      · exact (hF.2 b (List.mem_append_left _ (List.mem_append_right _ hb))).2
      · exact (hF.2 b (List.mem_append_right _ hb)).2
    refine hg.block b hl (fun e => ?_)
    have hv : b ∈ v.ownBlock.toList := by rw [← e]; simp
    rcases List.mem_append.1 hb with hb | hb
    · exact hnd1.2.2 b hv b hb rfl
    · exact hnd.2.2 b (List.mem_append_left _ hv) b hb rfl
  refine ⟨v2.ownBlock.toList ++ (Fi ++ Fx), ⟨inner ++ cx, Fi ++ Fx, happ inner h1, ?_, rfl⟩, ?_, fun q hq => ?_⟩
  · exact (h2.imp (fun x cs G _ hG h => hR _ _ _ _ _ (fun b hb => hsame.left b (hG b hb)) h)).snoc (hR _ _ _ _ _ hsame.right hx) hcx
  · refine List.nodup_append.2 ⟨by cases v2.ownBlock <;> simp, List.nodup_append.2 ⟨hnd1.2.1, hnd.2.1, fun a ha b hb => hnd.2.2 a (List.mem_append_right _ ha) b hb⟩, fun a ha b hb e => ?_⟩
    subst e
    have ha' : v2.ownBlock = some a := by simpa using ha
    have hl : a ∈ Fi ++ Fx → a < W1.heap.size := fun hb => by
      rcases List.mem_append.1 hb with hb | hb
      · exact (hF.2 a (List.mem_append_left _ (List.mem_append_right _ hb))).2
      · exact (hF.2 a (List.mem_append_right _ hb)).2
    rcases hat with hat | hat
    · have hv : a ∈ v.ownBlock.toList := by rw [← hat, ha']; simp
      rcases List.mem_append.1 hb with hb | hb
      · exact hnd1.2.2 a hv a hb rfl
      · exact hnd.2.2 a (List.mem_append_left _ hv) a hb rfl
    · have := hl hb
      rw [ha'] at hat
      simp at hat
      omega
  · rcases List.mem_append.1 hq with hq | hq
    · have ha' : v2.ownBlock = some q := by simpa using hq
      refine ⟨?_, h2s q ha'⟩
      rcases hat with hat | hat
      · exact .inl (List.mem_append_left _ (List.mem_append_left _ (by rw [← hat, ha']; simp)))
      · rw [ha'] at hat
        simp at hat
        exact .inr hat
    · rcases List.mem_append.1 hq with hq | hq
      · exact ⟨.inl (List.mem_append_left _ (List.mem_append_right _ hq)), by have := (hF.2 q (List.mem_append_left _ (List.mem_append_right _ hq))).2; omega⟩
      · exact ⟨.inl (List.mem_append_right _ hq), by have := (hF.2 q (List.mem_append_right _ hq)).2; omega⟩
/-- A term that is taken apart, a row that grows of it. -/
structure PuInv (w : World) (B : Nat) (u : Tm) (u5 : E5) (v : Value) (done : List Tm) (Fo Fu : List Nat) (wr : World) : Prop where
  hb : Below w.heap.size w wr
  kB : Blk wr B u5.cells.toArray 30
  hu : OwT wr u u5.cells Fu
  hd : OwTs wr v done Fo
  hF : Fr w.heap.size wr (Fo ++ Fu)
  hB : ∀ q ∈ Fo ++ Fu, q ≠ B
  hw : w.heap.size ≤ B
theorem PuInv.push {w wr w5 : World} {B : Nat} {u x y : Tm} {u5 x5 y5 : E5} {v v2 : Value} {done : List Tm} {Fo Fu Fx Fy : List Nat}
    (h : PuInv w B u u5 v done Fo Fu wr) (hx : OwT wr x x5.cells Fx) (hy : OwT wr y y5.cells Fy) (hsub : ∀ q ∈ Fx ++ Fy, q ∈ Fu) (hnd : Fu.Nodup → (Fx ++ Fy).Nodup)
    (happ : ∀ inner, wr.ownsRow 0 30 5 v done.length inner → w5.ownsRow 0 30 5 v2 (done.length + 1) (inner ++ x5.cells))
    (hg : (wr.alloc (.cells x5.cells.toArray 30)).grownBy w5 v.ownBlock) (hat : v2.ownBlock = v.ownBlock ∨ v2.ownBlock = some (wr.heap.size + 1)) (h2s : ∀ k, v2.ownBlock = some k → k < w5.heap.size) :
    ∃ F2, PuInv w B y y5 v2 (done ++ [x]) F2 Fy (put5 w5 B (.int .i64 y5.k) (.int .i64 y5.n) (.int .i64 y5.a) (.slice y5.A1 y5.l1 y5.c1) (.slice y5.A2 y5.l2 y5.c2)) := by
  obtain ⟨hb, kB, hu, hd, hF, hB, hw⟩ := h
  have hA : Below wr.heap.size wr (wr.alloc (.cells x5.cells.toArray 30)) := (Below.refl _ _).alloc (Nat.le_refl _) _
  have hsA : (wr.alloc (.cells x5.cells.toArray 30)).heap.size = wr.heap.size + 1 := by simp
  have s0 := hb.size
  have s1 := hg.size
  rw [hsA] at s1
  have hnn := List.nodup_append.1 hF.1
  have hxy := List.nodup_append.1 (hnd hnn.2.1)
  have lo : ∀ q ∈ Fo, w.heap.size ≤ q ∧ q < wr.heap.size := fun q hq => hF.2 q (List.mem_append_left _ hq)
  have lu : ∀ q ∈ Fu, w.heap.size ≤ q ∧ q < wr.heap.size := fun q hq => hF.2 q (List.mem_append_right _ hq)
  have lx : ∀ q ∈ Fx, q ∈ Fu := fun q hq => hsub q (List.mem_append_left _ hq)
  have ly : ∀ q ∈ Fy, q ∈ Fu := fun q hq => hsub q (List.mem_append_right _ hq)
  have hlB := kB.lt
  have hvo : ∀ q, v.ownBlock = some q → q ∈ Fo := fun q hq => by
    obtain ⟨inner, Fi, g1, g2, rfl⟩ := hd
    exact List.mem_append_left _ (by simp [hq])
  have hd1 : OwTs (wr.alloc (.cells x5.cells.toArray 30)) v done Fo := hd.move (fun q hq => hA.block q (lo q hq).2)
  have hx1 : OwT (wr.alloc (.cells x5.cells.toArray 30)) x x5.cells Fx := OwT.mov _ _ _ _ _ (fun q hq => hA.block q (lu q (lx q hq)).2) hx
  obtain ⟨F2, g1, g2, g3⟩ := OwS.push2 (v2 := v2) (w2 := w5) (lo := w.heap.size) OwT.mov hd1 hx1 ⟨List.nodup_append.2 ⟨hnn.1, hxy.1, fun a ha b hb => hnn.2.2 a ha b (lx b hb)⟩, fun q hq => by
      rcases List.mem_append.1 hq with hq | hq
      · have := lo q hq; omega
      · have := lu q (lx q hq); omega⟩
    (fun inner hi => by
      rw [List.length_append, List.length_singleton]
      exact happ inner (ownsRow_move hi (fun q hq => (hA.block q (lo q (hvo q hq)).2).symm))) rfl hg (by rw [hsA]; exact hat) h2s
  have hat5 := put5_at w5 B (.int .i64 y5.k) (.int .i64 y5.n) (.int .i64 y5.a) (.slice y5.A1 y5.l1 y5.c1) (.slice y5.A2 y5.l2 y5.c2)
  have hsz5 := put5_size w5 B (.int .i64 y5.k) (.int .i64 y5.n) (.int .i64 y5.a) (.slice y5.A1 y5.l1 y5.c1) (.slice y5.A2 y5.l2 y5.c2)
  have hkeep : ∀ q, q < wr.heap.size → v.ownBlock ≠ some q → w5.heap[q]? = wr.heap[q]? := fun q hq hne => (hg.block q (by omega) (fun e => hne e.symm)).trans (hA.block q hq)
  have hB5 : Blk w5 B u5.cells.toArray 30 := (hkeep B hlB (fun e => hB B (List.mem_append_left _ (hvo B e)) rfl)).trans kB
  have hF2B : ∀ q ∈ F2, q ≠ B := fun q hq => by
    rcases (g3 q hq).1 with h | h
    · rcases List.mem_append.1 h with h | h
      · exact hB q (List.mem_append_left _ h)
      · exact hB q (List.mem_append_right _ (lx q h))
    · rw [hsA] at h
      omega
  have hFyB : ∀ q ∈ Fy, q ≠ B := fun q hq => hB q (List.mem_append_right _ (ly q hq))
  have hvy : ∀ q ∈ Fy, v.ownBlock ≠ some q := fun q hq e => hnn.2.2 q (hvo q e) q (ly q hq) rfl
  refine ⟨F2, ?_, put5_blk hB5, ?_, OwTs.move g1 (put5_same hF2B), ⟨List.nodup_append.2 ⟨g2, hxy.2.1, fun a ha b hb e => ?_⟩, fun q hq => ?_⟩, fun q hq => ?_, hw⟩
  · refine put5_below (hb.trans ⟨?_, ?_, ?_, by omega, fun q hq => hkeep q (by omega) (fun e => by have := (lo q (hvo q e)).1; omega)⟩) hw
    · rw [hg.os]; rfl
    · rw [hg.tape]; rfl
    · rw [hg.output]; rfl
  · refine OwT.mov _ _ _ _ _ (put5_same hFyB) (OwT.mov _ _ _ _ _ (fun q hq => hkeep q (lu q (ly q hq)).2 (hvy q hq)) hy)
  · subst e
    rcases (g3 a ha).1 with h | h
    · rcases List.mem_append.1 h with h | h
      · exact hnn.2.2 a h a (ly a hb) rfl
      · exact hxy.2.2 a h a hb rfl
    · have := (lu a (ly a hb)).2
      rw [hsA] at h
      omega
  · rw [hsz5]
    rcases List.mem_append.1 hq with hq | hq
    · have h := g3 q hq
      refine ⟨?_, h.2⟩
      rcases h.1 with h | h
      · rcases List.mem_append.1 h with h | h
        · exact (lo q h).1
        · exact (lu q (lx q h)).1
      · rw [hsA] at h
        omega
    · have := lu q (ly q hq)
      omega
  · rcases List.mem_append.1 hq with hq | hq
    · exact hF2B q hq
    · exact hFyB q hq
set_option maxRecDepth 100000 in
set_option maxHeartbeats 2000000 in
theorem Puts_any (row : List Tm) (by_ : List Tm) (vr vb : Value) (w : World) (M : Nat) (hK : Kinds w) (h : Ins w vr row) (hN : ∀ r ∈ row, AllN Fits r) (hb : Ins w vb by_) (hM : Tm.nodesL row + row.length + 1 ≤ 1152921504606846976) :
    Calls Tryd.prog 27 #[vr, vb] w (OutTs w (rowT (putNode by_) 0 row)) := by
  obtain ⟨A, c, rfl, -⟩ := id h.rd
  obtain ⟨Ab, cb, rfl, -⟩ := id hb.rd
  have HI := Lib.hid (And.intro h (And.intro hb (And.intro hK (And.intro hN hM))))
  obtain ⟨R, hR⟩ : ∃ R, R = rowT (putNode by_) 0 row := ⟨_, rfl⟩
  rw [← hR]
  have HRR := Lib.hid hR
  clear h hb hK hN hM hR
  go_enter Tryd.func27, Tryd.ntmps27
  go_wp2_with fail
  refine (with_any A row.length c w).mono ?_
  rintro e w1 ⟨rfl, hb1⟩
  have hfd := field_work A row.length c
  have HB1 := Lib.hid hb1
  clear hb1
  go_wp2_with fail
  have hz : RdT w1 (.mk 0 0 0 [] []) [.int .i64 0, .int .i64 0, .int .i64 0, .slice none 0 0, .slice none 0 0] := (RdT_mk ..).2 ⟨_, _, rfl, rdLvs_nil w1, none, 0, rfl, by simp, by simp, .inl rfl⟩
  refine (above_rd row (.mk 0 0 0 [] []) _ _ 4 w1 HI.out.1.len (HI.out.1.rd.below (keeps_of HB1.out)) hz).mono ?_
  rintro e w2 ⟨cs2, rfl, hR2, hb2⟩
  obtain ⟨A3, l3, c3, A4, l4, c4, rfl⟩ := hR2.cells
  have HR2 := Lib.hid (And.intro hR2 (HB1.out.trans (hb2.mono HB1.out.size)))
  clear hR2 hb2 hfd hz
  go_wp2_with fail
  have hzf : AllN Fits (.mk 0 0 0 [] []) := .mk ⟨by decide, by decide⟩ (by simp)
  have hzo : Okt (.mk 0 0 0 [] []) := .mk ⟨by simp, by simp⟩ (by simp) (by simp)
  refine (Put_any (upT 4 row (.mk 0 0 0 [] [])) _ by_ _ w2 (HI.out.2.2.1.below HR2.out.2) ⟨HR2.out.1, up_okt 4 row _ (fun r hr => (HI.out.1.ok r hr).1) hzo, by rw [up_nodes]; have := HI.out.2.2.2.2; simp only [Tm.nodes, Tm.nodesL]; omega⟩ (up_fits 4 row _ HI.out.2.2.2.1 hzf) (HI.out.2.1.keeps (keeps_of HR2.out.2))).mono ?_
  clear hzf hzo
  rintro e w3 ⟨cs3, F, rfl, hO, hF, hb3⟩
  rw [put_up] at hO
  have hR := HRR.out
  obtain ⟨tE, hE⟩ : ∃ tE, tE = turnT (putNode by_) (row.length : Int) (.mk 0 0 0 [] []) := ⟨_, rfl⟩
  have hRl : R.length = row.length := by rw [hR, rowT_length]
  rw [← hR, ← hE] at hO
  clear hR hE
  obtain ⟨A5, l5, c5, A6, l6, c6, rfl⟩ := hO.cells
  obtain ⟨k5, hb5, hs5⟩ := blks1 w3 #[.int .i64 (upT 4 R tE).kind, .int .i64 (upT 4 R tE).num, .int .i64 (upT 4 R tE).place, .slice A5 l5 c5, .slice A6 l6 c6] 30
  have hw3 := HR2.out.2.trans (hb3.mono HR2.out.2.size)
  have s2 := HR2.out.2.size
  have HV0 := Lib.hid (show PuInv w w3.heap.size (upT 4 (R.drop 0) tE) ⟨(upT 4 R tE).kind, (upT 4 R tE).num, (upT 4 R tE).place, A5, l5, c5, A6, l6, c6⟩ (.slice none 0 0) (R.take 0) [] F _ from
    ⟨hw3.trans (hb5.mono hw3.size), k5, OwT.mov _ _ _ _ _ (Same.of_below hF hb5) hO, OwS.nil _ _ _ _, by rw [List.nil_append]; exact hF.mono s2 (by omega), fun q hq => by rw [List.nil_append] at hq; have := (hF.2 q hq).2; omega, hw3.size⟩)
  have hlen : (row.length : Int) ≤ 9223372036854775807 := by have := HI.out.1.len; omega
  have HL := Lib.hid (And.intro hRl HI.out.1.len)
  clear k5 hb5 hs5 hO hF hb3 hw3 s2 hRl HR2 HB1
  go_wp2_with fail
  go_loopw [4, 16] (fun v i wr => ∃ j : Nat, j ≤ row.length ∧ i = .int .i64 j ∧ ∃ (A : Option Addr) (c : Nat), v = .slice A j c ∧ ∃ (k n a : Int) (A1 : Option Addr) (l1 c1 : Nat) (A2 : Option Addr) (l2 c2 : Nat) (Fo Fu : List Nat), Hid (PuInv w w3.heap.size (upT 4 (R.drop j) tE) ⟨k, n, a, A1, l1, c1, A2, l2, c2⟩ (.slice A j c) (R.take j) Fo Fu wr)) (fun _ i _ => row.length - (intOf i).toNat)
  case atStart => exact ⟨0, by omega, rfl, none, 0, rfl, _, _, _, _, _, _, _, _, _, [], F, HV0⟩
  case round =>
    obtain ⟨j, hj, rfl, A, c, rfl, k, n, a, A1, l1, c1, A2, l2, c2, Fo, Fu, HV⟩ := hrel
    clear HV0
    by_cases hlt : j < row.length
    · have hjR : j < R.length := by rw [HL.out.1]; exact hlt
      have hj1 : (j : Int) < (row.length : Int) := by omega
      have hv := HV.out
      have hu := hv.hu
      rw [List.drop_eq_getElem_cons hjR, upT_cons] at hu
      obtain ⟨A1', l1', c1', b, c2', x5, y5, Fx, Fy, he, hbF, hx, ax, hy, ay, hsub, hnd, hc2⟩ := own_two hu
      simp at he
      obtain ⟨rfl, rfl, rfl, ⟨rfl, rfl, rfl⟩, rfl, rfl, rfl⟩ := he
      obtain ⟨xk, xn, xa, xA1, xl1, xc1, xA2, xl2, xc2⟩ := x5
      obtain ⟨yk, yn, ya, yA1, yl1, yc1, yA2, yl2, yc2⟩ := y5
      obtain ⟨inner, Fi, hown, -, hFi⟩ := id hv.hd
      have htl : (R.take j).length = j := by rw [List.length_take]; omega
      rw [htl] at hown
      have p0 := ax 0 _ rfl
      have p1 := ax 1 _ rfl
      have p2 := ax 2 _ rfl
      have p3 := ax 3 _ rfl
      have p4 := ax 4 _ rfl
      simp only [Nat.add_zero, Nat.zero_add, Nat.reduceAdd] at p0 p1 p2 p3 p4
      have g0 := hv.kB.cell
      have n0 := hv.kB.lt
      have hbl : b < wr.heap.size := (hv.hF.2 b (List.mem_append_right _ hbF)).2
      dsimp only [E5.cells] at g0
      have hA : Below wr.heap.size wr (wr.alloc (.cells #[.int .i64 xk, .int .i64 xn, .int .i64 xa, .slice xA1 xl1 xc1, .slice xA2 xl2 xc2] 30)) := (Below.refl _ _).alloc (Nat.le_refl _) _
      have hown1 := ownsRow_move hown (fun q hq => hA.block q (hown.lt q hq).2)
      have HO := Lib.hid (And.intro hown1 (And.intro hown (And.intro hFi htl)))
      have HX := Lib.hid (And.intro hx (And.intro hy (And.intro ay (And.intro hsub (And.intro hnd hbF)))))
      clear hv hu hx hy ax ay hsub hnd hbF hown hown1 hFi htl hA
      go_wp2_with (at_builtin; refine wpList_app rfl (.tmp 18) (.tmp 23) 28 rfl 0 30 _ 5 72 Tryd.underlying28 infoTm rfl (by decide) (.slice A j c) j inner rfl HO.out.1 ⟨wr.heap.size, 0, none⟩ 1 1 [.int .i64 xk, .int .i64 xn, .int .i64 xa, .slice xA1 xl1 xc1, .slice xA2 xl2 xc2] rfl rfl (news_at (Blk.new wr _ _)) (by simp [Value.oneCell']) (by have := HL.out.2; simp only [maxLen]; omega) (by have := HL.out.2; omega) (Nat.zero_le _) ?_)
      intro v2 w5 hown2 hg hat
      obtain ⟨g, c9, rfl⟩ := ownsRow_succ hown2
      have hv := HV.out
      have hne : ∀ q ∈ Fu, (Value.slice A j c).ownBlock ≠ some q := fun q hq e => (List.nodup_append.1 hv.hF.1).2.2 q (by rw [HO.out.2.2.1, e]; simp) q hq rfl
      have hAb : ∀ q, q < wr.heap.size → (Value.slice A j c).ownBlock ≠ some q → w5.heap[q]? = wr.heap[q]? := fun q hq hn => (hg.block q (by simp; omega) (fun e => hn e.symm)).trans (heap_alloc_old wr _ hq)
      have kB5 : Blk w5 w3.heap.size #[.int .i64 4, .int .i64 0, .int .i64 0, .slice A1 l1 c1, .slice (some ⟨b, 0, none⟩) 2 c2] 30 := (hAb _ n0 (fun e => hv.hB w3.heap.size (List.mem_append_left _ (by rw [HO.out.2.2.1, e]; simp)) rfl)).trans hv.kB
      have q5 : ∀ o, w5.cell? ⟨b, o, none⟩ = wr.cell? ⟨b, o, none⟩ := fun o => World.cell?_of_block (a := ⟨b, o, none⟩) (hAb b hbl (hne b HX.out.2.2.2.2.2))
      have q0 := (q5 _).trans (HX.out.2.2.1 0 _ rfl)
      have q1 := (q5 _).trans (HX.out.2.2.1 1 _ rfl)
      have q2 := (q5 _).trans (HX.out.2.2.1 2 _ rfl)
      have q3 := (q5 _).trans (HX.out.2.2.1 3 _ rfl)
      have q4 := (q5 _).trans (HX.out.2.2.1 4 _ rfl)
      simp only [Nat.add_zero, Nat.reduceAdd] at q0 q1 q2 q3 q4
      have HP := Lib.hid (hv.push (x5 := ⟨xk, xn, xa, xA1, xl1, xc1, xA2, xl2, xc2⟩) (y5 := ⟨yk, yn, ya, yA1, yl1, yc1, yA2, yl2, yc2⟩) (v2 := .slice (some ⟨g, 0, none⟩) (j + 1) c9) HX.out.1 HX.out.2.1 HX.out.2.2.2.1 HX.out.2.2.2.2.1
        (fun inner' hi' => by rw [HO.out.2.2.2] at hi' ⊢; rw [ownsRow_unique hi' HO.out.2.1]; exact hown2) hg hat (fun q hq => (hown2.lt q hq).2))
      have g5 := kB5.cell
      have f5 := kB5.frozen
      have n5 := kB5.lt
      clear hown2 hg hat hv hne hAb kB5 q5 p0 p1 p2 p3 p4 g0 n0
      go_wp2
      go_roundw
      case rel =>
        obtain ⟨F2, hw⟩ := HP.out
        rw [← List.take_succ_eq_append_getElem hjR] at hw
        exact ⟨j + 1, by omega, by go_num, _, c9, rfl, _, _, _, _, _, _, _, _, _, F2, Fy, Lib.hid hw⟩
      case measure => simp [intOf]; omega
    · go_wp2
      go_ret
      have hjk : j = row.length := by omega
      subst hjk
      have hv := HV.out
      have hd := hv.hd
      rw [← HL.out.1, List.take_length] at hd
      refine ⟨A, c, Fo, by rw [HL.out.1]; rfl, hd, ⟨(List.nodup_append.1 hv.hF.1).1, fun q hq => hv.hF.2 q (List.mem_append_left _ hq)⟩, hv.hb⟩
end Go.Proofs.YtebgldnlkkhejaaDoor
