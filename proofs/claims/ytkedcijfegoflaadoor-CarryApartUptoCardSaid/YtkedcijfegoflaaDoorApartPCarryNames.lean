/- spandrellaw21.CarryApart: walked. -/
import Derived.Test.YtkedcijfegoflaaDoorAwakePCarryNames
import Derived.Test.YtkedcijfegoflaaDoorApartL
import Derived.Test.YtkedcijfegoflaaDoorQuiet
import Derived.Laws.MakeOwn
namespace Go.Proofs.YtkedcijfegoflaaDoor.PCarryNames
set_option linter.unusedSimpArgs false
set_option linter.unusedVariables false
open Go Go.RowKit Go.Proofs.YtkedcijfegoflaaDoor Go.Proofs.YtkedcijfegoflaaDoorW.PrintLast

def nmCells (names : List Nm) : List Value := names.flatMap (fun x => [.int .i64 x.1, .int .i64 x.2.1, .int .i64 x.2.2, .slice none 0 0, .slice none 0 0])
theorem nmCells_len : ∀ names, (nmCells names).length = names.length * 5
  | [] => rfl
  | x :: xs => by
    have := nmCells_len xs
    simp only [nmCells, List.flatMap_cons, List.length_append, List.length_cons, List.length_nil] at *
    omega
theorem nmCells_get : ∀ (names : List Nm) (k : Nat) (x : Nm), names[k]? = some x → (nmCells names)[k * 5]? = some (.int .i64 x.1) ∧ (nmCells names)[k * 5 + 1]? = some (.int .i64 x.2.1) ∧ (nmCells names)[k * 5 + 2]? = some (.int .i64 x.2.2) ∧ (nmCells names)[k * 5 + 3]? = some (.slice none 0 0) ∧ (nmCells names)[k * 5 + 4]? = some (.slice none 0 0)
  | [], k, x, h => by simp at h
  | y :: ys, 0, x, h => by simp at h; subst h; simp [nmCells]
  | y :: ys, k + 1, x, h => by
    have := nmCells_get ys k x (by simpa using h)
    have e : ∀ t, (nmCells (y :: ys))[(k + 1) * 5 + t]? = (nmCells ys)[k * 5 + t]? := fun t => by
      rw [show nmCells (y :: ys) = [.int .i64 y.1, .int .i64 y.2.1, .int .i64 y.2.2, .slice none 0 0, .slice none 0 0] ++ nmCells ys from rfl, List.getElem?_append_right (by simp; omega)]
      congr 1
      simp; omega
    have e0 := e 0
    simp only [Nat.add_zero] at e0
    rw [e0, e 1, e 2, e 3, e 4]
    exact this
theorem nmCells_app (a b : List Nm) : nmCells (a ++ b) = nmCells a ++ nmCells b := by simp [nmCells]
theorem car_nm {ds : List Dc} {ats : List Int} {k n a v : Int} (h : nameI ds ats k n a = some v) : carT ds ats (leaf k n a) = leaf 3 v 0 := by simp only [leaf, carT, h, carL]
/-- The marks: below the base anything, from it on none. -/
structure AInv (w3 : World) (gS N lo : Nat) (wr : World) : Prop where
  hb : Below w3.heap.size w3 wr
  hS : ∃ S : Array Value, Blk wr gS S 4 ∧ S.size = N ∧ ∀ p, lo ≤ p → p < N → S[p]? = some (.bool false)
/-- The names so far, in a row of one's own. -/
structure NInv (W : World) (v : Value) (names : List Nm) (wr : World) : Prop where
  hb : Below W.heap.size W wr
  own : wr.ownsRow W.heap.size 30 5 v names.length (nmCells names)
structure LInv (w3 W : World) (gS N lo : Nat) (v : Value) (names : List Nm) (vals : List Nat) (k : Nat) (wr : World) : Prop where
  hb : Below w3.heap.size w3 wr
  hs : W.heap.size ≤ wr.heap.size
  own : wr.ownsRow W.heap.size 30 5 v names.length (nmCells names)
  hS : ∃ S : Array Value, Blk wr gS S 4 ∧ S.size = N ∧ ∀ p, lo ≤ p → p < N → (∀ i v, i < k → vals[i]? = some v → v ≠ p) → S[p]? = some (.bool false)
theorem bD_parts (d : Dc) : d.members.length + d.ctors.length + 1 ≤ bD d := by
  have h6 := sum_len bM (fun m => by unfold bM; omega) d.members
  have h7 := sum_len bC (fun c => by unfold bC; omega) d.ctors
  unfold bD
  omega
theorem make_bools (N : Nat) (hN : N ≤ 4194304) (w : World) : (Instr.makeSlice 45 (.int .i64 (N : Int)) (.int .i64 (N : Int))).run Tryd.prog w = .ok (.slice (some ⟨w.heap.size, 0, none⟩) N N) (w.alloc (.cells (madeCells #[.bool false] N) 4)) := by
  have infoB : (Tryd.prog.info? 4).map (fun i => (i.zero, i.size, i.bytes)) = some (some (.bool false), 1, 1) := by kernel_rfl
  obtain ⟨i0, hi, hz0, hz1, hz2⟩ := info_parts infoB
  have := run_make (P := Tryd.prog) w 45 4 i0 _ Tryd.underlying45 hi hz0 .i64 .i64 N N (by omega) (by omega) (by rw [hz2]; omega) (by omega)
  rw [hz1] at this
  simpa [Value.cells] using this
set_option maxRecDepth 100000 in
set_option maxHeartbeats 16000000 in
theorem apart_any (ds : List Dc) (vd : Value) (w : World) (hK : Kinds w) (h : RdDs w vd ds) (hbk : bDs ds ≤ 1048576) :
    Calls Tryd.prog 4 #[vd] w fun e w' => e = .returned (.bool true) ∧ Below w.heap.size w w' := by
  have hlen : ds.length ≤ 1048576 := by have := sum_len bD (fun d => by unfold bD; omega) ds; unfold bDs at hbk; omega
  obtain ⟨Ad, cd, rfl, hcd, hld, hrd⟩ := id h
  have hkl : (ds.length : Int) ≤ 9223372036854775807 := by omega
  have HK := Lib.hid hK
  have HD := Lib.hid h
  have HR := Lib.hid hrd
  have HBK := Lib.hid hbk
  have HLEN := Lib.hid hlen
  have HTOT := Lib.hid (show tot ds ≤ 2097152 by have := tot_le ds; unfold bDs at hbk; omega)
  clear hK h hrd hcd hld hbk hlen
  go_enter Tryd.func4, Tryd.ntmps4
  go_wp2_with fail
  refine (awake_any w HK.out).mono ?_
  rintro e w1 ⟨rfl, hb1⟩
  have HB1 := Lib.hid hb1
  clear hb1
  go_wp2_with fail
  refine (DeclsOf_q ds _ 1500 w1 (HD.out.below (keeps_of HB1.out))).mono ?_
  rintro e w2 ⟨r, rfl, hb2⟩
  have HB2 := Lib.hid (HB1.out.trans (hb2.mono HB1.out.size))
  clear hb2
  by_cases hr : 1500 < r
  · go_wp2
    go_ret
    exact ⟨rfl, HB2.out⟩
  go_wp2_with fail
  refine (At_any ds _ w2 (HD.out.below (keeps_of HB2.out)) (by have := HLEN.out; omega)).mono ?_
  rintro e w3 ⟨A3, c3, rfl, ha, hb3⟩
  have HE := Lib.hid (show CEnv w3 (.slice Ad ds.length cd) (.slice A3 (atI ds).length c3) ds (atI ds) from ⟨(HK.out.below HB2.out).below hb3, (HD.out.below (keeps_of HB2.out)).below (keeps_of hb3), ha⟩)
  have HB3 := Lib.hid (HB2.out.trans (hb3.mono HB2.out.size))
  clear ha hb3 hr HB1 HB2 HK
  go_wp2_with fail
  go_loopw [4, 5] (fun a i wr => ∃ j : Nat, j ≤ ds.length ∧ i = .int .i64 j ∧ a = .int .i64 (tot (ds.take j) : Nat) ∧ Hid (Below w3.heap.size w3 wr)) (fun _ i _ => ds.length - (intOf i).toNat)
  case atStart => exact ⟨0, by omega, rfl, by simp [tot], Lib.hid (Below.refl _ _)⟩
  case round =>
    obtain ⟨j, hj, rfl, rfl, HV⟩ := hrel
    by_cases hlt : j < ds.length
    · rcases HR.out with rfl | ⟨b, o, rfl, hkr⟩
      · simp at hlt
      obtain ⟨t0, t1, t2, b0, b1, b2, A1, l1, c1, A2, l2, c2, A4, l4, c4, A5, l5, c5, A6, l6, c6, A7, l7, c7, A8, c8, A9, c9, hRD, e0, e1, e2, e3, e4, e5, e6, e7, e8, e9, e10, e11, e12, e13, e14, e15, hbl⟩ := RdD_at hkr j hlt
      have hbw := HB3.out.trans (HV.out.mono HB3.out.size)
      have hcw := (bcell hbw).1
      have hj0 : (0 : Int) ≤ (j : Int) := Int.natCast_nonneg _
      have hj1 : (j : Int) < (ds.length : Int) := by omega
      have HC := Lib.hid (Count_any ds[j] _ wr (RdD.below (keeps_of hbw) hRD))
      have HS := Lib.hid (show wrap64 ((tot (ds.take j) : Nat) + countI ds[j]) = ((tot (ds.take (j + 1)) : Nat) : Int) from by
        have h1 := tot_succ ds j hlt
        have h2 := tot_take ds (j + 1)
        have h3 := HTOT.out
        have h4 := sum_mem bD ds ds[j] (List.getElem_mem hlt)
        have h5 := HBK.out
        unfold bDs at h5
        rw [count_cnt ds[j] (by omega), wrapS (by omega) (by omega)]
        omega)
      clear hkr hRD hbw
      go_wp2_with fail
      refine HC.out.mono ?_
      rintro e w4 ⟨rfl, hb4⟩
      have HB4 := Lib.hid (HV.out.trans (hb4.mono HV.out.size))
      clear hb4 e0 e1 e2 e3 e4 e5 e6 e7 e8 e9 e10 e11 e12 e13 e14 e15 hcw
      go_wp2
      go_roundw
      case rel => exact ⟨j + 1, by omega, by go_num, by rw [HS.out], HB4⟩
      case measure => first | (simp [intOf]; done) | (simp [intOf]; omega)
    · have hjk : j = ds.length := by omega
      subst hjk
      rw [List.take_length]
      have hmk := make_bools (tot ds) (by have := HTOT.out; omega)
      go_wp2_with fail
      have hA : Below wr.heap.size wr (wr.alloc (.cells (madeCells #[.bool false] (tot ds)) 4)) := (Below.refl _ _).alloc (Nat.le_refl _) _
      have hI : AInv w3 wr.heap.size (tot ds) 0 (wr.alloc (.cells (madeCells #[.bool false] (tot ds)) 4)) := by
        refine ⟨HV.out.trans (hA.mono HV.out.size), _, Blk.new wr _ _, size_madeCells _ _, fun p _ hp => ?_⟩
        simp [madeCells, hp, Nat.mod_one]
      have HI := Lib.hid hI
      have HG := Lib.hid (show w3.heap.size ≤ wr.heap.size from HV.out.size)
      generalize hgS : wr.heap.size = gS at *
      clear hmk hA hI HV
      go_loopw [7] (fun i wr => ∃ j : Nat, j ≤ ds.length ∧ i = .int .i64 j ∧ Hid (AInv w3 gS (tot ds) (tot (ds.take j)) wr)) (fun i _ => ds.length - (intOf i).toNat)
      case atStart => exact ⟨0, by omega, rfl, by rw [List.take_zero]; exact HI⟩
      case round =>
        obtain ⟨j, hj, rfl, HV⟩ := hrel
        clear HI
        obtain ⟨Wj, hWj⟩ : ∃ Wj, Wj = wr := ⟨wr, rfl⟩
        subst hWj
        by_cases hlt : j < ds.length
        · rcases HR.out with hnil | ⟨b, o, rfl, hkr⟩
          · rw [hnil] at hlt; simp at hlt
          obtain ⟨t0, t1, t2, b0, b1, b2, A1, l1, c1, A2, l2, c2, A4, l4, c4, A5, l5, c5, A6, l6, c6, A7, l7, c7, A8, c8, A9, c9, hRD, e0, e1, e2, e3, e4, e5, e6, e7, e8, e9, e10, e11, e12, e13, e14, e15, hbl⟩ := RdD_at hkr j hlt
          have hbw := HB3.out.trans (HV.out.hb.mono HB3.out.size)
          have hcw := (bcell hbw).1
          have hj0 : (0 : Int) ≤ (j : Int) := Int.natCast_nonneg _
          have hj1 : (j : Int) < (ds.length : Int) := by omega
          have HBW := Lib.hid hbw
          have HM := Lib.hid (show ds[j].members.length ≤ 1048576 ∧ ds[j].ctors.length ≤ 1048576 from by
            have h4 := sum_mem bD ds ds[j] (List.getElem_mem hlt)
            have h5 := HBK.out
            have h6 := bD_parts ds[j]
            unfold bDs at h5
            omega)
          have hml : (ds[j].members.length : Int) ≤ 1048576 := by have := HM.out; omega
          have hcl : (ds[j].ctors.length : Int) ≤ 1048576 := by have := HM.out; omega
          clear hkr hRD hbw e1 e2 e3 e4 e5 e6 e7 e8 e9 e10 e11 e12 e13
          by_cases hk3 : ds[j].kind = 3
          · have hk3b : (ds[j].kind == 3) = true := by rw [hk3]; rfl
            have HK3 := Lib.hid hk3
            clear hk3
            have HN : Hid (∃ names vals, NInv Wj (.slice none 0 0) names Wj ∧ names.length = 2 * 0 ∧ Good ds j names vals ∧ ∀ v ∈ vals, InM (tot (ds.take j)) ds[j].members.length ds[j].ctors.length 0 0 v) :=
              Lib.hid ⟨[], [], ⟨Below.refl _ _, by simpa [nmCells] using World.ownsRow_nil Wj Wj.heap.size _ _⟩, rfl, Good.nil ds j, by simp⟩
            go_wp2_with fail
            go_loopw [8, 9] (fun v m wm => ∃ p : Nat, p ≤ ds[j].members.length ∧ m = .int .i64 p ∧ ∃ A c, v = .slice A (2 * p) c ∧ Hid (∃ names vals, NInv Wj (.slice A (2 * p) c) names wm ∧ names.length = 2 * p ∧ Good ds j names vals ∧ ∀ v ∈ vals, InM (tot (ds.take j)) ds[j].members.length ds[j].ctors.length p 0 v)) (fun _ m _ => ds[j].members.length - (intOf m).toNat)
            case atStart => exact ⟨0, by omega, rfl, none, 0, rfl, HN⟩
            case round =>
              obtain ⟨p, hp, rfl, A, c, rfl, HN0⟩ := hrel
              obtain ⟨names, vals, hn0, hnl0, hg0, hin0⟩ := HN0.out
              have HNN := Lib.hid (And.intro hn0 (And.intro hnl0 (And.intro hg0 hin0)))
              have hcw2 := (bcell hn0.hb).1
              have hszw := HBW.out.size
              have hblw : b < Wj.heap.size := Nat.lt_of_lt_of_le hbl hszw
              clear HN HN0 hn0 hnl0 hg0 hin0
              have hp0 : (0 : Int) ≤ (p : Int) := Int.natCast_nonneg _
              by_cases hplt : p < ds[j].members.length
              · have hp1 : (p : Int) < (ds[j].members.length : Int) := by omega
                go_wp2_with fail
                refine (nameL_any _ _ _ _).mono ?_
                rintro e wa ⟨rfl, hba⟩
                have HBA := Lib.hid hba
                clear hba
                go_wp2_with fail
                refine (nameL_any _ _ _ _).mono ?_
                rintro e wb ⟨rfl, hbb⟩
                have HBB := Lib.hid (HBA.out.trans (hbb.mono HBA.out.size))
                clear hbb HBA
                have HOW : Hid (wb.ownsRow Wj.heap.size 30 5 (.slice A (2 * p) c) (2 * p) (nmCells names)) := Lib.hid (by
                  have ho := HNN.out.1.own
                  rw [HNN.out.2.1] at ho
                  exact ownsRow_move ho (fun q hq => HBB.out.block q (ho.lt q hq).2))
                go_wp2_with (at_builtin; refine wpList_app rfl (.tmp 57) (.tmp 64) 28 rfl Wj.heap.size 30 _ 5 72 Tryd.underlying28 infoTm rfl (by decide) (.slice A (2 * p) c) (2 * p) (nmCells names) rfl (HOW.out.alloc _) ⟨wb.heap.size, 0, none⟩ 2 2 (nmCells [(8, (j : Int), (p : Int)), (10, (j : Int), (p : Int))]) rfl rfl (news_at (Blk.new wb _ _)) (by simp [nmCells, Value.oneCell']) (by have := HM.out; simp only [maxLen]; omega) (by have := HM.out; omega) (by have := HNN.out.1.hb.size; have := HBB.out.size; simp; omega) ?_)
                intro v2 w5 hown2 hg hat
                obtain ⟨A10, c10, rfl⟩ := own_slice hown2
                have HP : Hid (∃ names vals, NInv Wj (.slice A10 (2 * p + 2) c10) names w5 ∧ names.length = 2 * p + 2 ∧ Good ds j names vals ∧ ∀ v ∈ vals, InM (tot (ds.take j)) ds[j].members.length ds[j].ctors.length (p + 1) 0 v) := by
                  obtain ⟨vals', hg', hin'⟩ := good_member HBK.out j hlt HK3.out p hplt HNN.out.2.2.1 HNN.out.2.2.2
                  have hl' : (names ++ [(8, (j : Int), (p : Int)), (10, (j : Int), (p : Int))]).length = 2 * p + 2 := by rw [List.length_append, HNN.out.2.1]; rfl
                  refine Lib.hid ⟨_, vals', ⟨?_, ?_⟩, hl', hg', hin'⟩
                  · have hX := HNN.out.1.hb.trans (HBB.out.mono HNN.out.1.hb.size)
                    exact Below.grown (hX.alloc hX.size _) hg (by have := hX.size; simp; omega) (fun q hq => (HOW.out.lt q hq).1)
                  · rw [hl', nmCells_app]
                    exact hown2
                clear hown2 hg hat HOW
                go_wp2
                go_roundw
                case rel => exact ⟨p + 1, by omega, by go_num, A10, c10, rfl, HP⟩
                case measure => first | (simp [intOf]; done) | (simp [intOf]; omega)
              · have hpm : p = ds[j].members.length := by omega
                subst hpm
                have hplt' : ¬ ((ds[j].members.length : Int) < (ds[j].members.length : Int)) := by omega
                have HN : Hid (∃ names vals, NInv Wj (.slice A (2 * ds[j].members.length + 0) c) names wr ∧ names.length = 2 * ds[j].members.length + 0 ∧ Good ds j names vals ∧ ∀ v ∈ vals, InM (tot (ds.take j)) ds[j].members.length ds[j].ctors.length ds[j].members.length 0 v) := Lib.hid ⟨names, vals, HNN.out.1, HNN.out.2.1, HNN.out.2.2.1, HNN.out.2.2.2⟩
                clear HNN hplt
                go_wp2_with fail
                clear hcw2 hp hp0 hplt'
                go_loopw [8, 10] (fun v m wm => ∃ q : Nat, q ≤ ds[j].ctors.length ∧ m = .int .i64 q ∧ ∃ A c, v = .slice A (2 * ds[j].members.length + q) c ∧ Hid (∃ names vals, NInv Wj (.slice A (2 * ds[j].members.length + q) c) names wm ∧ names.length = 2 * ds[j].members.length + q ∧ Good ds j names vals ∧ ∀ v ∈ vals, InM (tot (ds.take j)) ds[j].members.length ds[j].ctors.length ds[j].members.length q v)) (fun _ m _ => ds[j].ctors.length - (intOf m).toNat)
                case atStart => exact ⟨0, by omega, rfl, A, c, rfl, HN⟩
                case round =>
                  obtain ⟨q, hq, rfl, A, c, rfl, HN0⟩ := hrel
                  obtain ⟨names, vals, hn0, hnl0, hg0, hin0⟩ := HN0.out
                  have HNN := Lib.hid (And.intro hn0 (And.intro hnl0 (And.intro hg0 hin0)))
                  have hcw2 := (bcell hn0.hb).1
                  clear HN HN0 hn0 hnl0 hg0 hin0
                  have hq0 : (0 : Int) ≤ (q : Int) := Int.natCast_nonneg _
                  by_cases hqlt : q < ds[j].ctors.length
                  · have hq1 : (q : Int) < (ds[j].ctors.length : Int) := by omega
                    go_wp2_with fail
                    refine (nameL_any _ _ _ _).mono ?_
                    rintro e wb ⟨rfl, hbb⟩
                    have HBB := Lib.hid hbb
                    clear hbb
                    have HOW : Hid (wb.ownsRow Wj.heap.size 30 5 (.slice A (2 * ds[j].members.length + q) c) (2 * ds[j].members.length + q) (nmCells names)) := Lib.hid (by
                      have ho := HNN.out.1.own
                      rw [HNN.out.2.1] at ho
                      exact ownsRow_move ho (fun q hq => HBB.out.block q (ho.lt q hq).2))
                    go_wp2_with (at_builtin; refine wpList_app rfl (.tmp 76) (.tmp 80) 28 rfl Wj.heap.size 30 _ 5 72 Tryd.underlying28 infoTm rfl (by decide) (.slice A (2 * ds[j].members.length + q) c) (2 * ds[j].members.length + q) (nmCells names) rfl (HOW.out.alloc _) ⟨wb.heap.size, 0, none⟩ 1 1 (nmCells [(9, (j : Int), (q : Int))]) rfl rfl (news_at (Blk.new wb _ _)) (by simp [nmCells, Value.oneCell']) (by have := HM.out; simp only [maxLen]; omega) (by have := HM.out; omega) (by have := HNN.out.1.hb.size; have := HBB.out.size; simp; omega) ?_)
                    intro v2 w5 hown2 hg hat
                    obtain ⟨A10, c10, rfl⟩ := own_slice hown2
                    have HP : Hid (∃ names vals, NInv Wj (.slice A10 (2 * ds[j].members.length + (q + 1)) c10) names w5 ∧ names.length = 2 * ds[j].members.length + (q + 1) ∧ Good ds j names vals ∧ ∀ v ∈ vals, InM (tot (ds.take j)) ds[j].members.length ds[j].ctors.length ds[j].members.length (q + 1) v) := by
                      obtain ⟨vals', hg', hin'⟩ := good_ctor HBK.out j hlt HK3.out q hqlt HNN.out.2.2.1 HNN.out.2.2.2
                      have hl' : (names ++ [(9, (j : Int), (q : Int))]).length = 2 * ds[j].members.length + (q + 1) := by rw [List.length_append, HNN.out.2.1]; rfl
                      refine Lib.hid ⟨_, vals', ⟨?_, ?_⟩, hl', hg', hin'⟩
                      · have hX := HNN.out.1.hb.trans (HBB.out.mono HNN.out.1.hb.size)
                        exact Below.grown (hX.alloc hX.size _) hg (by have := hX.size; simp; omega) (fun q hq => (HOW.out.lt q hq).1)
                      · rw [hl', nmCells_app]
                        exact hown2
                    clear hown2 hg hat HOW
                    go_wp2
                    go_roundw
                    case rel => exact ⟨q + 1, by omega, by go_num, A10, c10, rfl, HP⟩
                    case measure => first | (simp [intOf]; done) | (simp [intOf]; omega)
                  · have hqm : q = ds[j].ctors.length := by omega
                    subst hqm
                    have hqlt' : ¬ ((ds[j].ctors.length : Int) < (ds[j].ctors.length : Int)) := by omega
                    clear hqlt
                    have HF : Hid (∃ names vals, NInv Wj (.slice A (2 * ds[j].members.length + ds[j].ctors.length) c) names wr ∧ names.length = 2 * ds[j].members.length + ds[j].ctors.length ∧ Good ds j names vals) := Lib.hid ⟨names, vals, HNN.out.1, HNN.out.2.1, HNN.out.2.2.1⟩
                    clear HNN
                    obtain ⟨names, vals, hn0, hnl0, hg0⟩ := HF.out
                    have HL0 : Hid (LInv w3 Wj gS (tot ds) (tot (ds.take j)) (.slice A (2 * ds[j].members.length + ds[j].ctors.length) c) names vals 0 wr) := Lib.hid (by
                      obtain ⟨S, s1, s2, s3⟩ := HV.out.hS
                      exact ⟨HV.out.hb.trans (hn0.hb.mono HV.out.hb.size), hn0.hb.size, hn0.own, S, s1.below hn0.hb, s2, fun p h1 h2 _ => s3 p h1 h2⟩)
                    have HGD := Lib.hid (And.intro hnl0 hg0)
                    have HGS := Lib.hid (show gS < Wj.heap.size from by obtain ⟨S, s1, _⟩ := HV.out.hS; exact s1.lt)
                    have hnn : ((2 * ds[j].members.length + ds[j].ctors.length : Nat) : Int) ≤ 4194304 := by have := HM.out; omega
                    clear hn0 hnl0 hg0 HF
                    go_wp2_with fail
                    clear hcw2 hq hq0 hqlt'
                    go_loopw [11] (fun kk wr => ∃ k : Nat, k ≤ 2 * ds[j].members.length + ds[j].ctors.length ∧ kk = .int .i64 k ∧ Hid (LInv w3 Wj gS (tot ds) (tot (ds.take j)) (.slice A (2 * ds[j].members.length + ds[j].ctors.length) c) names vals k wr)) (fun kk _ => (2 * ds[j].members.length + ds[j].ctors.length) - (intOf kk).toNat)
                    case atStart => exact ⟨0, by omega, rfl, HL0⟩
                    case round =>
                      obtain ⟨k, hk, rfl, HQ⟩ := hrel
                      clear HL0
                      by_cases hklt : k < 2 * ds[j].members.length + ds[j].ctors.length
                      · have hgd := HGD.out
                        obtain ⟨hq1, hq2, hq3, hq4⟩ := hgd.2
                        have hkn : k < names.length := by omega
                        have hkv : k < vals.length := by omega
                        have hval := hq4 k names[k] vals[k] (List.getElem?_eq_getElem hkn) (List.getElem?_eq_getElem hkv)
                        have hrng := hq3 vals[k] (List.getElem_mem hkv)
                        have hown := HQ.out.own
                        obtain ⟨g, cap, he, hgb, hgl⟩ := hown.form (by omega)
                        have he' : Value.slice A (2 * ds[j].members.length + ds[j].ctors.length) c = .slice (some ⟨g, 0, none⟩) names.length cap := he
                        injection he' with hA0 hn0 hc0
                        subst hA0
                        subst hc0
                        obtain ⟨x0, x1, x2, x3, x4⟩ := nmCells_get names k names[k] (List.getElem?_eq_getElem hkn)
                        have hrow := fun t (ht : t < names.length * 5) => World.ownsRow.cellAt (by rw [hgd.1] at hown ⊢; exact hown) t ht
                        have c0' : wr.cell? ⟨g, k * 5, none⟩ = some (.int .i64 names[k].1) := (hrow (k * 5) (by omega)).trans x0
                        have c1' : wr.cell? ⟨g, k * 5 + 1, none⟩ = some (.int .i64 names[k].2.1) := (hrow (k * 5 + 1) (by omega)).trans x1
                        have c2' : wr.cell? ⟨g, k * 5 + 2, none⟩ = some (.int .i64 names[k].2.2) := (hrow (k * 5 + 2) (by omega)).trans x2
                        have c3' : wr.cell? ⟨g, k * 5 + 3, none⟩ = some (.slice none 0 0) := (hrow (k * 5 + 3) (by omega)).trans x3
                        have c4' : wr.cell? ⟨g, k * 5 + 4, none⟩ = some (.slice none 0 0) := (hrow (k * 5 + 4) (by omega)).trans x4
                        have hk0 : (0 : Int) ≤ (k : Int) := Int.natCast_nonneg _
                        have hk1 : (k : Int) < ((2 * ds[j].members.length + ds[j].ctors.length : Nat) : Int) := by omega
                        have HT := Lib.hid (Term_any ds (atI ds) (leaf names[k].1 names[k].2.1 names[k].2.2) _ _ _ wr (HE.out.below HQ.out.hb) (leaf_in _ _ _ wr))
                        rw [car_nm hval] at HT
                        have HVR := Lib.hid (And.intro hrng (show vals[k] < tot ds from by have := tot_take ds (j + 1); omega))
                        obtain ⟨V, hV⟩ : ∃ V, V = vals[k] := ⟨_, rfl⟩
                        rw [← hV] at HT HVR
                        have HVV := Lib.hid hV
                        clear hgd hq1 hq2 hq3 hq4 hval hrng hown he hn0 x0 x1 x2 x3 x4 hrow hV
                        go_wp2_with fail
                        refine HT.out.mono ?_
                        rintro e wz ⟨cs, F, rfl, hO, hF, hbz⟩
                        obtain ⟨B1, m1, d1, B2, m2, d2, hcs⟩ : ∃ B1 m1 d1 B2 m2 d2, cs = [.int .i64 3, .int .i64 (V : Int), .int .i64 0, .slice B1 m1 d1, .slice B2 m2 d2] := hO.cells
                        subst hcs
                        have HZ := Lib.hid hbz
                        obtain ⟨S, s1, s2, s3⟩ := HQ.out.hS
                        have sz := s1.below hbz
                        have hSV : S[V]? = some (.bool false) := s3 V (by have := HVR.out; omega) HVR.out.2 (fun i v hi hv => by
                          have hnd := HGD.out.2.2.1
                          intro e
                          subst e
                          have h1 := HVV.out
                          obtain ⟨hvl, hvv⟩ := List.getElem?_eq_some_iff.1 hv
                          have := (List.getElem_inj hnd).1 (hvv.trans h1)
                          omega)
                        have hV0 : (0 : Int) ≤ (V : Int) := Int.natCast_nonneg _
                        have hV1 : (V : Int) < (tot ds : Int) := by have := HVR.out.2; omega
                        have cS : wz.cell? ⟨gS, V, none⟩ = some (.bool false) := (sz.cell V).trans hSV
                        have fS := sz.frozen
                        have nS := sz.lt
                        have HS := Lib.hid (And.intro sz (And.intro s2 s3))
                        clear hO hF hbz sz s1 s2 s3 hSV c0' c1' c2' c3' c4'
                        go_wp2
                        go_roundw
                        case rel =>
                          refine ⟨k + 1, by omega, by go_num, Lib.hid ?_⟩
                          have hbZ := HZ.out
                          have hq := HQ.out
                          obtain ⟨sz, s2, s3⟩ := HS.out
                          have hb0 := hq.hb.trans (hbZ.mono hq.hb.size)
                          have hgs3 := HG.out
                          have hgsj := HGS.out
                          have hb1 := hb0.setCell (p := ⟨gS, V, none⟩) (by exact hgs3) (.bool true)
                          have hzs := hbZ.size
                          refine ⟨hb1.alloc hb1.size _, ?_, ?_, _, (sz.set V (.bool true)).alloc _, by rw [Array.size_setIfInBounds]; exact s2, fun p h1 h2 h3 => ?_⟩
                          · have := hq.hs; simp [World.setCell]; omega
                          · refine ownsRow_move hq.own (fun q hq' => ?_)
                            have hlt' := hq.own.lt q hq'
                            rw [Below.heap_alloc _ _ _ (by simp [World.setCell]; omega), Below.heap_setCell _ _ _ _ (show q ≠ gS by omega), hbZ.block q hlt'.2]
                          · have hne : V ≠ p := h3 k V (by omega) (by rw [HVV.out]; exact List.getElem?_eq_getElem _)
                            rw [Array.getElem?_setIfInBounds_ne hne]
                            exact s3 p h1 h2 (fun i v hi hv => h3 i v (by omega) hv)
                        case measure => first | (simp [intOf]; done) | (simp [intOf]; omega)
                      · go_wp2
                        go_roundw
                        case rel =>
                          refine ⟨j + 1, by omega, by go_num, Lib.hid ?_⟩
                          obtain ⟨S, s1, s2, s3⟩ := HQ.out.hS
                          refine ⟨HQ.out.hb, S, s1, s2, fun p h1 h2 => s3 p (by have := tot_succ ds j hlt; omega) h2 (fun i v hi hv => ?_)⟩
                          have := (HGD.out.2.2.2.1 v (List.mem_of_getElem? hv)).2
                          omega
                        case measure => first | (simp [intOf]; done) | (simp [intOf]; omega)
          · have hk3b : (ds[j].kind == 3) = false := beq_eq_false_iff_ne.2 hk3
            by_cases hk12 : ds[j].kind = 1 ∨ ds[j].kind = 2
            · have HK12 := Lib.hid hk12
              have hkb : ((ds[j].kind == 1) = true) ∨ ((ds[j].kind == 1) = false ∧ (ds[j].kind == 2) = true) := by
                rcases hk12 with h | h <;> simp [h]
              clear hk3 hk12
              rcases hkb with q1 | ⟨q1, q2⟩
              all_goals
                go_wp2_with fail
                refine (nameL_any _ _ _ _).mono ?_
                rintro e wb ⟨rfl, hbb⟩
                have HBB := Lib.hid hbb
                clear hbb
                go_wp2_with (at_builtin; refine wpList_app rfl (.tmp 96) (.tmp 99) 28 rfl Wj.heap.size 30 _ 5 72 Tryd.underlying28 infoTm rfl (by decide) (.slice none 0 0) 0 [] rfl (World.ownsRow_nil _ _ _ _) ⟨wb.heap.size, 0, none⟩ 1 1 (nmCells [(3, (j : Int), 0)]) rfl rfl (news_at (Blk.new wb _ _)) (by simp [nmCells, Value.oneCell']) (by simp only [maxLen]; omega) (by omega) (by have := HBB.out.size; simp; omega) ?_)
                intro v2 w5 hown2 hg hat
                obtain ⟨A, c, rfl⟩ := own_slice hown2
                have HF : Hid (∃ names vals, NInv Wj (.slice A (1) c) names w5 ∧ names.length = 1 ∧ Good ds j names vals) := by
                  refine Lib.hid ⟨[(3, (j : Int), 0)], _, ⟨?_, ?_⟩, rfl, good_const HBK.out j hlt HK12.out⟩
                  · exact Below.grown (HBB.out.alloc HBB.out.size _) hg (by have := HBB.out.size; simp; omega) (fun q hq => by simp [Value.ownBlock] at hq)
                  · simpa using hown2
                clear hown2 hg hat
                obtain ⟨names, vals, hn0, hnl0, hg0⟩ := HF.out
                have HL0 : Hid (LInv w3 Wj gS (tot ds) (tot (ds.take j)) (.slice A (1) c) names vals 0 w5) := Lib.hid (by
                  obtain ⟨S, s1, s2, s3⟩ := HV.out.hS
                  exact ⟨HV.out.hb.trans (hn0.hb.mono HV.out.hb.size), hn0.hb.size, hn0.own, S, s1.below hn0.hb, s2, fun p h1 h2 _ => s3 p h1 h2⟩)
                have HGD := Lib.hid (And.intro hnl0 hg0)
                have HGS := Lib.hid (show gS < Wj.heap.size from by obtain ⟨S, s1, _⟩ := HV.out.hS; exact s1.lt)
                have hnn : ((1 : Nat) : Int) ≤ 4194304 := by have := HM.out; omega
                clear hn0 hnl0 hg0 HF
                go_wp2_with fail
                go_loopw [11] (fun kk wr => ∃ k : Nat, k ≤ 1 ∧ kk = .int .i64 k ∧ Hid (LInv w3 Wj gS (tot ds) (tot (ds.take j)) (.slice A (1) c) names vals k wr)) (fun kk _ => (1) - (intOf kk).toNat)
                case atStart => exact ⟨0, by omega, rfl, HL0⟩
                case round =>
                  obtain ⟨k, hk, rfl, HQ⟩ := hrel
                  clear HL0
                  by_cases hklt : k < 1
                  · obtain rfl : k = 0 := by omega
                    clear hklt hk
                    have hgd := HGD.out
                    obtain ⟨hq1, hq2, hq3, hq4⟩ := hgd.2
                    have hkn : 0 < names.length := by omega
                    have hkv : 0 < vals.length := by omega
                    have hval := hq4 0 names[0] vals[0] (List.getElem?_eq_getElem hkn) (List.getElem?_eq_getElem hkv)
                    have hrng := hq3 vals[0] (List.getElem_mem hkv)
                    have hown := HQ.out.own
                    obtain ⟨g, cap, he, hgb, hgl⟩ := hown.form (by omega)
                    have he' : Value.slice A (1) c = .slice (some ⟨g, 0, none⟩) names.length cap := he
                    injection he' with hA0 hn0 hc0
                    subst hA0
                    subst hc0
                    obtain ⟨x0, x1, x2, x3, x4⟩ := nmCells_get names 0 names[0] (List.getElem?_eq_getElem hkn)
                    have hrow := fun t (ht : t < names.length * 5) => World.ownsRow.cellAt (by rw [hgd.1] at hown ⊢; exact hown) t ht
                    have c0' : wr.cell? ⟨g, 0, none⟩ = some (.int .i64 names[0].1) := (hrow (0) (by omega)).trans x0
                    have c1' : wr.cell? ⟨g, 1, none⟩ = some (.int .i64 names[0].2.1) := (hrow (1) (by omega)).trans x1
                    have c2' : wr.cell? ⟨g, 2, none⟩ = some (.int .i64 names[0].2.2) := (hrow (2) (by omega)).trans x2
                    have c3' : wr.cell? ⟨g, 3, none⟩ = some (.slice none 0 0) := (hrow (3) (by omega)).trans x3
                    have c4' : wr.cell? ⟨g, 4, none⟩ = some (.slice none 0 0) := (hrow (4) (by omega)).trans x4
                    have HT := Lib.hid (Term_any ds (atI ds) (leaf names[0].1 names[0].2.1 names[0].2.2) _ _ _ wr (HE.out.below HQ.out.hb) (leaf_in _ _ _ wr))
                    rw [car_nm hval] at HT
                    have HVR := Lib.hid (And.intro hrng (show vals[0] < tot ds from by have := tot_take ds (j + 1); omega))
                    obtain ⟨V, hV⟩ : ∃ V, V = vals[0] := ⟨_, rfl⟩
                    rw [← hV] at HT HVR
                    have HVV := Lib.hid hV
                    clear hgd hq1 hq2 hq3 hq4 hval hrng hown he hn0 x0 x1 x2 x3 x4 hrow hV
                    go_wp2_with fail
                    refine HT.out.mono ?_
                    rintro e wz ⟨cs, F, rfl, hO, hF, hbz⟩
                    obtain ⟨B1, m1, d1, B2, m2, d2, hcs⟩ : ∃ B1 m1 d1 B2 m2 d2, cs = [.int .i64 3, .int .i64 (V : Int), .int .i64 0, .slice B1 m1 d1, .slice B2 m2 d2] := hO.cells
                    subst hcs
                    have HZ := Lib.hid hbz
                    obtain ⟨S, s1, s2, s3⟩ := HQ.out.hS
                    have sz := s1.below hbz
                    have hSV : S[V]? = some (.bool false) := s3 V (by have := HVR.out; omega) HVR.out.2 (fun i v hi hv => by
                      have hnd := HGD.out.2.2.1
                      intro e
                      subst e
                      have h1 := HVV.out
                      obtain ⟨hvl, hvv⟩ := List.getElem?_eq_some_iff.1 hv
                      have := (List.getElem_inj hnd).1 (hvv.trans h1)
                      omega)
                    have hV0 : (0 : Int) ≤ (V : Int) := Int.natCast_nonneg _
                    have hV1 : (V : Int) < (tot ds : Int) := by have := HVR.out.2; omega
                    have cS : wz.cell? ⟨gS, V, none⟩ = some (.bool false) := (sz.cell V).trans hSV
                    have fS := sz.frozen
                    have nS := sz.lt
                    have HS := Lib.hid (And.intro sz (And.intro s2 s3))
                    clear hO hF hbz sz s1 s2 s3 hSV c0' c1' c2' c3' c4'
                    go_wp2
                    go_roundw
                    case rel =>
                      refine ⟨0 + 1, by omega, by go_num, Lib.hid ?_⟩
                      have hbZ := HZ.out
                      have hq := HQ.out
                      obtain ⟨sz, s2, s3⟩ := HS.out
                      have hb0 := hq.hb.trans (hbZ.mono hq.hb.size)
                      have hgs3 := HG.out
                      have hgsj := HGS.out
                      have hb1 := hb0.setCell (p := ⟨gS, V, none⟩) (by exact hgs3) (.bool true)
                      have hzs := hbZ.size
                      refine ⟨hb1.alloc hb1.size _, ?_, ?_, _, (sz.set V (.bool true)).alloc _, by rw [Array.size_setIfInBounds]; exact s2, fun p h1 h2 h3 => ?_⟩
                      · have := hq.hs; simp [World.setCell]; omega
                      · refine ownsRow_move hq.own (fun q hq' => ?_)
                        have hlt' := hq.own.lt q hq'
                        rw [Below.heap_alloc _ _ _ (by simp [World.setCell]; omega), Below.heap_setCell _ _ _ _ (show q ≠ gS by omega), hbZ.block q hlt'.2]
                      · have hne : V ≠ p := h3 0 V (by omega) (by rw [HVV.out]; exact List.getElem?_eq_getElem _)
                        rw [Array.getElem?_setIfInBounds_ne hne]
                        exact s3 p h1 h2 (fun i v hi hv => h3 i v (by omega) hv)
                    case measure => first | (simp [intOf]; done) | (simp [intOf]; omega)
                  · obtain rfl : k = 1 := by omega
                    clear hklt hk
                    go_wp2
                    go_roundw
                    case rel =>
                      refine ⟨j + 1, by omega, by go_num, Lib.hid ?_⟩
                      obtain ⟨S, s1, s2, s3⟩ := HQ.out.hS
                      refine ⟨HQ.out.hb, S, s1, s2, fun p h1 h2 => s3 p (by have := tot_succ ds j hlt; omega) h2 (fun i v hi hv => ?_)⟩
                      have := (HGD.out.2.2.2.1 v (List.mem_of_getElem? hv)).2
                      omega
                    case measure => first | (simp [intOf]; done) | (simp [intOf]; omega)
            · have hk1b : (ds[j].kind == 1) = false := beq_eq_false_iff_ne.2 (fun h => hk12 (.inl h))
              have hk2b : (ds[j].kind == 2) = false := beq_eq_false_iff_ne.2 (fun h => hk12 (.inr h))
              clear hk3 hk12
              have HF : Hid (∃ names vals, NInv Wj (.slice none 0 0) names Wj ∧ names.length = 0 ∧ Good ds j names vals) :=
                Lib.hid ⟨[], [], ⟨Below.refl _ _, by simpa [nmCells] using World.ownsRow_nil Wj Wj.heap.size _ _⟩, rfl, Good.nil ds j⟩
              obtain ⟨names, vals, hn0, hnl0, hg0⟩ := HF.out
              have HL0 : Hid (LInv w3 Wj gS (tot ds) (tot (ds.take j)) (.slice none 0 0) names vals 0 Wj) := Lib.hid (by
                obtain ⟨S, s1, s2, s3⟩ := HV.out.hS
                exact ⟨HV.out.hb.trans (hn0.hb.mono HV.out.hb.size), hn0.hb.size, hn0.own, S, s1.below hn0.hb, s2, fun p h1 h2 _ => s3 p h1 h2⟩)
              have HGD := Lib.hid (And.intro hnl0 hg0)
              have HGS := Lib.hid (show gS < Wj.heap.size from by obtain ⟨S, s1, _⟩ := HV.out.hS; exact s1.lt)
              have hnn : ((0 : Nat) : Int) ≤ 4194304 := by have := HM.out; omega
              clear hn0 hnl0 hg0 HF
              go_wp2_with fail
              go_loopw [11] (fun kk wr => ∃ k : Nat, k ≤ 0 ∧ kk = .int .i64 k ∧ Hid (LInv w3 Wj gS (tot ds) (tot (ds.take j)) (.slice none 0 0) names vals k wr)) (fun kk _ => (0) - (intOf kk).toNat)
              case atStart => exact ⟨0, by omega, rfl, HL0⟩
              case round =>
                obtain ⟨k, hk, rfl, HQ⟩ := hrel
                clear HL0
                obtain rfl : k = 0 := by omega
                clear hk
                go_wp2
                go_roundw
                case rel =>
                  refine ⟨j + 1, by omega, by go_num, Lib.hid ?_⟩
                  obtain ⟨S, s1, s2, s3⟩ := HQ.out.hS
                  refine ⟨HQ.out.hb, S, s1, s2, fun p h1 h2 => s3 p (by have := tot_succ ds j hlt; omega) h2 (fun i v hi hv => ?_)⟩
                  have := (HGD.out.2.2.2.1 v (List.mem_of_getElem? hv)).2
                  omega
                case measure => first | (simp [intOf]; done) | (simp [intOf]; omega)
        · go_wp2
          go_ret
          exact ⟨rfl, HB3.out.trans (HV.out.hb.mono HB3.out.size)⟩
end Go.Proofs.YtkedcijfegoflaaDoor.PCarryNames

