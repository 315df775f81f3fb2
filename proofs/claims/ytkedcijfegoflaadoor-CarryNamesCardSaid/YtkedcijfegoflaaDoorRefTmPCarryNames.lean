/- The reference's Term and Terms (spandrelref21): walked. -/
import Derived.Test.YtkedcijfegoflaaDoorRefWPCarryNames
import Derived.Test.YtkedcijfegoflaaDoorRefC
import Derived.Test.YtkedcijfegoflaaDoorPush
import Derived.Test.YtkedcijfegoflaaDoorCarry2
namespace Go.Proofs.YtkedcijfegoflaaDoor.PCarryNames
set_option linter.unusedSimpArgs false
set_option linter.unusedVariables false
open Go Go.RowKit Go.Proofs.YtkedcijfegoflaaDoor Go.Proofs.YtkedcijfegoflaaDoorW.PrintLast

theorem refConst_any (ds : List Dc) (ats : List Int) (vd va : Value) (k num a : Int) (A1 A2 : Option Addr) (l1 c1 l2 c2 : Nat) (w : World) (hd : RdDs w vd ds) (ha : RdIs w va ats) :
    Calls Tryd.prog 51 #[vd, va, .agg #[.int .i64 k, .int .i64 num, .int .i64 a, .slice A1 l1 c1, .slice A2 l2 c2]] w (ConstPost w (nameI ds ats k num a)) := by
  by_cases h : 0 ≤ num ∧ num < ds.length ∧ num < ats.length
  · obtain ⟨n, rfl⟩ := Int.eq_ofNat_of_zero_le h.1
    exact refConst_yes ds ats vd va k a n A1 A2 l1 c1 l2 c2 w hd ha (by omega) (by omega)
  · have hof : ofI ds ats num = none := by unfold ofI; rw [dif_neg h]
    have hn : nameI ds ats k num a = none := by unfold nameI constantI memberI ctorI recursorI; rw [hof]; simp
    rw [hn]
    exact refConst_no ds ats vd va k num a A1 A2 l1 c1 l2 c2 w hd ha h
/-- What a call may count on: the declarations and bases. -/
structure REnv (w : World) (vd va : Value) (ds : List Dc) (ats : List Int) : Prop where
  hd : RdDs w vd ds
  ha : RdIs w va ats
theorem REnv.below {w w' : World} {vd va : Value} {ds : List Dc} {ats : List Int} (h : REnv w vd va ds ats) (hb : Below w.heap.size w w') : REnv w' vd va ds ats := ⟨h.hd.below (keeps_of hb), h.ha.below (keeps_of hb)⟩
def ROK (ds : List Dc) (ats : List Int) (t : Tm) : Prop := ∀ (vd va : Value) (cs : List Value) (W : World), REnv W vd va ds ats → In W t cs →
  Calls Tryd.prog 13 #[vd, va, .agg cs.toArray] W (OutT W (carT ds ats t))
theorem wp_extract {P : Program} {o : Oper} {a : Act} {w : World} {K : Act → World → Prop} {Q : Exit → Act → World → Prop} {t : Operand} {ix : Nat} {vs : Array Value} {v : Value} (hop : o.op = Op.extract t ix) (ht : a.eval t = .tuple vs) (hv : vs[ix]? = some v) (h : K (a.put o.dst v) w) : Oper.wp P o a w K Q := by
  unfold Oper.wp execOp
  simp [hop, ht, Instr.extract, hv]
  exact h
structure RInv (w : World) (B3 : Nat) (c0 : Array Value) (K N A : Int) (vl v : Value) (lv : List Lv) (F1 : List Nat) (done : List Tm) (F2 : List Nat) (wr : World) : Prop where
  hk : KInv w (w.heap.size + 2) B3 K N A vl v lv F1 done F2 wr
  k0 : Blk wr w.heap.size c0 30
  k1 : Blk wr (w.heap.size + 1) #[.int .i64 0, .int .i64 0, .int .i64 0, .slice none 0 0, .slice none 0 0] 30
theorem RInv.push {w : World} {B3 : Nat} {c0 : Array Value} {K N A : Int} {vl v v2 : Value} {lv : List Lv} {F1 F2 Fx : List Nat} {done : List Tm} {x : Tm} {cx : List Value} {wr w1 W1 w2 : World}
    (h : RInv w B3 c0 K N A vl v lv F1 done F2 wr) (hb : Below wr.heap.size wr w1) (hx : OwT w1 x cx Fx) (hFx : Fr wr.heap.size w1 Fx) (hW : Below w1.heap.size w1 W1) (hcx : cx.length = 5)
    (happ : ∀ inner, wr.ownsRow 0 30 5 v done.length inner → w2.ownsRow 0 30 5 v2 (done.length + 1) (inner ++ cx)) (hg : W1.grownBy w2 v.ownBlock) (hat : v2.ownBlock = v.ownBlock ∨ v2.ownBlock = some W1.heap.size) (h2s : ∀ k, v2.ownBlock = some k → k < w2.heap.size) :
    ∃ F2', RInv w B3 c0 K N A vl v2 lv F1 (done ++ [x]) F2' (w2.setCell ⟨B3, 4, none⟩ v2) := by
  obtain ⟨⟨F2', h1⟩, h2⟩ := h.hk.push hb hx hFx hW hcx happ hg hat h2s
  have h3 := h.hk.h3
  refine ⟨F2', h1, ?_, ?_⟩
  · exact (show Blk w2 w.heap.size _ _ from (h2 _ (by omega)).trans h.k0).far (show w.heap.size ≠ B3 by omega) _
  · exact (show Blk w2 (w.heap.size + 1) _ _ from (h2 _ (by omega)).trans h.k1).far (show w.heap.size + 1 ≠ B3 by omega) _
theorem RInv.name {w : World} {B3 : Nat} {c0 : Array Value} {K N A : Int} {vl v : Value} {lv : List Lv} {F1 F2 : List Nat} {done : List Tm} {wr : World} (h : RInv w B3 c0 K N A vl v lv F1 done F2 wr) (m : Int) :
    RInv w B3 c0 3 m 0 vl v lv F1 done F2 (((wr.setCell ⟨B3, 0, none⟩ (.int .i64 3)).setCell ⟨B3, 1, none⟩ (.int .i64 m)).setCell ⟨B3, 2, none⟩ (.int .i64 0)) := by
  obtain ⟨⟨hb, k3, hlo, h3, hO1, hO2, hF, hne⟩, k0, k1⟩ := h
  have hl : w.heap.size ≤ B3 := by omega
  have hS : ∀ q, q ≠ B3 → (((wr.setCell ⟨B3, 0, none⟩ (.int .i64 3)).setCell ⟨B3, 1, none⟩ (.int .i64 m)).setCell ⟨B3, 2, none⟩ (.int .i64 0)).heap[q]? = wr.heap[q]? := fun q hq => by
    rw [Below.heap_setCell _ _ _ _ (by exact hq), Below.heap_setCell _ _ _ _ (by exact hq), Below.heap_setCell _ _ _ _ (by exact hq)]
  refine ⟨⟨((hb.setCell (by exact hl) _).setCell (by exact hl) _).setCell (by exact hl) _, (((k3.set 0 _).set 1 _).set 2 _), hlo, h3, hO1.move (fun q hq => hS q (hne q (List.mem_append_left _ hq))), OwS.move OwT.mov hO2 (fun q hq => hS q (hne q (List.mem_append_right _ hq))), hF.mono (Nat.le_refl _) (by simp [World.setCell]), hne⟩, (hS _ (by omega)).trans k0, (hS _ (by omega)).trans k1⟩
set_option maxRecDepth 100000 in
set_option maxHeartbeats 8000000 in
theorem refTerm_of (ds : List Dc) (ats : List Int) (k n a : Int) (lv : List Lv) (kids : List Tm) (ih : ∀ t ∈ kids, ROK ds ats t) : ROK ds ats (.mk k n a lv kids) := by
  intro vd va cs w hE h
  obtain ⟨u, hu⟩ : ∃ u, u = carT ds ats (.mk k n a lv kids) := ⟨_, rfl⟩
  rw [← hu]
  have HU := Lib.hid hu
  clear hu
  obtain ⟨vl, vk, rfl, hlv, A2, c2, rfl, hc2, hm2, hkids⟩ := (RdT_mk ..).1 h.rd
  obtain ⟨A1, c1, rfl, hc1, hm1, hr1⟩ := id hlv
  obtain ⟨Ad, cd, hvd, _⟩ := id hE.hd
  obtain ⟨Aa, ca, hva, _⟩ := id hE.ha
  subst hvd hva
  have HB := Lib.hid (blks2 w #[.int .i64 k, .int .i64 n, .int .i64 a, .slice A1 lv.length c1, .slice A2 kids.length c2] #[.int .i64 0, .int .i64 0, .int .i64 0, .slice none 0 0, .slice none 0 0] 30 30)
  have HIN := Lib.hid h
  have HE := Lib.hid hE
  have HL := Lib.hid hlv
  have HR := Lib.hid hkids
  have hkl : (kids.length : Int) ≤ 9223372036854775807 := by omega
  have HIH := Lib.hid ih
  clear hc2 hm2 hkids hc1 hm1 hr1 h hE hlv ih
  go_enter Tryd.func13, Tryd.ntmps13
  go_wp2_with fail
  generalize ((w.alloc _).alloc _) = W at *
  have HI : In W (.mk k n a lv []) [.int .i64 k, .int .i64 n, .int .i64 a, .slice A1 lv.length c1, .slice none 0 0] := by
    have hk := keeps_of HB.out.2.2.1
    refine ⟨(RdT_mk ..).2 ⟨_, _, rfl, HL.out.below hk, ⟨none, 0, rfl, by simp, by simp, .inl rfl⟩⟩, ⟨HIN.out.ok.lv, by simp, by simp⟩, by simp [Tm.nodes, Tm.nodesL]⟩
  refine (refLift_any _ _ 0 0 W HI).mono ?_
  clear HI
  rintro e w1 ⟨cs1, F0, rfl, hO, hF, hb1⟩
  rw [lift_leaf] at hO
  obtain ⟨vl1, vk1, F1, F2, rfl, hO1, hO2, rfl⟩ := (OwT_mk ..).1 hO
  obtain ⟨A3, c3, rfl⟩ := OwS.slice hO1
  obtain ⟨A4, c4, rfl⟩ := OwS.slice hO2
  obtain ⟨k0, k1, hb0, hsz⟩ := HB.out
  rw [hsz] at hF
  have k0 := k0.below hb1
  have k1 := k1.below hb1
  have hbw := hb0.trans (hb1.mono hb0.size)
  have g0 := k0.cell
  have n0 := k0.lt
  have n1 := k1.lt
  have H1 := Lib.hid (And.intro k0 (And.intro k1 (And.intro hbw (And.intro hO1 (And.intro hO2 hF)))))
  clear hO hO1 hO2 hF hb1 k0 k1 hb0 hsz HB hbw
  go_wp2_with fail
  clear g0
  have hA : Below w1.heap.size w1 (w1.alloc (.cells #[.int .i64 k, .int .i64 (liftNum 0 0 0 k n), .int .i64 a, .slice A3 lv.length c3, .slice A4 0 c4] 30)) := (Below.refl _ _).alloc (Nat.le_refl _) _
  have k3 := Blk.new w1 #[.int .i64 k, .int .i64 (liftNum 0 0 0 k n), .int .i64 a, .slice A3 lv.length c3, .slice A4 0 c4] 30
  generalize w1.alloc (.cells #[.int .i64 k, .int .i64 (liftNum 0 0 0 k n), .int .i64 a, .slice A3 lv.length c3, .slice A4 0 c4] 30) = W1 at *
  have hbW := H1.out.2.2.1.trans (hA.mono H1.out.2.2.1.size)
  have hEW := HE.out.below hbW
  refine (refConst_any ds ats _ _ k n a A1 A2 lv.length c1 kids.length c2 W1 hEW.hd hEW.ha).mono ?_
  rintro e w2 ⟨⟨m, ok, rfl, hok, hm⟩, hb2⟩
  have hbx := hA.trans (hb2.mono hA.size)
  have k3 := k3.below hb2
  have g3 := k3.cell
  have f3 := k3.frozen
  have n3 := k3.lt
  have HX : RInv w w1.heap.size #[.int .i64 k, .int .i64 n, .int .i64 a, .slice A1 lv.length c1, .slice A2 kids.length c2] k (liftNum 0 0 0 k n) a (.slice A3 lv.length c3) (.slice A4 0 c4) lv F1 [] F2 w2 := by
    obtain ⟨k0, k1, hbw, hO1, hO2, hF⟩ := H1.out
    refine ⟨⟨hbW.trans (hb2.mono hbW.size), k3, by omega, by omega, hO1.move (Same.of_below hF.left hbx), OwS.move OwT.mov hO2 (Same.of_below hF.right hbx), hF.mono (Nat.le_refl _) hbx.size, fun b hb => by have := (hF.2 b hb).2; omega⟩, k0.below hbx, k1.below hbx⟩
  have HX := Lib.hid HX
  clear k3 hbx hA hbW hEW hb2 H1
  have n31 : w.heap.size + 1 < w1.heap.size := n1
  cases hn : nameI ds ats k n a with
  | none =>
    rw [hn] at hok
    replace hok : ok = false := hok
    subst hok
    have HI : Hid (∃ K N A A' c' F', RInv w w1.heap.size #[.int .i64 k, .int .i64 n, .int .i64 a, .slice A1 lv.length c1, .slice A2 kids.length c2] K N A (.slice A3 lv.length c3) (.slice A' 0 c') lv F1 (carL ds ats (kids.take 0)) F' w2 ∧ u = .mk K N A lv (carL ds ats kids)) := Lib.hid ⟨_, _, _, _, _, _, by rw [List.take_zero]; exact HX.out, by rw [HU.out, carT, hn]⟩
    clear hn hm HX g3 f3
    go_wp2_with fail
    go_loopw [10] (fun i wr => ∃ j : Nat, j ≤ kids.length ∧ i = .int .i64 j ∧ Hid (∃ K N A A' c' F', RInv w w1.heap.size #[.int .i64 k, .int .i64 n, .int .i64 a, .slice A1 lv.length c1, .slice A2 kids.length c2] K N A (.slice A3 lv.length c3) (.slice A' j c') lv F1 (carL ds ats (kids.take j)) F' wr ∧ u = .mk K N A lv (carL ds ats kids))) (fun i _ => kids.length - (intOf i).toNat)
    case atStart => exact ⟨0, by omega, rfl, HI⟩
    case round =>
      obtain ⟨j, hj, rfl, HV0⟩ := hrel
      obtain ⟨K, N, A, A', c', F', hv0, hu0⟩ := HV0.out
      have HV := Lib.hid hv0
      have HU' := Lib.hid hu0
      clear HI HV0 hv0 hu0
      by_cases hlt : j < kids.length
      · rcases HR.out with rfl | ⟨b, o, rfl, hkr⟩
        · simp at hlt
        obtain ⟨q0, q1, q2, A5, l5, c5, A6, l6, c6, hTk, e0, e1, e2, e3, e4, hbl⟩ := RdT_at hkr j hlt
        have hv := HV.out
        have hcw := (bcell hv.hk.hb).1
        have HTk := Lib.hid hTk
        have hj0 : (0 : Int) ≤ (j : Int) := Int.natCast_nonneg _
        have hj1 : (j : Int) < (kids.length : Int) := by omega
        have g0 := hv.k0.cell
        have n0' := hv.k0.lt
        have g3 := hv.hk.k3.cell
        have n3' := hv.hk.k3.lt
        have HS := Lib.hid hv.hk.hb.size
        have hbl' : b < wr.heap.size := Nat.lt_of_lt_of_le hbl HS.out
        have HL0 := Lib.hid (show (carL ds ats (kids.take j)).length = j by rw [carL_eq, List.length_map, List.length_take]; omega)
        have HKID := Lib.hid (fun W' (hb' : Below wr.heap.size wr W') => HIH.out kids[j] (List.getElem_mem hlt) (.slice Ad ds.length cd) (.slice Aa ats.length ca) _ W' (HE.out.below (hv.hk.hb.trans (hb'.mono hv.hk.hb.size))) ⟨RdT.below (keeps_of (hv.hk.hb.trans (hb'.mono hv.hk.hb.size))) _ _ HTk.out, HIN.out.ok.kid _ (List.getElem_mem hlt), by have := HIN.out.few; have := nodes_kid (List.getElem_mem hlt); simp only [Tm.nodes] at *; omega⟩)
        clear hkr hTk hv
        go_wp2_with fail
        refine start_ (n := 14) (S := fun W' => ∀ b o, b < wr.heap.size → W'.cell? ⟨b, o, none⟩ = wr.cell? ⟨b, o, none⟩) (ds := [11, 13]) #[false, false, false, false, false, false, false, false, false, false, false, false, false, false] (by kernel_rfl) rfl rfl (by exact (fun _ _ _ => rfl)) (fun hHeld => ?_)
        refine take_ (i := 0) (N := some 40) (v := ?_) (a' := ?_) #[true, false, false, false, false, false, false, false, false, false, false, false, false, false] rfl rfl (by kernel_rfl) (fun _ _ _ h => h) (Or.inl ⟨by rfl, ?_⟩) hHeld ?_ ?_
        rotate_left
        · rintro w' hS'
          go_simp
          with_reducible rfl
        rotate_left
        · simp only [Act.put, List.setIfInBounds_toArray, List.set_cons_zero, List.set_cons_succ]
          rfl
        refine take_ (i := 1) (N := some 41) (v := ?_) (a' := ?_) #[true, true, false, false, false, false, false, false, false, false, false, false, false, false] rfl rfl (by kernel_rfl) (fun _ _ _ h => h) (Or.inl ⟨by rfl, ?_⟩) hHeld ?_ ?_
        rotate_left
        · rintro w' hS'
          go_simp
          with_reducible rfl
        rotate_left
        · simp only [Act.put, List.setIfInBounds_toArray, List.set_cons_zero, List.set_cons_succ]
          rfl
        refine take_ (i := 2) (N := some 42) (v := ?_) (a' := ?_) #[true, true, true, false, false, false, false, false, false, false, false, false, false, false] rfl rfl (by kernel_rfl) (fun _ _ _ h => h) (Or.inl ⟨by rfl, ?_⟩) hHeld ?_ ?_
        rotate_left
        · rintro w' hS'
          go_simp
          with_reducible rfl
        rotate_left
        · simp only [Act.put, List.setIfInBounds_toArray, List.set_cons_zero, List.set_cons_succ]
          rfl
        refine take_ (i := 3) (N := some 43) (v := ?_) (a' := ?_) #[true, true, true, true, false, false, false, false, false, false, false, false, false, false] rfl rfl (by kernel_rfl) (fun _ _ _ h => h) (Or.inl ⟨by rfl, ?_⟩) hHeld ?_ ?_
        rotate_left
        · rintro w' hS'
          go_simp
          with_reducible rfl
        rotate_left
        · simp only [Act.put, List.setIfInBounds_toArray, List.set_cons_zero, List.set_cons_succ]
          rfl
        refine take_ (i := 4) (N := some 44) (v := ?_) (a' := ?_) #[true, true, true, true, true, false, false, false, false, false, false, false, false, false] rfl rfl (by kernel_rfl) (fun _ _ _ h => h) (Or.inl ⟨by rfl, ?_⟩) hHeld ?_ ?_
        rotate_left
        · rintro w' hS'
          go_simp
          with_reducible rfl
        rotate_left
        · simp only [Act.put, List.setIfInBounds_toArray, List.set_cons_zero, List.set_cons_succ]
          rfl
        refine take_ (i := 5) (N := some 45) (v := ?_) (a' := ?_) #[true, true, true, true, true, true, false, false, false, false, false, false, false, false] rfl rfl (by kernel_rfl) (fun _ _ _ h => h) (Or.inl ⟨by rfl, ?_⟩) hHeld ?_ ?_
        rotate_left
        · rintro w' hS'
          go_simp
          with_reducible rfl
        rotate_left
        · simp only [Act.put, List.setIfInBounds_toArray, List.set_cons_zero, List.set_cons_succ]
          rfl
        refine take_ (i := 6) (N := some 46) (v := ?_) (a' := ?_) #[true, true, true, true, true, true, true, false, false, false, false, false, false, false] rfl rfl (by kernel_rfl) (fun _ _ _ h => h) (Or.inl ⟨by rfl, ?_⟩) hHeld ?_ ?_
        rotate_left
        · rintro w' hS'
          go_simp
          with_reducible rfl
        rotate_left
        · simp only [Act.put, List.setIfInBounds_toArray, List.set_cons_zero, List.set_cons_succ]
          rfl
        refine take_ (i := 7) (N := some 47) (v := ?_) (a' := ?_) #[true, true, true, true, true, true, true, true, false, false, false, false, false, false] rfl rfl (by kernel_rfl) (fun _ _ _ h => h) (Or.inl ⟨by rfl, ?_⟩) hHeld ?_ ?_
        rotate_left
        · rintro w' hS'
          go_simp
          with_reducible rfl
        rotate_left
        · simp only [Act.put, List.setIfInBounds_toArray, List.set_cons_zero, List.set_cons_succ]
          rfl
        refine take_ (i := 8) (N := some 48) (v := ?_) (a' := ?_) #[true, true, true, true, true, true, true, true, true, false, false, false, false, false] rfl rfl (by kernel_rfl) (fun _ _ _ h => h) (Or.inl ⟨by rfl, ?_⟩) hHeld ?_ ?_
        rotate_left
        · rintro w' hS'
          go_simp
          with_reducible rfl
        rotate_left
        · simp only [Act.put, List.setIfInBounds_toArray, List.set_cons_zero, List.set_cons_succ]
          rfl
        refine one_ (i := 9) (N := some 49) #[true, true, true, true, true, true, true, true, true, true, false, false, false, false] rfl rfl (by kernel_rfl) (by decide) (fun K hK => ?_)
        go_simp
        refine (HKID.out _ (Below.refl _ _).drew).mono ?_
        rintro e w3 ⟨cs', Fx, rfl, hx, hFx, hb3⟩
        obtain ⟨A7, l7, c7, A8, l8, c8, rfl⟩ := hx.cells
        have HX := Lib.hid (And.intro hx (And.intro (show Fr wr.heap.size w3 Fx from hFx) (undrew hb3)))
        clear hx hFx hb3
        refine hK.out _ _ (keeps_of HX.out.2.2) (fun hHeld => ?_)
        clear hK K
        refine norm_ (a' := ?_) ?_ ?_
        rotate_left
        · first
            | rfl
            | (simp only [Act.put, List.setIfInBounds_toArray, List.set_cons_zero, List.set_cons_succ]; rfl)
        refine one_ (i := 10) (N := some 50) #[true, true, true, true, true, true, true, true, true, true, true, false, false, false] rfl rfl (by kernel_rfl) (by decide) (fun K hK => ?_)
        go_simp
        refine hK.out _ _ (Keeps.trans (keeps_of HX.out.2.2) HX.out.2.2.size (keeps_of ((Below.refl _ _).alloc (Nat.le_refl _) _))) (fun hHeld => ?_)
        clear hK K
        refine norm_ (a' := ?_) ?_ ?_
        rotate_left
        · first
            | rfl
            | (simp only [Act.put, List.setIfInBounds_toArray, List.set_cons_zero, List.set_cons_succ]; rfl)
        refine last_ (i := 11) (N := some 51) #[true, true, true, true, true, true, true, true, true, true, true, true, false, false] rfl rfl (by kernel_rfl) (by decide) (fun K hK => ?_)
        have hv := HV.out
        have hOs := hv.hk.hO2
        obtain ⟨inner, Fi, hown, hin, hFi⟩ := id hOs
        have hlen := HL0.out
        rw [hlen] at hown
        have hb35 : Below wr.heap.size wr w3 := HX.out.2.2
        have hbW1 : Below w3.heap.size w3 (w3.alloc (.cells #[.int .i64 (carT ds ats kids[j]).kind, .int .i64 (carT ds ats kids[j]).num, .int .i64 (carT ds ats kids[j]).place, .slice A7 l7 c7, .slice A8 l8 c8] 30)) := (Below.refl _ _).alloc (Nat.le_refl _) _
        have hmv : ∀ q, q < wr.heap.size → (w3.alloc (.cells #[.int .i64 (carT ds ats kids[j]).kind, .int .i64 (carT ds ats kids[j]).num, .int .i64 (carT ds ats kids[j]).place, .slice A7 l7 c7, .slice A8 l8 c8] 30)).heap[q]? = wr.heap[q]? := fun q hq => by
          rw [hbW1.block q (Nat.lt_of_lt_of_le hq hb35.size), hb35.block q hq]
        have hjl := HIN.out.ok.len
        refine step_append rfl (.tmp 41) (.tmp 50) 28 rfl 30 _ 5 72 Tryd.underlying28 infoTm rfl (by decide) (.slice A' j c') j inner rfl (ownsRow_move hown (fun q hq => hmv q (hown.lt q hq).2))
          ⟨w3.heap.size, 0, none⟩ 1 1 [.int .i64 (carT ds ats kids[j]).kind, .int .i64 (carT ds ats kids[j]).num, .int .i64 (carT ds ats kids[j]).place, .slice A7 l7 c7, .slice A8 l8 c8] rfl rfl (news_at (Blk.new w3 _ _)) (by simp [Value.oneCell']) (by simp only [maxLen]; omega) (by omega) ?_
        intro v2 w5 hown2 hg hat
        obtain ⟨A9, c9, rfl⟩ := own_slice hown2
        have HP := Lib.hid (hv.push hb35 HX.out.1 HX.out.2.1 hbW1 rfl (fun inner' hi' => by rw [hlen] at hi' ⊢; rw [ownsRow_unique hi' hown]; exact hown2) hg hat (fun q hq => (hown2.lt q hq).2))
        have k35 : Blk w5 w1.heap.size _ 30 := (show w5.heap[w1.heap.size]? = wr.heap[w1.heap.size]? from by
          have hvin : ∀ q, (Value.slice A' j c').ownBlock = some q → q ∈ F' := fun q hq => by rw [hFi]; exact List.mem_append_left _ (by simp [hq])
          rw [hg.block _ (by have := hb35.size; simp; omega) (fun e => hv.hk.hne _ (List.mem_append_right _ (hvin _ e.symm)) rfl)]
          exact hmv _ n3').trans hv.hk.k3
        have c35 := k35.cell
        have f35 := k35.frozen
        clear hv hOs hown hin hFi hlen hb35 hbW1 hmv hjl hown2 hg hat k35
        refine hK.out _ _ ?_
        clear hK K
        refine norm_ (a' := ?_) ?_ ?_
        rotate_left
        · first
            | rfl
            | (simp only [Act.put, List.setIfInBounds_toArray, List.set_cons_zero, List.set_cons_succ]; rfl)
        refine pure_ (i := 12) (N := some 52) (v := ?_) (a' := ?_) #[true, true, true, true, true, true, true, true, true, true, true, true, true, false] rfl rfl (by kernel_rfl) (fun _ _ _ h => h) (Or.inl ⟨by rfl, ?_⟩) ?_ ?_
        rotate_left
        · rintro w'
          go_simp
          with_reducible rfl
        rotate_left
        · simp only [Act.put, List.setIfInBounds_toArray, List.set_cons_zero, List.set_cons_succ]
          rfl
        refine last_ (i := 13) (N := none) #[true, true, true, true, true, true, true, true, true, true, true, true, true, true] rfl rfl (by kernel_rfl) (by decide) (fun K hK => ?_)
        go_simp
        refine hK.out _ _ ?_
        clear hK K
        refine norm_ (a' := ?_) ?_ ?_
        rotate_left
        · first
            | rfl
            | (simp only [Act.put, List.setIfInBounds_toArray, List.set_cons_zero, List.set_cons_succ]; rfl)
        refine done_ (by kernel_rfl) ?_
        clear c35 f35 g0 g3
        go_wp2
        go_roundw
        case rel =>
          obtain ⟨F9, hw⟩ := HP.out
          rw [show carL ds ats (kids.take j) ++ [carT ds ats kids[j]] = carL ds ats (kids.take (j + 1)) from (carL_take ds ats kids j hlt).symm] at hw
          exact ⟨j + 1, by omega, by go_num, Lib.hid ⟨K, N, A, A9, c9, F9, hw, HU'.out⟩⟩
        case measure => simp [intOf]; omega
      · have hv := HV.out
        have g0 := hv.k0.cell
        have g3 := hv.hk.k3.cell
        have n3' := hv.hk.k3.lt
        have g1 := hv.k1.cell
        have f1 := hv.k1.frozen
        have n1' := hv.k1.lt
        clear hv
        go_wp2
        have hjk : j = kids.length := by omega
        subst hjk
        have hv := HV.out
        have hO2 := hv.hk.hO2
        rw [List.take_length] at hO2
        have hO := (OwT_mk wr K N A lv (carL ds ats kids) _ (F1 ++ F')).2 ⟨_, _, F1, F', rfl, hv.hk.hO1, hO2, rfl⟩
        rw [HU'.out]
        exact term_end Tryd.results13 rfl hv.k1 hO hv.hk.hF (by omega) (fun b hb => by have := (hv.hk.hF.2 b hb).1; omega) hv.hk.hb (by omega) rfl
  | some m' =>
    rw [hn] at hok hm
    replace hok : ok = true := hok
    subst hok
    replace hm := hm m' rfl
    subst hm
    have HI : Hid (∃ K N A A' c' F', RInv w w1.heap.size #[.int .i64 k, .int .i64 n, .int .i64 a, .slice A1 lv.length c1, .slice A2 kids.length c2] K N A (.slice A3 lv.length c3) (.slice A' 0 c') lv F1 (carL ds ats (kids.take 0)) F' (((w2.setCell ⟨w1.heap.size, 0, none⟩ (.int .i64 3)).setCell ⟨w1.heap.size, 1, none⟩ (.int .i64 m)).setCell ⟨w1.heap.size, 2, none⟩ (.int .i64 0)) ∧ u = .mk K N A lv (carL ds ats kids)) := Lib.hid ⟨_, _, _, _, _, _, by rw [List.take_zero]; exact HX.out.name _, by rw [HU.out, carT, hn]⟩
    clear hn HX
    go_wp2_with fail
    clear g3 f3
    go_loopw [10] (fun i wr => ∃ j : Nat, j ≤ kids.length ∧ i = .int .i64 j ∧ Hid (∃ K N A A' c' F', RInv w w1.heap.size #[.int .i64 k, .int .i64 n, .int .i64 a, .slice A1 lv.length c1, .slice A2 kids.length c2] K N A (.slice A3 lv.length c3) (.slice A' j c') lv F1 (carL ds ats (kids.take j)) F' wr ∧ u = .mk K N A lv (carL ds ats kids))) (fun i _ => kids.length - (intOf i).toNat)
    case atStart => exact ⟨0, by omega, rfl, HI⟩
    case round =>
      obtain ⟨j, hj, rfl, HV0⟩ := hrel
      obtain ⟨K, N, A, A', c', F', hv0, hu0⟩ := HV0.out
      have HV := Lib.hid hv0
      have HU' := Lib.hid hu0
      clear HI HV0 hv0 hu0
      by_cases hlt : j < kids.length
      · rcases HR.out with rfl | ⟨b, o, rfl, hkr⟩
        · simp at hlt
        obtain ⟨q0, q1, q2, A5, l5, c5, A6, l6, c6, hTk, e0, e1, e2, e3, e4, hbl⟩ := RdT_at hkr j hlt
        have hv := HV.out
        have hcw := (bcell hv.hk.hb).1
        have HTk := Lib.hid hTk
        have hj0 : (0 : Int) ≤ (j : Int) := Int.natCast_nonneg _
        have hj1 : (j : Int) < (kids.length : Int) := by omega
        have g0 := hv.k0.cell
        have n0' := hv.k0.lt
        have g3 := hv.hk.k3.cell
        have n3' := hv.hk.k3.lt
        have HS := Lib.hid hv.hk.hb.size
        have hbl' : b < wr.heap.size := Nat.lt_of_lt_of_le hbl HS.out
        have HL0 := Lib.hid (show (carL ds ats (kids.take j)).length = j by rw [carL_eq, List.length_map, List.length_take]; omega)
        have HKID := Lib.hid (fun W' (hb' : Below wr.heap.size wr W') => HIH.out kids[j] (List.getElem_mem hlt) (.slice Ad ds.length cd) (.slice Aa ats.length ca) _ W' (HE.out.below (hv.hk.hb.trans (hb'.mono hv.hk.hb.size))) ⟨RdT.below (keeps_of (hv.hk.hb.trans (hb'.mono hv.hk.hb.size))) _ _ HTk.out, HIN.out.ok.kid _ (List.getElem_mem hlt), by have := HIN.out.few; have := nodes_kid (List.getElem_mem hlt); simp only [Tm.nodes] at *; omega⟩)
        clear hkr hTk hv
        go_wp2_with fail
        refine start_ (n := 14) (S := fun W' => ∀ b o, b < wr.heap.size → W'.cell? ⟨b, o, none⟩ = wr.cell? ⟨b, o, none⟩) (ds := [11, 13]) #[false, false, false, false, false, false, false, false, false, false, false, false, false, false] (by kernel_rfl) rfl rfl (by exact (fun _ _ _ => rfl)) (fun hHeld => ?_)
        refine take_ (i := 0) (N := some 40) (v := ?_) (a' := ?_) #[true, false, false, false, false, false, false, false, false, false, false, false, false, false] rfl rfl (by kernel_rfl) (fun _ _ _ h => h) (Or.inl ⟨by rfl, ?_⟩) hHeld ?_ ?_
        rotate_left
        · rintro w' hS'
          go_simp
          with_reducible rfl
        rotate_left
        · simp only [Act.put, List.setIfInBounds_toArray, List.set_cons_zero, List.set_cons_succ]
          rfl
        refine take_ (i := 1) (N := some 41) (v := ?_) (a' := ?_) #[true, true, false, false, false, false, false, false, false, false, false, false, false, false] rfl rfl (by kernel_rfl) (fun _ _ _ h => h) (Or.inl ⟨by rfl, ?_⟩) hHeld ?_ ?_
        rotate_left
        · rintro w' hS'
          go_simp
          with_reducible rfl
        rotate_left
        · simp only [Act.put, List.setIfInBounds_toArray, List.set_cons_zero, List.set_cons_succ]
          rfl
        refine take_ (i := 2) (N := some 42) (v := ?_) (a' := ?_) #[true, true, true, false, false, false, false, false, false, false, false, false, false, false] rfl rfl (by kernel_rfl) (fun _ _ _ h => h) (Or.inl ⟨by rfl, ?_⟩) hHeld ?_ ?_
        rotate_left
        · rintro w' hS'
          go_simp
          with_reducible rfl
        rotate_left
        · simp only [Act.put, List.setIfInBounds_toArray, List.set_cons_zero, List.set_cons_succ]
          rfl
        refine take_ (i := 3) (N := some 43) (v := ?_) (a' := ?_) #[true, true, true, true, false, false, false, false, false, false, false, false, false, false] rfl rfl (by kernel_rfl) (fun _ _ _ h => h) (Or.inl ⟨by rfl, ?_⟩) hHeld ?_ ?_
        rotate_left
        · rintro w' hS'
          go_simp
          with_reducible rfl
        rotate_left
        · simp only [Act.put, List.setIfInBounds_toArray, List.set_cons_zero, List.set_cons_succ]
          rfl
        refine take_ (i := 4) (N := some 44) (v := ?_) (a' := ?_) #[true, true, true, true, true, false, false, false, false, false, false, false, false, false] rfl rfl (by kernel_rfl) (fun _ _ _ h => h) (Or.inl ⟨by rfl, ?_⟩) hHeld ?_ ?_
        rotate_left
        · rintro w' hS'
          go_simp
          with_reducible rfl
        rotate_left
        · simp only [Act.put, List.setIfInBounds_toArray, List.set_cons_zero, List.set_cons_succ]
          rfl
        refine take_ (i := 5) (N := some 45) (v := ?_) (a' := ?_) #[true, true, true, true, true, true, false, false, false, false, false, false, false, false] rfl rfl (by kernel_rfl) (fun _ _ _ h => h) (Or.inl ⟨by rfl, ?_⟩) hHeld ?_ ?_
        rotate_left
        · rintro w' hS'
          go_simp
          with_reducible rfl
        rotate_left
        · simp only [Act.put, List.setIfInBounds_toArray, List.set_cons_zero, List.set_cons_succ]
          rfl
        refine take_ (i := 6) (N := some 46) (v := ?_) (a' := ?_) #[true, true, true, true, true, true, true, false, false, false, false, false, false, false] rfl rfl (by kernel_rfl) (fun _ _ _ h => h) (Or.inl ⟨by rfl, ?_⟩) hHeld ?_ ?_
        rotate_left
        · rintro w' hS'
          go_simp
          with_reducible rfl
        rotate_left
        · simp only [Act.put, List.setIfInBounds_toArray, List.set_cons_zero, List.set_cons_succ]
          rfl
        refine take_ (i := 7) (N := some 47) (v := ?_) (a' := ?_) #[true, true, true, true, true, true, true, true, false, false, false, false, false, false] rfl rfl (by kernel_rfl) (fun _ _ _ h => h) (Or.inl ⟨by rfl, ?_⟩) hHeld ?_ ?_
        rotate_left
        · rintro w' hS'
          go_simp
          with_reducible rfl
        rotate_left
        · simp only [Act.put, List.setIfInBounds_toArray, List.set_cons_zero, List.set_cons_succ]
          rfl
        refine take_ (i := 8) (N := some 48) (v := ?_) (a' := ?_) #[true, true, true, true, true, true, true, true, true, false, false, false, false, false] rfl rfl (by kernel_rfl) (fun _ _ _ h => h) (Or.inl ⟨by rfl, ?_⟩) hHeld ?_ ?_
        rotate_left
        · rintro w' hS'
          go_simp
          with_reducible rfl
        rotate_left
        · simp only [Act.put, List.setIfInBounds_toArray, List.set_cons_zero, List.set_cons_succ]
          rfl
        refine one_ (i := 9) (N := some 49) #[true, true, true, true, true, true, true, true, true, true, false, false, false, false] rfl rfl (by kernel_rfl) (by decide) (fun K hK => ?_)
        go_simp
        refine (HKID.out _ (Below.refl _ _).drew).mono ?_
        rintro e w3 ⟨cs', Fx, rfl, hx, hFx, hb3⟩
        obtain ⟨A7, l7, c7, A8, l8, c8, rfl⟩ := hx.cells
        have HX := Lib.hid (And.intro hx (And.intro (show Fr wr.heap.size w3 Fx from hFx) (undrew hb3)))
        clear hx hFx hb3
        refine hK.out _ _ (keeps_of HX.out.2.2) (fun hHeld => ?_)
        clear hK K
        refine norm_ (a' := ?_) ?_ ?_
        rotate_left
        · first
            | rfl
            | (simp only [Act.put, List.setIfInBounds_toArray, List.set_cons_zero, List.set_cons_succ]; rfl)
        refine one_ (i := 10) (N := some 50) #[true, true, true, true, true, true, true, true, true, true, true, false, false, false] rfl rfl (by kernel_rfl) (by decide) (fun K hK => ?_)
        go_simp
        refine hK.out _ _ (Keeps.trans (keeps_of HX.out.2.2) HX.out.2.2.size (keeps_of ((Below.refl _ _).alloc (Nat.le_refl _) _))) (fun hHeld => ?_)
        clear hK K
        refine norm_ (a' := ?_) ?_ ?_
        rotate_left
        · first
            | rfl
            | (simp only [Act.put, List.setIfInBounds_toArray, List.set_cons_zero, List.set_cons_succ]; rfl)
        refine last_ (i := 11) (N := some 51) #[true, true, true, true, true, true, true, true, true, true, true, true, false, false] rfl rfl (by kernel_rfl) (by decide) (fun K hK => ?_)
        have hv := HV.out
        have hOs := hv.hk.hO2
        obtain ⟨inner, Fi, hown, hin, hFi⟩ := id hOs
        have hlen := HL0.out
        rw [hlen] at hown
        have hb35 : Below wr.heap.size wr w3 := HX.out.2.2
        have hbW1 : Below w3.heap.size w3 (w3.alloc (.cells #[.int .i64 (carT ds ats kids[j]).kind, .int .i64 (carT ds ats kids[j]).num, .int .i64 (carT ds ats kids[j]).place, .slice A7 l7 c7, .slice A8 l8 c8] 30)) := (Below.refl _ _).alloc (Nat.le_refl _) _
        have hmv : ∀ q, q < wr.heap.size → (w3.alloc (.cells #[.int .i64 (carT ds ats kids[j]).kind, .int .i64 (carT ds ats kids[j]).num, .int .i64 (carT ds ats kids[j]).place, .slice A7 l7 c7, .slice A8 l8 c8] 30)).heap[q]? = wr.heap[q]? := fun q hq => by
          rw [hbW1.block q (Nat.lt_of_lt_of_le hq hb35.size), hb35.block q hq]
        have hjl := HIN.out.ok.len
        refine step_append rfl (.tmp 41) (.tmp 50) 28 rfl 30 _ 5 72 Tryd.underlying28 infoTm rfl (by decide) (.slice A' j c') j inner rfl (ownsRow_move hown (fun q hq => hmv q (hown.lt q hq).2))
          ⟨w3.heap.size, 0, none⟩ 1 1 [.int .i64 (carT ds ats kids[j]).kind, .int .i64 (carT ds ats kids[j]).num, .int .i64 (carT ds ats kids[j]).place, .slice A7 l7 c7, .slice A8 l8 c8] rfl rfl (news_at (Blk.new w3 _ _)) (by simp [Value.oneCell']) (by simp only [maxLen]; omega) (by omega) ?_
        intro v2 w5 hown2 hg hat
        obtain ⟨A9, c9, rfl⟩ := own_slice hown2
        have HP := Lib.hid (hv.push hb35 HX.out.1 HX.out.2.1 hbW1 rfl (fun inner' hi' => by rw [hlen] at hi' ⊢; rw [ownsRow_unique hi' hown]; exact hown2) hg hat (fun q hq => (hown2.lt q hq).2))
        have k35 : Blk w5 w1.heap.size _ 30 := (show w5.heap[w1.heap.size]? = wr.heap[w1.heap.size]? from by
          have hvin : ∀ q, (Value.slice A' j c').ownBlock = some q → q ∈ F' := fun q hq => by rw [hFi]; exact List.mem_append_left _ (by simp [hq])
          rw [hg.block _ (by have := hb35.size; simp; omega) (fun e => hv.hk.hne _ (List.mem_append_right _ (hvin _ e.symm)) rfl)]
          exact hmv _ n3').trans hv.hk.k3
        have c35 := k35.cell
        have f35 := k35.frozen
        clear hv hOs hown hin hFi hlen hb35 hbW1 hmv hjl hown2 hg hat k35
        refine hK.out _ _ ?_
        clear hK K
        refine norm_ (a' := ?_) ?_ ?_
        rotate_left
        · first
            | rfl
            | (simp only [Act.put, List.setIfInBounds_toArray, List.set_cons_zero, List.set_cons_succ]; rfl)
        refine pure_ (i := 12) (N := some 52) (v := ?_) (a' := ?_) #[true, true, true, true, true, true, true, true, true, true, true, true, true, false] rfl rfl (by kernel_rfl) (fun _ _ _ h => h) (Or.inl ⟨by rfl, ?_⟩) ?_ ?_
        rotate_left
        · rintro w'
          go_simp
          with_reducible rfl
        rotate_left
        · simp only [Act.put, List.setIfInBounds_toArray, List.set_cons_zero, List.set_cons_succ]
          rfl
        refine last_ (i := 13) (N := none) #[true, true, true, true, true, true, true, true, true, true, true, true, true, true] rfl rfl (by kernel_rfl) (by decide) (fun K hK => ?_)
        go_simp
        refine hK.out _ _ ?_
        clear hK K
        refine norm_ (a' := ?_) ?_ ?_
        rotate_left
        · first
            | rfl
            | (simp only [Act.put, List.setIfInBounds_toArray, List.set_cons_zero, List.set_cons_succ]; rfl)
        refine done_ (by kernel_rfl) ?_
        clear c35 f35 g0 g3
        go_wp2
        go_roundw
        case rel =>
          obtain ⟨F9, hw⟩ := HP.out
          rw [show carL ds ats (kids.take j) ++ [carT ds ats kids[j]] = carL ds ats (kids.take (j + 1)) from (carL_take ds ats kids j hlt).symm] at hw
          exact ⟨j + 1, by omega, by go_num, Lib.hid ⟨K, N, A, A9, c9, F9, hw, HU'.out⟩⟩
        case measure => simp [intOf]; omega
      · have hv := HV.out
        have g0 := hv.k0.cell
        have g3 := hv.hk.k3.cell
        have n3' := hv.hk.k3.lt
        have g1 := hv.k1.cell
        have f1 := hv.k1.frozen
        have n1' := hv.k1.lt
        clear hv
        go_wp2
        have hjk : j = kids.length := by omega
        subst hjk
        have hv := HV.out
        have hO2 := hv.hk.hO2
        rw [List.take_length] at hO2
        have hO := (OwT_mk wr K N A lv (carL ds ats kids) _ (F1 ++ F')).2 ⟨_, _, F1, F', rfl, hv.hk.hO1, hO2, rfl⟩
        rw [HU'.out]
        exact term_end Tryd.results13 rfl hv.k1 hO hv.hk.hF (by omega) (fun b hb => by have := (hv.hk.hF.2 b hb).1; omega) hv.hk.hb (by omega) rfl
/-- .. whatever the term. -/
theorem refTerm_any (ds : List Dc) (ats : List Int) : ∀ t, ROK ds ats t := by
  intro t
  induction t using Tm.ind with
  | h k n a lv kids ih => exact refTerm_of ds ats k n a lv kids ih
end Go.Proofs.YtkedcijfegoflaaDoor.PCarryNames
