/- term: own, Lift. -/
import Derived.Test.YtkedcijfegoflaaDoorTerm
import Derived.Test.YtkedcijfegoflaaDoorWLast
namespace Go.Proofs.YtkedcijfegoflaaDoor
open Go Go.RowKit Go.Proofs.YtkedcijfegoflaaDoorW.PrintLast

/-- Bounds that let every list be made: no list longer than 2^40. -/
def Okl (lv : List Lv) : Prop := lv.length ≤ 1099511627776 ∧ ∀ l ∈ lv, l.length ≤ 1099511627776

/-- own's loop: the first j levels have been made anew. -/
def OwnInv (w : World) (B : Nat) (cs1 cs2 : Array Value) (v1 : Value) (lv : List Lv) (inner : List Value) (wr : World) (j : Nat) : Prop :=
  ∃ innerD F, Below w.heap.size w wr ∧ Blk wr B cs1 30 ∧ Blk wr (B + 1) cs2 30 ∧ wr.ownsRow 0 38 1 v1 lv.length (innerD ++ inner.drop j) ∧
    OwL (OwLv1 wr) 1 innerD (lv.take j) F ∧ Fr (B + 2) wr (v1.ownBlock.toList ++ F)

theorem OwnInv.step {w : World} {B : Nat} {cs1 cs2 : Array Value} {g n cap : Nat} {lv : List Lv} {inner : List Value} {wr w2 : World} {j : Nat} {v' : Value} {F' : List Nat}
    (h : OwnInv w B cs1 cs2 (.slice (some ⟨g, 0, none⟩) n cap) lv inner wr j) (hn : n = lv.length) (hB : w.heap.size ≤ B) (hlt : j < lv.length) (hil : inner.length = lv.length)
    (hb2 : Below wr.heap.size wr w2) (hO : OwLv w2 v' lv[j] F') (hF2 : Fr wr.heap.size w2 F') :
    OwnInv w B cs1 cs2 (.slice (some ⟨g, 0, none⟩) n cap) lv inner (w2.setCell ⟨g, j, none⟩ v') (j + 1) := by
  subst hn
  obtain ⟨innerD, F, hb, hk1, hk2, hown, hD, hF⟩ := h
  have hdl := hD.length
  rw [List.length_take, Nat.min_eq_left (Nat.le_of_lt hlt), Nat.mul_one] at hdl
  have hgF := hF.2 g (by simp [Value.ownBlock])
  have hnd := List.nodup_append.1 hF.1
  have hown2 := ownsRow_move hown (w1 := w2) (fun k hk => hb2.block k (by have : k = g := by simpa [Value.ownBlock] using hk.symm
                                                                          omega))
  have hs := (hown2.stored j v').1
  have hD2 : OwL (OwLv1 w2) 1 innerD (lv.take j) F := hD.imp (fun x cs G _ hG h => OwLv1.mov _ _ _ _ _ (fun b hm => hb2.block b (hF.2 b (List.mem_append_right _ (hG b hm))).2) h)
  have hS : Same (F ++ F') w2 (w2.setCell ⟨g, j, none⟩ v') := fun b hm => Below.heap_setCell _ _ _ _ (by
    intro e
    have e : b = g := e
    subst e
    rcases List.mem_append.1 hm with hm | hm
    · exact hnd.2.2 b (by simp [Value.ownBlock]) b hm rfl
    · have := hF2.2 b hm; omega)
  refine ⟨innerD ++ [v'], F ++ F', (hb.trans (hb2.mono hb.size)).setCell (by show w.heap.size ≤ g; omega) _, ((hk1.below hb2).far (by show B ≠ g; omega) _), ((hk2.below hb2).far (by show B + 1 ≠ g; omega) _), ?_, ?_, ?_⟩
  · have e : (innerD ++ inner.drop j).set j v' = innerD ++ [v'] ++ inner.drop (j + 1) := by
      rw [List.set_append_right _ _ (by omega), hdl, Nat.sub_self, show inner.drop j = inner[j] :: inner.drop (j + 1) from List.drop_eq_getElem_cons (by omega), List.set_cons_zero]
      simp
    rw [← e]
    exact hs
  · rw [List.take_succ_eq_append_getElem hlt]
    exact ((hD2.imp (fun x cs G _ hG h => OwLv1.mov _ _ _ _ _ (fun b hm => hS b (List.mem_append_left _ (hG b hm))) h)).snoc (OwLv1.mov _ _ _ _ _ hS.right ⟨v', rfl, hO⟩) rfl)
  · rw [← List.append_assoc]
    have := hF.append hF2 hb2.size (by have := hk2.lt; omega)
    exact this.mono (Nat.le_refl _) (by simp [World.setCell])
set_option maxRecDepth 100000 in
set_option maxHeartbeats 1000000 in
theorem own_any (k n a : Int) (vl : Value) (A2 : Option Addr) (l2 c2 : Nat) (lv : List Lv) (w : World) (h : RdLvs w vl lv) (hok : Okl lv) :
    Calls Tryd.prog 64 #[.agg #[.int .i64 k, .int .i64 n, .int .i64 a, vl, .slice A2 l2 c2]] w fun e w' => ∃ A1 l1 c1 F, e = .returned (.agg #[.int .i64 k, .int .i64 n, .int .i64 a, .slice A1 l1 c1, .slice A2 l2 c2]) ∧ OwLvs w' (.slice A1 l1 c1) lv F ∧ Fr w.heap.size w' F ∧ Below w.heap.size w w' := by
  obtain ⟨A, c, rfl, hc, hm, hr⟩ := id h
  have hn : (lv.length : Int) ≤ 9223372036854775807 := by omega
  have HH := Lib.hid h
  have HOK := Lib.hid hok
  clear hr hm hc h hok
  go_enter Tryd.func64, Tryd.ntmps64
  go_wp2_with fail
  refine (CloneLv_any lv _ _ w HH.out (keeps_of (((Below.refl _ _).alloc (Nat.le_refl _) _).alloc (by simp) _)) HOK.out.1).mono ?_
  rintro e w1 ⟨A1, c1, inner, rfl, hown, hin, hlo, hb1⟩
  have HB := Lib.hid (((Below.refl w.heap.size w).alloc (Nat.le_refl _) _).alloc (by simp) _ |>.trans (hb1.mono (by simp; omega)))
  have HI := Lib.hid hin
  have HO := Lib.hid hown
  have HL := Lib.hid hlo
  have hk1 := ((Blk.new w _ _).alloc _).below hb1
  have hk2 : Blk w1 (w.heap.size + 1) _ _ := (show Blk _ (w.heap.size + 1) _ _ from by have := Blk.new (w.alloc (.cells #[.int .i64 k, .int .i64 n, .int .i64 a, .slice A lv.length c, .slice A2 l2 c2] 30)) #[.int .i64 0, .int .i64 0, .int .i64 0, .slice none 0 0, .slice none 0 0] 30; simpa using this).below hb1
  have hk1c := hk1.cell
  have hk1f := hk1.frozen
  have K1 := Lib.hid hk1
  have K2 := Lib.hid hk2
  clear hin hown hlo hb1 hk1 hk2
  go_wp2_with fail
  go_loopw [11] (fun i wr => ∃ j : Nat, j ≤ lv.length ∧ i = .int .i64 j ∧
      OwnInv w w.heap.size #[.int .i64 k, .int .i64 n, .int .i64 a, .slice A1 lv.length c1, .slice A2 l2 c2] #[.int .i64 0, .int .i64 0, .int .i64 0, .slice none 0 0, .slice none 0 0] (.slice A1 lv.length c1) lv inner wr j) (fun i _ => lv.length - (intOf i).toNat)
  case atStart =>
    refine ⟨0, by omega, rfl, [], [], HB.out.setCell (by simp) _, K1.out.set _ _, K2.out.far (by simp) _, ?_, ⟨by simp, rfl⟩, ?_⟩
    · have hl := HL.out
      refine ownsRow_move HO.out (fun b hb => Below.heap_setCell _ _ _ _ ?_)
      have := (hl b hb).1; simp at this ⊢; omega
    · rw [List.append_nil]
      have hl := HL.out
      exact (Fr.one (fun b hb => by have := hl b hb; simp at this; exact this)).mono (by omega) (by simp)
  case round =>
    obtain ⟨j, hj, rfl, hinv⟩ := hrel
    clear hk1c hk1f HB HO HL K1 K2
    have HV := Lib.hid hinv
    clear hinv
    by_cases hlt : j < lv.length
    · obtain ⟨innerD, F, hb, hk1, hk2, hown, hD, hF⟩ := HV.out
      have hil := (OwL.length HI.out)
      have hdl := hD.length
      rw [List.length_take, Nat.min_eq_left hj, Nat.mul_one] at hdl
      obtain ⟨g, cap, he, hgb, hgl⟩ := hown.form (by omega)
      injection he with he1 he2 he3
      subst he1 he3
      obtain ⟨u, hu⟩ : ∃ u, inner[j]? = some u := ⟨_, List.getElem?_eq_getElem (by omega)⟩
      obtain ⟨u', hur⟩ := OwL.get1 HI.out j lv[j] (List.getElem?_eq_getElem hlt)
      obtain ⟨hu1, hrd⟩ := hur
      rw [hu] at hu1
      injection hu1 with hu1
      subst hu1
      obtain ⟨Au, cu, rfl, hcu⟩ := id hrd
      have hcell : wr.cell? ⟨g, j, none⟩ = some (.slice Au (lv[j]).length cu) := by
        rw [hown.cellAt j (by omega), List.getElem?_append_right (by omega), List.getElem?_drop, hdl, Nat.sub_self, Nat.add_zero]; exact hu
      have hg0 := (hF.2 g (by simp [Value.ownBlock])).1
      have hfz := hown.frozenAt
      have hcB := hk1.cell
      have hj0 : (0 : Int) ≤ (j : Int) := Int.natCast_nonneg _
      have hj1 : (j : Int) < (lv.length : Int) := by omega
      have HC := Lib.hid (fun W (hW : Keeps w W) => ClonePa_any lv[j] _ W (hrd.below hW) (HOK.out.2 _ (List.getElem_mem hlt)))
      have HE := Lib.hid (And.intro hb (And.intro hk1 (And.intro hk2 (And.intro hown (And.intro hD (And.intro hF (And.intro hdl hil)))))))
      have hbs := hb.size
      have hws := hk1.lt
      have hgl' : g < wr.heap.size := hgl
      have hkw := keeps_of hb
      clear hb hk1 hk2 hown hD hF hdl hil hu hrd hcu hkw
      go_wp2_with fail
      refine start_ (n := 13) (S := fun W => ∀ b o, b < wr.heap.size → W.cell? ⟨b, o, none⟩ = wr.cell? ⟨b, o, none⟩) (ds := [12]) #[false, false, false, false, false, false, false, false, false, false, false, false, false] (by kernel_rfl) rfl rfl (by exact (fun _ _ _ => rfl)) (fun hHeld => ?_)
      refine take_ (i := 0) (N := some 14) (v := ?_) (a' := ?_) #[true, false, false, false, false, false, false, false, false, false, false, false, false] rfl rfl (by kernel_rfl) (fun _ _ _ h => h) (Or.inl ⟨by rfl, ?_⟩) hHeld ?_ ?_
      rotate_left
      · rintro w' hS'
        go_simp
        with_reducible rfl
      rotate_left
      · simp only [Act.put, List.setIfInBounds_toArray, List.set_cons_zero, List.set_cons_succ]
        rfl
      refine take_ (i := 1) (N := some 15) (v := ?_) (a' := ?_) #[true, true, false, false, false, false, false, false, false, false, false, false, false] rfl rfl (by kernel_rfl) (fun _ _ _ h => h) (Or.inl ⟨by rfl, ?_⟩) hHeld ?_ ?_
      rotate_left
      · rintro w' hS'
        go_simp
        with_reducible rfl
      rotate_left
      · simp only [Act.put, List.setIfInBounds_toArray, List.set_cons_zero, List.set_cons_succ]
        rfl
      refine take_ (i := 2) (N := some 16) (v := ?_) (a' := ?_) #[true, true, true, false, false, false, false, false, false, false, false, false, false] rfl rfl (by kernel_rfl) (fun _ _ _ h => h) (Or.inl ⟨by rfl, ?_⟩) hHeld ?_ ?_
      rotate_left
      · rintro w' hS'
        go_simp
        with_reducible rfl
      rotate_left
      · simp only [Act.put, List.setIfInBounds_toArray, List.set_cons_zero, List.set_cons_succ]
        rfl
      refine take_ (i := 3) (N := some 17) (v := ?_) (a' := ?_) #[true, true, true, true, false, false, false, false, false, false, false, false, false] rfl rfl (by kernel_rfl) (fun _ _ _ h => h) (Or.inl ⟨by rfl, ?_⟩) hHeld ?_ ?_
      rotate_left
      · rintro w' hS'
        go_simp
        with_reducible rfl
      rotate_left
      · simp only [Act.put, List.setIfInBounds_toArray, List.set_cons_zero, List.set_cons_succ]
        rfl
      refine take_ (i := 4) (N := some 18) (v := ?_) (a' := ?_) #[true, true, true, true, true, false, false, false, false, false, false, false, false] rfl rfl (by kernel_rfl) (fun _ _ _ h => h) (Or.inl ⟨by rfl, ?_⟩) hHeld ?_ ?_
      rotate_left
      · rintro w' hS'
        go_simp
        with_reducible rfl
      rotate_left
      · simp only [Act.put, List.setIfInBounds_toArray, List.set_cons_zero, List.set_cons_succ]
        rfl
      refine take_ (i := 5) (N := some 19) (v := ?_) (a' := ?_) #[true, true, true, true, true, true, false, false, false, false, false, false, false] rfl rfl (by kernel_rfl) (fun _ _ _ h => h) (Or.inl ⟨by rfl, ?_⟩) hHeld ?_ ?_
      rotate_left
      · rintro w' hS'
        go_simp
        with_reducible rfl
      rotate_left
      · simp only [Act.put, List.setIfInBounds_toArray, List.set_cons_zero, List.set_cons_succ]
        rfl
      refine take_ (i := 6) (N := some 20) (v := ?_) (a' := ?_) #[true, true, true, true, true, true, true, false, false, false, false, false, false] rfl rfl (by kernel_rfl) (fun _ _ _ h => h) (Or.inl ⟨by rfl, ?_⟩) hHeld ?_ ?_
      rotate_left
      · rintro w' hS'
        go_simp
        with_reducible rfl
      rotate_left
      · simp only [Act.put, List.setIfInBounds_toArray, List.set_cons_zero, List.set_cons_succ]
        rfl
      refine take_ (i := 7) (N := some 21) (v := ?_) (a' := ?_) #[true, true, true, true, true, true, true, true, false, false, false, false, false] rfl rfl (by kernel_rfl) (fun _ _ _ h => h) (Or.inl ⟨by rfl, ?_⟩) hHeld ?_ ?_
      rotate_left
      · rintro w' hS'
        go_simp
        with_reducible rfl
      rotate_left
      · simp only [Act.put, List.setIfInBounds_toArray, List.set_cons_zero, List.set_cons_succ]
        rfl
      refine take_ (i := 8) (N := some 22) (v := ?_) (a' := ?_) #[true, true, true, true, true, true, true, true, true, false, false, false, false] rfl rfl (by kernel_rfl) (fun _ _ _ h => h) (Or.inl ⟨by rfl, ?_⟩) hHeld ?_ ?_
      rotate_left
      · rintro w' hS'
        go_simp
        with_reducible rfl
      rotate_left
      · simp only [Act.put, List.setIfInBounds_toArray, List.set_cons_zero, List.set_cons_succ]
        rfl
      refine one_ (i := 9) (N := some 23) #[true, true, true, true, true, true, true, true, true, true, false, false, false] rfl rfl (by kernel_rfl) (by decide) (fun K hK => ?_)
      go_simp
      refine (HC.out _ (Keeps.trans (keeps_of HE.out.1) HE.out.1.size hHeld)).mono ?_
      rintro e w2 ⟨A2', n2', c2', F2', rfl, hO2, hF2, hb2⟩
      obtain ⟨hc2, hf2⟩ := bcell (undrew hb2)
      refine hK.out _ _ hc2 (fun hHeld => ?_)
      clear hK K
      refine norm_ (a' := ?_) ?_ ?_
      rotate_left
      · first
          | rfl
          | (simp only [Act.put, List.setIfInBounds_toArray, List.set_cons_zero, List.set_cons_succ]; rfl)
      refine take_ (i := 10) (N := some 24) (v := ?_) (a' := ?_) #[true, true, true, true, true, true, true, true, true, true, true, false, false] rfl rfl (by kernel_rfl) (fun _ _ _ h => h) (Or.inl ⟨by rfl, ?_⟩) hHeld ?_ ?_
      rotate_left
      · rintro w' hS'
        go_simp
        with_reducible rfl
      rotate_left
      · simp only [Act.put, List.setIfInBounds_toArray, List.set_cons_zero, List.set_cons_succ]
        rfl
      refine take_ (i := 11) (N := some 25) (v := ?_) (a' := ?_) #[true, true, true, true, true, true, true, true, true, true, true, true, false] rfl rfl (by kernel_rfl) (fun _ _ _ h => h) (Or.inl ⟨by rfl, ?_⟩) hHeld ?_ ?_
      rotate_left
      · rintro w' hS'
        go_simp
        with_reducible rfl
      rotate_left
      · simp only [Act.put, List.setIfInBounds_toArray, List.set_cons_zero, List.set_cons_succ]
        rfl
      refine last_ (i := 12) (N := none) #[true, true, true, true, true, true, true, true, true, true, true, true, true] rfl rfl (by kernel_rfl) (by decide) (fun K hK => ?_)
      go_simp
      refine hK.out _ _ ?_
      clear hK K
      refine norm_ (a' := ?_) ?_ ?_
      rotate_left
      · first
          | rfl
          | (simp only [Act.put, List.setIfInBounds_toArray, List.set_cons_zero, List.set_cons_succ]; rfl)
      refine done_ (by kernel_rfl) ?_
      go_wp2
      go_roundw
      case rel => exact ⟨j + 1, by omega, by go_num, HV.out.step rfl (Nat.le_refl _) hlt (by have := OwL.length HI.out; omega) (undrew hb2) hO2 hF2⟩
      case measure => simp [intOf]; omega
    · obtain ⟨innerD, F, hb, hk1, hk2, hown, hD, hF⟩ := HV.out
      have hc1 := hk1.cell
      have hc2 := hk2.cell
      have hf2 := hk2.frozen
      have KK := Lib.hid hk2
      have HB := Lib.hid hb
      have HO := Lib.hid (And.intro hown (And.intro hD hF))
      clear hb hown hk2 hD hF hk1
      go_wp2
      clear hc1 hc2 hf2
      obtain ⟨hown, hD, hF⟩ := HO.out
      have hj' : j = lv.length := by omega
      subst hj'
      have hl := (OwL.length HI.out)
      rw [List.drop_of_length_le (by omega), List.append_nil] at hown
      rw [List.take_length] at hD
      have hfar : ∀ (W : World) (v : Value) (i : Nat), Same ((Value.slice A1 lv.length c1).ownBlock.toList ++ F) W (W.setCell ⟨w.heap.size + 1, i, none⟩ v) := fun W v i b hb => Below.heap_setCell _ _ _ _ (by have := (hF.2 b hb).1; simp; omega)
      have hO : OwLvs wr (.slice A1 lv.length c1) lv ((Value.slice A1 lv.length c1).ownBlock.toList ++ F) := ⟨innerD, F, hown, hD, rfl⟩
      refine bodyPost_ret (ret_term Tryd.results64 (g := w.heap.size + 1) rfl ((((((KK.out.set 0 _).set 1 _).set 2 _).set 3 _).set 4 _))) rfl
        ⟨_, _, _, _, rfl, ((((hO.move (hfar _ _ _)).move (hfar _ _ _)).move (hfar _ _ _)).move (hfar _ _ _)).move (hfar _ _ _), hF.mono (by omega) (by simp [World.setCell]), ?_⟩
      exact ((((HB.out.setCell (by simp) _).setCell (by simp) _).setCell (by simp) _).setCell (by simp) _).setCell (by simp) _
end Go.Proofs.YtkedcijfegoflaaDoor
