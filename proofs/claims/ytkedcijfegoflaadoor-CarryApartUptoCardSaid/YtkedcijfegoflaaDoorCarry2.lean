/- carry: work.term, Term. -/
import Derived.Test.YtkedcijfegoflaaDoorCarry
namespace Go.Proofs.YtkedcijfegoflaaDoor
set_option linter.unusedSimpArgs false
set_option linter.unusedVariables false
open Go Go.RowKit Go.Proofs.YtkedcijfegoflaaDoorW.PrintLast

theorem lift_leaf (k n a : Int) (lv : List Lv) : liftT 0 0 0 (.mk k n a lv []) = .mk k (liftNum 0 0 0 k n) a lv [] := by
  simp [liftT, turnT, liftNode, turnL]
/-- Levels and kids, made one behind the other, are a term of one's own; a cell of another block written. -/
theorem ow_join {w4 : World} {lo B g : Nat} {K N A : Int} {vl v x : Value} {lv : List Lv} {ts : List Tm} {F1 F2 : List Nat} {j : Nat}
    (hO1 : OwLvs w4 vl lv F1) (hF1 : Fr lo w4 F1) (h1 : ∀ b ∈ F1, b < g) (hO2 : OwTs w4 v ts F2) (hF2 : Fr B w4 F2) (hB : g < B) (hlo : lo ≤ B) :
    OwT (w4.setCell ⟨g, j, none⟩ x) (.mk K N A lv ts) [.int .i64 K, .int .i64 N, .int .i64 A, vl, v] (F1 ++ F2) ∧ Fr lo (w4.setCell ⟨g, j, none⟩ x) (F1 ++ F2) ∧ ∀ b ∈ F1 ++ F2, b ≠ g := by
  have hne : ∀ b ∈ F1 ++ F2, b ≠ g := fun b hb => by
    rcases List.mem_append.1 hb with hb | hb
    · have := h1 b hb; omega
    · have := (hF2.2 b hb).1; omega
  have hS : Same (F1 ++ F2) w4 (w4.setCell ⟨g, j, none⟩ x) := fun b hb => Below.heap_setCell _ _ _ _ (hne b hb)
  refine ⟨(OwT_mk ..).2 ⟨vl, v, F1, F2, rfl, hO1.move hS.left, hO2.move hS.right, rfl⟩, ⟨List.nodup_append.2 ⟨hF1.1, hF2.1, fun a ha b hb e => ?_⟩, fun b hb => ?_⟩, hne⟩
  · have := h1 a ha; have := (hF2.2 b hb).1; omega
  · rw [show (w4.setCell ⟨g, j, none⟩ x).heap.size = w4.heap.size from by simp [World.setCell]]
    rcases List.mem_append.1 hb with hb | hb
    · exact hF1.2 b hb
    · have := hF2.2 b hb; omega
set_option maxRecDepth 100000 in
set_option maxHeartbeats 2000000 in
theorem term_of (ds : List Dc) (ats : List Int) (k n a : Int) (lv : List Lv) (kids : List Tm) (ih : ∀ t ∈ kids, CarOK ds ats t) : CarOK ds ats (.mk k n a lv kids) := by
  intro vd va cs w hE h
  obtain ⟨vl, vk, rfl, hlv, A2, c2, rfl, hc2, hm2, hkids⟩ := (RdT_mk ..).1 h.rd
  obtain ⟨A1, c1, rfl, hc1, hm1, hr1⟩ := id hlv
  obtain ⟨Ad, cd, hvd, _⟩ := id hE.hd
  obtain ⟨Aa, ca, hva, _⟩ := id hE.ha
  subst hvd hva
  obtain ⟨k0, k1, k2, hb0, hsz⟩ := blks3 w #[.slice Ad ds.length cd, .slice Aa ats.length ca] #[.int .i64 k, .int .i64 n, .int .i64 a, .slice A1 lv.length c1, .slice none 0 0] #[.int .i64 0, .int .i64 0, .int .i64 0, .slice none 0 0, .slice none 0 0] 76 30 30
  have HR := Lib.hid h
  have HE := Lib.hid hE
  have HL := Lib.hid (And.intro hlv (show RdTs w (.slice A2 kids.length c2) kids from ⟨A2, c2, rfl, hc2, hm2, hkids⟩))
  clear hc2 hm2 hkids hc1 hm1 hr1 h hE hlv
  have HB := Lib.hid (And.intro k0 (And.intro k1 (And.intro k2 (And.intro hb0 hsz))))
  clear k0 k1 k2 hb0 hsz
  go_enter Tryd.func49, Tryd.ntmps49
  go_wp2_with fail
  generalize (((w.alloc _).alloc _).alloc _) = W at *
  have HI : In W (.mk k n a lv []) [.int .i64 k, .int .i64 n, .int .i64 a, .slice A1 lv.length c1, .slice none 0 0] := by
    have hk := keeps_of HB.out.2.2.2.1
    refine ⟨(RdT_mk ..).2 ⟨_, _, rfl, HL.out.1.below hk, ⟨none, 0, rfl, by simp, by simp, .inl rfl⟩⟩, ⟨HR.out.ok.lv, by simp, by simp⟩, by simp [Tm.nodes, Tm.nodesL]⟩
  refine (Lift_any _ _ 0 0 W (HE.out.hK.below HB.out.2.2.2.1) HI).mono ?_
  clear HI
  rintro e w1 ⟨cs1, F0, rfl, hO, hF, hb1⟩
  rw [lift_leaf] at hO
  obtain ⟨vl1, vk1, F1, F2, rfl, hO1, hO2, rfl⟩ := (OwT_mk ..).1 hO
  obtain ⟨A3, c3, rfl⟩ := OwS.slice hO1
  obtain ⟨A4, c4, rfl⟩ := OwS.slice hO2
  obtain ⟨k0, k1, k2, hb0, hsz⟩ := HB.out
  rw [hsz] at hF
  have k0 := k0.below hb1
  have k1 := k1.below hb1
  have k2 := k2.below hb1
  have hF1 : Fr (w.heap.size + 3) w1 F1 := ⟨(List.nodup_append.1 hF.1).1, fun b hb => hF.2 b (List.mem_append_left _ hb)⟩
  have hbw := hb0.trans (hb1.mono hb0.size)
  have g0 := k0.cell
  have g1 := k1.cell
  have n0 := k0.lt
  have n1 := k1.lt
  have n2 := k2.lt
  have H1 := Lib.hid (And.intro k2 (And.intro hO1 (And.intro hF1 (And.intro hbw k0))))
  clear hO hO1 hO2 hF hF1 hb1 k0 k1 k2 hb0 hsz HB hbw
  go_wp2_with fail
  clear g0 g1
  have hA : Below w1.heap.size w1 (w1.alloc (.cells #[.int .i64 k, .int .i64 (liftNum 0 0 0 k n), .int .i64 a, .slice A3 lv.length c3, .slice A4 0 c4] 30)) := (Below.refl _ _).alloc (Nat.le_refl _) _
  have k3 := Blk.new w1 #[.int .i64 k, .int .i64 (liftNum 0 0 0 k n), .int .i64 a, .slice A3 lv.length c3, .slice A4 0 c4] 30
  generalize w1.alloc (.cells #[.int .i64 k, .int .i64 (liftNum 0 0 0 k n), .int .i64 a, .slice A3 lv.length c3, .slice A4 0 c4] 30) = W1 at *
  have hbW := H1.out.2.2.2.1.trans (hA.mono H1.out.2.2.2.1.size)
  refine (name_any ds ats _ _ k n a A1 none lv.length c1 0 0 W1 (HE.out.hd.below (keeps_of hbW)) (HE.out.ha.below (keeps_of hbW))).mono ?_
  rintro e w2 ⟨rfl, hb2⟩
  have n3 := k3.lt
  have hbx := hA.trans (hb2.mono hA.size)
  have s1 := hbx.size
  have k3 := k3.below hb2
  have k0 := H1.out.2.2.2.2.below hbx
  have k2 := H1.out.1.below hbx
  have g0 := k0.cell
  have g3 := k3.cell
  have f3 := k3.frozen
  have n0 := k0.lt
  have n2 := k2.lt
  have n3 := k3.lt
  have hO1 := H1.out.2.1.move (Same.of_below H1.out.2.2.1 hbx)
  have hF1 : Fr (w.heap.size + 3) w2 F1 := H1.out.2.2.1.mono (Nat.le_refl _) hbx.size
  have hlt1 : ∀ b ∈ F1, b < w1.heap.size := fun b hb => (H1.out.2.2.1.2 b hb).2
  have hbw2 := hbW.trans (hb2.mono hbW.size)
  have HX := Lib.hid (And.intro k2 (And.intro k3 (And.intro hO1 (And.intro hF1 (And.intro hlt1 hbw2)))))
  have n21 : w.heap.size + 1 + 1 < w1.heap.size := H1.out.1.lt
  clear k0 k2 k3 hO1 hF1 hlt1 hbw2 hbx s1 hb2 hbW hA H1
  cases hn : nameI ds ats k n a with
  | none =>
    have HN := Lib.hid hn
    clear hn
    go_wp2_with fail
    have hT := terms_of ds ats kids ih _ _ _ w2 (HE.out.below HX.out.2.2.2.2.2) (HL.out.2.below (keeps_of HX.out.2.2.2.2.2)) HR.out.ok.len (fun t ht => ⟨HR.out.ok.kid t ht, by have := HR.out.few; have := nodes_kid ht; simp only [Tm.nodes] at *; omega⟩)
    refine hT.mono ?_
    clear hT
    rintro e w4 ⟨A9, c9, F9, rfl, hO9, hF9, hb4⟩
    obtain ⟨k2, k3, hO1, hF1, hlt1, hbw2⟩ := HX.out
    have k2 := k2.below hb4
    have k3 := k3.below hb4
    have g2 := k2.cell
    have f2 := k2.frozen
    have g3 := k3.cell
    have f3 := k3.frozen
    have hO1 := hO1.move (Same.of_below hF1 hb4)
    have hF1 := hF1.mono (Nat.le_refl _) hb4.size
    have H4 := Lib.hid (And.intro k2 (And.intro hO1 (And.intro hF1 (And.intro hlt1 (And.intro hbw2 (And.intro hb4 (And.intro hO9 hF9)))))))
    clear k2 k3 hO1 hF1 hlt1 hbw2 hb4 hO9 hF9 g0 HX
    go_wp2
    obtain ⟨k2, hO1, hF1, hlt1, hbw2, hb4, hO9, hF9⟩ := H4.out
    obtain ⟨hO, hF, hne⟩ := ow_join (K := k) (N := liftNum 0 0 0 k n) (A := a) (x := .slice A9 (carL ds ats kids).length c9) (j := 4) hO1 hF1 hlt1 hO9 hF9 (by omega) (by omega)
    refine term_end Tryd.results49 rfl (k2.far (by simp; omega) _) (by rw [carT, HN.out]; exact hO) hF (by omega) ?_ ?_ (by omega) rfl
    · exact fun b hb => by have := (hF.2 b hb).1; omega
    · exact (hbw2.trans (hb4.mono hbw2.size)).setCell (by show w.heap.size ≤ w1.heap.size; omega) _
  | some m =>
    have HN := Lib.hid hn
    clear hn
    go_wp2_with fail
    have HX : Hid (Blk (((w2.setCell ⟨w1.heap.size, 0, none⟩ (.int .i64 3)).setCell ⟨w1.heap.size, 1, none⟩ (.int .i64 m)).setCell ⟨w1.heap.size, 2, none⟩ (.int .i64 0)) (w.heap.size + 1 + 1) #[.int .i64 0, .int .i64 0, .int .i64 0, .slice none 0 0, .slice none 0 0] 30 ∧
        Blk (((w2.setCell ⟨w1.heap.size, 0, none⟩ (.int .i64 3)).setCell ⟨w1.heap.size, 1, none⟩ (.int .i64 m)).setCell ⟨w1.heap.size, 2, none⟩ (.int .i64 0)) w1.heap.size #[.int .i64 3, .int .i64 m, .int .i64 0, .slice A3 lv.length c3, .slice A4 0 c4] 30 ∧
        OwLvs (((w2.setCell ⟨w1.heap.size, 0, none⟩ (.int .i64 3)).setCell ⟨w1.heap.size, 1, none⟩ (.int .i64 m)).setCell ⟨w1.heap.size, 2, none⟩ (.int .i64 0)) (.slice A3 lv.length c3) lv F1 ∧
        Fr (w.heap.size + 3) (((w2.setCell ⟨w1.heap.size, 0, none⟩ (.int .i64 3)).setCell ⟨w1.heap.size, 1, none⟩ (.int .i64 m)).setCell ⟨w1.heap.size, 2, none⟩ (.int .i64 0)) F1 ∧ (∀ b ∈ F1, b < w1.heap.size) ∧
        Below w.heap.size w (((w2.setCell ⟨w1.heap.size, 0, none⟩ (.int .i64 3)).setCell ⟨w1.heap.size, 1, none⟩ (.int .i64 m)).setCell ⟨w1.heap.size, 2, none⟩ (.int .i64 0)) ∧ w1.heap.size < (((w2.setCell ⟨w1.heap.size, 0, none⟩ (.int .i64 3)).setCell ⟨w1.heap.size, 1, none⟩ (.int .i64 m)).setCell ⟨w1.heap.size, 2, none⟩ (.int .i64 0)).heap.size) := by
      obtain ⟨k2, k3, hO1, hF1, hlt1, hbw2⟩ := HX.out
      have hne : ∀ q, q < w1.heap.size → (((w2.setCell ⟨w1.heap.size, 0, none⟩ (.int .i64 3)).setCell ⟨w1.heap.size, 1, none⟩ (.int .i64 m)).setCell ⟨w1.heap.size, 2, none⟩ (.int .i64 0)).heap[q]? = w2.heap[q]? := fun q hq => by
        rw [Below.heap_setCell _ _ _ _ (show q ≠ w1.heap.size by omega), Below.heap_setCell _ _ _ _ (show q ≠ w1.heap.size by omega), Below.heap_setCell _ _ _ _ (show q ≠ w1.heap.size by omega)]
      exact ⟨(hne _ n21).trans k2, (((k3.set 0 _).set 1 _).set 2 _), hO1.move (fun b hb => hne b (hlt1 b hb)), hF1.mono (Nat.le_refl _) (by simp [World.setCell]), hlt1, ((hbw2.setCell (by show w.heap.size ≤ w1.heap.size; omega) _).setCell (by show w.heap.size ≤ w1.heap.size; omega) _).setCell (by show w.heap.size ≤ w1.heap.size; omega) _, by simp [World.setCell]; exact n3⟩
    generalize ((w2.setCell ⟨w1.heap.size, 0, none⟩ (.int .i64 3)).setCell ⟨w1.heap.size, 1, none⟩ (.int .i64 m)).setCell ⟨w1.heap.size, 2, none⟩ (.int .i64 0) = W3 at *
    clear g3 f3
    have hT := terms_of ds ats kids ih _ _ _ W3 (HE.out.below HX.out.2.2.2.2.2.1) (HL.out.2.below (keeps_of HX.out.2.2.2.2.2.1)) HR.out.ok.len (fun t ht => ⟨HR.out.ok.kid t ht, by have := HR.out.few; have := nodes_kid ht; simp only [Tm.nodes] at *; omega⟩)
    refine hT.mono ?_
    clear hT
    rintro e w4 ⟨A9, c9, F9, rfl, hO9, hF9, hb4⟩
    obtain ⟨k2, k3, hO1, hF1, hlt1, hbw3, n33⟩ := HX.out
    have k2 := k2.below hb4
    have k3 := k3.below hb4
    have g2 := k2.cell
    have f2 := k2.frozen
    have g3 := k3.cell
    have f3 := k3.frozen
    have hO1 := hO1.move (Same.of_below hF1 hb4)
    have hF1 := hF1.mono (Nat.le_refl _) hb4.size
    have H4 := Lib.hid (And.intro k2 (And.intro hO1 (And.intro hF1 (And.intro hlt1 (And.intro hbw3 (And.intro hb4 (And.intro hO9 hF9)))))))
    clear k2 k3 hO1 hF1 hlt1 hbw3 hb4 hO9 hF9 g0 HX
    go_wp2
    obtain ⟨k2, hO1, hF1, hlt1, hbw3, hb4, hO9, hF9⟩ := H4.out
    obtain ⟨hO, hF, hne⟩ := ow_join (K := 3) (N := m) (A := 0) (x := .slice A9 (carL ds ats kids).length c9) (j := 4) hO1 hF1 hlt1 hO9 hF9 (by omega) (by omega)
    refine term_end Tryd.results49 rfl (k2.far (by simp; omega) _) (by rw [carT, HN.out]; exact hO) hF (by omega) ?_ ?_ (by omega) rfl
    · exact fun b hb => by have := (hF.2 b hb).1; omega
    · exact (hbw3.trans (hb4.mono hbw3.size)).setCell (by show w.heap.size ≤ w1.heap.size; omega) _
/-- .. whatever the term. -/
theorem term_any (ds : List Dc) (ats : List Int) : ∀ t, CarOK ds ats t := by
  intro t
  induction t using Tm.ind with
  | h k n a lv kids ih => exact term_of ds ats k n a lv kids ih
set_option maxRecDepth 100000 in
set_option maxHeartbeats 1000000 in
theorem Term_any (ds : List Dc) (ats : List Int) (t : Tm) (vd va : Value) (cs : List Value) (w : World) (hE : CEnv w vd va ds ats) (h : In w t cs) :
    Calls Tryd.prog 12 #[vd, va, .agg cs.toArray] w (OutT w (carT ds ats t)) := by
  obtain ⟨A1, l1, c1, A2, l2, c2, rfl⟩ := h.rd.cells
  obtain ⟨Ad, cd, hvd, _⟩ := id hE.hd
  obtain ⟨Aa, ca, hva, _⟩ := id hE.ha
  subst hvd hva
  obtain ⟨k0, k1, hb0, hsz⟩ := blks2 w #[.int .i64 t.kind, .int .i64 t.num, .int .i64 t.place, .slice A1 l1 c1, .slice A2 l2 c2] #[.int .i64 0, .int .i64 0, .int .i64 0, .slice none 0 0, .slice none 0 0] 30 30
  have HC := Lib.hid (term_any ds ats t _ _ _ _ (hE.below hb0) (h.keeps (keeps_of hb0)))
  have H := Lib.hid (And.intro k1 (And.intro hb0 hsz))
  clear k0 k1 hb0 hsz hE h
  go_enter Tryd.func12, Tryd.ntmps12
  go_wp2_with fail
  refine HC.out.mono ?_
  rintro e w1 ⟨cs', F, rfl, hO, hF, hb1⟩
  obtain ⟨A3, l3, c3, A4, l4, c4, rfl⟩ := hO.cells
  obtain ⟨k1, hb, hsz⟩ := H.out
  have k1 := k1.below hb1
  have c3' := k1.cell
  have f3' := k1.frozen
  have H1 := Lib.hid (And.intro k1 (And.intro hO (And.intro hF (And.intro hb1 (And.intro hb hsz)))))
  clear k1 hO hF hb1 hb hsz
  go_wp2
  obtain ⟨k1, hO, hF, hb1, hb, hsz⟩ := H1.out
  rw [hsz] at hF
  exact term_end Tryd.results12 rfl k1 hO hF (by omega) (fun b hb => by have := (hF.2 b hb).1; omega) (hb.trans (hb1.mono hb.size)) (by omega) rfl
end Go.Proofs.YtkedcijfegoflaaDoor
