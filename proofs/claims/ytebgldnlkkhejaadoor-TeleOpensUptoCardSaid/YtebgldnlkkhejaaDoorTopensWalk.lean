/- spandrellaw04.TeleOpens walked: true for every row, term, terms that fit, for every number. -/
import Derived.Test.YtebgldnlkkhejaaDoorKitD
import Derived.Test.YtebgldnlkkhejaaDoorKitC
import Derived.Test.YtebgldnlkkhejaaDoorWMore
namespace Go.Proofs.YtebgldnlkkhejaaDoor.PCarryNames
set_option linter.unusedSimpArgs false
set_option linter.unusedVariables false
open Go Go.RowKit Go.Proofs.YtebgldnlkkhejaaDoor Go.Proofs.YtebgldnlkkhejaaDoorW.PrintLast Go.Proofs.YtebgldnlkkhejaaDoorW.PrintMore
attribute [local go_sem] max_two min_two

set_option maxRecDepth 100000 in
set_option maxHeartbeats 40000000 in
theorem topens_any (row by_ : List Tm) (t : Tm) (vr vb : Value) (cs : List Value) (n : Int) (w : World) (hK : Kinds w) (hr : Fis w vr row) (ht : Fi w t cs) (hb : Fis w vb by_) (hM : (t.nodes + Tm.nodesL row + row.length + 1) * (Tm.nodesL by_ + 1) ≤ 1099511627775) :
    Calls Tryd.prog 4 #[vr, .agg cs.toArray, vb, .int .i64 n] w fun e w' => e = .returned (.bool true) ∧ Below w.heap.size w w' := by
  obtain ⟨At1, lt1, ct1, At2, lt2, ct2, rfl⟩ := ht.i.rd.cells
  obtain ⟨Ar, cr, rfl, hcr, -⟩ := id hr.i.rd
  obtain ⟨Ab, cb, rfl, -⟩ := id hb.i.rd
  have hM1 : t.nodes + Tm.nodesL row + row.length + 1 ≤ 1099511627775 := Nat.le_trans (Nat.le_mul_of_pos_right _ (by omega)) hM
  obtain ⟨al, hal⟩ : ∃ al, upT 4 row t = al := ⟨_, rfl⟩
  have hna : al.nodes = Tm.nodesL row + row.length + t.nodes := by rw [← hal, up_nodes]
  have hca : countT al = row.length + countT t := by rw [← hal, countT_up]
  have hct := countT_le t
  have hoa : Okt al := by rw [← hal]; exact up_okt 4 row t (fun r h => (hr.i.ok r h).1) ht.i.ok
  have hfa : AllN Fits al := by rw [← hal]; exact up_fits 4 row t hr.f ht.f
  have HP := Lib.hid (And.intro hM (And.intro hM1 (And.intro hal (And.intro hna (And.intro hca (And.intro hct (And.intro hoa (And.intro hfa hcr))))))))
  have hL0 : (0 : Int) ≤ (row.length : Int) := Int.natCast_nonneg _
  have hL1 : (row.length : Int) ≤ 9223372036854775807 := by omega
  have HK := Lib.hid hK
  have HZ := Lib.hid (blks1 w #[.int .i64 t.kind, .int .i64 t.num, .int .i64 t.place, .slice At1 lt1 ct1, .slice At2 lt2 ct2] 30)
  have HA0 := Lib.hid (And.intro hr (And.intro ht hb))
  clear hK hr ht hb hM hM1 hal hna hca hct hoa hfa hcr
  go_enter Tryd.func4, Tryd.ntmps4
  go_wp2_with fail
  obtain ⟨kz, hb, -⟩ := HZ.out
  generalize w.alloc _ = w0 at kz hb ⊢
  have HS0 := Lib.hid (And.intro (hb) (And.intro (HA0.out.1.keeps (keeps_of hb)) (And.intro (HA0.out.2.1.keeps (keeps_of hb)) (And.intro (HA0.out.2.2.keeps (keeps_of hb)) (kz)))))
  clear kz hb HZ HA0
  refine (awake4_any w0 (HK.out.below HS0.out.1)).mono ?_
  rintro e y1 ⟨rfl, hb⟩
  have HS1 := Lib.hid (And.intro (HS0.out.1.trans (hb.mono HS0.out.1.size)) (And.intro (HS0.out.2.1.keeps (keeps_of hb)) (And.intro (HS0.out.2.2.1.keeps (keeps_of hb)) (And.intro (HS0.out.2.2.2.1.keeps (keeps_of hb)) (HS0.out.2.2.2.2.below hb)))))
  clear HS0
  clear hb
  have g_b5 := (HS1.out.2.2.2.2).cell
  have n_b5 := (HS1.out.2.2.2.2).lt
  go_wp2_with fail
  clear g_b5 n_b5
  refine (great_any t row _ _ y1 HS1.out.2.2.1.i.rd HS1.out.2.1.i.rd HS1.out.2.1.i.len).mono ?_
  rintro e y2 ⟨bb, rfl, hb⟩
  have HS2 := Lib.hid (And.intro (HS1.out.1.trans (hb.mono HS1.out.1.size)) (And.intro (HS1.out.2.1.keeps (keeps_of hb)) (And.intro (HS1.out.2.2.1.keeps (keeps_of hb)) (And.intro (HS1.out.2.2.2.1.keeps (keeps_of hb)) (HS1.out.2.2.2.2.below hb)))))
  clear HS1
  clear hb
  cases bb
  rotate_left
  · go_wp2
    go_ret
    exact ⟨rfl, HS2.out.1⟩
  have g_b5 := (HS2.out.2.2.2.2).cell
  have n_b5 := (HS2.out.2.2.2.2).lt
  go_wp2_with fail
  clear g_b5 n_b5
  refine (great_any t by_ _ _ y2 HS2.out.2.2.1.i.rd HS2.out.2.2.2.1.i.rd HS2.out.2.2.2.1.i.len).mono ?_
  rintro e y3 ⟨bb, rfl, hb⟩
  have HS3 := Lib.hid (And.intro (HS2.out.1.trans (hb.mono HS2.out.1.size)) (And.intro (HS2.out.2.1.keeps (keeps_of hb)) (And.intro (HS2.out.2.2.1.keeps (keeps_of hb)) (And.intro (HS2.out.2.2.2.1.keeps (keeps_of hb)) (HS2.out.2.2.2.2.below hb)))))
  clear HS2
  clear hb
  cases bb
  rotate_left
  · go_wp2
    go_ret
    exact ⟨rfl, HS3.out.1⟩
  have g_b5 := (HS3.out.2.2.2.2).cell
  have n_b5 := (HS3.out.2.2.2.2).lt
  go_wp2_with fail
  clear g_b5 n_b5
  refine (Size_any t _ y3 HS3.out.2.2.1.i.rd (by have := HP.out.2.1; omega)).mono ?_
  rintro e y4 ⟨rfl, hb⟩
  have HS4 := Lib.hid (And.intro (HS3.out.1.trans (hb.mono HS3.out.1.size)) (And.intro (HS3.out.2.1.keeps (keeps_of hb)) (And.intro (HS3.out.2.2.1.keeps (keeps_of hb)) (And.intro (HS3.out.2.2.2.1.keeps (keeps_of hb)) (HS3.out.2.2.2.2.below hb)))))
  clear HS3
  clear hb
  have hwz : wrap64 ((t.nodes : Int) + (row.length : Int)) = (t.nodes : Int) + (row.length : Int) := by have := HP.out.2.1; unfold wrap64; omega
  by_cases h200 : 200 < (t.nodes : Int) + (row.length : Int)
  · go_wp2
    go_ret
    exact ⟨rfl, HS4.out.1⟩
  have g_b5 := (HS4.out.2.2.2.2).cell
  have n_b5 := (HS4.out.2.2.2.2).lt
  go_wp2_with fail
  clear g_b5 n_b5
  clear hwz h200
  have hc := Pis4 (HK.out.below HS4.out.1) HS4.out.2.1 HS4.out.2.2.1
  rw [HP.out.2.2.1] at hc
  refine (hc).mono ?_
  rintro e y5 ⟨A9_1, l9_1, c9_1, A9_2, l9_2, c9_2, rfl, hR, hb⟩
  have HS5 := Lib.hid (And.intro (HS4.out.1.trans (hb.mono HS4.out.1.size)) (And.intro (HS4.out.2.1.keeps (keeps_of hb)) (And.intro (HS4.out.2.2.1.keeps (keeps_of hb)) (And.intro (HS4.out.2.2.2.1.keeps (keeps_of hb)) (And.intro (HS4.out.2.2.2.2.below hb) (show Fi y5 al _ from ⟨⟨hR, HP.out.2.2.2.2.2.2.1, by have := HP.out.2.1; have := HP.out.2.2.2.1; omega⟩, HP.out.2.2.2.2.2.2.2.1⟩))))))
  clear HS4
  clear hb
  clear hc hR
  have HZ := Lib.hid (blks1 y5 #[.int .i64 al.kind, .int .i64 al.num, .int .i64 al.place, .slice A9_1 l9_1 c9_1, .slice A9_2 l9_2 c9_2] 30)
  have g_b5 := (HS5.out.2.2.2.2.1).cell
  have n_b5 := (HS5.out.2.2.2.2.1).lt
  go_wp2_with fail
  clear g_b5 n_b5
  obtain ⟨kz, hb, -⟩ := HZ.out
  generalize y5.alloc _ = y6 at kz hb ⊢
  have HS6 := Lib.hid (And.intro (HS5.out.1.trans (hb.mono HS5.out.1.size)) (And.intro (HS5.out.2.1.keeps (keeps_of hb)) (And.intro (HS5.out.2.2.1.keeps (keeps_of hb)) (And.intro (HS5.out.2.2.2.1.keeps (keeps_of hb)) (And.intro (HS5.out.2.2.2.2.1.below hb) (And.intro (HS5.out.2.2.2.2.2.keeps (keeps_of hb)) (kz)))))))
  clear HS5
  clear kz hb HZ
  refine (Open4 row.length row t (HK.out.below HS6.out.1) HS6.out.2.2.2.2.2.1 (by omega) (by have := HP.out.2.1; have := HP.out.2.2.2.1; omega) (by rw [← HP.out.2.2.1]; exact openT_all row t) HS6.out.2.1.f HS6.out.2.2.1.f).mono ?_
  rintro e y7 ⟨A10, c10, A11_1, l11_1, c11_1, A11_2, l11_2, c11_2, rfl, hRs, hR, hb⟩
  have HS7 := Lib.hid (And.intro (HS6.out.1.trans (hb.mono HS6.out.1.size)) (And.intro (HS6.out.2.1.keeps (keeps_of hb)) (And.intro (HS6.out.2.2.1.keeps (keeps_of hb)) (And.intro (HS6.out.2.2.2.1.keeps (keeps_of hb)) (And.intro (HS6.out.2.2.2.2.1.below hb) (And.intro (HS6.out.2.2.2.2.2.1.keeps (keeps_of hb)) (And.intro (HS6.out.2.2.2.2.2.2.below hb) (And.intro (hRs) (hR)))))))))
  clear HS6
  clear hb
  clear hRs hR
  have HZ := Lib.hid (blks1 y7 #[.int .i64 t.kind, .int .i64 t.num, .int .i64 t.place, .slice A11_1 l11_1 c11_1, .slice A11_2 l11_2 c11_2] 30)
  have g_b5 := (HS7.out.2.2.2.2.1).cell
  have n_b5 := (HS7.out.2.2.2.2.1).lt
  have g_b9 := (HS7.out.2.2.2.2.2.2.1).cell
  have n_b9 := (HS7.out.2.2.2.2.2.2.1).lt
  go_wp2_with fail
  clear g_b5 n_b5 g_b9 n_b9
  obtain ⟨kz, hb, -⟩ := HZ.out
  generalize y7.alloc _ = y8 at kz hb ⊢
  have HS8 := Lib.hid (And.intro (HS7.out.1.trans (hb.mono HS7.out.1.size)) (And.intro (HS7.out.2.1.keeps (keeps_of hb)) (And.intro (HS7.out.2.2.1.keeps (keeps_of hb)) (And.intro (HS7.out.2.2.2.1.keeps (keeps_of hb)) (And.intro (HS7.out.2.2.2.2.1.below hb) (And.intro (HS7.out.2.2.2.2.2.1.keeps (keeps_of hb)) (And.intro (HS7.out.2.2.2.2.2.2.1.below hb) (And.intro (HS7.out.2.2.2.2.2.2.2.1.below (keeps_of hb)) (And.intro (RdT.below (keeps_of hb) _ _ HS7.out.2.2.2.2.2.2.2.2) (kz))))))))))
  clear HS7
  clear kz hb HZ
  obtain ⟨kk, hkk⟩ : ∃ kk : Nat, (Tm.mk 0 0 0 [] row).nodes = kk := ⟨_, rfl⟩
  have hk1 : kk = Tm.nodesL row + 1 := by rw [← hkk]; simp only [Tm.nodes]
  have hw1 : wrap64 ((row.length : Int) + (countT t : Int)) = (countT al : Int) := by have := HP.out.2.1; have := HP.out.2.2.2.2.1; have := HP.out.2.2.2.2.2.1; unfold wrap64; omega
  have hw2 : wrap64 ((t.nodes : Int) + (kk : Int)) = (t.nodes : Int) + (kk : Int) := by have := HP.out.2.1; unfold wrap64; omega
  have hw3 : wrap64 ((t.nodes : Int) + (kk : Int) - 1) = (t.nodes : Int) + (kk : Int) - 1 := by have := HP.out.2.1; unfold wrap64; omega
  have hw4 : wrap64 ((t.nodes : Int) + (kk : Int) - 1 + (row.length : Int)) = (al.nodes : Int) := by have := HP.out.2.1; have := HP.out.2.2.2.1; unfold wrap64; omega
  have hv1 : IntKind.i64.wrap ((row.length : Int) + (countT t : Int)) = (countT al : Int) := (i64w _).trans hw1
  have hv2 : IntKind.i64.wrap ((t.nodes : Int) + (kk : Int)) = (t.nodes : Int) + (kk : Int) := (i64w _).trans hw2
  have hv3 : IntKind.i64.wrap ((t.nodes : Int) + (kk : Int) - 1) = (t.nodes : Int) + (kk : Int) - 1 := (i64w _).trans hw3
  have hv4 : IntKind.i64.wrap ((t.nodes : Int) + (kk : Int) - 1 + (row.length : Int)) = (al.nodes : Int) := (i64w _).trans hw4
  have HKK := Lib.hid hkk
  clear hkk hk1
  have HW := Lib.hid HS8.out.1
  have g_b5 := (HS8.out.2.2.2.2.1).cell
  have n_b5 := (HS8.out.2.2.2.2.1).lt
  have g_b9 := (HS8.out.2.2.2.2.2.2.1).cell
  have n_b9 := (HS8.out.2.2.2.2.2.2.1).lt
  have g_b11 := (HS8.out.2.2.2.2.2.2.2.2.2).cell
  have n_b11 := (HS8.out.2.2.2.2.2.2.2.2.2).lt
  have HS9 := Lib.hid (And.intro (Below.refl y8.heap.size y8).drew (And.intro (HS8.out.2.1.keeps (keeps_of (Below.refl y8.heap.size y8).drew)) (And.intro (HS8.out.2.2.1.keeps (keeps_of (Below.refl y8.heap.size y8).drew)) (And.intro (HS8.out.2.2.2.1.keeps (keeps_of (Below.refl y8.heap.size y8).drew)) (And.intro (HS8.out.2.2.2.2.1.below (Below.refl y8.heap.size y8).drew) (And.intro (HS8.out.2.2.2.2.2.1.keeps (keeps_of (Below.refl y8.heap.size y8).drew)) (And.intro (HS8.out.2.2.2.2.2.2.1.below (Below.refl y8.heap.size y8).drew) (And.intro (HS8.out.2.2.2.2.2.2.2.1.below (keeps_of (Below.refl y8.heap.size y8).drew)) (And.intro (RdT.below (keeps_of (Below.refl y8.heap.size y8).drew) _ _ HS8.out.2.2.2.2.2.2.2.2.1) (HS8.out.2.2.2.2.2.2.2.2.2.below (Below.refl y8.heap.size y8).drew))))))))))
  clear HS8
  refine start_ (n := 39) (S := fun W' => ∀ b o, b < y8.heap.size → W'.cell? ⟨b, o, none⟩ = y8.cell? ⟨b, o, none⟩) (ds := []) #[false, false, false, false, false, false, false, false, false, false, false, false, false, false, false, false, false, false, false, false, false, false, false, false, false, false, false, false, false, false, false, false, false, false, false, false, false, false, false] (by kernel_rfl) rfl rfl (by exact (fun _ _ _ => rfl)) (fun hHeld => ?_)
  refine take_ (i := 0) (N := some 61) (v := ?_) (a' := ?_) #[true, false, false, false, false, false, false, false, false, false, false, false, false, false, false, false, false, false, false, false, false, false, false, false, false, false, false, false, false, false, false, false, false, false, false, false, false, false, false] rfl rfl (by kernel_rfl) (fun _ _ _ h => h) (Or.inl ⟨by rfl, ?_⟩) hHeld ?_ ?_
  rotate_left
  · rintro w' hS'
    go_simp
    with_reducible rfl
  rotate_left
  · simp only [Act.put, List.setIfInBounds_toArray, List.set_cons_zero, List.set_cons_succ]
    rfl
  refine take_ (i := 1) (N := some 62) (v := ?_) (a' := ?_) #[true, true, false, false, false, false, false, false, false, false, false, false, false, false, false, false, false, false, false, false, false, false, false, false, false, false, false, false, false, false, false, false, false, false, false, false, false, false, false] rfl rfl (by kernel_rfl) (fun _ _ _ h => h) (Or.inl ⟨by rfl, ?_⟩) hHeld ?_ ?_
  rotate_left
  · rintro w' hS'
    go_simp
    with_reducible rfl
  rotate_left
  · simp only [Act.put, List.setIfInBounds_toArray, List.set_cons_zero, List.set_cons_succ]
    rfl
  refine take_ (i := 2) (N := some 63) (v := ?_) (a' := ?_) #[true, true, true, false, false, false, false, false, false, false, false, false, false, false, false, false, false, false, false, false, false, false, false, false, false, false, false, false, false, false, false, false, false, false, false, false, false, false, false] rfl rfl (by kernel_rfl) (fun _ _ _ h => h) (Or.inl ⟨by rfl, ?_⟩) hHeld ?_ ?_
  rotate_left
  · rintro w' hS'
    go_simp
    with_reducible rfl
  rotate_left
  · simp only [Act.put, List.setIfInBounds_toArray, List.set_cons_zero, List.set_cons_succ]
    rfl
  refine take_ (i := 3) (N := some 64) (v := ?_) (a' := ?_) #[true, true, true, true, false, false, false, false, false, false, false, false, false, false, false, false, false, false, false, false, false, false, false, false, false, false, false, false, false, false, false, false, false, false, false, false, false, false, false] rfl rfl (by kernel_rfl) (fun _ _ _ h => h) (Or.inl ⟨by rfl, ?_⟩) hHeld ?_ ?_
  rotate_left
  · rintro w' hS'
    go_simp
    with_reducible rfl
  rotate_left
  · simp only [Act.put, List.setIfInBounds_toArray, List.set_cons_zero, List.set_cons_succ]
    rfl
  refine take_ (i := 4) (N := some 65) (v := ?_) (a' := ?_) #[true, true, true, true, true, false, false, false, false, false, false, false, false, false, false, false, false, false, false, false, false, false, false, false, false, false, false, false, false, false, false, false, false, false, false, false, false, false, false] rfl rfl (by kernel_rfl) (fun _ _ _ h => h) (Or.inl ⟨by rfl, ?_⟩) hHeld ?_ ?_
  rotate_left
  · rintro w' hS'
    go_simp
    with_reducible rfl
  rotate_left
  · simp only [Act.put, List.setIfInBounds_toArray, List.set_cons_zero, List.set_cons_succ]
    rfl
  refine one_ (i := 5) (N := some 66) #[true, true, true, true, true, true, false, false, false, false, false, false, false, false, false, false, false, false, false, false, false, false, false, false, false, false, false, false, false, false, false, false, false, false, false, false, false, false, false] rfl rfl (by kernel_rfl) (by decide) (fun K hK => ?_)
  go_simp
  refine (rows4_any row row _ _ y8.drew HS9.out.2.2.2.2.2.2.2.1 HS9.out.2.1.i.rd).mono ?_
  rintro e y9 ⟨rfl, hb⟩
  rw [eqbL_refl]
  have HS10 := Lib.hid (And.intro (HS9.out.1.trans (hb.mono HS9.out.1.size)) (And.intro (HS9.out.2.1.keeps (keeps_of hb)) (And.intro (HS9.out.2.2.1.keeps (keeps_of hb)) (And.intro (HS9.out.2.2.2.1.keeps (keeps_of hb)) (And.intro (HS9.out.2.2.2.2.1.below hb) (And.intro (HS9.out.2.2.2.2.2.1.keeps (keeps_of hb)) (And.intro (HS9.out.2.2.2.2.2.2.1.below hb) (And.intro (RdT.below (keeps_of hb) _ _ HS9.out.2.2.2.2.2.2.2.2.1) (HS9.out.2.2.2.2.2.2.2.2.2.below hb)))))))))
  clear HS9
  clear hb
  refine hK.out _ _ (keeps_of HS10.out.1) (fun hHeld => ?_)
  clear hK K
  refine norm_ (a' := ?_) ?_ ?_
  rotate_left
  · first
      | rfl
      | (simp only [Act.put, List.setIfInBounds_toArray, List.set_cons_zero, List.set_cons_succ]; rfl)
  refine take_ (i := 6) (N := some 67) (v := ?_) (a' := ?_) #[true, true, true, true, true, true, true, false, false, false, false, false, false, false, false, false, false, false, false, false, false, false, false, false, false, false, false, false, false, false, false, false, false, false, false, false, false, false, false] rfl rfl (by kernel_rfl) (fun _ _ _ h => h) (Or.inl ⟨by rfl, ?_⟩) hHeld ?_ ?_
  rotate_left
  · rintro w' hS'
    go_simp
    with_reducible rfl
  rotate_left
  · simp only [Act.put, List.setIfInBounds_toArray, List.set_cons_zero, List.set_cons_succ]
    rfl
  refine take_ (i := 7) (N := some 68) (v := ?_) (a' := ?_) #[true, true, true, true, true, true, true, true, false, false, false, false, false, false, false, false, false, false, false, false, false, false, false, false, false, false, false, false, false, false, false, false, false, false, false, false, false, false, false] rfl rfl (by kernel_rfl) (fun _ _ _ h => h) (Or.inl ⟨by rfl, ?_⟩) hHeld ?_ ?_
  rotate_left
  · rintro w' hS'
    go_simp
    with_reducible rfl
  rotate_left
  · simp only [Act.put, List.setIfInBounds_toArray, List.set_cons_zero, List.set_cons_succ]
    rfl
  refine take_ (i := 8) (N := some 69) (v := ?_) (a' := ?_) #[true, true, true, true, true, true, true, true, true, false, false, false, false, false, false, false, false, false, false, false, false, false, false, false, false, false, false, false, false, false, false, false, false, false, false, false, false, false, false] rfl rfl (by kernel_rfl) (fun _ _ _ h => h) (Or.inl ⟨by rfl, ?_⟩) hHeld ?_ ?_
  rotate_left
  · rintro w' hS'
    go_simp
    with_reducible rfl
  rotate_left
  · simp only [Act.put, List.setIfInBounds_toArray, List.set_cons_zero, List.set_cons_succ]
    rfl
  refine take_ (i := 9) (N := some 70) (v := ?_) (a' := ?_) #[true, true, true, true, true, true, true, true, true, true, false, false, false, false, false, false, false, false, false, false, false, false, false, false, false, false, false, false, false, false, false, false, false, false, false, false, false, false, false] rfl rfl (by kernel_rfl) (fun _ _ _ h => h) (Or.inl ⟨by rfl, ?_⟩) hHeld ?_ ?_
  rotate_left
  · rintro w' hS'
    go_simp
    with_reducible rfl
  rotate_left
  · simp only [Act.put, List.setIfInBounds_toArray, List.set_cons_zero, List.set_cons_succ]
    rfl
  refine take_ (i := 10) (N := some 71) (v := ?_) (a' := ?_) #[true, true, true, true, true, true, true, true, true, true, true, false, false, false, false, false, false, false, false, false, false, false, false, false, false, false, false, false, false, false, false, false, false, false, false, false, false, false, false] rfl rfl (by kernel_rfl) (fun _ _ _ h => h) (Or.inl ⟨by rfl, ?_⟩) hHeld ?_ ?_
  rotate_left
  · rintro w' hS'
    go_simp
    with_reducible rfl
  rotate_left
  · simp only [Act.put, List.setIfInBounds_toArray, List.set_cons_zero, List.set_cons_succ]
    rfl
  refine one_ (i := 11) (N := some 72) #[true, true, true, true, true, true, true, true, true, true, true, true, false, false, false, false, false, false, false, false, false, false, false, false, false, false, false, false, false, false, false, false, false, false, false, false, false, false, false] rfl rfl (by kernel_rfl) (by decide) (fun K hK => ?_)
  go_simp
  refine (same4_any t t _ _ y9 HS10.out.2.2.2.2.2.2.2.1 HS10.out.2.2.1.i.rd).mono ?_
  rintro e y10 ⟨rfl, hb⟩
  rw [eqb_refl]
  have HS11 := Lib.hid (And.intro (HS10.out.1.trans (hb.mono HS10.out.1.size)) (And.intro (HS10.out.2.1.keeps (keeps_of hb)) (And.intro (HS10.out.2.2.1.keeps (keeps_of hb)) (And.intro (HS10.out.2.2.2.1.keeps (keeps_of hb)) (And.intro (HS10.out.2.2.2.2.1.below hb) (And.intro (HS10.out.2.2.2.2.2.1.keeps (keeps_of hb)) (And.intro (HS10.out.2.2.2.2.2.2.1.below hb) (HS10.out.2.2.2.2.2.2.2.2.below hb))))))))
  clear HS10
  clear hb
  refine hK.out _ _ (keeps_of HS11.out.1) (fun hHeld => ?_)
  clear hK K
  refine norm_ (a' := ?_) ?_ ?_
  rotate_left
  · first
      | rfl
      | (simp only [Act.put, List.setIfInBounds_toArray, List.set_cons_zero, List.set_cons_succ]; rfl)
  refine take_ (i := 12) (N := some 73) (v := ?_) (a' := ?_) #[true, true, true, true, true, true, true, true, true, true, true, true, true, false, false, false, false, false, false, false, false, false, false, false, false, false, false, false, false, false, false, false, false, false, false, false, false, false, false] rfl rfl (by kernel_rfl) (fun _ _ _ h => h) (Or.inl ⟨by rfl, ?_⟩) hHeld ?_ ?_
  rotate_left
  · rintro w' hS'
    go_simp
    with_reducible rfl
  rotate_left
  · simp only [Act.put, List.setIfInBounds_toArray, List.set_cons_zero, List.set_cons_succ]
    rfl
  refine take_ (i := 13) (N := some 74) (v := ?_) (a' := ?_) #[true, true, true, true, true, true, true, true, true, true, true, true, true, true, false, false, false, false, false, false, false, false, false, false, false, false, false, false, false, false, false, false, false, false, false, false, false, false, false] rfl rfl (by kernel_rfl) (fun _ _ _ h => h) (Or.inl ⟨by rfl, ?_⟩) hHeld ?_ ?_
  rotate_left
  · rintro w' hS'
    go_simp
    with_reducible rfl
  rotate_left
  · simp only [Act.put, List.setIfInBounds_toArray, List.set_cons_zero, List.set_cons_succ]
    rfl
  refine take_ (i := 14) (N := some 75) (v := ?_) (a' := ?_) #[true, true, true, true, true, true, true, true, true, true, true, true, true, true, true, false, false, false, false, false, false, false, false, false, false, false, false, false, false, false, false, false, false, false, false, false, false, false, false] rfl rfl (by kernel_rfl) (fun _ _ _ h => h) (Or.inl ⟨by rfl, ?_⟩) hHeld ?_ ?_
  rotate_left
  · rintro w' hS'
    go_simp
    with_reducible rfl
  rotate_left
  · simp only [Act.put, List.setIfInBounds_toArray, List.set_cons_zero, List.set_cons_succ]
    rfl
  refine take_ (i := 15) (N := some 76) (v := ?_) (a' := ?_) #[true, true, true, true, true, true, true, true, true, true, true, true, true, true, true, true, false, false, false, false, false, false, false, false, false, false, false, false, false, false, false, false, false, false, false, false, false, false, false] rfl rfl (by kernel_rfl) (fun _ _ _ h => h) (Or.inl ⟨by rfl, ?_⟩) hHeld ?_ ?_
  rotate_left
  · rintro w' hS'
    go_simp
    with_reducible rfl
  rotate_left
  · simp only [Act.put, List.setIfInBounds_toArray, List.set_cons_zero, List.set_cons_succ]
    rfl
  refine take_ (i := 17) (N := some 78) (v := ?_) (a' := ?_) #[true, true, true, true, true, true, true, true, true, true, true, true, true, true, true, true, false, true, false, false, false, false, false, false, false, false, false, false, false, false, false, false, false, false, false, false, false, false, false] rfl rfl (by kernel_rfl) (fun _ _ _ h => h) (Or.inl ⟨by rfl, ?_⟩) hHeld ?_ ?_
  rotate_left
  · rintro w' hS'
    go_simp
    with_reducible rfl
  rotate_left
  · simp only [Act.put, List.setIfInBounds_toArray, List.set_cons_zero, List.set_cons_succ]
    rfl
  refine take_ (i := 18) (N := some 79) (v := ?_) (a' := ?_) #[true, true, true, true, true, true, true, true, true, true, true, true, true, true, true, true, false, true, true, false, false, false, false, false, false, false, false, false, false, false, false, false, false, false, false, false, false, false, false] rfl rfl (by kernel_rfl) (fun _ _ _ h => h) (Or.inl ⟨by rfl, ?_⟩) hHeld ?_ ?_
  rotate_left
  · rintro w' hS'
    go_simp
    with_reducible rfl
  rotate_left
  · simp only [Act.put, List.setIfInBounds_toArray, List.set_cons_zero, List.set_cons_succ]
    rfl
  refine take_ (i := 19) (N := some 80) (v := ?_) (a' := ?_) #[true, true, true, true, true, true, true, true, true, true, true, true, true, true, true, true, false, true, true, true, false, false, false, false, false, false, false, false, false, false, false, false, false, false, false, false, false, false, false] rfl rfl (by kernel_rfl) (fun _ _ _ h => h) (Or.inl ⟨by rfl, ?_⟩) hHeld ?_ ?_
  rotate_left
  · rintro w' hS'
    go_simp
    with_reducible rfl
  rotate_left
  · simp only [Act.put, List.setIfInBounds_toArray, List.set_cons_zero, List.set_cons_succ]
    rfl
  refine one_ (i := 16) (N := some 77) #[true, true, true, true, true, true, true, true, true, true, true, true, true, true, true, true, true, true, true, true, false, false, false, false, false, false, false, false, false, false, false, false, false, false, false, false, false, false, false] rfl rfl (by kernel_rfl) (by decide) (fun K hK => ?_)
  go_simp
  refine (Count_tele al _ y10 HS11.out.2.2.2.2.2.1.i.rd (by have := HP.out.2.1; have := HP.out.2.2.2.1; omega)).mono ?_
  rintro e y11 ⟨rfl, hb⟩
  have HS12 := Lib.hid (And.intro (HS11.out.1.trans (hb.mono HS11.out.1.size)) (And.intro (HS11.out.2.1.keeps (keeps_of hb)) (And.intro (HS11.out.2.2.1.keeps (keeps_of hb)) (And.intro (HS11.out.2.2.2.1.keeps (keeps_of hb)) (And.intro (HS11.out.2.2.2.2.1.below hb) (And.intro (HS11.out.2.2.2.2.2.1.keeps (keeps_of hb)) (And.intro (HS11.out.2.2.2.2.2.2.1.below hb) (HS11.out.2.2.2.2.2.2.2.below hb))))))))
  clear HS11
  clear hb
  refine hK.out _ _ (keeps_of HS12.out.1) (fun hHeld => ?_)
  clear hK K
  refine norm_ (a' := ?_) ?_ ?_
  rotate_left
  · first
      | rfl
      | (simp only [Act.put, List.setIfInBounds_toArray, List.set_cons_zero, List.set_cons_succ]; rfl)
  refine one_ (i := 20) (N := some 81) #[true, true, true, true, true, true, true, true, true, true, true, true, true, true, true, true, true, true, true, true, true, false, false, false, false, false, false, false, false, false, false, false, false, false, false, false, false, false, false] rfl rfl (by kernel_rfl) (by decide) (fun K hK => ?_)
  go_simp
  refine (Count_tele t _ y11 HS12.out.2.2.1.i.rd (by have := HP.out.2.1; have := HP.out.2.2.2.1; omega)).mono ?_
  rintro e y12 ⟨rfl, hb⟩
  have HS13 := Lib.hid (And.intro (HS12.out.1.trans (hb.mono HS12.out.1.size)) (And.intro (HS12.out.2.1.keeps (keeps_of hb)) (And.intro (HS12.out.2.2.1.keeps (keeps_of hb)) (And.intro (HS12.out.2.2.2.1.keeps (keeps_of hb)) (And.intro (HS12.out.2.2.2.2.1.below hb) (And.intro (HS12.out.2.2.2.2.2.1.keeps (keeps_of hb)) (And.intro (HS12.out.2.2.2.2.2.2.1.below hb) (HS12.out.2.2.2.2.2.2.2.below hb))))))))
  clear HS12
  clear hb
  refine hK.out _ _ (keeps_of HS13.out.1) (fun hHeld => ?_)
  clear hK K
  refine norm_ (a' := ?_) ?_ ?_
  rotate_left
  · first
      | rfl
      | (simp only [Act.put, List.setIfInBounds_toArray, List.set_cons_zero, List.set_cons_succ]; rfl)
  refine take_ (i := 21) (N := some 82) (v := ?_) (a' := ?_) #[true, true, true, true, true, true, true, true, true, true, true, true, true, true, true, true, true, true, true, true, true, true, false, false, false, false, false, false, false, false, false, false, false, false, false, false, false, false, false] rfl rfl (by kernel_rfl) (fun _ _ _ h => h) (Or.inl ⟨by rfl, ?_⟩) hHeld ?_ ?_
  rotate_left
  · rintro w' hS'
    go_simp
    with_reducible rfl
  rotate_left
  · simp only [Act.put, List.setIfInBounds_toArray, List.set_cons_zero, List.set_cons_succ]
    rfl
  refine take_ (i := 22) (N := some 83) (v := ?_) (a' := ?_) #[true, true, true, true, true, true, true, true, true, true, true, true, true, true, true, true, true, true, true, true, true, true, true, false, false, false, false, false, false, false, false, false, false, false, false, false, false, false, false] rfl rfl (by kernel_rfl) (fun _ _ _ h => h) (Or.inl ⟨by rfl, ?_⟩) hHeld ?_ ?_
  rotate_left
  · rintro w' hS'
    go_simp
    with_reducible rfl
  rotate_left
  · simp only [Act.put, List.setIfInBounds_toArray, List.set_cons_zero, List.set_cons_succ]
    rfl
  refine take_ (i := 23) (N := some 84) (v := ?_) (a' := ?_) #[true, true, true, true, true, true, true, true, true, true, true, true, true, true, true, true, true, true, true, true, true, true, true, true, false, false, false, false, false, false, false, false, false, false, false, false, false, false, false] rfl rfl (by kernel_rfl) (fun _ _ _ h => h) (Or.inl ⟨by rfl, ?_⟩) hHeld ?_ ?_
  rotate_left
  · rintro w' hS'
    go_simp
    with_reducible rfl
  rotate_left
  · simp only [Act.put, List.setIfInBounds_toArray, List.set_cons_zero, List.set_cons_succ]
    rfl
  refine take_ (i := 24) (N := some 85) (v := ?_) (a' := ?_) #[true, true, true, true, true, true, true, true, true, true, true, true, true, true, true, true, true, true, true, true, true, true, true, true, true, false, false, false, false, false, false, false, false, false, false, false, false, false, false] rfl rfl (by kernel_rfl) (fun _ _ _ h => h) (Or.inl ⟨by rfl, ?_⟩) hHeld ?_ ?_
  rotate_left
  · rintro w' hS'
    go_simp
    with_reducible rfl
  rotate_left
  · simp only [Act.put, List.setIfInBounds_toArray, List.set_cons_zero, List.set_cons_succ]
    rfl
  refine take_ (i := 25) (N := some 86) (v := ?_) (a' := ?_) #[true, true, true, true, true, true, true, true, true, true, true, true, true, true, true, true, true, true, true, true, true, true, true, true, true, true, false, false, false, false, false, false, false, false, false, false, false, false, false] rfl rfl (by kernel_rfl) (fun _ _ _ h => h) (Or.inl ⟨by rfl, ?_⟩) hHeld ?_ ?_
  rotate_left
  · rintro w' hS'
    go_simp
    with_reducible rfl
  rotate_left
  · simp only [Act.put, List.setIfInBounds_toArray, List.set_cons_zero, List.set_cons_succ]
    rfl
  refine take_ (i := 27) (N := some 88) (v := ?_) (a' := ?_) #[true, true, true, true, true, true, true, true, true, true, true, true, true, true, true, true, true, true, true, true, true, true, true, true, true, true, false, true, false, false, false, false, false, false, false, false, false, false, false] rfl rfl (by kernel_rfl) (fun _ _ _ h => h) (Or.inl ⟨by rfl, ?_⟩) hHeld ?_ ?_
  rotate_left
  · rintro w' hS'
    go_simp
    with_reducible rfl
  rotate_left
  · simp only [Act.put, List.setIfInBounds_toArray, List.set_cons_zero, List.set_cons_succ]
    rfl
  refine take_ (i := 29) (N := some 90) (v := ?_) (a' := ?_) #[true, true, true, true, true, true, true, true, true, true, true, true, true, true, true, true, true, true, true, true, true, true, true, true, true, true, false, true, false, true, false, false, false, false, false, false, false, false, false] rfl rfl (by kernel_rfl) (fun _ _ _ h => h) (Or.inl ⟨by rfl, ?_⟩) hHeld ?_ ?_
  rotate_left
  · rintro w' hS'
    go_simp
    with_reducible rfl
  rotate_left
  · simp only [Act.put, List.setIfInBounds_toArray, List.set_cons_zero, List.set_cons_succ]
    rfl
  refine take_ (i := 30) (N := some 91) (v := ?_) (a' := ?_) #[true, true, true, true, true, true, true, true, true, true, true, true, true, true, true, true, true, true, true, true, true, true, true, true, true, true, false, true, false, true, true, false, false, false, false, false, false, false, false] rfl rfl (by kernel_rfl) (fun _ _ _ h => h) (Or.inl ⟨by rfl, ?_⟩) hHeld ?_ ?_
  rotate_left
  · rintro w' hS'
    go_simp
    with_reducible rfl
  rotate_left
  · simp only [Act.put, List.setIfInBounds_toArray, List.set_cons_zero, List.set_cons_succ]
    rfl
  refine take_ (i := 34) (N := some 95) (v := ?_) (a' := ?_) #[true, true, true, true, true, true, true, true, true, true, true, true, true, true, true, true, true, true, true, true, true, true, true, true, true, true, false, true, false, true, true, false, false, false, true, false, false, false, false] rfl rfl (by kernel_rfl) (fun _ _ _ h => h) (Or.inl ⟨by rfl, ?_⟩) hHeld ?_ ?_
  rotate_left
  · rintro w' hS'
    go_simp
    with_reducible rfl
  rotate_left
  · simp only [Act.put, List.setIfInBounds_toArray, List.set_cons_zero, List.set_cons_succ]
    rfl
  refine take_ (i := 35) (N := some 96) (v := ?_) (a' := ?_) #[true, true, true, true, true, true, true, true, true, true, true, true, true, true, true, true, true, true, true, true, true, true, true, true, true, true, false, true, false, true, true, false, false, false, true, true, false, false, false] rfl rfl (by kernel_rfl) (fun _ _ _ h => h) (Or.inl ⟨by rfl, ?_⟩) hHeld ?_ ?_
  rotate_left
  · rintro w' hS'
    go_simp
    with_reducible rfl
  rotate_left
  · simp only [Act.put, List.setIfInBounds_toArray, List.set_cons_zero, List.set_cons_succ]
    rfl
  refine one_ (i := 26) (N := some 87) #[true, true, true, true, true, true, true, true, true, true, true, true, true, true, true, true, true, true, true, true, true, true, true, true, true, true, true, true, false, true, true, false, false, false, true, true, false, false, false] rfl rfl (by kernel_rfl) (by decide) (fun K hK => ?_)
  go_simp
  refine (Size_any al _ y12 HS13.out.2.2.2.2.2.1.i.rd (by have := HP.out.2.1; have := HP.out.2.2.2.1; omega)).mono ?_
  rintro e y13 ⟨rfl, hb⟩
  have HS14 := Lib.hid (And.intro (HS13.out.1.trans (hb.mono HS13.out.1.size)) (And.intro (HS13.out.2.1.keeps (keeps_of hb)) (And.intro (HS13.out.2.2.1.keeps (keeps_of hb)) (And.intro (HS13.out.2.2.2.1.keeps (keeps_of hb)) (And.intro (HS13.out.2.2.2.2.1.below hb) (And.intro (HS13.out.2.2.2.2.2.1.keeps (keeps_of hb)) (And.intro (HS13.out.2.2.2.2.2.2.1.below hb) (HS13.out.2.2.2.2.2.2.2.below hb))))))))
  clear HS13
  clear hb
  refine hK.out _ _ (keeps_of HS14.out.1) (fun hHeld => ?_)
  clear hK K
  refine norm_ (a' := ?_) ?_ ?_
  rotate_left
  · first
      | rfl
      | (simp only [Act.put, List.setIfInBounds_toArray, List.set_cons_zero, List.set_cons_succ]; rfl)
  refine one_ (i := 28) (N := some 89) #[true, true, true, true, true, true, true, true, true, true, true, true, true, true, true, true, true, true, true, true, true, true, true, true, true, true, true, true, true, true, true, false, false, false, true, true, false, false, false] rfl rfl (by kernel_rfl) (by decide) (fun K hK => ?_)
  go_simp
  refine (Size_any t _ y13 HS14.out.2.2.1.i.rd (by have := HP.out.2.1; have := HP.out.2.2.2.1; omega)).mono ?_
  rintro e y14 ⟨rfl, hb⟩
  have HS15 := Lib.hid (And.intro (HS14.out.1.trans (hb.mono HS14.out.1.size)) (And.intro (HS14.out.2.1.keeps (keeps_of hb)) (And.intro (HS14.out.2.2.1.keeps (keeps_of hb)) (And.intro (HS14.out.2.2.2.1.keeps (keeps_of hb)) (And.intro (HS14.out.2.2.2.2.1.below hb) (And.intro (HS14.out.2.2.2.2.2.1.keeps (keeps_of hb)) (And.intro (HS14.out.2.2.2.2.2.2.1.below hb) (HS14.out.2.2.2.2.2.2.2.below hb))))))))
  clear HS14
  clear hb
  refine hK.out _ _ (keeps_of HS15.out.1) (fun hHeld => ?_)
  clear hK K
  refine norm_ (a' := ?_) ?_ ?_
  rotate_left
  · first
      | rfl
      | (simp only [Act.put, List.setIfInBounds_toArray, List.set_cons_zero, List.set_cons_succ]; rfl)
  refine one_ (i := 31) (N := some 92) #[true, true, true, true, true, true, true, true, true, true, true, true, true, true, true, true, true, true, true, true, true, true, true, true, true, true, true, true, true, true, true, true, false, false, true, true, false, false, false] rfl rfl (by kernel_rfl) (by decide) (fun K hK => ?_)
  go_simp
  refine (Size_any (.mk 0 0 0 [] row) [.int .i64 0, .int .i64 0, .int .i64 0, .slice none 0 0, .slice Ar row.length cr] y14 ((RdT_mk ..).2 ⟨_, _, rfl, rdLvs_nil _, HS15.out.2.1.i.rd⟩) (by rw [Tm.nodes]; have := HP.out.2.1; omega)).mono ?_
  rintro e y15 ⟨rfl, hb⟩
  rw [HKK.out]
  have HS16 := Lib.hid (And.intro (HS15.out.1.trans (hb.mono HS15.out.1.size)) (And.intro (HS15.out.2.1.keeps (keeps_of hb)) (And.intro (HS15.out.2.2.1.keeps (keeps_of hb)) (And.intro (HS15.out.2.2.2.1.keeps (keeps_of hb)) (And.intro (HS15.out.2.2.2.2.1.below hb) (And.intro (HS15.out.2.2.2.2.2.1.keeps (keeps_of hb)) (And.intro (HS15.out.2.2.2.2.2.2.1.below hb) (HS15.out.2.2.2.2.2.2.2.below hb))))))))
  clear HS15
  clear hb
  refine hK.out _ _ (keeps_of HS16.out.1) (fun hHeld => ?_)
  clear hK K
  refine norm_ (a' := ?_) ?_ ?_
  rotate_left
  · first
      | rfl
      | (simp only [Act.put, List.setIfInBounds_toArray, List.set_cons_zero, List.set_cons_succ]; rfl)
  refine take_ (i := 32) (N := some 93) (v := ?_) (a' := ?_) #[true, true, true, true, true, true, true, true, true, true, true, true, true, true, true, true, true, true, true, true, true, true, true, true, true, true, true, true, true, true, true, true, true, false, true, true, false, false, false] rfl rfl (by kernel_rfl) (fun _ _ _ h => h) (Or.inl ⟨by rfl, ?_⟩) hHeld ?_ ?_
  rotate_left
  · rintro w' hS'
    go_simp
    with_reducible rfl
  rotate_left
  · simp only [Act.put, List.setIfInBounds_toArray, List.set_cons_zero, List.set_cons_succ]
    rfl
  refine take_ (i := 33) (N := some 94) (v := ?_) (a' := ?_) #[true, true, true, true, true, true, true, true, true, true, true, true, true, true, true, true, true, true, true, true, true, true, true, true, true, true, true, true, true, true, true, true, true, true, true, true, false, false, false] rfl rfl (by kernel_rfl) (fun _ _ _ h => h) (Or.inl ⟨by rfl, ?_⟩) hHeld ?_ ?_
  rotate_left
  · rintro w' hS'
    go_simp
    with_reducible rfl
  rotate_left
  · simp only [Act.put, List.setIfInBounds_toArray, List.set_cons_zero, List.set_cons_succ]
    rfl
  refine take_ (i := 36) (N := some 97) (v := ?_) (a' := ?_) #[true, true, true, true, true, true, true, true, true, true, true, true, true, true, true, true, true, true, true, true, true, true, true, true, true, true, true, true, true, true, true, true, true, true, true, true, true, false, false] rfl rfl (by kernel_rfl) (fun _ _ _ h => h) (Or.inl ⟨by rfl, ?_⟩) hHeld ?_ ?_
  rotate_left
  · rintro w' hS'
    go_simp
    with_reducible rfl
  rotate_left
  · simp only [Act.put, List.setIfInBounds_toArray, List.set_cons_zero, List.set_cons_succ]
    rfl
  refine take_ (i := 37) (N := some 98) (v := ?_) (a' := ?_) #[true, true, true, true, true, true, true, true, true, true, true, true, true, true, true, true, true, true, true, true, true, true, true, true, true, true, true, true, true, true, true, true, true, true, true, true, true, true, false] rfl rfl (by kernel_rfl) (fun _ _ _ h => h) (Or.inl ⟨by rfl, ?_⟩) hHeld ?_ ?_
  rotate_left
  · rintro w' hS'
    go_simp
    with_reducible rfl
  rotate_left
  · simp only [Act.put, List.setIfInBounds_toArray, List.set_cons_zero, List.set_cons_succ]
    rfl
  refine take_ (i := 38) (N := some 99) (v := ?_) (a' := ?_) #[true, true, true, true, true, true, true, true, true, true, true, true, true, true, true, true, true, true, true, true, true, true, true, true, true, true, true, true, true, true, true, true, true, true, true, true, true, true, true] rfl rfl (by kernel_rfl) (fun _ _ _ h => h) (Or.inl ⟨by rfl, ?_⟩) hHeld ?_ ?_
  rotate_left
  · rintro w' hS'
    go_simp
    with_reducible rfl
  rotate_left
  · simp only [Act.put, List.setIfInBounds_toArray, List.set_cons_zero, List.set_cons_succ]
    rfl
  refine done_ (by kernel_rfl) ?_
  have HS17 := Lib.hid (And.intro (HW.out.trans (HS16.out.1.mono HW.out.size)) (And.intro HS16.out.2.1 (And.intro HS16.out.2.2.1 (And.intro HS16.out.2.2.2.1 (And.intro HS16.out.2.2.2.2.1 (And.intro HS16.out.2.2.2.2.2.1 (And.intro HS16.out.2.2.2.2.2.2.1 HS16.out.2.2.2.2.2.2.2)))))))
  clear HS16 HW
  clear g_b5 n_b5 g_b9 n_b9 g_b11 n_b11
  clear hw1 hw2 hw3 hw4 hv1 hv2 hv3 hv4 HKK
  have HS18 := Lib.hid (And.intro HS17.out.1 (And.intro HS17.out.2.1 (And.intro HS17.out.2.2.1 (And.intro HS17.out.2.2.2.1 (And.intro HS17.out.2.2.2.2.1 (And.intro HS17.out.2.2.2.2.2.1 HS17.out.2.2.2.2.2.2.1))))))
  clear HS17
  have g_b5 := (HS18.out.2.2.2.2.1).cell
  have n_b5 := (HS18.out.2.2.2.2.1).lt
  have g_b9 := (HS18.out.2.2.2.2.2.2).cell
  have n_b9 := (HS18.out.2.2.2.2.2.2).lt
  go_wp2_with fail
  clear g_b5 n_b5 g_b9 n_b9
  obtain ⟨hd, hhd⟩ : ∃ x, (spineT t).1 = x := ⟨_, rfl⟩
  obtain ⟨l, hl⟩ : ∃ x, (spineT t).2 = x := ⟨_, rfl⟩
  have hso := spine_okt t HS18.out.2.2.1.i.ok
  have hsf := spine_fits t HS18.out.2.2.1.f
  have hsl := spine_len t
  have hsn := spine_nodes t
  have has := apps_spine t
  have hsa := spineT_apps row t
  rw [hhd, hl] at hso hsf hsn has hsa
  rw [hl] at hsl
  have hc := Spine4 (HK.out.below HS18.out.1) HS18.out.2.2.1 (by have := HP.out.2.1; omega)
  unfold GivesS at hc
  rw [hhd, hl] at hc
  have HQ := Lib.hid (And.intro hso (And.intro hsf (And.intro hsl (And.intro hsn (And.intro has hsa)))))
  clear hhd hl hso hsf hsl hsn has hsa
  refine (hc).mono ?_
  rintro e y16 ⟨A14, c14, A13_1, l13_1, c13_1, A13_2, l13_2, c13_2, rfl, hRs, hR, hb⟩
  have HS19 := Lib.hid (And.intro (HS18.out.1.trans (hb.mono HS18.out.1.size)) (And.intro (HS18.out.2.1.keeps (keeps_of hb)) (And.intro (HS18.out.2.2.1.keeps (keeps_of hb)) (And.intro (HS18.out.2.2.2.1.keeps (keeps_of hb)) (And.intro (HS18.out.2.2.2.2.1.below hb) (And.intro (HS18.out.2.2.2.2.2.1.keeps (keeps_of hb)) (And.intro (HS18.out.2.2.2.2.2.2.below hb) (And.intro (show Fis y16 _ l from ⟨⟨hRs, by have := HQ.out.2.2.1; have := HP.out.2.1; omega, fun x hx => ⟨(HQ.out.1.2 x hx).1, by have := (HQ.out.1.2 x hx).2; have := HP.out.2.1; omega⟩⟩, HQ.out.2.1.2⟩) (show Fi y16 hd _ from ⟨⟨hR, HQ.out.1.1.1, by have := HQ.out.1.1.2; have := HP.out.2.1; omega⟩, HQ.out.2.1.1⟩)))))))))
  clear HS18
  clear hb
  clear hc hRs hR
  have HZ := Lib.hid (blks1 y16 #[.int .i64 hd.kind, .int .i64 hd.num, .int .i64 hd.place, .slice A13_1 l13_1 c13_1, .slice A13_2 l13_2 c13_2] 30)
  have g_b5 := (HS19.out.2.2.2.2.1).cell
  have n_b5 := (HS19.out.2.2.2.2.1).lt
  have g_b9 := (HS19.out.2.2.2.2.2.2.1).cell
  have n_b9 := (HS19.out.2.2.2.2.2.2.1).lt
  go_wp2_with fail
  clear g_b5 n_b5 g_b9 n_b9
  obtain ⟨kz, hb, -⟩ := HZ.out
  generalize y16.alloc _ = y17 at kz hb ⊢
  have HS20 := Lib.hid (And.intro (HS19.out.1.trans (hb.mono HS19.out.1.size)) (And.intro (HS19.out.2.1.keeps (keeps_of hb)) (And.intro (HS19.out.2.2.1.keeps (keeps_of hb)) (And.intro (HS19.out.2.2.2.1.keeps (keeps_of hb)) (And.intro (HS19.out.2.2.2.2.1.below hb) (And.intro (HS19.out.2.2.2.2.2.1.keeps (keeps_of hb)) (And.intro (HS19.out.2.2.2.2.2.2.1.below hb) (And.intro (HS19.out.2.2.2.2.2.2.2.1.keeps (keeps_of hb)) (And.intro (HS19.out.2.2.2.2.2.2.2.2.keeps (keeps_of hb)) (kz))))))))))
  clear HS19
  clear kz hb HZ
  obtain ⟨ap, hap⟩ : ∃ x, appsT t row = x := ⟨_, rfl⟩
  obtain ⟨mm, hmm⟩ : ∃ x, l ++ row = x := ⟨_, rfl⟩
  have hc := Apps4 (HK.out.below HS20.out.1) HS20.out.2.2.1 HS20.out.2.1
  rw [hap] at hc
  have hao : Okt ap := by rw [← hap]; exact apps_okt row t HS20.out.2.2.1.i.ok (fun x hx => (HS20.out.2.1.i.ok x hx).1)
  have haf : AllN Fits ap := by rw [← hap]; exact apps_fits row t HS20.out.2.2.1.f HS20.out.2.1.f
  have han : ap.nodes = t.nodes + Tm.nodesL row + row.length := by rw [← hap]; exact apps_nodes row t
  have hsa := HQ.out.2.2.2.2.2
  rw [hap, hmm] at hsa
  have hml : mm.length = l.length + row.length := by rw [← hmm, List.length_append]
  have hmt : mm.take l.length = l := by rw [← hmm, List.take_left' rfl]
  have hmd : mm.drop l.length = row := by rw [← hmm, List.drop_left' rfl]
  have HR := Lib.hid (And.intro hao (And.intro haf (And.intro han (And.intro hsa (And.intro hml (And.intro hmt hmd))))))
  clear hap hmm hao haf han hsa hml hmt hmd
  refine (hc).mono ?_
  rintro e y18 ⟨A20_1, l20_1, c20_1, A20_2, l20_2, c20_2, rfl, hR, hb⟩
  have HS21 := Lib.hid (And.intro (HS20.out.1.trans (hb.mono HS20.out.1.size)) (And.intro (HS20.out.2.1.keeps (keeps_of hb)) (And.intro (HS20.out.2.2.1.keeps (keeps_of hb)) (And.intro (HS20.out.2.2.2.1.keeps (keeps_of hb)) (And.intro (HS20.out.2.2.2.2.1.below hb) (And.intro (HS20.out.2.2.2.2.2.1.keeps (keeps_of hb)) (And.intro (HS20.out.2.2.2.2.2.2.1.below hb) (And.intro (HS20.out.2.2.2.2.2.2.2.1.keeps (keeps_of hb)) (And.intro (HS20.out.2.2.2.2.2.2.2.2.1.keeps (keeps_of hb)) (And.intro (HS20.out.2.2.2.2.2.2.2.2.2.below hb) (show Fi y18 ap _ from ⟨⟨hR, HR.out.1, by have := HR.out.2.2.1; have := HP.out.2.1; omega⟩, HR.out.2.1⟩)))))))))))
  clear HS20
  clear hb
  clear hc hR
  have g_b5 := (HS21.out.2.2.2.2.1).cell
  have n_b5 := (HS21.out.2.2.2.2.1).lt
  have g_b9 := (HS21.out.2.2.2.2.2.2.1).cell
  have n_b9 := (HS21.out.2.2.2.2.2.2.1).lt
  have g_b13 := (HS21.out.2.2.2.2.2.2.2.2.2.1).cell
  have n_b13 := (HS21.out.2.2.2.2.2.2.2.2.2.1).lt
  go_wp2_with fail
  clear g_b5 n_b5 g_b9 n_b9 g_b13 n_b13
  have hc := Spine4 (HK.out.below HS21.out.1) HS21.out.2.2.2.2.2.2.2.2.2.2 (by have := HR.out.2.2.1; have := HP.out.2.1; omega)
  unfold GivesS at hc
  rw [HR.out.2.2.2.1] at hc
  dsimp only at hc
  refine (hc).mono ?_
  rintro e y19 ⟨A16, c16, A15_1, l15_1, c15_1, A15_2, l15_2, c15_2, rfl, hRs, hR, hb⟩
  have HS22 := Lib.hid (And.intro (HS21.out.1.trans (hb.mono HS21.out.1.size)) (And.intro (HS21.out.2.1.keeps (keeps_of hb)) (And.intro (HS21.out.2.2.1.keeps (keeps_of hb)) (And.intro (HS21.out.2.2.2.1.keeps (keeps_of hb)) (And.intro (HS21.out.2.2.2.2.1.below hb) (And.intro (HS21.out.2.2.2.2.2.1.keeps (keeps_of hb)) (And.intro (HS21.out.2.2.2.2.2.2.1.below hb) (And.intro (HS21.out.2.2.2.2.2.2.2.1.keeps (keeps_of hb)) (And.intro (HS21.out.2.2.2.2.2.2.2.2.1.keeps (keeps_of hb)) (And.intro (HS21.out.2.2.2.2.2.2.2.2.2.1.below hb) (And.intro (hRs) (hR))))))))))))
  clear HS21
  clear hb
  clear hc hRs hR
  have HZ := Lib.hid (blks1 y19 #[.int .i64 hd.kind, .int .i64 hd.num, .int .i64 hd.place, .slice A15_1 l15_1 c15_1, .slice A15_2 l15_2 c15_2] 30)
  have g_b5 := (HS22.out.2.2.2.2.1).cell
  have n_b5 := (HS22.out.2.2.2.2.1).lt
  have g_b9 := (HS22.out.2.2.2.2.2.2.1).cell
  have n_b9 := (HS22.out.2.2.2.2.2.2.1).lt
  have g_b13 := (HS22.out.2.2.2.2.2.2.2.2.2.1).cell
  have n_b13 := (HS22.out.2.2.2.2.2.2.2.2.2.1).lt
  go_wp2_with fail
  clear g_b5 n_b5 g_b9 n_b9 g_b13 n_b13
  obtain ⟨kz, hb, -⟩ := HZ.out
  generalize y19.alloc _ = y20 at kz hb ⊢
  have HS23 := Lib.hid (And.intro (HS22.out.1.trans (hb.mono HS22.out.1.size)) (And.intro (HS22.out.2.1.keeps (keeps_of hb)) (And.intro (HS22.out.2.2.1.keeps (keeps_of hb)) (And.intro (HS22.out.2.2.2.1.keeps (keeps_of hb)) (And.intro (HS22.out.2.2.2.2.1.below hb) (And.intro (HS22.out.2.2.2.2.2.1.keeps (keeps_of hb)) (And.intro (HS22.out.2.2.2.2.2.2.1.below hb) (And.intro (HS22.out.2.2.2.2.2.2.2.1.keeps (keeps_of hb)) (And.intro (HS22.out.2.2.2.2.2.2.2.2.1.keeps (keeps_of hb)) (And.intro (HS22.out.2.2.2.2.2.2.2.2.2.1.below hb) (And.intro (HS22.out.2.2.2.2.2.2.2.2.2.2.1.below (keeps_of hb)) (And.intro (RdT.below (keeps_of hb) _ _ HS22.out.2.2.2.2.2.2.2.2.2.2.2) (kz)))))))))))))
  clear HS22
  clear kz hb HZ
  have hmc : (mm.length : Int) ≤ (c16 : Int) := by
    obtain ⟨_, _, he, h1, _⟩ := HS23.out.2.2.2.2.2.2.2.2.2.2.1
    simp at he
    omega
  have hlm : (l.length : Int) ≤ (mm.length : Int) := by have := HR.out.2.2.2.2.1; omega
  have hlc : (l.length : Int) ≤ (c16 : Int) := by omega
  have hl0 : (0 : Int) ≤ (l.length : Int) := Int.natCast_nonneg _
  have hml2 : (mm.length : Int) = (l.length : Int) + (row.length : Int) := by have := HR.out.2.2.2.2.1; omega
  have hw1 : wrap64 ((l.length : Int) + (row.length : Int)) = (mm.length : Int) := by have := HP.out.2.1; have := HQ.out.2.2.1; unfold wrap64; omega
  have hv1 : IntKind.i64.wrap ((l.length : Int) + (row.length : Int)) = (mm.length : Int) := (i64w _).trans hw1
  have HM := Lib.hid hml2
  clear hml2
  obtain ⟨Ad, cd, hsl, hcd, hAd⟩ := slice_from A16 mm.length c16 l.length (by omega) (by omega)
  have HD := Lib.hid (And.intro hcd hAd)
  clear hcd hAd
  have HW := Lib.hid HS23.out.1
  have g_b5 := (HS23.out.2.2.2.2.1).cell
  have n_b5 := (HS23.out.2.2.2.2.1).lt
  have g_b9 := (HS23.out.2.2.2.2.2.2.1).cell
  have n_b9 := (HS23.out.2.2.2.2.2.2.1).lt
  have g_b13 := (HS23.out.2.2.2.2.2.2.2.2.2.1).cell
  have n_b13 := (HS23.out.2.2.2.2.2.2.2.2.2.1).lt
  have g_b15 := (HS23.out.2.2.2.2.2.2.2.2.2.2.2.2).cell
  have n_b15 := (HS23.out.2.2.2.2.2.2.2.2.2.2.2.2).lt
  have HS24 := Lib.hid (And.intro (Below.refl y20.heap.size y20).drew (And.intro (HS23.out.2.1.keeps (keeps_of (Below.refl y20.heap.size y20).drew)) (And.intro (HS23.out.2.2.1.keeps (keeps_of (Below.refl y20.heap.size y20).drew)) (And.intro (HS23.out.2.2.2.1.keeps (keeps_of (Below.refl y20.heap.size y20).drew)) (And.intro (HS23.out.2.2.2.2.1.below (Below.refl y20.heap.size y20).drew) (And.intro (HS23.out.2.2.2.2.2.1.keeps (keeps_of (Below.refl y20.heap.size y20).drew)) (And.intro (HS23.out.2.2.2.2.2.2.1.below (Below.refl y20.heap.size y20).drew) (And.intro (HS23.out.2.2.2.2.2.2.2.1.keeps (keeps_of (Below.refl y20.heap.size y20).drew)) (And.intro (HS23.out.2.2.2.2.2.2.2.2.1.keeps (keeps_of (Below.refl y20.heap.size y20).drew)) (And.intro (HS23.out.2.2.2.2.2.2.2.2.2.1.below (Below.refl y20.heap.size y20).drew) (And.intro (HS23.out.2.2.2.2.2.2.2.2.2.2.1.below (keeps_of (Below.refl y20.heap.size y20).drew)) (And.intro (RdT.below (keeps_of (Below.refl y20.heap.size y20).drew) _ _ HS23.out.2.2.2.2.2.2.2.2.2.2.2.1) (HS23.out.2.2.2.2.2.2.2.2.2.2.2.2.below (Below.refl y20.heap.size y20).drew)))))))))))))
  clear HS23
  refine start_ (n := 44) (S := fun W' => ∀ b o, b < y20.heap.size → W'.cell? ⟨b, o, none⟩ = y20.cell? ⟨b, o, none⟩) (ds := []) #[false, false, false, false, false, false, false, false, false, false, false, false, false, false, false, false, false, false, false, false, false, false, false, false, false, false, false, false, false, false, false, false, false, false, false, false, false, false, false, false, false, false, false, false] (by kernel_rfl) rfl rfl (by exact (fun _ _ _ => rfl)) (fun hHeld => ?_)
  refine take_ (i := 0) (N := some 112) (v := ?_) (a' := ?_) #[true, false, false, false, false, false, false, false, false, false, false, false, false, false, false, false, false, false, false, false, false, false, false, false, false, false, false, false, false, false, false, false, false, false, false, false, false, false, false, false, false, false, false, false] rfl rfl (by kernel_rfl) (fun _ _ _ h => h) (Or.inl ⟨by rfl, ?_⟩) hHeld ?_ ?_
  rotate_left
  · rintro w' hS'
    go_simp
    with_reducible rfl
  rotate_left
  · simp only [Act.put, List.setIfInBounds_toArray, List.set_cons_zero, List.set_cons_succ]
    rfl
  refine take_ (i := 1) (N := some 113) (v := ?_) (a' := ?_) #[true, true, false, false, false, false, false, false, false, false, false, false, false, false, false, false, false, false, false, false, false, false, false, false, false, false, false, false, false, false, false, false, false, false, false, false, false, false, false, false, false, false, false, false] rfl rfl (by kernel_rfl) (fun _ _ _ h => h) (Or.inl ⟨by rfl, ?_⟩) hHeld ?_ ?_
  rotate_left
  · rintro w' hS'
    go_simp
    with_reducible rfl
  rotate_left
  · simp only [Act.put, List.setIfInBounds_toArray, List.set_cons_zero, List.set_cons_succ]
    rfl
  refine one_ (i := 2) (N := some 114) #[true, true, true, false, false, false, false, false, false, false, false, false, false, false, false, false, false, false, false, false, false, false, false, false, false, false, false, false, false, false, false, false, false, false, false, false, false, false, false, false, false, false, false, false] rfl rfl (by kernel_rfl) (by decide) (fun K hK => ?_)
  go_simp
  refine (same4_any hd hd _ _ y20.drew HS24.out.2.2.2.2.2.2.2.2.1.i.rd HS24.out.2.2.2.2.2.2.2.2.2.2.2.1).mono ?_
  rintro e y21 ⟨rfl, hb⟩
  rw [eqb_refl]
  have HS25 := Lib.hid (And.intro (HS24.out.1.trans (hb.mono HS24.out.1.size)) (And.intro (HS24.out.2.1.keeps (keeps_of hb)) (And.intro (HS24.out.2.2.1.keeps (keeps_of hb)) (And.intro (HS24.out.2.2.2.1.keeps (keeps_of hb)) (And.intro (HS24.out.2.2.2.2.1.below hb) (And.intro (HS24.out.2.2.2.2.2.1.keeps (keeps_of hb)) (And.intro (HS24.out.2.2.2.2.2.2.1.below hb) (And.intro (HS24.out.2.2.2.2.2.2.2.1.keeps (keeps_of hb)) (And.intro (HS24.out.2.2.2.2.2.2.2.2.1.keeps (keeps_of hb)) (And.intro (HS24.out.2.2.2.2.2.2.2.2.2.1.below hb) (And.intro (HS24.out.2.2.2.2.2.2.2.2.2.2.1.below (keeps_of hb)) (HS24.out.2.2.2.2.2.2.2.2.2.2.2.2.below hb))))))))))))
  clear HS24
  clear hb
  refine hK.out _ _ (keeps_of HS25.out.1) (fun hHeld => ?_)
  clear hK K
  refine norm_ (a' := ?_) ?_ ?_
  rotate_left
  · first
      | rfl
      | (simp only [Act.put, List.setIfInBounds_toArray, List.set_cons_zero, List.set_cons_succ]; rfl)
  refine take_ (i := 3) (N := some 115) (v := ?_) (a' := ?_) #[true, true, true, true, false, false, false, false, false, false, false, false, false, false, false, false, false, false, false, false, false, false, false, false, false, false, false, false, false, false, false, false, false, false, false, false, false, false, false, false, false, false, false, false] rfl rfl (by kernel_rfl) (fun _ _ _ h => h) (Or.inl ⟨by rfl, ?_⟩) hHeld ?_ ?_
  rotate_left
  · rintro w' hS'
    go_simp
    with_reducible rfl
  rotate_left
  · simp only [Act.put, List.setIfInBounds_toArray, List.set_cons_zero, List.set_cons_succ]
    rfl
  refine take_ (i := 4) (N := some 116) (v := ?_) (a' := ?_) #[true, true, true, true, true, false, false, false, false, false, false, false, false, false, false, false, false, false, false, false, false, false, false, false, false, false, false, false, false, false, false, false, false, false, false, false, false, false, false, false, false, false, false, false] rfl rfl (by kernel_rfl) (fun _ _ _ h => h) (Or.inl ⟨by rfl, ?_⟩) hHeld ?_ ?_
  rotate_left
  · rintro w' hS'
    go_simp
    with_reducible rfl
  rotate_left
  · simp only [Act.put, List.setIfInBounds_toArray, List.set_cons_zero, List.set_cons_succ]
    rfl
  refine take_ (i := 5) (N := some 117) (v := ?_) (a' := ?_) #[true, true, true, true, true, true, false, false, false, false, false, false, false, false, false, false, false, false, false, false, false, false, false, false, false, false, false, false, false, false, false, false, false, false, false, false, false, false, false, false, false, false, false, false] rfl rfl (by kernel_rfl) (fun _ _ _ h => h) (Or.inl ⟨by rfl, ?_⟩) hHeld ?_ ?_
  rotate_left
  · rintro w' hS'
    go_simp
    with_reducible rfl
  rotate_left
  · simp only [Act.put, List.setIfInBounds_toArray, List.set_cons_zero, List.set_cons_succ]
    rfl
  refine take_ (i := 6) (N := some 118) (v := ?_) (a' := ?_) #[true, true, true, true, true, true, true, false, false, false, false, false, false, false, false, false, false, false, false, false, false, false, false, false, false, false, false, false, false, false, false, false, false, false, false, false, false, false, false, false, false, false, false, false] rfl rfl (by kernel_rfl) (fun _ _ _ h => h) (Or.inl ⟨by rfl, ?_⟩) hHeld ?_ ?_
  rotate_left
  · rintro w' hS'
    go_simp
    with_reducible rfl
  rotate_left
  · simp only [Act.put, List.setIfInBounds_toArray, List.set_cons_zero, List.set_cons_succ]
    rfl
  refine take_ (i := 7) (N := some 119) (v := ?_) (a' := ?_) #[true, true, true, true, true, true, true, true, false, false, false, false, false, false, false, false, false, false, false, false, false, false, false, false, false, false, false, false, false, false, false, false, false, false, false, false, false, false, false, false, false, false, false, false] rfl rfl (by kernel_rfl) (fun _ _ _ h => h) (Or.inl ⟨by rfl, ?_⟩) hHeld ?_ ?_
  rotate_left
  · rintro w' hS'
    go_simp
    with_reducible rfl
  rotate_left
  · simp only [Act.put, List.setIfInBounds_toArray, List.set_cons_zero, List.set_cons_succ]
    rfl
  refine take_ (i := 8) (N := some 120) (v := ?_) (a' := ?_) #[true, true, true, true, true, true, true, true, true, false, false, false, false, false, false, false, false, false, false, false, false, false, false, false, false, false, false, false, false, false, false, false, false, false, false, false, false, false, false, false, false, false, false, false] rfl rfl (by kernel_rfl) (fun _ _ _ h => h) (Or.inl ⟨by rfl, ?_⟩) hHeld ?_ ?_
  rotate_left
  · rintro w' hS'
    go_simp
    with_reducible rfl
  rotate_left
  · simp only [Act.put, List.setIfInBounds_toArray, List.set_cons_zero, List.set_cons_succ]
    rfl
  refine take_ (i := 9) (N := some 121) (v := ?_) (a' := ?_) #[true, true, true, true, true, true, true, true, true, true, false, false, false, false, false, false, false, false, false, false, false, false, false, false, false, false, false, false, false, false, false, false, false, false, false, false, false, false, false, false, false, false, false, false] rfl rfl (by kernel_rfl) (fun _ _ _ h => h) (Or.inl ⟨by rfl, ?_⟩) hHeld ?_ ?_
  rotate_left
  · rintro w' hS'
    go_simp
    with_reducible rfl
  rotate_left
  · simp only [Act.put, List.setIfInBounds_toArray, List.set_cons_zero, List.set_cons_succ]
    rfl
  refine take_ (i := 10) (N := some 122) (v := ?_) (a' := ?_) #[true, true, true, true, true, true, true, true, true, true, true, false, false, false, false, false, false, false, false, false, false, false, false, false, false, false, false, false, false, false, false, false, false, false, false, false, false, false, false, false, false, false, false, false] rfl rfl (by kernel_rfl) (fun _ _ _ h => h) (Or.inl ⟨by rfl, ?_⟩) hHeld ?_ ?_
  rotate_left
  · rintro w' hS'
    go_simp
    with_reducible rfl
  rotate_left
  · simp only [Act.put, List.setIfInBounds_toArray, List.set_cons_zero, List.set_cons_succ]
    rfl
  refine take_ (i := 11) (N := some 123) (v := ?_) (a' := ?_) #[true, true, true, true, true, true, true, true, true, true, true, true, false, false, false, false, false, false, false, false, false, false, false, false, false, false, false, false, false, false, false, false, false, false, false, false, false, false, false, false, false, false, false, false] rfl rfl (by kernel_rfl) (fun _ _ _ h => h) (Or.inl ⟨by rfl, ?_⟩) hHeld ?_ ?_
  rotate_left
  · rintro w' hS'
    go_simp
    with_reducible rfl
  rotate_left
  · simp only [Act.put, List.setIfInBounds_toArray, List.set_cons_zero, List.set_cons_succ]
    rfl
  refine take_ (i := 12) (N := some 124) (v := ?_) (a' := ?_) #[true, true, true, true, true, true, true, true, true, true, true, true, true, false, false, false, false, false, false, false, false, false, false, false, false, false, false, false, false, false, false, false, false, false, false, false, false, false, false, false, false, false, false, false] rfl rfl (by kernel_rfl) (fun _ _ _ h => h) (Or.inl ⟨by rfl, ?_⟩) hHeld ?_ ?_
  rotate_left
  · rintro w' hS'
    go_simp
    with_reducible rfl
  rotate_left
  · simp only [Act.put, List.setIfInBounds_toArray, List.set_cons_zero, List.set_cons_succ]
    rfl
  refine take_ (i := 13) (N := some 125) (v := ?_) (a' := ?_) #[true, true, true, true, true, true, true, true, true, true, true, true, true, true, false, false, false, false, false, false, false, false, false, false, false, false, false, false, false, false, false, false, false, false, false, false, false, false, false, false, false, false, false, false] rfl rfl (by kernel_rfl) (fun _ _ _ h => h) (Or.inl ⟨by rfl, ?_⟩) hHeld ?_ ?_
  rotate_left
  · rintro w' hS'
    go_simp
    with_reducible rfl
  rotate_left
  · simp only [Act.put, List.setIfInBounds_toArray, List.set_cons_zero, List.set_cons_succ]
    rfl
  refine take_ (i := 14) (N := some 126) (v := ?_) (a' := ?_) #[true, true, true, true, true, true, true, true, true, true, true, true, true, true, true, false, false, false, false, false, false, false, false, false, false, false, false, false, false, false, false, false, false, false, false, false, false, false, false, false, false, false, false, false] rfl rfl (by kernel_rfl) (fun _ _ _ h => h) (Or.inl ⟨by rfl, ?_⟩) hHeld ?_ ?_
  rotate_left
  · rintro w' hS'
    go_simp
    with_reducible rfl
  rotate_left
  · simp only [Act.put, List.setIfInBounds_toArray, List.set_cons_zero, List.set_cons_succ]
    rfl
  refine take_ (i := 15) (N := some 127) (v := ?_) (a' := ?_) #[true, true, true, true, true, true, true, true, true, true, true, true, true, true, true, true, false, false, false, false, false, false, false, false, false, false, false, false, false, false, false, false, false, false, false, false, false, false, false, false, false, false, false, false] rfl rfl (by kernel_rfl) (fun _ _ _ h => h) (Or.inl ⟨by rfl, ?_⟩) hHeld ?_ ?_
  rotate_left
  · rintro w' hS'
    go_simp
    with_reducible rfl
  rotate_left
  · simp only [Act.put, List.setIfInBounds_toArray, List.set_cons_zero, List.set_cons_succ]
    rfl
  refine take_ (i := 16) (N := some 128) (v := ?_) (a' := ?_) #[true, true, true, true, true, true, true, true, true, true, true, true, true, true, true, true, true, false, false, false, false, false, false, false, false, false, false, false, false, false, false, false, false, false, false, false, false, false, false, false, false, false, false, false] rfl rfl (by kernel_rfl) (fun _ _ _ h => h) (Or.inl ⟨by rfl, ?_⟩) hHeld ?_ ?_
  rotate_left
  · rintro w' hS'
    go_simp
    with_reducible rfl
  rotate_left
  · simp only [Act.put, List.setIfInBounds_toArray, List.set_cons_zero, List.set_cons_succ]
    rfl
  refine take_ (i := 17) (N := some 129) (v := ?_) (a' := ?_) #[true, true, true, true, true, true, true, true, true, true, true, true, true, true, true, true, true, true, false, false, false, false, false, false, false, false, false, false, false, false, false, false, false, false, false, false, false, false, false, false, false, false, false, false] rfl rfl (by kernel_rfl) (fun _ _ _ h => h) (Or.inl ⟨by rfl, ?_⟩) hHeld ?_ ?_
  rotate_left
  · rintro w' hS'
    go_simp
    with_reducible rfl
  rotate_left
  · simp only [Act.put, List.setIfInBounds_toArray, List.set_cons_zero, List.set_cons_succ]
    rfl
  refine take_ (i := 18) (N := some 130) (v := ?_) (a' := ?_) #[true, true, true, true, true, true, true, true, true, true, true, true, true, true, true, true, true, true, true, false, false, false, false, false, false, false, false, false, false, false, false, false, false, false, false, false, false, false, false, false, false, false, false, false] rfl rfl (by kernel_rfl) (fun _ _ _ h => h) (Or.inl ⟨by rfl, ?_⟩) hHeld ?_ ?_
  rotate_left
  · rintro w' hS'
    go_simp
    with_reducible rfl
  rotate_left
  · simp only [Act.put, List.setIfInBounds_toArray, List.set_cons_zero, List.set_cons_succ]
    rfl
  refine take_ (i := 19) (N := some 131) (v := ?_) (a' := ?_) #[true, true, true, true, true, true, true, true, true, true, true, true, true, true, true, true, true, true, true, true, false, false, false, false, false, false, false, false, false, false, false, false, false, false, false, false, false, false, false, false, false, false, false, false] rfl rfl (by kernel_rfl) (fun _ _ _ h => h) (Or.inl ⟨by rfl, ?_⟩) hHeld ?_ ?_
  rotate_left
  · rintro w' hS'
    go_simp
    with_reducible rfl
  rotate_left
  · simp only [Act.put, List.setIfInBounds_toArray, List.set_cons_zero, List.set_cons_succ]
    rfl
  refine one_ (i := 20) (N := some 132) #[true, true, true, true, true, true, true, true, true, true, true, true, true, true, true, true, true, true, true, true, true, false, false, false, false, false, false, false, false, false, false, false, false, false, false, false, false, false, false, false, false, false, false, false] rfl rfl (by kernel_rfl) (by decide) (fun K hK => ?_)
  go_simp
  refine (rows4_any l l _ _ y21 (by have h := rdTs_take HS25.out.2.2.2.2.2.2.2.2.2.2.1 l.length (by have := HR.out.2.2.2.2.1; omega); rw [HR.out.2.2.2.2.2.1] at h; exact h) HS25.out.2.2.2.2.2.2.2.1.i.rd).mono ?_
  rintro e y22 ⟨rfl, hb⟩
  rw [eqbL_refl]
  have HS26 := Lib.hid (And.intro (HS25.out.1.trans (hb.mono HS25.out.1.size)) (And.intro (HS25.out.2.1.keeps (keeps_of hb)) (And.intro (HS25.out.2.2.1.keeps (keeps_of hb)) (And.intro (HS25.out.2.2.2.1.keeps (keeps_of hb)) (And.intro (HS25.out.2.2.2.2.1.below hb) (And.intro (HS25.out.2.2.2.2.2.1.keeps (keeps_of hb)) (And.intro (HS25.out.2.2.2.2.2.2.1.below hb) (And.intro (HS25.out.2.2.2.2.2.2.2.1.keeps (keeps_of hb)) (And.intro (HS25.out.2.2.2.2.2.2.2.2.1.keeps (keeps_of hb)) (And.intro (HS25.out.2.2.2.2.2.2.2.2.2.1.below hb) (And.intro (HS25.out.2.2.2.2.2.2.2.2.2.2.1.below (keeps_of hb)) (HS25.out.2.2.2.2.2.2.2.2.2.2.2.below hb))))))))))))
  clear HS25
  clear hb
  refine hK.out _ _ (keeps_of HS26.out.1) (fun hHeld => ?_)
  clear hK K
  refine norm_ (a' := ?_) ?_ ?_
  rotate_left
  · first
      | rfl
      | (simp only [Act.put, List.setIfInBounds_toArray, List.set_cons_zero, List.set_cons_succ]; rfl)
  refine take_ (i := 21) (N := some 133) (v := ?_) (a' := ?_) #[true, true, true, true, true, true, true, true, true, true, true, true, true, true, true, true, true, true, true, true, true, true, false, false, false, false, false, false, false, false, false, false, false, false, false, false, false, false, false, false, false, false, false, false] rfl rfl (by kernel_rfl) (fun _ _ _ h => h) (Or.inl ⟨by rfl, ?_⟩) hHeld ?_ ?_
  rotate_left
  · rintro w' hS'
    go_simp
    with_reducible rfl
  rotate_left
  · simp only [Act.put, List.setIfInBounds_toArray, List.set_cons_zero, List.set_cons_succ]
    rfl
  refine take_ (i := 22) (N := some 134) (v := ?_) (a' := ?_) #[true, true, true, true, true, true, true, true, true, true, true, true, true, true, true, true, true, true, true, true, true, true, true, false, false, false, false, false, false, false, false, false, false, false, false, false, false, false, false, false, false, false, false, false] rfl rfl (by kernel_rfl) (fun _ _ _ h => h) (Or.inl ⟨by rfl, ?_⟩) hHeld ?_ ?_
  rotate_left
  · rintro w' hS'
    go_simp
    with_reducible rfl
  rotate_left
  · simp only [Act.put, List.setIfInBounds_toArray, List.set_cons_zero, List.set_cons_succ]
    rfl
  refine take_ (i := 23) (N := some 135) (v := ?_) (a' := ?_) #[true, true, true, true, true, true, true, true, true, true, true, true, true, true, true, true, true, true, true, true, true, true, true, true, false, false, false, false, false, false, false, false, false, false, false, false, false, false, false, false, false, false, false, false] rfl rfl (by kernel_rfl) (fun _ _ _ h => h) (Or.inl ⟨by rfl, ?_⟩) hHeld ?_ ?_
  rotate_left
  · rintro w' hS'
    go_simp
    with_reducible rfl
  rotate_left
  · simp only [Act.put, List.setIfInBounds_toArray, List.set_cons_zero, List.set_cons_succ]
    rfl
  refine take_ (i := 24) (N := some 136) (v := ?_) (a' := ?_) #[true, true, true, true, true, true, true, true, true, true, true, true, true, true, true, true, true, true, true, true, true, true, true, true, true, false, false, false, false, false, false, false, false, false, false, false, false, false, false, false, false, false, false, false] rfl rfl (by kernel_rfl) (fun _ _ _ h => h) (Or.inl ⟨by rfl, ?_⟩) hHeld ?_ ?_
  rotate_left
  · rintro w' hS'
    go_simp
    with_reducible rfl
  rotate_left
  · simp only [Act.put, List.setIfInBounds_toArray, List.set_cons_zero, List.set_cons_succ]
    rfl
  refine take_ (i := 25) (N := some 137) (v := ?_) (a' := ?_) #[true, true, true, true, true, true, true, true, true, true, true, true, true, true, true, true, true, true, true, true, true, true, true, true, true, true, false, false, false, false, false, false, false, false, false, false, false, false, false, false, false, false, false, false] rfl rfl (by kernel_rfl) (fun _ _ _ h => h) (Or.inl ⟨by rfl, ?_⟩) hHeld ?_ ?_
  rotate_left
  · rintro w' hS'
    go_simp
    with_reducible rfl
  rotate_left
  · simp only [Act.put, List.setIfInBounds_toArray, List.set_cons_zero, List.set_cons_succ]
    rfl
  refine take_ (i := 26) (N := some 138) (v := ?_) (a' := ?_) #[true, true, true, true, true, true, true, true, true, true, true, true, true, true, true, true, true, true, true, true, true, true, true, true, true, true, true, false, false, false, false, false, false, false, false, false, false, false, false, false, false, false, false, false] rfl rfl (by kernel_rfl) (fun _ _ _ h => h) (Or.inl ⟨by rfl, ?_⟩) hHeld ?_ ?_
  rotate_left
  · rintro w' hS'
    go_simp
    with_reducible rfl
  rotate_left
  · simp only [Act.put, List.setIfInBounds_toArray, List.set_cons_zero, List.set_cons_succ]
    rfl
  refine take_ (i := 27) (N := some 139) (v := ?_) (a' := ?_) #[true, true, true, true, true, true, true, true, true, true, true, true, true, true, true, true, true, true, true, true, true, true, true, true, true, true, true, true, false, false, false, false, false, false, false, false, false, false, false, false, false, false, false, false] rfl rfl (by kernel_rfl) (fun _ _ _ h => h) (Or.inl ⟨by rfl, ?_⟩) hHeld ?_ ?_
  rotate_left
  · rintro w' hS'
    go_simp
    with_reducible rfl
  rotate_left
  · simp only [Act.put, List.setIfInBounds_toArray, List.set_cons_zero, List.set_cons_succ]
    rfl
  refine take_ (i := 28) (N := some 140) (v := ?_) (a' := ?_) #[true, true, true, true, true, true, true, true, true, true, true, true, true, true, true, true, true, true, true, true, true, true, true, true, true, true, true, true, true, false, false, false, false, false, false, false, false, false, false, false, false, false, false, false] rfl rfl (by kernel_rfl) (fun _ _ _ h => h) (Or.inl ⟨by rfl, ?_⟩) hHeld ?_ ?_
  rotate_left
  · rintro w' hS'
    go_simp
    with_reducible rfl
  rotate_left
  · simp only [Act.put, List.setIfInBounds_toArray, List.set_cons_zero, List.set_cons_succ]
    rfl
  refine one_ (i := 29) (N := some 141) #[true, true, true, true, true, true, true, true, true, true, true, true, true, true, true, true, true, true, true, true, true, true, true, true, true, true, true, true, true, true, false, false, false, false, false, false, false, false, false, false, false, false, false, false] rfl rfl (by kernel_rfl) (by decide) (fun K hK => ?_)
  go_simp
  refine (rows4_any row row (.slice Ad (mm.length - l.length) cd) _ y22 (by have h := rdTs_drop HS26.out.2.2.2.2.2.2.2.2.2.2.1 l.length (by have := HR.out.2.2.2.2.1; omega) Ad HD.out.2 cd HD.out.1; rw [HR.out.2.2.2.2.2.2] at h; exact h) HS26.out.2.1.i.rd).mono ?_
  rintro e y23 ⟨rfl, hb⟩
  rw [eqbL_refl]
  have HS27 := Lib.hid (And.intro (HS26.out.1.trans (hb.mono HS26.out.1.size)) (And.intro (HS26.out.2.1.keeps (keeps_of hb)) (And.intro (HS26.out.2.2.1.keeps (keeps_of hb)) (And.intro (HS26.out.2.2.2.1.keeps (keeps_of hb)) (And.intro (HS26.out.2.2.2.2.1.below hb) (And.intro (HS26.out.2.2.2.2.2.1.keeps (keeps_of hb)) (And.intro (HS26.out.2.2.2.2.2.2.1.below hb) (And.intro (HS26.out.2.2.2.2.2.2.2.1.keeps (keeps_of hb)) (And.intro (HS26.out.2.2.2.2.2.2.2.2.1.keeps (keeps_of hb)) (And.intro (HS26.out.2.2.2.2.2.2.2.2.2.1.below hb) (HS26.out.2.2.2.2.2.2.2.2.2.2.2.below hb)))))))))))
  clear HS26
  clear hb
  refine hK.out _ _ (keeps_of HS27.out.1) (fun hHeld => ?_)
  clear hK K
  refine norm_ (a' := ?_) ?_ ?_
  rotate_left
  · first
      | rfl
      | (simp only [Act.put, List.setIfInBounds_toArray, List.set_cons_zero, List.set_cons_succ]; rfl)
  refine take_ (i := 30) (N := some 142) (v := ?_) (a' := ?_) #[true, true, true, true, true, true, true, true, true, true, true, true, true, true, true, true, true, true, true, true, true, true, true, true, true, true, true, true, true, true, true, false, false, false, false, false, false, false, false, false, false, false, false, false] rfl rfl (by kernel_rfl) (fun _ _ _ h => h) (Or.inl ⟨by rfl, ?_⟩) hHeld ?_ ?_
  rotate_left
  · rintro w' hS'
    go_simp
    with_reducible rfl
  rotate_left
  · simp only [Act.put, List.setIfInBounds_toArray, List.set_cons_zero, List.set_cons_succ]
    rfl
  refine take_ (i := 31) (N := some 143) (v := ?_) (a' := ?_) #[true, true, true, true, true, true, true, true, true, true, true, true, true, true, true, true, true, true, true, true, true, true, true, true, true, true, true, true, true, true, true, true, false, false, false, false, false, false, false, false, false, false, false, false] rfl rfl (by kernel_rfl) (fun _ _ _ h => h) (Or.inl ⟨by rfl, ?_⟩) hHeld ?_ ?_
  rotate_left
  · rintro w' hS'
    go_simp
    with_reducible rfl
  rotate_left
  · simp only [Act.put, List.setIfInBounds_toArray, List.set_cons_zero, List.set_cons_succ]
    rfl
  refine take_ (i := 32) (N := some 144) (v := ?_) (a' := ?_) #[true, true, true, true, true, true, true, true, true, true, true, true, true, true, true, true, true, true, true, true, true, true, true, true, true, true, true, true, true, true, true, true, true, false, false, false, false, false, false, false, false, false, false, false] rfl rfl (by kernel_rfl) (fun _ _ _ h => h) (Or.inl ⟨by rfl, ?_⟩) hHeld ?_ ?_
  rotate_left
  · rintro w' hS'
    go_simp
    with_reducible rfl
  rotate_left
  · simp only [Act.put, List.setIfInBounds_toArray, List.set_cons_zero, List.set_cons_succ]
    rfl
  refine take_ (i := 33) (N := some 145) (v := ?_) (a' := ?_) #[true, true, true, true, true, true, true, true, true, true, true, true, true, true, true, true, true, true, true, true, true, true, true, true, true, true, true, true, true, true, true, true, true, true, false, false, false, false, false, false, false, false, false, false] rfl rfl (by kernel_rfl) (fun _ _ _ h => h) (Or.inl ⟨by rfl, ?_⟩) hHeld ?_ ?_
  rotate_left
  · rintro w' hS'
    go_simp
    with_reducible rfl
  rotate_left
  · simp only [Act.put, List.setIfInBounds_toArray, List.set_cons_zero, List.set_cons_succ]
    rfl
  refine take_ (i := 34) (N := some 146) (v := ?_) (a' := ?_) #[true, true, true, true, true, true, true, true, true, true, true, true, true, true, true, true, true, true, true, true, true, true, true, true, true, true, true, true, true, true, true, true, true, true, true, false, false, false, false, false, false, false, false, false] rfl rfl (by kernel_rfl) (fun _ _ _ h => h) (Or.inl ⟨by rfl, ?_⟩) hHeld ?_ ?_
  rotate_left
  · rintro w' hS'
    go_simp
    with_reducible rfl
  rotate_left
  · simp only [Act.put, List.setIfInBounds_toArray, List.set_cons_zero, List.set_cons_succ]
    rfl
  refine take_ (i := 36) (N := some 148) (v := ?_) (a' := ?_) #[true, true, true, true, true, true, true, true, true, true, true, true, true, true, true, true, true, true, true, true, true, true, true, true, true, true, true, true, true, true, true, true, true, true, true, false, true, false, false, false, false, false, false, false] rfl rfl (by kernel_rfl) (fun _ _ _ h => h) (Or.inl ⟨by rfl, ?_⟩) hHeld ?_ ?_
  rotate_left
  · rintro w' hS'
    go_simp
    with_reducible rfl
  rotate_left
  · simp only [Act.put, List.setIfInBounds_toArray, List.set_cons_zero, List.set_cons_succ]
    rfl
  refine one_ (i := 35) (N := some 147) #[true, true, true, true, true, true, true, true, true, true, true, true, true, true, true, true, true, true, true, true, true, true, true, true, true, true, true, true, true, true, true, true, true, true, true, true, true, false, false, false, false, false, false, false] rfl rfl (by kernel_rfl) (by decide) (fun K hK => ?_)
  go_simp
  refine (Apps4 (HK.out.below (HW.out.trans (HS27.out.1.mono HW.out.size))) HS27.out.2.2.2.2.2.2.2.2.1 HS27.out.2.2.2.2.2.2.2.1).mono ?_
  rintro e y24 ⟨A21_1, l21_1, c21_1, A21_2, l21_2, c21_2, rfl, hR, hb⟩
  have HS28 := Lib.hid (And.intro (HS27.out.1.trans (hb.mono HS27.out.1.size)) (And.intro (HS27.out.2.1.keeps (keeps_of hb)) (And.intro (HS27.out.2.2.1.keeps (keeps_of hb)) (And.intro (HS27.out.2.2.2.1.keeps (keeps_of hb)) (And.intro (HS27.out.2.2.2.2.1.below hb) (And.intro (HS27.out.2.2.2.2.2.1.keeps (keeps_of hb)) (And.intro (HS27.out.2.2.2.2.2.2.1.below hb) (And.intro (HS27.out.2.2.2.2.2.2.2.2.2.1.below hb) (And.intro (HS27.out.2.2.2.2.2.2.2.2.2.2.below hb) (hR))))))))))
  clear HS27
  clear hb
  clear hR
  refine hK.out _ _ (keeps_of HS28.out.1) (fun hHeld => ?_)
  clear hK K
  refine norm_ (a' := ?_) ?_ ?_
  rotate_left
  · first
      | rfl
      | (simp only [Act.put, List.setIfInBounds_toArray, List.set_cons_zero, List.set_cons_succ]; rfl)
  refine one_ (i := 37) (N := some 149) #[true, true, true, true, true, true, true, true, true, true, true, true, true, true, true, true, true, true, true, true, true, true, true, true, true, true, true, true, true, true, true, true, true, true, true, true, true, true, false, false, false, false, false, false] rfl rfl (by kernel_rfl) (by decide) (fun K hK => ?_)
  go_simp
  refine (same4_any (appsT hd l) t _ _ y24 HS28.out.2.2.2.2.2.2.2.2.2 HS28.out.2.2.1.i.rd).mono ?_
  rintro e y25 ⟨rfl, hb⟩
  generalize heq : Tm.eqb (appsT hd l) t = ee
  have HEQ := Lib.hid heq
  clear heq
  have HS29 := Lib.hid (And.intro (HS28.out.1.trans (hb.mono HS28.out.1.size)) (And.intro (HS28.out.2.1.keeps (keeps_of hb)) (And.intro (HS28.out.2.2.1.keeps (keeps_of hb)) (And.intro (HS28.out.2.2.2.1.keeps (keeps_of hb)) (And.intro (HS28.out.2.2.2.2.1.below hb) (And.intro (HS28.out.2.2.2.2.2.1.keeps (keeps_of hb)) (And.intro (HS28.out.2.2.2.2.2.2.1.below hb) (And.intro (HS28.out.2.2.2.2.2.2.2.1.below hb) (HS28.out.2.2.2.2.2.2.2.2.1.below hb)))))))))
  clear HS28
  clear hb
  refine hK.out _ _ (keeps_of HS29.out.1) (fun hHeld => ?_)
  clear hK K
  refine norm_ (a' := ?_) ?_ ?_
  rotate_left
  · first
      | rfl
      | (simp only [Act.put, List.setIfInBounds_toArray, List.set_cons_zero, List.set_cons_succ]; rfl)
  refine take_ (i := 38) (N := some 150) (v := ?_) (a' := ?_) #[true, true, true, true, true, true, true, true, true, true, true, true, true, true, true, true, true, true, true, true, true, true, true, true, true, true, true, true, true, true, true, true, true, true, true, true, true, true, true, false, false, false, false, false] rfl rfl (by kernel_rfl) (fun _ _ _ h => h) (Or.inl ⟨by rfl, ?_⟩) hHeld ?_ ?_
  rotate_left
  · rintro w' hS'
    go_simp
    with_reducible rfl
  rotate_left
  · simp only [Act.put, List.setIfInBounds_toArray, List.set_cons_zero, List.set_cons_succ]
    rfl
  refine take_ (i := 39) (N := some 151) (v := ?_) (a' := ?_) #[true, true, true, true, true, true, true, true, true, true, true, true, true, true, true, true, true, true, true, true, true, true, true, true, true, true, true, true, true, true, true, true, true, true, true, true, true, true, true, true, false, false, false, false] rfl rfl (by kernel_rfl) (fun _ _ _ h => h) (Or.inl ⟨by rfl, ?_⟩) hHeld ?_ ?_
  rotate_left
  · rintro w' hS'
    go_simp
    with_reducible rfl
  rotate_left
  · simp only [Act.put, List.setIfInBounds_toArray, List.set_cons_zero, List.set_cons_succ]
    rfl
  refine join_ (σ := Value × Value) 1 #[true, true, true, true, true, true, true, true, true, true, true, true, true, true, true, true, true, true, true, true, true, true, true, true, true, true, true, true, true, true, true, true, true, true, true, true, true, true, true, true, true, true, true, false] (fun s => [(152, s.1), (153, s.2), (154, .bool false)]) (fun s w' => Below y25.heap.size y25 w') ?_ ?_
  rotate_left
  · intro hJ
    simp only [putAll, Act.put, List.setIfInBounds_toArray, List.set_cons_zero, List.set_cons_succ] at hJ
    cases ee
    · have hcl : cleanT t = false := by
        cases hq : cleanT t with
        | false => rfl
        | true =>
          have := HEQ.out
          rw [HQ.out.2.2.2.2.1 hq, eqb_refl] at this
          cases this
      refine take_ (i := 40) (N := some 152) (v := ?_) (a' := ?_) #[true, true, true, true, true, true, true, true, true, true, true, true, true, true, true, true, true, true, true, true, true, true, true, true, true, true, true, true, true, true, true, true, true, true, true, true, true, true, true, true, true, false, false, false] rfl rfl (by kernel_rfl) (fun _ _ _ h => h) (Or.inl ⟨by rfl, ?_⟩) hHeld ?_ ?_
      rotate_left
      · rintro w' hS'
        go_simp
        with_reducible rfl
      rotate_left
      · simp only [Act.put, List.setIfInBounds_toArray, List.set_cons_zero, List.set_cons_succ]
        rfl
      refine one_ (i := 41) (N := some 153) #[true, true, true, true, true, true, true, true, true, true, true, true, true, true, true, true, true, true, true, true, true, true, true, true, true, true, true, true, true, true, true, true, true, true, true, true, true, true, true, true, true, true, false, false] rfl rfl (by kernel_rfl) (by decide) (fun K hK => ?_)
      go_simp
      refine (clean_any t _ y25 HS29.out.2.2.1.i.rd).mono ?_
      rintro e y ⟨rfl, hb⟩
      rw [hcl]
      refine hK.out _ _ (keeps_of (HS29.out.1.trans (hb.mono HS29.out.1.size))) (fun hHeld => ?_)
      clear hK K
      refine norm_ (a' := ?_) ?_ ?_
      rotate_left
      · first
          | rfl
          | (simp only [Act.put, List.setIfInBounds_toArray, List.set_cons_zero, List.set_cons_succ]; rfl)
      refine take_ (i := 42) (N := some 154) (v := ?_) (a' := ?_) #[true, true, true, true, true, true, true, true, true, true, true, true, true, true, true, true, true, true, true, true, true, true, true, true, true, true, true, true, true, true, true, true, true, true, true, true, true, true, true, true, true, true, true, false] rfl rfl (by kernel_rfl) (fun _ _ _ h => h) (Or.inl ⟨by rfl, ?_⟩) hHeld ?_ ?_
      rotate_left
      · rintro w' hS'
        go_simp
        with_reducible rfl
      rotate_left
      · simp only [Act.put, List.setIfInBounds_toArray, List.set_cons_zero, List.set_cons_succ]
        rfl
      exact hJ (_, .bool false) _ hb
    · skip
      refine one_ (i := 40) (N := some 152) #[true, true, true, true, true, true, true, true, true, true, true, true, true, true, true, true, true, true, true, true, true, true, true, true, true, true, true, true, true, true, true, true, true, true, true, true, true, true, true, true, true, false, false, false] rfl rfl (by kernel_rfl) (by decide) (fun K hK => ?_)
      go_simp
      refine hK.out _ _ hHeld (fun hHeld => ?_)
      clear hK K
      refine norm_ (a' := ?_) ?_ ?_
      rotate_left
      · first
          | rfl
          | (simp only [Act.put, List.setIfInBounds_toArray, List.set_cons_zero, List.set_cons_succ]; rfl)
      refine one_ (i := 41) (N := some 153) #[true, true, true, true, true, true, true, true, true, true, true, true, true, true, true, true, true, true, true, true, true, true, true, true, true, true, true, true, true, true, true, true, true, true, true, true, true, true, true, true, true, true, false, false] rfl rfl (by kernel_rfl) (by decide) (fun K hK => ?_)
      go_simp
      refine hK.out _ _ hHeld (fun hHeld => ?_)
      clear hK K
      refine norm_ (a' := ?_) ?_ ?_
      rotate_left
      · first
          | rfl
          | (simp only [Act.put, List.setIfInBounds_toArray, List.set_cons_zero, List.set_cons_succ]; rfl)
      refine take_ (i := 42) (N := some 154) (v := ?_) (a' := ?_) #[true, true, true, true, true, true, true, true, true, true, true, true, true, true, true, true, true, true, true, true, true, true, true, true, true, true, true, true, true, true, true, true, true, true, true, true, true, true, true, true, true, true, true, false] rfl rfl (by kernel_rfl) (fun _ _ _ h => h) (Or.inl ⟨by rfl, ?_⟩) hHeld ?_ ?_
      rotate_left
      · rintro w' hS'
        go_simp
        with_reducible rfl
      rotate_left
      · simp only [Act.put, List.setIfInBounds_toArray, List.set_cons_zero, List.set_cons_succ]
        rfl
      exact hJ (undef, undef) _ (Below.refl _ _)
  rintro ⟨s1, s2⟩ y11 hb
  refine norm_ (a' := ?_) ?_ ?_
  rotate_left
  · simp only [putAll, Act.put, List.setIfInBounds_toArray, List.set_cons_zero, List.set_cons_succ]
    rfl
  have HS30 := Lib.hid (And.intro (HS29.out.1.trans (hb.mono HS29.out.1.size)) (And.intro (HS29.out.2.1.keeps (keeps_of hb)) (And.intro (HS29.out.2.2.1.keeps (keeps_of hb)) (And.intro (HS29.out.2.2.2.1.keeps (keeps_of hb)) (And.intro (HS29.out.2.2.2.2.1.below hb) (And.intro (HS29.out.2.2.2.2.2.1.keeps (keeps_of hb)) (And.intro (HS29.out.2.2.2.2.2.2.1.below hb) (And.intro (HS29.out.2.2.2.2.2.2.2.1.below hb) (HS29.out.2.2.2.2.2.2.2.2.below hb)))))))))
  clear HS29
  clear hb
  have hHeld := keeps_of HS30.out.1
  refine take_ (i := 43) (N := some 155) (v := ?_) (a' := ?_) #[true, true, true, true, true, true, true, true, true, true, true, true, true, true, true, true, true, true, true, true, true, true, true, true, true, true, true, true, true, true, true, true, true, true, true, true, true, true, true, true, true, true, true, true] rfl rfl (by kernel_rfl) (fun _ _ _ h => h) (Or.inl ⟨by rfl, ?_⟩) hHeld ?_ ?_
  rotate_left
  · rintro w' hS'
    go_simp
    with_reducible rfl
  rotate_left
  · simp only [Act.put, List.setIfInBounds_toArray, List.set_cons_zero, List.set_cons_succ]
    rfl
  refine done_ (by kernel_rfl) ?_
  clear hHeld
  have HS31 := Lib.hid (And.intro (HW.out.trans (HS30.out.1.mono HW.out.size)) (And.intro HS30.out.2.1 (And.intro HS30.out.2.2.1 (And.intro HS30.out.2.2.2.1 (And.intro HS30.out.2.2.2.2.1 (And.intro HS30.out.2.2.2.2.2.1 (And.intro HS30.out.2.2.2.2.2.2.1 (And.intro HS30.out.2.2.2.2.2.2.2.1 HS30.out.2.2.2.2.2.2.2.2))))))))
  clear HS30 HW
  clear g_b5 n_b5 g_b9 n_b9 g_b13 n_b13 g_b15 n_b15
  clear hmc hlm hlc hl0 hw1 hv1 hsl HM HD HEQ HR
  have HS32 := Lib.hid (And.intro HS31.out.1 (And.intro HS31.out.2.1 (And.intro HS31.out.2.2.1 (And.intro HS31.out.2.2.2.1 (And.intro HS31.out.2.2.2.2.1 (And.intro HS31.out.2.2.2.2.2.1 HS31.out.2.2.2.2.2.2.1))))))
  clear HS31
  obtain ⟨mx, hmx⟩ : ∃ mx : Int, (if n < 0 then 0 else n) = mx := ⟨_, rfl⟩
  have hx2 : Builtin.max2 (.int .i64 n) (.int .i64 0) = (pure (.int .i64 mx) : Sem Value) := by rw [max2_int, hmx]
  obtain ⟨f, hf, hfl⟩ : ∃ f : Nat, (if (row.length : Int) < mx then (row.length : Int) else mx) = (f : Int) ∧ f ≤ row.length := by
    have h0 : 0 ≤ mx := by rw [← hmx]; split <;> omega
    by_cases h : (row.length : Int) < mx
    · exact ⟨row.length, by rw [if_pos h], Nat.le_refl _⟩
    · exact ⟨mx.toNat, by rw [if_neg h]; omega, by omega⟩
  have hx3 : Builtin.min2 (.int .i64 mx) (.int .i64 (row.length : Int)) = (pure (.int .i64 (f : Int)) : Sem Value) := by rw [min2_int, hf]
  obtain ⟨rt, hrt⟩ : ∃ x, row.take f = x := ⟨_, rfl⟩
  obtain ⟨rd, hrd⟩ : ∃ x, row.drop f = x := ⟨_, rfl⟩
  obtain ⟨lf, hlf⟩ : ∃ x, upT 4 rd t = x := ⟨_, rfl⟩
  have hrf : ∀ x ∈ row, AllN Fits x := HS32.out.2.1.f
  have hft : ∀ x ∈ rt, AllN Fits x := fun x hx => hrf x (List.mem_of_mem_take (hrt ▸ hx))
  have hfd : ∀ x ∈ rd, AllN Fits x := fun x hx => hrf x (List.mem_of_mem_drop (hrd ▸ hx))
  have hop : openT f al = some (rt, lf) := by rw [← HP.out.2.2.1, openT_up t row f hfl, hrt, hrd, hlf]
  have hff : AllN Fits lf := by rw [← hlf]; exact up_fits 4 rd t hfd HS32.out.2.2.1.f
  have HFE := Lib.hid (And.intro hop (And.intro hft (And.intro hfd (And.intro hff (And.intro hrt (And.intro hrd (And.intro hlf hfl)))))))
  clear hmx hf hrt hrd hlf hrf hft hfd hop hff hfl
  have g_b5 := (HS32.out.2.2.2.2.1).cell
  have n_b5 := (HS32.out.2.2.2.2.1).lt
  have g_b9 := (HS32.out.2.2.2.2.2.2).cell
  have n_b9 := (HS32.out.2.2.2.2.2.2).lt
  go_wp2_with fail
  clear g_b5 n_b5 g_b9 n_b9
  clear hx2 hx3
  refine (Open4 f rt lf (HK.out.below HS32.out.1) HS32.out.2.2.2.2.2.1 (by have := HFE.out.2.2.2.2.2.2.2; omega) (by have := HP.out.2.1; have := HP.out.2.2.2.1; omega) HFE.out.1 HFE.out.2.1 HFE.out.2.2.2.1).mono ?_
  rintro e y26 ⟨A18, c18, A19_1, l19_1, c19_1, A19_2, l19_2, c19_2, rfl, hRs, hR, hb⟩
  have HS33 := Lib.hid (And.intro (HS32.out.1.trans (hb.mono HS32.out.1.size)) (And.intro (HS32.out.2.1.keeps (keeps_of hb)) (And.intro (HS32.out.2.2.1.keeps (keeps_of hb)) (And.intro (HS32.out.2.2.2.1.keeps (keeps_of hb)) (And.intro (HS32.out.2.2.2.2.1.below hb) (And.intro (HS32.out.2.2.2.2.2.1.keeps (keeps_of hb)) (And.intro (HS32.out.2.2.2.2.2.2.below hb) (And.intro (hRs) (hR)))))))))
  clear HS32
  clear hb
  clear hRs hR
  have HZ := Lib.hid (blks1 y26 #[.int .i64 lf.kind, .int .i64 lf.num, .int .i64 lf.place, .slice A19_1 l19_1 c19_1, .slice A19_2 l19_2 c19_2] 30)
  have g_b5 := (HS33.out.2.2.2.2.1).cell
  have n_b5 := (HS33.out.2.2.2.2.1).lt
  have g_b9 := (HS33.out.2.2.2.2.2.2.1).cell
  have n_b9 := (HS33.out.2.2.2.2.2.2.1).lt
  go_wp2_with fail
  clear g_b5 n_b5 g_b9 n_b9
  obtain ⟨kz, hb, -⟩ := HZ.out
  generalize y26.alloc _ = y27 at kz hb ⊢
  have HS34 := Lib.hid (And.intro (HS33.out.1.trans (hb.mono HS33.out.1.size)) (And.intro (HS33.out.2.1.keeps (keeps_of hb)) (And.intro (HS33.out.2.2.1.keeps (keeps_of hb)) (And.intro (HS33.out.2.2.2.1.keeps (keeps_of hb)) (And.intro (HS33.out.2.2.2.2.1.below hb) (And.intro (HS33.out.2.2.2.2.2.1.keeps (keeps_of hb)) (And.intro (HS33.out.2.2.2.2.2.2.1.below hb) (And.intro (HS33.out.2.2.2.2.2.2.2.1.below (keeps_of hb)) (And.intro (RdT.below (keeps_of hb) _ _ HS33.out.2.2.2.2.2.2.2.2) (kz))))))))))
  clear HS33
  clear kz hb HZ
  obtain ⟨kN, hkN⟩ : ∃ kN : Nat, kN = countT al + 1 := ⟨_, rfl⟩
  have hw1 : wrap64 ((row.length : Int) + (countT t : Int)) = (countT al : Int) := by have := HP.out.2.1; have := HP.out.2.2.2.2.1; have := HP.out.2.2.2.2.2.1; unfold wrap64; omega
  have hw2 : wrap64 ((countT al : Int) + 1) = (kN : Int) := by have := HP.out.2.1; have := HP.out.2.2.2.2.1; have := HP.out.2.2.2.2.2.1; unfold wrap64; omega
  have hv1 : IntKind.i64.wrap ((row.length : Int) + (countT t : Int)) = (countT al : Int) := (i64w _).trans hw1
  have hv2 : IntKind.i64.wrap ((countT al : Int) + 1) = (kN : Int) := (i64w _).trans hw2
  have HKN := Lib.hid hkN
  clear hkN
  have HSV := HS34
  have HW := Lib.hid HS34.out.1
  have g_b5 := (HS34.out.2.2.2.2.1).cell
  have n_b5 := (HS34.out.2.2.2.2.1).lt
  have g_b9 := (HS34.out.2.2.2.2.2.2.1).cell
  have n_b9 := (HS34.out.2.2.2.2.2.2.1).lt
  have g_b19 := (HS34.out.2.2.2.2.2.2.2.2.2).cell
  have n_b19 := (HS34.out.2.2.2.2.2.2.2.2.2).lt
  have HS35 := Lib.hid (And.intro (Below.refl y27.heap.size y27).drew (And.intro (HS34.out.2.1.keeps (keeps_of (Below.refl y27.heap.size y27).drew)) (And.intro (HS34.out.2.2.1.keeps (keeps_of (Below.refl y27.heap.size y27).drew)) (And.intro (HS34.out.2.2.2.1.keeps (keeps_of (Below.refl y27.heap.size y27).drew)) (And.intro (HS34.out.2.2.2.2.1.below (Below.refl y27.heap.size y27).drew) (And.intro (HS34.out.2.2.2.2.2.1.keeps (keeps_of (Below.refl y27.heap.size y27).drew)) (And.intro (HS34.out.2.2.2.2.2.2.1.below (Below.refl y27.heap.size y27).drew) (And.intro (HS34.out.2.2.2.2.2.2.2.1.below (keeps_of (Below.refl y27.heap.size y27).drew)) (And.intro (RdT.below (keeps_of (Below.refl y27.heap.size y27).drew) _ _ HS34.out.2.2.2.2.2.2.2.2.1) (HS34.out.2.2.2.2.2.2.2.2.2.below (Below.refl y27.heap.size y27).drew))))))))))
  clear HS34
  refine start_ (n := 16) (S := fun W' => ∀ b o, b < y27.heap.size → W'.cell? ⟨b, o, none⟩ = y27.cell? ⟨b, o, none⟩) (ds := []) #[false, false, false, false, false, false, false, false, false, false, false, false, false, false, false, false] (by kernel_rfl) rfl rfl (by exact (fun _ _ _ => rfl)) (fun hHeld => ?_)
  refine take_ (i := 0) (N := some 169) (v := ?_) (a' := ?_) #[true, false, false, false, false, false, false, false, false, false, false, false, false, false, false, false] rfl rfl (by kernel_rfl) (fun _ _ _ h => h) (Or.inl ⟨by rfl, ?_⟩) hHeld ?_ ?_
  rotate_left
  · rintro w' hS'
    go_simp
    with_reducible rfl
  rotate_left
  · simp only [Act.put, List.setIfInBounds_toArray, List.set_cons_zero, List.set_cons_succ]
    rfl
  refine take_ (i := 1) (N := some 170) (v := ?_) (a' := ?_) #[true, true, false, false, false, false, false, false, false, false, false, false, false, false, false, false] rfl rfl (by kernel_rfl) (fun _ _ _ h => h) (Or.inl ⟨by rfl, ?_⟩) hHeld ?_ ?_
  rotate_left
  · rintro w' hS'
    go_simp
    with_reducible rfl
  rotate_left
  · simp only [Act.put, List.setIfInBounds_toArray, List.set_cons_zero, List.set_cons_succ]
    rfl
  refine take_ (i := 2) (N := some 171) (v := ?_) (a' := ?_) #[true, true, true, false, false, false, false, false, false, false, false, false, false, false, false, false] rfl rfl (by kernel_rfl) (fun _ _ _ h => h) (Or.inl ⟨by rfl, ?_⟩) hHeld ?_ ?_
  rotate_left
  · rintro w' hS'
    go_simp
    with_reducible rfl
  rotate_left
  · simp only [Act.put, List.setIfInBounds_toArray, List.set_cons_zero, List.set_cons_succ]
    rfl
  refine take_ (i := 3) (N := some 172) (v := ?_) (a' := ?_) #[true, true, true, true, false, false, false, false, false, false, false, false, false, false, false, false] rfl rfl (by kernel_rfl) (fun _ _ _ h => h) (Or.inl ⟨by rfl, ?_⟩) hHeld ?_ ?_
  rotate_left
  · rintro w' hS'
    go_simp
    with_reducible rfl
  rotate_left
  · simp only [Act.put, List.setIfInBounds_toArray, List.set_cons_zero, List.set_cons_succ]
    rfl
  refine join_ (σ := Nat) 2 #[true, true, true, true, true, true, true, true, true, true, true, true, true, true, false, false] (fun s => [(173, .int .i64 (countT t : Int)), (174, .int .i64 (countT al : Int)), (175, .int .i64 (kN : Int)), (176, .tuple #[.slice none 0 0, .agg #[.int .i64 0, .int .i64 0, .int .i64 0, .slice none 0 0, .slice none 0 0], .bool false]), (168, .tuple #[.slice none 0 0, .agg #[.int .i64 0, .int .i64 0, .int .i64 0, .slice none 0 0, .slice none 0 0], .bool false]), (177, .slice none 0 0), (178, .agg #[.int .i64 0, .int .i64 0, .int .i64 0, .slice none 0 0, .slice none 0 0]), (179, .bool false), (21, .slice none 0 0), (22, .pointer (some ⟨s, 0, none⟩))]) (fun s w' => Below y27.drew.heap.size y27.drew w' ∧ Blk w' s #[.int .i64 0, .int .i64 0, .int .i64 0, .slice none 0 0, .slice none 0 0] 30 ∧ y27.drew.heap.size ≤ s) ?_ ?_
  rotate_left
  · intro hJ
    simp only [putAll, Act.put, List.setIfInBounds_toArray, List.set_cons_zero, List.set_cons_succ] at hJ
    refine two_ (i := 4) (j := 12) (Ni := some 173) (Nj := some 22) #[true, true, true, true, true, false, false, false, false, false, false, false, false, false, false, false] #[true, true, true, true, false, false, false, false, false, false, false, false, true, false, false, false] rfl rfl rfl rfl (by kernel_rfl) (by decide) (by decide) (fun K hK => ?_) (fun K hK => ?_)
    · go_simp
      refine (Count_tele t _ y27.drew (RdT.below (keeps_of (Below.refl y27.drew.heap.size y27.drew)) _ _ HS35.out.2.2.1.i.rd) (by have := HP.out.2.1; have := HP.out.2.2.2.1; omega)).mono ?_
      rintro e z1 ⟨rfl, hb⟩
      refine hK.out _ _ (keeps_of (HS35.out.1.trans (hb.mono HS35.out.1.size))) (fun hHeld => ?_)
      clear hK K
      refine norm_ (a' := ?_) ?_ ?_
      rotate_left
      · first
          | rfl
          | (simp only [Act.put, List.setIfInBounds_toArray, List.set_cons_zero, List.set_cons_succ]; rfl)
      refine take_ (i := 5) (N := some 174) (v := ?_) (a' := ?_) #[true, true, true, true, true, true, false, false, false, false, false, false, false, false, false, false] rfl rfl (by kernel_rfl) (fun _ _ _ h => h) (Or.inl ⟨by rfl, ?_⟩) hHeld ?_ ?_
      rotate_left
      · rintro w' hS'
        go_simp
        with_reducible rfl
      rotate_left
      · simp only [Act.put, List.setIfInBounds_toArray, List.set_cons_zero, List.set_cons_succ]
        rfl
      refine take_ (i := 6) (N := some 175) (v := ?_) (a' := ?_) #[true, true, true, true, true, true, true, false, false, false, false, false, false, false, false, false] rfl rfl (by kernel_rfl) (fun _ _ _ h => h) (Or.inl ⟨by rfl, ?_⟩) hHeld ?_ ?_
      rotate_left
      · rintro w' hS'
        go_simp
        with_reducible rfl
      rotate_left
      · simp only [Act.put, List.setIfInBounds_toArray, List.set_cons_zero, List.set_cons_succ]
        rfl
      refine two_ (i := 7) (j := 12) (Ni := some 176) (Nj := some 22) #[true, true, true, true, true, true, true, true, false, false, false, false, false, false, false, false] #[true, true, true, true, true, true, true, false, false, false, false, false, true, false, false, false] rfl rfl rfl rfl (by kernel_rfl) (by decide) (by decide) (fun K hK => ?_) (fun K hK => ?_)
      · go_simp
        refine (OpenNo kN ((HK.out.below (HW.out.trans (HS35.out.1.mono HW.out.size))).below hb) (HS35.out.2.2.2.2.2.1.keeps (keeps_of hb)) (by have := HP.out.2.1; have := HP.out.2.2.2.2.1; have := HP.out.2.2.2.2.2.1; have := HKN.out; omega) (by have := HP.out.2.1; have := HP.out.2.2.2.1; omega) (by have := HKN.out; omega)).mono ?_
        rintro e z2 ⟨rfl, hb2⟩
        have hb3 := hb.trans (hb2.mono hb.size)
        refine hK.out _ _ (keeps_of (HS35.out.1.trans (hb3.mono HS35.out.1.size))) (fun hHeld => ?_)
        clear hK K
        refine norm_ (a' := ?_) ?_ ?_
        rotate_left
        · first
            | rfl
            | (simp only [Act.put, List.setIfInBounds_toArray, List.set_cons_zero, List.set_cons_succ]; rfl)
        refine take_ (i := 8) (N := some 168) (v := ?_) (a' := ?_) #[true, true, true, true, true, true, true, true, true, false, false, false, false, false, false, false] rfl rfl (by kernel_rfl) (fun _ _ _ h => h) (Or.inl ⟨by rfl, ?_⟩) hHeld ?_ ?_
        rotate_left
        · rintro w' hS'
          go_simp
          with_reducible rfl
        rotate_left
        · simp only [Act.put, List.setIfInBounds_toArray, List.set_cons_zero, List.set_cons_succ]
          rfl
        refine take_ (i := 9) (N := some 177) (v := ?_) (a' := ?_) #[true, true, true, true, true, true, true, true, true, true, false, false, false, false, false, false] rfl rfl (by kernel_rfl) (fun _ _ _ h => h) (Or.inl ⟨by rfl, ?_⟩) hHeld ?_ ?_
        rotate_left
        · rintro w' hS'
          go_simp
          with_reducible rfl
        rotate_left
        · simp only [Act.put, List.setIfInBounds_toArray, List.set_cons_zero, List.set_cons_succ]
          rfl
        refine take_ (i := 10) (N := some 178) (v := ?_) (a' := ?_) #[true, true, true, true, true, true, true, true, true, true, true, false, false, false, false, false] rfl rfl (by kernel_rfl) (fun _ _ _ h => h) (Or.inl ⟨by rfl, ?_⟩) hHeld ?_ ?_
        rotate_left
        · rintro w' hS'
          go_simp
          with_reducible rfl
        rotate_left
        · simp only [Act.put, List.setIfInBounds_toArray, List.set_cons_zero, List.set_cons_succ]
          rfl
        refine take_ (i := 11) (N := some 179) (v := ?_) (a' := ?_) #[true, true, true, true, true, true, true, true, true, true, true, true, false, false, false, false] rfl rfl (by kernel_rfl) (fun _ _ _ h => h) (Or.inl ⟨by rfl, ?_⟩) hHeld ?_ ?_
        rotate_left
        · rintro w' hS'
          go_simp
          with_reducible rfl
        rotate_left
        · simp only [Act.put, List.setIfInBounds_toArray, List.set_cons_zero, List.set_cons_succ]
          rfl
        refine one_ (i := 12) (N := some 22) #[true, true, true, true, true, true, true, true, true, true, true, true, true, false, false, false] rfl rfl (by kernel_rfl) (by decide) (fun K hK => ?_)
        go_simp
        have hbz : Below z2.heap.size z2 (z2.alloc (.cells #[.int .i64 0, .int .i64 0, .int .i64 0, .slice none 0 0, .slice none 0 0] 30)) := (Below.refl _ _).alloc (Nat.le_refl _) _
        have hb9 := hb3.trans (hbz.mono hb3.size)
        refine hK.out _ _ (keeps_of (HS35.out.1.trans (hb9.mono HS35.out.1.size))) (fun hHeld => ?_)
        clear hK K
        refine norm_ (a' := ?_) ?_ ?_
        rotate_left
        · first
            | rfl
            | (simp only [Act.put, List.setIfInBounds_toArray, List.set_cons_zero, List.set_cons_succ]; rfl)
        refine one_ (i := 13) (N := some 21) #[true, true, true, true, true, true, true, true, true, true, true, true, true, true, false, false] rfl rfl (by kernel_rfl) (by decide) (fun K hK => ?_)
        go_simp
        refine hK.out _ _ hHeld (fun hHeld => ?_)
        clear hK K
        refine norm_ (a' := ?_) ?_ ?_
        rotate_left
        · first
            | rfl
            | (simp only [Act.put, List.setIfInBounds_toArray, List.set_cons_zero, List.set_cons_succ]; rfl)
        exact hJ z2.heap.size _ ⟨hb9, Blk.new z2 _ _, hb3.size⟩
      · go_simp
        have hbz : Below z1.heap.size z1 (z1.alloc (.cells #[.int .i64 0, .int .i64 0, .int .i64 0, .slice none 0 0, .slice none 0 0] 30)) := (Below.refl _ _).alloc (Nat.le_refl _) _
        have hb9 := hb.trans (hbz.mono hb.size)
        refine hK.out _ _ (keeps_of (HS35.out.1.trans (hb9.mono HS35.out.1.size))) (fun hHeld => ?_)
        clear hK K
        refine norm_ (a' := ?_) ?_ ?_
        rotate_left
        · first
            | rfl
            | (simp only [Act.put, List.setIfInBounds_toArray, List.set_cons_zero, List.set_cons_succ]; rfl)
        refine one_ (i := 7) (N := some 176) #[true, true, true, true, true, true, true, true, false, false, false, false, true, false, false, false] rfl rfl (by kernel_rfl) (by decide) (fun K hK => ?_)
        go_simp
        refine (OpenNo kN ((HK.out.below (HW.out.trans (HS35.out.1.mono HW.out.size))).below hb9) (HS35.out.2.2.2.2.2.1.keeps (keeps_of hb9)) (by have := HP.out.2.1; have := HP.out.2.2.2.2.1; have := HP.out.2.2.2.2.2.1; have := HKN.out; omega) (by have := HP.out.2.1; have := HP.out.2.2.2.1; omega) (by have := HKN.out; omega)).mono ?_
        rintro e z4 ⟨rfl, hb2⟩
        have hb3 := hb9.trans (hb2.mono hb9.size)
        refine hK.out _ _ (keeps_of (HS35.out.1.trans (hb3.mono HS35.out.1.size))) (fun hHeld => ?_)
        clear hK K
        refine norm_ (a' := ?_) ?_ ?_
        rotate_left
        · first
            | rfl
            | (simp only [Act.put, List.setIfInBounds_toArray, List.set_cons_zero, List.set_cons_succ]; rfl)
        refine take_ (i := 8) (N := some 168) (v := ?_) (a' := ?_) #[true, true, true, true, true, true, true, true, true, false, false, false, true, false, false, false] rfl rfl (by kernel_rfl) (fun _ _ _ h => h) (Or.inl ⟨by rfl, ?_⟩) hHeld ?_ ?_
        rotate_left
        · rintro w' hS'
          go_simp
          with_reducible rfl
        rotate_left
        · simp only [Act.put, List.setIfInBounds_toArray, List.set_cons_zero, List.set_cons_succ]
          rfl
        refine take_ (i := 9) (N := some 177) (v := ?_) (a' := ?_) #[true, true, true, true, true, true, true, true, true, true, false, false, true, false, false, false] rfl rfl (by kernel_rfl) (fun _ _ _ h => h) (Or.inl ⟨by rfl, ?_⟩) hHeld ?_ ?_
        rotate_left
        · rintro w' hS'
          go_simp
          with_reducible rfl
        rotate_left
        · simp only [Act.put, List.setIfInBounds_toArray, List.set_cons_zero, List.set_cons_succ]
          rfl
        refine take_ (i := 10) (N := some 178) (v := ?_) (a' := ?_) #[true, true, true, true, true, true, true, true, true, true, true, false, true, false, false, false] rfl rfl (by kernel_rfl) (fun _ _ _ h => h) (Or.inl ⟨by rfl, ?_⟩) hHeld ?_ ?_
        rotate_left
        · rintro w' hS'
          go_simp
          with_reducible rfl
        rotate_left
        · simp only [Act.put, List.setIfInBounds_toArray, List.set_cons_zero, List.set_cons_succ]
          rfl
        refine take_ (i := 11) (N := some 179) (v := ?_) (a' := ?_) #[true, true, true, true, true, true, true, true, true, true, true, true, true, false, false, false] rfl rfl (by kernel_rfl) (fun _ _ _ h => h) (Or.inl ⟨by rfl, ?_⟩) hHeld ?_ ?_
        rotate_left
        · rintro w' hS'
          go_simp
          with_reducible rfl
        rotate_left
        · simp only [Act.put, List.setIfInBounds_toArray, List.set_cons_zero, List.set_cons_succ]
          rfl
        refine one_ (i := 13) (N := some 21) #[true, true, true, true, true, true, true, true, true, true, true, true, true, true, false, false] rfl rfl (by kernel_rfl) (by decide) (fun K hK => ?_)
        go_simp
        refine hK.out _ _ hHeld (fun hHeld => ?_)
        clear hK K
        refine norm_ (a' := ?_) ?_ ?_
        rotate_left
        · first
            | rfl
            | (simp only [Act.put, List.setIfInBounds_toArray, List.set_cons_zero, List.set_cons_succ]; rfl)
        exact hJ z1.heap.size _ ⟨hb3, (Blk.new z1 _ _).below hb2, hb.size⟩
    · go_simp
      have hbz : Below y27.heap.size y27 (y27.alloc (.cells #[.int .i64 0, .int .i64 0, .int .i64 0, .slice none 0 0, .slice none 0 0] 30)).drew := ((Below.refl _ y27).alloc (Nat.le_refl _) _).drew
      have kz : Blk (y27.alloc (.cells #[.int .i64 0, .int .i64 0, .int .i64 0, .slice none 0 0, .slice none 0 0] 30)).drew y27.heap.size #[.int .i64 0, .int .i64 0, .int .i64 0, .slice none 0 0, .slice none 0 0] 30 := (Blk.new y27 _ _).drew
      generalize (y27.alloc (.cells #[.int .i64 0, .int .i64 0, .int .i64 0, .slice none 0 0, .slice none 0 0] 30)).drew = z3 at kz hbz ⊢
      replace hbz : Below y27.drew.heap.size y27.drew z3 := ⟨hbz.os, hbz.tape, hbz.output, hbz.size, hbz.block⟩
      refine hK.out _ _ (keeps_of (HS35.out.1.trans (hbz.mono HS35.out.1.size))) (fun hHeld => ?_)
      clear hK K
      refine norm_ (a' := ?_) ?_ ?_
      rotate_left
      · first
          | rfl
          | (simp only [Act.put, List.setIfInBounds_toArray, List.set_cons_zero, List.set_cons_succ]; rfl)
      refine one_ (i := 4) (N := some 173) #[true, true, true, true, true, false, false, false, false, false, false, false, true, false, false, false] rfl rfl (by kernel_rfl) (by decide) (fun K hK => ?_)
      go_simp
      refine (Count_tele t _ z3 (RdT.below (keeps_of hbz) _ _ HS35.out.2.2.1.i.rd) (by have := HP.out.2.1; have := HP.out.2.2.2.1; omega)).mono ?_
      rintro e z5 ⟨rfl, hb1⟩
      have hb5 := hbz.trans (hb1.mono hbz.size)
      refine hK.out _ _ (keeps_of (HS35.out.1.trans (hb5.mono HS35.out.1.size))) (fun hHeld => ?_)
      clear hK K
      refine norm_ (a' := ?_) ?_ ?_
      rotate_left
      · first
          | rfl
          | (simp only [Act.put, List.setIfInBounds_toArray, List.set_cons_zero, List.set_cons_succ]; rfl)
      refine take_ (i := 5) (N := some 174) (v := ?_) (a' := ?_) #[true, true, true, true, true, true, false, false, false, false, false, false, true, false, false, false] rfl rfl (by kernel_rfl) (fun _ _ _ h => h) (Or.inl ⟨by rfl, ?_⟩) hHeld ?_ ?_
      rotate_left
      · rintro w' hS'
        go_simp
        with_reducible rfl
      rotate_left
      · simp only [Act.put, List.setIfInBounds_toArray, List.set_cons_zero, List.set_cons_succ]
        rfl
      refine take_ (i := 6) (N := some 175) (v := ?_) (a' := ?_) #[true, true, true, true, true, true, true, false, false, false, false, false, true, false, false, false] rfl rfl (by kernel_rfl) (fun _ _ _ h => h) (Or.inl ⟨by rfl, ?_⟩) hHeld ?_ ?_
      rotate_left
      · rintro w' hS'
        go_simp
        with_reducible rfl
      rotate_left
      · simp only [Act.put, List.setIfInBounds_toArray, List.set_cons_zero, List.set_cons_succ]
        rfl
      refine one_ (i := 7) (N := some 176) #[true, true, true, true, true, true, true, true, false, false, false, false, true, false, false, false] rfl rfl (by kernel_rfl) (by decide) (fun K hK => ?_)
      go_simp
      refine (OpenNo kN ((HK.out.below (HW.out.trans (HS35.out.1.mono HW.out.size))).below hb5) (HS35.out.2.2.2.2.2.1.keeps (keeps_of hb5)) (by have := HP.out.2.1; have := HP.out.2.2.2.2.1; have := HP.out.2.2.2.2.2.1; have := HKN.out; omega) (by have := HP.out.2.1; have := HP.out.2.2.2.1; omega) (by have := HKN.out; omega)).mono ?_
      rintro e z4 ⟨rfl, hb2⟩
      have hb3 := hb5.trans (hb2.mono hb5.size)
      refine hK.out _ _ (keeps_of (HS35.out.1.trans (hb3.mono HS35.out.1.size))) (fun hHeld => ?_)
      clear hK K
      refine norm_ (a' := ?_) ?_ ?_
      rotate_left
      · first
          | rfl
          | (simp only [Act.put, List.setIfInBounds_toArray, List.set_cons_zero, List.set_cons_succ]; rfl)
      refine take_ (i := 8) (N := some 168) (v := ?_) (a' := ?_) #[true, true, true, true, true, true, true, true, true, false, false, false, true, false, false, false] rfl rfl (by kernel_rfl) (fun _ _ _ h => h) (Or.inl ⟨by rfl, ?_⟩) hHeld ?_ ?_
      rotate_left
      · rintro w' hS'
        go_simp
        with_reducible rfl
      rotate_left
      · simp only [Act.put, List.setIfInBounds_toArray, List.set_cons_zero, List.set_cons_succ]
        rfl
      refine take_ (i := 9) (N := some 177) (v := ?_) (a' := ?_) #[true, true, true, true, true, true, true, true, true, true, false, false, true, false, false, false] rfl rfl (by kernel_rfl) (fun _ _ _ h => h) (Or.inl ⟨by rfl, ?_⟩) hHeld ?_ ?_
      rotate_left
      · rintro w' hS'
        go_simp
        with_reducible rfl
      rotate_left
      · simp only [Act.put, List.setIfInBounds_toArray, List.set_cons_zero, List.set_cons_succ]
        rfl
      refine take_ (i := 10) (N := some 178) (v := ?_) (a' := ?_) #[true, true, true, true, true, true, true, true, true, true, true, false, true, false, false, false] rfl rfl (by kernel_rfl) (fun _ _ _ h => h) (Or.inl ⟨by rfl, ?_⟩) hHeld ?_ ?_
      rotate_left
      · rintro w' hS'
        go_simp
        with_reducible rfl
      rotate_left
      · simp only [Act.put, List.setIfInBounds_toArray, List.set_cons_zero, List.set_cons_succ]
        rfl
      refine take_ (i := 11) (N := some 179) (v := ?_) (a' := ?_) #[true, true, true, true, true, true, true, true, true, true, true, true, true, false, false, false] rfl rfl (by kernel_rfl) (fun _ _ _ h => h) (Or.inl ⟨by rfl, ?_⟩) hHeld ?_ ?_
      rotate_left
      · rintro w' hS'
        go_simp
        with_reducible rfl
      rotate_left
      · simp only [Act.put, List.setIfInBounds_toArray, List.set_cons_zero, List.set_cons_succ]
        rfl
      refine one_ (i := 13) (N := some 21) #[true, true, true, true, true, true, true, true, true, true, true, true, true, true, false, false] rfl rfl (by kernel_rfl) (by decide) (fun K hK => ?_)
      go_simp
      refine hK.out _ _ hHeld (fun hHeld => ?_)
      clear hK K
      refine norm_ (a' := ?_) ?_ ?_
      rotate_left
      · first
          | rfl
          | (simp only [Act.put, List.setIfInBounds_toArray, List.set_cons_zero, List.set_cons_succ]; rfl)
      exact hJ y27.heap.size _ ⟨hb3, (kz.below hb1).below hb2, Nat.le_refl _⟩
  rintro z y15 ⟨hb, kz, hz⟩
  refine norm_ (a' := ?_) ?_ ?_
  rotate_left
  · simp only [putAll, Act.put, List.setIfInBounds_toArray, List.set_cons_zero, List.set_cons_succ]
    rfl
  have gz := kz.cell
  have fz := kz.frozen
  have nz := kz.lt
  have HZ := Lib.hid (And.intro kz hz)
  have HS36 := Lib.hid (And.intro (HS35.out.1.trans (hb.mono HS35.out.1.size)) (And.intro (HS35.out.2.1.keeps (keeps_of hb)) (And.intro (HS35.out.2.2.1.keeps (keeps_of hb)) (And.intro (HS35.out.2.2.2.1.keeps (keeps_of hb)) (And.intro (HS35.out.2.2.2.2.1.below hb) (And.intro (HS35.out.2.2.2.2.2.1.keeps (keeps_of hb)) (And.intro (HS35.out.2.2.2.2.2.2.1.below hb) (And.intro (HS35.out.2.2.2.2.2.2.2.1.below (keeps_of hb)) (And.intro (RdT.below (keeps_of hb) _ _ HS35.out.2.2.2.2.2.2.2.2.1) (HS35.out.2.2.2.2.2.2.2.2.2.below hb))))))))))
  clear HS35
  clear hb kz hz
  have hHeld := keeps_of HS36.out.1
  refine one_ (i := 14) (N := none) #[true, true, true, true, true, true, true, true, true, true, true, true, true, true, true, false] rfl rfl (by kernel_rfl) (by decide) (fun K hK => ?_)
  go_simp
  have hb : Below y15.heap.size y15 y15 := Below.refl _ _
  have hbW : Below y27.heap.size y27 (put5 y15 z (.int .i64 0) (.int .i64 0) (.int .i64 0) (.slice none 0 0) (.slice none 0 0)) := put5_below HS36.out.1 (by have := HZ.out.2; exact this)
  refine hK.out _ _ (keeps_of hbW) (fun hHeld => ?_)
  clear hK K
  refine norm_ (a' := ?_) ?_ ?_
  rotate_left
  · first
      | rfl
      | (simp only [Act.put, List.setIfInBounds_toArray, List.set_cons_zero, List.set_cons_succ]; rfl)
  refine take_ (i := 15) (N := some 23) (v := ?_) (a' := ?_) #[true, true, true, true, true, true, true, true, true, true, true, true, true, true, true, true] rfl rfl (by kernel_rfl) (fun _ _ _ h => h) (Or.inl ⟨by rfl, ?_⟩) hHeld ?_ ?_
  rotate_left
  · rintro w' hS'
    go_simp
    with_reducible rfl
  rotate_left
  · simp only [Act.put, List.setIfInBounds_toArray, List.set_cons_zero, List.set_cons_succ]
    rfl
  refine done_ (by kernel_rfl) ?_
  have hbW : Below y27.heap.size y27 (put5 y15 z (.int .i64 0) (.int .i64 0) (.int .i64 0) (.slice none 0 0) (.slice none 0 0)) := put5_below HS36.out.1 (by have := HZ.out.2; exact this)
  obtain ⟨yP, hyP⟩ : ∃ x, (put5 y15 z (.int .i64 0) (.int .i64 0) (.int .i64 0) (.slice none 0 0) (.slice none 0 0)) = x := ⟨_, rfl⟩
  rw [show ((((y15.setCell ⟨z, 0, none⟩ (.int .i64 0)).setCell ⟨z, 1, none⟩ (.int .i64 0)).setCell ⟨z, 2, none⟩ (.int .i64 0)).setCell ⟨z, 3, none⟩ (.slice none 0 0)).setCell ⟨z, 4, none⟩ (.slice none 0 0) = yP from hyP]
  rw [hyP] at hbW
  clear hyP gz fz nz HZ HS36
  clear g_b5 n_b5 g_b9 n_b9 g_b19 n_b19
  have HS37 := Lib.hid (And.intro (HSV.out.1.trans (hbW.mono HSV.out.1.size)) (And.intro (HSV.out.2.1.keeps (keeps_of hbW)) (And.intro (HSV.out.2.2.1.keeps (keeps_of hbW)) (And.intro (HSV.out.2.2.2.1.keeps (keeps_of hbW)) (And.intro (HSV.out.2.2.2.2.1.below hbW) (And.intro (HSV.out.2.2.2.2.2.1.keeps (keeps_of hbW)) (And.intro (HSV.out.2.2.2.2.2.2.1.below hbW) (And.intro (HSV.out.2.2.2.2.2.2.2.1.below (keeps_of hbW)) (And.intro (RdT.below (keeps_of hbW) _ _ HSV.out.2.2.2.2.2.2.2.2.1) (HSV.out.2.2.2.2.2.2.2.2.2.below hbW))))))))))
  clear HSV
  clear hbW HW hw1 hw2 hv1 hv2 HKN hHeld
  have g_b5 := (HS37.out.2.2.2.2.1).cell
  have n_b5 := (HS37.out.2.2.2.2.1).lt
  have g_b9 := (HS37.out.2.2.2.2.2.2.1).cell
  have n_b9 := (HS37.out.2.2.2.2.2.2.1).lt
  have g_b19 := (HS37.out.2.2.2.2.2.2.2.2.2).cell
  have n_b19 := (HS37.out.2.2.2.2.2.2.2.2.2).lt
  go_wp2_with fail
  clear g_b5 n_b5 g_b9 n_b9 g_b19 n_b19
  obtain ⟨Ae, ce, hsl, hcd, hAd⟩ := slice_from Ar row.length cr f HFE.out.2.2.2.2.2.2.2 HP.out.2.2.2.2.2.2.2.2
  have HD := Lib.hid (And.intro hcd hAd)
  clear hcd hAd
  have hf0 : (0 : Int) ≤ (f : Int) := Int.natCast_nonneg _
  have hf1 : (f : Int) ≤ (cr : Int) := by have := HFE.out.2.2.2.2.2.2.2; have := HP.out.2.2.2.2.2.2.2.2; omega
  have hrtl : rt.length = f := by rw [← HFE.out.2.2.2.2.1, List.length_take]; have := HFE.out.2.2.2.2.2.2.2; omega
  have HRT := Lib.hid hrtl
  clear hrtl
  have HW := Lib.hid HS37.out.1
  have g_b5 := (HS37.out.2.2.2.2.1).cell
  have n_b5 := (HS37.out.2.2.2.2.1).lt
  have g_b9 := (HS37.out.2.2.2.2.2.2.1).cell
  have n_b9 := (HS37.out.2.2.2.2.2.2.1).lt
  have g_b19 := (HS37.out.2.2.2.2.2.2.2.2.2).cell
  have n_b19 := (HS37.out.2.2.2.2.2.2.2.2.2).lt
  have HS38 := Lib.hid (And.intro (Below.refl yP.heap.size yP).drew (And.intro (HS37.out.2.1.keeps (keeps_of (Below.refl yP.heap.size yP).drew)) (And.intro (HS37.out.2.2.1.keeps (keeps_of (Below.refl yP.heap.size yP).drew)) (And.intro (HS37.out.2.2.2.1.keeps (keeps_of (Below.refl yP.heap.size yP).drew)) (And.intro (HS37.out.2.2.2.2.1.below (Below.refl yP.heap.size yP).drew) (And.intro (HS37.out.2.2.2.2.2.1.keeps (keeps_of (Below.refl yP.heap.size yP).drew)) (And.intro (HS37.out.2.2.2.2.2.2.1.below (Below.refl yP.heap.size yP).drew) (And.intro (HS37.out.2.2.2.2.2.2.2.1.below (keeps_of (Below.refl yP.heap.size yP).drew)) (And.intro (RdT.below (keeps_of (Below.refl yP.heap.size yP).drew) _ _ HS37.out.2.2.2.2.2.2.2.2.1) (HS37.out.2.2.2.2.2.2.2.2.2.below (Below.refl yP.heap.size yP).drew))))))))))
  clear HS37
  refine start_ (n := 23) (S := fun W' => ∀ b o, b < yP.heap.size → W'.cell? ⟨b, o, none⟩ = yP.cell? ⟨b, o, none⟩) (ds := []) #[false, false, false, false, false, false, false, false, false, false, false, false, false, false, false, false, false, false, false, false, false, false, false] (by kernel_rfl) rfl rfl (by exact (fun _ _ _ => rfl)) (fun hHeld => ?_)
  refine take_ (i := 0) (N := some 180) (v := ?_) (a' := ?_) #[true, false, false, false, false, false, false, false, false, false, false, false, false, false, false, false, false, false, false, false, false, false, false] rfl rfl (by kernel_rfl) (fun _ _ _ h => h) (Or.inl ⟨by rfl, ?_⟩) hHeld ?_ ?_
  rotate_left
  · rintro w' hS'
    go_simp
    with_reducible rfl
  rotate_left
  · simp only [Act.put, List.setIfInBounds_toArray, List.set_cons_zero, List.set_cons_succ]
    rfl
  refine take_ (i := 1) (N := some 181) (v := ?_) (a' := ?_) #[true, true, false, false, false, false, false, false, false, false, false, false, false, false, false, false, false, false, false, false, false, false, false] rfl rfl (by kernel_rfl) (fun _ _ _ h => h) (Or.inl ⟨by rfl, ?_⟩) hHeld ?_ ?_
  rotate_left
  · rintro w' hS'
    go_simp
    with_reducible rfl
  rotate_left
  · simp only [Act.put, List.setIfInBounds_toArray, List.set_cons_zero, List.set_cons_succ]
    rfl
  refine take_ (i := 2) (N := some 182) (v := ?_) (a' := ?_) #[true, true, true, false, false, false, false, false, false, false, false, false, false, false, false, false, false, false, false, false, false, false, false] rfl rfl (by kernel_rfl) (fun _ _ _ h => h) (Or.inl ⟨by rfl, ?_⟩) hHeld ?_ ?_
  rotate_left
  · rintro w' hS'
    go_simp
    with_reducible rfl
  rotate_left
  · simp only [Act.put, List.setIfInBounds_toArray, List.set_cons_zero, List.set_cons_succ]
    rfl
  refine take_ (i := 3) (N := some 183) (v := ?_) (a' := ?_) #[true, true, true, true, false, false, false, false, false, false, false, false, false, false, false, false, false, false, false, false, false, false, false] rfl rfl (by kernel_rfl) (fun _ _ _ h => h) (Or.inl ⟨by rfl, ?_⟩) hHeld ?_ ?_
  rotate_left
  · rintro w' hS'
    go_simp
    with_reducible rfl
  rotate_left
  · simp only [Act.put, List.setIfInBounds_toArray, List.set_cons_zero, List.set_cons_succ]
    rfl
  refine take_ (i := 4) (N := some 184) (v := ?_) (a' := ?_) #[true, true, true, true, true, false, false, false, false, false, false, false, false, false, false, false, false, false, false, false, false, false, false] rfl rfl (by kernel_rfl) (fun _ _ _ h => h) (Or.inl ⟨by rfl, ?_⟩) hHeld ?_ ?_
  rotate_left
  · rintro w' hS'
    go_simp
    with_reducible rfl
  rotate_left
  · simp only [Act.put, List.setIfInBounds_toArray, List.set_cons_zero, List.set_cons_succ]
    rfl
  refine take_ (i := 5) (N := some 185) (v := ?_) (a' := ?_) #[true, true, true, true, true, true, false, false, false, false, false, false, false, false, false, false, false, false, false, false, false, false, false] rfl rfl (by kernel_rfl) (fun _ _ _ h => h) (Or.inl ⟨by rfl, ?_⟩) hHeld ?_ ?_
  rotate_left
  · rintro w' hS'
    go_simp
    with_reducible rfl
  rotate_left
  · simp only [Act.put, List.setIfInBounds_toArray, List.set_cons_zero, List.set_cons_succ]
    rfl
  refine take_ (i := 6) (N := some 186) (v := ?_) (a' := ?_) #[true, true, true, true, true, true, true, false, false, false, false, false, false, false, false, false, false, false, false, false, false, false, false] rfl rfl (by kernel_rfl) (fun _ _ _ h => h) (Or.inl ⟨by rfl, ?_⟩) hHeld ?_ ?_
  rotate_left
  · rintro w' hS'
    go_simp
    with_reducible rfl
  rotate_left
  · simp only [Act.put, List.setIfInBounds_toArray, List.set_cons_zero, List.set_cons_succ]
    rfl
  refine take_ (i := 7) (N := some 187) (v := ?_) (a' := ?_) #[true, true, true, true, true, true, true, true, false, false, false, false, false, false, false, false, false, false, false, false, false, false, false] rfl rfl (by kernel_rfl) (fun _ _ _ h => h) (Or.inl ⟨by rfl, ?_⟩) hHeld ?_ ?_
  rotate_left
  · rintro w' hS'
    go_simp
    with_reducible rfl
  rotate_left
  · simp only [Act.put, List.setIfInBounds_toArray, List.set_cons_zero, List.set_cons_succ]
    rfl
  refine take_ (i := 8) (N := some 188) (v := ?_) (a' := ?_) #[true, true, true, true, true, true, true, true, true, false, false, false, false, false, false, false, false, false, false, false, false, false, false] rfl rfl (by kernel_rfl) (fun _ _ _ h => h) (Or.inl ⟨by rfl, ?_⟩) hHeld ?_ ?_
  rotate_left
  · rintro w' hS'
    go_simp
    with_reducible rfl
  rotate_left
  · simp only [Act.put, List.setIfInBounds_toArray, List.set_cons_zero, List.set_cons_succ]
    rfl
  refine take_ (i := 9) (N := some 189) (v := ?_) (a' := ?_) #[true, true, true, true, true, true, true, true, true, true, false, false, false, false, false, false, false, false, false, false, false, false, false] rfl rfl (by kernel_rfl) (fun _ _ _ h => h) (Or.inl ⟨by rfl, ?_⟩) hHeld ?_ ?_
  rotate_left
  · rintro w' hS'
    go_simp
    with_reducible rfl
  rotate_left
  · simp only [Act.put, List.setIfInBounds_toArray, List.set_cons_zero, List.set_cons_succ]
    rfl
  refine one_ (i := 10) (N := some 190) #[true, true, true, true, true, true, true, true, true, true, true, false, false, false, false, false, false, false, false, false, false, false, false] rfl rfl (by kernel_rfl) (by decide) (fun K hK => ?_)
  go_simp
  refine (rows4_any rt rt (.slice A18 rt.length c18) (.slice Ar f cr) yP.drew HS38.out.2.2.2.2.2.2.2.1 (by have h := rdTs_take HS38.out.2.1.i.rd f HFE.out.2.2.2.2.2.2.2; rw [HFE.out.2.2.2.2.1] at h; exact h)).mono ?_
  rintro e y28 ⟨rfl, hb⟩
  rw [eqbL_refl]
  have HS39 := Lib.hid (And.intro (HS38.out.1.trans (hb.mono HS38.out.1.size)) (And.intro (HS38.out.2.1.keeps (keeps_of hb)) (And.intro (HS38.out.2.2.1.keeps (keeps_of hb)) (And.intro (HS38.out.2.2.2.1.keeps (keeps_of hb)) (And.intro (HS38.out.2.2.2.2.1.below hb) (And.intro (HS38.out.2.2.2.2.2.1.keeps (keeps_of hb)) (And.intro (HS38.out.2.2.2.2.2.2.1.below hb) (And.intro (RdT.below (keeps_of hb) _ _ HS38.out.2.2.2.2.2.2.2.2.1) (HS38.out.2.2.2.2.2.2.2.2.2.below hb)))))))))
  clear HS38
  clear hb
  refine hK.out _ _ (keeps_of HS39.out.1) (fun hHeld => ?_)
  clear hK K
  refine norm_ (a' := ?_) ?_ ?_
  rotate_left
  · first
      | rfl
      | (simp only [Act.put, List.setIfInBounds_toArray, List.set_cons_zero, List.set_cons_succ]; rfl)
  refine take_ (i := 11) (N := some 191) (v := ?_) (a' := ?_) #[true, true, true, true, true, true, true, true, true, true, true, true, false, false, false, false, false, false, false, false, false, false, false] rfl rfl (by kernel_rfl) (fun _ _ _ h => h) (Or.inl ⟨by rfl, ?_⟩) hHeld ?_ ?_
  rotate_left
  · rintro w' hS'
    go_simp
    with_reducible rfl
  rotate_left
  · simp only [Act.put, List.setIfInBounds_toArray, List.set_cons_zero, List.set_cons_succ]
    rfl
  refine take_ (i := 12) (N := some 192) (v := ?_) (a' := ?_) #[true, true, true, true, true, true, true, true, true, true, true, true, true, false, false, false, false, false, false, false, false, false, false] rfl rfl (by kernel_rfl) (fun _ _ _ h => h) (Or.inl ⟨by rfl, ?_⟩) hHeld ?_ ?_
  rotate_left
  · rintro w' hS'
    go_simp
    with_reducible rfl
  rotate_left
  · simp only [Act.put, List.setIfInBounds_toArray, List.set_cons_zero, List.set_cons_succ]
    rfl
  refine take_ (i := 13) (N := some 193) (v := ?_) (a' := ?_) #[true, true, true, true, true, true, true, true, true, true, true, true, true, true, false, false, false, false, false, false, false, false, false] rfl rfl (by kernel_rfl) (fun _ _ _ h => h) (Or.inl ⟨by rfl, ?_⟩) hHeld ?_ ?_
  rotate_left
  · rintro w' hS'
    go_simp
    with_reducible rfl
  rotate_left
  · simp only [Act.put, List.setIfInBounds_toArray, List.set_cons_zero, List.set_cons_succ]
    rfl
  refine take_ (i := 14) (N := some 194) (v := ?_) (a' := ?_) #[true, true, true, true, true, true, true, true, true, true, true, true, true, true, true, false, false, false, false, false, false, false, false] rfl rfl (by kernel_rfl) (fun _ _ _ h => h) (Or.inl ⟨by rfl, ?_⟩) hHeld ?_ ?_
  rotate_left
  · rintro w' hS'
    go_simp
    with_reducible rfl
  rotate_left
  · simp only [Act.put, List.setIfInBounds_toArray, List.set_cons_zero, List.set_cons_succ]
    rfl
  refine take_ (i := 15) (N := some 195) (v := ?_) (a' := ?_) #[true, true, true, true, true, true, true, true, true, true, true, true, true, true, true, true, false, false, false, false, false, false, false] rfl rfl (by kernel_rfl) (fun _ _ _ h => h) (Or.inl ⟨by rfl, ?_⟩) hHeld ?_ ?_
  rotate_left
  · rintro w' hS'
    go_simp
    with_reducible rfl
  rotate_left
  · simp only [Act.put, List.setIfInBounds_toArray, List.set_cons_zero, List.set_cons_succ]
    rfl
  refine take_ (i := 16) (N := some 196) (v := ?_) (a' := ?_) #[true, true, true, true, true, true, true, true, true, true, true, true, true, true, true, true, true, false, false, false, false, false, false] rfl rfl (by kernel_rfl) (fun _ _ _ h => h) (Or.inl ⟨by rfl, ?_⟩) hHeld ?_ ?_
  rotate_left
  · rintro w' hS'
    go_simp
    with_reducible rfl
  rotate_left
  · simp only [Act.put, List.setIfInBounds_toArray, List.set_cons_zero, List.set_cons_succ]
    rfl
  refine take_ (i := 17) (N := some 197) (v := ?_) (a' := ?_) #[true, true, true, true, true, true, true, true, true, true, true, true, true, true, true, true, true, true, false, false, false, false, false] rfl rfl (by kernel_rfl) (fun _ _ _ h => h) (Or.inl ⟨by rfl, ?_⟩) hHeld ?_ ?_
  rotate_left
  · rintro w' hS'
    go_simp
    with_reducible rfl
  rotate_left
  · simp only [Act.put, List.setIfInBounds_toArray, List.set_cons_zero, List.set_cons_succ]
    rfl
  refine take_ (i := 18) (N := some 198) (v := ?_) (a' := ?_) #[true, true, true, true, true, true, true, true, true, true, true, true, true, true, true, true, true, true, true, false, false, false, false] rfl rfl (by kernel_rfl) (fun _ _ _ h => h) (Or.inl ⟨by rfl, ?_⟩) hHeld ?_ ?_
  rotate_left
  · rintro w' hS'
    go_simp
    with_reducible rfl
  rotate_left
  · simp only [Act.put, List.setIfInBounds_toArray, List.set_cons_zero, List.set_cons_succ]
    rfl
  refine one_ (i := 19) (N := some 199) #[true, true, true, true, true, true, true, true, true, true, true, true, true, true, true, true, true, true, true, true, false, false, false] rfl rfl (by kernel_rfl) (by decide) (fun K hK => ?_)
  go_simp
  refine (HFE.out.2.2.2.2.2.2.1 ▸ Pis4 (ts := rd) (t := t) (vk := .slice Ae (row.length - f) ce) (HK.out.below (HW.out.trans (HS39.out.1.mono HW.out.size))) ⟨⟨by have h := rdTs_drop HS39.out.2.1.i.rd f HFE.out.2.2.2.2.2.2.2 Ae HD.out.2 ce HD.out.1; rw [HFE.out.2.2.2.2.2.1] at h; exact h, by have := HS39.out.2.1.i.len; rw [← HFE.out.2.2.2.2.2.1, List.length_drop]; omega, fun x hx => HS39.out.2.1.i.ok x (List.mem_of_mem_drop (HFE.out.2.2.2.2.2.1 ▸ hx))⟩, HFE.out.2.2.1⟩ HS39.out.2.2.1).mono ?_
  rintro e y29 ⟨A22_1, l22_1, c22_1, A22_2, l22_2, c22_2, rfl, hR, hb⟩
  have HS40 := Lib.hid (And.intro (HS39.out.1.trans (hb.mono HS39.out.1.size)) (And.intro (HS39.out.2.1.keeps (keeps_of hb)) (And.intro (HS39.out.2.2.1.keeps (keeps_of hb)) (And.intro (HS39.out.2.2.2.1.keeps (keeps_of hb)) (And.intro (HS39.out.2.2.2.2.1.below hb) (And.intro (HS39.out.2.2.2.2.2.1.keeps (keeps_of hb)) (And.intro (HS39.out.2.2.2.2.2.2.1.below hb) (And.intro (RdT.below (keeps_of hb) _ _ HS39.out.2.2.2.2.2.2.2.1) (And.intro (HS39.out.2.2.2.2.2.2.2.2.below hb) (hR))))))))))
  clear HS39
  clear hb
  clear hR
  refine hK.out _ _ (keeps_of HS40.out.1) (fun hHeld => ?_)
  clear hK K
  refine norm_ (a' := ?_) ?_ ?_
  rotate_left
  · first
      | rfl
      | (simp only [Act.put, List.setIfInBounds_toArray, List.set_cons_zero, List.set_cons_succ]; rfl)
  refine one_ (i := 20) (N := some 200) #[true, true, true, true, true, true, true, true, true, true, true, true, true, true, true, true, true, true, true, true, true, false, false] rfl rfl (by kernel_rfl) (by decide) (fun K hK => ?_)
  go_simp
  refine (same4_any lf lf _ _ y29 HS40.out.2.2.2.2.2.2.2.1 HS40.out.2.2.2.2.2.2.2.2.2).mono ?_
  rintro e y30 ⟨rfl, hb⟩
  rw [eqb_refl]
  have HS41 := Lib.hid (And.intro (HS40.out.1.trans (hb.mono HS40.out.1.size)) (And.intro (HS40.out.2.1.keeps (keeps_of hb)) (And.intro (HS40.out.2.2.1.keeps (keeps_of hb)) (And.intro (HS40.out.2.2.2.1.keeps (keeps_of hb)) (And.intro (HS40.out.2.2.2.2.1.below hb) (And.intro (HS40.out.2.2.2.2.2.1.keeps (keeps_of hb)) (And.intro (HS40.out.2.2.2.2.2.2.1.below hb) (HS40.out.2.2.2.2.2.2.2.2.1.below hb))))))))
  clear HS40
  clear hb
  refine hK.out _ _ (keeps_of HS41.out.1) (fun hHeld => ?_)
  clear hK K
  refine norm_ (a' := ?_) ?_ ?_
  rotate_left
  · first
      | rfl
      | (simp only [Act.put, List.setIfInBounds_toArray, List.set_cons_zero, List.set_cons_succ]; rfl)
  refine take_ (i := 21) (N := some 201) (v := ?_) (a' := ?_) #[true, true, true, true, true, true, true, true, true, true, true, true, true, true, true, true, true, true, true, true, true, true, false] rfl rfl (by kernel_rfl) (fun _ _ _ h => h) (Or.inl ⟨by rfl, ?_⟩) hHeld ?_ ?_
  rotate_left
  · rintro w' hS'
    go_simp
    with_reducible rfl
  rotate_left
  · simp only [Act.put, List.setIfInBounds_toArray, List.set_cons_zero, List.set_cons_succ]
    rfl
  refine take_ (i := 22) (N := some 202) (v := ?_) (a' := ?_) #[true, true, true, true, true, true, true, true, true, true, true, true, true, true, true, true, true, true, true, true, true, true, true] rfl rfl (by kernel_rfl) (fun _ _ _ h => h) (Or.inl ⟨by rfl, ?_⟩) hHeld ?_ ?_
  rotate_left
  · rintro w' hS'
    go_simp
    with_reducible rfl
  rotate_left
  · simp only [Act.put, List.setIfInBounds_toArray, List.set_cons_zero, List.set_cons_succ]
    rfl
  refine done_ (by kernel_rfl) ?_
  have HS42 := Lib.hid (And.intro (HW.out.trans (HS41.out.1.mono HW.out.size)) (And.intro HS41.out.2.1 (And.intro HS41.out.2.2.1 (And.intro HS41.out.2.2.2.1 (And.intro HS41.out.2.2.2.2.1 (And.intro HS41.out.2.2.2.2.2.1 (And.intro HS41.out.2.2.2.2.2.2.1 HS41.out.2.2.2.2.2.2.2)))))))
  clear HS41 HW
  clear g_b5 n_b5 g_b9 n_b9 g_b19 n_b19
  clear hsl HD hf0 hf1 HRT
  have HS43 := Lib.hid (And.intro HS42.out.1 (And.intro HS42.out.2.1 (And.intro HS42.out.2.2.1 (And.intro HS42.out.2.2.2.1 (And.intro HS42.out.2.2.2.2.1 (And.intro HS42.out.2.2.2.2.2.1 HS42.out.2.2.2.2.2.2.1))))))
  clear HS42
  have g_b5 := (HS43.out.2.2.2.2.1).cell
  have n_b5 := (HS43.out.2.2.2.2.1).lt
  have g_b9 := (HS43.out.2.2.2.2.2.2).cell
  have n_b9 := (HS43.out.2.2.2.2.2.2).lt
  go_wp2_with fail
  clear g_b5 n_b5 g_b9 n_b9
  obtain ⟨pu, hpu⟩ : ∃ x, rowT (putNode by_) 0 row = x := ⟨_, rfl⟩
  have hpl : pu.length = row.length := by rw [← hpu, rowT_length]
  have hc := Puts4 (HK.out.below HS43.out.1) HS43.out.2.1 HS43.out.2.2.2.1 (by have := HP.out.2.1; omega)
  rw [hpu] at hc
  refine (hc).mono ?_
  rintro e y31 ⟨A24, c24, rfl, hRs, hb⟩
  have HS44 := Lib.hid (And.intro (HS43.out.1.trans (hb.mono HS43.out.1.size)) (And.intro (HS43.out.2.1.keeps (keeps_of hb)) (And.intro (HS43.out.2.2.1.keeps (keeps_of hb)) (And.intro (HS43.out.2.2.2.1.keeps (keeps_of hb)) (And.intro (HS43.out.2.2.2.2.1.below hb) (And.intro (HS43.out.2.2.2.2.2.1.keeps (keeps_of hb)) (And.intro (HS43.out.2.2.2.2.2.2.below hb) (hRs))))))))
  clear HS43
  clear hb
  clear hc hRs
  have g_b5 := (HS44.out.2.2.2.2.1).cell
  have n_b5 := (HS44.out.2.2.2.2.1).lt
  have g_b9 := (HS44.out.2.2.2.2.2.2.1).cell
  have n_b9 := (HS44.out.2.2.2.2.2.2.1).lt
  go_wp2_with fail
  clear g_b5 n_b5 g_b9 n_b9
  obtain ⟨li, hli⟩ : ∃ x, liftsT 3 0 0 row = x := ⟨_, rfl⟩
  have hll : li.length = row.length := by rw [← hli, liftsT_length]
  have hc := Lifts4 3 0 (HK.out.below HS44.out.1) HS44.out.2.1
  rw [hli] at hc
  refine (hc).mono ?_
  rintro e y32 ⟨A25, c25, rfl, hRs, hb⟩
  have HS45 := Lib.hid (And.intro (HS44.out.1.trans (hb.mono HS44.out.1.size)) (And.intro (HS44.out.2.1.keeps (keeps_of hb)) (And.intro (HS44.out.2.2.1.keeps (keeps_of hb)) (And.intro (HS44.out.2.2.2.1.keeps (keeps_of hb)) (And.intro (HS44.out.2.2.2.2.1.below hb) (And.intro (HS44.out.2.2.2.2.2.1.keeps (keeps_of hb)) (And.intro (HS44.out.2.2.2.2.2.2.1.below hb) (And.intro (HS44.out.2.2.2.2.2.2.2.below (keeps_of hb)) (hRs)))))))))
  clear HS44
  clear hb
  clear hc hRs
  have g_b5 := (HS45.out.2.2.2.2.1).cell
  have n_b5 := (HS45.out.2.2.2.2.1).lt
  have g_b9 := (HS45.out.2.2.2.2.2.2.1).cell
  have n_b9 := (HS45.out.2.2.2.2.2.2.1).lt
  go_wp2_with fail
  clear g_b5 n_b5 g_b9 n_b9
  obtain ⟨pa, hpa⟩ : ∃ x, putT by_ al = x := ⟨_, rfl⟩
  obtain ⟨pe, hpe⟩ : ∃ x, turnT (putNode by_) (row.length : Int) t = x := ⟨_, rfl⟩
  have hpu2 : pa = upT 4 pu pe := by rw [← hpa, ← HP.out.2.2.1, put_up, hpu, hpe]
  have hpf : AllN Fits pa := by rw [← hpa]; exact turn_fits (put_node_fits HS45.out.2.2.2.1.f) al HP.out.2.2.2.2.2.2.2.1 0
  have hps := put_size (by_ := by_) (M := Tm.nodesL by_ + 1) (by omega) (fun x hx => ⟨(HS45.out.2.2.2.1.i.ok x hx).1, by have := nodes_kid hx; omega⟩) al HP.out.2.2.2.2.2.2.1
  rw [hpa] at hps
  have hpn : pa.nodes ≤ 1099511627775 := by
    refine Nat.le_trans hps.2 (Nat.le_trans (Nat.mul_le_mul_right _ ?_) HP.out.1)
    have := HP.out.2.2.2.1
    omega
  have hpk := up_kids pu pe (hpu2 ▸ hpf)
  have hpo : openT row.length pa = some (pu, pe) := by rw [hpu2, ← hpl]; exact openT_all pu pe
  have hc := Put4 (HK.out.below HS45.out.1) HS45.out.2.2.2.2.2.1 HS45.out.2.2.2.1
  rw [hpa] at hc
  have HPU := Lib.hid (And.intro hpf (And.intro hps.1 (And.intro hpn (And.intro hpk hpo))))
  clear hpa hpe hpu2 hpf hps hpn hpk hpo hpu
  refine (hc).mono ?_
  rintro e y33 ⟨A26_1, l26_1, c26_1, A26_2, l26_2, c26_2, rfl, hR, hb⟩
  have HS46 := Lib.hid (And.intro (HS45.out.1.trans (hb.mono HS45.out.1.size)) (And.intro (HS45.out.2.1.keeps (keeps_of hb)) (And.intro (HS45.out.2.2.1.keeps (keeps_of hb)) (And.intro (HS45.out.2.2.2.1.keeps (keeps_of hb)) (And.intro (HS45.out.2.2.2.2.1.below hb) (And.intro (HS45.out.2.2.2.2.2.1.keeps (keeps_of hb)) (And.intro (HS45.out.2.2.2.2.2.2.1.below hb) (And.intro (HS45.out.2.2.2.2.2.2.2.1.below (keeps_of hb)) (And.intro (HS45.out.2.2.2.2.2.2.2.2.below (keeps_of hb)) (show Fi y33 pa _ from ⟨⟨hR, HPU.out.2.1, by have := HPU.out.2.2.1; omega⟩, HPU.out.1⟩))))))))))
  clear HS45
  clear hb
  clear hc hR
  have g_b5 := (HS46.out.2.2.2.2.1).cell
  have n_b5 := (HS46.out.2.2.2.2.1).lt
  have g_b9 := (HS46.out.2.2.2.2.2.2.1).cell
  have n_b9 := (HS46.out.2.2.2.2.2.2.1).lt
  go_wp2_with fail
  clear g_b5 n_b5 g_b9 n_b9
  have hc := Open4 row.length pu pe (HK.out.below HS46.out.1) HS46.out.2.2.2.2.2.2.2.2.2 (by omega) HPU.out.2.2.1 HPU.out.2.2.2.2 HPU.out.2.2.2.1.1 HPU.out.2.2.2.1.2
  unfold GivesO at hc
  rw [hpl] at hc
  refine (hc).mono ?_
  rintro e y34 ⟨A27, c27, A28_1, l28_1, c28_1, A28_2, l28_2, c28_2, rfl, hRs, hR, hb⟩
  have HS47 := Lib.hid (And.intro (HS46.out.1.trans (hb.mono HS46.out.1.size)) (And.intro (HS46.out.2.1.keeps (keeps_of hb)) (And.intro (HS46.out.2.2.1.keeps (keeps_of hb)) (And.intro (HS46.out.2.2.2.1.keeps (keeps_of hb)) (And.intro (HS46.out.2.2.2.2.1.below hb) (And.intro (HS46.out.2.2.2.2.2.1.keeps (keeps_of hb)) (And.intro (HS46.out.2.2.2.2.2.2.1.below hb) (And.intro (HS46.out.2.2.2.2.2.2.2.1.below (keeps_of hb)) (And.intro (HS46.out.2.2.2.2.2.2.2.2.1.below (keeps_of hb)) (hRs))))))))))
  clear HS46
  clear hb
  clear hc hRs hR
  have HZ := Lib.hid (blks1 y34 #[.int .i64 pe.kind, .int .i64 pe.num, .int .i64 pe.place, .slice A28_1 l28_1 c28_1, .slice A28_2 l28_2 c28_2] 30)
  have g_b5 := (HS47.out.2.2.2.2.1).cell
  have n_b5 := (HS47.out.2.2.2.2.1).lt
  have g_b9 := (HS47.out.2.2.2.2.2.2.1).cell
  have n_b9 := (HS47.out.2.2.2.2.2.2.1).lt
  go_wp2_with fail
  clear g_b5 n_b5 g_b9 n_b9
  obtain ⟨kz, hb, -⟩ := HZ.out
  generalize y34.alloc _ = y35 at kz hb ⊢
  have HS48 := Lib.hid (And.intro (HS47.out.1.trans (hb.mono HS47.out.1.size)) (And.intro (HS47.out.2.1.keeps (keeps_of hb)) (And.intro (HS47.out.2.2.1.keeps (keeps_of hb)) (And.intro (HS47.out.2.2.2.1.keeps (keeps_of hb)) (And.intro (HS47.out.2.2.2.2.1.below hb) (And.intro (HS47.out.2.2.2.2.2.1.keeps (keeps_of hb)) (And.intro (HS47.out.2.2.2.2.2.2.1.below hb) (And.intro (HS47.out.2.2.2.2.2.2.2.1.below (keeps_of hb)) (And.intro (HS47.out.2.2.2.2.2.2.2.2.1.below (keeps_of hb)) (And.intro (HS47.out.2.2.2.2.2.2.2.2.2.below (keeps_of hb)) (kz)))))))))))
  clear HS47
  clear kz hb HZ
  have HS49 := Lib.hid (And.intro HS48.out.1 (And.intro HS48.out.2.1 (And.intro HS48.out.2.2.1 (And.intro HS48.out.2.2.2.1 (And.intro HS48.out.2.2.2.2.1 (And.intro HS48.out.2.2.2.2.2.1 (And.intro HS48.out.2.2.2.2.2.2.1 (And.intro HS48.out.2.2.2.2.2.2.2.1 (And.intro HS48.out.2.2.2.2.2.2.2.2.1 HS48.out.2.2.2.2.2.2.2.2.2.1)))))))))
  clear HS48
  obtain ⟨la, hla⟩ : ∃ x, liftT 3 0 0 al = x := ⟨_, rfl⟩
  obtain ⟨lx, hlx⟩ : ∃ x, liftT 3 0 ((0 + row.length : Nat) : Int) t = x := ⟨_, rfl⟩
  have hlu : la = upT 4 li lx := by
    have h := lift_up 3 t row 0 (fun r hr => num64_of _ (HS49.out.2.1.f r hr)) (by have := HP.out.2.1; omega)
    rw [← hla, ← HP.out.2.2.1, ← hli, ← hlx]
    exact h
  have hlf2 : AllN Fits la := by rw [← hla]; exact lift_fits 3 0 0 al HP.out.2.2.2.2.2.2.2.1
  have hls := lift_size 3 0 0 al HP.out.2.2.2.2.2.2.1
  rw [hla] at hls
  have hlk := up_kids li lx (hlu ▸ hlf2)
  have hlo : openT row.length la = some (li, lx) := by rw [hlu, ← hll]; exact openT_all li lx
  have hc := Lift4 3 0 (HK.out.below HS49.out.1) HS49.out.2.2.2.2.2.1
  rw [hla] at hc
  have HLI := Lib.hid (And.intro hlf2 (And.intro hls (And.intro hlk hlo)))
  clear hla hlx hlu hlf2 hls hlk hlo hli
  refine (hc).mono ?_
  rintro e y36 ⟨A29_1, l29_1, c29_1, A29_2, l29_2, c29_2, rfl, hR, hb⟩
  have HS50 := Lib.hid (And.intro (HS49.out.1.trans (hb.mono HS49.out.1.size)) (And.intro (HS49.out.2.1.keeps (keeps_of hb)) (And.intro (HS49.out.2.2.1.keeps (keeps_of hb)) (And.intro (HS49.out.2.2.2.1.keeps (keeps_of hb)) (And.intro (HS49.out.2.2.2.2.1.below hb) (And.intro (HS49.out.2.2.2.2.2.1.keeps (keeps_of hb)) (And.intro (HS49.out.2.2.2.2.2.2.1.below hb) (And.intro (HS49.out.2.2.2.2.2.2.2.1.below (keeps_of hb)) (And.intro (HS49.out.2.2.2.2.2.2.2.2.1.below (keeps_of hb)) (And.intro (HS49.out.2.2.2.2.2.2.2.2.2.below (keeps_of hb)) (show Fi y36 la _ from ⟨⟨hR, HLI.out.2.1.1, by have := HLI.out.2.1.2; have := HP.out.2.1; have := HP.out.2.2.2.1; omega⟩, HLI.out.1⟩)))))))))))
  clear HS49
  clear hb
  clear hc hR
  have g_b5 := (HS50.out.2.2.2.2.1).cell
  have n_b5 := (HS50.out.2.2.2.2.1).lt
  have g_b9 := (HS50.out.2.2.2.2.2.2.1).cell
  have n_b9 := (HS50.out.2.2.2.2.2.2.1).lt
  go_wp2_with fail
  clear g_b5 n_b5 g_b9 n_b9
  have hc := Open4 row.length li lx (HK.out.below HS50.out.1) HS50.out.2.2.2.2.2.2.2.2.2.2 (by omega) (by have := HLI.out.2.1.2; have := HP.out.2.1; have := HP.out.2.2.2.1; omega) HLI.out.2.2.2 HLI.out.2.2.1.1 HLI.out.2.2.1.2
  unfold GivesO at hc
  rw [hll] at hc
  refine (hc).mono ?_
  rintro e y37 ⟨A30, c30, A31_1, l31_1, c31_1, A31_2, l31_2, c31_2, rfl, hRs, hR, hb⟩
  have HS51 := Lib.hid (And.intro (HS50.out.1.trans (hb.mono HS50.out.1.size)) (And.intro (HS50.out.2.1.keeps (keeps_of hb)) (And.intro (HS50.out.2.2.1.keeps (keeps_of hb)) (And.intro (HS50.out.2.2.2.1.keeps (keeps_of hb)) (And.intro (HS50.out.2.2.2.2.1.below hb) (And.intro (HS50.out.2.2.2.2.2.1.keeps (keeps_of hb)) (And.intro (HS50.out.2.2.2.2.2.2.1.below hb) (And.intro (HS50.out.2.2.2.2.2.2.2.1.below (keeps_of hb)) (And.intro (HS50.out.2.2.2.2.2.2.2.2.1.below (keeps_of hb)) (And.intro (HS50.out.2.2.2.2.2.2.2.2.2.1.below (keeps_of hb)) (hRs)))))))))))
  clear HS50
  clear hb
  clear hc hRs hR
  have HZ := Lib.hid (blks1 y37 #[.int .i64 lx.kind, .int .i64 lx.num, .int .i64 lx.place, .slice A31_1 l31_1 c31_1, .slice A31_2 l31_2 c31_2] 30)
  have g_b5 := (HS51.out.2.2.2.2.1).cell
  have n_b5 := (HS51.out.2.2.2.2.1).lt
  have g_b9 := (HS51.out.2.2.2.2.2.2.1).cell
  have n_b9 := (HS51.out.2.2.2.2.2.2.1).lt
  go_wp2_with fail
  clear g_b5 n_b5 g_b9 n_b9
  obtain ⟨kz, hb, -⟩ := HZ.out
  generalize y37.alloc _ = y38 at kz hb ⊢
  have HS52 := Lib.hid (And.intro (HS51.out.1.trans (hb.mono HS51.out.1.size)) (And.intro (HS51.out.2.1.keeps (keeps_of hb)) (And.intro (HS51.out.2.2.1.keeps (keeps_of hb)) (And.intro (HS51.out.2.2.2.1.keeps (keeps_of hb)) (And.intro (HS51.out.2.2.2.2.1.below hb) (And.intro (HS51.out.2.2.2.2.2.1.keeps (keeps_of hb)) (And.intro (HS51.out.2.2.2.2.2.2.1.below hb) (And.intro (HS51.out.2.2.2.2.2.2.2.1.below (keeps_of hb)) (And.intro (HS51.out.2.2.2.2.2.2.2.2.1.below (keeps_of hb)) (And.intro (HS51.out.2.2.2.2.2.2.2.2.2.1.below (keeps_of hb)) (And.intro (HS51.out.2.2.2.2.2.2.2.2.2.2.below (keeps_of hb)) (kz))))))))))))
  clear HS51
  clear kz hb HZ
  refine (rows4_any pu pu _ _ y38 (by have h := HS52.out.2.2.2.2.2.2.2.1; rw [hpl] at h; exact h) HS52.out.2.2.2.2.2.2.2.2.2.1).mono ?_
  rintro e y39 ⟨rfl, hb⟩
  rw [eqbL_refl]
  have HS53 := Lib.hid (And.intro (HS52.out.1.trans (hb.mono HS52.out.1.size)) (And.intro (HS52.out.2.1.keeps (keeps_of hb)) (And.intro (HS52.out.2.2.1.keeps (keeps_of hb)) (And.intro (HS52.out.2.2.2.1.keeps (keeps_of hb)) (And.intro (HS52.out.2.2.2.2.1.below hb) (And.intro (HS52.out.2.2.2.2.2.1.keeps (keeps_of hb)) (And.intro (HS52.out.2.2.2.2.2.2.1.below hb) (And.intro (HS52.out.2.2.2.2.2.2.2.1.below (keeps_of hb)) (And.intro (HS52.out.2.2.2.2.2.2.2.2.1.below (keeps_of hb)) (And.intro (HS52.out.2.2.2.2.2.2.2.2.2.1.below (keeps_of hb)) (And.intro (HS52.out.2.2.2.2.2.2.2.2.2.2.1.below (keeps_of hb)) (HS52.out.2.2.2.2.2.2.2.2.2.2.2.below hb))))))))))))
  clear HS52
  clear hb
  go_wp2_with fail
  refine (rows4_any li li _ _ y39 (by have h := HS53.out.2.2.2.2.2.2.2.2.1; rw [hll] at h; exact h) HS53.out.2.2.2.2.2.2.2.2.2.2.1).mono ?_
  rintro e y40 ⟨rfl, hb⟩
  rw [eqbL_refl]
  have HS54 := Lib.hid (And.intro (HS53.out.1.trans (hb.mono HS53.out.1.size)) (And.intro (HS53.out.2.1.keeps (keeps_of hb)) (And.intro (HS53.out.2.2.1.keeps (keeps_of hb)) (And.intro (HS53.out.2.2.2.1.keeps (keeps_of hb)) (And.intro (HS53.out.2.2.2.2.1.below hb) (And.intro (HS53.out.2.2.2.2.2.1.keeps (keeps_of hb)) (And.intro (HS53.out.2.2.2.2.2.2.1.below hb) (And.intro (HS53.out.2.2.2.2.2.2.2.1.below (keeps_of hb)) (And.intro (HS53.out.2.2.2.2.2.2.2.2.1.below (keeps_of hb)) (And.intro (HS53.out.2.2.2.2.2.2.2.2.2.1.below (keeps_of hb)) (And.intro (HS53.out.2.2.2.2.2.2.2.2.2.2.1.below (keeps_of hb)) (HS53.out.2.2.2.2.2.2.2.2.2.2.2.below hb))))))))))))
  clear HS53
  clear hb
  go_wp2
  go_ret
  exact ⟨rfl, HS54.out.1⟩
end Go.Proofs.YtebgldnlkkhejaaDoor.PCarryNames
