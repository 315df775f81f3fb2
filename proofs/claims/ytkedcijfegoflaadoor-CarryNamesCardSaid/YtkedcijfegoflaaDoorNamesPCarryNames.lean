/- spandrellaw21.CarryNames: walked. -/
import Derived.Test.YtkedcijfegoflaaDoorAwakePCarryNames
import Derived.Test.YtkedcijfegoflaaDoorRefTmPCarryNames
import Derived.Test.YtkedcijfegoflaaDoorSamePCarryNames
import Derived.Test.YtkedcijfegoflaaDoorWMore
import Derived.Laws.MakeOwn
namespace Go.Proofs.YtkedcijfegoflaaDoor.PCarryNames
set_option linter.unusedSimpArgs false
set_option linter.unusedVariables false
open Go Go.RowKit Go.Proofs.YtkedcijfegoflaaDoor Go.Proofs.YtkedcijfegoflaaDoorW.PrintLast Go.Proofs.YtkedcijfegoflaaDoorW.PrintMore
attribute [local go_sem] max2_int min2_int max_two min_two

/-- Levels of nothing, as make lays them. -/
theorem made_rd (w : World) (g N : Nat) (e : TypeId) (hN : N ≤ 1000) (h : Blk w g (madeCells #[.slice none 0 0] N) e) : RdLvs w (.slice (some ⟨g, 0, none⟩) N N) (List.replicate N []) := by
  refine ⟨some ⟨g, 0, none⟩, N, by simp, by simp, by simp; omega, .inr ⟨g, 0, rfl, RdL.of_get (fun i x hx => ?_)⟩⟩
  obtain ⟨hi, hx⟩ := List.getElem?_eq_some_iff.1 hx
  simp at hi hx
  subst hx
  refine ⟨[.slice none 0 0], rfl, ⟨_, rfl, ⟨none, 0, rfl, by simp, by simp, .inl rfl⟩⟩, fun j u hj => ?_⟩
  match j, hj with
  | 0, hj =>
    simp at hj
    subst hj
    rw [show 0 + i * 1 + 0 = i by omega, h.cell i]
    simp [madeCells, hi, Nat.mod_one]
def tN (kk nn mm : Int) (N : Nat) : Tm := .mk kk nn mm (List.replicate N []) []
def uN (kk nn mm : Int) (N : Nat) : Tm := .mk 6 nn 0 [] [tN kk nn mm N, .mk kk nn 0 [] [tN kk nn mm N]]
theorem names_blocks (w : World) (kk nn mm : Int) (N : Nat) (hN : N ≤ 1000) :
    let W := (((((w.alloc (.cells #[.int .i64 kk, .int .i64 nn, .int .i64 mm, .slice (some ⟨w.heap.size + 1, 0, none⟩) N N, .slice none 0 0] 30)).alloc (.cells (madeCells #[.slice none 0 0] N) 38)).alloc (.cells #[.int .i64 kk, .int .i64 nn, .int .i64 mm, .slice (some ⟨w.heap.size + 1, 0, none⟩) N N, .slice none 0 0] 30)).alloc
      (.cells #[.int .i64 kk, .int .i64 nn, .int .i64 mm, .slice (some ⟨w.heap.size + 1, 0, none⟩) N N, .slice none 0 0, .int .i64 kk, .int .i64 nn, .int .i64 0, .slice none 0 0, .slice (some ⟨w.heap.size + 1 + 1, 0, none⟩) 1 1] 30)).alloc (.cells #[.int .i64 6, .int .i64 nn, .int .i64 0, .slice none 0 0, .slice (some ⟨w.heap.size + 1 + 1 + 1, 0, none⟩) 2 2] 30))
    Blk W w.heap.size #[.int .i64 kk, .int .i64 nn, .int .i64 mm, .slice (some ⟨w.heap.size + 1, 0, none⟩) N N, .slice none 0 0] 30 ∧ Blk W (w.heap.size + 1 + 1 + 1 + 1) #[.int .i64 6, .int .i64 nn, .int .i64 0, .slice none 0 0, .slice (some ⟨w.heap.size + 1 + 1 + 1, 0, none⟩) 2 2] 30 ∧
      In W (tN kk nn mm N) [.int .i64 kk, .int .i64 nn, .int .i64 mm, .slice (some ⟨w.heap.size + 1, 0, none⟩) N N, .slice none 0 0] ∧ In W (uN kk nn mm N) [.int .i64 6, .int .i64 nn, .int .i64 0, .slice none 0 0, .slice (some ⟨w.heap.size + 1 + 1 + 1, 0, none⟩) 2 2] ∧ Below w.heap.size w W := by
  intro W
  obtain ⟨k0, k1, k2, k3, hb, hsz⟩ := blks4 w #[.int .i64 kk, .int .i64 nn, .int .i64 mm, .slice (some ⟨w.heap.size + 1, 0, none⟩) N N, .slice none 0 0] (madeCells #[.slice none 0 0] N) #[.int .i64 kk, .int .i64 nn, .int .i64 mm, .slice (some ⟨w.heap.size + 1, 0, none⟩) N N, .slice none 0 0]
    #[.int .i64 kk, .int .i64 nn, .int .i64 mm, .slice (some ⟨w.heap.size + 1, 0, none⟩) N N, .slice none 0 0, .int .i64 kk, .int .i64 nn, .int .i64 0, .slice none 0 0, .slice (some ⟨w.heap.size + 1 + 1, 0, none⟩) 1 1] 30 38 30 30
  obtain ⟨k4, hb4, hsz4⟩ := blks1 ((((w.alloc (.cells #[.int .i64 kk, .int .i64 nn, .int .i64 mm, .slice (some ⟨w.heap.size + 1, 0, none⟩) N N, .slice none 0 0] 30)).alloc (.cells (madeCells #[.slice none 0 0] N) 38)).alloc (.cells #[.int .i64 kk, .int .i64 nn, .int .i64 mm, .slice (some ⟨w.heap.size + 1, 0, none⟩) N N, .slice none 0 0] 30)).alloc
      (.cells #[.int .i64 kk, .int .i64 nn, .int .i64 mm, .slice (some ⟨w.heap.size + 1, 0, none⟩) N N, .slice none 0 0, .int .i64 kk, .int .i64 nn, .int .i64 0, .slice none 0 0, .slice (some ⟨w.heap.size + 1 + 1, 0, none⟩) 1 1] 30)) #[.int .i64 6, .int .i64 nn, .int .i64 0, .slice none 0 0, .slice (some ⟨w.heap.size + 1 + 1 + 1, 0, none⟩) 2 2] 30
  rw [hsz] at k4
  have k0 := k0.below hb4
  have k1 := k1.below hb4
  have k2 := k2.below hb4
  have k3 := k3.below hb4
  have nil : RdLvs W (.slice none 0 0) [] := ⟨none, 0, rfl, by simp, by simp, .inl rfl⟩
  have nilk : RdTs W (.slice none 0 0) [] := ⟨none, 0, rfl, by simp, by simp, .inl rfl⟩
  have hlv := made_rd W _ N _ hN k1
  have hT : RdT W (tN kk nn mm N) [.int .i64 kk, .int .i64 nn, .int .i64 mm, .slice (some ⟨w.heap.size + 1, 0, none⟩) N N, .slice none 0 0] := (RdT_mk ..).2 ⟨_, _, rfl, hlv, nilk⟩
  have hV : RdT W (.mk kk nn 0 [] [tN kk nn mm N]) [.int .i64 kk, .int .i64 nn, .int .i64 0, .slice none 0 0, .slice (some ⟨w.heap.size + 1 + 1, 0, none⟩) 1 1] := by
    refine (RdT_mk ..).2 ⟨_, _, rfl, nil, ⟨_, 1, rfl, by simp, by simp, .inr ⟨_, 0, rfl, ⟨_, rfl, hT, fun j u hj => ?_⟩, trivial⟩⟩⟩
    rw [Nat.zero_add, k2.cell j]
    simpa using hj
  have hU : RdT W (uN kk nn mm N) [.int .i64 6, .int .i64 nn, .int .i64 0, .slice none 0 0, .slice (some ⟨w.heap.size + 1 + 1 + 1, 0, none⟩) 2 2] := by
    refine (RdT_mk ..).2 ⟨_, _, rfl, nil, ⟨_, 2, rfl, by simp, by simp, .inr ⟨_, 0, rfl, ⟨_, rfl, hT, fun j u hj => ?_⟩, ⟨_, rfl, hV, fun j u hj => ?_⟩, trivial⟩⟩⟩
    · rw [Nat.zero_add, k3.cell j]
      match j, hj with
      | 0, hj => simpa using hj
      | 1, hj => simpa using hj
      | 2, hj => simpa using hj
      | 3, hj => simpa using hj
      | 4, hj => simpa using hj
    · rw [k3.cell]
      match j, hj with
      | 0, hj => simpa using hj
      | 1, hj => simpa using hj
      | 2, hj => simpa using hj
      | 3, hj => simpa using hj
      | 4, hj => simpa using hj
  have okN : Okl (List.replicate N ([] : Lv)) := ⟨by simp; omega, fun l hl => by rw [List.eq_of_mem_replicate hl]; simp⟩
  have ok0 : Okl ([] : List Lv) := ⟨by simp, by simp⟩
  have okT : Okt (tN kk nn mm N) := .mk okN (by simp) (by simp)
  have okV : Okt (.mk kk nn 0 [] [tN kk nn mm N]) := .mk ok0 (by simp) (by simp; exact okT)
  have okU : Okt (uN kk nn mm N) := .mk ok0 (by simp) (by simp; exact ⟨okT, okV⟩)
  refine ⟨k0, by have := k4; rwa [show w.heap.size + 4 = w.heap.size + 1 + 1 + 1 + 1 by omega] at this, ⟨hT, okT, by simp [tN, Tm.nodes, Tm.nodesL]⟩, ⟨hU, okU, by simp [uN, tN, Tm.nodes, Tm.nodesL]⟩, hb.trans (hb4.mono hb.size)⟩
theorem make_lv (N : Nat) (hN : N ≤ 1000) (w : World) : (Instr.makeSlice 27 (.int .i64 (N : Int)) (.int .i64 (N : Int))).run Tryd.prog w = .ok (.slice (some ⟨w.heap.size, 0, none⟩) N N) (w.alloc (.cells (madeCells #[.slice none 0 0] N) 38)) := by
  obtain ⟨i0, hi, hz0, hz1, hz2⟩ := info_parts infoLv
  have := run_make (P := Tryd.prog) w 27 38 i0 _ Tryd.underlying27 hi hz0 .i64 .i64 N N (by omega) (by omega) (by rw [hz2]; omega) (by omega)
  rw [hz1] at this
  simpa [Value.cells] using this
theorem RdL.take {α : Type} {R : α → List Value → Prop} {sz : Nat} {w : World} {b : Nat} : ∀ {xs : List α} {o : Nat} (q : Nat), RdL R sz w b o xs → RdL R sz w b o (xs.take q)
  | [], _, q, _ => by simp [RdL]
  | x :: xs, o, 0, _ => by simp [RdL]
  | x :: xs, o, q + 1, h => ⟨h.1, RdL.take q h.2⟩
theorem RdIs.take {w : World} {A : Option Addr} {n c : Nat} {xs : List Int} (h : RdIs w (.slice A n c) xs) (q : Nat) (hq : q ≤ n) : RdIs w (.slice A q c) (xs.take q) := by
  obtain ⟨A', c', he, h1, h2, h3⟩ := h
  injection he with he1 he2 he3
  subst he1 he2 he3
  have hl : (xs.take q).length = q := by rw [List.length_take]; omega
  refine ⟨A, c, by rw [hl], by omega, by omega, ?_⟩
  rcases h3 with rfl | ⟨b, o, rfl, h3⟩
  · exact .inl (by simp)
  · exact .inr ⟨b, o, rfl, RdL.take q h3⟩
def zeroD : Dc := ⟨0, 0, z, z, [], [], [], []⟩
theorem zeroD_rd (w : World) : RdD w zeroD [.int .i64 0, .int .i64 0, .int .i64 0, .int .i64 0, .int .i64 0, .slice none 0 0, .slice none 0 0, .int .i64 0, .int .i64 0, .int .i64 0, .slice none 0 0, .slice none 0 0, .slice none 0 0, .slice none 0 0, .slice none 0 0, .slice none 0 0] :=
  ⟨_, _, _, _, _, _, rfl, leaf_rd 0 0 0 w, leaf_rd 0 0 0 w, ⟨none, 0, rfl, by simp [zeroD], by simp [zeroD], .inl rfl⟩, ⟨none, 0, rfl, by simp [zeroD], by simp [zeroD], .inl rfl⟩, ⟨none, 0, rfl, by simp [zeroD], by simp [zeroD], .inl rfl⟩, ⟨none, 0, rfl, by simp [zeroD], by simp [zeroD], .inl rfl⟩⟩

set_option maxRecDepth 100000 in
set_option maxHeartbeats 16000000 in
theorem names_any (w : World) (hK : Kinds w) :
    Calls Tryd.prog 3 #[] w fun e w' => e = .returned (.bool true) ∧ Below w.heap.size w w' := by
  have HK := Lib.hid hK
  clear hK
  go_enter Tryd.func3, Tryd.ntmps3
  go_wp2_with fail
  refine (some_any w).mono ?_
  rintro e w1 ⟨A1, c1, rfl, hd, hb1⟩
  have HD := Lib.hid hd
  have HB1 := Lib.hid hb1
  clear hd hb1
  go_wp2_with fail
  refine (refAt_any someDs _ w1 HD.out (by decide)).mono ?_
  rintro e w2 ⟨A2, c2, rfl, ha, hb2⟩
  rw [at_some] at ha ⊢
  have HE := Lib.hid (show CEnv w2 (.slice A1 5 c1) (.slice A2 5 c2) someDs (atI someDs) from ⟨(HK.out.below HB1.out).below hb2, HD.out.below (keeps_of hb2), by rw [at_some]; exact ha⟩)
  have hcap : 5 ≤ c2 := by
    obtain ⟨A, c, he, h1, _⟩ := ha
    injection he with he1 he2 he3
    subst he3
    exact h1
  have HB2 := Lib.hid (HB1.out.trans (hb2.mono HB1.out.size))
  clear ha hb2 HD HB1 HK
  go_wp2_with fail
  go_loopw [3] (fun k wr => ∃ kk : Int, -1 ≤ kk ∧ kk ≤ 26 ∧ k = .int .i64 kk ∧ Hid (Below w2.heap.size w2 wr)) (fun k _ => (26 - intOf k).toNat)
  case atStart => exact ⟨-1, by omega, by omega, rfl, Lib.hid (Below.refl _ _)⟩
  case round =>
    obtain ⟨kk, hk1, hk2, rfl, HW⟩ := hrel
    by_cases hk : kk < 26
    · go_wp2_with fail
      go_loopw [4] (fun n wr => ∃ nn : Int, -1 ≤ nn ∧ nn ≤ 7 ∧ n = .int .i64 nn ∧ Hid (Below w2.heap.size w2 wr)) (fun n _ => (7 - intOf n).toNat)
      case atStart => exact ⟨-1, by omega, by omega, rfl, HW⟩
      case round =>
        obtain ⟨nn, hn1, hn2, rfl, HW⟩ := hrel
        by_cases hn : nn < 7
        · go_wp2_with fail
          go_loopw [5] (fun m wr => ∃ mm : Int, -1 ≤ mm ∧ mm ≤ 4 ∧ m = .int .i64 mm ∧ Hid (Below w2.heap.size w2 wr)) (fun m _ => (4 - intOf m).toNat)
          case atStart => exact ⟨-1, by omega, by omega, rfl, HW⟩
          case round =>
            obtain ⟨mm, hm1, hm2, rfl, HW⟩ := hrel
            by_cases hm : mm < 4
            · rcases (show mm = -1 ∨ ∃ N : Nat, mm = N by by_cases h : mm = -1; exact .inl h; exact .inr ⟨mm.toNat, by omega⟩) with rfl | ⟨N, rfl⟩
              have hmk := make_lv 0 (by omega)
              have hmk' : ∀ w, (Instr.makeSlice 27 (.int .i64 0) (.int .i64 0)).run Tryd.prog w = .ok (.slice (some ⟨w.heap.size, 0, none⟩) 0 0) (w.alloc (.cells (madeCells #[.slice none 0 0] 0) 38)) := fun w => hmk w
              clear hmk
              go_wp2_with fail
              refine (nameL_any _ _ _ _).mono ?_
              rintro e w3 ⟨rfl, hb⟩
              have HB3 := Lib.hid (HW.out.trans (hb.mono HW.out.size))
              clear hb
              have HF := Lib.hid (names_blocks w3 kk nn (-1) 0 (by omega))
              go_wp2_with fail
              rotate_left
              have hmk := make_lv N (by omega)
              have hN0 : ¬ ((N : Int) < 0) := by omega
              go_wp2_with fail
              refine (nameL_any _ _ _ _).mono ?_
              rintro e w3 ⟨rfl, hb⟩
              have HB3 := Lib.hid (HW.out.trans (hb.mono HW.out.size))
              clear hb
              have HF := Lib.hid (names_blocks w3 kk nn N N (by omega))
              go_wp2_with fail
              rotate_left
              all_goals
                generalize (((((w3.alloc _).alloc _).alloc _).alloc _).alloc _) = W at *
                have HWW := Lib.hid (HB3.out.trans (HF.out.2.2.2.2.mono HB3.out.size))
                go_loopw [8] (fun n wr => ∃ q : Nat, q ≤ 11 ∧ n = .int .i64 q ∧ Hid (Below W.heap.size W wr)) (fun n _ => (12 - intOf n).toNat)
                case atStart => exact ⟨0, by omega, rfl, Lib.hid (Below.refl _ _)⟩
                case round =>
                  obtain ⟨q, hq, rfl, HV⟩ := hrel
                  by_cases hq6 : q < 6
                  · have hq5 : ¬ ((5 : Int) < (q : Int)) := by omega
                    have hq0 : (0 : Int) ≤ (q : Int) := Int.natCast_nonneg _
                    have hqc : (q : Int) ≤ (c2 : Int) := by omega
                    have hqc' : q ≤ c2 := by omega
                    have hb2r := HWW.out.trans (HV.out.mono HWW.out.size)
                    have HC1 := Lib.hid (fun W' (hb : Below wr.heap.size wr W') => let hE := (HE.out.below hb2r).below hb
                      Term_any someDs ((atI someDs).take q) _ (.slice A1 5 c1) (.slice A2 q c2) _ W' ⟨hE.hK, hE.hd, RdIs.take hE.ha q (by omega)⟩ (HF.out.2.2.2.1.keeps (keeps_of (HV.out.trans (hb.mono HV.out.size)))))
                    have HC2 := Lib.hid (fun W' (hb : Below wr.heap.size wr W') => let hE := (HE.out.below hb2r).below hb
                      refTerm_any someDs ((atI someDs).take q) _ (.slice A1 5 c1) (.slice A2 q c2) _ W' ⟨hE.hd, RdIs.take hE.ha q (by omega)⟩ (HF.out.2.2.2.1.keeps (keeps_of (HV.out.trans (hb.mono HV.out.size)))))
                    have HC3 := Lib.hid (fun W' (hb : Below wr.heap.size wr W') => let hE := (HE.out.below hb2r).below hb
                      Term_any someDs (atI someDs) _ (.slice A1 5 c1) (.slice A2 5 c2) _ W' ⟨hE.hK, hE.hd, hE.ha⟩ (HF.out.2.2.1.keeps (keeps_of (HV.out.trans (hb.mono HV.out.size)))))
                    have HC4 := Lib.hid (fun W' (hb : Below wr.heap.size wr W') => let hE := (HE.out.below hb2r).below hb
                      refTerm_any someDs (atI someDs) _ (.slice A1 5 c1) (.slice A2 5 c2) _ W' ⟨hE.hd, hE.ha⟩ (HF.out.2.2.1.keeps (keeps_of (HV.out.trans (hb.mono HV.out.size)))))
                    have k6 := HF.out.1.below HV.out
                    have k7 := HF.out.2.1.below HV.out
                    have g6 := k6.cell
                    have g7 := k7.cell
                    have n6 := k6.lt
                    have n7 := k7.lt
                    clear hb2r k6 k7
                    go_wp2_with fail
                    refine start_ (n := 22) (S := fun W' => ∀ b o, b < wr.heap.size → W'.cell? ⟨b, o, none⟩ = wr.cell? ⟨b, o, none⟩) (ds := []) #[false, false, false, false, false, false, false, false, false, false, false, false, false, false, false, false, false, false, false, false, false, false] (by kernel_rfl) rfl rfl (by exact (fun _ _ _ => rfl)) (fun hHeld => ?_)
                    refine take_ (i := 0) (N := some 52) (v := ?_) (a' := ?_) #[true, false, false, false, false, false, false, false, false, false, false, false, false, false, false, false, false, false, false, false, false, false] rfl rfl (by kernel_rfl) (fun _ _ _ h => h) (Or.inl ⟨by rfl, ?_⟩) hHeld ?_ ?_
                    rotate_left
                    · rintro w' hS'
                      go_simp
                      with_reducible rfl
                    rotate_left
                    · simp only [Act.put, List.setIfInBounds_toArray, List.set_cons_zero, List.set_cons_succ]
                      rfl
                    refine take_ (i := 1) (N := some 53) (v := ?_) (a' := ?_) #[true, true, false, false, false, false, false, false, false, false, false, false, false, false, false, false, false, false, false, false, false, false] rfl rfl (by kernel_rfl) (fun _ _ _ h => h) (Or.inl ⟨by rfl, ?_⟩) hHeld ?_ ?_
                    rotate_left
                    · rintro w' hS'
                      go_simp
                      with_reducible rfl
                    rotate_left
                    · simp only [Act.put, List.setIfInBounds_toArray, List.set_cons_zero, List.set_cons_succ]
                      rfl
                    refine take_ (i := 2) (N := some 54) (v := ?_) (a' := ?_) #[true, true, true, false, false, false, false, false, false, false, false, false, false, false, false, false, false, false, false, false, false, false] rfl rfl (by kernel_rfl) (fun _ _ _ h => h) (Or.inl ⟨by rfl, ?_⟩) hHeld ?_ ?_
                    rotate_left
                    · rintro w' hS'
                      go_simp
                      with_reducible rfl
                    rotate_left
                    · simp only [Act.put, List.setIfInBounds_toArray, List.set_cons_zero, List.set_cons_succ]
                      rfl
                    refine take_ (i := 4) (N := some 56) (v := ?_) (a' := ?_) #[true, true, true, false, true, false, false, false, false, false, false, false, false, false, false, false, false, false, false, false, false, false] rfl rfl (by kernel_rfl) (fun _ _ _ h => h) (Or.inl ⟨by rfl, ?_⟩) hHeld ?_ ?_
                    rotate_left
                    · rintro w' hS'
                      go_simp
                      with_reducible rfl
                    rotate_left
                    · simp only [Act.put, List.setIfInBounds_toArray, List.set_cons_zero, List.set_cons_succ]
                      rfl
                    refine take_ (i := 5) (N := some 57) (v := ?_) (a' := ?_) #[true, true, true, false, true, true, false, false, false, false, false, false, false, false, false, false, false, false, false, false, false, false] rfl rfl (by kernel_rfl) (fun _ _ _ h => h) (Or.inl ⟨by rfl, ?_⟩) hHeld ?_ ?_
                    rotate_left
                    · rintro w' hS'
                      go_simp
                      with_reducible rfl
                    rotate_left
                    · simp only [Act.put, List.setIfInBounds_toArray, List.set_cons_zero, List.set_cons_succ]
                      rfl
                    refine take_ (i := 6) (N := some 58) (v := ?_) (a' := ?_) #[true, true, true, false, true, true, true, false, false, false, false, false, false, false, false, false, false, false, false, false, false, false] rfl rfl (by kernel_rfl) (fun _ _ _ h => h) (Or.inl ⟨by rfl, ?_⟩) hHeld ?_ ?_
                    rotate_left
                    · rintro w' hS'
                      go_simp
                      with_reducible rfl
                    rotate_left
                    · simp only [Act.put, List.setIfInBounds_toArray, List.set_cons_zero, List.set_cons_succ]
                      rfl
                    refine one_ (i := 3) (N := some 55) #[true, true, true, true, true, true, true, false, false, false, false, false, false, false, false, false, false, false, false, false, false, false] rfl rfl (by kernel_rfl) (by decide) (fun K hK => ?_)
                    go_simp
                    refine (HC1.out _ (Below.refl _ _).drew).mono ?_
                    rintro e w4 ⟨cs4, F4, rfl, hO4, hF4, hb4⟩
                    obtain ⟨B1, m1, d1, B2, m2, d2, rfl⟩ := hO4.cells
                    have H4 := Lib.hid (And.intro hO4.rd (undrew hb4))
                    clear hO4 hF4 hb4
                    refine hK.out _ _ (keeps_of H4.out.2) (fun hHeld => ?_)
                    clear hK K
                    refine norm_ (a' := ?_) ?_ ?_
                    rotate_left
                    · first
                        | rfl
                        | (simp only [Act.put, List.setIfInBounds_toArray, List.set_cons_zero, List.set_cons_succ]; rfl)
                    refine one_ (i := 7) (N := some 59) #[true, true, true, true, true, true, true, true, false, false, false, false, false, false, false, false, false, false, false, false, false, false] rfl rfl (by kernel_rfl) (by decide) (fun K hK => ?_)
                    go_simp
                    refine (HC2.out _ H4.out.2).mono ?_
                    rintro e w5 ⟨cs5, F5, rfl, hO5, hF5, hb5⟩
                    obtain ⟨B3, m3, d3, B4, m4, d4, rfl⟩ := hO5.cells
                    have H5 := Lib.hid (And.intro hO5.rd (And.intro hb5 (H4.out.2.trans (hb5.mono H4.out.2.size))))
                    clear hO5 hF5 hb5
                    refine hK.out _ _ (keeps_of H5.out.2.2) (fun hHeld => ?_)
                    clear hK K
                    refine norm_ (a' := ?_) ?_ ?_
                    rotate_left
                    · first
                        | rfl
                        | (simp only [Act.put, List.setIfInBounds_toArray, List.set_cons_zero, List.set_cons_succ]; rfl)
                    refine one_ (i := 8) (N := some 60) #[true, true, true, true, true, true, true, true, true, false, false, false, false, false, false, false, false, false, false, false, false, false] rfl rfl (by kernel_rfl) (by decide) (fun K hK => ?_)
                    go_simp
                    refine (Same_any _ _ _ _ w5 (RdT.below (keeps_of H5.out.2.1) _ _ H4.out.1) H5.out.1).mono ?_
                    rintro e w6 ⟨rfl, hb6⟩
                    rw [eqb_refl]
                    have H6 := Lib.hid (H5.out.2.2.trans (hb6.mono H5.out.2.2.size))
                    clear hb6
                    refine hK.out _ _ (keeps_of H6.out) (fun hHeld => ?_)
                    clear hK K
                    refine norm_ (a' := ?_) ?_ ?_
                    rotate_left
                    · first
                        | rfl
                        | (simp only [Act.put, List.setIfInBounds_toArray, List.set_cons_zero, List.set_cons_succ]; rfl)
                    refine pure_ (i := 9) (N := some 61) (v := ?_) (a' := ?_) #[true, true, true, true, true, true, true, true, true, true, false, false, false, false, false, false, false, false, false, false, false, false] rfl rfl (by kernel_rfl) (fun _ _ _ h => h) (Or.inl ⟨by rfl, ?_⟩) ?_ ?_
                    rotate_left
                    · rintro w'
                      go_simp
                      with_reducible rfl
                    rotate_left
                    · simp only [Act.put, List.setIfInBounds_toArray, List.set_cons_zero, List.set_cons_succ]
                      rfl
                    refine pure_ (i := 10) (N := some 62) (v := ?_) (a' := ?_) #[true, true, true, true, true, true, true, true, true, true, true, false, false, false, false, false, false, false, false, false, false, false] rfl rfl (by kernel_rfl) (fun _ _ _ h => h) (Or.inl ⟨by rfl, ?_⟩) ?_ ?_
                    rotate_left
                    · rintro w'
                      go_simp
                      with_reducible rfl
                    rotate_left
                    · simp only [Act.put, List.setIfInBounds_toArray, List.set_cons_zero, List.set_cons_succ]
                      rfl
                    refine take_ (i := 11) (N := some 63) (v := ?_) (a' := ?_) #[true, true, true, true, true, true, true, true, true, true, true, true, false, false, false, false, false, false, false, false, false, false] rfl rfl (by kernel_rfl) (fun _ _ _ h => h) (Or.inl ⟨by rfl, ?_⟩) hHeld ?_ ?_
                    rotate_left
                    · rintro w' hS'
                      go_simp
                      with_reducible rfl
                    rotate_left
                    · simp only [Act.put, List.setIfInBounds_toArray, List.set_cons_zero, List.set_cons_succ]
                      rfl
                    refine take_ (i := 12) (N := some 64) (v := ?_) (a' := ?_) #[true, true, true, true, true, true, true, true, true, true, true, true, true, false, false, false, false, false, false, false, false, false] rfl rfl (by kernel_rfl) (fun _ _ _ h => h) (Or.inl ⟨by rfl, ?_⟩) hHeld ?_ ?_
                    rotate_left
                    · rintro w' hS'
                      go_simp
                      with_reducible rfl
                    rotate_left
                    · simp only [Act.put, List.setIfInBounds_toArray, List.set_cons_zero, List.set_cons_succ]
                      rfl
                    refine take_ (i := 13) (N := some 65) (v := ?_) (a' := ?_) #[true, true, true, true, true, true, true, true, true, true, true, true, true, true, false, false, false, false, false, false, false, false] rfl rfl (by kernel_rfl) (fun _ _ _ h => h) (Or.inl ⟨by rfl, ?_⟩) hHeld ?_ ?_
                    rotate_left
                    · rintro w' hS'
                      go_simp
                      with_reducible rfl
                    rotate_left
                    · simp only [Act.put, List.setIfInBounds_toArray, List.set_cons_zero, List.set_cons_succ]
                      rfl
                    refine take_ (i := 15) (N := some 67) (v := ?_) (a' := ?_) #[true, true, true, true, true, true, true, true, true, true, true, true, true, true, false, true, false, false, false, false, false, false] rfl rfl (by kernel_rfl) (fun _ _ _ h => h) (Or.inl ⟨by rfl, ?_⟩) hHeld ?_ ?_
                    rotate_left
                    · rintro w' hS'
                      go_simp
                      with_reducible rfl
                    rotate_left
                    · simp only [Act.put, List.setIfInBounds_toArray, List.set_cons_zero, List.set_cons_succ]
                      rfl
                    refine take_ (i := 16) (N := some 68) (v := ?_) (a' := ?_) #[true, true, true, true, true, true, true, true, true, true, true, true, true, true, false, true, true, false, false, false, false, false] rfl rfl (by kernel_rfl) (fun _ _ _ h => h) (Or.inl ⟨by rfl, ?_⟩) hHeld ?_ ?_
                    rotate_left
                    · rintro w' hS'
                      go_simp
                      with_reducible rfl
                    rotate_left
                    · simp only [Act.put, List.setIfInBounds_toArray, List.set_cons_zero, List.set_cons_succ]
                      rfl
                    refine take_ (i := 17) (N := some 69) (v := ?_) (a' := ?_) #[true, true, true, true, true, true, true, true, true, true, true, true, true, true, false, true, true, true, false, false, false, false] rfl rfl (by kernel_rfl) (fun _ _ _ h => h) (Or.inl ⟨by rfl, ?_⟩) hHeld ?_ ?_
                    rotate_left
                    · rintro w' hS'
                      go_simp
                      with_reducible rfl
                    rotate_left
                    · simp only [Act.put, List.setIfInBounds_toArray, List.set_cons_zero, List.set_cons_succ]
                      rfl
                    refine one_ (i := 14) (N := some 66) #[true, true, true, true, true, true, true, true, true, true, true, true, true, true, true, true, true, true, false, false, false, false] rfl rfl (by kernel_rfl) (by decide) (fun K hK => ?_)
                    go_simp
                    refine (HC3.out _ H6.out).mono ?_
                    rintro e w7 ⟨cs7, F7, rfl, hO7, hF7, hb7⟩
                    obtain ⟨B5, m5, d5, B6, m6, d6, rfl⟩ := hO7.cells
                    have H7 := Lib.hid (And.intro hO7.rd (H6.out.trans (hb7.mono H6.out.size)))
                    clear hO7 hF7 hb7
                    refine hK.out _ _ (keeps_of H7.out.2) (fun hHeld => ?_)
                    clear hK K
                    refine norm_ (a' := ?_) ?_ ?_
                    rotate_left
                    · first
                        | rfl
                        | (simp only [Act.put, List.setIfInBounds_toArray, List.set_cons_zero, List.set_cons_succ]; rfl)
                    refine one_ (i := 18) (N := some 70) #[true, true, true, true, true, true, true, true, true, true, true, true, true, true, true, true, true, true, true, false, false, false] rfl rfl (by kernel_rfl) (by decide) (fun K hK => ?_)
                    go_simp
                    refine (HC4.out _ H7.out.2).mono ?_
                    rintro e w8 ⟨cs8, F8, rfl, hO8, hF8, hb8⟩
                    obtain ⟨B7, m7, d7, B8, m8, d8, rfl⟩ := hO8.cells
                    have H8 := Lib.hid (And.intro hO8.rd (And.intro hb8 (H7.out.2.trans (hb8.mono H7.out.2.size))))
                    clear hO8 hF8 hb8
                    refine hK.out _ _ (keeps_of H8.out.2.2) (fun hHeld => ?_)
                    clear hK K
                    refine norm_ (a' := ?_) ?_ ?_
                    rotate_left
                    · first
                        | rfl
                        | (simp only [Act.put, List.setIfInBounds_toArray, List.set_cons_zero, List.set_cons_succ]; rfl)
                    refine one_ (i := 19) (N := some 71) #[true, true, true, true, true, true, true, true, true, true, true, true, true, true, true, true, true, true, true, true, false, false] rfl rfl (by kernel_rfl) (by decide) (fun K hK => ?_)
                    go_simp
                    refine (Same_any _ _ _ _ w8 (RdT.below (keeps_of H8.out.2.1) _ _ H7.out.1) H8.out.1).mono ?_
                    rintro e w9 ⟨rfl, hb9⟩
                    rw [eqb_refl]
                    have H9 := Lib.hid (H8.out.2.2.trans (hb9.mono H8.out.2.2.size))
                    clear hb9
                    refine hK.out _ _ (keeps_of H9.out) (fun hHeld => ?_)
                    clear hK K
                    refine norm_ (a' := ?_) ?_ ?_
                    rotate_left
                    · first
                        | rfl
                        | (simp only [Act.put, List.setIfInBounds_toArray, List.set_cons_zero, List.set_cons_succ]; rfl)
                    refine pure_ (i := 20) (N := some 72) (v := ?_) (a' := ?_) #[true, true, true, true, true, true, true, true, true, true, true, true, true, true, true, true, true, true, true, true, true, false] rfl rfl (by kernel_rfl) (fun _ _ _ h => h) (Or.inl ⟨by rfl, ?_⟩) ?_ ?_
                    rotate_left
                    · rintro w'
                      go_simp
                      with_reducible rfl
                    rotate_left
                    · simp only [Act.put, List.setIfInBounds_toArray, List.set_cons_zero, List.set_cons_succ]
                      rfl
                    refine pure_ (i := 21) (N := some 73) (v := ?_) (a' := ?_) #[true, true, true, true, true, true, true, true, true, true, true, true, true, true, true, true, true, true, true, true, true, true] rfl rfl (by kernel_rfl) (fun _ _ _ h => h) (Or.inl ⟨by rfl, ?_⟩) ?_ ?_
                    rotate_left
                    · rintro w'
                      go_simp
                      with_reducible rfl
                    rotate_left
                    · simp only [Act.put, List.setIfInBounds_toArray, List.set_cons_zero, List.set_cons_succ]
                      rfl
                    refine done_ (by kernel_rfl) ?_
                    go_wp2
                    go_roundw
                    case rel => exact ⟨q + 1 + q, by omega, by go_num, Lib.hid (HV.out.trans (H9.out.mono HV.out.size))⟩
                    case measure => simp [intOf]; omega
                  · go_wp2
                    go_roundw
                    case rel => first | exact ⟨0, by omega, by omega, by first | rfl | go_num, Lib.hid (HWW.out.trans (HV.out.mono HWW.out.size))⟩ | exact ⟨(N : Int) + 1, by omega, by omega, by first | rfl | go_num, Lib.hid (HWW.out.trans (HV.out.mono HWW.out.size))⟩
                    case measure => first | (simp [intOf]; done) | (simp [intOf]; omega)
            · go_wp2
              go_roundw
              case rel => exact ⟨nn + 1, by omega, by omega, by go_num, HW⟩
              case measure => simp [intOf]; omega
        · go_wp2
          go_roundw
          case rel => exact ⟨kk + 1, by omega, by omega, by go_num, HW⟩
          case measure => simp [intOf]; omega
    · have HX := Lib.hid (HB2.out.trans (HW.out.mono HB2.out.size))
      have HKr := Lib.hid ((HE.out.below HW.out).hK)
      clear HE HW hk1 hk2 hcap
      go_wp2_with fail
      refine (Count_any zeroD _ wr (zeroD_rd wr)).mono ?_
      rintro e w3 ⟨rfl, hb3⟩
      rw [show countI zeroD = 0 by decide]
      have HB3 := Lib.hid hb3
      clear hb3
      go_wp2_with fail
      refine (At_any [] _ w3 ⟨none, 0, rfl, by simp, by simp, .inl rfl⟩ (by simp)).mono ?_
      rintro e w4 ⟨A3, c3, rfl, _, hb4⟩
      have HB4 := Lib.hid (HB3.out.trans (hb4.mono HB3.out.size))
      clear hb4 HB3
      rw [show (atI []).length = 0 from rfl]
      go_wp2_with fail
      refine (awake_any w4 (HKr.out.below HB4.out)).mono ?_
      rintro e w5 ⟨rfl, hb5⟩
      have HB5 := Lib.hid (HB4.out.trans (hb5.mono HB4.out.size))
      clear hb5 HB4
      go_wp2
      go_ret
      exact ⟨rfl, HX.out.trans (HB5.out.mono HX.out.size)⟩
end Go.Proofs.YtkedcijfegoflaaDoor.PCarryNames
