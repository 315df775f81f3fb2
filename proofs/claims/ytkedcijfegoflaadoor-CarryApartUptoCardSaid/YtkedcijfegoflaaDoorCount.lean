/- carry: Count, At. -/
import Derived.Test.YtkedcijfegoflaaDoorCarry2
import Derived.Test.YtkedcijfegoflaaDoorWWords
namespace Go.Proofs.YtkedcijfegoflaaDoor
set_option linter.unusedSimpArgs false
set_option linter.unusedVariables false
open Go Go.RowKit Go.Proofs.YtkedcijfegoflaaDoorW.PrintLast

def countI (d : Dc) : Int := if d.kind = 1 ∨ d.kind = 2 then 1 else if d.kind = 3 then wrap64 (wrap64 (6 + wrap64 (2 * d.members.length)) + wrap64 (2 * d.ctors.length)) else 0
set_option maxRecDepth 100000 in
set_option maxHeartbeats 1000000 in
theorem Count_any (d : Dc) (cs : List Value) (w : World) (h : RdD w d cs) :
    Calls Tryd.prog 14 #[.agg cs.toArray] w fun e w' => e = .returned (.int .i64 (countI d)) ∧ Below w.heap.size w w' := by
  obtain ⟨t0, t1, t2, b0, b1, b2, A1, l1, c1, A2, l2, c2, A3, l3, c3, A4, l4, c4, A5, l5, c5, A6, l6, c6, A7, c7, A8, c8, rfl⟩ := h.cells
  clear h
  have hb : ∀ o, Below w.heap.size w (w.alloc o) := fun o => (Below.refl _ _).alloc (Nat.le_refl _) o
  by_cases h1 : d.kind = 1
  · rw [show countI d = 1 by unfold countI; rw [if_pos (.inl h1)]]
    go_enter Tryd.func14, Tryd.ntmps14
    go_wp2
    go_ret
    exact ⟨rfl, hb _⟩
  by_cases h2 : d.kind = 2
  · rw [show countI d = 1 by unfold countI; rw [if_pos (.inr h2)]]
    go_enter Tryd.func14, Tryd.ntmps14
    go_wp2
    go_ret
    exact ⟨rfl, hb _⟩
  by_cases h3 : d.kind = 3
  · rw [show countI d = wrap64 (wrap64 (6 + wrap64 (2 * d.members.length)) + wrap64 (2 * d.ctors.length)) by unfold countI; rw [if_neg (by omega), if_pos h3]]
    go_enter Tryd.func14, Tryd.ntmps14
    go_wp2
    go_ret
    exact ⟨ret_int (by simp [wrapEq]), hb _⟩
  · rw [show countI d = 0 by unfold countI; rw [if_neg (by omega), if_neg h3]]
    go_enter Tryd.func14, Tryd.ntmps14
    go_wp2
    go_ret
    exact ⟨rfl, hb _⟩
/-! ### The bases -/
theorem infoInt : (Tryd.prog.info? 3).map (fun i => (i.zero, i.size, i.bytes)) = some (some (.int .i64 0), 1, 8) := by kernel_rfl
def atFrom : Int → List Dc → List Int
  | _, [] => []
  | n, d :: ds => n :: atFrom (wrap64 (n + countI d)) ds
def sumFrom : Int → List Dc → Int
  | n, [] => n
  | n, d :: ds => sumFrom (wrap64 (n + countI d)) ds
def atI (ds : List Dc) : List Int := atFrom 0 ds
theorem atFrom_length : ∀ (ds : List Dc) (n : Int), (atFrom n ds).length = ds.length
  | [], _ => rfl
  | d :: ds, n => by simp [atFrom, atFrom_length ds]
theorem atFrom_snoc : ∀ (ds : List Dc) (n : Int) (j : Nat) (h : j < ds.length), atFrom n (ds.take (j + 1)) = atFrom n (ds.take j) ++ [sumFrom n (ds.take j)]
  | [], _, _, h => by simp at h
  | d :: ds, n, 0, _ => by simp [atFrom, sumFrom]
  | d :: ds, n, j + 1, h => by
    simp only [List.take_succ_cons, atFrom, sumFrom, List.cons_append]
    rw [atFrom_snoc ds _ j (by simpa using h)]
theorem sumFrom_snoc : ∀ (ds : List Dc) (n : Int) (j : Nat) (h : j < ds.length), sumFrom n (ds.take (j + 1)) = wrap64 (sumFrom n (ds.take j) + countI ds[j])
  | [], _, _, h => by simp at h
  | d :: ds, n, 0, _ => by simp [sumFrom]
  | d :: ds, n, j + 1, h => by
    simp only [List.take_succ_cons, sumFrom, List.getElem_cons_succ]
    rw [sumFrom_snoc ds _ j (by simpa using h)]
/-- A row of numbers of one's own is read. -/
theorem RdIs_own {w : World} {v : Value} {l : List Int} (h : w.ownsRow 0 3 1 v l.length (l.map (Value.int .i64))) (hl : l.length ≤ 9223372036854775807) : RdIs w v l := by
  rcases h.2 with ⟨rfl, h0⟩ | ⟨g, cap, cur, rfl, _, hh, hn, hm, hs, ht⟩
  · exact ⟨none, 0, by rw [h0], by omega, by omega, .inl (List.eq_nil_of_length_eq_zero h0)⟩
  · refine ⟨_, cap, rfl, hn, by simp only [maxLen] at hm; omega, .inr ⟨g, 0, rfl, ?_⟩⟩
    have key : ∀ (l : List Int) (o : Nat), (∀ j x, l[j]? = some x → w.cell? ⟨g, o + j, none⟩ = some (.int .i64 x)) → RdL (fun x cs => cs = [Value.int .i64 x]) 1 w g o l := by
      intro l
      induction l with
      | nil => intro o _; trivial
      | cons b cs ih =>
        intro o hc
        refine ⟨⟨[.int .i64 b], rfl, rfl, fun j u hj => ?_⟩, ih (o + 1) (fun j b' hj => ?_)⟩
        · match j, hj with
          | 0, hj => simp at hj; subst hj; exact hc 0 b rfl
        · have := hc (j + 1) b' (by simpa using hj)
          rwa [show o + (j + 1) = o + 1 + j by omega] at this
    refine key l 0 (fun j x hj => ?_)
    have := h.cells (g := g) rfl j (.int .i64 x) (by simp [hj])
    rwa [addr0] at this
structure AInv (w : World) (v : Value) (l : List Int) (wr : World) : Prop where
  hb : Below w.heap.size w wr
  hO : wr.ownsRow w.heap.size 3 1 v l.length (l.map (Value.int .i64))
set_option maxRecDepth 100000 in
set_option maxHeartbeats 2000000 in
theorem At_any (ds : List Dc) (vd : Value) (w : World) (h : RdDs w vd ds) (hl : ds.length ≤ 1099511627776) :
    Calls Tryd.prog 15 #[vd] w fun e w' => ∃ A c, e = .returned (.slice A (atI ds).length c) ∧ RdIs w' (.slice A (atI ds).length c) (atI ds) ∧ Below w.heap.size w w' := by
  obtain ⟨Ad, cd, rfl, hc, hm, hr⟩ := id h
  have HR := Lib.hid hr
  have HL := Lib.hid hl
  have hkl : (ds.length : Int) ≤ 9223372036854775807 := by omega
  have HI := Lib.hid (show AInv w (.slice none 0 0) (atFrom 0 (ds.take 0)) w from ⟨Below.refl _ _, by simp [atFrom]; exact World.ownsRow_nil _ _ _ _⟩)
  clear h hc hm hr hl
  go_enter Tryd.func15, Tryd.ntmps15
  go_wp2_with fail
  go_loopw [2, 3, 8] (fun v n i wr => ∃ j : Nat, j ≤ ds.length ∧ i = .int .i64 j ∧ n = .int .i64 (sumFrom 0 (ds.take j)) ∧ ∃ A c, v = .slice A j c ∧ Hid (AInv w (.slice A j c) (atFrom 0 (ds.take j)) wr)) (fun _ _ i _ => ds.length - (intOf i).toNat)
  case atStart => exact ⟨0, by omega, rfl, rfl, none, 0, rfl, HI⟩
  case round =>
    obtain ⟨j, hj, rfl, rfl, A, c, rfl, HV⟩ := hrel
    clear HI
    by_cases hlt : j < ds.length
    · rcases HR.out with rfl | ⟨b, o, rfl, hkr⟩
      · simp at hlt
      obtain ⟨t0, t1, t2, b0, b1, b2, A1, l1, c1, A2, l2, c2, A3, l3, c3, A4, l4, c4, A5, l5, c5, A6, l6, c6, A7, c7, A8, c8, hrd, e0, e1, e2, e3, e4, e5, e6, e7, e8, e9, e10, e11, e12, e13, e14, e15, hbl⟩ := RdD_at hkr j hlt
      have hv := HV.out
      have hcw := (bcell hv.hb).1
      have HD := Lib.hid hrd
      have hj0 : (0 : Int) ≤ (j : Int) := Int.natCast_nonneg _
      have hj1 : (j : Int) < (ds.length : Int) := by omega
      have hl0 : (atFrom 0 (ds.take j)).length = j := by rw [atFrom_length, List.length_take]; omega
      have hO := hv.hO
      rw [hl0] at hO
      have HO := Lib.hid hO
      clear hkr hv hrd hO hl0
      have HN := Lib.hid (fun x => (blks2 wr x #[.int .i64 (sumFrom 0 (ds.take j))] 42 3).2.1)
      have HS := Lib.hid (show w.heap.size ≤ wr.heap.size from HV.out.hb.size)
      go_wp2_with (at_builtin; refine wpList_app rfl (.tmp 12) (.tmp 14) 24 rfl w.heap.size 3 _ 1 8 Tryd.underlying24 infoInt rfl (by decide) (.slice A j c) j ((atFrom 0 (ds.take j)).map (Value.int .i64)) rfl ((HO.out.alloc _).alloc _) ⟨wr.heap.size + 1, 0, none⟩ 1 1 [.int .i64 (sumFrom 0 (ds.take j))] rfl rfl (news_at (HN.out _)) (by simp [Value.oneCell']) (by have := HL.out; simp only [maxLen]; omega) (by have := HL.out; omega) (by have := HS.out; simp; omega) ?_)
      intro v2 w5 hown2 hg hat
      obtain ⟨A9, c9, rfl⟩ := own_slice hown2
      have HK0 := Lib.hid (blks2 wr #[.int .i64 ds[j].kind, .int .i64 ds[j].levels, .int .i64 t0, .int .i64 t1, .int .i64 t2, .slice A1 l1 c1, .slice A2 l2 c2, .int .i64 b0, .int .i64 b1, .int .i64 b2, .slice A3 l3 c3, .slice A4 l4 c4, .slice A5 l5 c5, .slice A6 l6 c6, .slice A7 ds[j].members.length c7, .slice A8 ds[j].ctors.length c8] #[.int .i64 (sumFrom 0 (ds.take j))] 42 3)
      generalize ((wr.alloc _).alloc _) = W at *
      have hvlt : ∀ q, (Value.slice A j c).ownBlock = some q → w.heap.size ≤ q ∧ q < wr.heap.size := fun q hq => HO.out.lt q hq
      have k5 : Blk w5 wr.heap.size _ _ := (hg.block _ HK0.out.1.lt (fun e => by have := (hvlt _ e.symm).2; omega)).trans HK0.out.1
      have hsW := HK0.out.2.2.2
      have hbW := HK0.out.2.2.1
      have hs5 := hg.size
      have hb5 : Below w.heap.size w w5 := ⟨by rw [hg.os, hbW.os, HV.out.hb.os], by rw [hg.tape, hbW.tape, HV.out.hb.tape], by rw [hg.output, hbW.output, HV.out.hb.output], by have := HS.out; omega, fun q hq => by
        have := HS.out
        rw [hg.block q (by omega) (fun e => by have := (hvlt _ e.symm).1; omega), hbW.block q (by omega), HV.out.hb.block q hq]⟩
      have hrd5 : RdD w5 ds[j] _ := RdD.below (keeps_of hb5) HD.out
      have HC := Lib.hid (Count_any ds[j] _ w5 hrd5)
      have n5 := k5.lt
      have g5 := k5.cell
      have HO5 := Lib.hid (And.intro hown2 hb5)
      have e0' : sumFrom 0 (ds.take (j + 1)) = wrap64 (sumFrom 0 (ds.take j) + countI ds[j]) := sumFrom_snoc ds 0 j hlt
      have e1' : atFrom 0 (ds.take (j + 1)) = atFrom 0 (ds.take j) ++ [sumFrom 0 (ds.take j)] := atFrom_snoc ds 0 j hlt
      have HE := Lib.hid (And.intro e0' e1')
      clear e0 e1 e2 e3 e4 e5 e6 e7 e8 e9 e10 e11 e12 e13 e14 e15 hcw hg hat hown2 hb5 hrd5 k5 hsW hbW hs5 hvlt e0' e1' HK0 HN
      go_wp2_with fail
      refine HC.out.mono ?_
      rintro e w6 ⟨rfl, hb6⟩
      have HB6 := Lib.hid hb6
      clear hb6 g5
      go_wp2
      go_roundw
      case rel =>
        refine ⟨j + 1, by omega, by go_num, by rw [HE.out.1], A9, c9, rfl, ⟨HO5.out.2.trans (HB6.out.mono HO5.out.2.size), ?_⟩⟩
        rw [HE.out.2, List.length_append, atFrom_length, List.length_take, Nat.min_eq_left (Nat.le_of_lt hlt), List.map_append]
        exact ownsRow_move HO5.out.1 (fun q hq => HB6.out.block q (HO5.out.1.lt q hq).2)
      case measure => simp [intOf]; omega
    · go_wp2
      go_ret
      have hjk : j = ds.length := by omega
      subst hjk
      obtain ⟨hb', hO⟩ := HV.out
      rw [List.take_length] at hO
      have hl : (atI ds).length = ds.length := atFrom_length ds 0
      have hO : wr.ownsRow w.heap.size 3 1 (.slice A ds.length c) (atI ds).length ((atI ds).map (Value.int .i64)) := hO
      rw [← hl] at hO
      exact ⟨A, c, by rw [hl]; rfl, RdIs_own (Go.Proofs.YtkedcijfegoflaaDoorW.PrintWords.own_weaken hO (Nat.zero_le _)) (by omega), hb'⟩
end Go.Proofs.YtkedcijfegoflaaDoor
