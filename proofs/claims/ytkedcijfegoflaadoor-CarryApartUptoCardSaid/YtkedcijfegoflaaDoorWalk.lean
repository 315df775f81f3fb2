/- term: the walk through a term, whatever turns its nodes. -/
import Derived.Test.YtkedcijfegoflaaDoorTerm3
namespace Go.Proofs.YtkedcijfegoflaaDoor
set_option linter.unusedSimpArgs false
set_option linter.unusedVariables false
open Go Go.RowKit Go.Proofs.YtkedcijfegoflaaDoorW.PrintLast

/-- What becomes of a node at a depth: its number and levels; or another term, of whose kids nothing more. -/
abbrev Node := Int → Int → Int → Int → List Lv → (Int × List Lv) ⊕ Tm
mutual
def turnT (node : Node) : Int → Tm → Tm
  | d, .mk k n a lv kids => match node d k n a lv with
    | .inl (n', lv') => .mk k n' a lv' (turnL node d k 0 kids)
    | .inr t => t
def turnL (node : Node) (d k : Int) : Nat → List Tm → List Tm
  | _, [] => []
  | i, t :: ts => turnT node (deeper k i d) t :: turnL node d k (i + 1) ts
end
theorem turnL_length (node : Node) (d k : Int) : ∀ (ts : List Tm) (i : Nat), (turnL node d k i ts).length = ts.length
  | [], _ => by simp [turnL]
  | t :: ts, i => by simp [turnL, turnL_length node d k ts]
theorem turnL_take (node : Node) (d k : Int) : ∀ (ts : List Tm) (i j : Nat) (h : j < ts.length), turnL node d k i (ts.take (j + 1)) = turnL node d k i (ts.take j) ++ [turnT node (deeper k ((i + j : Nat) : Int) d) ts[j]]
  | [], _, _, h => by simp at h
  | t :: ts, i, 0, _ => by simp [turnL]
  | t :: ts, i, j + 1, h => by
    simp only [List.take_succ_cons, turnL, List.cons_append, List.getElem_cons_succ]
    rw [turnL_take node d k ts (i + 1) j (by simpa using h)]
    rw [show i + 1 + j = i + (j + 1) by omega]
/-- No list in a term is longer than 2^40. -/
inductive Okt : Tm → Prop
  | mk {k n a : Int} {lv : List Lv} {kids : List Tm} : Okl lv → kids.length ≤ 1099511627776 → (∀ t ∈ kids, Okt t) → Okt (.mk k n a lv kids)
theorem Okt.lv {k n a : Int} {lv : List Lv} {kids : List Tm} (h : Okt (.mk k n a lv kids)) : Okl lv := by cases h; assumption
theorem Okt.len {k n a : Int} {lv : List Lv} {kids : List Tm} (h : Okt (.mk k n a lv kids)) : kids.length ≤ 1099511627776 := by cases h; assumption
theorem Okt.kid {k n a : Int} {lv : List Lv} {kids : List Tm} (h : Okt (.mk k n a lv kids)) : ∀ t ∈ kids, Okt t := by cases h; assumption
theorem nodes_kid : ∀ {kids : List Tm} {t : Tm}, t ∈ kids → t.nodes ≤ Tm.nodesL kids
  | [], _, h => by cases h
  | u :: us, t, h => by
    rcases List.mem_cons.1 h with rfl | h
    · simp [Tm.nodesL]
    · have := nodes_kid h; simp [Tm.nodesL]; omega

/-- What a function that turns nodes does, called in any world that keeps w0. -/
def TurnPost (k a : Int) (A2 : Option Addr) (l2 c2 : Nat) (W : World) : (Int × List Lv) ⊕ Tm → Ending → World → Prop
  | .inl (n', lv'), e, w' => ∃ A1 l1 c1 F, e = .returned (.tuple #[.agg #[.int .i64 k, .int .i64 n', .int .i64 a, .slice A1 l1 c1, .slice A2 l2 c2], .bool false]) ∧ OwLvs w' (.slice A1 l1 c1) lv' F ∧ Fr W.heap.size w' F ∧ Below W.heap.size W w'
  | .inr t, e, w' => ∃ cs F, e = .returned (.tuple #[.agg cs.toArray, .bool true]) ∧ OwT w' t cs F ∧ Fr W.heap.size w' F ∧ Below W.heap.size W w'
def TurnOK (w0 : World) (fid : FuncId) (cap : Array Value) (node : Node) : Prop :=
  ∀ (d k n a : Int) (vl : Value) (A2 : Option Addr) (l2 c2 : Nat) (lv : List Lv) (W : World), Keeps w0 W → w0.heap.size ≤ W.heap.size → RdLvs W vl lv → Okl lv → 0 ≤ d → d ≤ 4611686018427387904 →
    Calls Tryd.prog fid (#[.agg #[.int .i64 d, .func (.func fid) #[] cap], .agg #[.int .i64 k, .int .i64 n, .int .i64 a, vl, .slice A2 l2 c2]] ++ cap) W (TurnPost k a A2 l2 c2 W (node d k n a lv))
def WalkOK (w0 : World) (fid : FuncId) (cap : Array Value) (node : Node) (t : Tm) : Prop :=
  ∀ (d : Int) (cs : List Value) (W : World), Keeps w0 W → w0.heap.size ≤ W.heap.size → Kinds W → RdT W t cs → Okt t → 0 ≤ d → d + t.nodes ≤ 4611686018427387904 →
    Calls Tryd.prog 65 #[.agg #[.int .i64 d, .func (.func fid) #[] cap], .agg cs.toArray] W fun e w' => ∃ cs' F, e = .returned (.agg cs'.toArray) ∧ OwT w' (turnT node d t) cs' F ∧ Fr W.heap.size w' F ∧ Below W.heap.size W w'

/-- The loop over the kids. -/
structure WInv (w : World) (B3 : Nat) (lo : Nat) (b0 b1 b2 : Array Value) (k n' a : Int) (vl' v : Value) (lv' : List Lv) (F1 : List Nat) (done : List Tm) (F2 : List Nat) (wr : World) : Prop where
  hb : Below w.heap.size w wr
  k0 : Blk wr w.heap.size b0 102
  k1 : Blk wr (w.heap.size + 1) b1 30
  k2 : Blk wr (w.heap.size + 1 + 1) b2 30
  k3 : Blk wr B3 #[.int .i64 k, .int .i64 n', .int .i64 a, vl', v] 30
  h3 : w.heap.size + 1 + 1 < B3
  hlo : B3 < lo
  hlo' : lo ≤ wr.heap.size
  hO1 : OwLvs wr vl' lv' F1
  hF1 : Fr (w.heap.size + 3) wr F1 ∧ ∀ b ∈ F1, b < B3
  hO2 : OwTs wr v done F2
  hF2 : Fr lo wr F2

set_option maxRecDepth 100000 in
set_option maxHeartbeats 2000000 in
theorem walk_done (w0 : World) (fid : FuncId) (cap : Array Value) (node : Node) (hcall : ∀ args w, (callFunc fid args).run Tryd.prog w = .ok (.enter fid args) w) (hT : TurnOK w0 fid cap node) (k n a : Int) (lv : List Lv) (kids : List Tm) (d : Int) (t' : Tm) (hnode : node d k n a lv = .inr t')
    (cs : List Value) (W : World) (hk0 : Keeps w0 W) (hs0 : w0.heap.size ≤ W.heap.size) (h : RdT W (.mk k n a lv kids) cs) (hok : Okt (.mk k n a lv kids)) (hd : 0 ≤ d) (hd' : d ≤ 4611686018427387904) :
    Calls Tryd.prog 65 #[.agg #[.int .i64 d, .func (.func fid) #[] cap], .agg cs.toArray] W fun e w' => ∃ cs' F, e = .returned (.agg cs'.toArray) ∧ OwT w' t' cs' F ∧ Fr W.heap.size w' F ∧ Below W.heap.size W w' := by
  obtain ⟨vl, vk, rfl, hlv, A2, c2, rfl, hc2, hm2, hkids⟩ := (RdT_mk ..).1 h
  obtain ⟨A1, c1, rfl, hc1, hm1, hr1⟩ := id hlv
  obtain ⟨k0, k1, k2, hb0, hsz⟩ := blks3 W #[.int .i64 d, .func (.func fid) #[] cap] #[.int .i64 k, .int .i64 n, .int .i64 a, .slice A1 lv.length c1, .slice A2 kids.length c2] #[.int .i64 0, .int .i64 0, .int .i64 0, .slice none 0 0, .slice none 0 0] 102 30 30
  have HC := Lib.hid (fun W' (hk : Keeps w0 W') (hs : w0.heap.size ≤ W'.heap.size) (hl : RdLvs W' (.slice A1 lv.length c1) lv) => hnode ▸ hT d k n a _ A2 kids.length c2 lv W' hk hs hl hok.lv hd hd')
  have HL := Lib.hid hlv
  have H0 := Lib.hid (And.intro hk0 (And.intro hs0 (And.intro k2 (And.intro hb0 hsz))))
  clear hlv hkids hc2 hm2 hc1 hm1 hr1 h hok hT hk0 hs0 k0 k1 k2 hb0 hsz hnode
  go_enter Tryd.func65, Tryd.ntmps65
  go_wp2_with fail
  refine (HC.out _ (H0.out.1.trans H0.out.2.1 (keeps_of H0.out.2.2.2.1)) (Nat.le_trans H0.out.2.1 H0.out.2.2.2.1.size) (HL.out.below (keeps_of H0.out.2.2.2.1))).mono ?_
  rintro e w1 ⟨cs', F, rfl, hO, hF, hb1⟩
  obtain ⟨A3, l3, c3, A4, l4, c4, rfl⟩ := hO.cells
  obtain ⟨hk0, hs0, k2, hb0, hsz⟩ := H0.out
  have k2 := k2.below hb1
  have hf2 := k2.frozen
  have hc2 := k2.cell
  have hs1 := hb1.size
  rw [hsz] at hs1
  have hlt2 : W.heap.size + 1 + 1 < w1.heap.size := by omega
  have H1 := Lib.hid (And.intro k2 (And.intro hO (And.intro hF (And.intro hb0 (And.intro hb1 hsz)))))
  clear k2 hO hF hb0 hb1 hk0 hs0 hsz
  go_wp2
  obtain ⟨k2, hO, hF, hb0, hb1, hsz⟩ := H1.out
  rw [hsz] at hF
  exact term_end1 Tryd.results65 rfl k2 hO hF (by omega) (fun b hb => by have := hF.2 b hb; omega) (hb0.trans (hb1.mono hb0.size)) (by omega) rfl

theorem WInv.push {w : World} {B3 lo : Nat} {b0 b1 b2 : Array Value} {k n' a : Int} {vl' v v2 : Value} {lv' : List Lv} {F1 F2 Fx : List Nat} {done : List Tm} {x : Tm} {cx : List Value} {wr w1 W1 w2 : World}
    (h : WInv w B3 lo b0 b1 b2 k n' a vl' v lv' F1 done F2 wr) (hb : Below wr.heap.size wr w1) (hx : OwT w1 x cx Fx) (hFx : Fr wr.heap.size w1 Fx) (hW : Below w1.heap.size w1 W1) (hcx : cx.length = 5)
    (happ : ∀ inner, wr.ownsRow 0 30 5 v done.length inner → w2.ownsRow 0 30 5 v2 (done.length + 1) (inner ++ cx)) (hg : W1.grownBy w2 v.ownBlock) (hat : v2.ownBlock = v.ownBlock ∨ v2.ownBlock = some W1.heap.size) (h2s : ∀ k, v2.ownBlock = some k → k < w2.heap.size) :
    ∃ F2', WInv w B3 lo b0 b1 b2 k n' a vl' v2 lv' F1 (done ++ [x]) F2' (w2.setCell ⟨B3, 4, none⟩ v2) := by
  obtain ⟨hb', k0, k1, k2, k3, h3, hlo, hlo', hO1, hF1, hO2, hF2⟩ := h
  obtain ⟨F2', hO', hF'⟩ := OwS.push OwT.mov hO2 hF2 hb hlo' hx hFx hW (fun inner hi => by rw [List.length_append, List.length_singleton]; exact happ inner hi) hcx hg hat h2s
  have s1 := hb.size
  have s2 := hW.size
  have s3 := hg.size
  have hvlo : ∀ q, v.ownBlock = some q → lo ≤ q := fun q hq => by
    obtain ⟨inner, Fi, g1, g2, rfl⟩ := hO2
    exact (hF2.2 q (List.mem_append_left _ (by simp [hq]))).1
  have hold : ∀ q, q < lo → w2.heap[q]? = wr.heap[q]? := fun q hq => by
    rw [hg.block q (by omega) (fun e => by have := hvlo q e.symm; omega), hW.block q (by omega), hb.block q (by omega)]
  have hlt : ∀ q, q < lo → q ≠ B3 → (w2.setCell ⟨B3, 4, none⟩ v2).heap[q]? = wr.heap[q]? := fun q hq hne => by
    rw [Below.heap_setCell _ _ _ _ (by exact hne)]; exact hold q hq
  refine ⟨F2', ⟨⟨?_, ?_, ?_, ?_, ?_⟩, ?_, ?_, ?_, ?_, h3, hlo, by simp [World.setCell]; omega, ?_, ⟨hF1.1.mono (Nat.le_refl _) (by simp [World.setCell]; omega), hF1.2⟩, ?_, ?_⟩⟩
  · show w2.os = w.os; rw [hg.os, hW.os, hb.os, hb'.os]
  · show w2.tape = w.tape; rw [hg.tape, hW.tape, hb.tape, hb'.tape]
  · show w2.output = w.output; rw [hg.output, hW.output, hb.output, hb'.output]
  · have := hb'.size; simp [World.setCell]; omega
  · intro q hq; rw [hlt q (by omega) (by omega)]; exact hb'.block q hq
  · exact (hlt _ (by omega) (by omega)).trans k0
  · exact (hlt _ (by omega) (by omega)).trans k1
  · exact (hlt _ (by omega) (by omega)).trans k2
  · exact (show Blk w2 B3 _ _ from (hold _ hlo).trans k3).set 4 v2
  · exact hO1.move (fun q hq => hlt q (by have := hF1.2 q hq; omega) (by have := hF1.2 q hq; omega))
  · exact hO'.move OwT.mov (fun q hq => Below.heap_setCell _ _ _ _ (by have := (hF'.2 q hq).1; show q ≠ B3; omega))
  · exact hF'.mono (Nat.le_refl _) (by simp [World.setCell])

set_option maxRecDepth 100000 in
set_option maxHeartbeats 4000000 in
theorem walk_kids (w0 : World) (fid : FuncId) (cap : Array Value) (node : Node) (hcall : ∀ args w, (callFunc fid args).run Tryd.prog w = .ok (.enter fid args) w) (hT : TurnOK w0 fid cap node) (k n a : Int) (lv : List Lv) (kids : List Tm) (ih : ∀ t ∈ kids, WalkOK w0 fid cap node t)
    (d n' : Int) (lv' : List Lv) (hnode : node d k n a lv = .inl (n', lv'))
    (cs : List Value) (W : World) (hk0 : Keeps w0 W) (hs0 : w0.heap.size ≤ W.heap.size) (hK : Kinds W) (h : RdT W (.mk k n a lv kids) cs) (hok : Okt (.mk k n a lv kids)) (hd : 0 ≤ d) (hd' : d + (Tm.mk k n a lv kids).nodes ≤ 4611686018427387904) :
    Calls Tryd.prog 65 #[.agg #[.int .i64 d, .func (.func fid) #[] cap], .agg cs.toArray] W fun e w' => ∃ cs' F, e = .returned (.agg cs'.toArray) ∧ OwT w' (.mk k n' a lv' (turnL node d k 0 kids)) cs' F ∧ Fr W.heap.size w' F ∧ Below W.heap.size W w' := by
  obtain ⟨vl, vk, rfl, hlv, A2, c2, rfl, hc2, hm2, hkids⟩ := (RdT_mk ..).1 h
  obtain ⟨A1, c1, rfl, hc1, hm1, hr1⟩ := id hlv
  obtain ⟨k0, k1, k2, hb0, hsz⟩ := blks3 W #[.int .i64 d, .func (.func fid) #[] cap] #[.int .i64 k, .int .i64 n, .int .i64 a, .slice A1 lv.length c1, .slice A2 kids.length c2] #[.int .i64 0, .int .i64 0, .int .i64 0, .slice none 0 0, .slice none 0 0] 102 30 30
  have hdn : d ≤ 4611686018427387904 := by simp [Tm.nodes] at hd'; omega
  have HC := Lib.hid (fun W' (hk : Keeps w0 W') (hs : w0.heap.size ≤ W'.heap.size) (hl : RdLvs W' (.slice A1 lv.length c1) lv) => hnode ▸ hT d k n a _ A2 kids.length c2 lv W' hk hs hl hok.lv hd hdn)
  have HL := Lib.hid hlv
  have H0 := Lib.hid (And.intro hk0 (And.intro hs0 (And.intro k0 (And.intro k1 (And.intro k2 (And.intro hb0 hsz))))))
  have HK := Lib.hid hK
  have HR := Lib.hid hkids
  have HOK := Lib.hid hok
  have hkl : (kids.length : Int) ≤ 9223372036854775807 := by omega
  have HIH := Lib.hid ih
  have HD := Lib.hid hd'
  clear hlv hkids hc2 hm2 hc1 hm1 hr1 h hok hT hk0 hs0 k0 k1 k2 hb0 hsz hnode hK ih hd'
  go_enter Tryd.func65, Tryd.ntmps65
  go_wp2_with fail
  have hbb := H0.out.2.2.2.2.2.1
  refine (HC.out _ (H0.out.1.trans H0.out.2.1 (keeps_of hbb)) (Nat.le_trans H0.out.2.1 hbb.size) (HL.out.below (keeps_of hbb))).mono ?_
  rintro e w1 ⟨A3, l3, c3, F1, rfl, hO1, hF1, hb1⟩
  clear hbb
  obtain ⟨hk0, hs0, k0, k1, k2, hb0, hsz⟩ := H0.out
  have HI : WInv W w1.heap.size (w1.heap.size + 1) #[.int .i64 d, .func (.func fid) #[] cap] #[.int .i64 k, .int .i64 n, .int .i64 a, .slice A1 lv.length c1, .slice A2 kids.length c2] #[.int .i64 0, .int .i64 0, .int .i64 0, .slice none 0 0, .slice none 0 0]
      k n' a (.slice A3 l3 c3) (.slice none 0 0) lv' F1 [] [] (w1.alloc (.cells #[.int .i64 k, .int .i64 n', .int .i64 a, .slice A3 l3 c3, .slice none 0 0] 30)) := by
    have hs1 := hb1.size
    rw [hsz] at hs1 hF1
    have hbA : Below w1.heap.size w1 (w1.alloc (.cells #[.int .i64 k, .int .i64 n', .int .i64 a, .slice A3 l3 c3, .slice none 0 0] 30)) := (Below.refl _ _).alloc (Nat.le_refl _) _
    exact ⟨(hb0.trans (hb1.mono hb0.size)).trans (hbA.mono (by omega)), (k0.below hb1).below hbA, (k1.below hb1).below hbA, (k2.below hb1).below hbA, Blk.new _ _ _, by omega, by omega, by simp, hO1.move (Same.of_below hF1 hbA), ⟨hF1.mono (Nat.le_refl _) hbA.size, fun b hb => (hF1.2 b hb).2⟩, OwS.nil _ _ _ _, Fr.nil _ _⟩
  have HI := Lib.hid HI
  have hs1 := hb1.size
  rw [hsz] at hs1
  clear hO1 hF1 hb1 hk0 hs0 k0 k1 k2 hb0 hsz
  go_wp2_with fail
  go_loopw [25] (fun i wr => ∃ j : Nat, j ≤ kids.length ∧ i = .int .i64 j ∧ ∃ A c F2,
      Hid (WInv W w1.heap.size (w1.heap.size + 1) #[.int .i64 d, .func (.func fid) #[] cap] #[.int .i64 k, .int .i64 n, .int .i64 a, .slice A1 lv.length c1, .slice A2 kids.length c2] #[.int .i64 0, .int .i64 0, .int .i64 0, .slice none 0 0, .slice none 0 0]
        k n' a (.slice A3 l3 c3) (.slice A j c) lv' F1 (turnL node d k 0 (kids.take j)) F2 wr)) (fun i _ => kids.length - (intOf i).toNat)
  case atStart => exact ⟨0, by omega, rfl, none, 0, [], HI⟩
  case round =>
    obtain ⟨j, hj, rfl, A, c, F2, HV⟩ := hrel
    clear HI
    by_cases hlt : j < kids.length
    · rcases HR.out with rfl | ⟨b, o, rfl, hkr⟩
      · simp at hlt
      obtain ⟨q0, q1, q2, A5, l5, c5, A6, l6, c6, hTk, e0, e1, e2, e3, e4, hbl⟩ := RdT_at hkr j hlt
      have hv := HV.out
      have hcw := (bcell hv.hb).1
      have HTk := Lib.hid hTk
      have hj0 : (0 : Int) ≤ (j : Int) := Int.natCast_nonneg _
      have hj1 : (j : Int) < (kids.length : Int) := by omega
      clear hv hkr hTk
      go_wp2_with fail
      clear e0 e1 e2 e3 e4 hcw
      have hv := HV.out
      obtain ⟨kA, hbA, hsA⟩ := blks1 wr #[.int .i64 q0, .int .i64 q1, .int .i64 q2, .slice A5 l5 c5, .slice A6 l6 c6] 30
      generalize wr.alloc (.cells #[.int .i64 q0, .int .i64 q1, .int .i64 q2, .slice A5 l5 c5, .slice A6 l6 c6] 30) = wA at *
      have g0 := (hv.k0.below hbA).cell
      have g1 := (hv.k1.below hbA).cell
      have g3 := (hv.k3.below hbA).cell
      have gA := kA.cell
      have n0 : W.heap.size < wA.heap.size := (hv.k0.below hbA).lt
      have n1 : W.heap.size + 1 < wA.heap.size := (hv.k1.below hbA).lt
      have n3 : w1.heap.size < wA.heap.size := (hv.k3.below hbA).lt
      have nA : wr.heap.size < wA.heap.size := kA.lt
      have hbW := hv.hb.trans (hbA.mono hv.hb.size)
      have HW := Lib.hid hbW
      have HKID := Lib.hid (fun W' (hb' : Below W.heap.size W W') => HIH.out kids[j] (List.getElem_mem hlt) (deeper k j d) _ W' (H0.out.1.trans H0.out.2.1 (keeps_of hb')) (Nat.le_trans H0.out.2.1 hb'.size) (HK.out.below hb') (RdT.below (keeps_of hb') _ _ HTk.out) (HOK.out.kid _ (List.getElem_mem hlt))
        (by unfold deeper; split <;> omega) (by have := HD.out; have := nodes_kid (List.getElem_mem hlt); simp only [Tm.nodes] at *; unfold deeper; split <;> omega))
      have HA := Lib.hid (And.intro hbA hsA)
      clear hv kA hbA hsA hbW
      refine start_ (n := 13) (S := fun W' => ∀ b o, b < wA.heap.size → W'.cell? ⟨b, o, none⟩ = wA.cell? ⟨b, o, none⟩) (ds := [10, 12]) #[false, false, false, false, false, false, false, false, false, false, false, false, false] (by kernel_rfl) rfl rfl (by exact (fun _ _ _ => rfl)) (fun hHeld => ?_)
      refine take_ (i := 0) (N := some 30) (v := ?_) (a' := ?_) #[true, false, false, false, false, false, false, false, false, false, false, false, false] rfl rfl (by kernel_rfl) (fun _ _ _ h => h) (Or.inl ⟨by rfl, ?_⟩) hHeld ?_ ?_
      rotate_left
      · rintro w' hS'
        go_simp
        with_reducible rfl
      rotate_left
      · simp only [Act.put, List.setIfInBounds_toArray, List.set_cons_zero, List.set_cons_succ]
        rfl
      refine take_ (i := 1) (N := some 31) (v := ?_) (a' := ?_) #[true, true, false, false, false, false, false, false, false, false, false, false, false] rfl rfl (by kernel_rfl) (fun _ _ _ h => h) (Or.inl ⟨by rfl, ?_⟩) hHeld ?_ ?_
      rotate_left
      · rintro w' hS'
        go_simp
        with_reducible rfl
      rotate_left
      · simp only [Act.put, List.setIfInBounds_toArray, List.set_cons_zero, List.set_cons_succ]
        rfl
      refine take_ (i := 2) (N := some 32) (v := ?_) (a' := ?_) #[true, true, true, false, false, false, false, false, false, false, false, false, false] rfl rfl (by kernel_rfl) (fun _ _ _ h => h) (Or.inl ⟨by rfl, ?_⟩) hHeld ?_ ?_
      rotate_left
      · rintro w' hS'
        go_simp
        with_reducible rfl
      rotate_left
      · simp only [Act.put, List.setIfInBounds_toArray, List.set_cons_zero, List.set_cons_succ]
        rfl
      refine take_ (i := 3) (N := some 33) (v := ?_) (a' := ?_) #[true, true, true, true, false, false, false, false, false, false, false, false, false] rfl rfl (by kernel_rfl) (fun _ _ _ h => h) (Or.inl ⟨by rfl, ?_⟩) hHeld ?_ ?_
      rotate_left
      · rintro w' hS'
        go_simp
        with_reducible rfl
      rotate_left
      · simp only [Act.put, List.setIfInBounds_toArray, List.set_cons_zero, List.set_cons_succ]
        rfl
      refine take_ (i := 4) (N := some 34) (v := ?_) (a' := ?_) #[true, true, true, true, true, false, false, false, false, false, false, false, false] rfl rfl (by kernel_rfl) (fun _ _ _ h => h) (Or.inl ⟨by rfl, ?_⟩) hHeld ?_ ?_
      rotate_left
      · rintro w' hS'
        go_simp
        with_reducible rfl
      rotate_left
      · simp only [Act.put, List.setIfInBounds_toArray, List.set_cons_zero, List.set_cons_succ]
        rfl
      refine take_ (i := 5) (N := some 35) (v := ?_) (a' := ?_) #[true, true, true, true, true, true, false, false, false, false, false, false, false] rfl rfl (by kernel_rfl) (fun _ _ _ h => h) (Or.inl ⟨by rfl, ?_⟩) hHeld ?_ ?_
      rotate_left
      · rintro w' hS'
        go_simp
        with_reducible rfl
      rotate_left
      · simp only [Act.put, List.setIfInBounds_toArray, List.set_cons_zero, List.set_cons_succ]
        rfl
      refine take_ (i := 7) (N := some 37) (v := ?_) (a' := ?_) #[true, true, true, true, true, true, false, true, false, false, false, false, false] rfl rfl (by kernel_rfl) (fun _ _ _ h => h) (Or.inl ⟨by rfl, ?_⟩) hHeld ?_ ?_
      rotate_left
      · rintro w' hS'
        go_simp
        with_reducible rfl
      rotate_left
      · simp only [Act.put, List.setIfInBounds_toArray, List.set_cons_zero, List.set_cons_succ]
        rfl
      refine one_ (i := 6) (N := some 36) #[true, true, true, true, true, true, true, true, false, false, false, false, false] rfl rfl (by kernel_rfl) (by decide) (fun K hK => ?_)
      go_simp
      refine (below_any d k j (.func fid) #[] cap _ (HK.out.below HW.out.drew) hd hdn).mono ?_
      rintro e w2 ⟨rfl, hb2⟩
      have HB2 := Lib.hid (undrew hb2)
      clear hb2
      refine hK.out _ _ (keeps_of HB2.out) (fun hHeld => ?_)
      clear hK K
      refine norm_ (a' := ?_) ?_ ?_
      rotate_left
      · first
          | rfl
          | (simp only [Act.put, List.setIfInBounds_toArray, List.set_cons_zero, List.set_cons_succ]; rfl)
      refine one_ (i := 8) (N := some 38) #[true, true, true, true, true, true, true, true, true, false, false, false, false] rfl rfl (by kernel_rfl) (by decide) (fun K hK => ?_)
      go_simp
      refine (HKID.out w2 (HW.out.trans (HB2.out.mono HW.out.size))).mono ?_
      rintro e w3 ⟨cs', Fx, rfl, hx, hFx, hb3⟩
      obtain ⟨A7, l7, c7, A8, l8, c8, rfl⟩ := hx.cells
      have HX := Lib.hid (And.intro hx (And.intro hFx hb3))
      clear hx hFx hb3
      refine hK.out _ _ (Keeps.trans (keeps_of HB2.out) HB2.out.size (keeps_of HX.out.2.2)) (fun hHeld => ?_)
      clear hK K
      refine norm_ (a' := ?_) ?_ ?_
      rotate_left
      · first
          | rfl
          | (simp only [Act.put, List.setIfInBounds_toArray, List.set_cons_zero, List.set_cons_succ]; rfl)
      refine one_ (i := 9) (N := some 39) #[true, true, true, true, true, true, true, true, true, true, false, false, false] rfl rfl (by kernel_rfl) (by decide) (fun K hK => ?_)
      go_simp
      refine hK.out _ _ (Keeps.trans (Keeps.trans (keeps_of HB2.out) HB2.out.size (keeps_of HX.out.2.2)) (Nat.le_trans HB2.out.size HX.out.2.2.size) (keeps_of ((Below.refl _ _).alloc (Nat.le_refl _) _))) (fun hHeld => ?_)
      clear hK K
      refine norm_ (a' := ?_) ?_ ?_
      rotate_left
      · first
          | rfl
          | (simp only [Act.put, List.setIfInBounds_toArray, List.set_cons_zero, List.set_cons_succ]; rfl)
      refine last_ (i := 10) (N := some 40) #[true, true, true, true, true, true, true, true, true, true, true, false, false] rfl rfl (by kernel_rfl) (by decide) (fun K hK => ?_)
      have hv := HV.out
      have hOs := hv.hO2
      obtain ⟨inner, Fi, hown, hin, hFi⟩ := id hOs
      have hlen : (turnL node d k 0 (kids.take j)).length = j := by rw [turnL_length, List.length_take]; omega
      rw [hlen] at hown
      have hb35 : Below wr.heap.size wr w3 := (HA.out.1.trans (HB2.out.mono HA.out.1.size)).trans (HX.out.2.2.mono (Nat.le_trans HA.out.1.size HB2.out.size))
      have hbW1 : Below w3.heap.size w3 (w3.alloc (.cells #[.int .i64 (turnT node (deeper k j d) kids[j]).kind, .int .i64 (turnT node (deeper k j d) kids[j]).num, .int .i64 (turnT node (deeper k j d) kids[j]).place, .slice A7 l7 c7, .slice A8 l8 c8] 30)) := (Below.refl _ _).alloc (Nat.le_refl _) _
      have hmv : ∀ q, q < wr.heap.size → (w3.alloc (.cells #[.int .i64 (turnT node (deeper k j d) kids[j]).kind, .int .i64 (turnT node (deeper k j d) kids[j]).num, .int .i64 (turnT node (deeper k j d) kids[j]).place, .slice A7 l7 c7, .slice A8 l8 c8] 30)).heap[q]? = wr.heap[q]? := fun q hq => by
        rw [hbW1.block q (Nat.lt_of_lt_of_le hq hb35.size), hb35.block q hq]
      have hjl := HOK.out.len
      refine step_append rfl (.tmp 31) (.tmp 39) 28 rfl 30 _ 5 72 Tryd.underlying28 infoTm rfl (by decide) (.slice A j c) j inner rfl (ownsRow_move hown (fun q hq => hmv q (hown.lt q hq).2))
        ⟨w3.heap.size, 0, none⟩ 1 1 [.int .i64 (turnT node (deeper k j d) kids[j]).kind, .int .i64 (turnT node (deeper k j d) kids[j]).num, .int .i64 (turnT node (deeper k j d) kids[j]).place, .slice A7 l7 c7, .slice A8 l8 c8] rfl rfl (news_at (Blk.new w3 _ _)) (by simp [Value.oneCell']) (by simp only [maxLen]; omega) (by omega) ?_
      intro v2 w5 hown2 hg hat
      obtain ⟨A9, c9, rfl⟩ := own_slice hown2
      have HP := Lib.hid (hv.push hb35 HX.out.1 (HX.out.2.1.mono (Nat.le_trans HA.out.1.size HB2.out.size) (Nat.le_refl _)) hbW1 rfl (fun inner' hi' => by rw [hlen] at hi' ⊢; rw [ownsRow_unique hi' hown]; exact hown2) hg hat (fun q hq => (hown2.lt q hq).2))
      have k35 : Blk w5 w1.heap.size _ 30 := (show w5.heap[w1.heap.size]? = wr.heap[w1.heap.size]? from by
        rw [hg.block _ (by have := hv.hlo; have := hv.hlo'; have := hb35.size; simp; omega) (fun e => by have := (hv.hF2.2 w1.heap.size (by rw [hFi, ← e]; simp)).1; omega)]
        exact hmv _ (by have := hv.hlo; have := hv.hlo'; omega)).trans hv.k3
      have c35 := k35.cell
      have f35 := k35.frozen
      clear hv hOs hown hin hFi hlen hb35 hbW1 hmv hjl hown2 hg hat k35
      refine hK.out _ _ ?_
      clear hK K
      refine norm_ (a' := ?_) ?_ ?_
      rotate_left
      · first
          | rfl
          | (simp only [Act.put, List.setIfInBounds_toArray, List.set_cons_zero, List.set_cons_succ]; rfl)
      refine pure_ (i := 11) (N := some 41) (v := ?_) (a' := ?_) #[true, true, true, true, true, true, true, true, true, true, true, true, false] rfl rfl (by kernel_rfl) (fun _ _ _ h => h) (Or.inl ⟨by rfl, ?_⟩) ?_ ?_
      rotate_left
      · rintro w'
        go_simp
        with_reducible rfl
      rotate_left
      · simp only [Act.put, List.setIfInBounds_toArray, List.set_cons_zero, List.set_cons_succ]
        rfl
      refine last_ (i := 12) (N := none) #[true, true, true, true, true, true, true, true, true, true, true, true, true] rfl rfl (by kernel_rfl) (by decide) (fun K hK => ?_)
      go_simp
      refine hK.out _ _ ?_
      clear hK K
      refine norm_ (a' := ?_) ?_ ?_
      rotate_left
      · first
          | rfl
          | (simp only [Act.put, List.setIfInBounds_toArray, List.set_cons_zero, List.set_cons_succ]; rfl)
      refine done_ (by kernel_rfl) ?_
      clear c35 f35 g0 g1 g3 gA
      go_wp2
      go_roundw
      case rel =>
        obtain ⟨F2', hw⟩ := HP.out
        rw [show turnL node d k 0 (kids.take j) ++ [turnT node (deeper k j d) kids[j]] = turnL node d k 0 (kids.take (j + 1)) from by rw [turnL_take node d k kids 0 j hlt, Nat.zero_add]] at hw
        exact ⟨j + 1, by omega, by go_num, A9, c9, F2', hw⟩
      case measure => simp [intOf]; omega
    · have hv := HV.out
      have c3 := hv.k3.cell
      have c2' := hv.k2.cell
      have f2' := hv.k2.frozen
      clear hv
      go_wp2
      clear c3 c2' f2'
      have hjk : j = kids.length := by omega
      subst hjk
      obtain ⟨hb', k0, k1, k2, k3, h3, hlo, hlo', hO1, hF1, hO2, hF2⟩ := HV.out
      rw [List.take_length] at hO2
      have hO := (OwT_mk wr k n' a lv' (turnL node d k 0 kids) _ (F1 ++ F2)).2 ⟨_, _, F1, F2, rfl, hO1, hO2, rfl⟩
      have hF : Fr (W.heap.size + 3) wr (F1 ++ F2) := ⟨List.nodup_append.2 ⟨hF1.1.1, hF2.1, fun x hx y hy e => by have := hF1.2 x hx; have := (hF2.2 y hy).1; omega⟩, fun x hx => by
        rcases List.mem_append.1 hx with hx | hx
        · exact hF1.1.2 x hx
        · have := hF2.2 x hx; omega⟩
      exact term_end Tryd.results65 rfl k2 hO hF (by omega) (fun b hb => by have := (hF.2 b hb).1; omega) hb' (by omega) rfl
/-- The walk, whatever turns the nodes. -/
theorem walk_any (w0 : World) (fid : FuncId) (cap : Array Value) (node : Node) (hcall : ∀ args w, (callFunc fid args).run Tryd.prog w = .ok (.enter fid args) w) (hT : TurnOK w0 fid cap node) : ∀ t, WalkOK w0 fid cap node t := by
  intro t
  induction t using Tm.ind with
  | h k n a lv kids ih =>
    intro d cs W hk0 hs0 hK h hok hd hd'
    cases hn : node d k n a lv with
    | inl p =>
      obtain ⟨n', lv'⟩ := p
      have := walk_kids w0 fid cap node hcall hT k n a lv kids ih d n' lv' hn cs W hk0 hs0 hK h hok hd hd'
      simpa only [turnT, hn] using this
    | inr t' =>
      have := walk_done w0 fid cap node hcall hT k n a lv kids d t' hn cs W hk0 hs0 h hok hd (by simp [Tm.nodes] at hd'; omega)
      simpa only [turnT, hn] using this
end Go.Proofs.YtkedcijfegoflaaDoor
