/- An element appended: where the blocks lie (OwS.push with a third word); a term under construction in a block (KInv). -/
import Derived.Test.YtkedcijfegoflaaDoorLift
namespace Go.Proofs.YtkedcijfegoflaaDoor
set_option linter.unusedSimpArgs false
set_option linter.unusedVariables false
open Go Go.RowKit Go.Proofs.YtkedcijfegoflaaDoorW.PrintLast

theorem OwS.push3 {α : Type} {R : World → α → List Value → List Nat → Prop} {sz : Nat} {e : TypeId} {w w1 W1 w2 : World} {v v2 : Value} {xs : List α} {x : α} {cx : List Value} {F Fx : List Nat} {lo : Nat} (hR : Mov R)
    (h : OwS R sz e w v xs F) (hF : Fr lo w F) (hb : Below w.heap.size w w1) (hlo : lo ≤ w.heap.size)
    (hx : R w1 x cx Fx) (hFx : Fr w.heap.size w1 Fx) (hW : Below w1.heap.size w1 W1)
    (happ : ∀ inner, w.ownsRow 0 e sz v xs.length inner → w2.ownsRow 0 e sz v2 (xs ++ [x]).length (inner ++ cx)) (hcx : cx.length = sz) (hg : W1.grownBy w2 v.ownBlock) (hat : v2.ownBlock = v.ownBlock ∨ v2.ownBlock = some W1.heap.size) (h2s : ∀ k, v2.ownBlock = some k → k < w2.heap.size) :
    ∃ F2, OwS R sz e w2 v2 (xs ++ [x]) F2 ∧ Fr lo w2 F2 ∧ ∀ b ∈ F2, b ∈ F ∨ w.heap.size ≤ b := by
  obtain ⟨inner, Fi, h1, h2, rfl⟩ := h
  have s01 := hb.size
  have s12 := hW.size
  have s23 := hg.size
  have hmove : ∀ b, b ∈ Fi ++ Fx → W1.heap[b]? = w2.heap[b]? := by
    intro b hbm
    rcases List.mem_append.1 hbm with hbm | hbm
    · have hl := hF.2 b (List.mem_append_right _ hbm)
      refine (hg.block b (by omega) (fun he => ?_)).symm
      have := List.nodup_append.1 hF.1
      exact this.2.2 b (by simp [← he]) b hbm rfl
    · have hl := hFx.2 b hbm
      refine (hg.block b (by omega) (fun he => ?_)).symm
      have := (hF.2 b (List.mem_append_left _ (by simp [← he]))).2
      omega
  have hold : ∀ b, b ∈ Fi → w2.heap[b]? = w.heap[b]? := fun b hbm => by
    have hl := hF.2 b (List.mem_append_right _ hbm)
    rw [← hmove b (List.mem_append_left _ hbm), hW.block b (by omega), hb.block b (by omega)]
  have hnew : ∀ b, b ∈ Fx → w2.heap[b]? = w1.heap[b]? := fun b hbm => by
    have hl := hFx.2 b hbm
    rw [← hmove b (List.mem_append_right _ hbm), hW.block b (by omega)]
  refine ⟨v2.ownBlock.toList ++ (Fi ++ Fx), ⟨inner ++ cx, Fi ++ Fx, happ inner h1, ?_, rfl⟩, ⟨?_, ?_⟩, ?_⟩
  · exact (h2.imp (fun x cs G _ hG h => hR _ _ _ _ _ (fun b hbm => hold b (hG b hbm)) h)).snoc (hR _ _ _ _ _ (fun b hbm => hnew b hbm) hx) hcx
  · have hnd := List.nodup_append.1 hF.1
    refine List.nodup_append.2 ⟨by cases v2.ownBlock <;> simp, List.nodup_append.2 ⟨hnd.2.1, hFx.1, fun a ha b hb' e => ?_⟩, fun a ha b hb' e => ?_⟩
    · have := hF.2 a (List.mem_append_right _ ha); have := hFx.2 b hb'; omega
    · subst e
      have ha' : v2.ownBlock = some a := by simpa using ha
      rcases hat with hat | hat
      · have hv : v.ownBlock = some a := hat ▸ ha'
        rcases List.mem_append.1 hb' with hb' | hb'
        · exact hnd.2.2 a (by simp [hv]) a hb' rfl
        · have := hF.2 a (List.mem_append_left _ (by simp [hv])); have := hFx.2 a hb'; omega
      · have : a = W1.heap.size := by rw [ha'] at hat; simpa using hat
        rcases List.mem_append.1 hb' with hb' | hb'
        · have := hF.2 a (List.mem_append_right _ hb'); omega
        · have := hFx.2 a hb'; omega
  · intro b hbm
    rcases List.mem_append.1 hbm with hbm | hbm
    · have ha' : v2.ownBlock = some b := by simpa using hbm
      have hlt := h2s b ha'
      rcases hat with hat | hat
      · have := hF.2 b (List.mem_append_left _ (by rw [← hat, ha']; simp)); omega
      · have : b = W1.heap.size := by rw [ha'] at hat; simpa using hat
        omega
    · rcases List.mem_append.1 hbm with hbm | hbm
      · have := hF.2 b (List.mem_append_right _ hbm); omega
      · have := hFx.2 b hbm; omega
  · intro b hbm
    rcases List.mem_append.1 hbm with hbm | hbm
    · have ha' : v2.ownBlock = some b := by simpa using hbm
      rcases hat with hat | hat
      · exact .inl (List.mem_append_left _ (by rw [← hat, ha']; simp))
      · have : b = W1.heap.size := by rw [ha'] at hat; simpa using hat
        exact .inr (by omega)
    · rcases List.mem_append.1 hbm with hbm | hbm
      · exact .inl (List.mem_append_right _ hbm)
      · exact .inr (hFx.2 b hbm).1

/-- A term under construction in the block B3: its levels v1 (F1), its kids v so far (F2). -/
structure KInv (w : World) (lo B3 : Nat) (K N A : Int) (vl v : Value) (lv : List Lv) (F1 : List Nat) (done : List Tm) (F2 : List Nat) (wr : World) : Prop where
  hb : Below w.heap.size w wr
  k3 : Blk wr B3 #[.int .i64 K, .int .i64 N, .int .i64 A, vl, v] 30
  hlo : w.heap.size ≤ lo
  h3 : lo ≤ B3
  hO1 : OwLvs wr vl lv F1
  hO2 : OwTs wr v done F2
  hF : Fr lo wr (F1 ++ F2)
  hne : ∀ b ∈ F1 ++ F2, b ≠ B3
theorem Fr.left {lo : Nat} {w : World} {F F' : List Nat} (h : Fr lo w (F ++ F')) : Fr lo w F := ⟨(List.nodup_append.1 h.1).1, fun b hb => h.2 b (List.mem_append_left _ hb)⟩
theorem Fr.right {lo : Nat} {w : World} {F F' : List Nat} (h : Fr lo w (F ++ F')) : Fr lo w F' := ⟨(List.nodup_append.1 h.1).2.1, fun b hb => h.2 b (List.mem_append_right _ hb)⟩
theorem KInv.push {w : World} {lo B3 : Nat} {K N A : Int} {vl v v2 : Value} {lv : List Lv} {F1 F2 Fx : List Nat} {done : List Tm} {x : Tm} {cx : List Value} {wr w1 W1 w2 : World}
    (h : KInv w lo B3 K N A vl v lv F1 done F2 wr) (hb : Below wr.heap.size wr w1) (hx : OwT w1 x cx Fx) (hFx : Fr wr.heap.size w1 Fx) (hW : Below w1.heap.size w1 W1) (hcx : cx.length = 5)
    (happ : ∀ inner, wr.ownsRow 0 30 5 v done.length inner → w2.ownsRow 0 30 5 v2 (done.length + 1) (inner ++ cx)) (hg : W1.grownBy w2 v.ownBlock) (hat : v2.ownBlock = v.ownBlock ∨ v2.ownBlock = some W1.heap.size) (h2s : ∀ k, v2.ownBlock = some k → k < w2.heap.size) :
    (∃ F2', KInv w lo B3 K N A vl v2 lv F1 (done ++ [x]) F2' (w2.setCell ⟨B3, 4, none⟩ v2)) ∧ ∀ q, q < lo → w2.heap[q]? = wr.heap[q]? := by
  obtain ⟨hb', k3, hlo, h3, hO1, hO2, hF, hne⟩ := h
  have l3 := k3.lt
  obtain ⟨F2', hO', hF', hin⟩ := OwS.push3 OwT.mov hO2 hF.right hb (by omega) hx hFx hW (fun inner hi => by rw [List.length_append, List.length_singleton]; exact happ inner hi) hcx hg hat h2s
  have s1 := hb.size
  have s2 := hW.size
  have s3 := hg.size
  have hvin : ∀ q, v.ownBlock = some q → q ∈ F2 := fun q hq => by
    obtain ⟨inner, Fi, g1, g2, rfl⟩ := hO2
    exact List.mem_append_left _ (by simp [hq])
  have hold : ∀ q, q < wr.heap.size → q ∉ F2 → w2.heap[q]? = wr.heap[q]? := fun q hq hqn => by
    rw [hg.block q (by omega) (fun e => hqn (hvin q e.symm)), hW.block q (by omega), hb.block q (by omega)]
  have h3n : B3 ∉ F2 := fun hm => hne B3 (List.mem_append_right _ hm) rfl
  have hnd := List.nodup_append.1 hF.1
  have hloq : ∀ q, q < lo → w2.heap[q]? = wr.heap[q]? := fun q hq => hold q (by omega) (fun hm => by have := (hF.2 q (List.mem_append_right _ hm)).1; omega)
  refine ⟨⟨F2', ⟨⟨?_, ?_, ?_, ?_, ?_⟩, ?_, hlo, h3, ?_, ?_, ?_, ?_⟩⟩, hloq⟩
  · show w2.os = w.os; rw [hg.os, hW.os, hb.os, hb'.os]
  · show w2.tape = w.tape; rw [hg.tape, hW.tape, hb.tape, hb'.tape]
  · show w2.output = w.output; rw [hg.output, hW.output, hb.output, hb'.output]
  · have := hb'.size; simp [World.setCell]; omega
  · intro q hq
    rw [Below.heap_setCell _ _ _ _ (show q ≠ B3 by omega), hloq q (by omega)]
    exact hb'.block q hq
  · exact (show Blk w2 B3 _ _ from (hold _ l3 h3n).trans k3).set 4 v2
  · exact hO1.move (fun q hq => by
      rw [Below.heap_setCell _ _ _ _ (show q ≠ B3 from hne q (List.mem_append_left _ hq))]
      exact hold q (hF.2 q (List.mem_append_left _ hq)).2 (fun hm => hnd.2.2 q hq q hm rfl))
  · exact hO'.move OwT.mov (fun q hq => Below.heap_setCell _ _ _ _ (show q ≠ B3 from fun e => by
      rcases hin q hq with hq' | hq'
      · exact hne q (List.mem_append_right _ hq') e
      · omega))
  · refine ⟨List.nodup_append.2 ⟨hnd.1, hF'.1, fun a ha b hb2 e => ?_⟩, fun b hbm => ?_⟩
    · subst e
      rcases hin a hb2 with hq' | hq'
      · exact hnd.2.2 a ha a hq' rfl
      · have := (hF.2 a (List.mem_append_left _ ha)).2; omega
    · simp only [World.setCell, Array.size_modify]
      rcases List.mem_append.1 hbm with hbm | hbm
      · have := hF.2 b (List.mem_append_left _ hbm); omega
      · exact hF'.2 b hbm
  · intro b hbm
    rcases List.mem_append.1 hbm with hbm | hbm
    · exact hne b (List.mem_append_left _ hbm)
    · rcases hin b hbm with hq' | hq'
      · exact hne b (List.mem_append_right _ hq')
      · omega
end Go.Proofs.YtkedcijfegoflaaDoor
