/- CarryApart, in plain numbers: the constants of a declaration's names. -/
import Derived.Test.YtkedcijfegoflaaDoorTrod
import Derived.Test.YtkedcijfegoflaaDoorCount
import Derived.Test.YtkedcijfegoflaaDoorName4
namespace Go.Proofs.YtkedcijfegoflaaDoor
set_option linter.unusedVariables false
open Go Go.RowKit

theorem wrapS {x : Int} (h0 : 0 ≤ x) (h1 : x ≤ 9223372036854775807) : wrap64 x = x := by unfold wrap64; omega
def cnt (d : Dc) : Nat := if d.kind = 1 ∨ d.kind = 2 then 1 else if d.kind = 3 then 6 + 2 * d.members.length + 2 * d.ctors.length else 0
theorem cnt_le (d : Dc) : cnt d ≤ 2 * bD d := by
  have h1 := sum_len bM (fun m => by unfold bM; omega) d.members
  have h2 := sum_len bC (fun c => by unfold bC; omega) d.ctors
  unfold cnt bD
  split
  · omega
  · split <;> omega
theorem count_cnt (d : Dc) (h : bD d ≤ 1048576) : countI d = cnt d := by
  have h0 := cnt_le d
  unfold cnt at h0
  unfold countI cnt
  by_cases h1 : d.kind = 1 ∨ d.kind = 2
  · simp [h1]
  · rw [if_neg h1, if_neg h1]
    rw [if_neg h1] at h0
    by_cases h3 : d.kind = 3
    · rw [if_pos h3, if_pos h3]
      rw [if_pos h3] at h0
      rw [wrapS (x := 2 * (d.members.length : Int)) (by omega) (by omega), wrapS (x := 2 * (d.ctors.length : Int)) (by omega) (by omega), wrapS (x := 6 + 2 * (d.members.length : Int)) (by omega) (by omega), wrapS (by omega) (by omega)]
      omega
    · rw [if_neg h3, if_neg h3]; rfl
def tot (ds : List Dc) : Nat := (ds.map cnt).sum
theorem tot_le : ∀ ds : List Dc, tot ds ≤ 2 * (ds.map bD).sum
  | [] => by simp [tot]
  | d :: ds => by have := tot_le ds; have := cnt_le d; simp [tot] at *; omega
theorem sumFrom_tot : ∀ (ds : List Dc) (n : Nat), n + 2 * (ds.map bD).sum ≤ 2097152 → sumFrom n ds = ((n + tot ds : Nat) : Int)
  | [], n, _ => by simp [sumFrom, tot]
  | d :: ds, n, h => by
    simp only [List.map_cons, List.sum_cons] at h
    have hc := cnt_le d
    simp only [sumFrom]
    rw [count_cnt d (by omega), wrapS (by omega) (by omega), show (n : Int) + cnt d = ((n + cnt d : Nat) : Int) by omega, sumFrom_tot ds (n + cnt d) (by omega)]
    simp [tot]; omega
theorem atFrom_get : ∀ (ds : List Dc) (n i : Nat), n + 2 * (ds.map bD).sum ≤ 2097152 → i < ds.length → (atFrom n ds)[i]? = some ((n + tot (ds.take i) : Nat) : Int)
  | [], n, i, _, hi => by simp at hi
  | d :: ds, n, 0, h, hi => by simp [atFrom, tot]
  | d :: ds, n, i + 1, h, hi => by
    simp only [List.map_cons, List.sum_cons] at h
    have hc := cnt_le d
    simp only [atFrom, List.getElem?_cons_succ]
    rw [count_cnt d (by omega), wrapS (by omega) (by omega), show (n : Int) + cnt d = ((n + cnt d : Nat) : Int) by omega, atFrom_get ds (n + cnt d) i (by omega) (by simpa using hi)]
    simp [tot]; omega
theorem sum_take {α : Type} (B : α → Nat) : ∀ (xs : List α) (i : Nat), ((xs.take i).map B).sum ≤ (xs.map B).sum
  | [], i => by simp
  | x :: xs, 0 => by simp
  | x :: xs, i + 1 => by have := sum_take B xs i; simp only [List.take_succ_cons, List.map_cons, List.sum_cons]; omega
theorem tot_take (ds : List Dc) (i : Nat) : tot (ds.take i) ≤ tot ds := sum_take cnt ds i
theorem tot_succ (ds : List Dc) (i : Nat) (h : i < ds.length) : tot (ds.take (i + 1)) = tot (ds.take i) + cnt ds[i] := by
  unfold tot
  rw [List.take_succ_eq_append_getElem h, List.map_append, List.sum_append]
  simp only [List.map_cons, List.map_nil, List.sum_cons, List.sum_nil, Nat.add_zero]
theorem of_at (ds : List Dc) (hb : bDs ds ≤ 1048576) (i : Nat) (h : i < ds.length) : ofI ds (atI ds) (i : Int) = some (ds[i], (tot (ds.take i) : Int)) := by
  have hl : (atI ds).length = ds.length := atFrom_length ds 0
  have hg := atFrom_get ds 0 i (by unfold bDs at hb; omega) h
  unfold ofI
  rw [dif_pos ⟨by omega, by omega, by omega⟩]
  have e : (atI ds)[i]'(by omega) = (tot (ds.take i) : Int) := by
    have h2 : (atI ds)[i]? = some ((atI ds)[i]'(by omega)) := List.getElem?_eq_getElem (by omega)
    have h3 : (atI ds)[i]? = some ((0 + tot (ds.take i) : Nat) : Int) := hg
    rw [h3] at h2
    injection h2 with h2
    rw [← h2, Nat.zero_add]
  simp only [Int.toNat_natCast]
  rw [e]
/-- A name: kind, number, place. -/
abbrev Nm := Int × Int × Int
/-- The constants of names, in line: none twice, all of the declaration's own. -/
def Good (ds : List Dc) (i : Nat) (names : List Nm) (vals : List Nat) : Prop :=
  vals.length = names.length ∧ vals.Nodup ∧ (∀ v ∈ vals, tot (ds.take i) ≤ v ∧ v < tot (ds.take (i + 1))) ∧
    ∀ (j : Nat) (x : Nm) (v : Nat), names[j]? = some x → vals[j]? = some v → nameI ds (atI ds) x.1 x.2.1 x.2.2 = some (v : Int)
theorem Good.nil (ds : List Dc) (i : Nat) : Good ds i [] [] := ⟨rfl, List.nodup_nil, by simp, fun j x v h => by simp at h⟩
theorem Good.snoc {ds : List Dc} {i : Nat} {names : List Nm} {vals : List Nat} (h : Good ds i names vals) (x : Nm) (v : Nat) (hv : v ∉ vals) (hr : tot (ds.take i) ≤ v ∧ v < tot (ds.take (i + 1))) (hn : nameI ds (atI ds) x.1 x.2.1 x.2.2 = some (v : Int)) : Good ds i (names ++ [x]) (vals ++ [v]) := by
  obtain ⟨h1, h2, h3, h4⟩ := h
  refine ⟨by simp [h1], List.nodup_append.2 ⟨h2, by simp, fun a ha b hb e => ?_⟩, fun u hu => ?_, fun j y u hy hu => ?_⟩
  · simp at hb; subst hb; subst e; exact hv ha
  · rcases List.mem_append.1 hu with hu | hu
    · exact h3 u hu
    · simp at hu; subst hu; exact hr
  · by_cases hj : j < names.length
    · rw [List.getElem?_append_left hj] at hy
      rw [List.getElem?_append_left (by omega)] at hu
      exact h4 j y u hy hu
    · rw [List.getElem?_append_right (by omega)] at hy
      rw [List.getElem?_append_right (by omega)] at hu
      rw [h1] at hu
      have : j - names.length = 0 := by
        have := (List.getElem?_eq_some_iff.1 hy).1; simp at this; omega
      rw [this] at hy hu
      simp at hy hu
      subst hy; subst hu
      exact hn
section
variable {ds : List Dc} (hb : bDs ds ≤ 1048576) (i : Nat) (h : i < ds.length)
include hb h
set_option linter.unusedSectionVars false
theorem tot_small : tot (ds.take (i + 1)) ≤ 2097152 := by
  have h1 := tot_take ds (i + 1); have h2 := tot_le ds; unfold bDs at hb; omega
theorem nm_const (hk : ds[i].kind = 1 ∨ ds[i].kind = 2) : nameI ds (atI ds) 3 i 0 = some (tot (ds.take i) : Int) := by
  unfold nameI constantI
  rw [of_at ds hb i h]
  simp [hk]
theorem nm_member (hk : ds[i].kind = 3) (j : Nat) (hj : j < ds[i].members.length) : nameI ds (atI ds) 8 i j = some ((tot (ds.take i) + 5 + j : Nat) : Int) := by
  have h0 := tot_small hb i h
  rw [tot_succ ds i h] at h0
  have hc : cnt ds[i] = 6 + 2 * ds[i].members.length + 2 * ds[i].ctors.length := by unfold cnt; rw [if_neg (by omega), if_pos hk]
  unfold nameI memberI
  rw [of_at ds hb i h]
  have hw : withinI ds[i] (j : Int) (ds[i].members.length : Int) = some (j : Int) := by unfold withinI; rw [if_pos ⟨hk, by omega, by omega⟩]
  simp only [hw, Option.map_some]
  rw [if_neg (by decide), if_pos trivial, wrapS (x := (tot (ds.take i) : Int) + 5) (by omega) (by omega), wrapS (by omega) (by omega)]
  congr 1
theorem nm_ctor (hk : ds[i].kind = 3) (j : Nat) (hj : j < ds[i].ctors.length) : nameI ds (atI ds) 9 i j = some ((tot (ds.take i) + 5 + ds[i].members.length + j : Nat) : Int) := by
  have h0 := tot_small hb i h
  rw [tot_succ ds i h] at h0
  have hc : cnt ds[i] = 6 + 2 * ds[i].members.length + 2 * ds[i].ctors.length := by unfold cnt; rw [if_neg (by omega), if_pos hk]
  unfold nameI ctorI
  rw [of_at ds hb i h]
  have hw : withinI ds[i] (j : Int) (ds[i].ctors.length : Int) = some (j : Int) := by unfold withinI; rw [if_pos ⟨hk, by omega, by omega⟩]
  simp only [hw, Option.map_some]
  rw [if_neg (by decide), if_neg (by decide), if_pos trivial, wrapS (x := (tot (ds.take i) : Int) + 5) (by omega) (by omega), wrapS (x := (tot (ds.take i) : Int) + 5 + ds[i].members.length) (by omega) (by omega), wrapS (by omega) (by omega)]
  congr 1
theorem nm_rec (hk : ds[i].kind = 3) (j : Nat) (hj : j < ds[i].members.length) : nameI ds (atI ds) 10 i j = some ((tot (ds.take i) + 6 + ds[i].members.length + ds[i].ctors.length + j : Nat) : Int) := by
  have h0 := tot_small hb i h
  rw [tot_succ ds i h] at h0
  have hc : cnt ds[i] = 6 + 2 * ds[i].members.length + 2 * ds[i].ctors.length := by unfold cnt; rw [if_neg (by omega), if_pos hk]
  unfold nameI recursorI
  rw [of_at ds hb i h]
  have hw : withinI ds[i] (j : Int) (ds[i].members.length : Int) = some (j : Int) := by unfold withinI; rw [if_pos ⟨hk, by omega, by omega⟩]
  simp only [hw, Option.map_some]
  rw [if_neg (by decide), if_neg (by decide), if_neg (by decide), if_pos trivial, wrapS (x := (tot (ds.take i) : Int) + 6) (by omega) (by omega), wrapS (x := (tot (ds.take i) : Int) + 6 + ds[i].members.length) (by omega) (by omega), wrapS (x := (tot (ds.take i) : Int) + 6 + ds[i].members.length + ds[i].ctors.length) (by omega) (by omega), wrapS (by omega) (by omega)]
  congr 1
/-- What names there are so far: the first p members' (each twice), the first q constructors'. -/
def InM (b m c p q v : Nat) : Prop := (b + 5 ≤ v ∧ v < b + 5 + p) ∨ (b + 6 + m + c ≤ v ∧ v < b + 6 + m + c + p) ∨ (b + 5 + m ≤ v ∧ v < b + 5 + m + q)
theorem good_member (hk : ds[i].kind = 3) {names : List Nm} {vals : List Nat} (p : Nat) (hp : p < ds[i].members.length) (hg : Good ds i names vals) (hv : ∀ v ∈ vals, InM (tot (ds.take i)) ds[i].members.length ds[i].ctors.length p 0 v) :
    ∃ vals', Good ds i (names ++ [(8, (i : Int), (p : Int)), (10, (i : Int), (p : Int))]) vals' ∧ ∀ v ∈ vals', InM (tot (ds.take i)) ds[i].members.length ds[i].ctors.length (p + 1) 0 v := by
  have hc : cnt ds[i] = 6 + 2 * ds[i].members.length + 2 * ds[i].ctors.length := by unfold cnt; rw [if_neg (by omega), if_pos hk]
  have ht := tot_succ ds i h
  have g1 := hg.snoc (8, (i : Int), (p : Int)) (tot (ds.take i) + 5 + p) (fun hm => by have := hv _ hm; unfold InM at this; omega) (by omega) (nm_member hb i h hk p hp)
  have g2 := g1.snoc (10, (i : Int), (p : Int)) (tot (ds.take i) + 6 + ds[i].members.length + ds[i].ctors.length + p) (fun hm => by
    rcases List.mem_append.1 hm with hm | hm
    · have := hv _ hm; unfold InM at this; omega
    · simp at hm; omega) (by omega) (nm_rec hb i h hk p hp)
  refine ⟨vals ++ [tot (ds.take i) + 5 + p] ++ [tot (ds.take i) + 6 + ds[i].members.length + ds[i].ctors.length + p], by
    rw [show names ++ [((8 : Int), (i : Int), (p : Int)), (10, (i : Int), (p : Int))] = names ++ [(8, (i : Int), (p : Int))] ++ [(10, (i : Int), (p : Int))] by simp]
    exact g2, fun v hm => ?_⟩
  simp only [List.mem_append, List.mem_singleton] at hm
  unfold InM at *
  rcases hm with (hm | hm) | hm
  · have := hv _ hm; omega
  · omega
  · omega
theorem good_ctor (hk : ds[i].kind = 3) {names : List Nm} {vals : List Nat} (q : Nat) (hq : q < ds[i].ctors.length) (hg : Good ds i names vals) (hv : ∀ v ∈ vals, InM (tot (ds.take i)) ds[i].members.length ds[i].ctors.length ds[i].members.length q v) :
    ∃ vals', Good ds i (names ++ [(9, (i : Int), (q : Int))]) vals' ∧ ∀ v ∈ vals', InM (tot (ds.take i)) ds[i].members.length ds[i].ctors.length ds[i].members.length (q + 1) v := by
  have hc : cnt ds[i] = 6 + 2 * ds[i].members.length + 2 * ds[i].ctors.length := by unfold cnt; rw [if_neg (by omega), if_pos hk]
  have ht := tot_succ ds i h
  have g1 := hg.snoc (9, (i : Int), (q : Int)) (tot (ds.take i) + 5 + ds[i].members.length + q) (fun hm => by have := hv _ hm; unfold InM at this; omega) (by omega) (nm_ctor hb i h hk q hq)
  refine ⟨vals ++ [tot (ds.take i) + 5 + ds[i].members.length + q], g1, fun v hm => ?_⟩
  simp only [List.mem_append, List.mem_singleton] at hm
  unfold InM at *
  rcases hm with hm | hm
  · have := hv _ hm; omega
  · omega
theorem good_const (hk : ds[i].kind = 1 ∨ ds[i].kind = 2) : Good ds i [(3, (i : Int), 0)] [tot (ds.take i)] := by
  have hc : cnt ds[i] = 1 := by unfold cnt; rw [if_pos hk]
  have ht := tot_succ ds i h
  have := (Good.nil ds i).snoc (3, (i : Int), 0) (tot (ds.take i)) (by simp) (by omega) (nm_const hb i h hk)
  simpa using this
end
end Go.Proofs.YtkedcijfegoflaaDoor
