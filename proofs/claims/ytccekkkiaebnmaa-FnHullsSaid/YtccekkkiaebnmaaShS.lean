/- Contracts of the library's sort and compact at slices of numbers of the call's own. No condition. -/
import Derived.Test.YtccekkkiaebnmaaVw
import Derived.Test.YtccekkkiaebnmaaP06
import Derived.Test.YtccekkkiaebnmaaShf
set_option linter.unusedVariables false
namespace Go.Proofs
open Go.Sx Go.RowKit Go.Sort
/-- a row of the call's own, in which numbers have been put -/
theorem own_put {B : Nat} {w : World} {g cap : Nat} {zs ys : List Int} (h : Own B w 2 (.slice (some ⟨g, 0, none⟩) zs.length cap) (ints zs)) (h0 : zs ≠ []) (n : Nat) (os : Array Obj) (hl : ys.length = zs.length) (k : Nat) (hk : k ≤ ys.length) :
    Own B (grow (putRow (Value.int .i64) (Sort.ahead w n) g 0 ys.toArray) os) 2 (.slice (some ⟨g, 0, none⟩) k cap) (ints (ys.take k)) ∧ w.grownBy (grow (putRow (Value.int .i64) (Sort.ahead w n) g 0 ys.toArray) os) (some g) := by
  rcases h.2 with ⟨he, _⟩ | ⟨g', cap', cur, hv, hg, hh, hn, hc, hs, ht⟩
  · cases he
  injection hv with hv1 _ hv2
  injection hv1 with hv1
  injection hv1 with hv1 _ _
  subst hv1 hv2
  have hlt : g < w.heap.size := heap_lt hh
  have hgt : (grow (putRow (Value.int .i64) (Sort.ahead w n) g 0 ys.toArray) os).heap[g]? = some (.cells (putCells (Value.int .i64) 0 ys.toArray cur) 2 (0, 0)) := by
    rw [heap_grow_old _ _ (by simpa using hlt)]
    simp [putRow, mapBlock, Array.getElem?_modify, hh, onCells]
  rw [ints_length] at hn
  have hcs : cur.size = cap := by simpa using hs
  have hput : ∀ j (hj : j < ys.length), (putCells (Value.int .i64) 0 ys.toArray cur).toList[j]? = some (.int .i64 ys[j]) := by
    intro j hj
    rw [Array.getElem?_toList]
    unfold putCells
    rw [Array.getElem?_mapIdx, Array.getElem?_eq_getElem (show j < cur.size by omega)]
    simp only [Option.map_some]
    rw [if_pos ⟨Nat.zero_le _, by simpa using hj⟩]
    simp [hj]
  refine ⟨⟨by rw [ints_length, List.length_take]; omega, .inr ⟨g, cap, putCells (Value.int .i64) 0 ys.toArray cur, by rw [ints_length, List.length_take, Nat.min_eq_left hk], hg, hgt, by rw [ints_length, List.length_take]; omega, hc, by simp [putCells, hcs], ?_⟩⟩, rfl, rfl, rfl, by simp, fun b hb hne => ?_⟩
  · apply List.ext_getElem?
    intro j
    rw [ints_length, List.length_take, Nat.min_eq_left hk, Nat.mul_one, List.getElem?_take]
    by_cases hj : j < k
    · rw [if_pos hj, hput j (by omega)]
      unfold ints
      rw [List.getElem?_map, List.getElem?_take_of_lt hj, List.getElem?_eq_getElem (show j < ys.length by omega)]
      rfl
    · rw [if_neg hj]
      exact (List.getElem?_eq_none (by rw [ints_length, List.length_take]; omega)).symm
  · rw [heap_grow_old _ _ (by simpa using hb)]
    have hbg : g ≠ b := fun e => hne (by rw [e])
    simp [putRow, mapBlock, Array.getElem?_modify, hbg]
theorem own_holds {B : Nat} {w : World} {g cap : Nat} {zs : List Int} (h : Own B w 2 (.slice (some ⟨g, 0, none⟩) zs.length cap) (ints zs)) (h0 : zs ≠ []) : Holds (Value.int .i64) w g 0 zs.toArray ∧ g < w.heap.size ∧ zs.length ≤ cap := by
  have hp := List.length_pos_iff.2 h0
  rcases h.2 with ⟨he, _⟩ | ⟨g', cap', cur, hv, hg, hh, hn, hc, hs, ht⟩
  · cases he
  injection hv with hv1 _ hv2
  injection hv1 with hv1
  injection hv1 with hv1 _ _
  subst hv1 hv2
  refine ⟨fun j hj => ?_, heap_lt hh, by simpa using hn⟩
  have hj' : j < zs.length := by simpa using hj
  refine ⟨?_, by simp [World.frozen?, hh]⟩
  rw [cell_of_row w g (0 + j) cur 2 (0, 0) hh, Nat.zero_add, ← Array.getElem?_toList]
  have : (cur.toList.take (ints zs).length)[j]? = (ints zs)[j]? := by
    simp only [Nat.mul_one] at ht
    rw [ht]
  rw [List.getElem?_take_of_lt (by simpa using hj')] at this
  rw [this]
  simp [ints, hj']
theorem own_slice {B : Nat} {w : World} {v : Value} {zs : List Int} (h : Own B w 2 v (ints zs)) (h0 : zs ≠ []) : ∃ g cap, v = .slice (some ⟨g, 0, none⟩) zs.length cap := by
  rcases h.2 with ⟨rfl, h1⟩ | ⟨g, cap, cur, rfl, _⟩
  · have : zs = [] := by simpa using h1
    exact absurd this h0
  · exact ⟨g, cap, by rw [ints_length]⟩
theorem slices_Sort_own {B : Nat} {w : World} {v : Value} {zs : List Int} (h : Own B w 2 v (ints zs)) (h0 : zs ≠ []) (hl : zs.length ≤ 1000000) : Calls Try.prog 150 #[v] w fun e w' => e = .returned (.tuple #[]) ∧ Own B w' 2 v (ints (srt zs)) ∧ w.grownBy w' v.ownBlock := by
  obtain ⟨g, cap, rfl⟩ := own_slice h h0
  obtain ⟨hH, hb, _⟩ := own_holds h h0
  refine Calls.mono (Try.slices_Sort_int g 0 cap zs w hH hb (by omega)) ?_
  rintro e w' ⟨rfl, n, os, rfl⟩
  have hs : (zs.mergeSort fun x y => decide (x ≤ y)).length = zs.length := srt_length zs
  obtain ⟨o, gr⟩ := own_put h h0 n os hs (zs.mergeSort fun x y => decide (x ≤ y)).length (Nat.le_refl _)
  refine ⟨rfl, ?_, gr⟩
  rw [List.take_of_length_le (Nat.le_refl _), hs] at o
  exact o
theorem slices_Compact_own {B : Nat} {w : World} {v : Value} {zs : List Int} (h : Own B w 2 v (ints zs)) (h0 : zs ≠ []) (hl : zs.length ≤ 1000000) : Calls Try.prog 151 #[v] w fun e w' => ∃ u, e = .returned u ∧ Own B w' 2 u (ints (Go.Lib.compactUpTo zs.toArray zs.length)) ∧ u.ownBlock = v.ownBlock ∧ w.grownBy w' v.ownBlock := by
  obtain ⟨g, cap, rfl⟩ := own_slice h h0
  obtain ⟨hH, hb, hcap⟩ := own_holds h h0
  refine Calls.mono (Try.slices_Compact (Value.int .i64) (fun _ => rfl) (EqlAt.intD _ _ _) (NeqAt.intD _ _ _) 0 (fun w => Try.zeroValue2 w) g 0 cap zs.toArray w hH (by simp; omega) (by simpa using hcap)) ?_
  rintro e w' ⟨rfl, q, rfl⟩
  have hcl : (Go.Lib.compactUpTo zs.toArray zs.toArray.size).length ≤ zs.length := by
    unfold Go.Lib.compactUpTo
    rw [List.length_map]
    refine Nat.le_trans (List.length_filter_le _ _) (by simp)
  have hs : (Go.Lib.compactUpTo zs.toArray zs.toArray.size ++ List.replicate (zs.toArray.size - (Go.Lib.compactUpTo zs.toArray zs.toArray.size).length) 0).length = zs.length := by
    rw [List.length_append, List.length_replicate]
    simp at *
    omega
  obtain ⟨o, gr⟩ := own_put h h0 q #[] hs (Go.Lib.compactUpTo zs.toArray zs.toArray.size).length (by rw [hs]; exact hcl)
  rw [grow_empty] at o gr
  rw [List.take_left] at o
  refine ⟨_, rfl, ?_, rfl, gr⟩
  simpa using o
end Go.Proofs
