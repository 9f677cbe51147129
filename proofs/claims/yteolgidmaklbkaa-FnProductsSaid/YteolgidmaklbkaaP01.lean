/- Products and powers, in plain Lean. No condition. -/
import Derived.Test.YteolgidmaklbkaaL01
set_option linter.unusedVariables false
namespace Go.Proofs
open Go.Sx Go.RowKit
theorem cut_le {a b : Int} (ha : 0 < a) : Mx / a < b ↔ Mx < a * b := by
  rw [Int.ediv_lt_iff_lt_mul ha, Int.mul_comm]
theorem cut_min {a b : Int} (ha : 0 < a) : cut a b = if Mx < a * b then Mx + 1 else a * b := by
  unfold cut
  by_cases h : Mx < a * b
  · rw [if_pos ⟨ha, (cut_le ha).2 h⟩, if_pos h]
  · rw [if_neg (fun hh => h ((cut_le ha).1 hh.2)), if_neg h]
theorem le_mul {a b : Int} (ha : 0 ≤ a) (hb : 1 ≤ b) : a ≤ a * b := by
  have := Int.mul_le_mul_of_nonneg_left hb ha
  omega
theorem cut_pos {a b : Int} (ha : 0 < a) (hb : 0 < b) : 0 < cut a b := by
  rw [cut_min ha]
  split
  · unfold Mx; omega
  · exact Int.mul_pos ha hb
theorem cut_swap {a b c : Int} (ha : 0 < a) (hb : 0 < b) (hc : 0 < c) : cut (cut a b) c = cut (cut a c) b := by
  have gen : ∀ {b c : Int}, 0 < b → 0 < c → cut (cut a b) c = if Mx < a * b * c then Mx + 1 else a * b * c := by
    intro b c hb hc
    rw [cut_min (cut_pos ha hb), cut_min ha]
    by_cases h : Mx < a * b
    · rw [if_pos h]
      have h1 := le_mul (show 0 ≤ a * b by have := Int.mul_pos ha hb; omega) (show 1 ≤ c by omega)
      have h2 := le_mul (show 0 ≤ Mx + 1 by unfold Mx; omega) (show 1 ≤ c by omega)
      rw [if_pos (by omega), if_pos (by omega)]
    · rw [if_neg h]
  rw [gen hb hc, gen hc hb, Int.mul_assoc, Int.mul_comm b c, ← Int.mul_assoc]
theorem foldl_cut_snoc {a c : Int} (ha : 0 < a) (hc : 0 < c) : ∀ (l : List Int), (∀ z ∈ l, 0 < z) → l.foldl cut (cut a c) = cut (l.foldl cut a) c
  | [], _ => rfl
  | b :: l, h => by
    simp only [List.foldl_cons]
    rw [cut_swap ha hc (h b (by simp)), foldl_cut_snoc (cut_pos ha (h b (by simp))) hc l fun z hz => h z (by simp [hz])]
theorem foldl_cut_pos {a : Int} (ha : 0 < a) : ∀ (l : List Int), (∀ z ∈ l, 0 < z) → 0 < l.foldl cut a
  | [], _ => ha
  | b :: l, h => by
    simp only [List.foldl_cons]
    exact foldl_cut_pos (cut_pos ha (h b (by simp))) l fun z hz => h z (by simp [hz])
theorem foldl_cut_app : ∀ (k l : List Int) (a : Int), 0 < a → (∀ z ∈ k, 0 < z) → (∀ z ∈ l, 0 < z) → (k ++ l).foldl cut a = (l ++ k).foldl cut a
  | [], l, a, _, _, _ => by simp
  | c :: k, l, a, ha, hk, hl => by
    have hc := hk c (by simp)
    have hk' : ∀ z ∈ k, 0 < z := fun z hz => hk z (by simp [hz])
    rw [List.cons_append, List.foldl_cons, foldl_cut_app k l _ (cut_pos ha hc) hk' hl, List.foldl_append, foldl_cut_snoc ha hc l hl, List.foldl_append, List.foldl_cons]
theorem prodR_turn {zs : List Int} {i : Nat} : prodR (zs.drop i ++ zs.take i) = prodR zs := by
  have hm : ∀ z, z ∈ zs.drop i ++ zs.take i ↔ z ∈ zs := fun z => by
    conv => rhs; rw [← List.take_append_drop i zs]
    simp only [List.mem_append]
    exact Or.comm
  have hlen : (zs.drop i ++ zs.take i).length = zs.length := by
    have := congrArg List.length (List.take_append_drop i zs)
    simp only [List.length_append] at *
    omega
  have hN : Nums (zs.drop i ++ zs.take i) ↔ Nums zs := by
    unfold Nums
    rw [hlen]
    simp only [hm]
  unfold prodR
  by_cases h : Nums zs
  · rw [if_pos h, if_pos (hN.2 h)]
    by_cases h0 : (0 : Int) ∈ zs
    · rw [if_pos h0, if_pos ((hm 0).2 h0)]
    · rw [if_neg h0, if_neg (fun hh => h0 ((hm 0).1 hh))]
      have hp : ∀ z ∈ zs, 0 < z := fun z hz => by
        have := (h.2 z hz).1
        rcases Int.lt_or_eq_of_le this with hh | hh
        · exact hh
        · exact absurd (hh ▸ hz) h0
      unfold pcut
      rw [foldl_cut_app _ _ 1 (by decide) (fun z hz => hp z ((hm z).1 (List.mem_append_left _ hz))) (fun z hz => hp z ((hm z).1 (List.mem_append_right _ hz))), List.take_append_drop]
  · rw [if_neg h, if_neg (fun hh => h (hN.1 hh))]
theorem pow_pos {a : Int} (ha : 0 < a) : ∀ k, 0 < pow a k
  | 0 => by show (0 : Int) < 1; decide
  | k + 1 => cut_pos (pow_pos ha k) ha
theorem pow_step {a x : Int} {k : Nat} (ha : 0 < a) (h : lim (pow a (k + 1)) = .tuple #[.int .i64 x, .int .i64 0]) : lim (pow a k) = .tuple #[.int .i64 (pow a k), .int .i64 0] ∧ pow a k * a = x ∧ 0 ≤ x ∧ x ≤ Mx := by
  have hp := pow_pos ha k
  have h2 : pow a (k + 1) = if Mx < pow a k * a then Mx + 1 else pow a k * a := cut_min hp
  have h3 := le_mul (show 0 ≤ pow a k by omega) (show 1 ≤ a by omega)
  unfold lim at h
  split at h
  · simp at h
  · rename_i hm
    simp only [Value.tuple.injEq, Array.mk.injEq, List.cons.injEq, Value.int.injEq, and_true, true_and] at h
    rw [h2] at h hm
    split at h
    · rename_i hb
      rw [if_pos hb] at hm
      omega
    · rename_i hb
      refine ⟨?_, h, by omega, by omega⟩
      unfold lim
      rw [if_neg (by omega)]
end Go.Proofs
