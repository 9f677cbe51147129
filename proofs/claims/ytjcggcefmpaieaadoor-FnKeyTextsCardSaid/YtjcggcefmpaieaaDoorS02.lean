/- What strconv.ParseInt reads of a numeral. No condition. -/
import Derived.Test.YtjcggcefmpaieaaDoorS01
set_option linter.unusedVariables false
namespace Go.Tx
open Go Go.Lib Go.Sx

theorem valD_mono (a : Nat) (l : List UInt8) : a ≤ valD a l := by
  induction l generalizing a with
  | nil => exact Nat.le_refl _
  | cons c l ih =>
    have := ih (10 * a + (c.toNat - 48))
    simp only [valD, List.foldl_cons] at this ⊢
    omega
theorem parseM_digits : ∀ (l : List UInt8) (a : Nat), (∀ c ∈ l, isDig c) → valD a l ≤ 18446744073709551615 → parseUintM (2 ^ 64 - 1) a l = .ok (valD a l)
  | [], a, _, _ => rfl
  | c :: l, a, hd, hv => by
    have hc : 48 ≤ c.toNat ∧ c.toNat ≤ 57 := hd c (by simp)
    have e : valD a (c :: l) = valD (10 * a + (c.toNat - 48)) l := rfl
    have hm := valD_mono (10 * a + (c.toNat - 48)) l
    rw [e] at hv ⊢
    have e2 : a * 10 + (c.toNat - 48) = 10 * a + (c.toNat - 48) := by omega
    rw [parseUintM, if_pos hc, if_neg (by omega), if_neg (by omega), e2]
    exact parseM_digits l _ (fun x hx => hd x (List.mem_cons_of_mem _ hx)) hv
/-- the numeral of a number is read as that number -/
theorem parse_itoa {n : Int} (h : I64 n) : parseIntB 64 (itoa n) = .ok n := by
  unfold I64 at h
  have key : ∀ u : Nat, u ≤ 18446744073709551615 → parseUintB 64 (decDigits u) = .ok u := fun u hu => by
    unfold parseUintB
    rw [if_neg (dd_ne u), parseM_digits _ 0 (dd_digits u) (by rw [valD_dd]; exact hu), valD_dd]
  rcases Int.lt_or_le n 0 with h0 | h0
  · rw [itoa_neg h0]
    unfold parseIntB
    have e45 : (45 : UInt8).toNat = 45 := rfl
    simp only [e45, or_true, if_true]
    rw [key _ (by omega)]
    simp only [not_true_eq_false, false_and, if_false, true_and]
    rw [if_neg (by omega)]
    congr 1
    omega
  · rw [itoa_pos h0]
    have hne := dd_ne n.toNat
    have hdig := dd_digits n.toNat
    match hd : decDigits n.toNat, hne with
    | c :: r, _ =>
      have hc : 48 ≤ c.toNat ∧ c.toNat ≤ 57 := hdig c (by rw [hd]; simp)
      unfold parseIntB
      have h45 : ¬ c.toNat = 45 := by omega
      have h43 : ¬ c.toNat = 43 := by omega
      simp only [h43, h45, or_self, if_false]
      rw [← hd, key _ (by omega)]
      simp only [ not_false_eq_true, true_and, false_and, if_false]
      rw [if_neg (by omega)]
      congr 1
      omega
theorem parse_range {l : List UInt8} {n : Int} (h : parseIntB 64 l = .ok n) : I64 n := by
  unfold parseIntB at h
  unfold I64
  split at h
  · cases h
  · rename_i c r
    simp only at h
    split at h
    · cases h
    · cases h
    · rename_i u hu
      split at h
      · cases h
      · split at h
        · cases h
        · rename_i h1 h2
          injection h with h
          split at h
          · rename_i h3
            have : ¬ 2 ^ (64 - 1) < u := fun hh => h2 ⟨h3, hh⟩
            omega
          · rename_i h3
            have : ¬ 2 ^ (64 - 1) ≤ u := fun hh => h1 ⟨h3, hh⟩
            omega
end Go.Tx
