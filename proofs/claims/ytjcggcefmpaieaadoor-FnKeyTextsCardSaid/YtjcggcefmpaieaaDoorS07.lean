/- Numbers read out of texts: plain lists of bytes; byte arrays of a list. No condition. -/
import Derived.Test.YtjcggcefmpaieaaDoorS02
set_option linter.unusedVariables false
namespace Go.Tx
open Go Go.Lib Go.Sx

/-! ### byte arrays made of a list -/
theorem ba_eta (t : ByteArray) : (⟨t.data.toList.toArray⟩ : ByteArray) = t := by simp
theorem ba_size (l : List UInt8) : (⟨l.toArray⟩ : ByteArray).size = l.length := by simp [ByteArray.size]
theorem ba_get {l : List UInt8} {i : Nat} (h : i < l.length) : (⟨l.toArray⟩ : ByteArray)[i]? = some l[i] := by
  rw [getElem?_pos (⟨l.toArray⟩ : ByteArray) i (by rw [ba_size]; exact h)]
  rfl
theorem ba_beq (a b : List UInt8) : ((⟨a.toArray⟩ : ByteArray).toList == (⟨b.toArray⟩ : ByteArray).toList) = decide (a = b) := by
  rw [ByteArray.toList_eq, ByteArray.toList_eq]
  by_cases h : a = b
  · subst h; simp
  · simp [h]
theorem ba_extract (l : List UInt8) {i j : Nat} (hi : i ≤ j) (hj : j ≤ l.length) : (⟨l.toArray⟩ : ByteArray).extract i j = ⟨((l.take j).drop i).toArray⟩ := by
  apply Go.WideShapes.bytes_inj
  rw [ByteArray.data_extract]
  simp [List.drop_take]

/-! ### numbers -/
/-- the number that a numeral spells -/
def rd (l : List UInt8) : Option Int := match parseIntB 64 l with
  | .ok n => if itoa n = l then some n else none
  | _ => none
theorem rd_itoa {n : Int} (h : I64 n) : rd (itoa n) = some n := by
  unfold rd
  rw [parse_itoa h]
  simp
theorem rd_some {l : List UInt8} {n : Int} (h : rd l = some n) : I64 n ∧ l = itoa n := by
  unfold rd at h
  split at h
  · rename_i m hm
    split at h
    · rename_i e
      injection h with h
      subst h
      exact ⟨parse_range hm, e.symm⟩
    · cases h
  · cases h
/-- the numbers that these texts spell -/
def rds : List (List UInt8) → Option (List Int)
  | [] => some []
  | x :: xs => match rd x, rds xs with
    | some n, some ns => some (n :: ns)
    | _, _ => none
theorem rds_map : ∀ {zs : List Int}, (∀ z ∈ zs, I64 z) → rds (zs.map itoa) = some zs
  | [], _ => rfl
  | z :: zs, h => by
    rw [List.map_cons, rds, rd_itoa (h z (by simp)), rds_map fun y hy => h y (List.mem_cons_of_mem _ hy)]
theorem rds_some : ∀ {ws : List (List UInt8)} {zs : List Int}, rds ws = some zs → ws = zs.map itoa ∧ ∀ z ∈ zs, I64 z
  | [], zs, h => by
    injection h with h
    subst h
    exact ⟨rfl, fun z hz => (by cases hz)⟩
  | x :: xs, zs, h => by
    rw [rds] at h
    split at h
    · rename_i n ns h1 h2
      injection h with h
      subst h
      obtain ⟨e1, e2⟩ := rd_some h1
      obtain ⟨e3, e4⟩ := rds_some h2
      refine ⟨by rw [e3, e2]; rfl, fun z hz => ?_⟩
      rcases List.mem_cons.1 hz with rfl | hz
      · exact e1
      · exact e4 z hz
    · cases h
theorem rds_bad {ws : List (List UInt8)} {x : List UInt8} (hx : x ∈ ws) (h : rd x = none) : rds ws = none := by
  cases hr : rds ws with
  | none => rfl
  | some zs =>
    obtain ⟨e, hz⟩ := rds_some hr
    subst e
    obtain ⟨z, hm, rfl⟩ := List.mem_map.1 hx
    rw [rd_itoa (hz z hm)] at h
    cases h
/-- one word more -/
theorem rds_snoc {ws : List (List UInt8)} {zs : List Int} {x : List UInt8} {n : Int} (h : rds ws = some zs) (hx : rd x = some n) : rds (ws ++ [x]) = some (zs ++ [n]) := by
  obtain ⟨e, hz⟩ := rds_some h
  obtain ⟨h1, h2⟩ := rd_some hx
  rw [e, h2, show zs.map itoa ++ [itoa n] = (zs ++ [n]).map itoa by simp]
  refine rds_map fun z hm => ?_
  rcases List.mem_append.1 hm with hm | hm
  · exact hz z hm
  · rw [List.mem_singleton] at hm
    subst hm
    exact h1
/-! ### numbers of at most thirteen digits -/
def Sml (n : Int) : Prop := 0 ≤ n ∧ n ≤ 9999999999999
theorem sml_dec {n : Int} (h : Sml n) : itoa n = decDigits n.toNat ∧ 1 ≤ (itoa n).length ∧ (itoa n).length ≤ 13 ∧ ∀ c ∈ itoa n, isDig c := by
  unfold Sml at h
  have e := itoa_pos h.1
  refine ⟨e, ?_, ?_, ?_⟩
  · exact List.length_pos_iff.2 (itoa_ne n)
  · rw [e]; exact dd_length _ 13 (by decide) (by omega)
  · rw [e]; exact dd_digits _
theorem sml_val {n : Int} (h : Sml n) : valD 0 (itoa n) = n.toNat := by rw [(sml_dec h).1, valD_dd]
theorem valD_snoc (l : List UInt8) {k : Nat} (hk : k < l.length) : valD 0 (l.take (k + 1)) = 10 * valD 0 (l.take k) + (l[k].toNat - 48) := by
  rw [show l.take (k + 1) = l.take k ++ [l[k]] by rw [List.take_add_one, List.getElem?_eq_getElem hk]; rfl, valD_append]
  rfl
theorem valD_size : ∀ (l : List UInt8), (∀ c ∈ l, isDig c) → ∀ a, valD a l < (a + 1) * 10 ^ l.length
  | [], _, a => by simp [valD]
  | c :: l, h, a => by
    have h1 := h c (by simp)
    unfold isDig at h1
    have := valD_size l (fun x hx => h x (List.mem_cons_of_mem _ hx)) (10 * a + (c.toNat - 48))
    have e : valD a (c :: l) = valD (10 * a + (c.toNat - 48)) l := rfl
    rw [e, List.length_cons, Nat.pow_succ]
    refine Nat.lt_of_lt_of_le this ?_
    rw [show (a + 1) * (10 ^ l.length * 10) = ((a + 1) * 10) * 10 ^ l.length by rw [Nat.mul_comm (10 ^ l.length), Nat.mul_assoc]]
    exact Nat.mul_le_mul_right _ (by omega)
theorem valD_sml {l : List UInt8} (h : ∀ c ∈ l, isDig c) (hl : l.length ≤ 13) : valD 0 l ≤ 9999999999999 := by
  have h1 := valD_size l h 0
  have h2 : 10 ^ l.length ≤ 10 ^ 13 := Nat.pow_le_pow_right (by decide) hl
  omega
/-- a word of the reference's: a number of at most thirteen digits -/
def rd13 (l : List UInt8) : Option Int := match rd l with
  | some n => if 0 ≤ n ∧ n ≤ 9999999999999 then some n else none
  | none => none
theorem rd13_some {l : List UInt8} {n : Int} : rd13 l = some n ↔ Sml n ∧ l = itoa n := by
  unfold rd13
  constructor
  · intro h
    split at h
    · rename_i m hm
      split at h
      · rename_i hs
        injection h with h
        subst h
        exact ⟨hs, (rd_some hm).2⟩
      · cases h
    · cases h
  · rintro ⟨h, rfl⟩
    have h' := h
    unfold Sml at h'
    rw [rd_itoa (by unfold I64; omega)]
    simp only
    rw [if_pos h']
theorem rd13_rd {l : List UInt8} {n : Int} (h : rd13 l = some n) : rd l = some n := by
  obtain ⟨h1, rfl⟩ := rd13_some.1 h
  unfold Sml at h1
  exact rd_itoa (by unfold I64; omega)
theorem rd13_none {l : List UInt8} (h : ∀ n, Sml n → l ≠ itoa n) : rd13 l = none := by
  cases hr : rd13 l with
  | none => rfl
  | some n => exact absurd (rd13_some.1 hr).2 (h n (rd13_some.1 hr).1)
/-- if a word is no number of at most thirteen digits, then not all of the numbers are -/
theorem rds_no13 {ws : List (List UInt8)} {x : List UInt8} {zs : List Int} (hx : x ∈ ws) (h : rd13 x = none) (hr : rds ws = some zs) : ∃ z ∈ zs, ¬ Sml z := by
  obtain ⟨e, hz⟩ := rds_some hr
  subst e
  obtain ⟨z, hm, rfl⟩ := List.mem_map.1 hx
  refine ⟨z, hm, fun hs => ?_⟩
  rw [rd13_some.2 ⟨hs, rfl⟩] at h
  cases h
end Go.Tx
