/- Decimal numerals, texts joined and cut: plain lists of bytes. No condition. -/
import Derived.Lib.ItoaNum
import Derived.Lib.Join
import Derived.Lib.Split
import Derived.Lib.ParseIntB
import Derived.Test.YtjcggcefmpaieaaDoorBase
set_option linter.unusedVariables false
namespace Go.Tx
open Go Go.Lib Go.Sx

/-! ### numerals -/
def isDig (c : UInt8) : Prop := 48 ≤ c.toNat ∧ c.toNat ≤ 57
theorem digit_nat (k : Nat) (h : k < 10) : (UInt8.ofNat (48 + k)).toNat = 48 + k := by
  simp only [UInt8.toNat_ofNat']
  omega
theorem dd_small {u : Nat} (h : u < 10) : decDigits u = [UInt8.ofNat (48 + u)] := by rw [decDigits, dif_pos h]
theorem dd_big {u : Nat} (h : ¬ u < 10) : decDigits u = decDigits (u / 10) ++ [UInt8.ofNat (48 + u % 10)] := by rw [decDigits, dif_neg h]
theorem dd_ind {p : Nat → Prop} (h1 : ∀ u, u < 10 → p u) (h2 : ∀ u, ¬ u < 10 → p (u / 10) → p u) : ∀ u, p u := by
  intro u
  induction u using Nat.strongRecOn with
  | _ u ih =>
    by_cases h : u < 10
    · exact h1 u h
    · exact h2 u h (ih _ (by omega))
theorem dd_digits : ∀ u, ∀ c ∈ decDigits u, isDig c := by
  refine dd_ind (fun u h c hc => ?_) (fun u h ih c hc => ?_)
  · rw [dd_small h, List.mem_singleton] at hc
    subst hc
    unfold isDig
    rw [digit_nat u h]
    omega
  · rw [dd_big h] at hc
    rcases List.mem_append.1 hc with hc | hc
    · exact ih c hc
    · rw [List.mem_singleton] at hc
      subst hc
      unfold isDig
      rw [digit_nat _ (Nat.mod_lt _ (by decide))]
      omega
theorem dd_ne : ∀ u, decDigits u ≠ [] := by
  intro u
  by_cases h : u < 10
  · rw [dd_small h]; simp
  · rw [dd_big h]; simp
/-- what a row of digits comes to -/
def valD (a : Nat) (l : List UInt8) : Nat := l.foldl (fun n c => 10 * n + (c.toNat - 48)) a
theorem valD_append (a : Nat) (l m : List UInt8) : valD a (l ++ m) = valD (valD a l) m := by simp [valD]
theorem valD_dd : ∀ u, valD 0 (decDigits u) = u := by
  refine dd_ind (fun u h => ?_) (fun u h ih => ?_)
  · rw [dd_small h]
    simp only [valD, List.foldl_cons, List.foldl_nil]
    rw [digit_nat u h]
    omega
  · rw [dd_big h, valD_append, ih]
    simp only [valD, List.foldl_cons, List.foldl_nil]
    rw [digit_nat _ (Nat.mod_lt _ (by decide))]
    omega
theorem dd_inj {u v : Nat} (h : decDigits u = decDigits v) : u = v := by rw [← valD_dd u, h, valD_dd]
theorem itoa_pos {n : Int} (h : 0 ≤ n) : itoa n = decDigits n.toNat := by unfold itoa; rw [if_neg (by omega)]
theorem itoa_neg {n : Int} (h : n < 0) : itoa n = 45 :: decDigits n.natAbs := by unfold itoa; rw [if_pos h]
theorem itoa_ne (n : Int) : itoa n ≠ [] := by
  rcases Int.lt_or_le n 0 with h | h
  · rw [itoa_neg h]; simp
  · rw [itoa_pos h]; exact dd_ne _
theorem itoa_chars (n : Int) : ∀ c ∈ itoa n, c.toNat = 45 ∨ isDig c := by
  intro c hc
  rcases Int.lt_or_le n 0 with h | h
  · rw [itoa_neg h] at hc
    rcases List.mem_cons.1 hc with rfl | hc
    · exact .inl rfl
    · exact .inr (dd_digits _ c hc)
  · rw [itoa_pos h] at hc
    exact .inr (dd_digits _ c hc)
theorem itoa_head {n : Int} : (itoa n).head? = some 45 ↔ n < 0 := by
  rcases Int.lt_or_le n 0 with h | h
  · rw [itoa_neg h]
    simp [h]
  · rw [itoa_pos h]
    refine ⟨fun hh => ?_, fun hh => by omega⟩
    have := dd_digits n.toNat 45 (List.mem_of_mem_head? hh)
    exact absurd this.1 (by decide)
theorem itoa_inj {a b : Int} (h : itoa a = itoa b) : a = b := by
  rcases Int.lt_or_le a 0 with ha | ha
  · have hb : b < 0 := itoa_head.1 (h ▸ itoa_head.2 ha)
    rw [itoa_neg ha, itoa_neg hb] at h
    have := dd_inj (List.cons.inj h).2
    omega
  · have hb : 0 ≤ b := by
      rcases Int.lt_or_le b 0 with hb | hb
      · have := itoa_head.1 (h.symm ▸ itoa_head.2 hb)
        omega
      · exact hb
    rw [itoa_pos ha, itoa_pos hb] at h
    have := dd_inj h
    omega
theorem dd_length : ∀ u k, 1 ≤ k → u < 10 ^ k → (decDigits u).length ≤ k := by
  refine dd_ind (fun u h k hk _ => ?_) (fun u h ih k hk hu => ?_)
  · rw [dd_small h]; simpa using hk
  · rw [dd_big h, List.length_append]
    have : 2 ≤ k := by
      rcases Nat.lt_or_ge k 2 with h2 | h2
      · have : k = 1 := by omega
        subst this
        omega
      · exact h2
    have := ih (k - 1) (by omega) (by
      have e : 10 ^ k = 10 * 10 ^ (k - 1) := by
        rw [← Nat.pow_succ']
        congr 1
        omega
      omega)
    simp
    omega
theorem dd_size : ∀ u, u < 10 ^ (decDigits u).length := by
  refine dd_ind (fun u h => ?_) (fun u h ih => ?_)
  · rw [dd_small h]; simpa using h
  · rw [dd_big h, List.length_append]
    have e : ([UInt8.ofNat (48 + u % 10)] : List UInt8).length = 1 := rfl
    rw [e, Nat.pow_succ]
    omega
theorem itoa_length {n : Int} (h : I64 n) : (itoa n).length ≤ 20 := by
  unfold I64 at h
  rcases Int.lt_or_le n 0 with h0 | h0
  · rw [itoa_neg h0]
    have := dd_length n.natAbs 19 (by omega) (by omega)
    simp
    omega
  · rw [itoa_pos h0]
    have := dd_length n.toNat 19 (by omega) (by omega)
    omega

/-! ### joining and cutting -/
/-- cut at every byte b -/
def cutAt (b : UInt8) : List UInt8 → List (List UInt8)
  | [] => [[]]
  | c :: l => if c = b then [] :: cutAt b l else match cutAt b l with
    | x :: xs => (c :: x) :: xs
    | [] => [[c]]
theorem cutAt_ne (b : UInt8) (l : List UInt8) : cutAt b l ≠ [] := by
  cases l with
  | nil => simp [cutAt]
  | cons c l =>
    simp only [cutAt]
    split
    · simp
    · split <;> simp
theorem cutAt_none {b : UInt8} : ∀ {l : List UInt8}, b ∉ l → cutAt b l = [l]
  | [], _ => rfl
  | c :: l, h => by
    have h1 : c ≠ b := fun e => h (by simp [e])
    simp only [cutAt, if_neg h1, cutAt_none (fun e => h (List.mem_cons_of_mem _ e))]
theorem cutAt_hit {b : UInt8} : ∀ {l m : List UInt8}, b ∉ l → cutAt b (l ++ b :: m) = l :: cutAt b m
  | [], m, _ => by simp [cutAt]
  | c :: l, m, h => by
    have h1 : c ≠ b := fun e => h (by simp [e])
    simp only [List.cons_append, cutAt, if_neg h1, cutAt_hit (fun e => h (List.mem_cons_of_mem _ e))]
theorem cut_join {b : UInt8} : ∀ {ws : List (List UInt8)}, ws ≠ [] → (∀ x ∈ ws, b ∉ x) → cutAt b (join ws [b]) = ws
  | [], h, _ => absurd rfl h
  | [x], _, h => by rw [join_one]; exact cutAt_none (h x (by simp))
  | x :: y :: ws, _, h => by
    have e : join (x :: y :: ws) [b] = x ++ b :: join (y :: ws) [b] := by rw [join_cons, join_cons]; simp [joinTail]
    rw [e, cutAt_hit (h x (by simp)), cut_join (by simp) fun z hz => h z (List.mem_cons_of_mem _ hz)]
theorem join_cut (b : UInt8) : ∀ l : List UInt8, join (cutAt b l) [b] = l
  | [] => by simp [cutAt, join_one]
  | c :: l => by
    have ih := join_cut b l
    simp only [cutAt]
    split
    · rename_i hc
      subst hc
      have hn := cutAt_ne c l
      match hw : cutAt c l, hn with
      | x :: xs, _ =>
        rw [hw] at ih
        have e : join ([] :: x :: xs) [c] = c :: join (x :: xs) [c] := by rw [join_cons, join_cons]; simp [joinTail]
        rw [e, ih]
    · split
      · rename_i x xs hw
        rw [hw] at ih
        rw [join_cons] at ih ⊢
        simp [← ih]
      · rename_i hw
        exact absurd hw (cutAt_ne b l)
theorem cutAt_clean (b : UInt8) : ∀ l : List UInt8, ∀ x ∈ cutAt b l, b ∉ x
  | [], x, hx => by simp [cutAt] at hx; subst hx; simp
  | c :: l, x, hx => by
    have ih := cutAt_clean b l
    simp only [cutAt] at hx
    split at hx
    · rcases List.mem_cons.1 hx with rfl | hx
      · simp
      · exact ih x hx
    · rename_i hc
      split at hx
      · rename_i y ys hw
        rcases List.mem_cons.1 hx with rfl | hx
        · intro hm
          rcases List.mem_cons.1 hm with hm | hm
          · exact hc hm.symm
          · exact ih y (by rw [hw]; simp) hm
        · exact ih x (by rw [hw]; exact List.mem_cons_of_mem _ hx)
      · simp at hx
        subst hx
        intro hm
        simp at hm
        exact hc hm.symm
theorem cutAt_length (b : UInt8) (l : List UInt8) : (cutAt b l).length ≤ l.length + 1 := by
  induction l with
  | nil => simp [cutAt]
  | cons c l ih =>
    simp only [cutAt]
    split
    · simp; omega
    · split
      · rename_i x xs hw
        rw [hw] at ih
        simp at ih ⊢
        omega
      · simp
/-- one more word behind what is joined -/
theorem join_snoc {ws : List (List UInt8)} (h : ws ≠ []) (x sep : List UInt8) : join (ws ++ [x]) sep = join ws sep ++ sep ++ x := by
  match ws, h with
  | w :: r, _ =>
    rw [List.cons_append, join_cons, join_cons]
    simp [joinTail]
theorem join_length {ws : List (List UInt8)} {sep : List UInt8} {k : Nat} (h : ∀ x ∈ ws, x.length ≤ k) : (join ws sep).length ≤ ws.length * (k + sep.length) := by
  match ws with
  | [] => simp [join_nil]
  | x :: r =>
    rw [join_cons, List.length_append]
    have h1 := h x (by simp)
    have h2 : (joinTail sep r).length ≤ r.length * (k + sep.length) := by
      have h' : ∀ x ∈ r, x.length ≤ k := fun y hy => h y (List.mem_cons_of_mem _ hy)
      clear h h1
      unfold joinTail
      induction r with
      | nil => simp
      | cons y r ih =>
        have := ih fun z hz => h' z (List.mem_cons_of_mem _ hz)
        have := h' y (by simp)
        simp only [List.map_cons, List.flatten_cons, List.length_append, List.length_cons, Nat.add_mul, Nat.one_mul]
        omega
    simp only [List.length_cons, Nat.add_mul, Nat.one_mul]
    omega
theorem occ1 {b : UInt8} {l : List UInt8} {j : Nat} (hj : j < l.length) : occAt l [b] j = (b == l[j]) := by
  unfold occAt
  rw [List.drop_eq_getElem_cons hj]
  simp only [List.isPrefixOf_cons_cons, List.isPrefixOf_nil_left, Bool.and_true]
/-- the library's way to cut at one byte -/
theorem splitK_cut (b : UInt8) : ∀ (n : Nat) (l : List UInt8), l.length ≤ n → splitK [b] 0 (count l [b]) l = cutAt b l := by
  intro n
  induction n with
  | zero =>
    intro l hl
    obtain rfl : l = [] := List.length_eq_zero_iff.1 (by omega)
    rcases index_spec [] [b] with ⟨h, _⟩ | ⟨i, h, hi, ho, _⟩
    · rw [count_miss h]; rfl
    · have : i = 0 := by simpa using hi
      subst this
      simp [occAt] at ho
  | succ n ih =>
    intro l hl
    rcases index_spec l [b] with ⟨h, hno⟩ | ⟨i, h, hi, ho, hno⟩
    · rw [count_miss h, splitK, cutAt_none]
      intro hm
      obtain ⟨j, hj, he⟩ := List.getElem_of_mem hm
      have := hno j (by omega)
      rw [occ1 hj, he] at this
      simp at this
    · have hil : i < l.length := by
        rcases Nat.lt_or_ge i l.length with hlt | hge
        · exact hlt
        · have : i = l.length := by omega
          subst this
          simp [occAt] at ho
      have hb : l[i] = b := by
        rw [occ1 hil] at ho
        exact (eq_of_beq ho).symm
      have hnm : b ∉ l.take i := by
        intro hm
        obtain ⟨j, hj, he⟩ := List.getElem_of_mem hm
        have hji : j < i := by simp at hj; omega
        have hjl : j < l.length := by omega
        have := hno j hji
        simp only [List.getElem_take] at he
        rw [occ1 hjl, he] at this
        simp at this
      have hc : ¬ (index l [b] == -1) = true := by rw [h]; simp
      rw [count_hit (by simp) h, Nat.add_comm, splitK, if_neg hc, h]
      simp only [Int.toNat_natCast, Nat.add_zero, List.length_singleton]
      rw [ih (l.drop (i + 1)) (by simp; omega)]
      conv => rhs; rw [← List.take_append_drop i l, List.drop_eq_getElem_cons hil, hb]
      rw [cutAt_hit hnm]
end Go.Tx
