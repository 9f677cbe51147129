/- The number of sets, of the program and of the reference. No condition. -/
import Derived.Test.YteolgidmaklbkaaLaws
set_option linter.unusedVariables false
namespace Go.Proofs
open Go.Sx Go.RowKit
/-! ### the number of sets -/
def binom : Nat → Nat → Nat
  | _, 0 => 1
  | 0, _ + 1 => 0
  | n + 1, k + 1 => binom n k + binom n (k + 1)
theorem binom_zero (n : Nat) : binom n 0 = 1 := by cases n <;> rfl
theorem binom_big : ∀ (n k : Nat), n < k → binom n k = 0
  | _, 0, h => absurd h (by omega)
  | 0, _ + 1, _ => rfl
  | n + 1, k + 1, h => by rw [binom, binom_big n k (by omega), binom_big n (k + 1) (by omega)]
theorem binom_self : ∀ n, binom n n = 1
  | 0 => rfl
  | n + 1 => by rw [binom, binom_self n, binom_big n (n + 1) (by omega)]
theorem binom_symm : ∀ (n k : Nat), k ≤ n → binom n (n - k) = binom n k
  | n, 0, _ => by rw [Nat.sub_zero, binom_self, binom_zero]
  | 0, k + 1, h => absurd h (by omega)
  | n + 1, k + 1, h => by
    rcases Nat.lt_or_ge k n with h1 | h1
    · have e : n + 1 - (k + 1) = (n - (k + 1)) + 1 := by omega
      rw [e, binom, binom_symm n (k + 1) (by omega), show n - (k + 1) + 1 = n - k by omega, binom_symm n k (by omega), binom]
      omega
    · have : k = n := by omega
      subst this
      rw [Nat.sub_self, binom_self, binom_zero]
theorem binom_mul : ∀ (n k : Nat), k ≤ n → binom n (k + 1) * (k + 1) = binom n k * (n - k)
  | 0, k, h => by
    have : k = 0 := by omega
    subst this
    rfl
  | n + 1, 0, _ => by
    have h := binom_mul n 0 (by omega)
    rw [binom_zero] at h
    rw [show binom (n + 1) (0 + 1) = binom n 0 + binom n (0 + 1) from rfl, binom_zero, binom_zero]
    omega
  | n + 1, k + 1, h => by
    rw [show binom (n + 1) (k + 1 + 1) = binom n (k + 1) + binom n (k + 2) from rfl, show binom (n + 1) (k + 1) = binom n k + binom n (k + 1) from rfl]
    have h1 := binom_mul n k (by omega)
    have e : n + 1 - (k + 1) = n - k := by omega
    rw [e]
    rcases Nat.lt_or_ge k n with h3 | h3
    · have h2 := binom_mul n (k + 1) (by omega)
      obtain ⟨d, rfl⟩ : ∃ d, n = k + 1 + d := ⟨n - (k + 1), by omega⟩
      rw [show k + 1 + d - k = d + 1 by omega] at *
      rw [show k + 1 + d - (k + 1) = d by omega] at h2
      generalize binom (k + 1 + d) k = a at *
      generalize binom (k + 1 + d) (k + 1) = b at *
      generalize binom (k + 1 + d) (k + 1 + 1) = c at *
      simp only [Nat.add_mul, Nat.mul_add, Nat.mul_one] at *
      omega
    · have : k = n := by omega
      subst this
      rw [Nat.sub_self, binom_big k (k + 1) (by omega), binom_big k (k + 2) (by omega)]
      omega
/-- the rows, as a list -/
def goRow (p : Nat) : List Nat → List Nat
  | [] => [p]
  | x :: xs => (p + x) :: goRow x xs
def prow : Nat → List Nat
  | 0 => [1]
  | n + 1 => goRow 0 (prow n)
theorem goRow_len (p : Nat) (xs : List Nat) : (goRow p xs).length = xs.length + 1 := by
  induction xs generalizing p with
  | nil => rfl
  | cons x xs ih => simp [goRow, ih]
theorem goRow_get (p : Nat) (xs : List Nat) (j : Nat) : (goRow p xs).getD j 0 = (p :: xs).getD j 0 + xs.getD j 0 := by
  induction xs generalizing p j with
  | nil => cases j <;> simp [goRow, List.getD]
  | cons x xs ih => cases j with
    | zero => simp [goRow]
    | succ j => simpa [goRow] using ih x j
theorem prow_len : ∀ n, (prow n).length = n + 1
  | 0 => rfl
  | n + 1 => by rw [prow, goRow_len, prow_len n]
theorem prow_get : ∀ n j, (prow n).getD j 0 = binom n j
  | 0, 0 => rfl
  | 0, j + 1 => by simp [prow, binom]
  | n + 1, 0 => by rw [prow, goRow_get, prow_get n 0, binom_zero, binom_zero]; rfl
  | n + 1, j + 1 => by rw [prow, goRow_get, prow_get n (j + 1), binom, List.getD_cons_succ, prow_get n j]
theorem prow_top : ∀ n, n ≤ 60 → ∀ x ∈ prow n, x ≤ 118264581564861424 := by
  have h : ((List.range 61).all fun n => (prow n).all fun x => decide (x ≤ 118264581564861424)) = true := by decide +kernel
  intro n hn x hx
  have h1 := List.all_eq_true.1 h n (List.mem_range.2 (by omega))
  exact of_decide_eq_true (List.all_eq_true.1 h1 x hx)
theorem binom_top {n : Nat} (hn : n ≤ 60) (k : Nat) : binom n k ≤ 118264581564861424 := by
  rcases Nat.lt_or_ge n k with h | h
  · rw [binom_big n k h]; omega
  · rw [← prow_get, List.getD, List.getElem?_eq_getElem (by rw [prow_len]; omega)]
    exact prow_top n hn _ (List.getElem_mem _)
def chooseR (n k : Int) : Value := if (0 ≤ n ∧ n ≤ 60) ∧ 0 ≤ k ∧ k ≤ n then lim (binom n.toNat k.toNat : Nat) else errR
theorem chooseR_pair (n k : Int) : ∃ x y, chooseR n k = .tuple #[.int .i64 x, .int .i64 y] := by
  unfold chooseR; split
  · exact lim_pair _
  · exact errR_pair

def impl_ChooseOf_A (n : Int) (k : Int) (w : World) : Nat → Ann := fun κ => match κ with
  | 0 => { σ := Nat, sli := [22, 6], slc := fun s => [SV.v (Value.int .i64 (s : Int)), SV.v (Value.int .i64 ((binom n.toNat s : Nat) : Int))], bxi := [], bxc := fun s => [], inv := fun s W => (s : Int) ≤ min k (n - k) ∧ Ext w W, μ := fun s W => (min k (n - k)).toNat - s }
  | _ => { σ := Unit, sli := [], slc := fun _ => [], bxi := [], bxc := fun _ => [], inv := fun _ _ => False, μ := fun _ _ => 0 }
def impl_ChooseOf_vc (n : Int) (k : Int) (w : World) (Post : Value → World → Prop) : Prop :=
  Calls Try.prog 96 #[(Value.int .i64 n), (Value.int .i64 0), (Value.int .i64 60)] w (fun e1 w2 => ∃ b3 : Bool, e1 = .returned (Value.bool b3) ∧ Keeps w.heap.size [] w w2 ∧ (((!b3) = true → Post (Value.tuple #[(Value.int .i64 0), (Value.int .i64 2)]) w2) ∧ ((!b3) = false → Calls Try.prog 96 #[(Value.int .i64 k), (Value.int .i64 0), (Value.int .i64 n)] w2 (fun e4 w5 => ∃ b6 : Bool, e4 = .returned (Value.bool b6) ∧ Keeps w.heap.size [] w2 w5 ∧ (((!b6) = true → Post (Value.tuple #[(Value.int .i64 0), (Value.int .i64 2)]) w5) ∧ ((!b6) = false → I64 (n - k) ∧ ((∃ s7 : Nat, (Value.int .i64 0) = (Value.int .i64 (s7 : Int)) ∧ (Value.int .i64 1) = (Value.int .i64 ((binom n.toNat s7 : Nat) : Int)) ∧ ((s7 : Int) ≤ min k (n - k) ∧ Ext w w5)) ∧ ∀ (s8 : Nat) (w9 : World), ((s8 : Int) ≤ min k (n - k) ∧ Ext w w9) → ((((s8 : Int) < (min k (n - k))) → I64 (n - (s8 : Int)) ∧ I64 (((binom n.toNat s8 : Nat) : Int) * (n - (s8 : Int))) ∧ I64 ((s8 : Int) + 1) ∧ 0 ≤ (((binom n.toNat s8 : Nat) : Int) * (n - (s8 : Int))) ∧ I64 (((binom n.toNat s8 : Nat) : Int) * (n - (s8 : Int))) ∧ 0 < ((s8 : Int) + 1) ∧ I64 ((s8 : Int) + 1) ∧ ∃ s10 : Nat, (Value.int .i64 ((s8 : Int) + 1)) = (Value.int .i64 (s10 : Int)) ∧ (Value.int .i64 ((((binom n.toNat s8 : Nat) : Int) * (n - (s8 : Int))) / ((s8 : Int) + 1))) = (Value.int .i64 ((binom n.toNat s10 : Nat) : Int)) ∧ ((s10 : Int) ≤ min k (n - k) ∧ Ext w w9) ∧ ((min k (n - k)).toNat - s10) < ((min k (n - k)).toNat - s8)) ∧ (¬ ((s8 : Int) < (min k (n - k))) → Calls Try.prog 102 #[(Value.int .i64 ((binom n.toNat s8 : Nat) : Int))] w9 (fun e11 w12 => ∃ n13 : Int, ∃ n14 : Int, e11 = .returned (Value.tuple #[(Value.int .i64 n13), (Value.int .i64 n14)]) ∧ Keeps w.heap.size [] w9 w12 ∧ Post (Value.tuple #[(Value.int .i64 n13), (Value.int .i64 n14)]) w12))))))))))
theorem impl_ChooseOf_eq (n : Int) (k : Int) (w : World) (Post : Value → World → Prop) : denF Try.prog [] (impl_ChooseOf_A n k w) 23 [(Value.int .i64 n), (Value.int .i64 k)] w Post = impl_ChooseOf_vc n k w Post := by kernel_rfl
set_option maxRecDepth 100000 in
theorem impl_ChooseOf_calls (n : Int) (k : Int) (w : World) (Post : Value → World → Prop) (hvc : impl_ChooseOf_vc n k w Post) : Ret Try.prog 23 #[(Value.int .i64 n), (Value.int .i64 k)] w Post :=
  Ret.of (denF_sound mixed (Eq.mpr (impl_ChooseOf_eq n k w Post) hvc))

theorem impl_ChooseOf_val (n k : Int) (w : World) : Val Try.prog 23 #[.int .i64 n, .int .i64 k] w (chooseR n k) :=
  Ret.val (impl_ChooseOf_calls n k w _ (by
    unfold impl_ChooseOf_vc
    refine (impl_within_val ..).call fun w1 h1 => ⟨_, rfl, h1.keeps, fun hb => ⟨?_, h1⟩, fun hb => ?_⟩
    · unfold chooseR; rw [if_neg fun h => nd_t hb h.1]; rfl
    have hn := nd_f hb
    refine (impl_within_val ..).call fun w2 h2 => ⟨_, rfl, h2.keeps, fun hb => ⟨?_, h1.trans h2⟩, fun hb => ?_⟩
    · unfold chooseR; rw [if_neg fun h => nd_t hb h.2]; rfl
    have hk := nd_f hb
    refine ⟨by unfold I64; omega, ⟨0, rfl, by rw [binom_zero]; rfl, by omega, h1.trans h2⟩, ?_⟩
    rintro s w3 ⟨hs, h3⟩
    have ht : ((binom n.toNat s : Nat) : Int) ≤ 118264581564861424 := by have := binom_top (n := n.toNat) (by omega) s; omega
    refine ⟨fun hlt => ?_, fun hge => ?_⟩
    · have hd1 : ((binom n.toNat s : Nat) : Int) * (n - s) ≤ 118264581564861424 * 60 := Int.mul_le_mul ht (by omega) (by omega) (by decide)
      have hd0 : 0 ≤ ((binom n.toNat s : Nat) : Int) * (n - s) := Int.mul_nonneg (by omega) (by omega)
      refine ⟨by unfold I64; omega, by unfold I64; omega, by unfold I64; omega, hd0, by unfold I64; omega, by omega, by unfold I64; omega, s + 1, rfl, ieq ?_, ⟨by omega, h3⟩, by omega⟩
      have hm := binom_mul n.toNat s (by omega)
      have e : ((binom n.toNat s : Nat) : Int) * (n - s) = ((binom n.toNat (s + 1) : Nat) : Int) * ((s : Int) + 1) := by
        have e1 : ((binom n.toNat (s + 1) * (s + 1) : Nat) : Int) = ((binom n.toNat s * (n.toNat - s) : Nat) : Int) := by rw [hm]
        have e2 : ((n.toNat - s : Nat) : Int) = n - s := by omega
        rw [Int.natCast_mul, Int.natCast_mul, e2] at e1
        rw [← e1]
        congr 1
      rw [e, Int.mul_ediv_cancel _ (by omega)]
    · obtain ⟨x, y, e⟩ := lim_pair ((binom n.toNat s : Nat) : Int)
      refine (impl_limited_val ..).call fun w4 h4 => ⟨x, y, by rw [e], h4.keeps, ?_, h3.trans h4⟩
      have hs' : binom n.toNat k.toNat = binom n.toNat s := by
        rcases Int.le_total k (n - k) with h5 | h5
        · have : s = k.toNat := by omega
          rw [this]
        · have : s = n.toNat - k.toNat := by omega
          rw [this, binom_symm _ _ (by omega)]
      unfold chooseR; rw [if_pos ⟨hn, hk⟩, hs', e]))

/-- the first m numbers of row i, cut off -/
def pas (i m : Nat) : List Int := (List.range m).map fun j => min (Mx + 1) ((binom i j : Nat) : Int)
@[simp] theorem pas_length (i m : Nat) : (pas i m).length = m := by simp [pas]
theorem pas_get (i m j : Nat) (h : j < (pas i m).length) : (pas i m)[j] = min (Mx + 1) ((binom i j : Nat) : Int) := by simp [pas]
theorem pas_succ (i m : Nat) : pas i (m + 1) = pas i m ++ [min (Mx + 1) ((binom i m : Nat) : Int)] := by simp [pas, List.range_succ]
theorem pas_one (i : Nat) : ints (pas i 1) = [Value.int .i64 1] := by simp only [pas, ints, List.range_succ, List.range_zero, List.nil_append, List.map_cons, List.map_nil, binom_zero]; rfl
def spec_ChooseOf_A (n : Int) (k : Int) (w : World) : Nat → Ann := fun κ => match κ with
  | 0 => { σ := Nat × Value, sli := [7, 6], slc := fun s => [SV.v (Value.int .i64 (s.1 : Int)), SV.v s.2], bxi := [], bxc := fun s => [], inv := fun s W => True, μ := fun s W => 0, free := true }
  | 1 => { σ := Nat × Value, sli := [9, 8], slc := fun s => [SV.v (Value.int .i64 (s.1 : Int)), SV.v s.2], bxi := [], bxc := fun s => [], inv := fun s W => True, μ := fun s W => 0, free := true }
  | _ => { σ := Unit, sli := [], slc := fun _ => [], bxi := [], bxc := fun _ => [], inv := fun _ _ => False, μ := fun _ _ => 0 }
def spec_ChooseOf_vc (n : Int) (k : Int) (w : World) (Post : Value → World → Prop) : Prop :=
  Calls Try.prog 103 #[(Value.int .i64 n), (Value.int .i64 0), (Value.int .i64 60)] w (fun e1 w2 => ∃ b3 : Bool, e1 = .returned (Value.bool b3) ∧ Keeps w.heap.size [] w w2 ∧ (((!b3) = true → Post (Value.tuple #[(Value.int .i64 0), (Value.int .i64 2)]) w2) ∧ ((!b3) = false → Calls Try.prog 103 #[(Value.int .i64 k), (Value.int .i64 0), (Value.int .i64 n)] w2 (fun e4 w5 => ∃ b6 : Bool, e4 = .returned (Value.bool b6) ∧ Keeps w.heap.size [] w2 w5 ∧ (((!b6) = true → Post (Value.tuple #[(Value.int .i64 0), (Value.int .i64 2)]) w5) ∧ ((!b6) = false → ∀ (v7 : Value) (w8 : World), Own w5.heap.size w8 2 v7 [(Value.int .i64 1)] → Ext w5 w8 → (∃ (J12 : (Nat × Value) → World → Prop) (m13 : (Nat × Value) → World → Nat), ((∃ s9 : (Nat × Value), (Value.int .i64 0) = (Value.int .i64 (s9.1 : Int)) ∧ v7 = s9.2 ∧ (J12 s9 w8)) ∧ ∀ (s10 : (Nat × Value)) (w11 : World), (J12 s10 w11) → ((((s10.1 : Int) < n) → ∀ (v14 : Value) (w15 : World), Own w11.heap.size w15 2 v14 [(Value.int .i64 1)] → Ext w11 w15 → (∃ (J19 : (Nat × Value) → World → Prop) (m20 : (Nat × Value) → World → Nat), ((∃ s16 : (Nat × Value), (Value.int .i64 1) = (Value.int .i64 (s16.1 : Int)) ∧ v14 = s16.2 ∧ (J19 s16 w15)) ∧ ∀ (s17 : (Nat × Value)) (w18 : World), (J19 s17 w18) → LenV s10.2 (fun n21 => ((((s17.1 : Int) < n21) → ∀ w22 : World, Ext w18 w22 → I64 ((s17.1 : Int) - 1) ∧ IxV 1 s10.2 ((s17.1 : Int) - 1) (fun ad23 => ∃ n24 : Int, LdV w22 (Value.pointer (some ad23)) (Value.int .i64 n24) ∧ IxV 1 s10.2 (s17.1 : Int) (fun ad25 => ∃ n26 : Int, LdV w22 (Value.pointer (some ad25)) (Value.int .i64 n26) ∧ I64 (n24 + n26) ∧ ∀ (v27 : Value) (w28 : World), Own w22.heap.size w28 2 v27 [(Value.int .i64 (min 1000000000001 (n24 + n26)))] → Ext w22 w28 → AppV w28 2 s17.2 v27 (fun v29 w30 => I64 ((s17.1 : Int) + 1) ∧ ∃ s31 : (Nat × Value), (Value.int .i64 ((s17.1 : Int) + 1)) = (Value.int .i64 (s31.1 : Int)) ∧ v29 = s31.2 ∧ (J19 s31 w30) ∧ (m20 s31 w30) < (m20 s17 w18))))) ∧ (¬ ((s17.1 : Int) < n21) → ∀ (v32 : Value) (w33 : World), Own w18.heap.size w33 2 v32 [(Value.int .i64 1)] → Ext w18 w33 → AppV w33 2 s17.2 v32 (fun v34 w35 => I64 ((s10.1 : Int) + 1) ∧ ∃ s36 : (Nat × Value), (Value.int .i64 ((s10.1 : Int) + 1)) = (Value.int .i64 (s36.1 : Int)) ∧ v34 = s36.2 ∧ (J12 s36 w35) ∧ (m13 s36 w35) < (m13 s10 w11)))))))) ∧ (¬ ((s10.1 : Int) < n) → IxV 1 s10.2 k (fun ad37 => ∃ n38 : Int, LdV w11 (Value.pointer (some ad37)) (Value.int .i64 n38) ∧ Calls Try.prog 104 #[(Value.int .i64 n38)] w11 (fun e39 w40 => ∃ n41 : Int, ∃ n42 : Int, e39 = .returned (Value.tuple #[(Value.int .i64 n41), (Value.int .i64 n42)]) ∧ Keeps w.heap.size [] w11 w40 ∧ Post (Value.tuple #[(Value.int .i64 n41), (Value.int .i64 n42)]) w40))))))))))))
theorem spec_ChooseOf_eq (n : Int) (k : Int) (w : World) (Post : Value → World → Prop) : denF Try.prog [] (spec_ChooseOf_A n k w) 24 [(Value.int .i64 n), (Value.int .i64 k)] w Post = spec_ChooseOf_vc n k w Post := by kernel_rfl
set_option maxRecDepth 100000 in
theorem spec_ChooseOf_calls (n : Int) (k : Int) (w : World) (Post : Value → World → Prop) (hvc : spec_ChooseOf_vc n k w Post) : Ret Try.prog 24 #[(Value.int .i64 n), (Value.int .i64 k)] w Post :=
  Ret.of (denF_sound mixed (Eq.mpr (spec_ChooseOf_eq n k w Post) hvc))

theorem spec_ChooseOf_val (n k : Int) (w : World) : Val Try.prog 24 #[.int .i64 n, .int .i64 k] w (chooseR n k) :=
  Ret.val (spec_ChooseOf_calls n k w _ (by
    unfold spec_ChooseOf_vc
    refine (spec_l01In_val ..).call fun w1 h1 => ⟨_, rfl, h1.keeps, fun hb => ⟨?_, h1⟩, fun hb => ?_⟩
    · unfold chooseR; rw [if_neg fun h => nd_t hb h.1]; rfl
    have hn := nd_f hb
    refine (spec_l01In_val ..).call fun w2 h2 => ⟨_, rfl, h2.keeps, fun hb => ⟨?_, h1.trans h2⟩, fun hb => ?_⟩
    · unfold chooseR; rw [if_neg fun h => nd_t hb h.2]; rfl
    have hk := nd_f hb
    intro r0 w3 o3 h3
    have k3 := (h1.trans h2).trans h3
    refine ⟨fun s W => (s.1 : Int) ≤ n ∧ Ext w W ∧ Own w.heap.size W 2 s.2 (ints (pas s.1 (s.1 + 1))), fun s _ => n.toNat - s.1, ⟨(0, r0), rfl, rfl, by simp only; omega, k3, ?_⟩, ?_⟩
    · rw [pas_one]; exact o3.mono ((h1.trans h2).size)
    rintro ⟨i, row⟩ w4 ⟨hi, h4, o4⟩
    simp only at hi o4
    refine ⟨fun hlt => ?_, fun hge => ?_⟩
    · simp only at hlt
      intro nx w5 o5 h5
      refine ⟨fun s W => 1 ≤ s.1 ∧ s.1 ≤ i + 1 ∧ Ext w W ∧ Own w.heap.size W 2 row (ints (pas i (i + 1))) ∧ Own w.heap.size W 2 s.2 (ints (pas (i + 1) s.1)) ∧ Apart row s.2, fun s _ => i + 1 - s.1, ⟨(1, nx), rfl, rfl, Nat.le_refl _, by simp only; omega, h4.trans h5, o4.ext h5, ?_, Apart.new o4 o5⟩, ?_⟩
      · rw [pas_one]; exact o5.mono h4.size
      rintro ⟨j, nx⟩ w6 ⟨hj1, hj, h6, orow, onx, hap⟩
      simp only at hj1 hj orow onx hap
      have rr : RI w6 row (pas i (i + 1)) := orow.rd
      refine rr.len ⟨fun hlt => fun w7 h7 => ?_, fun hge => ?_⟩
      · simp only [pas_length] at hlt
        have rr := rr.ext h7
        refine ⟨by unfold I64; simp only; omega, rr.get (j - 1) (by simp only; omega) (by simp; omega) (rr.get j rfl (by simp; omega) ?_)⟩
        rw [pas_get, pas_get]
        refine ⟨by unfold I64; simp only [Mx]; omega, fun x8 w8 o8 h8 => ?_⟩
        refine ((onx.ext h7).ext h8).app1 o8 rfl (by simp; omega) (Nat.le_trans (h6.size) ((h7.trans h8).size)) fun nx' w9 o9 g9 hb9 => ?_
        have hrow := (orow.ext h7).ext h8
        refine ⟨by unfold I64; simp only; omega, (j + 1, nx'), rfl, rfl, ⟨by simp only; omega, by simp only; omega, ((h6.trans h7).trans h8).grown ((onx.ext h7).ext h8) (Nat.le_refl _) g9, hrow.grown g9 hap, ?_, hap.app hrow hb9⟩, by simp only; omega⟩
        have e : (Value.int .i64 (min 1000000000001 (min (Mx + 1) ((binom i (j - 1) : Nat) : Int) + min (Mx + 1) ((binom i j : Nat) : Int)))) = Value.int .i64 (min (Mx + 1) ((binom (i + 1) j : Nat) : Int)) := by
          refine ieq ?_
          obtain ⟨j, rfl⟩ : ∃ j', j = j' + 1 := ⟨j - 1, by omega⟩
          rw [binom, Nat.add_sub_cancel]
          simp only [Mx]
          omega
        rw [e] at o9
        simp only
        rw [pas_succ, ints_append]
        exact o9
      · simp only [pas_length] at hge
        have hji : j = i + 1 := by omega
        subst hji
        intro x7 w7 o7 h7
        refine (onx.ext h7).app1 o7 rfl (by simp; omega) (Nat.le_trans h6.size h7.size) fun nx' w9 o9 g9 hb9 => ?_
        refine ⟨by unfold I64; simp only; omega, (i + 1, nx'), rfl, rfl, ⟨by simp only; omega, (h6.trans h7).grown (onx.ext h7) (Nat.le_refl _) g9, ?_⟩, by simp only; omega⟩
        simp only
        rw [pas_succ (i + 1) (i + 1), ints_append, binom_self]
        exact o9
    · simp only at hge
      have hin : i = n.toNat := by omega
      have rr : RI w4 row (pas i (i + 1)) := o4.rd
      refine rr.get k.toNat (by omega) (by simp; omega) ?_
      rw [pas_get]
      obtain ⟨x, y, e⟩ := lim_pair (min (Mx + 1) ((binom i k.toNat : Nat) : Int))
      refine (spec_l01Result_val ..).call fun w5 h5 => ⟨x, y, by rw [e], h5.keeps, ?_, h4.trans h5⟩
      rw [lim_min, hin] at e
      unfold chooseR; rw [if_pos ⟨hn, hk⟩, e]))
end Go.Proofs
