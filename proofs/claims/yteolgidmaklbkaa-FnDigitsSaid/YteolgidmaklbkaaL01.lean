/- Contracts of the numbers' functions, of the program and of the reference. No condition. -/
import Derived.Test.YteolgidmaklbkaaH01
import Derived.Test.YteolgidmaklbkaaL02a
set_option linter.unusedVariables false
namespace Go.Proofs
open Go.Sx Go.RowKit

/-! ### plain functions -/
abbrev Mx : Int := 1000000000000
/-- numbers: at most 100, each in 0..10^12 -/
def Nums (zs : List Int) : Prop := zs.length ≤ 100 ∧ ∀ z ∈ zs, 0 ≤ z ∧ z ≤ Mx
instance (zs : List Int) : Decidable (Nums zs) := inferInstanceAs (Decidable (_ ∧ _))
def cut (a b : Int) : Int := if 0 < a ∧ Mx / a < b then Mx + 1 else a * b
/-- a number or ErrLimit -/
def lim (n : Int) : Value := if Mx < n then .tuple #[.int .i64 0, .int .i64 3] else .tuple #[.int .i64 n, .int .i64 0]
theorem lim_pair (n : Int) : ∃ x y, lim n = .tuple #[.int .i64 x, .int .i64 y] := by
  unfold lim
  split
  · exact ⟨_, _, rfl⟩
  · exact ⟨_, _, rfl⟩
def errR : Value := .tuple #[.int .i64 0, .int .i64 2]
def pcut (zs : List Int) : Int := zs.foldl cut 1
def pow (a : Int) : Nat → Int
  | 0 => 1
  | k + 1 => cut (pow a k) a
def prodR (zs : List Int) : Value := if Nums zs then (if (0 : Int) ∈ zs then .tuple #[.int .i64 0, .int .i64 0] else lim (pcut zs)) else errR
def sumR (zs : List Int) : Value := if Nums zs then lim zs.sum else errR
def powR (a b : Int) : Value := if (0 ≤ a ∧ a ≤ Mx) ∧ 0 ≤ b ∧ b ≤ 60 then lim (pow a b.toNat) else errR
/-- bases: at most 100, each in 1..100 -/
def Bases (zs : List Int) : Prop := zs.length ≤ 100 ∧ ∀ z ∈ zs, 1 ≤ z ∧ z ≤ 100
instance (zs : List Int) : Decidable (Bases zs) := inferInstanceAs (Decidable (_ ∧ _))
def DigOk (ps : List (Int × Int)) : Prop := ∀ p ∈ ps, 0 ≤ p.1 ∧ p.1 ≤ p.2 - 1
instance (ps : List (Int × Int)) : Decidable (DigOk ps) := inferInstanceAs (Decidable (∀ p ∈ ps, _))
def numb (ps : List (Int × Int)) : Int := ps.foldl (fun n p => n * p.2 + p.1) 0
def numR (zs bs : List Int) : Value := if Bases bs ∧ zs.length = bs.length ∧ DigOk (zs.zip bs) then lim (numb (zs.zip bs)) else errR
/-- number i keeps the rule -/
def RiseAt (n : Int) (zs : List Int) (i : Nat) : Prop := 0 ≤ zs.getD i 0 ∧ zs.getD i 0 < n ∧ (0 < i → zs.getD (i - 1) 0 < zs.getD i 0)
instance (n : Int) (zs : List Int) (i : Nat) : Decidable (RiseAt n zs i) := inferInstanceAs (Decidable (_ ∧ _))
def Rises (n : Int) (zs : List Int) (k : Nat) : Prop := ∀ i, i < k → RiseAt n zs i
instance (n : Int) (zs : List Int) (k : Nat) : Decidable (Rises n zs k) := inferInstanceAs (Decidable (∀ i, i < k → _))
theorem getD_get {zs : List Int} {k : Nat} (h : k < zs.length) : zs.getD k 0 = zs[k] := by simp [List.getD, List.getElem?_eq_getElem h]
theorem Rises.succ {n : Int} {zs : List Int} {k : Nat} (h : Rises n zs k) (h1 : RiseAt n zs k) : Rises n zs (k + 1) := by
  intro i hi
  rcases Nat.lt_or_ge i k with h2 | h2
  · exact h i h2
  · have : i = k := by omega
    subst this
    exact h1

theorem all_take_succ {zs : List Int} {p : Int → Prop} {k : Nat} (hk : k < zs.length) (h : ∀ z ∈ zs.take k, p z) (h1 : p zs[k]) : ∀ z ∈ zs.take (k + 1), p z := by
  intro z hz
  rw [take_snoc zs k hk, List.mem_append] at hz
  rcases hz with hz | hz
  · exact h z hz
  · simp at hz
    subst hz
    exact h1
theorem take_all {α : Type} {zs : List α} {k : Nat} (h : ¬ ((k : Int) < (zs.length : Int))) : zs.take k = zs := List.take_of_length_le (by omega)

theorem cut_range {a b : Int} (ha : 0 ≤ a) (ha' : a ≤ Mx + 1) (hb : 0 ≤ b) (hb' : b ≤ Mx) : 0 ≤ cut a b ∧ cut a b ≤ Mx + 1 := by
  unfold cut
  split
  · simp only [Mx]; omega
  · rename_i h
    rcases Int.lt_or_le 0 a with h0 | h0
    · have h1 : b ≤ Mx / a := by
        rcases Int.lt_or_le (Mx / a) b with h2 | h2
        · exact absurd ⟨h0, h2⟩ h
        · exact h2
      have h2 : b * a ≤ Mx := (Int.le_ediv_iff_mul_le h0).1 h1
      rw [Int.mul_comm]
      exact ⟨Int.mul_nonneg hb ha, by simp only [Mx] at *; omega⟩
    · have : a = 0 := by omega
      subst this
      simp only [Int.zero_mul, Mx]; omega

theorem nd_t {p : Prop} [Decidable p] (h : (!decide p) = true) : ¬ p := by simpa using h
theorem nd_f {p : Prop} [Decidable p] (h : (!decide p) = false) : p := by simpa using h

/-! ### the program -/
def impl_allWithin_A (v : Value) (l : Int) (h : Int) (zs : List Int) (w : World) : Nat → Ann := fun κ => match κ with
  | 0 => { σ := Nat, sli := [11], slc := fun s => [SV.v (Value.int .i64 (s : Int))], bxi := [], bxc := fun s => [], inv := fun s W => s ≤ zs.length ∧ (∀ z ∈ zs.take s, l ≤ z ∧ z ≤ h) ∧ Ext w W, μ := fun s W => zs.length - s }
  | _ => { σ := Unit, sli := [], slc := fun _ => [], bxi := [], bxc := fun _ => [], inv := fun _ _ => False, μ := fun _ _ => 0 }
def impl_allWithin_vc (v : Value) (l : Int) (h : Int) (zs : List Int) (w : World) (Post : Value → World → Prop) : Prop :=
  LenV v (fun n1 => ((∃ s2 : Nat, (Value.int .i64 0) = (Value.int .i64 (s2 : Int)) ∧ (s2 ≤ zs.length ∧ (∀ z ∈ zs.take s2, l ≤ z ∧ z ≤ h) ∧ Ext w w)) ∧ ∀ (s3 : Nat) (w4 : World), (s3 ≤ zs.length ∧ (∀ z ∈ zs.take s3, l ≤ z ∧ z ≤ h) ∧ Ext w w4) → ((((s3 : Int) < n1) → IxV 1 v (s3 : Int) (fun ad5 => ∃ n6 : Int, LdV w4 (Value.pointer (some ad5)) (Value.int .i64 n6) ∧ Calls Try.prog 96 #[(Value.int .i64 n6), (Value.int .i64 l), (Value.int .i64 h)] w4 (fun e7 w8 => ∃ b9 : Bool, e7 = .returned (Value.bool b9) ∧ Keeps w.heap.size [] w4 w8 ∧ (((!b9) = true → Post (Value.bool false) w8) ∧ ((!b9) = false → I64 ((s3 : Int) + 1) ∧ ∃ s10 : Nat, (Value.int .i64 ((s3 : Int) + 1)) = (Value.int .i64 (s10 : Int)) ∧ (s10 ≤ zs.length ∧ (∀ z ∈ zs.take s10, l ≤ z ∧ z ≤ h) ∧ Ext w w8) ∧ (zs.length - s10) < (zs.length - s3)))))) ∧ (¬ ((s3 : Int) < n1) → Post (Value.bool true) w4))))
theorem impl_allWithin_eq (v : Value) (l : Int) (h : Int) (zs : List Int) (w : World) (Post : Value → World → Prop) : denF Try.prog [] (impl_allWithin_A v l h zs w) 156 [v, (Value.int .i64 l), (Value.int .i64 h)] w Post = impl_allWithin_vc v l h zs w Post := by kernel_rfl
set_option maxRecDepth 100000 in
theorem impl_allWithin_calls (v : Value) (l : Int) (h : Int) (zs : List Int) (w : World) (Post : Value → World → Prop) (hvc : impl_allWithin_vc v l h zs w Post) : Ret Try.prog 156 #[v, (Value.int .i64 l), (Value.int .i64 h)] w Post :=
  Ret.of (denF_sound mixed (Eq.mpr (impl_allWithin_eq v l h zs w Post) hvc))

theorem impl_allWithin_val (v : Value) (l h : Int) (zs : List Int) (w : World) (hv : RI w v zs) : Val Try.prog 156 #[v, .int .i64 l, .int .i64 h] w (.bool (decide (∀ z ∈ zs, l ≤ z ∧ z ≤ h))) :=
  Ret.val (impl_allWithin_calls v l h zs w _ (by
    unfold impl_allWithin_vc
    have hbd := hv.bound
    refine hv.len ⟨⟨0, rfl, Nat.zero_le _, by simp, .refl w⟩, ?_⟩
    rintro k w1 ⟨hk, hall, h1⟩
    refine ⟨fun hlt => ?_, fun hge => ⟨?_, h1⟩⟩
    · have hlt' : k < zs.length := by omega
      refine (hv.ext h1).get k rfl hlt' ?_
      refine (impl_within_val ..).call fun w2 h2 => ⟨_, rfl, h2.keeps, fun hb => ⟨?_, h1.trans h2⟩, fun hb => ⟨by unfold I64; omega, k + 1, rfl, ⟨hlt', ?_, h1.trans h2⟩, by omega⟩⟩
      · have hb := nd_t hb
        refine beq_val (decide_eq_false fun hh => hb (hh _ (List.getElem_mem hlt'))).symm
      · have hb := nd_f hb
        exact all_take_succ hlt' hall hb
    · rw [take_all hge] at hall
      exact beq_val (decide_eq_true hall).symm))

def impl_areNumbers_vc (v : Value) (zs : List Int) (w : World) (Post : Value → World → Prop) : Prop :=
  LenV v (fun n1 => (((n1 ≤ (100 : Int)) → Calls Try.prog 156 #[v, (Value.int .i64 0), (Value.int .i64 1000000000000)] w (fun e2 w3 => ∃ b4 : Bool, e2 = .returned (Value.bool b4) ∧ Keeps w.heap.size [] w w3 ∧ Post (Value.bool b4) w3)) ∧ (¬ (n1 ≤ (100 : Int)) → Post (Value.bool false) w)))
theorem impl_areNumbers_eq (v : Value) (zs : List Int) (w : World) (Post : Value → World → Prop) : denF Try.prog [] noAnn 110 [v] w Post = impl_areNumbers_vc v zs w Post := by kernel_rfl
set_option maxRecDepth 100000 in
theorem impl_areNumbers_calls (v : Value) (zs : List Int) (w : World) (Post : Value → World → Prop) (hvc : impl_areNumbers_vc v zs w Post) : Ret Try.prog 110 #[v] w Post :=
  Ret.of (denF_sound mixed (Eq.mpr (impl_areNumbers_eq v zs w Post) hvc))

theorem impl_areNumbers_val (v : Value) (zs : List Int) (w : World) (hv : RI w v zs) : Val Try.prog 110 #[v] w (.bool (decide (Nums zs))) :=
  Ret.val (impl_areNumbers_calls v zs w _ (by
    unfold impl_areNumbers_vc
    refine hv.len ⟨fun hle => ?_, fun hgt => ⟨?_, .refl w⟩⟩
    · refine (impl_allWithin_val v 0 1000000000000 zs w hv).call fun w2 h2 => ⟨_, rfl, h2.keeps, ?_, h2⟩
      refine beq_val (decide_eq_decide.2 ⟨fun h => ⟨by omega, h⟩, fun h => h.2⟩)
    · exact beq_val (decide_eq_false fun h => hgt (by have := h.1; omega)).symm))

def impl_times_vc (a : Int) (b : Int) (w : World) (Post : Value → World → Prop) : Prop :=
  ((((0 : Int) < a) → 0 ≤ (1000000000000 : Int) ∧ I64 1000000000000 ∧ 0 < a ∧ ((((1000000000000 / a) < b) → Post (Value.int .i64 1000000000001) w) ∧ (¬ ((1000000000000 / a) < b) → I64 (a * b) ∧ Post (Value.int .i64 (a * b)) w))) ∧ (¬ ((0 : Int) < a) → I64 (a * b) ∧ Post (Value.int .i64 (a * b)) w))
theorem impl_times_eq (a : Int) (b : Int) (w : World) (Post : Value → World → Prop) : denF Try.prog [] noAnn 112 [(Value.int .i64 a), (Value.int .i64 b)] w Post = impl_times_vc a b w Post := by kernel_rfl
set_option maxRecDepth 100000 in
theorem impl_times_calls (a : Int) (b : Int) (w : World) (Post : Value → World → Prop) (hvc : impl_times_vc a b w Post) : Ret Try.prog 112 #[(Value.int .i64 a), (Value.int .i64 b)] w Post :=
  Ret.of (denF_sound mixed (Eq.mpr (impl_times_eq a b w Post) hvc))

theorem impl_times_val (a b : Int) (w : World) (ha : 0 ≤ a) (ha' : a ≤ Mx + 1) (hb : 0 ≤ b) (hb' : b ≤ Mx) : Val Try.prog 112 #[.int .i64 a, .int .i64 b] w (.int .i64 (cut a b)) :=
  Ret.val (impl_times_calls a b w _ (by
    unfold impl_times_vc
    have hc := cut_range ha ha' hb hb'
    refine ⟨fun h0 => ⟨by omega, by unfold I64; omega, h0, fun h1 => ⟨?_, .refl w⟩, fun h1 => ?_⟩, fun h0 => ?_⟩
    · exact ieq (by unfold cut; rw [if_pos ⟨h0, h1⟩]; rfl)
    · have e : cut a b = a * b := by unfold cut; rw [if_neg fun h => h1 h.2]
      rw [e] at hc
      exact ⟨by unfold I64; simp only [Mx] at hc; omega, ieq e.symm, .refl w⟩
    · have e : cut a b = a * b := by unfold cut; rw [if_neg fun h => h0 h.1]
      rw [e] at hc
      exact ⟨by unfold I64; simp only [Mx] at hc; omega, ieq e.symm, .refl w⟩))

def impl_limited_vc (n : Int) (w : World) (Post : Value → World → Prop) : Prop :=
  ((((1000000000000 : Int) < n) → Post (Value.tuple #[(Value.int .i64 0), (Value.int .i64 3)]) w) ∧ (¬ ((1000000000000 : Int) < n) → Post (Value.tuple #[(Value.int .i64 n), (Value.int .i64 0)]) w))
theorem impl_limited_eq (n : Int) (w : World) (Post : Value → World → Prop) : denF Try.prog [] noAnn 102 [(Value.int .i64 n)] w Post = impl_limited_vc n w Post := by kernel_rfl
set_option maxRecDepth 100000 in
theorem impl_limited_calls (n : Int) (w : World) (Post : Value → World → Prop) (hvc : impl_limited_vc n w Post) : Ret Try.prog 102 #[(Value.int .i64 n)] w Post :=
  Ret.of (denF_sound mixed (Eq.mpr (impl_limited_eq n w Post) hvc))

theorem impl_limited_val (n : Int) (w : World) : Val Try.prog 102 #[.int .i64 n] w (lim n) :=
  Ret.val (impl_limited_calls n w _ (by
    unfold impl_limited_vc
    refine ⟨fun h => ⟨by unfold lim; rw [if_pos h], .refl w⟩, fun h => ⟨by unfold lim; rw [if_neg h], .refl w⟩⟩))

def impl_sum_A (v : Value) (zs : List Int) (w : World) : Nat → Ann := fun κ => match κ with
  | 0 => { σ := Nat, sli := [3, 8], slc := fun s => [SV.v (Value.int .i64 ((zs.take s).sum)), SV.v (Value.int .i64 (s : Int))], bxi := [], bxc := fun s => [], inv := fun s W => s ≤ zs.length ∧ Ext w W, μ := fun s W => zs.length - s }
  | _ => { σ := Unit, sli := [], slc := fun _ => [], bxi := [], bxc := fun _ => [], inv := fun _ _ => False, μ := fun _ _ => 0 }
def impl_sum_vc (v : Value) (zs : List Int) (w : World) (Post : Value → World → Prop) : Prop :=
  LenV v (fun n1 => ((∃ s2 : Nat, (Value.int .i64 0) = (Value.int .i64 ((zs.take s2).sum)) ∧ (Value.int .i64 0) = (Value.int .i64 (s2 : Int)) ∧ (s2 ≤ zs.length ∧ Ext w w)) ∧ ∀ (s3 : Nat) (w4 : World), (s3 ≤ zs.length ∧ Ext w w4) → ((((s3 : Int) < n1) → IxV 1 v (s3 : Int) (fun ad5 => ∃ n6 : Int, LdV w4 (Value.pointer (some ad5)) (Value.int .i64 n6) ∧ I64 (((zs.take s3).sum) + n6) ∧ I64 ((s3 : Int) + 1) ∧ ∃ s7 : Nat, (Value.int .i64 (((zs.take s3).sum) + n6)) = (Value.int .i64 ((zs.take s7).sum)) ∧ (Value.int .i64 ((s3 : Int) + 1)) = (Value.int .i64 (s7 : Int)) ∧ (s7 ≤ zs.length ∧ Ext w w4) ∧ (zs.length - s7) < (zs.length - s3))) ∧ (¬ ((s3 : Int) < n1) → Post (Value.int .i64 ((zs.take s3).sum)) w4))))
theorem impl_sum_eq (v : Value) (zs : List Int) (w : World) (Post : Value → World → Prop) : denF Try.prog [] (impl_sum_A v zs w) 115 [v] w Post = impl_sum_vc v zs w Post := by kernel_rfl
set_option maxRecDepth 100000 in
theorem impl_sum_calls (v : Value) (zs : List Int) (w : World) (Post : Value → World → Prop) (hvc : impl_sum_vc v zs w Post) : Ret Try.prog 115 #[v] w Post :=
  Ret.of (denF_sound mixed (Eq.mpr (impl_sum_eq v zs w Post) hvc))

theorem sum_take_succ (zs : List Int) (k : Nat) (hk : k < zs.length) : (zs.take (k + 1)).sum = (zs.take k).sum + zs[k] := by
  rw [take_snoc zs k hk, List.sum_append]; simp

theorem sum_range {zs : List Int} (h : ∀ z ∈ zs, 0 ≤ z ∧ z ≤ Mx) : 0 ≤ zs.sum ∧ zs.sum ≤ zs.length * Mx := by
  induction zs with
  | nil => simp
  | cons z zs ih =>
    have h1 := h z (List.mem_cons_self ..)
    have h2 := ih fun y hy => h y (List.mem_cons_of_mem _ hy)
    simp only [List.sum_cons, List.length_cons, Mx] at *
    omega
theorem impl_sum_val (v : Value) (zs : List Int) (w : World) (hv : RI w v zs) (hn : Nums zs) : Val Try.prog 115 #[v] w (.int .i64 zs.sum) :=
  Ret.val (impl_sum_calls v zs w _ (by
    unfold impl_sum_vc
    obtain ⟨hl, hn⟩ := hn
    refine hv.len ⟨⟨0, rfl, rfl, Nat.zero_le _, .refl w⟩, ?_⟩
    rintro k w1 ⟨hk, h1⟩
    refine ⟨fun hlt => ?_, fun hge => ⟨?_, h1⟩⟩
    · have hlt' : k < zs.length := by omega
      refine (hv.ext h1).get k rfl hlt' ?_
      have h2 := sum_range (zs := zs.take (k + 1)) fun z hz => hn z (List.mem_of_mem_take hz)
      rw [sum_take_succ zs k hlt', List.length_take] at h2
      simp only [Mx] at h2
      exact ⟨by unfold I64; omega, by unfold I64; omega, k + 1, ieq (sum_take_succ zs k hlt').symm, rfl, ⟨hlt', h1⟩, by omega⟩
    · rw [take_all hge]))

def slices_Index_int64_int64_A (v : Value) (x : Int) (zs : List Int) (w : World) : Nat → Ann := fun κ => match κ with
  | 0 => { σ := Nat, sli := [8], slc := fun s => [SV.v (Value.int .i64 (s : Int))], bxi := [], bxc := fun s => [], inv := fun s W => s ≤ zs.length ∧ Ext w W ∧ (∀ z ∈ zs.take s, z ≠ x), μ := fun s W => zs.length - s }
  | _ => { σ := Unit, sli := [], slc := fun _ => [], bxi := [], bxc := fun _ => [], inv := fun _ _ => False, μ := fun _ _ => 0 }
def slices_Index_int64_int64_vc (v : Value) (x : Int) (zs : List Int) (w : World) (Post : Value → World → Prop) : Prop :=
  LenV v (fun n1 => ((∃ s2 : Nat, (Value.int .i64 0) = (Value.int .i64 (s2 : Int)) ∧ (s2 ≤ zs.length ∧ Ext w w ∧ (∀ z ∈ zs.take s2, z ≠ x))) ∧ ∀ (s3 : Nat) (w4 : World), (s3 ≤ zs.length ∧ Ext w w4 ∧ (∀ z ∈ zs.take s3, z ≠ x)) → ((((s3 : Int) < n1) → IxV 1 v (s3 : Int) (fun ad5 => ∃ n6 : Int, LdV w4 (Value.pointer (some ad5)) (Value.int .i64 n6) ∧ (((x = n6) → Post (Value.int .i64 (s3 : Int)) w4) ∧ (¬ (x = n6) → I64 ((s3 : Int) + 1) ∧ ∃ s7 : Nat, (Value.int .i64 ((s3 : Int) + 1)) = (Value.int .i64 (s7 : Int)) ∧ (s7 ≤ zs.length ∧ Ext w w4 ∧ (∀ z ∈ zs.take s7, z ≠ x)) ∧ (zs.length - s7) < (zs.length - s3))))) ∧ (¬ ((s3 : Int) < n1) → Post (Value.int .i64 (-1)) w4))))
theorem slices_Index_int64_int64_eq (v : Value) (x : Int) (zs : List Int) (w : World) (Post : Value → World → Prop) : denF Try.prog [] (slices_Index_int64_int64_A v x zs w) 158 [v, (Value.int .i64 x)] w Post = slices_Index_int64_int64_vc v x zs w Post := by kernel_rfl
set_option maxRecDepth 100000 in
theorem slices_Index_int64_int64_calls (v : Value) (x : Int) (zs : List Int) (w : World) (Post : Value → World → Prop) (hvc : slices_Index_int64_int64_vc v x zs w Post) : Ret Try.prog 158 #[v, (Value.int .i64 x)] w Post :=
  Ret.of (denF_sound mixed (Eq.mpr (slices_Index_int64_int64_eq v x zs w Post) hvc))

theorem slices_Index_ret (v : Value) (x : Int) (zs : List Int) (w : World) (hv : RI w v zs) : Ret Try.prog 158 #[v, .int .i64 x] w fun r w' => ∃ i : Int, r = .int .i64 i ∧ (0 ≤ i ↔ x ∈ zs) ∧ Ext w w' :=
  slices_Index_int64_int64_calls v x zs w _ (by
    unfold slices_Index_int64_int64_vc
    have hbd := hv.bound
    refine hv.len ⟨⟨0, rfl, Nat.zero_le _, .refl w, by simp⟩, ?_⟩
    rintro k w1 ⟨hk, h1, hn⟩
    refine ⟨fun hlt => ?_, fun hge => ⟨-1, rfl, ⟨fun h => absurd h (by omega), fun h => ?_⟩, h1⟩⟩
    · have hlt' : k < zs.length := by omega
      refine (hv.ext h1).get k rfl hlt' ⟨fun h => ⟨k, rfl, ⟨fun _ => h ▸ List.getElem_mem hlt', fun _ => by omega⟩, h1⟩, fun h => ⟨by unfold I64; omega, k + 1, rfl, ⟨hlt', h1, all_take_succ hlt' hn (Ne.symm h)⟩, by omega⟩⟩
    · rw [take_all hge] at hn
      exact absurd rfl (hn x h))
def slices_Contains_int64_int64_vc (v : Value) (x : Int) (zs : List Int) (w : World) (Post : Value → World → Prop) : Prop :=
  Calls Try.prog 158 #[v, (Value.int .i64 x)] w (fun e1 w2 => ∃ n3 : Int, e1 = .returned (Value.int .i64 n3) ∧ Keeps w.heap.size [] w w2 ∧ Post (Value.bool (decide ((0 : Int) ≤ n3))) w2)
theorem slices_Contains_int64_int64_eq (v : Value) (x : Int) (zs : List Int) (w : World) (Post : Value → World → Prop) : denF Try.prog [] noAnn 111 [v, (Value.int .i64 x)] w Post = slices_Contains_int64_int64_vc v x zs w Post := by kernel_rfl
set_option maxRecDepth 100000 in
theorem slices_Contains_int64_int64_calls (v : Value) (x : Int) (zs : List Int) (w : World) (Post : Value → World → Prop) (hvc : slices_Contains_int64_int64_vc v x zs w Post) : Ret Try.prog 111 #[v, (Value.int .i64 x)] w Post :=
  Ret.of (denF_sound mixed (Eq.mpr (slices_Contains_int64_int64_eq v x zs w Post) hvc))

theorem slices_Contains_val (v : Value) (x : Int) (zs : List Int) (w : World) (hv : RI w v zs) : Val Try.prog 111 #[v, .int .i64 x] w (.bool (decide (x ∈ zs))) :=
  Ret.val (slices_Contains_int64_int64_calls v x zs w _ (by
    unfold slices_Contains_int64_int64_vc
    refine (slices_Index_ret v x zs w hv).call ?_
    rintro _ w1 ⟨i, rfl, hi, h1⟩
    exact ⟨i, rfl, h1.keeps, beq_val (decide_eq_decide.2 hi), h1⟩))

def impl_ProductOf_A (v : Value) (zs : List Int) (w : World) : Nat → Ann := fun κ => match κ with
  | 0 => { σ := Nat, sli := [14, 4], slc := fun s => [SV.v (Value.int .i64 (s : Int)), SV.v (Value.int .i64 (pcut (zs.take s)))], bxi := [], bxc := fun s => [], inv := fun s W => s ≤ zs.length ∧ Ext w W, μ := fun s W => zs.length - s }
  | _ => { σ := Unit, sli := [], slc := fun _ => [], bxi := [], bxc := fun _ => [], inv := fun _ _ => False, μ := fun _ _ => 0 }
def impl_ProductOf_vc (v : Value) (zs : List Int) (w : World) (Post : Value → World → Prop) : Prop :=
  Calls Try.prog 110 #[v] w (fun e1 w2 => ∃ b3 : Bool, e1 = .returned (Value.bool b3) ∧ Keeps w.heap.size [] w w2 ∧ (((!b3) = true → Post (Value.tuple #[(Value.int .i64 0), (Value.int .i64 2)]) w2) ∧ ((!b3) = false → Calls Try.prog 111 #[v, (Value.int .i64 0)] w2 (fun e4 w5 => ∃ b6 : Bool, e4 = .returned (Value.bool b6) ∧ Keeps w.heap.size [] w2 w5 ∧ ((b6 = true → Post (Value.tuple #[(Value.int .i64 0), (Value.int .i64 0)]) w5) ∧ (b6 = false → LenV v (fun n7 => ((∃ s8 : Nat, (Value.int .i64 0) = (Value.int .i64 (s8 : Int)) ∧ (Value.int .i64 1) = (Value.int .i64 (pcut (zs.take s8))) ∧ (s8 ≤ zs.length ∧ Ext w w5)) ∧ ∀ (s9 : Nat) (w10 : World), (s9 ≤ zs.length ∧ Ext w w10) → ((((s9 : Int) < n7) → IxV 1 v (s9 : Int) (fun ad11 => ∃ n12 : Int, LdV w10 (Value.pointer (some ad11)) (Value.int .i64 n12) ∧ Calls Try.prog 112 #[(Value.int .i64 (min (pcut (zs.take s9)) 1000000000001)), (Value.int .i64 n12)] w10 (fun e13 w14 => ∃ n15 : Int, e13 = .returned (Value.int .i64 n15) ∧ Keeps w.heap.size [] w10 w14 ∧ I64 ((s9 : Int) + 1) ∧ ∃ s16 : Nat, (Value.int .i64 ((s9 : Int) + 1)) = (Value.int .i64 (s16 : Int)) ∧ (Value.int .i64 n15) = (Value.int .i64 (pcut (zs.take s16))) ∧ (s16 ≤ zs.length ∧ Ext w w14) ∧ (zs.length - s16) < (zs.length - s9)))) ∧ (¬ ((s9 : Int) < n7) → Calls Try.prog 102 #[(Value.int .i64 (pcut (zs.take s9)))] w10 (fun e17 w18 => ∃ n19 : Int, ∃ n20 : Int, e17 = .returned (Value.tuple #[(Value.int .i64 n19), (Value.int .i64 n20)]) ∧ Keeps w.heap.size [] w10 w18 ∧ Post (Value.tuple #[(Value.int .i64 n19), (Value.int .i64 n20)]) w18)))))))))))
theorem impl_ProductOf_eq (v : Value) (zs : List Int) (w : World) (Post : Value → World → Prop) : denF Try.prog [] (impl_ProductOf_A v zs w) 34 [v] w Post = impl_ProductOf_vc v zs w Post := by kernel_rfl
set_option maxRecDepth 100000 in
theorem impl_ProductOf_calls (v : Value) (zs : List Int) (w : World) (Post : Value → World → Prop) (hvc : impl_ProductOf_vc v zs w Post) : Ret Try.prog 34 #[v] w Post :=
  Ret.of (denF_sound mixed (Eq.mpr (impl_ProductOf_eq v zs w Post) hvc))

theorem pcut_snoc (zs : List Int) (k : Nat) (hk : k < zs.length) : pcut (zs.take (k + 1)) = cut (pcut (zs.take k)) zs[k] := by
  unfold pcut
  rw [take_snoc zs k hk, List.foldl_append]
  rfl
theorem pcut_range {zs : List Int} (h : ∀ z ∈ zs, 0 ≤ z ∧ z ≤ Mx) : 0 ≤ pcut zs ∧ pcut zs ≤ Mx + 1 := by
  have : ∀ (l : List Int) (a : Int), (∀ z ∈ l, 0 ≤ z ∧ z ≤ Mx) → (0 ≤ a ∧ a ≤ Mx + 1) → 0 ≤ l.foldl cut a ∧ l.foldl cut a ≤ Mx + 1 := by
    intro l
    induction l with
    | nil => intro a _ h; exact h
    | cons z l ih => intro a hz h; exact ih _ (fun y hy => hz y (List.mem_cons_of_mem _ hy)) (cut_range h.1 h.2 (hz z (List.mem_cons_self ..)).1 (hz z (List.mem_cons_self ..)).2)
  exact this zs 1 h (by simp only [Mx]; omega)
theorem pow_range {a : Int} (h : 0 ≤ a ∧ a ≤ Mx) : ∀ k, 0 ≤ pow a k ∧ pow a k ≤ Mx + 1
  | 0 => by simp only [pow, Mx]; omega
  | k + 1 => cut_range (pow_range h k).1 (pow_range h k).2 h.1 h.2

theorem impl_ProductOf_val (v : Value) (zs : List Int) (w : World) (hv : RI w v zs) : Val Try.prog 34 #[v] w (prodR zs) :=
  Ret.val (impl_ProductOf_calls v zs w _ (by
    unfold impl_ProductOf_vc
    have hbd := hv.bound
    refine (impl_areNumbers_val _ zs _ hv).call fun w1 h1 => ⟨_, rfl, h1.keeps, fun hb => ⟨?_, h1⟩, fun hb => ?_⟩
    · unfold prodR; rw [if_neg (nd_t hb)]; rfl
    have hn := nd_f hb
    refine (slices_Contains_val _ _ zs _ (hv.ext h1)).call fun w2 h2 => ⟨_, rfl, h2.keeps, fun hb => ⟨?_, h1.trans h2⟩, fun hb => ?_⟩
    · unfold prodR; rw [if_pos hn, if_pos (of_decide_eq_true hb)]
    have h0 := of_decide_eq_false hb
    refine ((hv.ext h1).ext h2).len ⟨⟨0, rfl, rfl, Nat.zero_le _, h1.trans h2⟩, ?_⟩
    rintro k w3 ⟨hk, h3⟩
    have hr := pcut_range (zs := zs.take k) fun z hz => hn.2 z (List.mem_of_mem_take hz)
    refine ⟨fun hlt => ?_, fun hge => ?_⟩
    · have hlt' : k < zs.length := by omega
      refine (hv.ext h3).get k rfl hlt' ?_
      have hm : min (pcut (zs.take k)) 1000000000001 = pcut (zs.take k) := by simp only [Mx] at hr; omega
      have hz := hn.2 _ (List.getElem_mem hlt')
      rw [hm]
      refine (impl_times_val _ _ _ hr.1 hr.2 hz.1 hz.2).call fun w4 h4 => ⟨_, rfl, h4.keeps, by unfold I64; omega, k + 1, rfl, by rw [pcut_snoc zs k hlt'], ⟨hlt', h3.trans h4⟩, by omega⟩
    · obtain ⟨x, y, e⟩ := lim_pair (pcut (zs.take k))
      refine (impl_limited_val ..).call fun w4 h4 => ⟨x, y, by rw [e], h4.keeps, ?_, h3.trans h4⟩
      rw [take_all hge] at e
      unfold prodR; rw [if_pos hn, if_neg h0, e]))

def impl_SumOf_vc (v : Value) (zs : List Int) (w : World) (Post : Value → World → Prop) : Prop :=
  Calls Try.prog 110 #[v] w (fun e1 w2 => ∃ b3 : Bool, e1 = .returned (Value.bool b3) ∧ Keeps w.heap.size [] w w2 ∧ (((!b3) = true → Post (Value.tuple #[(Value.int .i64 0), (Value.int .i64 2)]) w2) ∧ ((!b3) = false → Calls Try.prog 115 #[v] w2 (fun e4 w5 => ∃ n6 : Int, e4 = .returned (Value.int .i64 n6) ∧ Keeps w.heap.size [] w2 w5 ∧ Calls Try.prog 102 #[(Value.int .i64 n6)] w5 (fun e7 w8 => ∃ n9 : Int, ∃ n10 : Int, e7 = .returned (Value.tuple #[(Value.int .i64 n9), (Value.int .i64 n10)]) ∧ Keeps w.heap.size [] w5 w8 ∧ Post (Value.tuple #[(Value.int .i64 n9), (Value.int .i64 n10)]) w8)))))
theorem impl_SumOf_eq (v : Value) (zs : List Int) (w : World) (Post : Value → World → Prop) : denF Try.prog [] noAnn 40 [v] w Post = impl_SumOf_vc v zs w Post := by kernel_rfl
set_option maxRecDepth 100000 in
theorem impl_SumOf_calls (v : Value) (zs : List Int) (w : World) (Post : Value → World → Prop) (hvc : impl_SumOf_vc v zs w Post) : Ret Try.prog 40 #[v] w Post :=
  Ret.of (denF_sound mixed (Eq.mpr (impl_SumOf_eq v zs w Post) hvc))

theorem impl_SumOf_val (v : Value) (zs : List Int) (w : World) (hv : RI w v zs) : Val Try.prog 40 #[v] w (sumR zs) :=
  Ret.val (impl_SumOf_calls v zs w _ (by
    unfold impl_SumOf_vc
    refine (impl_areNumbers_val _ zs _ hv).call fun w1 h1 => ⟨_, rfl, h1.keeps, fun hb => ⟨?_, h1⟩, fun hb => ?_⟩
    · unfold sumR; rw [if_neg (nd_t hb)]; rfl
    · have hb := nd_f hb
      refine (impl_sum_val _ zs _ (hv.ext h1) hb).call fun w2 h2 => ⟨_, rfl, h2.keeps, ?_⟩
      obtain ⟨x, y, e⟩ := lim_pair zs.sum
      refine (impl_limited_val ..).call fun w3 h3 => ⟨x, y, by rw [e], h3.keeps, ?_, (h1.trans h2).trans h3⟩
      unfold sumR; rw [if_pos hb, e]))

def impl_PowerOf_A (a : Int) (b : Int) (w : World) : Nat → Ann := fun κ => match κ with
  | 0 => { σ := Nat, sli := [16, 6], slc := fun s => [SV.v (Value.int .i64 (s : Int)), SV.v (Value.int .i64 (pow a s))], bxi := [], bxc := fun s => [], inv := fun s W => (s : Int) ≤ b ∧ Ext w W, μ := fun s W => b.toNat - s }
  | _ => { σ := Unit, sli := [], slc := fun _ => [], bxi := [], bxc := fun _ => [], inv := fun _ _ => False, μ := fun _ _ => 0 }
def impl_PowerOf_vc (a : Int) (b : Int) (w : World) (Post : Value → World → Prop) : Prop :=
  Calls Try.prog 96 #[(Value.int .i64 a), (Value.int .i64 0), (Value.int .i64 1000000000000)] w (fun e1 w2 => ∃ b3 : Bool, e1 = .returned (Value.bool b3) ∧ Keeps w.heap.size [] w w2 ∧ (((!b3) = true → Post (Value.tuple #[(Value.int .i64 0), (Value.int .i64 2)]) w2) ∧ ((!b3) = false → Calls Try.prog 96 #[(Value.int .i64 b), (Value.int .i64 0), (Value.int .i64 60)] w2 (fun e4 w5 => ∃ b6 : Bool, e4 = .returned (Value.bool b6) ∧ Keeps w.heap.size [] w2 w5 ∧ (((!b6) = true → Post (Value.tuple #[(Value.int .i64 0), (Value.int .i64 2)]) w5) ∧ ((!b6) = false → ((∃ s7 : Nat, (Value.int .i64 0) = (Value.int .i64 (s7 : Int)) ∧ (Value.int .i64 1) = (Value.int .i64 (pow a s7)) ∧ ((s7 : Int) ≤ b ∧ Ext w w5)) ∧ ∀ (s8 : Nat) (w9 : World), ((s8 : Int) ≤ b ∧ Ext w w9) → ((((s8 : Int) < b) → Calls Try.prog 112 #[(Value.int .i64 (pow a s8)), (Value.int .i64 a)] w9 (fun e10 w11 => ∃ n12 : Int, e10 = .returned (Value.int .i64 n12) ∧ Keeps w.heap.size [] w9 w11 ∧ I64 ((s8 : Int) + 1) ∧ ∃ s13 : Nat, (Value.int .i64 ((s8 : Int) + 1)) = (Value.int .i64 (s13 : Int)) ∧ (Value.int .i64 n12) = (Value.int .i64 (pow a s13)) ∧ ((s13 : Int) ≤ b ∧ Ext w w11) ∧ (b.toNat - s13) < (b.toNat - s8))) ∧ (¬ ((s8 : Int) < b) → Calls Try.prog 102 #[(Value.int .i64 (pow a s8))] w9 (fun e14 w15 => ∃ n16 : Int, ∃ n17 : Int, e14 = .returned (Value.tuple #[(Value.int .i64 n16), (Value.int .i64 n17)]) ∧ Keeps w.heap.size [] w9 w15 ∧ Post (Value.tuple #[(Value.int .i64 n16), (Value.int .i64 n17)]) w15))))))))))
theorem impl_PowerOf_eq (a : Int) (b : Int) (w : World) (Post : Value → World → Prop) : denF Try.prog [] (impl_PowerOf_A a b w) 37 [(Value.int .i64 a), (Value.int .i64 b)] w Post = impl_PowerOf_vc a b w Post := by kernel_rfl
set_option maxRecDepth 100000 in
theorem impl_PowerOf_calls (a : Int) (b : Int) (w : World) (Post : Value → World → Prop) (hvc : impl_PowerOf_vc a b w Post) : Ret Try.prog 37 #[(Value.int .i64 a), (Value.int .i64 b)] w Post :=
  Ret.of (denF_sound mixed (Eq.mpr (impl_PowerOf_eq a b w Post) hvc))

theorem impl_PowerOf_val (a b : Int) (w : World) : Val Try.prog 37 #[.int .i64 a, .int .i64 b] w (powR a b) :=
  Ret.val (impl_PowerOf_calls a b w _ (by
    unfold impl_PowerOf_vc
    refine (impl_within_val ..).call fun w1 h1 => ⟨_, rfl, h1.keeps, fun hb => ⟨?_, h1⟩, fun hb => ?_⟩
    · unfold powR; rw [if_neg fun h => nd_t hb h.1]; rfl
    have ha := nd_f hb
    refine (impl_within_val ..).call fun w2 h2 => ⟨_, rfl, h2.keeps, fun hb => ⟨?_, h1.trans h2⟩, fun hb => ?_⟩
    · unfold powR; rw [if_neg fun h => nd_t hb h.2]; rfl
    have hb := nd_f hb
    refine ⟨⟨0, rfl, rfl, by omega, h1.trans h2⟩, ?_⟩
    rintro k w3 ⟨hk, h3⟩
    refine ⟨fun hlt => ?_, fun hge => ?_⟩
    · have hr := pow_range ha k
      refine (impl_times_val _ _ _ hr.1 hr.2 ha.1 ha.2).call fun w4 h4 => ⟨_, rfl, h4.keeps, by unfold I64; omega, k + 1, rfl, rfl, ⟨by omega, h3.trans h4⟩, by omega⟩
    · obtain ⟨x, y, e⟩ := lim_pair (pow a k)
      refine (impl_limited_val ..).call fun w4 h4 => ⟨x, y, by rw [e], h4.keeps, ?_, h3.trans h4⟩
      have hbk : b.toNat = k := by omega
      unfold powR; rw [if_pos ⟨ha, hb⟩, hbk, e]))

def impl_areBases_vc (v : Value) (zs : List Int) (w : World) (Post : Value → World → Prop) : Prop :=
  LenV v (fun n1 => (((n1 ≤ (100 : Int)) → Calls Try.prog 156 #[v, (Value.int .i64 1), (Value.int .i64 100)] w (fun e2 w3 => ∃ b4 : Bool, e2 = .returned (Value.bool b4) ∧ Keeps w.heap.size [] w w3 ∧ Post (Value.bool b4) w3)) ∧ (¬ (n1 ≤ (100 : Int)) → Post (Value.bool false) w)))
theorem impl_areBases_eq (v : Value) (zs : List Int) (w : World) (Post : Value → World → Prop) : denF Try.prog [] noAnn 97 [v] w Post = impl_areBases_vc v zs w Post := by kernel_rfl
set_option maxRecDepth 100000 in
theorem impl_areBases_calls (v : Value) (zs : List Int) (w : World) (Post : Value → World → Prop) (hvc : impl_areBases_vc v zs w Post) : Ret Try.prog 97 #[v] w Post :=
  Ret.of (denF_sound mixed (Eq.mpr (impl_areBases_eq v zs w Post) hvc))

theorem impl_areBases_val (v : Value) (zs : List Int) (w : World) (hv : RI w v zs) : Val Try.prog 97 #[v] w (.bool (decide (Bases zs))) :=
  Ret.val (impl_areBases_calls v zs w _ (by
    unfold impl_areBases_vc
    refine hv.len ⟨fun hle => ?_, fun hgt => ⟨?_, .refl w⟩⟩
    · refine (impl_allWithin_val v 1 100 zs w hv).call fun w2 h2 => ⟨_, rfl, h2.keeps, ?_, h2⟩
      refine beq_val (decide_eq_decide.2 ⟨fun h => ⟨by omega, h⟩, fun h => h.2⟩)
    · exact beq_val (decide_eq_false fun h => hgt (by have := h.1; omega)).symm))

def impl_NumberOf_A (v : Value) (u : Value) (zs bs : List Int) (w : World) : Nat → Ann := fun κ => match κ with
  | 0 => { σ := Nat, sli := [23], slc := fun s => [SV.v (Value.int .i64 (s : Int))], bxi := [], bxc := fun s => [], inv := fun s W => s ≤ zs.length ∧ Ext w W ∧ DigOk ((zs.zip bs).take s), μ := fun s W => zs.length - s }
  | 1 => { σ := Nat, sli := [39, 8], slc := fun s => [SV.v (Value.int .i64 (s : Int)), SV.v (Value.int .i64 (numb ((zs.zip bs).take s)))], bxi := [], bxc := fun s => [], inv := fun s W => s ≤ zs.length ∧ Ext w W ∧ 0 ≤ numb ((zs.zip bs).take s) ∧ numb ((zs.zip bs).take s) ≤ Mx, μ := fun s W => zs.length - s }
  | _ => { σ := Unit, sli := [], slc := fun _ => [], bxi := [], bxc := fun _ => [], inv := fun _ _ => False, μ := fun _ _ => 0 }
def impl_NumberOf_vc (v : Value) (u : Value) (zs bs : List Int) (w : World) (Post : Value → World → Prop) : Prop :=
  Calls Try.prog 97 #[u] w (fun e1 w2 => ∃ b3 : Bool, e1 = .returned (Value.bool b3) ∧ Keeps w.heap.size [] w w2 ∧ (((!b3) = true → Post (Value.tuple #[(Value.int .i64 0), (Value.int .i64 2)]) w2) ∧ ((!b3) = false → LenV v (fun n4 => LenV u (fun n5 => (((n4 ≠ n5) → Post (Value.tuple #[(Value.int .i64 0), (Value.int .i64 2)]) w2) ∧ (¬ (n4 ≠ n5) → LenV v (fun n6 => ((∃ s7 : Nat, (Value.int .i64 0) = (Value.int .i64 (s7 : Int)) ∧ (s7 ≤ zs.length ∧ Ext w w2 ∧ DigOk ((zs.zip bs).take s7))) ∧ ∀ (s8 : Nat) (w9 : World), (s8 ≤ zs.length ∧ Ext w w9 ∧ DigOk ((zs.zip bs).take s8)) → ((((s8 : Int) < n6) → IxV 1 v (s8 : Int) (fun ad10 => ∃ n11 : Int, LdV w9 (Value.pointer (some ad10)) (Value.int .i64 n11) ∧ IxV 1 u (s8 : Int) (fun ad12 => ∃ n13 : Int, LdV w9 (Value.pointer (some ad12)) (Value.int .i64 n13) ∧ I64 (n13 - 1) ∧ Calls Try.prog 96 #[(Value.int .i64 n11), (Value.int .i64 0), (Value.int .i64 (n13 - 1))] w9 (fun e14 w15 => ∃ b16 : Bool, e14 = .returned (Value.bool b16) ∧ Keeps w.heap.size [] w9 w15 ∧ (((!b16) = true → Post (Value.tuple #[(Value.int .i64 0), (Value.int .i64 2)]) w15) ∧ ((!b16) = false → I64 ((s8 : Int) + 1) ∧ ∃ s17 : Nat, (Value.int .i64 ((s8 : Int) + 1)) = (Value.int .i64 (s17 : Int)) ∧ (s17 ≤ zs.length ∧ Ext w w15 ∧ DigOk ((zs.zip bs).take s17)) ∧ (zs.length - s17) < (zs.length - s8))))))) ∧ (¬ ((s8 : Int) < n6) → LenV v (fun n18 => ((∃ s19 : Nat, (Value.int .i64 0) = (Value.int .i64 (s19 : Int)) ∧ (Value.int .i64 0) = (Value.int .i64 (numb ((zs.zip bs).take s19))) ∧ (s19 ≤ zs.length ∧ Ext w w9 ∧ 0 ≤ numb ((zs.zip bs).take s19) ∧ numb ((zs.zip bs).take s19) ≤ Mx)) ∧ ∀ (s20 : Nat) (w21 : World), (s20 ≤ zs.length ∧ Ext w w21 ∧ 0 ≤ numb ((zs.zip bs).take s20) ∧ numb ((zs.zip bs).take s20) ≤ Mx) → ((((s20 : Int) < n18) → IxV 1 v (s20 : Int) (fun ad22 => ∃ n23 : Int, LdV w21 (Value.pointer (some ad22)) (Value.int .i64 n23) ∧ IxV 1 u (s20 : Int) (fun ad24 => ∃ n25 : Int, LdV w21 (Value.pointer (some ad24)) (Value.int .i64 n25) ∧ I64 ((numb ((zs.zip bs).take s20)) * n25) ∧ I64 (((numb ((zs.zip bs).take s20)) * n25) + n23) ∧ ((((1000000000000 : Int) < (((numb ((zs.zip bs).take s20)) * n25) + n23)) → Post (Value.tuple #[(Value.int .i64 0), (Value.int .i64 3)]) w21) ∧ (¬ ((1000000000000 : Int) < (((numb ((zs.zip bs).take s20)) * n25) + n23)) → I64 ((s20 : Int) + 1) ∧ ∃ s26 : Nat, (Value.int .i64 ((s20 : Int) + 1)) = (Value.int .i64 (s26 : Int)) ∧ (Value.int .i64 (((numb ((zs.zip bs).take s20)) * n25) + n23)) = (Value.int .i64 (numb ((zs.zip bs).take s26))) ∧ (s26 ≤ zs.length ∧ Ext w w21 ∧ 0 ≤ numb ((zs.zip bs).take s26) ∧ numb ((zs.zip bs).take s26) ≤ Mx) ∧ (zs.length - s26) < (zs.length - s20)))))) ∧ (¬ ((s20 : Int) < n18) → Post (Value.tuple #[(Value.int .i64 (numb ((zs.zip bs).take s20))), (Value.int .i64 0)]) w21)))))))))))))))
theorem impl_NumberOf_eq (v : Value) (u : Value) (zs bs : List Int) (w : World) (Post : Value → World → Prop) : denF Try.prog [] (impl_NumberOf_A v u zs bs w) 30 [v, u] w Post = impl_NumberOf_vc v u zs bs w Post := by kernel_rfl
set_option maxRecDepth 100000 in
theorem impl_NumberOf_calls (v : Value) (u : Value) (zs bs : List Int) (w : World) (Post : Value → World → Prop) (hvc : impl_NumberOf_vc v u zs bs w Post) : Ret Try.prog 30 #[v, u] w Post :=
  Ret.of (denF_sound mixed (Eq.mpr (impl_NumberOf_eq v u zs bs w Post) hvc))


theorem numb_snoc (ps : List (Int × Int)) (k : Nat) (hk : k < ps.length) : numb (ps.take (k + 1)) = numb (ps.take k) * ps[k].2 + ps[k].1 := by
  unfold numb
  rw [take_snoc ps k hk, List.foldl_append]
  rfl
theorem numb_grow : ∀ (ps : List (Int × Int)) (a : Int), 0 ≤ a → (∀ p ∈ ps, 0 ≤ p.1 ∧ 1 ≤ p.2) → a ≤ ps.foldl (fun n p => n * p.2 + p.1) a
  | [], a, _, _ => Int.le_refl _
  | p :: ps, a, ha, h => by
    have h1 := h p (List.mem_cons_self ..)
    have h2 : a * 1 ≤ a * p.2 := Int.mul_le_mul_of_nonneg_left h1.2 ha
    have h3 := numb_grow ps (a * p.2 + p.1) (by omega) fun q hq => h q (List.mem_cons_of_mem _ hq)
    simp only [List.foldl_cons]
    omega
theorem numb_mono (ps : List (Int × Int)) (k : Nat) (h : ∀ p ∈ ps, 0 ≤ p.1 ∧ 1 ≤ p.2) : numb (ps.take k) ≤ numb ps := by
  have e : numb ps = (ps.drop k).foldl (fun n p => n * p.2 + p.1) (numb (ps.take k)) := by
    unfold numb
    rw [← List.foldl_append, List.take_append_drop]
  rw [e]
  exact numb_grow _ _ (numb_grow _ 0 (Int.le_refl _) fun p hp => h p (List.mem_of_mem_take hp)) fun p hp => h p (List.mem_of_mem_drop hp)
theorem DigOk.pos {zs bs : List Int} (h : DigOk (zs.zip bs)) (hb : Bases bs) : ∀ p ∈ zs.zip bs, 0 ≤ p.1 ∧ 1 ≤ p.2 := fun p hp =>
  ⟨(h p hp).1, (hb.2 _ (List.of_mem_zip hp).2).1⟩

theorem impl_NumberOf_val (v u : Value) (zs bs : List Int) (w : World) (hv : RI w v zs) (hu : RI w u bs) : Val Try.prog 30 #[v, u] w (numR zs bs) :=
  Ret.val (impl_NumberOf_calls v u zs bs w _ (by
    unfold impl_NumberOf_vc
    have hbd := hv.bound
    refine (impl_areBases_val _ bs _ hu).call fun w1 h1 => ⟨_, rfl, h1.keeps, fun hb => ⟨?_, h1⟩, fun hb => ?_⟩
    · unfold numR; rw [if_neg fun h => nd_t hb h.1]; rfl
    have hB := nd_f hb
    refine (hv.ext h1).len ((hu.ext h1).len ⟨fun hne => ⟨?_, h1⟩, fun heq => ?_⟩)
    · unfold numR; rw [if_neg fun h => hne (by rw [h.2.1])]; rfl
    have hll : zs.length = bs.length := by omega
    have hzl : (zs.zip bs).length = zs.length := by rw [List.length_zip]; omega
    refine (hv.ext h1).len ⟨⟨0, rfl, Nat.zero_le _, h1, by intro p hp; simp at hp⟩, ?_⟩
    rintro k w2 ⟨hk, h2, hd⟩
    refine ⟨fun hlt => ?_, fun hge => ?_⟩
    · have hlt' : k < zs.length := by omega
      have hltb : k < bs.length := by omega
      have hkz : k < (zs.zip bs).length := by omega
      refine (hv.ext h2).get k rfl hlt' ((hu.ext h2).get k rfl hltb ?_)
      have hb1 := hB.2 _ (List.getElem_mem hltb)
      refine ⟨by unfold I64; omega, (impl_within_val ..).call fun w3 h3 => ⟨_, rfl, h3.keeps, fun hb => ⟨?_, h2.trans h3⟩, fun hb => ⟨by unfold I64; omega, k + 1, rfl, ⟨hlt', h2.trans h3, ?_⟩, by omega⟩⟩⟩
      · unfold numR; rw [if_neg fun h => nd_t hb (by have := h.2.2 _ (List.getElem_mem hkz); rwa [List.getElem_zip] at this)]; rfl
      · intro p hp
        rw [take_snoc _ _ hkz, List.mem_append] at hp
        rcases hp with hp | hp
        · exact hd p hp
        · simp only [List.mem_singleton] at hp
          subst hp
          rw [List.getElem_zip]
          exact nd_f hb
    have hD : DigOk (zs.zip bs) := by rwa [List.take_of_length_le (by omega)] at hd
    have hpos := hD.pos hB
    refine (hv.ext h2).len ⟨⟨0, rfl, rfl, Nat.zero_le _, h2, Int.le_refl _, (by show (0 : Int) ≤ 1000000000000; decide)⟩, ?_⟩
    rintro j w3 ⟨hj, h3, hn0, hn⟩
    refine ⟨fun hlt => ?_, fun hge => ?_⟩
    · have hlt' : j < zs.length := by omega
      have hltb : j < bs.length := by omega
      have hjz : j < (zs.zip bs).length := by omega
      refine (hv.ext h3).get j rfl hlt' ((hu.ext h3).get j rfl hltb ?_)
      have hs := numb_snoc (zs.zip bs) j hjz
      rw [List.getElem_zip] at hs
      have hb1 := hB.2 _ (List.getElem_mem hltb)
      have hd1 := hD _ (List.getElem_mem hjz)
      rw [List.getElem_zip] at hd1
      simp only at hs hd1
      have hm0 : 0 ≤ numb ((zs.zip bs).take j) * bs[j] := Int.mul_nonneg hn0 (by omega)
      have hm1 : numb ((zs.zip bs).take j) * bs[j] ≤ Mx * 100 := Int.mul_le_mul hn hb1.2 (by omega) (by decide)
      simp only [Mx] at hm1 hn
      refine ⟨by unfold I64; omega, by unfold I64; omega, fun hgt => ⟨?_, h3⟩, fun hle => ⟨by unfold I64; omega, j + 1, rfl, by rw [hs], ⟨hlt', h3, by omega, by simp only [Mx]; omega⟩, by omega⟩⟩
      have hm := numb_mono (zs.zip bs) (j + 1) hpos
      unfold numR lim
      rw [if_pos ⟨hB, hll, hD⟩, if_pos (show Mx < _ by simp only [Mx]; omega)]
    · refine ⟨?_, h3⟩
      rw [List.take_of_length_le (by omega)] at hn ⊢
      unfold numR lim
      rw [if_pos ⟨hB, hll, hD⟩, if_neg (by omega)]))

def impl_IsRising_A (v : Value) (n : Int) (zs : List Int) (w : World) : Nat → Ann := fun κ => match κ with
  | 0 => { σ := Nat, sli := [9], slc := fun s => [SV.v (Value.int .i64 (s : Int))], bxi := [], bxc := fun s => [], inv := fun s W => s ≤ zs.length ∧ Ext w W ∧ Rises n zs s, μ := fun s W => zs.length - s }
  | _ => { σ := Unit, sli := [], slc := fun _ => [], bxi := [], bxc := fun _ => [], inv := fun _ _ => False, μ := fun _ _ => 0 }
def impl_IsRising_vc (v : Value) (n : Int) (zs : List Int) (w : World) (Post : Value → World → Prop) : Prop :=
  LenV v (fun n1 => ((∃ s2 : Nat, (Value.int .i64 0) = (Value.int .i64 (s2 : Int)) ∧ (s2 ≤ zs.length ∧ Ext w w ∧ Rises n zs s2)) ∧ ∀ (s3 : Nat) (w4 : World), (s3 ≤ zs.length ∧ Ext w w4 ∧ Rises n zs s3) → ((((s3 : Int) < n1) → IxV 1 v (s3 : Int) (fun ad5 => ∃ n6 : Int, LdV w4 (Value.pointer (some ad5)) (Value.int .i64 n6) ∧ (((n6 < (0 : Int)) → Post (Value.bool false) w4) ∧ (¬ (n6 < (0 : Int)) → (((n ≤ n6) → Post (Value.bool false) w4) ∧ (¬ (n ≤ n6) → ((((0 : Int) < (s3 : Int)) → I64 ((s3 : Int) - 1) ∧ IxV 1 v ((s3 : Int) - 1) (fun ad7 => ∃ n8 : Int, LdV w4 (Value.pointer (some ad7)) (Value.int .i64 n8) ∧ (((n6 ≤ n8) → Post (Value.bool false) w4) ∧ (¬ (n6 ≤ n8) → I64 ((s3 : Int) + 1) ∧ ∃ s9 : Nat, (Value.int .i64 ((s3 : Int) + 1)) = (Value.int .i64 (s9 : Int)) ∧ (s9 ≤ zs.length ∧ Ext w w4 ∧ Rises n zs s9) ∧ (zs.length - s9) < (zs.length - s3))))) ∧ (¬ ((0 : Int) < (s3 : Int)) → I64 ((s3 : Int) + 1) ∧ ∃ s10 : Nat, (Value.int .i64 ((s3 : Int) + 1)) = (Value.int .i64 (s10 : Int)) ∧ (s10 ≤ zs.length ∧ Ext w w4 ∧ Rises n zs s10) ∧ (zs.length - s10) < (zs.length - s3))))))))) ∧ (¬ ((s3 : Int) < n1) → Post (Value.bool true) w4))))
theorem impl_IsRising_eq (v : Value) (n : Int) (zs : List Int) (w : World) (Post : Value → World → Prop) : denF Try.prog [] (impl_IsRising_A v n zs w) 26 [v, (Value.int .i64 n)] w Post = impl_IsRising_vc v n zs w Post := by kernel_rfl
set_option maxRecDepth 100000 in
theorem impl_IsRising_calls (v : Value) (n : Int) (zs : List Int) (w : World) (Post : Value → World → Prop) (hvc : impl_IsRising_vc v n zs w Post) : Ret Try.prog 26 #[v, (Value.int .i64 n)] w Post :=
  Ret.of (denF_sound mixed (Eq.mpr (impl_IsRising_eq v n zs w Post) hvc))

theorem impl_IsRising_val (v : Value) (n : Int) (zs : List Int) (w : World) (hv : RI w v zs) : Val Try.prog 26 #[v, .int .i64 n] w (.bool (decide (Rises n zs zs.length))) :=
  Ret.val (impl_IsRising_calls v n zs w _ (by
    unfold impl_IsRising_vc
    have hbd := hv.bound
    refine hv.len ⟨⟨0, rfl, Nat.zero_le _, .refl w, fun i hi => absurd hi (Nat.not_lt_zero i)⟩, ?_⟩
    rintro k w1 ⟨hk, h1, hr⟩
    refine ⟨fun hlt => ?_, fun hge => ⟨?_, h1⟩⟩
    · have hlt' : k < zs.length := by omega
      refine (hv.ext h1).get k rfl hlt' ?_
      have ek := getD_get hlt'
      have no : ¬ RiseAt n zs k → Value.bool false = Value.bool (decide (Rises n zs zs.length)) := fun hn => beq_val (decide_eq_false fun hh => hn (hh k hlt')).symm
      refine ⟨fun h => ⟨no fun hh => ?_, h1⟩, fun h => ⟨fun h' => ⟨no fun hh => ?_, h1⟩, fun h' => ⟨fun h0 => ⟨by unfold I64; omega, (hv.ext h1).get (k - 1) (by omega) (by omega) ⟨fun h2 => ⟨no fun hh => ?_, h1⟩, fun h2 => ⟨by unfold I64; omega, k + 1, rfl, ⟨hlt', h1, hr.succ ?_⟩, by omega⟩⟩⟩, fun h0 => ⟨by unfold I64; omega, k + 1, rfl, ⟨hlt', h1, hr.succ ?_⟩, by omega⟩⟩⟩⟩
      · have := hh.1; omega
      · have := hh.2.1; omega
      · have h3 := hh.2.2 (by omega)
        rw [getD_get (show k - 1 < zs.length by omega)] at h3
        omega
      · refine ⟨by omega, by omega, fun _ => ?_⟩
        rw [getD_get (show k - 1 < zs.length by omega)]
        omega
      · exact ⟨by omega, by omega, fun h4 => absurd h4 (by omega)⟩
    · have : k = zs.length := by omega
      subst this
      exact beq_val (decide_eq_true hr).symm))
end Go.Proofs
