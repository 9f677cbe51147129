/- Contracts of the numbers' functions, of the program and of the reference. No condition. -/
import Derived.Test.YtjcggcefmpaieaaDoorH01
import Derived.Test.YtjcggcefmpaieaaDoorL02a
set_option linter.unusedVariables false
namespace Go.Proofs
open Go.Sx Go.RowKit

/-! ### plain functions -/
abbrev Mx : Int := 1000000000000
/-- numbers: at most 100, each in 0..10^12 -/
def Nums (zs : List Int) : Prop := zs.length ≤ 100 ∧ ∀ z ∈ zs, 0 ≤ z ∧ z ≤ Mx
instance (zs : List Int) : Decidable (Nums zs) := inferInstanceAs (Decidable (_ ∧ _))
def cut (a b : Int) : Int := if 0 < a ∧ Mx / a < b then Mx + 1 else a * b
/-- a number or ErrLimit -/
def lim (n : Int) : Value := if Mx < n then .tuple #[.int .i64 0, .int .i64 3] else .tuple #[.int .i64 n, .int .i64 0]
theorem lim_pair (n : Int) : ∃ x y, lim n = .tuple #[.int .i64 x, .int .i64 y] := by
  unfold lim
  split
  · exact ⟨_, _, rfl⟩
  · exact ⟨_, _, rfl⟩
def errR : Value := .tuple #[.int .i64 0, .int .i64 2]
def pcut (zs : List Int) : Int := zs.foldl cut 1
def pow (a : Int) : Nat → Int
  | 0 => 1
  | k + 1 => cut (pow a k) a
def prodR (zs : List Int) : Value := if Nums zs then (if (0 : Int) ∈ zs then .tuple #[.int .i64 0, .int .i64 0] else lim (pcut zs)) else errR
def sumR (zs : List Int) : Value := if Nums zs then lim zs.sum else errR
def powR (a b : Int) : Value := if (0 ≤ a ∧ a ≤ Mx) ∧ 0 ≤ b ∧ b ≤ 60 then lim (pow a b.toNat) else errR
/-- bases: at most 100, each in 1..100 -/
def Bases (zs : List Int) : Prop := zs.length ≤ 100 ∧ ∀ z ∈ zs, 1 ≤ z ∧ z ≤ 100
instance (zs : List Int) : Decidable (Bases zs) := inferInstanceAs (Decidable (_ ∧ _))
def DigOk (ps : List (Int × Int)) : Prop := ∀ p ∈ ps, 0 ≤ p.1 ∧ p.1 ≤ p.2 - 1
instance (ps : List (Int × Int)) : Decidable (DigOk ps) := inferInstanceAs (Decidable (∀ p ∈ ps, _))
def numb (ps : List (Int × Int)) : Int := ps.foldl (fun n p => n * p.2 + p.1) 0
def numR (zs bs : List Int) : Value := if Bases bs ∧ zs.length = bs.length ∧ DigOk (zs.zip bs) then lim (numb (zs.zip bs)) else errR
/-- number i keeps the rule -/
def RiseAt (n : Int) (zs : List Int) (i : Nat) : Prop := 0 ≤ zs.getD i 0 ∧ zs.getD i 0 < n ∧ (0 < i → zs.getD (i - 1) 0 < zs.getD i 0)
instance (n : Int) (zs : List Int) (i : Nat) : Decidable (RiseAt n zs i) := inferInstanceAs (Decidable (_ ∧ _))
def Rises (n : Int) (zs : List Int) (k : Nat) : Prop := ∀ i, i < k → RiseAt n zs i
instance (n : Int) (zs : List Int) (k : Nat) : Decidable (Rises n zs k) := inferInstanceAs (Decidable (∀ i, i < k → _))
theorem getD_get {zs : List Int} {k : Nat} (h : k < zs.length) : zs.getD k 0 = zs[k] := by simp [List.getD, List.getElem?_eq_getElem h]
theorem Rises.succ {n : Int} {zs : List Int} {k : Nat} (h : Rises n zs k) (h1 : RiseAt n zs k) : Rises n zs (k + 1) := by
  intro i hi
  rcases Nat.lt_or_ge i k with h2 | h2
  · exact h i h2
  · have : i = k := by omega
    subst this
    exact h1

theorem all_take_succ {zs : List Int} {p : Int → Prop} {k : Nat} (hk : k < zs.length) (h : ∀ z ∈ zs.take k, p z) (h1 : p zs[k]) : ∀ z ∈ zs.take (k + 1), p z := by
  intro z hz
  rw [take_snoc zs k hk, List.mem_append] at hz
  rcases hz with hz | hz
  · exact h z hz
  · simp at hz
    subst hz
    exact h1
theorem take_all {α : Type} {zs : List α} {k : Nat} (h : ¬ ((k : Int) < (zs.length : Int))) : zs.take k = zs := List.take_of_length_le (by omega)

theorem cut_range {a b : Int} (ha : 0 ≤ a) (ha' : a ≤ Mx + 1) (hb : 0 ≤ b) (hb' : b ≤ Mx) : 0 ≤ cut a b ∧ cut a b ≤ Mx + 1 := by
  unfold cut
  split
  · simp only [Mx]; omega
  · rename_i h
    rcases Int.lt_or_le 0 a with h0 | h0
    · have h1 : b ≤ Mx / a := by
        rcases Int.lt_or_le (Mx / a) b with h2 | h2
        · exact absurd ⟨h0, h2⟩ h
        · exact h2
      have h2 : b * a ≤ Mx := (Int.le_ediv_iff_mul_le h0).1 h1
      rw [Int.mul_comm]
      exact ⟨Int.mul_nonneg hb ha, by simp only [Mx] at *; omega⟩
    · have : a = 0 := by omega
      subst this
      simp only [Int.zero_mul, Mx]; omega

theorem nd_t {p : Prop} [Decidable p] (h : (!decide p) = true) : ¬ p := by simpa using h
theorem nd_f {p : Prop} [Decidable p] (h : (!decide p) = false) : p := by simpa using h

/-! ### the program -/
def impl_allWithin_A (v : Value) (l : Int) (h : Int) (zs : List Int) (w : World) : Nat → Ann := fun κ => match κ with
  | 0 => { σ := Nat, sli := [11], slc := fun s => [SV.v (Value.int .i64 (s : Int))], bxi := [], bxc := fun s => [], inv := fun s W => s ≤ zs.length ∧ (∀ z ∈ zs.take s, l ≤ z ∧ z ≤ h) ∧ Ext w W, μ := fun s W => zs.length - s }
  | _ => { σ := Unit, sli := [], slc := fun _ => [], bxi := [], bxc := fun _ => [], inv := fun _ _ => False, μ := fun _ _ => 0 }
def impl_allWithin_vc (v : Value) (l : Int) (h : Int) (zs : List Int) (w : World) (Post : Value → World → Prop) : Prop :=
  LenV v (fun n1 => ((∃ s2 : Nat, (Value.int .i64 0) = (Value.int .i64 (s2 : Int)) ∧ (s2 ≤ zs.length ∧ (∀ z ∈ zs.take s2, l ≤ z ∧ z ≤ h) ∧ Ext w w)) ∧ ∀ (s3 : Nat) (w4 : World), (s3 ≤ zs.length ∧ (∀ z ∈ zs.take s3, l ≤ z ∧ z ≤ h) ∧ Ext w w4) → ((((s3 : Int) < n1) → IxV 1 v (s3 : Int) (fun ad5 => ∃ n6 : Int, LdV w4 (Value.pointer (some ad5)) (Value.int .i64 n6) ∧ Calls Tryd.prog 85 #[(Value.int .i64 n6), (Value.int .i64 l), (Value.int .i64 h)] w4 (fun e7 w8 => ∃ b9 : Bool, e7 = .returned (Value.bool b9) ∧ Keeps w.heap.size [] w4 w8 ∧ (((!b9) = true → Post (Value.bool false) w8) ∧ ((!b9) = false → I64 ((s3 : Int) + 1) ∧ ∃ s10 : Nat, (Value.int .i64 ((s3 : Int) + 1)) = (Value.int .i64 (s10 : Int)) ∧ (s10 ≤ zs.length ∧ (∀ z ∈ zs.take s10, l ≤ z ∧ z ≤ h) ∧ Ext w w8) ∧ (zs.length - s10) < (zs.length - s3)))))) ∧ (¬ ((s3 : Int) < n1) → Post (Value.bool true) w4))))
theorem impl_allWithin_eq (v : Value) (l : Int) (h : Int) (zs : List Int) (w : World) (Post : Value → World → Prop) : denF Tryd.prog [] (impl_allWithin_A v l h zs w) 74 [v, (Value.int .i64 l), (Value.int .i64 h)] w Post = impl_allWithin_vc v l h zs w Post := by kernel_rfl
set_option maxRecDepth 100000 in
theorem impl_allWithin_calls (v : Value) (l : Int) (h : Int) (zs : List Int) (w : World) (Post : Value → World → Prop) (hvc : impl_allWithin_vc v l h zs w Post) : Ret Tryd.prog 74 #[v, (Value.int .i64 l), (Value.int .i64 h)] w Post :=
  Ret.of (denF_sound mixed (Eq.mpr (impl_allWithin_eq v l h zs w Post) hvc))

theorem impl_allWithin_val (v : Value) (l h : Int) (zs : List Int) (w : World) (hv : RI w v zs) : Val Tryd.prog 74 #[v, .int .i64 l, .int .i64 h] w (.bool (decide (∀ z ∈ zs, l ≤ z ∧ z ≤ h))) :=
  Ret.val (impl_allWithin_calls v l h zs w _ (by
    unfold impl_allWithin_vc
    have hbd := hv.bound
    refine hv.len ⟨⟨0, rfl, Nat.zero_le _, by simp, .refl w⟩, ?_⟩
    rintro k w1 ⟨hk, hall, h1⟩
    refine ⟨fun hlt => ?_, fun hge => ⟨?_, h1⟩⟩
    · have hlt' : k < zs.length := by omega
      refine (hv.ext h1).get k rfl hlt' ?_
      refine (impl_within_val ..).call fun w2 h2 => ⟨_, rfl, h2.keeps, fun hb => ⟨?_, h1.trans h2⟩, fun hb => ⟨by unfold I64; omega, k + 1, rfl, ⟨hlt', ?_, h1.trans h2⟩, by omega⟩⟩
      · have hb := nd_t hb
        refine beq_val (decide_eq_false fun hh => hb (hh _ (List.getElem_mem hlt'))).symm
      · have hb := nd_f hb
        exact all_take_succ hlt' hall hb
    · rw [take_all hge] at hall
      exact beq_val (decide_eq_true hall).symm))

def impl_areNumbers_vc (v : Value) (zs : List Int) (w : World) (Post : Value → World → Prop) : Prop :=
  LenV v (fun n1 => (((n1 ≤ (100 : Int)) → Calls Tryd.prog 74 #[v, (Value.int .i64 0), (Value.int .i64 1000000000000)] w (fun e2 w3 => ∃ b4 : Bool, e2 = .returned (Value.bool b4) ∧ Keeps w.heap.size [] w w3 ∧ Post (Value.bool b4) w3)) ∧ (¬ (n1 ≤ (100 : Int)) → Post (Value.bool false) w)))
theorem impl_areNumbers_eq (v : Value) (zs : List Int) (w : World) (Post : Value → World → Prop) : denF Tryd.prog [] noAnn 40 [v] w Post = impl_areNumbers_vc v zs w Post := by kernel_rfl
set_option maxRecDepth 100000 in
theorem impl_areNumbers_calls (v : Value) (zs : List Int) (w : World) (Post : Value → World → Prop) (hvc : impl_areNumbers_vc v zs w Post) : Ret Tryd.prog 40 #[v] w Post :=
  Ret.of (denF_sound mixed (Eq.mpr (impl_areNumbers_eq v zs w Post) hvc))

theorem impl_areNumbers_val (v : Value) (zs : List Int) (w : World) (hv : RI w v zs) : Val Tryd.prog 40 #[v] w (.bool (decide (Nums zs))) :=
  Ret.val (impl_areNumbers_calls v zs w _ (by
    unfold impl_areNumbers_vc
    refine hv.len ⟨fun hle => ?_, fun hgt => ⟨?_, .refl w⟩⟩
    · refine (impl_allWithin_val v 0 1000000000000 zs w hv).call fun w2 h2 => ⟨_, rfl, h2.keeps, ?_, h2⟩
      refine beq_val (decide_eq_decide.2 ⟨fun h => ⟨by omega, h⟩, fun h => h.2⟩)
    · exact beq_val (decide_eq_false fun h => hgt (by have := h.1; omega)).symm))

def impl_sum_A (v : Value) (zs : List Int) (w : World) : Nat → Ann := fun κ => match κ with
  | 0 => { σ := Nat, sli := [3, 8], slc := fun s => [SV.v (Value.int .i64 ((zs.take s).sum)), SV.v (Value.int .i64 (s : Int))], bxi := [], bxc := fun s => [], inv := fun s W => s ≤ zs.length ∧ Ext w W, μ := fun s W => zs.length - s }
  | _ => { σ := Unit, sli := [], slc := fun _ => [], bxi := [], bxc := fun _ => [], inv := fun _ _ => False, μ := fun _ _ => 0 }
def impl_sum_vc (v : Value) (zs : List Int) (w : World) (Post : Value → World → Prop) : Prop :=
  LenV v (fun n1 => ((∃ s2 : Nat, (Value.int .i64 0) = (Value.int .i64 ((zs.take s2).sum)) ∧ (Value.int .i64 0) = (Value.int .i64 (s2 : Int)) ∧ (s2 ≤ zs.length ∧ Ext w w)) ∧ ∀ (s3 : Nat) (w4 : World), (s3 ≤ zs.length ∧ Ext w w4) → ((((s3 : Int) < n1) → IxV 1 v (s3 : Int) (fun ad5 => ∃ n6 : Int, LdV w4 (Value.pointer (some ad5)) (Value.int .i64 n6) ∧ I64 (((zs.take s3).sum) + n6) ∧ I64 ((s3 : Int) + 1) ∧ ∃ s7 : Nat, (Value.int .i64 (((zs.take s3).sum) + n6)) = (Value.int .i64 ((zs.take s7).sum)) ∧ (Value.int .i64 ((s3 : Int) + 1)) = (Value.int .i64 (s7 : Int)) ∧ (s7 ≤ zs.length ∧ Ext w w4) ∧ (zs.length - s7) < (zs.length - s3))) ∧ (¬ ((s3 : Int) < n1) → Post (Value.int .i64 ((zs.take s3).sum)) w4))))
theorem impl_sum_eq (v : Value) (zs : List Int) (w : World) (Post : Value → World → Prop) : denF Tryd.prog [] (impl_sum_A v zs w) 87 [v] w Post = impl_sum_vc v zs w Post := by kernel_rfl
set_option maxRecDepth 100000 in
theorem impl_sum_calls (v : Value) (zs : List Int) (w : World) (Post : Value → World → Prop) (hvc : impl_sum_vc v zs w Post) : Ret Tryd.prog 87 #[v] w Post :=
  Ret.of (denF_sound mixed (Eq.mpr (impl_sum_eq v zs w Post) hvc))

theorem sum_take_succ (zs : List Int) (k : Nat) (hk : k < zs.length) : (zs.take (k + 1)).sum = (zs.take k).sum + zs[k] := by
  rw [take_snoc zs k hk, List.sum_append]; simp

theorem sum_range {zs : List Int} (h : ∀ z ∈ zs, 0 ≤ z ∧ z ≤ Mx) : 0 ≤ zs.sum ∧ zs.sum ≤ zs.length * Mx := by
  induction zs with
  | nil => simp
  | cons z zs ih =>
    have h1 := h z (List.mem_cons_self ..)
    have h2 := ih fun y hy => h y (List.mem_cons_of_mem _ hy)
    simp only [List.sum_cons, List.length_cons, Mx] at *
    omega
theorem impl_sum_val (v : Value) (zs : List Int) (w : World) (hv : RI w v zs) (hn : Nums zs) : Val Tryd.prog 87 #[v] w (.int .i64 zs.sum) :=
  Ret.val (impl_sum_calls v zs w _ (by
    unfold impl_sum_vc
    obtain ⟨hl, hn⟩ := hn
    refine hv.len ⟨⟨0, rfl, rfl, Nat.zero_le _, .refl w⟩, ?_⟩
    rintro k w1 ⟨hk, h1⟩
    refine ⟨fun hlt => ?_, fun hge => ⟨?_, h1⟩⟩
    · have hlt' : k < zs.length := by omega
      refine (hv.ext h1).get k rfl hlt' ?_
      have h2 := sum_range (zs := zs.take (k + 1)) fun z hz => hn z (List.mem_of_mem_take hz)
      rw [sum_take_succ zs k hlt', List.length_take] at h2
      simp only [Mx] at h2
      exact ⟨by unfold I64; omega, by unfold I64; omega, k + 1, ieq (sum_take_succ zs k hlt').symm, rfl, ⟨hlt', h1⟩, by omega⟩
    · rw [take_all hge]))

def slices_Index_int64_int64_A (v : Value) (x : Int) (zs : List Int) (w : World) : Nat → Ann := fun κ => match κ with
  | 0 => { σ := Nat, sli := [8], slc := fun s => [SV.v (Value.int .i64 (s : Int))], bxi := [], bxc := fun s => [], inv := fun s W => s ≤ zs.length ∧ Ext w W ∧ (∀ z ∈ zs.take s, z ≠ x), μ := fun s W => zs.length - s }
  | _ => { σ := Unit, sli := [], slc := fun _ => [], bxi := [], bxc := fun _ => [], inv := fun _ _ => False, μ := fun _ _ => 0 }
def slices_Index_int64_int64_vc (v : Value) (x : Int) (zs : List Int) (w : World) (Post : Value → World → Prop) : Prop :=
  LenV v (fun n1 => ((∃ s2 : Nat, (Value.int .i64 0) = (Value.int .i64 (s2 : Int)) ∧ (s2 ≤ zs.length ∧ Ext w w ∧ (∀ z ∈ zs.take s2, z ≠ x))) ∧ ∀ (s3 : Nat) (w4 : World), (s3 ≤ zs.length ∧ Ext w w4 ∧ (∀ z ∈ zs.take s3, z ≠ x)) → ((((s3 : Int) < n1) → IxV 1 v (s3 : Int) (fun ad5 => ∃ n6 : Int, LdV w4 (Value.pointer (some ad5)) (Value.int .i64 n6) ∧ (((x = n6) → Post (Value.int .i64 (s3 : Int)) w4) ∧ (¬ (x = n6) → I64 ((s3 : Int) + 1) ∧ ∃ s7 : Nat, (Value.int .i64 ((s3 : Int) + 1)) = (Value.int .i64 (s7 : Int)) ∧ (s7 ≤ zs.length ∧ Ext w w4 ∧ (∀ z ∈ zs.take s7, z ≠ x)) ∧ (zs.length - s7) < (zs.length - s3))))) ∧ (¬ ((s3 : Int) < n1) → Post (Value.int .i64 (-1)) w4))))
theorem slices_Index_int64_int64_eq (v : Value) (x : Int) (zs : List Int) (w : World) (Post : Value → World → Prop) : denF Tryd.prog [] (slices_Index_int64_int64_A v x zs w) 159 [v, (Value.int .i64 x)] w Post = slices_Index_int64_int64_vc v x zs w Post := by kernel_rfl
set_option maxRecDepth 100000 in
theorem slices_Index_int64_int64_calls (v : Value) (x : Int) (zs : List Int) (w : World) (Post : Value → World → Prop) (hvc : slices_Index_int64_int64_vc v x zs w Post) : Ret Tryd.prog 159 #[v, (Value.int .i64 x)] w Post :=
  Ret.of (denF_sound mixed (Eq.mpr (slices_Index_int64_int64_eq v x zs w Post) hvc))

theorem slices_Index_ret (v : Value) (x : Int) (zs : List Int) (w : World) (hv : RI w v zs) : Ret Tryd.prog 159 #[v, .int .i64 x] w fun r w' => ∃ i : Int, r = .int .i64 i ∧ (0 ≤ i ↔ x ∈ zs) ∧ Ext w w' :=
  slices_Index_int64_int64_calls v x zs w _ (by
    unfold slices_Index_int64_int64_vc
    have hbd := hv.bound
    refine hv.len ⟨⟨0, rfl, Nat.zero_le _, .refl w, by simp⟩, ?_⟩
    rintro k w1 ⟨hk, h1, hn⟩
    refine ⟨fun hlt => ?_, fun hge => ⟨-1, rfl, ⟨fun h => absurd h (by omega), fun h => ?_⟩, h1⟩⟩
    · have hlt' : k < zs.length := by omega
      refine (hv.ext h1).get k rfl hlt' ⟨fun h => ⟨k, rfl, ⟨fun _ => h ▸ List.getElem_mem hlt', fun _ => by omega⟩, h1⟩, fun h => ⟨by unfold I64; omega, k + 1, rfl, ⟨hlt', h1, all_take_succ hlt' hn (Ne.symm h)⟩, by omega⟩⟩
    · rw [take_all hge] at hn
      exact absurd rfl (hn x h))
def slices_Contains_int64_int64_vc (v : Value) (x : Int) (zs : List Int) (w : World) (Post : Value → World → Prop) : Prop :=
  Calls Tryd.prog 159 #[v, (Value.int .i64 x)] w (fun e1 w2 => ∃ n3 : Int, e1 = .returned (Value.int .i64 n3) ∧ Keeps w.heap.size [] w w2 ∧ Post (Value.bool (decide ((0 : Int) ≤ n3))) w2)
theorem slices_Contains_int64_int64_eq (v : Value) (x : Int) (zs : List Int) (w : World) (Post : Value → World → Prop) : denF Tryd.prog [] noAnn 146 [v, (Value.int .i64 x)] w Post = slices_Contains_int64_int64_vc v x zs w Post := by kernel_rfl
set_option maxRecDepth 100000 in
theorem slices_Contains_int64_int64_calls (v : Value) (x : Int) (zs : List Int) (w : World) (Post : Value → World → Prop) (hvc : slices_Contains_int64_int64_vc v x zs w Post) : Ret Tryd.prog 146 #[v, (Value.int .i64 x)] w Post :=
  Ret.of (denF_sound mixed (Eq.mpr (slices_Contains_int64_int64_eq v x zs w Post) hvc))

theorem slices_Contains_val (v : Value) (x : Int) (zs : List Int) (w : World) (hv : RI w v zs) : Val Tryd.prog 146 #[v, .int .i64 x] w (.bool (decide (x ∈ zs))) :=
  Ret.val (slices_Contains_int64_int64_calls v x zs w _ (by
    unfold slices_Contains_int64_int64_vc
    refine (slices_Index_ret v x zs w hv).call ?_
    rintro _ w1 ⟨i, rfl, hi, h1⟩
    exact ⟨i, rfl, h1.keeps, beq_val (decide_eq_decide.2 hi), h1⟩))

theorem pcut_snoc (zs : List Int) (k : Nat) (hk : k < zs.length) : pcut (zs.take (k + 1)) = cut (pcut (zs.take k)) zs[k] := by
  unfold pcut
  rw [take_snoc zs k hk, List.foldl_append]
  rfl
theorem pcut_range {zs : List Int} (h : ∀ z ∈ zs, 0 ≤ z ∧ z ≤ Mx) : 0 ≤ pcut zs ∧ pcut zs ≤ Mx + 1 := by
  have : ∀ (l : List Int) (a : Int), (∀ z ∈ l, 0 ≤ z ∧ z ≤ Mx) → (0 ≤ a ∧ a ≤ Mx + 1) → 0 ≤ l.foldl cut a ∧ l.foldl cut a ≤ Mx + 1 := by
    intro l
    induction l with
    | nil => intro a _ h; exact h
    | cons z l ih => intro a hz h; exact ih _ (fun y hy => hz y (List.mem_cons_of_mem _ hy)) (cut_range h.1 h.2 (hz z (List.mem_cons_self ..)).1 (hz z (List.mem_cons_self ..)).2)
  exact this zs 1 h (by simp only [Mx]; omega)
theorem pow_range {a : Int} (h : 0 ≤ a ∧ a ≤ Mx) : ∀ k, 0 ≤ pow a k ∧ pow a k ≤ Mx + 1
  | 0 => by simp only [pow, Mx]; omega
  | k + 1 => cut_range (pow_range h k).1 (pow_range h k).2 h.1 h.2


theorem numb_snoc (ps : List (Int × Int)) (k : Nat) (hk : k < ps.length) : numb (ps.take (k + 1)) = numb (ps.take k) * ps[k].2 + ps[k].1 := by
  unfold numb
  rw [take_snoc ps k hk, List.foldl_append]
  rfl
theorem numb_grow : ∀ (ps : List (Int × Int)) (a : Int), 0 ≤ a → (∀ p ∈ ps, 0 ≤ p.1 ∧ 1 ≤ p.2) → a ≤ ps.foldl (fun n p => n * p.2 + p.1) a
  | [], a, _, _ => Int.le_refl _
  | p :: ps, a, ha, h => by
    have h1 := h p (List.mem_cons_self ..)
    have h2 : a * 1 ≤ a * p.2 := Int.mul_le_mul_of_nonneg_left h1.2 ha
    have h3 := numb_grow ps (a * p.2 + p.1) (by omega) fun q hq => h q (List.mem_cons_of_mem _ hq)
    simp only [List.foldl_cons]
    omega
theorem numb_mono (ps : List (Int × Int)) (k : Nat) (h : ∀ p ∈ ps, 0 ≤ p.1 ∧ 1 ≤ p.2) : numb (ps.take k) ≤ numb ps := by
  have e : numb ps = (ps.drop k).foldl (fun n p => n * p.2 + p.1) (numb (ps.take k)) := by
    unfold numb
    rw [← List.foldl_append, List.take_append_drop]
  rw [e]
  exact numb_grow _ _ (numb_grow _ 0 (Int.le_refl _) fun p hp => h p (List.mem_of_mem_take hp)) fun p hp => h p (List.mem_of_mem_drop hp)
theorem DigOk.pos {zs bs : List Int} (h : DigOk (zs.zip bs)) (hb : Bases bs) : ∀ p ∈ zs.zip bs, 0 ≤ p.1 ∧ 1 ≤ p.2 := fun p hp =>
  ⟨(h p hp).1, (hb.2 _ (List.of_mem_zip hp).2).1⟩

def impl_IsRising_A (v : Value) (n : Int) (zs : List Int) (w : World) : Nat → Ann := fun κ => match κ with
  | 0 => { σ := Nat, sli := [9], slc := fun s => [SV.v (Value.int .i64 (s : Int))], bxi := [], bxc := fun s => [], inv := fun s W => s ≤ zs.length ∧ Ext w W ∧ Rises n zs s, μ := fun s W => zs.length - s }
  | _ => { σ := Unit, sli := [], slc := fun _ => [], bxi := [], bxc := fun _ => [], inv := fun _ _ => False, μ := fun _ _ => 0 }
def impl_IsRising_vc (v : Value) (n : Int) (zs : List Int) (w : World) (Post : Value → World → Prop) : Prop :=
  LenV v (fun n1 => ((∃ s2 : Nat, (Value.int .i64 0) = (Value.int .i64 (s2 : Int)) ∧ (s2 ≤ zs.length ∧ Ext w w ∧ Rises n zs s2)) ∧ ∀ (s3 : Nat) (w4 : World), (s3 ≤ zs.length ∧ Ext w w4 ∧ Rises n zs s3) → ((((s3 : Int) < n1) → IxV 1 v (s3 : Int) (fun ad5 => ∃ n6 : Int, LdV w4 (Value.pointer (some ad5)) (Value.int .i64 n6) ∧ (((n6 < (0 : Int)) → Post (Value.bool false) w4) ∧ (¬ (n6 < (0 : Int)) → (((n ≤ n6) → Post (Value.bool false) w4) ∧ (¬ (n ≤ n6) → ((((0 : Int) < (s3 : Int)) → I64 ((s3 : Int) - 1) ∧ IxV 1 v ((s3 : Int) - 1) (fun ad7 => ∃ n8 : Int, LdV w4 (Value.pointer (some ad7)) (Value.int .i64 n8) ∧ (((n6 ≤ n8) → Post (Value.bool false) w4) ∧ (¬ (n6 ≤ n8) → I64 ((s3 : Int) + 1) ∧ ∃ s9 : Nat, (Value.int .i64 ((s3 : Int) + 1)) = (Value.int .i64 (s9 : Int)) ∧ (s9 ≤ zs.length ∧ Ext w w4 ∧ Rises n zs s9) ∧ (zs.length - s9) < (zs.length - s3))))) ∧ (¬ ((0 : Int) < (s3 : Int)) → I64 ((s3 : Int) + 1) ∧ ∃ s10 : Nat, (Value.int .i64 ((s3 : Int) + 1)) = (Value.int .i64 (s10 : Int)) ∧ (s10 ≤ zs.length ∧ Ext w w4 ∧ Rises n zs s10) ∧ (zs.length - s10) < (zs.length - s3))))))))) ∧ (¬ ((s3 : Int) < n1) → Post (Value.bool true) w4))))
theorem impl_IsRising_eq (v : Value) (n : Int) (zs : List Int) (w : World) (Post : Value → World → Prop) : denF Tryd.prog [] (impl_IsRising_A v n zs w) 110 [v, (Value.int .i64 n)] w Post = impl_IsRising_vc v n zs w Post := by kernel_rfl
set_option maxRecDepth 100000 in
theorem impl_IsRising_calls (v : Value) (n : Int) (zs : List Int) (w : World) (Post : Value → World → Prop) (hvc : impl_IsRising_vc v n zs w Post) : Ret Tryd.prog 110 #[v, (Value.int .i64 n)] w Post :=
  Ret.of (denF_sound mixed (Eq.mpr (impl_IsRising_eq v n zs w Post) hvc))

theorem impl_IsRising_val (v : Value) (n : Int) (zs : List Int) (w : World) (hv : RI w v zs) : Val Tryd.prog 110 #[v, .int .i64 n] w (.bool (decide (Rises n zs zs.length))) :=
  Ret.val (impl_IsRising_calls v n zs w _ (by
    unfold impl_IsRising_vc
    have hbd := hv.bound
    refine hv.len ⟨⟨0, rfl, Nat.zero_le _, .refl w, fun i hi => absurd hi (Nat.not_lt_zero i)⟩, ?_⟩
    rintro k w1 ⟨hk, h1, hr⟩
    refine ⟨fun hlt => ?_, fun hge => ⟨?_, h1⟩⟩
    · have hlt' : k < zs.length := by omega
      refine (hv.ext h1).get k rfl hlt' ?_
      have ek := getD_get hlt'
      have no : ¬ RiseAt n zs k → Value.bool false = Value.bool (decide (Rises n zs zs.length)) := fun hn => beq_val (decide_eq_false fun hh => hn (hh k hlt')).symm
      refine ⟨fun h => ⟨no fun hh => ?_, h1⟩, fun h => ⟨fun h' => ⟨no fun hh => ?_, h1⟩, fun h' => ⟨fun h0 => ⟨by unfold I64; omega, (hv.ext h1).get (k - 1) (by omega) (by omega) ⟨fun h2 => ⟨no fun hh => ?_, h1⟩, fun h2 => ⟨by unfold I64; omega, k + 1, rfl, ⟨hlt', h1, hr.succ ?_⟩, by omega⟩⟩⟩, fun h0 => ⟨by unfold I64; omega, k + 1, rfl, ⟨hlt', h1, hr.succ ?_⟩, by omega⟩⟩⟩⟩
      · have := hh.1; omega
      · have := hh.2.1; omega
      · have h3 := hh.2.2 (by omega)
        rw [getD_get (show k - 1 < zs.length by omega)] at h3
        omega
      · refine ⟨by omega, by omega, fun _ => ?_⟩
        rw [getD_get (show k - 1 < zs.length by omega)]
        omega
      · exact ⟨by omega, by omega, fun h4 => absurd h4 (by omega)⟩
    · have : k = zs.length := by omega
      subst this
      exact beq_val (decide_eq_true hr).symm))
end Go.Proofs
