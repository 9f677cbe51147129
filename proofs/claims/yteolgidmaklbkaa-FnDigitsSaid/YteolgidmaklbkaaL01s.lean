/- Contracts of the numbers' functions, of the reference. No condition. -/
import Derived.Test.YteolgidmaklbkaaL01
set_option linter.unusedVariables false
namespace Go.Proofs
open Go.Sx Go.RowKit

def spec_l01Is_vc (n : Int) (w : World) (Post : Value → World → Prop) : Prop :=
  Calls Try.prog 103 #[(Value.int .i64 n), (Value.int .i64 0), (Value.int .i64 1000000000000)] w (fun e1 w2 => ∃ b3 : Bool, e1 = .returned (Value.bool b3) ∧ Keeps w.heap.size [] w w2 ∧ Post (Value.bool b3) w2)
theorem spec_l01Is_eq (n : Int) (w : World) (Post : Value → World → Prop) : denF Try.prog [] noAnn 94 [(Value.int .i64 n)] w Post = spec_l01Is_vc n w Post := by kernel_rfl
set_option maxRecDepth 100000 in
theorem spec_l01Is_calls (n : Int) (w : World) (Post : Value → World → Prop) (hvc : spec_l01Is_vc n w Post) : Ret Try.prog 94 #[(Value.int .i64 n)] w Post :=
  Ret.of (denF_sound mixed (Eq.mpr (spec_l01Is_eq n w Post) hvc))

theorem spec_l01Is_val (n : Int) (w : World) : Val Try.prog 94 #[.int .i64 n] w (.bool (decide (0 ≤ n ∧ n ≤ Mx))) :=
  Ret.val (spec_l01Is_calls n w _ (by
    unfold spec_l01Is_vc
    exact (spec_l01In_val ..).call fun w1 h1 => ⟨_, rfl, h1.keeps, rfl, h1⟩))
def spec_l01Numbers_A (v : Value) (zs : List Int) (w : World) : Nat → Ann := fun κ => match κ with
  | 0 => { σ := Nat, sli := [3], slc := fun s => [SV.v (Value.int .i64 (s : Int))], bxi := [], bxc := fun s => [], inv := fun s W => s ≤ zs.length ∧ (∀ z ∈ zs.take s, 0 ≤ z ∧ z ≤ Mx) ∧ Ext w W, μ := fun s W => zs.length - s }
  | _ => { σ := Unit, sli := [], slc := fun _ => [], bxi := [], bxc := fun _ => [], inv := fun _ _ => False, μ := fun _ _ => 0 }
def spec_l01Numbers_vc (v : Value) (zs : List Int) (w : World) (Post : Value → World → Prop) : Prop :=
  ((∃ s1 : Nat, (Value.int .i64 0) = (Value.int .i64 (s1 : Int)) ∧ (s1 ≤ zs.length ∧ (∀ z ∈ zs.take s1, 0 ≤ z ∧ z ≤ Mx) ∧ Ext w w)) ∧ ∀ (s2 : Nat) (w3 : World), (s2 ≤ zs.length ∧ (∀ z ∈ zs.take s2, 0 ≤ z ∧ z ≤ Mx) ∧ Ext w w3) → LenV v (fun n4 => ((((s2 : Int) < n4) → IxV 1 v (s2 : Int) (fun ad5 => ∃ n6 : Int, LdV w3 (Value.pointer (some ad5)) (Value.int .i64 n6) ∧ Calls Try.prog 94 #[(Value.int .i64 n6)] w3 (fun e7 w8 => ∃ b9 : Bool, e7 = .returned (Value.bool b9) ∧ Keeps w.heap.size [] w3 w8 ∧ (((!b9) = true → Post (Value.bool false) w8) ∧ ((!b9) = false → I64 ((s2 : Int) + 1) ∧ ∃ s10 : Nat, (Value.int .i64 ((s2 : Int) + 1)) = (Value.int .i64 (s10 : Int)) ∧ (s10 ≤ zs.length ∧ (∀ z ∈ zs.take s10, 0 ≤ z ∧ z ≤ Mx) ∧ Ext w w8) ∧ (zs.length - s10) < (zs.length - s2)))))) ∧ (¬ ((s2 : Int) < n4) → LenV v (fun n11 => Post (Value.bool (decide (n11 ≤ (100 : Int)))) w3)))))
theorem spec_l01Numbers_eq (v : Value) (zs : List Int) (w : World) (Post : Value → World → Prop) : denF Try.prog [] (spec_l01Numbers_A v zs w) 113 [v] w Post = spec_l01Numbers_vc v zs w Post := by kernel_rfl
set_option maxRecDepth 100000 in
theorem spec_l01Numbers_calls (v : Value) (zs : List Int) (w : World) (Post : Value → World → Prop) (hvc : spec_l01Numbers_vc v zs w Post) : Ret Try.prog 113 #[v] w Post :=
  Ret.of (denF_sound mixed (Eq.mpr (spec_l01Numbers_eq v zs w Post) hvc))

theorem spec_l01Numbers_val (v : Value) (zs : List Int) (w : World) (hv : RI w v zs) : Val Try.prog 113 #[v] w (.bool (decide (Nums zs))) :=
  Ret.val (spec_l01Numbers_calls v zs w _ (by
    unfold spec_l01Numbers_vc
    have hbd := hv.bound
    refine ⟨⟨0, rfl, Nat.zero_le _, by simp, .refl w⟩, ?_⟩
    rintro k w1 ⟨hk, hall, h1⟩
    refine (hv.ext h1).len ⟨fun hlt => ?_, fun hge => (hv.ext h1).len ⟨?_, h1⟩⟩
    · have hlt' : k < zs.length := by omega
      refine (hv.ext h1).get k rfl hlt' ?_
      refine (spec_l01Is_val ..).call fun w2 h2 => ⟨_, rfl, h2.keeps, fun hb => ⟨?_, h1.trans h2⟩, fun hb => ⟨by unfold I64; omega, k + 1, rfl, ⟨hlt', ?_, h1.trans h2⟩, by omega⟩⟩
      · have hb := nd_t hb
        exact beq_val (decide_eq_false fun hh => hb (hh.2 _ (List.getElem_mem hlt'))).symm
      · exact all_take_succ hlt' hall (nd_f hb)
    · rw [take_all hge] at hall
      exact beq_val (decide_eq_decide.2 ⟨fun h => ⟨by omega, hall⟩, fun h => by have := h.1; omega⟩)))
def spec_l01Bases_A (v : Value) (zs : List Int) (w : World) : Nat → Ann := fun κ => match κ with
  | 0 => { σ := Nat, sli := [3], slc := fun s => [SV.v (Value.int .i64 (s : Int))], bxi := [], bxc := fun s => [], inv := fun s W => s ≤ zs.length ∧ (∀ z ∈ zs.take s, 1 ≤ z ∧ z ≤ 100) ∧ Ext w W, μ := fun s W => zs.length - s }
  | _ => { σ := Unit, sli := [], slc := fun _ => [], bxi := [], bxc := fun _ => [], inv := fun _ _ => False, μ := fun _ _ => 0 }
def spec_l01Bases_vc (v : Value) (zs : List Int) (w : World) (Post : Value → World → Prop) : Prop :=
  ((∃ s1 : Nat, (Value.int .i64 0) = (Value.int .i64 (s1 : Int)) ∧ (s1 ≤ zs.length ∧ (∀ z ∈ zs.take s1, 1 ≤ z ∧ z ≤ 100) ∧ Ext w w)) ∧ ∀ (s2 : Nat) (w3 : World), (s2 ≤ zs.length ∧ (∀ z ∈ zs.take s2, 1 ≤ z ∧ z ≤ 100) ∧ Ext w w3) → LenV v (fun n4 => ((((s2 : Int) < n4) → IxV 1 v (s2 : Int) (fun ad5 => ∃ n6 : Int, LdV w3 (Value.pointer (some ad5)) (Value.int .i64 n6) ∧ Calls Try.prog 103 #[(Value.int .i64 n6), (Value.int .i64 1), (Value.int .i64 100)] w3 (fun e7 w8 => ∃ b9 : Bool, e7 = .returned (Value.bool b9) ∧ Keeps w.heap.size [] w3 w8 ∧ (((!b9) = true → Post (Value.bool false) w8) ∧ ((!b9) = false → I64 ((s2 : Int) + 1) ∧ ∃ s10 : Nat, (Value.int .i64 ((s2 : Int) + 1)) = (Value.int .i64 (s10 : Int)) ∧ (s10 ≤ zs.length ∧ (∀ z ∈ zs.take s10, 1 ≤ z ∧ z ≤ 100) ∧ Ext w w8) ∧ (zs.length - s10) < (zs.length - s2)))))) ∧ (¬ ((s2 : Int) < n4) → LenV v (fun n11 => Post (Value.bool (decide (n11 ≤ (100 : Int)))) w3)))))
theorem spec_l01Bases_eq (v : Value) (zs : List Int) (w : World) (Post : Value → World → Prop) : denF Try.prog [] (spec_l01Bases_A v zs w) 95 [v] w Post = spec_l01Bases_vc v zs w Post := by kernel_rfl
set_option maxRecDepth 100000 in
theorem spec_l01Bases_calls (v : Value) (zs : List Int) (w : World) (Post : Value → World → Prop) (hvc : spec_l01Bases_vc v zs w Post) : Ret Try.prog 95 #[v] w Post :=
  Ret.of (denF_sound mixed (Eq.mpr (spec_l01Bases_eq v zs w Post) hvc))

theorem spec_l01Bases_val (v : Value) (zs : List Int) (w : World) (hv : RI w v zs) : Val Try.prog 95 #[v] w (.bool (decide (Bases zs))) :=
  Ret.val (spec_l01Bases_calls v zs w _ (by
    unfold spec_l01Bases_vc
    have hbd := hv.bound
    refine ⟨⟨0, rfl, Nat.zero_le _, by simp, .refl w⟩, ?_⟩
    rintro k w1 ⟨hk, hall, h1⟩
    refine (hv.ext h1).len ⟨fun hlt => ?_, fun hge => (hv.ext h1).len ⟨?_, h1⟩⟩
    · have hlt' : k < zs.length := by omega
      refine (hv.ext h1).get k rfl hlt' ?_
      refine (spec_l01In_val ..).call fun w2 h2 => ⟨_, rfl, h2.keeps, fun hb => ⟨?_, h1.trans h2⟩, fun hb => ⟨by unfold I64; omega, k + 1, rfl, ⟨hlt', ?_, h1.trans h2⟩, by omega⟩⟩
      · have hb := nd_t hb
        exact beq_val (decide_eq_false fun hh => hb (hh.2 _ (List.getElem_mem hlt'))).symm
      · exact all_take_succ hlt' hall (nd_f hb)
    · rw [take_all hge] at hall
      exact beq_val (decide_eq_decide.2 ⟨fun h => ⟨by omega, hall⟩, fun h => by have := h.1; omega⟩)))
def spec_l01Cut_vc (a : Int) (b : Int) (w : World) (Post : Value → World → Prop) : Prop :=
  ((((0 : Int) < a) → 0 ≤ (1000000000000 : Int) ∧ I64 1000000000000 ∧ 0 < a ∧ ((((1000000000000 / a) < b) → Post (Value.int .i64 1000000000001) w) ∧ (¬ ((1000000000000 / a) < b) → I64 (a * b) ∧ Post (Value.int .i64 (a * b)) w))) ∧ (¬ ((0 : Int) < a) → I64 (a * b) ∧ Post (Value.int .i64 (a * b)) w))
theorem spec_l01Cut_eq (a : Int) (b : Int) (w : World) (Post : Value → World → Prop) : denF Try.prog [] noAnn 108 [(Value.int .i64 a), (Value.int .i64 b)] w Post = spec_l01Cut_vc a b w Post := by kernel_rfl
set_option maxRecDepth 100000 in
theorem spec_l01Cut_calls (a : Int) (b : Int) (w : World) (Post : Value → World → Prop) (hvc : spec_l01Cut_vc a b w Post) : Ret Try.prog 108 #[(Value.int .i64 a), (Value.int .i64 b)] w Post :=
  Ret.of (denF_sound mixed (Eq.mpr (spec_l01Cut_eq a b w Post) hvc))

theorem spec_l01Cut_val (a b : Int) (w : World) (ha : 0 ≤ a) (ha' : a ≤ Mx + 1) (hb : 0 ≤ b) (hb' : b ≤ Mx) : Val Try.prog 108 #[.int .i64 a, .int .i64 b] w (.int .i64 (cut a b)) :=
  Ret.val (spec_l01Cut_calls a b w _ (by
    unfold spec_l01Cut_vc
    have hc := cut_range ha ha' hb hb'
    refine ⟨fun h0 => ⟨by omega, by unfold I64; omega, h0, fun h1 => ⟨?_, .refl w⟩, fun h1 => ?_⟩, fun h0 => ?_⟩
    · exact ieq (by unfold cut; rw [if_pos ⟨h0, h1⟩]; rfl)
    · have e : cut a b = a * b := by unfold cut; rw [if_neg fun h => h1 h.2]
      rw [e] at hc
      exact ⟨by unfold I64; simp only [Mx] at hc; omega, ieq e.symm, .refl w⟩
    · have e : cut a b = a * b := by unfold cut; rw [if_neg fun h => h0 h.1]
      rw [e] at hc
      exact ⟨by unfold I64; simp only [Mx] at hc; omega, ieq e.symm, .refl w⟩))
def spec_l01Result_vc (n : Int) (w : World) (Post : Value → World → Prop) : Prop :=
  ((((1000000000000 : Int) < n) → Post (Value.tuple #[(Value.int .i64 0), (Value.int .i64 3)]) w) ∧ (¬ ((1000000000000 : Int) < n) → Post (Value.tuple #[(Value.int .i64 n), (Value.int .i64 0)]) w))
theorem spec_l01Result_eq (n : Int) (w : World) (Post : Value → World → Prop) : denF Try.prog [] noAnn 104 [(Value.int .i64 n)] w Post = spec_l01Result_vc n w Post := by kernel_rfl
set_option maxRecDepth 100000 in
theorem spec_l01Result_calls (n : Int) (w : World) (Post : Value → World → Prop) (hvc : spec_l01Result_vc n w Post) : Ret Try.prog 104 #[(Value.int .i64 n)] w Post :=
  Ret.of (denF_sound mixed (Eq.mpr (spec_l01Result_eq n w Post) hvc))

theorem spec_l01Result_val (n : Int) (w : World) : Val Try.prog 104 #[.int .i64 n] w (lim n) :=
  Ret.val (spec_l01Result_calls n w _ (by
    unfold spec_l01Result_vc
    refine ⟨fun h => ⟨by unfold lim; rw [if_pos h], .refl w⟩, fun h => ⟨by unfold lim; rw [if_neg h], .refl w⟩⟩))
def spec_l01Has_A (v : Value) (x : Int) (zs : List Int) (w : World) : Nat → Ann := fun κ => match κ with
  | 0 => { σ := Nat, sli := [5], slc := fun s => [SV.v (Value.int .i64 (s : Int))], bxi := [], bxc := fun s => [], inv := fun s W => s ≤ zs.length ∧ (∀ z ∈ zs.take s, z ≠ x) ∧ Ext w W, μ := fun s W => zs.length - s }
  | _ => { σ := Unit, sli := [], slc := fun _ => [], bxi := [], bxc := fun _ => [], inv := fun _ _ => False, μ := fun _ _ => 0 }
def spec_l01Has_vc (v : Value) (x : Int) (zs : List Int) (w : World) (Post : Value → World → Prop) : Prop :=
  ((∃ s1 : Nat, (Value.int .i64 0) = (Value.int .i64 (s1 : Int)) ∧ (s1 ≤ zs.length ∧ (∀ z ∈ zs.take s1, z ≠ x) ∧ Ext w w)) ∧ ∀ (s2 : Nat) (w3 : World), (s2 ≤ zs.length ∧ (∀ z ∈ zs.take s2, z ≠ x) ∧ Ext w w3) → LenV v (fun n4 => ((((s2 : Int) < n4) → IxV 1 v (s2 : Int) (fun ad5 => ∃ n6 : Int, LdV w3 (Value.pointer (some ad5)) (Value.int .i64 n6) ∧ (((n6 = x) → Post (Value.bool true) w3) ∧ (¬ (n6 = x) → I64 ((s2 : Int) + 1) ∧ ∃ s7 : Nat, (Value.int .i64 ((s2 : Int) + 1)) = (Value.int .i64 (s7 : Int)) ∧ (s7 ≤ zs.length ∧ (∀ z ∈ zs.take s7, z ≠ x) ∧ Ext w w3) ∧ (zs.length - s7) < (zs.length - s2))))) ∧ (¬ ((s2 : Int) < n4) → Post (Value.bool false) w3))))
theorem spec_l01Has_eq (v : Value) (x : Int) (zs : List Int) (w : World) (Post : Value → World → Prop) : denF Try.prog [] (spec_l01Has_A v x zs w) 114 [v, (Value.int .i64 x)] w Post = spec_l01Has_vc v x zs w Post := by kernel_rfl
set_option maxRecDepth 100000 in
theorem spec_l01Has_calls (v : Value) (x : Int) (zs : List Int) (w : World) (Post : Value → World → Prop) (hvc : spec_l01Has_vc v x zs w Post) : Ret Try.prog 114 #[v, (Value.int .i64 x)] w Post :=
  Ret.of (denF_sound mixed (Eq.mpr (spec_l01Has_eq v x zs w Post) hvc))

theorem spec_l01Has_val (v : Value) (x : Int) (zs : List Int) (w : World) (hv : RI w v zs) : Val Try.prog 114 #[v, .int .i64 x] w (.bool (decide (x ∈ zs))) :=
  Ret.val (spec_l01Has_calls v x zs w _ (by
    unfold spec_l01Has_vc
    have hbd := hv.bound
    refine ⟨⟨0, rfl, Nat.zero_le _, by simp, .refl w⟩, ?_⟩
    rintro k w1 ⟨hk, hn, h1⟩
    refine (hv.ext h1).len ⟨fun hlt => ?_, fun hge => ⟨?_, h1⟩⟩
    · have hlt' : k < zs.length := by omega
      refine (hv.ext h1).get k rfl hlt' ⟨fun h => ⟨beq_val (decide_eq_true (h ▸ List.getElem_mem hlt')).symm, h1⟩, fun h => ⟨by unfold I64; omega, k + 1, rfl, ⟨hlt', all_take_succ hlt' hn h, h1⟩, by omega⟩⟩
    · rw [take_all hge] at hn
      exact beq_val (decide_eq_false fun h => hn x h rfl).symm))
def spec_l01Sum_A (v : Value) (zs : List Int) (w : World) : Nat → Ann := fun κ => match κ with
  | 0 => { σ := Nat, sli := [3, 4], slc := fun s => [SV.v (Value.int .i64 ((zs.take s).sum)), SV.v (Value.int .i64 (s : Int))], bxi := [], bxc := fun s => [], inv := fun s W => s ≤ zs.length ∧ Ext w W, μ := fun s W => zs.length - s }
  | _ => { σ := Unit, sli := [], slc := fun _ => [], bxi := [], bxc := fun _ => [], inv := fun _ _ => False, μ := fun _ _ => 0 }
def spec_l01Sum_vc (v : Value) (zs : List Int) (w : World) (Post : Value → World → Prop) : Prop :=
  ((∃ s1 : Nat, (Value.int .i64 0) = (Value.int .i64 ((zs.take s1).sum)) ∧ (Value.int .i64 0) = (Value.int .i64 (s1 : Int)) ∧ (s1 ≤ zs.length ∧ Ext w w)) ∧ ∀ (s2 : Nat) (w3 : World), (s2 ≤ zs.length ∧ Ext w w3) → LenV v (fun n4 => ((((s2 : Int) < n4) → IxV 1 v (s2 : Int) (fun ad5 => ∃ n6 : Int, LdV w3 (Value.pointer (some ad5)) (Value.int .i64 n6) ∧ I64 (((zs.take s2).sum) + n6) ∧ I64 ((s2 : Int) + 1) ∧ ∃ s7 : Nat, (Value.int .i64 (((zs.take s2).sum) + n6)) = (Value.int .i64 ((zs.take s7).sum)) ∧ (Value.int .i64 ((s2 : Int) + 1)) = (Value.int .i64 (s7 : Int)) ∧ (s7 ≤ zs.length ∧ Ext w w3) ∧ (zs.length - s7) < (zs.length - s2))) ∧ (¬ ((s2 : Int) < n4) → Post (Value.int .i64 ((zs.take s2).sum)) w3))))
theorem spec_l01Sum_eq (v : Value) (zs : List Int) (w : World) (Post : Value → World → Prop) : denF Try.prog [] (spec_l01Sum_A v zs w) 116 [v] w Post = spec_l01Sum_vc v zs w Post := by kernel_rfl
set_option maxRecDepth 100000 in
theorem spec_l01Sum_calls (v : Value) (zs : List Int) (w : World) (Post : Value → World → Prop) (hvc : spec_l01Sum_vc v zs w Post) : Ret Try.prog 116 #[v] w Post :=
  Ret.of (denF_sound mixed (Eq.mpr (spec_l01Sum_eq v zs w Post) hvc))

theorem spec_l01Sum_val (v : Value) (zs : List Int) (w : World) (hv : RI w v zs) (hn : Nums zs) : Val Try.prog 116 #[v] w (.int .i64 zs.sum) :=
  Ret.val (spec_l01Sum_calls v zs w _ (by
    unfold spec_l01Sum_vc
    obtain ⟨hl, hn⟩ := hn
    refine ⟨⟨0, rfl, rfl, Nat.zero_le _, .refl w⟩, ?_⟩
    rintro k w1 ⟨hk, h1⟩
    refine (hv.ext h1).len ⟨fun hlt => ?_, fun hge => ⟨?_, h1⟩⟩
    · have hlt' : k < zs.length := by omega
      refine (hv.ext h1).get k rfl hlt' ?_
      have h2 := sum_range (zs := zs.take (k + 1)) fun z hz => hn z (List.mem_of_mem_take hz)
      rw [sum_take_succ zs k hlt', List.length_take] at h2
      simp only [Mx] at h2
      exact ⟨by unfold I64; omega, by unfold I64; omega, k + 1, ieq (sum_take_succ zs k hlt').symm, rfl, ⟨hlt', h1⟩, by omega⟩
    · rw [take_all hge]))
def spec_SumOf_vc (v : Value) (zs : List Int) (w : World) (Post : Value → World → Prop) : Prop :=
  Calls Try.prog 113 #[v] w (fun e1 w2 => ∃ b3 : Bool, e1 = .returned (Value.bool b3) ∧ Keeps w.heap.size [] w w2 ∧ (((!b3) = true → Post (Value.tuple #[(Value.int .i64 0), (Value.int .i64 2)]) w2) ∧ ((!b3) = false → Calls Try.prog 116 #[v] w2 (fun e4 w5 => ∃ n6 : Int, e4 = .returned (Value.int .i64 n6) ∧ Keeps w.heap.size [] w2 w5 ∧ Calls Try.prog 104 #[(Value.int .i64 n6)] w5 (fun e7 w8 => ∃ n9 : Int, ∃ n10 : Int, e7 = .returned (Value.tuple #[(Value.int .i64 n9), (Value.int .i64 n10)]) ∧ Keeps w.heap.size [] w5 w8 ∧ Post (Value.tuple #[(Value.int .i64 n9), (Value.int .i64 n10)]) w8)))))
theorem spec_SumOf_eq (v : Value) (zs : List Int) (w : World) (Post : Value → World → Prop) : denF Try.prog [] noAnn 41 [v] w Post = spec_SumOf_vc v zs w Post := by kernel_rfl
set_option maxRecDepth 100000 in
theorem spec_SumOf_calls (v : Value) (zs : List Int) (w : World) (Post : Value → World → Prop) (hvc : spec_SumOf_vc v zs w Post) : Ret Try.prog 41 #[v] w Post :=
  Ret.of (denF_sound mixed (Eq.mpr (spec_SumOf_eq v zs w Post) hvc))

theorem spec_SumOf_val (v : Value) (zs : List Int) (w : World) (hv : RI w v zs) : Val Try.prog 41 #[v] w (sumR zs) :=
  Ret.val (spec_SumOf_calls v zs w _ (by
    unfold spec_SumOf_vc
    refine (spec_l01Numbers_val _ zs _ hv).call fun w1 h1 => ⟨_, rfl, h1.keeps, fun hb => ⟨?_, h1⟩, fun hb => ?_⟩
    · unfold sumR; rw [if_neg (nd_t hb)]; rfl
    · have hb := nd_f hb
      refine (spec_l01Sum_val _ zs _ (hv.ext h1) hb).call fun w2 h2 => ⟨_, rfl, h2.keeps, ?_⟩
      obtain ⟨x, y, e⟩ := lim_pair zs.sum
      refine (spec_l01Result_val ..).call fun w3 h3 => ⟨x, y, by rw [e], h3.keeps, ?_, (h1.trans h2).trans h3⟩
      unfold sumR; rw [if_pos hb, e]))
def spec_ProductOf_A (v : Value) (zs : List Int) (w : World) : Nat → Ann := fun κ => match κ with
  | 0 => { σ := Nat, sli := [5, 4], slc := fun s => [SV.v (Value.int .i64 (s : Int)), SV.v (Value.int .i64 (pcut (zs.take s)))], bxi := [], bxc := fun s => [], inv := fun s W => s ≤ zs.length ∧ Ext w W, μ := fun s W => zs.length - s }
  | _ => { σ := Unit, sli := [], slc := fun _ => [], bxi := [], bxc := fun _ => [], inv := fun _ _ => False, μ := fun _ _ => 0 }
def spec_ProductOf_vc (v : Value) (zs : List Int) (w : World) (Post : Value → World → Prop) : Prop :=
  Calls Try.prog 113 #[v] w (fun e1 w2 => ∃ b3 : Bool, e1 = .returned (Value.bool b3) ∧ Keeps w.heap.size [] w w2 ∧ (((!b3) = true → Post (Value.tuple #[(Value.int .i64 0), (Value.int .i64 2)]) w2) ∧ ((!b3) = false → Calls Try.prog 114 #[v, (Value.int .i64 0)] w2 (fun e4 w5 => ∃ b6 : Bool, e4 = .returned (Value.bool b6) ∧ Keeps w.heap.size [] w2 w5 ∧ ((b6 = true → Post (Value.tuple #[(Value.int .i64 0), (Value.int .i64 0)]) w5) ∧ (b6 = false → ((∃ s7 : Nat, (Value.int .i64 0) = (Value.int .i64 (s7 : Int)) ∧ (Value.int .i64 1) = (Value.int .i64 (pcut (zs.take s7))) ∧ (s7 ≤ zs.length ∧ Ext w w5)) ∧ ∀ (s8 : Nat) (w9 : World), (s8 ≤ zs.length ∧ Ext w w9) → LenV v (fun n10 => ((((s8 : Int) < n10) → IxV 1 v (s8 : Int) (fun ad11 => ∃ n12 : Int, LdV w9 (Value.pointer (some ad11)) (Value.int .i64 n12) ∧ Calls Try.prog 108 #[(Value.int .i64 (pcut (zs.take s8))), (Value.int .i64 n12)] w9 (fun e13 w14 => ∃ n15 : Int, e13 = .returned (Value.int .i64 n15) ∧ Keeps w.heap.size [] w9 w14 ∧ I64 ((s8 : Int) + 1) ∧ ∃ s16 : Nat, (Value.int .i64 ((s8 : Int) + 1)) = (Value.int .i64 (s16 : Int)) ∧ (Value.int .i64 n15) = (Value.int .i64 (pcut (zs.take s16))) ∧ (s16 ≤ zs.length ∧ Ext w w14) ∧ (zs.length - s16) < (zs.length - s8)))) ∧ (¬ ((s8 : Int) < n10) → Calls Try.prog 104 #[(Value.int .i64 (pcut (zs.take s8)))] w9 (fun e17 w18 => ∃ n19 : Int, ∃ n20 : Int, e17 = .returned (Value.tuple #[(Value.int .i64 n19), (Value.int .i64 n20)]) ∧ Keeps w.heap.size [] w9 w18 ∧ Post (Value.tuple #[(Value.int .i64 n19), (Value.int .i64 n20)]) w18)))))))))))
theorem spec_ProductOf_eq (v : Value) (zs : List Int) (w : World) (Post : Value → World → Prop) : denF Try.prog [] (spec_ProductOf_A v zs w) 35 [v] w Post = spec_ProductOf_vc v zs w Post := by kernel_rfl
set_option maxRecDepth 100000 in
theorem spec_ProductOf_calls (v : Value) (zs : List Int) (w : World) (Post : Value → World → Prop) (hvc : spec_ProductOf_vc v zs w Post) : Ret Try.prog 35 #[v] w Post :=
  Ret.of (denF_sound mixed (Eq.mpr (spec_ProductOf_eq v zs w Post) hvc))

theorem spec_ProductOf_val (v : Value) (zs : List Int) (w : World) (hv : RI w v zs) : Val Try.prog 35 #[v] w (prodR zs) :=
  Ret.val (spec_ProductOf_calls v zs w _ (by
    unfold spec_ProductOf_vc
    have hbd := hv.bound
    refine (spec_l01Numbers_val _ zs _ hv).call fun w1 h1 => ⟨_, rfl, h1.keeps, fun hb => ⟨?_, h1⟩, fun hb => ?_⟩
    · unfold prodR; rw [if_neg (nd_t hb)]; rfl
    have hn := nd_f hb
    refine (spec_l01Has_val _ _ zs _ (hv.ext h1)).call fun w2 h2 => ⟨_, rfl, h2.keeps, fun hb => ⟨?_, h1.trans h2⟩, fun hb => ?_⟩
    · unfold prodR; rw [if_pos hn, if_pos (of_decide_eq_true hb)]
    have h0 := of_decide_eq_false hb
    refine ⟨⟨0, rfl, rfl, Nat.zero_le _, h1.trans h2⟩, ?_⟩
    rintro k w3 ⟨hk, h3⟩
    have hr := pcut_range (zs := zs.take k) fun z hz => hn.2 z (List.mem_of_mem_take hz)
    refine (hv.ext h3).len ⟨fun hlt => ?_, fun hge => ?_⟩
    · have hlt' : k < zs.length := by omega
      refine (hv.ext h3).get k rfl hlt' ?_
      have hz := hn.2 _ (List.getElem_mem hlt')
      refine (spec_l01Cut_val _ _ _ hr.1 hr.2 hz.1 hz.2).call fun w4 h4 => ⟨_, rfl, h4.keeps, by unfold I64; omega, k + 1, rfl, by rw [pcut_snoc zs k hlt'], ⟨hlt', h3.trans h4⟩, by omega⟩
    · obtain ⟨x, y, e⟩ := lim_pair (pcut (zs.take k))
      refine (spec_l01Result_val ..).call fun w4 h4 => ⟨x, y, by rw [e], h4.keeps, ?_, h3.trans h4⟩
      rw [take_all hge] at e
      unfold prodR; rw [if_pos hn, if_neg h0, e]))
def spec_PowerOf_A (a : Int) (b : Int) (w : World) : Nat → Ann := fun κ => match κ with
  | 0 => { σ := Nat, sli := [1, 6], slc := fun s => [SV.v (Value.int .i64 (b - (s : Int))), SV.v (Value.int .i64 (pow a s))], bxi := [], bxc := fun s => [], inv := fun s W => (s : Int) ≤ b ∧ Ext w W, μ := fun s W => b.toNat - s }
  | _ => { σ := Unit, sli := [], slc := fun _ => [], bxi := [], bxc := fun _ => [], inv := fun _ _ => False, μ := fun _ _ => 0 }
def spec_PowerOf_vc (a : Int) (b : Int) (w : World) (Post : Value → World → Prop) : Prop :=
  Calls Try.prog 94 #[(Value.int .i64 a)] w (fun e1 w2 => ∃ b3 : Bool, e1 = .returned (Value.bool b3) ∧ Keeps w.heap.size [] w w2 ∧ (((!b3) = true → Post (Value.tuple #[(Value.int .i64 0), (Value.int .i64 2)]) w2) ∧ ((!b3) = false → Calls Try.prog 103 #[(Value.int .i64 b), (Value.int .i64 0), (Value.int .i64 60)] w2 (fun e4 w5 => ∃ b6 : Bool, e4 = .returned (Value.bool b6) ∧ Keeps w.heap.size [] w2 w5 ∧ (((!b6) = true → Post (Value.tuple #[(Value.int .i64 0), (Value.int .i64 2)]) w5) ∧ ((!b6) = false → ((∃ s7 : Nat, (Value.int .i64 b) = (Value.int .i64 (b - (s7 : Int))) ∧ (Value.int .i64 1) = (Value.int .i64 (pow a s7)) ∧ ((s7 : Int) ≤ b ∧ Ext w w5)) ∧ ∀ (s8 : Nat) (w9 : World), ((s8 : Int) ≤ b ∧ Ext w w9) → ((((0 : Int) < (b - (s8 : Int))) → Calls Try.prog 108 #[(Value.int .i64 (pow a s8)), (Value.int .i64 a)] w9 (fun e10 w11 => ∃ n12 : Int, e10 = .returned (Value.int .i64 n12) ∧ Keeps w.heap.size [] w9 w11 ∧ I64 ((b - (s8 : Int)) - 1) ∧ ∃ s13 : Nat, (Value.int .i64 ((b - (s8 : Int)) - 1)) = (Value.int .i64 (b - (s13 : Int))) ∧ (Value.int .i64 n12) = (Value.int .i64 (pow a s13)) ∧ ((s13 : Int) ≤ b ∧ Ext w w11) ∧ (b.toNat - s13) < (b.toNat - s8))) ∧ (¬ ((0 : Int) < (b - (s8 : Int))) → Calls Try.prog 104 #[(Value.int .i64 (pow a s8))] w9 (fun e14 w15 => ∃ n16 : Int, ∃ n17 : Int, e14 = .returned (Value.tuple #[(Value.int .i64 n16), (Value.int .i64 n17)]) ∧ Keeps w.heap.size [] w9 w15 ∧ Post (Value.tuple #[(Value.int .i64 n16), (Value.int .i64 n17)]) w15))))))))))
theorem spec_PowerOf_eq (a : Int) (b : Int) (w : World) (Post : Value → World → Prop) : denF Try.prog [] (spec_PowerOf_A a b w) 38 [(Value.int .i64 a), (Value.int .i64 b)] w Post = spec_PowerOf_vc a b w Post := by kernel_rfl
set_option maxRecDepth 100000 in
theorem spec_PowerOf_calls (a : Int) (b : Int) (w : World) (Post : Value → World → Prop) (hvc : spec_PowerOf_vc a b w Post) : Ret Try.prog 38 #[(Value.int .i64 a), (Value.int .i64 b)] w Post :=
  Ret.of (denF_sound mixed (Eq.mpr (spec_PowerOf_eq a b w Post) hvc))

theorem spec_PowerOf_val (a b : Int) (w : World) : Val Try.prog 38 #[.int .i64 a, .int .i64 b] w (powR a b) :=
  Ret.val (spec_PowerOf_calls a b w _ (by
    unfold spec_PowerOf_vc
    refine (spec_l01Is_val ..).call fun w1 h1 => ⟨_, rfl, h1.keeps, fun hb => ⟨?_, h1⟩, fun hb => ?_⟩
    · unfold powR; rw [if_neg fun h => nd_t hb h.1]; rfl
    have ha := nd_f hb
    refine (spec_l01In_val ..).call fun w2 h2 => ⟨_, rfl, h2.keeps, fun hb => ⟨?_, h1.trans h2⟩, fun hb => ?_⟩
    · unfold powR; rw [if_neg fun h => nd_t hb h.2]; rfl
    have hb := nd_f hb
    refine ⟨⟨0, ieq (by omega), rfl, by omega, h1.trans h2⟩, ?_⟩
    rintro k w3 ⟨hk, h3⟩
    refine ⟨fun hlt => ?_, fun hge => ?_⟩
    · have hr := pow_range ha k
      refine (spec_l01Cut_val _ _ _ hr.1 hr.2 ha.1 ha.2).call fun w4 h4 => ⟨_, rfl, h4.keeps, by unfold I64; omega, k + 1, ieq (by omega), rfl, ⟨by omega, h3.trans h4⟩, by omega⟩
    · obtain ⟨x, y, e⟩ := lim_pair (pow a k)
      refine (spec_l01Result_val ..).call fun w4 h4 => ⟨x, y, by rw [e], h4.keeps, ?_, h3.trans h4⟩
      have hbk : b.toNat = k := by omega
      unfold powR; rw [if_pos ⟨ha, hb⟩, hbk, e]))
def spec_NumberOf_A (v : Value) (u : Value) (zs bs : List Int) (w : World) : Nat → Ann := fun κ => match κ with
  | 0 => { σ := Nat, sli := [7, 6], slc := fun s => [SV.v (Value.int .i64 (s : Int)), SV.v (Value.int .i64 (min (Mx + 1) (numb ((zs.zip bs).take s))))], bxi := [], bxc := fun s => [], inv := fun s W => s ≤ zs.length ∧ Ext w W ∧ DigOk ((zs.zip bs).take s), μ := fun s W => zs.length - s }
  | _ => { σ := Unit, sli := [], slc := fun _ => [], bxi := [], bxc := fun _ => [], inv := fun _ _ => False, μ := fun _ _ => 0 }
def spec_NumberOf_vc (v : Value) (u : Value) (zs bs : List Int) (w : World) (Post : Value → World → Prop) : Prop :=
  LenV v (fun n1 => LenV u (fun n2 => (((n1 ≠ n2) → Post (Value.tuple #[(Value.int .i64 0), (Value.int .i64 2)]) w) ∧ (¬ (n1 ≠ n2) → Calls Try.prog 95 #[u] w (fun e3 w4 => ∃ b5 : Bool, e3 = .returned (Value.bool b5) ∧ Keeps w.heap.size [] w w4 ∧ (((!b5) = true → Post (Value.tuple #[(Value.int .i64 0), (Value.int .i64 2)]) w4) ∧ ((!b5) = false → ((∃ s6 : Nat, (Value.int .i64 0) = (Value.int .i64 (s6 : Int)) ∧ (Value.int .i64 0) = (Value.int .i64 (min (Mx + 1) (numb ((zs.zip bs).take s6)))) ∧ (s6 ≤ zs.length ∧ Ext w w4 ∧ DigOk ((zs.zip bs).take s6))) ∧ ∀ (s7 : Nat) (w8 : World), (s7 ≤ zs.length ∧ Ext w w8 ∧ DigOk ((zs.zip bs).take s7)) → LenV v (fun n9 => ((((s7 : Int) < n9) → IxV 1 v (s7 : Int) (fun ad10 => ∃ n11 : Int, LdV w8 (Value.pointer (some ad10)) (Value.int .i64 n11) ∧ IxV 1 u (s7 : Int) (fun ad12 => ∃ n13 : Int, LdV w8 (Value.pointer (some ad12)) (Value.int .i64 n13) ∧ I64 (n13 - 1) ∧ ∃ b17 : Bool, (∀ w14 : World, Ext w8 w14 → Calls Try.prog 103 #[(Value.int .i64 n11), (Value.int .i64 0), (Value.int .i64 (n13 - 1))] w14 (fun e15 w16 => e15 = .returned (Value.bool b17) ∧ Ext w14 w16)) ∧ ∀ w18 : World, Ext w8 w18 → (((!b17) = true → Post (Value.tuple #[(Value.int .i64 0), (Value.int .i64 2)]) w18) ∧ ((!b17) = false → IxV 1 u (s7 : Int) (fun ad19 => ∃ n20 : Int, LdV w18 (Value.pointer (some ad19)) (Value.int .i64 n20) ∧ ∃ n24 : Int, (∀ w21 : World, Ext w18 w21 → Calls Try.prog 108 #[(Value.int .i64 (min (Mx + 1) (numb ((zs.zip bs).take s7)))), (Value.int .i64 n20)] w21 (fun e22 w23 => e22 = .returned (Value.int .i64 n24) ∧ Ext w21 w23)) ∧ IxV 1 v (s7 : Int) (fun ad25 => ∃ n26 : Int, LdV w18 (Value.pointer (some ad25)) (Value.int .i64 n26) ∧ I64 (n24 + n26) ∧ ∀ w27 : World, Ext w18 w27 → I64 ((s7 : Int) + 1) ∧ ∃ s28 : Nat, (Value.int .i64 ((s7 : Int) + 1)) = (Value.int .i64 (s28 : Int)) ∧ (Value.int .i64 (min 1000000000001 (n24 + n26))) = (Value.int .i64 (min (Mx + 1) (numb ((zs.zip bs).take s28)))) ∧ (s28 ≤ zs.length ∧ Ext w w27 ∧ DigOk ((zs.zip bs).take s28)) ∧ (zs.length - s28) < (zs.length - s7)))))))) ∧ (¬ ((s7 : Int) < n9) → Calls Try.prog 104 #[(Value.int .i64 (min (Mx + 1) (numb ((zs.zip bs).take s7))))] w8 (fun e29 w30 => ∃ n31 : Int, ∃ n32 : Int, e29 = .returned (Value.tuple #[(Value.int .i64 n31), (Value.int .i64 n32)]) ∧ Keeps w.heap.size [] w8 w30 ∧ Post (Value.tuple #[(Value.int .i64 n31), (Value.int .i64 n32)]) w30))))))))))))
theorem spec_NumberOf_eq (v : Value) (u : Value) (zs bs : List Int) (w : World) (Post : Value → World → Prop) : denF Try.prog [] (spec_NumberOf_A v u zs bs w) 31 [v, u] w Post = spec_NumberOf_vc v u zs bs w Post := by kernel_rfl
set_option maxRecDepth 100000 in
theorem spec_NumberOf_calls (v : Value) (u : Value) (zs bs : List Int) (w : World) (Post : Value → World → Prop) (hvc : spec_NumberOf_vc v u zs bs w Post) : Ret Try.prog 31 #[v, u] w Post :=
  Ret.of (denF_sound mixed (Eq.mpr (spec_NumberOf_eq v u zs bs w Post) hvc))

theorem min_step {n b d : Int} (hn : 0 ≤ n) (hb : 1 ≤ b) (hb' : b ≤ 100) (hd : 0 ≤ d) : min (Mx + 1) (cut (min (Mx + 1) n) b + d) = min (Mx + 1) (n * b + d) := by
  have hmul : n ≤ n * b := by
    have := Int.mul_le_mul_of_nonneg_left hb hn
    omega
  rcases Int.lt_or_le Mx n with h | h
  · have e : min (Mx + 1) n = Mx + 1 := by omega
    have hc : Mx + 1 ≤ cut (Mx + 1) b := by
      unfold cut
      split
      · exact Int.le_refl _
      · have := Int.mul_le_mul_of_nonneg_left hb (show (0 : Int) ≤ Mx + 1 by decide)
        omega
    rw [e]
    omega
  · have e : min (Mx + 1) n = n := by omega
    rw [e]
    unfold cut
    split
    · rename_i h2
      have : Mx < n * b := by
        have := (Int.ediv_lt_iff_lt_mul h2.1).1 h2.2
        rwa [Int.mul_comm] at this
      omega
    · rfl
theorem numb_nonneg (ps : List (Int × Int)) (h : ∀ p ∈ ps, 0 ≤ p.1 ∧ 1 ≤ p.2) : 0 ≤ numb ps := numb_grow _ 0 (Int.le_refl _) h
theorem lim_min {n : Int} : lim (min (Mx + 1) n) = lim n := by
  unfold lim
  rcases Int.lt_or_le Mx n with h | h
  · rw [if_pos h, if_pos (by omega)]
  · rw [if_neg (by omega), if_neg (by omega), show min (Mx + 1) n = n by omega]
theorem spec_NumberOf_val (v u : Value) (zs bs : List Int) (w : World) (hv : RI w v zs) (hu : RI w u bs) : Val Try.prog 31 #[v, u] w (numR zs bs) :=
  Ret.val (spec_NumberOf_calls v u zs bs w _ (by
    unfold spec_NumberOf_vc
    have hbd := hv.bound
    refine hv.len (hu.len ⟨fun hne => ⟨?_, .refl w⟩, fun heq => ?_⟩)
    · unfold numR; rw [if_neg fun h => hne (by rw [h.2.1])]; rfl
    refine (spec_l01Bases_val _ bs _ hu).call fun w1 h1 => ⟨_, rfl, h1.keeps, fun hb => ⟨?_, h1⟩, fun hb => ?_⟩
    · unfold numR; rw [if_neg fun h => nd_t hb h.1]; rfl
    have hB := nd_f hb
    have hll : zs.length = bs.length := by omega
    have hzl : (zs.zip bs).length = zs.length := by rw [List.length_zip]; omega
    refine ⟨⟨0, rfl, rfl, Nat.zero_le _, h1, by intro p hp; simp at hp⟩, ?_⟩
    rintro k w2 ⟨hk, h2, hd⟩
    refine (hv.ext h2).len ⟨fun hlt => ?_, fun hge => ?_⟩
    · have hlt' : k < zs.length := by omega
      have hltb : k < bs.length := by omega
      have hkz : k < (zs.zip bs).length := by omega
      refine (hv.ext h2).get k rfl hlt' ((hu.ext h2).get k rfl hltb ?_)
      have hb1 := hB.2 _ (List.getElem_mem hltb)
      refine ⟨by unfold I64; omega, _, fun w3 h3 => (spec_l01In_val ..).call fun _ h => ⟨rfl, h⟩, fun w3 h3 => ⟨fun hb => ⟨?_, h2.trans h3⟩, fun hb => ?_⟩⟩
      · unfold numR; rw [if_neg fun h => nd_t hb (by have := h.2.2 _ (List.getElem_mem hkz); rwa [List.getElem_zip] at this)]; rfl
      have hr := nd_f hb
      have hpos : ∀ p ∈ (zs.zip bs).take k, 0 ≤ p.1 ∧ 1 ≤ p.2 := fun p hp => ⟨(hd p hp).1, (hB.2 _ (List.of_mem_zip (List.mem_of_mem_take hp)).2).1⟩
      have hn := numb_nonneg _ hpos
      have hs := numb_snoc (zs.zip bs) k hkz
      rw [List.getElem_zip] at hs
      simp only at hs
      have hc := cut_range (a := min (Mx + 1) (numb ((zs.zip bs).take k))) (b := bs[k]) (by simp only [Mx]; omega) (by omega) (by omega) (by simp only [Mx]; omega)
      refine ((hu.ext h2).ext h3).get k rfl hltb ⟨_, fun w4 h4 => (spec_l01Cut_val _ _ _ (by simp only [Mx]; omega) (by omega) (by omega) (by simp only [Mx]; omega)).call fun _ h => ⟨rfl, h⟩, ((hv.ext h2).ext h3).get k rfl hlt' ?_⟩
      refine ⟨by unfold I64; simp only [Mx] at *; omega, fun w4 h4 => ⟨by unfold I64; omega, k + 1, rfl, ieq ?_, ⟨hlt', (h2.trans h3).trans h4, ?_⟩, by omega⟩⟩
      · rw [hs]
        exact min_step hn hb1.1 hb1.2 hr.1
      · intro p hp
        rw [take_snoc _ _ hkz, List.mem_append] at hp
        rcases hp with hp | hp
        · exact hd p hp
        · simp only [List.mem_singleton] at hp
          subst hp
          rw [List.getElem_zip]
          exact hr
    · rw [List.take_of_length_le (by omega)] at hd ⊢
      obtain ⟨x, y, e⟩ := lim_pair (min (Mx + 1) (numb (zs.zip bs)))
      refine (spec_l01Result_val ..).call fun w4 h4 => ⟨x, y, by rw [e], h4.keeps, ?_, h2.trans h4⟩
      rw [lim_min] at e
      unfold numR; rw [if_pos ⟨hB, hll, hd⟩, e]))
def spec_l01Rises_A (v : Value) (n : Int) (zs : List Int) (w : World) : Nat → Ann := fun κ => match κ with
  | 0 => { σ := Nat, sli := [5], slc := fun s => [SV.v (Value.int .i64 (s : Int))], bxi := [], bxc := fun s => [], inv := fun s W => s ≤ zs.length ∧ Ext w W ∧ Rises n zs s, μ := fun s W => zs.length - s }
  | _ => { σ := Unit, sli := [], slc := fun _ => [], bxi := [], bxc := fun _ => [], inv := fun _ _ => False, μ := fun _ _ => 0 }
def spec_l01Rises_vc (v : Value) (n : Int) (zs : List Int) (w : World) (Post : Value → World → Prop) : Prop :=
  ((∃ s1 : Nat, (Value.int .i64 0) = (Value.int .i64 (s1 : Int)) ∧ (s1 ≤ zs.length ∧ Ext w w ∧ Rises n zs s1)) ∧ ∀ (s2 : Nat) (w3 : World), (s2 ≤ zs.length ∧ Ext w w3 ∧ Rises n zs s2) → LenV v (fun n4 => ((((s2 : Int) < n4) → IxV 1 v (s2 : Int) (fun ad5 => ∃ n6 : Int, LdV w3 (Value.pointer (some ad5)) (Value.int .i64 n6) ∧ (((n6 < (0 : Int)) → ∀ w7 : World, Ext w3 w7 → Post (Value.bool false) w7) ∧ (¬ (n6 < (0 : Int)) → IxV 1 v (s2 : Int) (fun ad8 => ∃ n9 : Int, LdV w3 (Value.pointer (some ad8)) (Value.int .i64 n9) ∧ (((n ≤ n9) → ∀ w10 : World, Ext w3 w10 → Post (Value.bool false) w10) ∧ (¬ (n ≤ n9) → ((((0 : Int) < (s2 : Int)) → IxV 1 v (s2 : Int) (fun ad11 => ∃ n12 : Int, LdV w3 (Value.pointer (some ad11)) (Value.int .i64 n12) ∧ I64 ((s2 : Int) - 1) ∧ IxV 1 v ((s2 : Int) - 1) (fun ad13 => ∃ n14 : Int, LdV w3 (Value.pointer (some ad13)) (Value.int .i64 n14) ∧ ∀ w15 : World, Ext w3 w15 → (((n12 ≤ n14) → Post (Value.bool false) w15) ∧ (¬ (n12 ≤ n14) → I64 ((s2 : Int) + 1) ∧ ∃ s16 : Nat, (Value.int .i64 ((s2 : Int) + 1)) = (Value.int .i64 (s16 : Int)) ∧ (s16 ≤ zs.length ∧ Ext w w15 ∧ Rises n zs s16) ∧ (zs.length - s16) < (zs.length - s2)))))) ∧ (¬ ((0 : Int) < (s2 : Int)) → ∀ w17 : World, Ext w3 w17 → I64 ((s2 : Int) + 1) ∧ ∃ s18 : Nat, (Value.int .i64 ((s2 : Int) + 1)) = (Value.int .i64 (s18 : Int)) ∧ (s18 ≤ zs.length ∧ Ext w w17 ∧ Rises n zs s18) ∧ (zs.length - s18) < (zs.length - s2)))))))))) ∧ (¬ ((s2 : Int) < n4) → Post (Value.bool true) w3))))
theorem spec_l01Rises_eq (v : Value) (n : Int) (zs : List Int) (w : World) (Post : Value → World → Prop) : denF Try.prog [] (spec_l01Rises_A v n zs w) 105 [v, (Value.int .i64 n)] w Post = spec_l01Rises_vc v n zs w Post := by kernel_rfl
set_option maxRecDepth 100000 in
theorem spec_l01Rises_calls (v : Value) (n : Int) (zs : List Int) (w : World) (Post : Value → World → Prop) (hvc : spec_l01Rises_vc v n zs w Post) : Ret Try.prog 105 #[v, (Value.int .i64 n)] w Post :=
  Ret.of (denF_sound mixed (Eq.mpr (spec_l01Rises_eq v n zs w Post) hvc))

theorem spec_l01Rises_val (v : Value) (n : Int) (zs : List Int) (w : World) (hv : RI w v zs) : Val Try.prog 105 #[v, .int .i64 n] w (.bool (decide (Rises n zs zs.length))) :=
  Ret.val (spec_l01Rises_calls v n zs w _ (by
    unfold spec_l01Rises_vc
    have hbd := hv.bound
    refine ⟨⟨0, rfl, Nat.zero_le _, .refl w, fun i hi => absurd hi (Nat.not_lt_zero i)⟩, ?_⟩
    rintro k w1 ⟨hk, h1, hr⟩
    refine (hv.ext h1).len ⟨fun hlt => ?_, fun hge => ⟨?_, h1⟩⟩
    · have hlt' : k < zs.length := by omega
      have ek := getD_get hlt'
      have no : ¬ RiseAt n zs k → Value.bool false = Value.bool (decide (Rises n zs zs.length)) := fun hn => beq_val (decide_eq_false fun hh => hn (hh k hlt')).symm
      refine (hv.ext h1).get k rfl hlt' ⟨fun h => fun w2 h2 => ⟨no fun hh => ?_, h1.trans h2⟩, fun h => (hv.ext h1).get k rfl hlt' ⟨fun h' w2 h2 => ⟨no fun hh => ?_, h1.trans h2⟩, fun h' => ⟨fun h0 => (hv.ext h1).get k rfl hlt' ⟨by unfold I64; omega, (hv.ext h1).get (k - 1) (by omega) (by omega) fun w2 h2 => ⟨fun h3 => ⟨no fun hh => ?_, h1.trans h2⟩, fun h3 => ⟨by unfold I64; omega, k + 1, rfl, ⟨hlt', h1.trans h2, hr.succ ?_⟩, by omega⟩⟩⟩, fun h0 w2 h2 => ⟨by unfold I64; omega, k + 1, rfl, ⟨hlt', h1.trans h2, hr.succ ?_⟩, by omega⟩⟩⟩⟩
      · have := hh.1; omega
      · have := hh.2.1; omega
      · have h3 := hh.2.2 (by omega)
        rw [getD_get (show k - 1 < zs.length by omega)] at h3
        omega
      · refine ⟨by omega, by omega, fun _ => ?_⟩
        rw [getD_get (show k - 1 < zs.length by omega)]
        omega
      · exact ⟨by omega, by omega, fun h4 => absurd h4 (by omega)⟩
    · have : k = zs.length := by omega
      subst this
      exact beq_val (decide_eq_true hr).symm))
def spec_IsRising_vc (v : Value) (n : Int) (zs : List Int) (w : World) (Post : Value → World → Prop) : Prop :=
  Calls Try.prog 105 #[v, (Value.int .i64 n)] w (fun e1 w2 => ∃ b3 : Bool, e1 = .returned (Value.bool b3) ∧ Keeps w.heap.size [] w w2 ∧ Post (Value.bool b3) w2)
theorem spec_IsRising_eq (v : Value) (n : Int) (zs : List Int) (w : World) (Post : Value → World → Prop) : denF Try.prog [] noAnn 27 [v, (Value.int .i64 n)] w Post = spec_IsRising_vc v n zs w Post := by kernel_rfl
set_option maxRecDepth 100000 in
theorem spec_IsRising_calls (v : Value) (n : Int) (zs : List Int) (w : World) (Post : Value → World → Prop) (hvc : spec_IsRising_vc v n zs w Post) : Ret Try.prog 27 #[v, (Value.int .i64 n)] w Post :=
  Ret.of (denF_sound mixed (Eq.mpr (spec_IsRising_eq v n zs w Post) hvc))

theorem spec_IsRising_val (v : Value) (n : Int) (zs : List Int) (w : World) (hv : RI w v zs) : Val Try.prog 27 #[v, .int .i64 n] w (.bool (decide (Rises n zs zs.length))) :=
  Ret.val (spec_IsRising_calls v n zs w _ (by
    unfold spec_IsRising_vc
    exact (spec_l01Rises_val v n zs w hv).call fun w1 h1 => ⟨_, rfl, h1.keeps, rfl, h1⟩))
end Go.Proofs
