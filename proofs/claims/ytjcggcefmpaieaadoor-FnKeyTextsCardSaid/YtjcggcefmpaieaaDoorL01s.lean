/- Contracts of the numbers' functions, of the reference. No condition. -/
import Derived.Test.YtjcggcefmpaieaaDoorL01
set_option linter.unusedVariables false
namespace Go.Proofs
open Go.Sx Go.RowKit

def spec_l01Is_vc (n : Int) (w : World) (Post : Value → World → Prop) : Prop :=
  Calls Tryd.prog 81 #[(Value.int .i64 n), (Value.int .i64 0), (Value.int .i64 1000000000000)] w (fun e1 w2 => ∃ b3 : Bool, e1 = .returned (Value.bool b3) ∧ Keeps w.heap.size [] w w2 ∧ Post (Value.bool b3) w2)
theorem spec_l01Is_eq (n : Int) (w : World) (Post : Value → World → Prop) : denF Tryd.prog [] noAnn 76 [(Value.int .i64 n)] w Post = spec_l01Is_vc n w Post := by kernel_rfl
set_option maxRecDepth 100000 in
theorem spec_l01Is_calls (n : Int) (w : World) (Post : Value → World → Prop) (hvc : spec_l01Is_vc n w Post) : Ret Tryd.prog 76 #[(Value.int .i64 n)] w Post :=
  Ret.of (denF_sound mixed (Eq.mpr (spec_l01Is_eq n w Post) hvc))

theorem spec_l01Is_val (n : Int) (w : World) : Val Tryd.prog 76 #[.int .i64 n] w (.bool (decide (0 ≤ n ∧ n ≤ Mx))) :=
  Ret.val (spec_l01Is_calls n w _ (by
    unfold spec_l01Is_vc
    exact (spec_l01In_val ..).call fun w1 h1 => ⟨_, rfl, h1.keeps, rfl, h1⟩))
def spec_l01Numbers_A (v : Value) (zs : List Int) (w : World) : Nat → Ann := fun κ => match κ with
  | 0 => { σ := Nat, sli := [3], slc := fun s => [SV.v (Value.int .i64 (s : Int))], bxi := [], bxc := fun s => [], inv := fun s W => s ≤ zs.length ∧ (∀ z ∈ zs.take s, 0 ≤ z ∧ z ≤ Mx) ∧ Ext w W, μ := fun s W => zs.length - s }
  | _ => { σ := Unit, sli := [], slc := fun _ => [], bxi := [], bxc := fun _ => [], inv := fun _ _ => False, μ := fun _ _ => 0 }
def spec_l01Numbers_vc (v : Value) (zs : List Int) (w : World) (Post : Value → World → Prop) : Prop :=
  ((∃ s1 : Nat, (Value.int .i64 0) = (Value.int .i64 (s1 : Int)) ∧ (s1 ≤ zs.length ∧ (∀ z ∈ zs.take s1, 0 ≤ z ∧ z ≤ Mx) ∧ Ext w w)) ∧ ∀ (s2 : Nat) (w3 : World), (s2 ≤ zs.length ∧ (∀ z ∈ zs.take s2, 0 ≤ z ∧ z ≤ Mx) ∧ Ext w w3) → LenV v (fun n4 => ((((s2 : Int) < n4) → IxV 1 v (s2 : Int) (fun ad5 => ∃ n6 : Int, LdV w3 (Value.pointer (some ad5)) (Value.int .i64 n6) ∧ Calls Tryd.prog 76 #[(Value.int .i64 n6)] w3 (fun e7 w8 => ∃ b9 : Bool, e7 = .returned (Value.bool b9) ∧ Keeps w.heap.size [] w3 w8 ∧ (((!b9) = true → Post (Value.bool false) w8) ∧ ((!b9) = false → I64 ((s2 : Int) + 1) ∧ ∃ s10 : Nat, (Value.int .i64 ((s2 : Int) + 1)) = (Value.int .i64 (s10 : Int)) ∧ (s10 ≤ zs.length ∧ (∀ z ∈ zs.take s10, 0 ≤ z ∧ z ≤ Mx) ∧ Ext w w8) ∧ (zs.length - s10) < (zs.length - s2)))))) ∧ (¬ ((s2 : Int) < n4) → LenV v (fun n11 => Post (Value.bool (decide (n11 ≤ (100 : Int)))) w3)))))
theorem spec_l01Numbers_eq (v : Value) (zs : List Int) (w : World) (Post : Value → World → Prop) : denF Tryd.prog [] (spec_l01Numbers_A v zs w) 42 [v] w Post = spec_l01Numbers_vc v zs w Post := by kernel_rfl
set_option maxRecDepth 100000 in
theorem spec_l01Numbers_calls (v : Value) (zs : List Int) (w : World) (Post : Value → World → Prop) (hvc : spec_l01Numbers_vc v zs w Post) : Ret Tryd.prog 42 #[v] w Post :=
  Ret.of (denF_sound mixed (Eq.mpr (spec_l01Numbers_eq v zs w Post) hvc))

theorem spec_l01Numbers_val (v : Value) (zs : List Int) (w : World) (hv : RI w v zs) : Val Tryd.prog 42 #[v] w (.bool (decide (Nums zs))) :=
  Ret.val (spec_l01Numbers_calls v zs w _ (by
    unfold spec_l01Numbers_vc
    have hbd := hv.bound
    refine ⟨⟨0, rfl, Nat.zero_le _, by simp, .refl w⟩, ?_⟩
    rintro k w1 ⟨hk, hall, h1⟩
    refine (hv.ext h1).len ⟨fun hlt => ?_, fun hge => (hv.ext h1).len ⟨?_, h1⟩⟩
    · have hlt' : k < zs.length := by omega
      refine (hv.ext h1).get k rfl hlt' ?_
      refine (spec_l01Is_val ..).call fun w2 h2 => ⟨_, rfl, h2.keeps, fun hb => ⟨?_, h1.trans h2⟩, fun hb => ⟨by unfold I64; omega, k + 1, rfl, ⟨hlt', ?_, h1.trans h2⟩, by omega⟩⟩
      · have hb := nd_t hb
        exact beq_val (decide_eq_false fun hh => hb (hh.2 _ (List.getElem_mem hlt'))).symm
      · exact all_take_succ hlt' hall (nd_f hb)
    · rw [take_all hge] at hall
      exact beq_val (decide_eq_decide.2 ⟨fun h => ⟨by omega, hall⟩, fun h => by have := h.1; omega⟩)))
def spec_l01Has_A (v : Value) (x : Int) (zs : List Int) (w : World) : Nat → Ann := fun κ => match κ with
  | 0 => { σ := Nat, sli := [5], slc := fun s => [SV.v (Value.int .i64 (s : Int))], bxi := [], bxc := fun s => [], inv := fun s W => s ≤ zs.length ∧ (∀ z ∈ zs.take s, z ≠ x) ∧ Ext w W, μ := fun s W => zs.length - s }
  | _ => { σ := Unit, sli := [], slc := fun _ => [], bxi := [], bxc := fun _ => [], inv := fun _ _ => False, μ := fun _ _ => 0 }
def spec_l01Has_vc (v : Value) (x : Int) (zs : List Int) (w : World) (Post : Value → World → Prop) : Prop :=
  ((∃ s1 : Nat, (Value.int .i64 0) = (Value.int .i64 (s1 : Int)) ∧ (s1 ≤ zs.length ∧ (∀ z ∈ zs.take s1, z ≠ x) ∧ Ext w w)) ∧ ∀ (s2 : Nat) (w3 : World), (s2 ≤ zs.length ∧ (∀ z ∈ zs.take s2, z ≠ x) ∧ Ext w w3) → LenV v (fun n4 => ((((s2 : Int) < n4) → IxV 1 v (s2 : Int) (fun ad5 => ∃ n6 : Int, LdV w3 (Value.pointer (some ad5)) (Value.int .i64 n6) ∧ (((n6 = x) → Post (Value.bool true) w3) ∧ (¬ (n6 = x) → I64 ((s2 : Int) + 1) ∧ ∃ s7 : Nat, (Value.int .i64 ((s2 : Int) + 1)) = (Value.int .i64 (s7 : Int)) ∧ (s7 ≤ zs.length ∧ (∀ z ∈ zs.take s7, z ≠ x) ∧ Ext w w3) ∧ (zs.length - s7) < (zs.length - s2))))) ∧ (¬ ((s2 : Int) < n4) → Post (Value.bool false) w3))))
theorem spec_l01Has_eq (v : Value) (x : Int) (zs : List Int) (w : World) (Post : Value → World → Prop) : denF Tryd.prog [] (spec_l01Has_A v x zs w) 116 [v, (Value.int .i64 x)] w Post = spec_l01Has_vc v x zs w Post := by kernel_rfl
set_option maxRecDepth 100000 in
theorem spec_l01Has_calls (v : Value) (x : Int) (zs : List Int) (w : World) (Post : Value → World → Prop) (hvc : spec_l01Has_vc v x zs w Post) : Ret Tryd.prog 116 #[v, (Value.int .i64 x)] w Post :=
  Ret.of (denF_sound mixed (Eq.mpr (spec_l01Has_eq v x zs w Post) hvc))

theorem spec_l01Has_val (v : Value) (x : Int) (zs : List Int) (w : World) (hv : RI w v zs) : Val Tryd.prog 116 #[v, .int .i64 x] w (.bool (decide (x ∈ zs))) :=
  Ret.val (spec_l01Has_calls v x zs w _ (by
    unfold spec_l01Has_vc
    have hbd := hv.bound
    refine ⟨⟨0, rfl, Nat.zero_le _, by simp, .refl w⟩, ?_⟩
    rintro k w1 ⟨hk, hn, h1⟩
    refine (hv.ext h1).len ⟨fun hlt => ?_, fun hge => ⟨?_, h1⟩⟩
    · have hlt' : k < zs.length := by omega
      refine (hv.ext h1).get k rfl hlt' ⟨fun h => ⟨beq_val (decide_eq_true (h ▸ List.getElem_mem hlt')).symm, h1⟩, fun h => ⟨by unfold I64; omega, k + 1, rfl, ⟨hlt', all_take_succ hlt' hn h, h1⟩, by omega⟩⟩
    · rw [take_all hge] at hn
      exact beq_val (decide_eq_false fun h => hn x h rfl).symm))
theorem min_step {n b d : Int} (hn : 0 ≤ n) (hb : 1 ≤ b) (hb' : b ≤ 100) (hd : 0 ≤ d) : min (Mx + 1) (cut (min (Mx + 1) n) b + d) = min (Mx + 1) (n * b + d) := by
  have hmul : n ≤ n * b := by
    have := Int.mul_le_mul_of_nonneg_left hb hn
    omega
  rcases Int.lt_or_le Mx n with h | h
  · have e : min (Mx + 1) n = Mx + 1 := by omega
    have hc : Mx + 1 ≤ cut (Mx + 1) b := by
      unfold cut
      split
      · exact Int.le_refl _
      · have := Int.mul_le_mul_of_nonneg_left hb (show (0 : Int) ≤ Mx + 1 by decide)
        omega
    rw [e]
    omega
  · have e : min (Mx + 1) n = n := by omega
    rw [e]
    unfold cut
    split
    · rename_i h2
      have : Mx < n * b := by
        have := (Int.ediv_lt_iff_lt_mul h2.1).1 h2.2
        rwa [Int.mul_comm] at this
      omega
    · rfl
theorem numb_nonneg (ps : List (Int × Int)) (h : ∀ p ∈ ps, 0 ≤ p.1 ∧ 1 ≤ p.2) : 0 ≤ numb ps := numb_grow _ 0 (Int.le_refl _) h
theorem lim_min {n : Int} : lim (min (Mx + 1) n) = lim n := by
  unfold lim
  rcases Int.lt_or_le Mx n with h | h
  · rw [if_pos h, if_pos (by omega)]
  · rw [if_neg (by omega), if_neg (by omega), show min (Mx + 1) n = n by omega]
def spec_l01Rises_A (v : Value) (n : Int) (zs : List Int) (w : World) : Nat → Ann := fun κ => match κ with
  | 0 => { σ := Nat, sli := [5], slc := fun s => [SV.v (Value.int .i64 (s : Int))], bxi := [], bxc := fun s => [], inv := fun s W => s ≤ zs.length ∧ Ext w W ∧ Rises n zs s, μ := fun s W => zs.length - s }
  | _ => { σ := Unit, sli := [], slc := fun _ => [], bxi := [], bxc := fun _ => [], inv := fun _ _ => False, μ := fun _ _ => 0 }
def spec_l01Rises_vc (v : Value) (n : Int) (zs : List Int) (w : World) (Post : Value → World → Prop) : Prop :=
  ((∃ s1 : Nat, (Value.int .i64 0) = (Value.int .i64 (s1 : Int)) ∧ (s1 ≤ zs.length ∧ Ext w w ∧ Rises n zs s1)) ∧ ∀ (s2 : Nat) (w3 : World), (s2 ≤ zs.length ∧ Ext w w3 ∧ Rises n zs s2) → LenV v (fun n4 => ((((s2 : Int) < n4) → IxV 1 v (s2 : Int) (fun ad5 => ∃ n6 : Int, LdV w3 (Value.pointer (some ad5)) (Value.int .i64 n6) ∧ (((n6 < (0 : Int)) → ∀ w7 : World, Ext w3 w7 → Post (Value.bool false) w7) ∧ (¬ (n6 < (0 : Int)) → IxV 1 v (s2 : Int) (fun ad8 => ∃ n9 : Int, LdV w3 (Value.pointer (some ad8)) (Value.int .i64 n9) ∧ (((n ≤ n9) → ∀ w10 : World, Ext w3 w10 → Post (Value.bool false) w10) ∧ (¬ (n ≤ n9) → ((((0 : Int) < (s2 : Int)) → IxV 1 v (s2 : Int) (fun ad11 => ∃ n12 : Int, LdV w3 (Value.pointer (some ad11)) (Value.int .i64 n12) ∧ I64 ((s2 : Int) - 1) ∧ IxV 1 v ((s2 : Int) - 1) (fun ad13 => ∃ n14 : Int, LdV w3 (Value.pointer (some ad13)) (Value.int .i64 n14) ∧ ∀ w15 : World, Ext w3 w15 → (((n12 ≤ n14) → Post (Value.bool false) w15) ∧ (¬ (n12 ≤ n14) → I64 ((s2 : Int) + 1) ∧ ∃ s16 : Nat, (Value.int .i64 ((s2 : Int) + 1)) = (Value.int .i64 (s16 : Int)) ∧ (s16 ≤ zs.length ∧ Ext w w15 ∧ Rises n zs s16) ∧ (zs.length - s16) < (zs.length - s2)))))) ∧ (¬ ((0 : Int) < (s2 : Int)) → ∀ w17 : World, Ext w3 w17 → I64 ((s2 : Int) + 1) ∧ ∃ s18 : Nat, (Value.int .i64 ((s2 : Int) + 1)) = (Value.int .i64 (s18 : Int)) ∧ (s18 ≤ zs.length ∧ Ext w w17 ∧ Rises n zs s18) ∧ (zs.length - s18) < (zs.length - s2)))))))))) ∧ (¬ ((s2 : Int) < n4) → Post (Value.bool true) w3))))
theorem spec_l01Rises_eq (v : Value) (n : Int) (zs : List Int) (w : World) (Post : Value → World → Prop) : denF Tryd.prog [] (spec_l01Rises_A v n zs w) 91 [v, (Value.int .i64 n)] w Post = spec_l01Rises_vc v n zs w Post := by kernel_rfl
set_option maxRecDepth 100000 in
theorem spec_l01Rises_calls (v : Value) (n : Int) (zs : List Int) (w : World) (Post : Value → World → Prop) (hvc : spec_l01Rises_vc v n zs w Post) : Ret Tryd.prog 91 #[v, (Value.int .i64 n)] w Post :=
  Ret.of (denF_sound mixed (Eq.mpr (spec_l01Rises_eq v n zs w Post) hvc))

theorem spec_l01Rises_val (v : Value) (n : Int) (zs : List Int) (w : World) (hv : RI w v zs) : Val Tryd.prog 91 #[v, .int .i64 n] w (.bool (decide (Rises n zs zs.length))) :=
  Ret.val (spec_l01Rises_calls v n zs w _ (by
    unfold spec_l01Rises_vc
    have hbd := hv.bound
    refine ⟨⟨0, rfl, Nat.zero_le _, .refl w, fun i hi => absurd hi (Nat.not_lt_zero i)⟩, ?_⟩
    rintro k w1 ⟨hk, h1, hr⟩
    refine (hv.ext h1).len ⟨fun hlt => ?_, fun hge => ⟨?_, h1⟩⟩
    · have hlt' : k < zs.length := by omega
      have ek := getD_get hlt'
      have no : ¬ RiseAt n zs k → Value.bool false = Value.bool (decide (Rises n zs zs.length)) := fun hn => beq_val (decide_eq_false fun hh => hn (hh k hlt')).symm
      refine (hv.ext h1).get k rfl hlt' ⟨fun h => fun w2 h2 => ⟨no fun hh => ?_, h1.trans h2⟩, fun h => (hv.ext h1).get k rfl hlt' ⟨fun h' w2 h2 => ⟨no fun hh => ?_, h1.trans h2⟩, fun h' => ⟨fun h0 => (hv.ext h1).get k rfl hlt' ⟨by unfold I64; omega, (hv.ext h1).get (k - 1) (by omega) (by omega) fun w2 h2 => ⟨fun h3 => ⟨no fun hh => ?_, h1.trans h2⟩, fun h3 => ⟨by unfold I64; omega, k + 1, rfl, ⟨hlt', h1.trans h2, hr.succ ?_⟩, by omega⟩⟩⟩, fun h0 w2 h2 => ⟨by unfold I64; omega, k + 1, rfl, ⟨hlt', h1.trans h2, hr.succ ?_⟩, by omega⟩⟩⟩⟩
      · have := hh.1; omega
      · have := hh.2.1; omega
      · have h3 := hh.2.2 (by omega)
        rw [getD_get (show k - 1 < zs.length by omega)] at h3
        omega
      · refine ⟨by omega, by omega, fun _ => ?_⟩
        rw [getD_get (show k - 1 < zs.length by omega)]
        omega
      · exact ⟨by omega, by omega, fun h4 => absurd h4 (by omega)⟩
    · have : k = zs.length := by omega
      subst this
      exact beq_val (decide_eq_true hr).symm))
end Go.Proofs
