/- Contracts: the rules of keys, of the program and of the reference. No condition. -/
import Derived.Test.YtjcggcefmpaieaaDoorKeys2
set_option linter.unusedVariables false
namespace Go.Proofs
open Go.Sx Go.RowKit

/-! ### plain -/
theorem kindsTo_new {zs : List Int} {k : Nat} (h : k < zs.length) (hn : zs[k] ∉ zs.take k) : kindsTo zs (k + 1) = kindsTo zs k + 1 := by
  simp only [kindsTo, getD_get h]; rw [if_neg hn]
theorem kindsTo_old {zs : List Int} {k : Nat} (h : k < zs.length) (hn : zs[k] ∈ zs.take k) : kindsTo zs (k + 1) = kindsTo zs k := by
  simp only [kindsTo, getD_get h]; rw [if_pos hn]; omega
/-- the run ahead of place k -/
def runB (zs : List Int) : Nat → Nat
  | 0 => 0
  | k + 1 => runAt zs k
def mostTo (zs : List Int) : Nat → Nat
  | 0 => 0
  | k + 1 => max (mostTo zs k) (runAt zs k)
theorem runB_le (zs : List Int) (k : Nat) : runB zs k ≤ k := by
  cases k with
  | zero => exact Nat.le_refl _
  | succ k => exact runAt_le zs k
theorem mostTo_le (zs : List Int) : ∀ k, mostTo zs k ≤ k
  | 0 => Nat.le_refl _
  | k + 1 => by have := mostTo_le zs k; have := runAt_le zs k; simp only [mostTo]; omega
theorem runB_ne {zs : List Int} {k : Nat} (h0 : 0 < k) (h : zs.getD k 0 ≠ zs.getD (k - 1) 0) : runB zs (k + 1) = 1 := by
  cases k with
  | zero => omega
  | succ k => rw [Nat.add_sub_cancel] at h; simp only [runB, runAt]; rw [if_neg h]
theorem runB_eq {zs : List Int} {k : Nat} (h0 : 0 < k) (h : zs.getD k 0 = zs.getD (k - 1) 0) : runB zs (k + 1) = runB zs k + 1 := by
  cases k with
  | zero => omega
  | succ k => rw [Nat.add_sub_cancel] at h; simp only [runB, runAt]; rw [if_pos h]
theorem runB_zero (zs : List Int) : runB zs (0 + 1) = 1 := rfl
theorem mostTo_runs {zs : List Int} {m : Int} (hm : 0 ≤ m) : ∀ k, ((mostTo zs k : Nat) : Int) ≤ m ↔ ∀ i, i < k → (runAt zs i : Int) ≤ m
  | 0 => ⟨fun _ i hi => absurd hi (Nat.not_lt_zero i), fun _ => by simp only [mostTo]; omega⟩
  | k + 1 => by
    have ih := mostTo_runs (zs := zs) hm k
    simp only [mostTo]
    constructor
    · intro h i hi
      rcases Nat.lt_or_ge i k with h1 | h1
      · exact ih.1 (by omega) i h1
      · have : i = k := by omega
        subst this
        omega
    · intro h
      have h1 := ih.2 fun i hi => h i (by omega)
      have h2 := h k (by omega)
      omega
section
variable {c d s m l : Int} {zs : List Int}
theorem fault_1 (h : (zs.length : Int) ≠ c) : fault c d s m l zs = 1 := by unfold fault; rw [if_neg h]
theorem fault_2 (h : (zs.length : Int) = c) (h2 : ¬ CutsOk d zs) : fault c d s m l zs = 2 := by unfold fault; rw [if_pos h, if_neg h2]
theorem fault_3 (h : (zs.length : Int) = c) (h2 : CutsOk d zs) (h3 : ¬ StepsOk s zs) : fault c d s m l zs = 3 := by unfold fault; rw [if_pos h, if_pos h2, if_neg h3]
theorem fault_4 (h : (zs.length : Int) = c) (h2 : CutsOk d zs) (h3 : StepsOk s zs) (h4 : ¬ RunsOk m zs) : fault c d s m l zs = 4 := by unfold fault; rw [if_pos h, if_pos h2, if_pos h3, if_neg h4]
theorem fault_5 (h : (zs.length : Int) = c) (h2 : CutsOk d zs) (h3 : StepsOk s zs) (h4 : RunsOk m zs) (h5 : (kinds zs : Int) < l) : fault c d s m l zs = 5 := by unfold fault; rw [if_pos h, if_pos h2, if_pos h3, if_pos h4, if_pos h5]
theorem fault_0 (h : (zs.length : Int) = c) (h2 : CutsOk d zs) (h3 : StepsOk s zs) (h4 : RunsOk m zs) (h5 : ¬ (kinds zs : Int) < l) : fault c d s m l zs = 0 := by unfold fault; rw [if_pos h, if_pos h2, if_pos h3, if_pos h4, if_neg h5]
end
theorem StepAt.of {s : Int} {zs : List Int} {k : Nat} (h0 : 0 < k) (hk : k < zs.length) : StepAt s zs k ↔ max (zs[k] - zs[k - 1]) (-(zs[k] - zs[k - 1])) ≤ s := by
  unfold StepAt
  rw [getD_get hk, getD_get (show k - 1 < zs.length by omega)]
  constructor
  · intro h; have := h h0; omega
  · intro h _; omega
theorem CutsOk.get {d : Int} {zs : List Int} (h : CutsOk d zs) {k : Nat} (hk : k < zs.length) : 0 ≤ zs[k] ∧ zs[k] ≤ d - 1 := h _ (List.getElem_mem hk)

/-! ### the program -/
def impl_absolute_vc (n : Int) (w : World) (Post : Value → World → Prop) : Prop :=
  I64 (-n) ∧ Post (Value.int .i64 (max n (-n))) w
theorem impl_absolute_eq (n : Int) (w : World) (Post : Value → World → Prop) : denF Tryd.prog [] noAnn 125 [(Value.int .i64 n)] w Post = impl_absolute_vc n w Post := by kernel_rfl
set_option maxRecDepth 100000 in
theorem impl_absolute_calls (n : Int) (w : World) (Post : Value → World → Prop) (hvc : impl_absolute_vc n w Post) : Ret Tryd.prog 125 #[(Value.int .i64 n)] w Post :=
  Ret.of (denF_sound mixed (Eq.mpr (impl_absolute_eq n w Post) hvc))

theorem impl_absolute_val (n : Int) (w : World) (h : I64 (-n)) : Val Tryd.prog 125 #[.int .i64 n] w (.int .i64 (max n (-n))) :=
  Ret.val (impl_absolute_calls n w _ ⟨h, rfl, .refl w⟩)
def impl_different_A (v : Value) (zs : List Int) (w : World) : Nat → Ann := fun κ => match κ with
  | 0 => { σ := Nat, sli := [8, 3], slc := fun s => [SV.v (Value.int .i64 (s : Int)), SV.v (Value.int .i64 (kindsTo zs s : Int))], bxi := [], bxc := fun s => [], inv := fun s W => True, μ := fun s W => 0, free := true }
  | _ => { σ := Unit, sli := [], slc := fun _ => [], bxi := [], bxc := fun _ => [], inv := fun _ _ => False, μ := fun _ _ => 0 }
abbrev impl_different_k0 (zs : List Int) (s3 : Nat) (w4 : World) (J5 : Nat → World → Prop) (m6 : Nat → World → Nat) (x16 : Int) (x19 : Int) (w31 : World) : Prop :=
  I64 (x19 + 1) ∧ ∃ s32 : Nat, (Value.int .i64 (x19 + 1)) = (Value.int .i64 (s32 : Int)) ∧ (Value.int .i64 x16) = (Value.int .i64 (kindsTo zs s32 : Int)) ∧ (J5 s32 w31) ∧ (m6 s32 w31) < (m6 s3 w4)
abbrev impl_different_k1 (v : Value) (zs : List Int) (w : World) (s3 : Nat) (w4 : World) (J5 : Nat → World → Prop) (m6 : Nat → World → Nat) (x7 : Int) (x8 : Int) (w9 : World) : Prop :=
  IxV 1 v x8 (fun ad10 => ∃ n11 : Int, LdV w9 (Value.pointer (some ad10)) (Value.int .i64 n11) ∧ SlV 1 v none (some x8) none (fun u12 => Calls Tryd.prog 146 #[u12, (Value.int .i64 n11)] w9 (fun e13 w14 => ∃ b15 : Bool, e13 = .returned (Value.bool b15) ∧ Keeps w.heap.size [] w9 w14 ∧ (((!b15) = true → I64 (x7 + 1) ∧ (impl_different_k0 zs s3 w4 J5 m6 (x7 + 1) x8 w14)) ∧ ((!b15) = false → (impl_different_k0 zs s3 w4 J5 m6 x7 x8 w14))))))
def impl_different_vc (v : Value) (zs : List Int) (w : World) (Post : Value → World → Prop) : Prop :=
  LenV v (fun n1 => (∃ (J5 : Nat → World → Prop) (m6 : Nat → World → Nat), ((∃ s2 : Nat, (Value.int .i64 0) = (Value.int .i64 (s2 : Int)) ∧ (Value.int .i64 0) = (Value.int .i64 (kindsTo zs s2 : Int)) ∧ (J5 s2 w)) ∧ ∀ (s3 : Nat) (w4 : World), (J5 s3 w4) → ((((s3 : Int) < n1) → (impl_different_k1 v zs w s3 w4 J5 m6 (kindsTo zs s3 : Int) (s3 : Int) w4)) ∧ (¬ ((s3 : Int) < n1) → Post (Value.int .i64 (kindsTo zs s3 : Int)) w4)))))
theorem impl_different_eq (v : Value) (zs : List Int) (w : World) (Post : Value → World → Prop) : denF Tryd.prog [] (impl_different_A v zs w) 127 [v] w Post = impl_different_vc v zs w Post := by kernel_rfl
set_option maxRecDepth 100000 in
theorem impl_different_calls (v : Value) (zs : List Int) (w : World) (Post : Value → World → Prop) (hvc : impl_different_vc v zs w Post) : Ret Tryd.prog 127 #[v] w Post :=
  Ret.of (denF_sound mixed (Eq.mpr (impl_different_eq v zs w Post) hvc))

theorem impl_different_val (v : Value) (zs : List Int) (w : World) (hv : RI w v zs) : Val Tryd.prog 127 #[v] w (.int .i64 (kinds zs : Int)) :=
  Ret.val (impl_different_calls v zs w _ (by
    unfold impl_different_vc
    have hbd := hv.bound
    refine hv.len ⟨fun s W => s ≤ zs.length ∧ Ext w W, fun s _ => zs.length - s, ⟨0, rfl, rfl, Nat.zero_le _, .refl w⟩, ?_⟩
    rintro k w1 ⟨hk, h1⟩
    have hkd := kindsTo_le zs k
    refine ⟨fun hlt => ?_, fun hge => ?_⟩
    · have hlt' : k < zs.length := by omega
      have hv1 := hv.ext h1
      refine hv1.get k rfl hlt' (hv1.sl 0 k rfl rfl (Nat.zero_le _) hk fun u hu => ?_)
      rw [List.drop_zero] at hu
      refine (slices_Contains_val u _ _ w1 hu).call fun w2 h2 => ⟨_, rfl, h2.keeps, fun hb => ?_, fun hb => ?_⟩
      · exact ⟨by unfold I64; omega, by unfold I64; omega, k + 1, rfl, ieq (by rw [kindsTo_new hlt' (nd_t hb)]; rfl), ⟨hlt', h1.trans h2⟩, by simp only; omega⟩
      · exact ⟨by unfold I64; omega, k + 1, rfl, ieq (by rw [kindsTo_old hlt' (nd_f hb)]), ⟨hlt', h1.trans h2⟩, by simp only; omega⟩
    · have : k = zs.length := by omega
      subst this
      exact ⟨rfl, h1⟩))
def impl_sameRun_A (v : Value) (zs : List Int) (w : World) : Nat → Ann := fun κ => match κ with
  | 0 => { σ := Nat, sli := [3], slc := fun s => [SV.v (Value.int .i64 (s : Int))], bxi := [], bxc := fun s => [], inv := fun s W => True, μ := fun s W => 0, free := true }
  | _ => { σ := Unit, sli := [], slc := fun _ => [], bxi := [], bxc := fun _ => [], inv := fun _ _ => False, μ := fun _ _ => 0 }
abbrev impl_sameRun_k0 (s2 : Nat) (w3 : World) (J4 : Nat → World → Prop) (m5 : Nat → World → Nat) (x33 : Int) (w51 : World) : Prop :=
  I64 (x33 + 1) ∧ ∃ s52 : Nat, (Value.int .i64 (x33 + 1)) = (Value.int .i64 (s52 : Int)) ∧ (J4 s52 w51) ∧ (m5 s52 w51) < (m5 s2 w3)
abbrev impl_sameRun_k1 (Post : Value → World → Prop) (s2 : Nat) (w3 : World) (J4 : Nat → World → Prop) (m5 : Nat → World → Nat) (n9 : Int) (n12 : Int) (x14 : Int) (w32 : World) : Prop :=
  (((n9 = n12) → (impl_sameRun_k0 s2 w3 J4 m5 x14 w32)) ∧ (¬ (n9 = n12) → Post (Value.int .i64 x14) w32))
def impl_sameRun_vc (v : Value) (zs : List Int) (w : World) (Post : Value → World → Prop) : Prop :=
  (∃ (J4 : Nat → World → Prop) (m5 : Nat → World → Nat), ((∃ s1 : Nat, (Value.int .i64 1) = (Value.int .i64 (s1 : Int)) ∧ (J4 s1 w)) ∧ ∀ (s2 : Nat) (w3 : World), (J4 s2 w3) → LenV v (fun n6 => ((((s2 : Int) < n6) → LenV v (fun n7 => I64 (n7 - 1) ∧ I64 ((n7 - 1) - (s2 : Int)) ∧ IxV 1 v ((n7 - 1) - (s2 : Int)) (fun ad8 => ∃ n9 : Int, LdV w3 (Value.pointer (some ad8)) (Value.int .i64 n9) ∧ LenV v (fun n10 => I64 (n10 - 1) ∧ IxV 1 v (n10 - 1) (fun ad11 => ∃ n12 : Int, LdV w3 (Value.pointer (some ad11)) (Value.int .i64 n12) ∧ ∀ w13 : World, Ext w3 w13 → (impl_sameRun_k1 Post s2 w3 J4 m5 n9 n12 (s2 : Int) w13)))))) ∧ (¬ ((s2 : Int) < n6) → ∀ w74 : World, Ext w3 w74 → Post (Value.int .i64 (s2 : Int)) w74)))))
theorem impl_sameRun_eq (v : Value) (zs : List Int) (w : World) (Post : Value → World → Prop) : denF Tryd.prog [] (impl_sameRun_A v zs w) 126 [v] w Post = impl_sameRun_vc v zs w Post := by kernel_rfl
set_option maxRecDepth 100000 in
theorem impl_sameRun_calls (v : Value) (zs : List Int) (w : World) (Post : Value → World → Prop) (hvc : impl_sameRun_vc v zs w Post) : Ret Tryd.prog 126 #[v] w Post :=
  Ret.of (denF_sound mixed (Eq.mpr (impl_sameRun_eq v zs w Post) hvc))

theorem impl_sameRun_val (v : Value) (zs : List Int) (w : World) (hv : RI w v zs) (h0 : 0 < zs.length) : Val Tryd.prog 126 #[v] w (.int .i64 (runAt zs (zs.length - 1) : Int)) :=
  Ret.val (impl_sameRun_calls v zs w _ (by
    unfold impl_sameRun_vc
    have hbd := hv.bound
    refine ⟨fun r W => 1 ≤ r ∧ r ≤ zs.length ∧ Ext w W ∧ ∀ j, j < r → zs.getD (zs.length - 1 - j) 0 = zs.getD (zs.length - 1) 0, fun r _ => zs.length - r, ⟨1, rfl, Nat.le_refl _, h0, .refl w, fun j hj => ?_⟩, ?_⟩
    · have : j = 0 := by omega
      subst this
      rfl
    rintro r w1 ⟨hr1, hr, h1, hall⟩
    have hv1 := hv.ext h1
    refine hv1.len ⟨fun hlt => hv1.len ⟨by unfold I64; omega, by unfold I64; omega, hv1.get (zs.length - 1 - r) (by omega) (by omega) (hv1.len ⟨by unfold I64; omega, hv1.get (zs.length - 1) (by omega) (by omega) fun w2 h2 => ⟨fun he => ?_, fun hne => ⟨ieq ?_, h1.trans h2⟩⟩⟩)⟩, fun hge w2 h2 => ⟨ieq ?_, h1.trans h2⟩⟩
    · refine ⟨by unfold I64; omega, r + 1, rfl, ⟨by omega, by omega, h1.trans h2, fun j hj => ?_⟩, by simp only; omega⟩
      rcases Nat.lt_or_ge j r with h3 | h3
      · exact hall j h3
      · have : j = r := by omega
        subst this
        rw [getD_get (show zs.length - 1 - j < zs.length by omega), getD_get (show zs.length - 1 < zs.length by omega)]
        exact he
    · rw [runAt_eq zs (zs.length - 1) r hr1 (by omega) hall (.inr ?_)]
      rw [getD_get (show zs.length - 1 - r < zs.length by omega), getD_get (show zs.length - 1 < zs.length by omega)]
      exact hne
    · rw [runAt_eq zs (zs.length - 1) r hr1 (by omega) hall (.inl (by omega))]))
def impl_areCuts_vc (m_Chambers : Int) (m_Depths : Int) (m_Step : Int) (m_Same : Int) (m_Least : Int) (v : Value) (w : World) (Post : Value → World → Prop) : Prop :=
  ∀ w1 : World, Ext w w1 → LenV v (fun n2 => (((n2 = m_Chambers) → I64 (m_Depths - 1) ∧ Calls Tryd.prog 74 #[v, (Value.int .i64 0), (Value.int .i64 (m_Depths - 1))] w1 (fun e3 w4 => ∃ b5 : Bool, e3 = .returned (Value.bool b5) ∧ Keeps w.heap.size [39] w1 w4 ∧ Post (Value.bool b5) w4)) ∧ (¬ (n2 = m_Chambers) → Post (Value.bool false) w1)))
theorem impl_areCuts_eq (m_Chambers : Int) (m_Depths : Int) (m_Step : Int) (m_Same : Int) (m_Least : Int) (v : Value) (w : World) (Post : Value → World → Prop) : denF Tryd.prog [] noAnn 124 [(Value.agg #[(Value.int .i64 m_Chambers), (Value.int .i64 m_Depths), (Value.int .i64 m_Step), (Value.int .i64 m_Same), (Value.int .i64 m_Least)]), v] w Post = impl_areCuts_vc m_Chambers m_Depths m_Step m_Same m_Least v w Post := by kernel_rfl
set_option maxRecDepth 100000 in
theorem impl_areCuts_calls (m_Chambers : Int) (m_Depths : Int) (m_Step : Int) (m_Same : Int) (m_Least : Int) (v : Value) (w : World) (Post : Value → World → Prop) (hvc : impl_areCuts_vc m_Chambers m_Depths m_Step m_Same m_Least v w Post) : Ret Tryd.prog 124 #[(Value.agg #[(Value.int .i64 m_Chambers), (Value.int .i64 m_Depths), (Value.int .i64 m_Step), (Value.int .i64 m_Same), (Value.int .i64 m_Least)]), v] w Post :=
  Ret.of (denF_sound mixed (Eq.mpr (impl_areCuts_eq m_Chambers m_Depths m_Step m_Same m_Least v w Post) hvc))

theorem impl_areCuts_val (c d s m l : Int) (v : Value) (zs : List Int) (w : World) (hv : RI w v zs) (hd : I64 (d - 1)) : Val Tryd.prog 124 #[mkV c d s m l, v] w (.bool (decide ((zs.length : Int) = c ∧ CutsOk d zs))) :=
  Ret.val (impl_areCuts_calls c d s m l v w _ (by
    unfold impl_areCuts_vc
    intro w1 h1
    refine (hv.ext h1).len ⟨fun he => ⟨hd, ?_⟩, fun hne => ⟨beq_val (decide_eq_false fun h => hne h.1).symm, h1⟩⟩
    exact (impl_allWithin_val _ _ _ _ _ (hv.ext h1)).call fun w2 h2 => ⟨_, rfl, h2.keeps, beq_val (decide_eq_decide.2 ⟨fun h => ⟨he, h⟩, fun h => h.2⟩), h1.trans h2⟩))
def impl_keyFault_A (m_Chambers : Int) (m_Depths : Int) (m_Step : Int) (m_Same : Int) (m_Least : Int) (v : Value) (zs : List Int) (w : World) : Nat → Ann := fun κ => match κ with
  | 0 => { σ := Nat, sli := [5], slc := fun s => [SV.v (Value.int .i64 (s : Int))], bxi := [], bxc := fun s => [], inv := fun s W => True, μ := fun s W => 0, free := true }
  | 1 => { σ := Nat, sli := [38], slc := fun s => [SV.v (Value.int .i64 (s : Int))], bxi := [], bxc := fun s => [], inv := fun s W => True, μ := fun s W => 0, free := true }
  | _ => { σ := Unit, sli := [], slc := fun _ => [], bxi := [], bxc := fun _ => [], inv := fun _ _ => False, μ := fun _ _ => 0 }
abbrev impl_keyFault_k0 (s47 : Nat) (w48 : World) (J49 : Nat → World → Prop) (m50 : Nat → World → Nat) (x66 : Int) (w82 : World) : Prop :=
  I64 (x66 + 1) ∧ ∃ s83 : Nat, (Value.int .i64 (x66 + 1)) = (Value.int .i64 (s83 : Int)) ∧ (J49 s83 w82) ∧ (m50 s83 w82) < (m50 s47 w48)
abbrev impl_keyFault_k1 (Post : Value → World → Prop) (x27 : Value) (x42 : Int) (s47 : Nat) (w48 : World) (J49 : Nat → World → Prop) (m50 : Nat → World → Nat) (x52 : Int) (w56 : World) : Prop :=
  IxV 1 x27 x52 (fun ad57 => ∃ n58 : Int, LdV w56 (Value.pointer (some ad57)) (Value.int .i64 n58) ∧ I64 (x52 - 1) ∧ IxV 1 x27 (x52 - 1) (fun ad59 => ∃ n60 : Int, LdV w56 (Value.pointer (some ad59)) (Value.int .i64 n60) ∧ I64 (n58 - n60) ∧ ∃ n64 : Int, (∀ w61 : World, Ext w56 w61 → Calls Tryd.prog 125 #[(Value.int .i64 (n58 - n60))] w61 (fun e62 w63 => e62 = .returned (Value.int .i64 n64) ∧ Ext w61 w63)) ∧ ∀ w65 : World, Ext w56 w65 → (((x42 < n64) → Post (Value.int .i64 3) w65) ∧ (¬ (x42 < n64) → (impl_keyFault_k0 s47 w48 J49 m50 x52 w65)))))
abbrev impl_keyFault_k2 (s113 : Nat) (w114 : World) (J115 : Nat → World → Prop) (m116 : Nat → World → Nat) (x126 : Int) (w134 : World) : Prop :=
  I64 (x126 + 1) ∧ ∃ s135 : Nat, (Value.int .i64 (x126 + 1)) = (Value.int .i64 (s135 : Int)) ∧ (J115 s135 w134) ∧ (m116 s135 w134) < (m116 s113 w114)
abbrev impl_keyFault_k3 (Post : Value → World → Prop) (x89 : Value) (x108 : Int) (s113 : Nat) (w114 : World) (J115 : Nat → World → Prop) (m116 : Nat → World → Nat) (x117 : Int) (w118 : World) : Prop :=
  I64 (x117 + 1) ∧ SlV 1 x89 none (some (x117 + 1)) none (fun u119 => ∃ n123 : Int, (∀ w120 : World, Ext w118 w120 → Calls Tryd.prog 126 #[u119] w120 (fun e121 w122 => e121 = .returned (Value.int .i64 n123) ∧ Ext w120 w122)) ∧ ∀ w124 : World, Ext w118 w124 → (((x108 < n123) → Post (Value.int .i64 4) w124) ∧ (¬ (x108 < n123) → (impl_keyFault_k2 s113 w114 J115 m116 x117 w124))))
abbrev impl_keyFault_k4 (Post : Value → World → Prop) (x141 : Value) (x164 : Int) (w165 : World) : Prop :=
  ∃ n169 : Int, (∀ w166 : World, Ext w165 w166 → Calls Tryd.prog 127 #[x141] w166 (fun e167 w168 => e167 = .returned (Value.int .i64 n169) ∧ Ext w166 w168)) ∧ ∀ w170 : World, Ext w165 w170 → (((n169 < x164) → Post (Value.int .i64 5) w170) ∧ (¬ (n169 < x164) → Post (Value.int .i64 0) w170))
abbrev impl_keyFault_k5 (Post : Value → World → Prop) (x89 : Value) (x108 : Int) (x109 : Int) (w110 : World) : Prop :=
  LenV x89 (fun n111 => (∃ (J115 : Nat → World → Prop) (m116 : Nat → World → Nat), ((∃ s112 : Nat, (Value.int .i64 0) = (Value.int .i64 (s112 : Int)) ∧ (J115 s112 w110)) ∧ ∀ (s113 : Nat) (w114 : World), (J115 s113 w114) → ((((s113 : Int) < n111) → (impl_keyFault_k3 Post x89 x108 s113 w114 J115 m116 (s113 : Int) w114)) ∧ (¬ ((s113 : Int) < n111) → (impl_keyFault_k4 Post x89 x109 w114))))))
abbrev impl_keyFault_k6 (Post : Value → World → Prop) (x27 : Value) (x42 : Int) (x43 : Int) (x44 : Int) (w45 : World) : Prop :=
  (∃ (J49 : Nat → World → Prop) (m50 : Nat → World → Nat), ((∃ s46 : Nat, (Value.int .i64 1) = (Value.int .i64 (s46 : Int)) ∧ (J49 s46 w45)) ∧ ∀ (s47 : Nat) (w48 : World), (J49 s47 w48) → LenV x27 (fun n51 => ((((s47 : Int) < n51) → (impl_keyFault_k1 Post x27 x42 s47 w48 J49 m50 (s47 : Int) w48)) ∧ (¬ ((s47 : Int) < n51) → (impl_keyFault_k5 Post x27 x43 x44 w48))))))
abbrev impl_keyFault_k7 (w : World) (Post : Value → World → Prop) (x8 : Value) (x13 : Int) (x14 : Int) (x15 : Int) (x16 : Int) (x17 : Int) (w18 : World) : Prop :=
  Calls Tryd.prog 124 #[(Value.agg #[(Value.int .i64 x13), (Value.int .i64 x14), (Value.int .i64 x15), (Value.int .i64 x16), (Value.int .i64 x17)]), x8] w18 (fun e19 w20 => ∃ b21 : Bool, e19 = .returned (Value.bool b21) ∧ Keeps w.heap.size [39] w18 w20 ∧ (((!b21) = true → Post (Value.int .i64 2) w20) ∧ ((!b21) = false → (impl_keyFault_k6 Post x8 x15 x16 x17 w20))))
def impl_keyFault_vc (m_Chambers : Int) (m_Depths : Int) (m_Step : Int) (m_Same : Int) (m_Least : Int) (v : Value) (zs : List Int) (w : World) (Post : Value → World → Prop) : Prop :=
  ∀ w1 : World, Ext w w1 → LenV v (fun n2 => (((n2 ≠ m_Chambers) → Post (Value.int .i64 1) w1) ∧ (¬ (n2 ≠ m_Chambers) → (impl_keyFault_k7 w Post v m_Chambers m_Depths m_Step m_Same m_Least w1))))
theorem impl_keyFault_eq (m_Chambers : Int) (m_Depths : Int) (m_Step : Int) (m_Same : Int) (m_Least : Int) (v : Value) (zs : List Int) (w : World) (Post : Value → World → Prop) : denF Tryd.prog [] (impl_keyFault_A m_Chambers m_Depths m_Step m_Same m_Least v zs w) 111 [(Value.agg #[(Value.int .i64 m_Chambers), (Value.int .i64 m_Depths), (Value.int .i64 m_Step), (Value.int .i64 m_Same), (Value.int .i64 m_Least)]), v] w Post = impl_keyFault_vc m_Chambers m_Depths m_Step m_Same m_Least v zs w Post := by kernel_rfl
set_option maxRecDepth 100000 in
theorem impl_keyFault_calls (m_Chambers : Int) (m_Depths : Int) (m_Step : Int) (m_Same : Int) (m_Least : Int) (v : Value) (zs : List Int) (w : World) (Post : Value → World → Prop) (hvc : impl_keyFault_vc m_Chambers m_Depths m_Step m_Same m_Least v zs w Post) : Ret Tryd.prog 111 #[(Value.agg #[(Value.int .i64 m_Chambers), (Value.int .i64 m_Depths), (Value.int .i64 m_Step), (Value.int .i64 m_Same), (Value.int .i64 m_Least)]), v] w Post :=
  Ret.of (denF_sound mixed (Eq.mpr (impl_keyFault_eq m_Chambers m_Depths m_Step m_Same m_Least v zs w Post) hvc))

theorem impl_keyFault_val (c d s m l : Int) (v : Value) (zs : List Int) (w : World) (hv : RI w v zs) (hm : MkOk c d s m l) : Val Tryd.prog 111 #[mkV c d s m l, v] w (.int .i64 (fault c d s m l zs)) :=
  Ret.val (impl_keyFault_calls c d s m l v zs w _ (by
    unfold impl_keyFault_vc
    have hbd := hv.bound
    obtain ⟨hm1, hm2, hm3, hm4, hm5⟩ := hm
    intro w1 h1
    refine (hv.ext h1).len ⟨fun hne => ⟨ieq (fault_1 hne).symm, h1⟩, fun he => ?_⟩
    have hlen : (zs.length : Int) = c := Classical.not_not.1 he
    refine (impl_areCuts_val c d s m l v zs w1 (hv.ext h1) (by unfold I64; omega)).call fun w2 h2 => ⟨_, rfl, h2.keeps, fun hb => ⟨ieq (fault_2 hlen fun h => nd_t hb ⟨hlen, h⟩).symm, h1.trans h2⟩, fun hb => ?_⟩
    have hcut := (nd_f hb).2
    refine ⟨fun k W => 1 ≤ k ∧ k ≤ zs.length ∧ Ext w W ∧ ∀ i, i < k → StepAt s zs i, fun k _ => zs.length - k, ⟨1, rfl, Nat.le_refl _, by omega, h1.trans h2, fun i hi h0 => absurd h0 (by omega)⟩, ?_⟩
    rintro k w3 ⟨hk1, hk, h3, hst⟩
    have hv3 := hv.ext h3
    refine hv3.len ⟨fun hlt => ?_, fun hge => ?_⟩
    · have hlt' : k < zs.length := by omega
      have hc1 := hcut.get hlt'
      have hc2 := hcut.get (show k - 1 < zs.length by omega)
      refine hv3.get k rfl hlt' ⟨by unfold I64; omega, hv3.get (k - 1) (by omega) (by omega) ⟨by unfold I64; omega, _, fun w4 h4 => (impl_absolute_val _ w4 (by unfold I64; omega)).call fun _ h => ⟨rfl, h⟩, fun w4 h4 => ⟨fun hb => ⟨ieq (fault_3 hlen hcut fun h => ?_).symm, h3.trans h4⟩, fun hb => ⟨by unfold I64; omega, k + 1, rfl, ⟨by omega, hlt', h3.trans h4, fun i hi => ?_⟩, by simp only; omega⟩⟩⟩⟩
      · have := (StepAt.of hk1 hlt').1 (h k hlt')
        omega
      · rcases Nat.lt_or_ge i k with h5 | h5
        · exact hst i h5
        · have : i = k := by omega
          subst this
          exact (StepAt.of hk1 hlt').2 (by omega)
    · have hs : StepsOk s zs := fun i hi => hst i (by omega)
      refine hv3.len ⟨fun k W => k ≤ zs.length ∧ Ext w W ∧ ∀ i, i < k → (runAt zs i : Int) ≤ m, fun k _ => zs.length - k, ⟨0, rfl, Nat.zero_le _, h3, fun i hi => absurd hi (Nat.not_lt_zero i)⟩, ?_⟩
      rintro k w4 ⟨hk, h4, hru⟩
      have hv4 := hv.ext h4
      refine ⟨fun hlt => ?_, fun hge => ?_⟩
      · have hlt' : k < zs.length := by omega
        refine ⟨by unfold I64; omega, hv4.sl 0 (k + 1) rfl rfl (Nat.zero_le _) hlt' fun u hu => ?_⟩
        rw [List.drop_zero] at hu
        have hul : (zs.take (k + 1)).length = k + 1 := by rw [List.length_take]; omega
        have e : runAt (zs.take (k + 1)) ((zs.take (k + 1)).length - 1) = runAt zs k := by rw [hul, Nat.add_sub_cancel, runAt_take zs k (k + 1) (by omega)]
        refine ⟨_, fun w5 h5 => (impl_sameRun_val u _ w5 (hu.ext h5) (by omega)).call fun _ h => ⟨rfl, h⟩, fun w5 h5 => ?_⟩
        rw [e]
        refine ⟨fun hb => ⟨ieq (fault_4 hlen hcut hs fun h => ?_).symm, h4.trans h5⟩, fun hb => ⟨by unfold I64; omega, k + 1, rfl, ⟨hlt', h4.trans h5, fun i hi => ?_⟩, by simp only; omega⟩⟩
        · have := h k hlt'
          omega
        · rcases Nat.lt_or_ge i k with h6 | h6
          · exact hru i h6
          · have : i = k := by omega
            subst this
            omega
      · have hr : RunsOk m zs := fun i hi => hru i (by omega)
        refine ⟨_, fun w5 h5 => (impl_different_val v zs w5 (hv4.ext h5)).call fun _ h => ⟨rfl, h⟩, fun w5 h5 => ⟨fun hb => ⟨ieq (fault_5 hlen hcut hs hr hb).symm, h4.trans h5⟩, fun hb => ⟨ieq (fault_0 hlen hcut hs hr hb).symm, h4.trans h5⟩⟩⟩))
def keyFaultR (c d s m l : Int) (zs : List Int) : Value := if MkOk c d s m l then .tuple #[.int .i64 (fault c d s m l zs), .int .i64 0] else .tuple #[.int .i64 0, .int .i64 1]
theorem keyFaultR_pair (c d s m l : Int) (zs : List Int) : ∃ x y, keyFaultR c d s m l zs = .tuple #[.int .i64 x, .int .i64 y] := by
  unfold keyFaultR; split <;> exact ⟨_, _, rfl⟩
def impl_isKey_vc (m_Chambers : Int) (m_Depths : Int) (m_Step : Int) (m_Same : Int) (m_Least : Int) (v : Value) (w : World) (Post : Value → World → Prop) : Prop :=
  ∀ w1 : World, Ext w w1 → Calls Tryd.prog 111 #[(Value.agg #[(Value.int .i64 m_Chambers), (Value.int .i64 m_Depths), (Value.int .i64 m_Step), (Value.int .i64 m_Same), (Value.int .i64 m_Least)]), v] w1 (fun e2 w3 => ∃ n4 : Int, e2 = .returned (Value.int .i64 n4) ∧ Keeps w.heap.size [39] w1 w3 ∧ Post (Value.bool (decide (n4 = (0 : Int)))) w3)
theorem impl_isKey_eq (m_Chambers : Int) (m_Depths : Int) (m_Step : Int) (m_Same : Int) (m_Least : Int) (v : Value) (w : World) (Post : Value → World → Prop) : denF Tryd.prog [] noAnn 89 [(Value.agg #[(Value.int .i64 m_Chambers), (Value.int .i64 m_Depths), (Value.int .i64 m_Step), (Value.int .i64 m_Same), (Value.int .i64 m_Least)]), v] w Post = impl_isKey_vc m_Chambers m_Depths m_Step m_Same m_Least v w Post := by kernel_rfl
set_option maxRecDepth 100000 in
theorem impl_isKey_calls (m_Chambers : Int) (m_Depths : Int) (m_Step : Int) (m_Same : Int) (m_Least : Int) (v : Value) (w : World) (Post : Value → World → Prop) (hvc : impl_isKey_vc m_Chambers m_Depths m_Step m_Same m_Least v w Post) : Ret Tryd.prog 89 #[(Value.agg #[(Value.int .i64 m_Chambers), (Value.int .i64 m_Depths), (Value.int .i64 m_Step), (Value.int .i64 m_Same), (Value.int .i64 m_Least)]), v] w Post :=
  Ret.of (denF_sound mixed (Eq.mpr (impl_isKey_eq m_Chambers m_Depths m_Step m_Same m_Least v w Post) hvc))

theorem impl_isKey_val (c d s m l : Int) (v : Value) (zs : List Int) (w : World) (hv : RI w v zs) (hm : MkOk c d s m l) : Val Tryd.prog 89 #[mkV c d s m l, v] w (.bool (decide (IsK ⟨c, d, s, m, l⟩ zs))) :=
  Ret.val (impl_isKey_calls c d s m l v w _ (by
    unfold impl_isKey_vc
    intro w1 h1
    exact (impl_keyFault_val c d s m l v zs w1 (hv.ext h1) hm).call fun w2 h2 => ⟨_, rfl, h2.keeps, beq_val (decide_eq_decide.2 (fault_zero (M := ⟨c, d, s, m, l⟩))), h1.trans h2⟩))
/-! ### the reference -/
def spec_l01Abs_vc (n : Int) (w : World) (Post : Value → World → Prop) : Prop :=
  I64 (-n) ∧ Post (Value.int .i64 (max n (-n))) w
theorem spec_l01Abs_eq (n : Int) (w : World) (Post : Value → World → Prop) : denF Tryd.prog [] noAnn 102 [(Value.int .i64 n)] w Post = spec_l01Abs_vc n w Post := by kernel_rfl
set_option maxRecDepth 100000 in
theorem spec_l01Abs_calls (n : Int) (w : World) (Post : Value → World → Prop) (hvc : spec_l01Abs_vc n w Post) : Ret Tryd.prog 102 #[(Value.int .i64 n)] w Post :=
  Ret.of (denF_sound mixed (Eq.mpr (spec_l01Abs_eq n w Post) hvc))

theorem spec_l01Abs_val (n : Int) (w : World) (h : I64 (-n)) : Val Tryd.prog 102 #[.int .i64 n] w (.int .i64 (max n (-n))) :=
  Ret.val (spec_l01Abs_calls n w _ ⟨h, rfl, .refl w⟩)
def spec_l02Cuts_A (m_Chambers : Int) (m_Depths : Int) (m_Step : Int) (m_Same : Int) (m_Least : Int) (v : Value) (zs : List Int) (w : World) : Nat → Ann := fun κ => match κ with
  | 0 => { σ := Nat, sli := [5], slc := fun s => [SV.v (Value.int .i64 (s : Int))], bxi := [], bxc := fun s => [], inv := fun s W => True, μ := fun s W => 0, free := true }
  | _ => { σ := Unit, sli := [], slc := fun _ => [], bxi := [], bxc := fun _ => [], inv := fun _ _ => False, μ := fun _ _ => 0 }
abbrev spec_l02Cuts_k0 (s3 : Nat) (w4 : World) (J5 : Nat → World → Prop) (m6 : Nat → World → Nat) (x20 : Int) (w32 : World) : Prop :=
  I64 (x20 + 1) ∧ ∃ s33 : Nat, (Value.int .i64 (x20 + 1)) = (Value.int .i64 (s33 : Int)) ∧ (J5 s33 w32) ∧ (m6 s33 w32) < (m6 s3 w4)
abbrev spec_l02Cuts_k1 (m_Depths : Int) (v : Value) (Post : Value → World → Prop) (s3 : Nat) (w4 : World) (J5 : Nat → World → Prop) (m6 : Nat → World → Nat) (x8 : Int) (w12 : World) : Prop :=
  IxV 1 v x8 (fun ad13 => ∃ n14 : Int, LdV w12 (Value.pointer (some ad13)) (Value.int .i64 n14) ∧ I64 (m_Depths - 1) ∧ ∃ b18 : Bool, (∀ w15 : World, Ext w12 w15 → Calls Tryd.prog 81 #[(Value.int .i64 n14), (Value.int .i64 0), (Value.int .i64 (m_Depths - 1))] w15 (fun e16 w17 => e16 = .returned (Value.bool b18) ∧ Ext w15 w17)) ∧ ∀ w19 : World, Ext w12 w19 → (((!b18) = true → Post (Value.bool false) w19) ∧ ((!b18) = false → (spec_l02Cuts_k0 s3 w4 J5 m6 x8 w19))))
abbrev spec_l02Cuts_k2 (Post : Value → World → Prop) (x39 : Value) (x44 : Int) (w49 : World) : Prop :=
  LenV x39 (fun n50 => Post (Value.bool (decide (n50 = x44))) w49)
def spec_l02Cuts_vc (m_Chambers : Int) (m_Depths : Int) (m_Step : Int) (m_Same : Int) (m_Least : Int) (v : Value) (zs : List Int) (w : World) (Post : Value → World → Prop) : Prop :=
  ∀ w1 : World, Ext w w1 → (∃ (J5 : Nat → World → Prop) (m6 : Nat → World → Nat), ((∃ s2 : Nat, (Value.int .i64 0) = (Value.int .i64 (s2 : Int)) ∧ (J5 s2 w1)) ∧ ∀ (s3 : Nat) (w4 : World), (J5 s3 w4) → LenV v (fun n7 => ((((s3 : Int) < n7) → (spec_l02Cuts_k1 m_Depths v Post s3 w4 J5 m6 (s3 : Int) w4)) ∧ (¬ ((s3 : Int) < n7) → (spec_l02Cuts_k2 Post v m_Chambers w4))))))
theorem spec_l02Cuts_eq (m_Chambers : Int) (m_Depths : Int) (m_Step : Int) (m_Same : Int) (m_Least : Int) (v : Value) (zs : List Int) (w : World) (Post : Value → World → Prop) : denF Tryd.prog [] (spec_l02Cuts_A m_Chambers m_Depths m_Step m_Same m_Least v zs w) 101 [(Value.agg #[(Value.int .i64 m_Chambers), (Value.int .i64 m_Depths), (Value.int .i64 m_Step), (Value.int .i64 m_Same), (Value.int .i64 m_Least)]), v] w Post = spec_l02Cuts_vc m_Chambers m_Depths m_Step m_Same m_Least v zs w Post := by kernel_rfl
set_option maxRecDepth 100000 in
theorem spec_l02Cuts_calls (m_Chambers : Int) (m_Depths : Int) (m_Step : Int) (m_Same : Int) (m_Least : Int) (v : Value) (zs : List Int) (w : World) (Post : Value → World → Prop) (hvc : spec_l02Cuts_vc m_Chambers m_Depths m_Step m_Same m_Least v zs w Post) : Ret Tryd.prog 101 #[(Value.agg #[(Value.int .i64 m_Chambers), (Value.int .i64 m_Depths), (Value.int .i64 m_Step), (Value.int .i64 m_Same), (Value.int .i64 m_Least)]), v] w Post :=
  Ret.of (denF_sound mixed (Eq.mpr (spec_l02Cuts_eq m_Chambers m_Depths m_Step m_Same m_Least v zs w Post) hvc))

theorem spec_l02Cuts_val (c d s m l : Int) (v : Value) (zs : List Int) (w : World) (hv : RI w v zs) (hd : I64 (d - 1)) : Val Tryd.prog 101 #[mkV c d s m l, v] w (.bool (decide ((zs.length : Int) = c ∧ CutsOk d zs))) :=
  Ret.val (spec_l02Cuts_calls c d s m l v zs w _ (by
    unfold spec_l02Cuts_vc
    have hbd := hv.bound
    intro w1 h1
    refine ⟨fun k W => k ≤ zs.length ∧ Ext w W ∧ ∀ z ∈ zs.take k, 0 ≤ z ∧ z ≤ d - 1, fun k _ => zs.length - k, ⟨0, rfl, Nat.zero_le _, h1, by simp⟩, ?_⟩
    rintro k w2 ⟨hk, h2, hall⟩
    have hv2 := hv.ext h2
    refine hv2.len ⟨fun hlt => ?_, fun hge => hv2.len ⟨?_, h2⟩⟩
    · have hlt' : k < zs.length := by omega
      refine hv2.get k rfl hlt' ⟨hd, _, fun w3 h3 => (spec_l01In_val _ _ _ w3).call fun _ h => ⟨rfl, h⟩, fun w3 h3 => ⟨fun hb => ⟨beq_val (decide_eq_false fun hh => nd_t hb (hh.2.get hlt')).symm, h2.trans h3⟩, fun hb => ⟨by unfold I64; omega, k + 1, rfl, ⟨hlt', h2.trans h3, all_take_succ hlt' hall (nd_f hb)⟩, by simp only; omega⟩⟩⟩
    · rw [take_all hge] at hall
      exact beq_val (decide_eq_decide.2 ⟨fun h => ⟨h, hall⟩, fun h => h.1⟩)))
def spec_l02Kinds_A (v : Value) (zs : List Int) (w : World) : Nat → Ann := fun κ => match κ with
  | 0 => { σ := Nat, sli := [4, 3], slc := fun s => [SV.v (Value.int .i64 (s : Int)), SV.v (Value.int .i64 (kindsTo zs s : Int))], bxi := [], bxc := fun s => [], inv := fun s W => True, μ := fun s W => 0, free := true }
  | _ => { σ := Unit, sli := [], slc := fun _ => [], bxi := [], bxc := fun _ => [], inv := fun _ _ => False, μ := fun _ _ => 0 }
abbrev spec_l02Kinds_k0 (zs : List Int) (s2 : Nat) (w3 : World) (J4 : Nat → World → Prop) (m5 : Nat → World → Nat) (x21 : Int) (x22 : Int) (w37 : World) : Prop :=
  I64 (x22 + 1) ∧ ∃ s38 : Nat, (Value.int .i64 (x22 + 1)) = (Value.int .i64 (s38 : Int)) ∧ (Value.int .i64 x21) = (Value.int .i64 (kindsTo zs s38 : Int)) ∧ (J4 s38 w37) ∧ (m5 s38 w37) < (m5 s2 w3)
abbrev spec_l02Kinds_k1 (v : Value) (zs : List Int) (s2 : Nat) (w3 : World) (J4 : Nat → World → Prop) (m5 : Nat → World → Nat) (x7 : Int) (x8 : Int) (w12 : World) : Prop :=
  SlV 1 v none (some x8) none (fun u13 => IxV 1 v x8 (fun ad14 => ∃ n15 : Int, LdV w12 (Value.pointer (some ad14)) (Value.int .i64 n15) ∧ ∃ b19 : Bool, (∀ w16 : World, Ext w12 w16 → Calls Tryd.prog 116 #[u13, (Value.int .i64 n15)] w16 (fun e17 w18 => e17 = .returned (Value.bool b19) ∧ Ext w16 w18)) ∧ ∀ w20 : World, Ext w12 w20 → (((!b19) = true → I64 (x7 + 1) ∧ (spec_l02Kinds_k0 zs s2 w3 J4 m5 (x7 + 1) x8 w20)) ∧ ((!b19) = false → (spec_l02Kinds_k0 zs s2 w3 J4 m5 x7 x8 w20)))))
def spec_l02Kinds_vc (v : Value) (zs : List Int) (w : World) (Post : Value → World → Prop) : Prop :=
  (∃ (J4 : Nat → World → Prop) (m5 : Nat → World → Nat), ((∃ s1 : Nat, (Value.int .i64 0) = (Value.int .i64 (s1 : Int)) ∧ (Value.int .i64 0) = (Value.int .i64 (kindsTo zs s1 : Int)) ∧ (J4 s1 w)) ∧ ∀ (s2 : Nat) (w3 : World), (J4 s2 w3) → LenV v (fun n6 => ((((s2 : Int) < n6) → (spec_l02Kinds_k1 v zs s2 w3 J4 m5 (kindsTo zs s2 : Int) (s2 : Int) w3)) ∧ (¬ ((s2 : Int) < n6) → Post (Value.int .i64 (kindsTo zs s2 : Int)) w3)))))
theorem spec_l02Kinds_eq (v : Value) (zs : List Int) (w : World) (Post : Value → World → Prop) : denF Tryd.prog [] (spec_l02Kinds_A v zs w) 103 [v] w Post = spec_l02Kinds_vc v zs w Post := by kernel_rfl
set_option maxRecDepth 100000 in
theorem spec_l02Kinds_calls (v : Value) (zs : List Int) (w : World) (Post : Value → World → Prop) (hvc : spec_l02Kinds_vc v zs w Post) : Ret Tryd.prog 103 #[v] w Post :=
  Ret.of (denF_sound mixed (Eq.mpr (spec_l02Kinds_eq v zs w Post) hvc))

theorem spec_l02Kinds_val (v : Value) (zs : List Int) (w : World) (hv : RI w v zs) : Val Tryd.prog 103 #[v] w (.int .i64 (kinds zs : Int)) :=
  Ret.val (spec_l02Kinds_calls v zs w _ (by
    unfold spec_l02Kinds_vc
    have hbd := hv.bound
    refine ⟨fun s W => s ≤ zs.length ∧ Ext w W, fun s _ => zs.length - s, ⟨0, rfl, rfl, Nat.zero_le _, .refl w⟩, ?_⟩
    rintro k w1 ⟨hk, h1⟩
    have hkd := kindsTo_le zs k
    have hv1 := hv.ext h1
    refine hv1.len ⟨fun hlt => ?_, fun hge => ?_⟩
    · have hlt' : k < zs.length := by omega
      refine hv1.sl 0 k rfl rfl (Nat.zero_le _) hk fun u hu => hv1.get k rfl hlt' ⟨_, fun w2 h2 => (spec_l01Has_val u _ _ w2 (hu.ext h2)).call fun _ h => ⟨rfl, h⟩, fun w2 h2 => ?_⟩
      rw [List.drop_zero]
      refine ⟨fun hb => ?_, fun hb => ?_⟩
      · exact ⟨by unfold I64; omega, by unfold I64; omega, k + 1, rfl, ieq (by rw [kindsTo_new hlt' (nd_t hb)]; rfl), ⟨hlt', h1.trans h2⟩, by simp only; omega⟩
      · exact ⟨by unfold I64; omega, k + 1, rfl, ieq (by rw [kindsTo_old hlt' (nd_f hb)]), ⟨hlt', h1.trans h2⟩, by simp only; omega⟩
    · have : k = zs.length := by omega
      subst this
      exact ⟨rfl, h1⟩))
def spec_l02Fault_A (m_Chambers : Int) (m_Depths : Int) (m_Step : Int) (m_Same : Int) (m_Least : Int) (v : Value) (zs : List Int) (w : World) : Nat → Ann := fun κ => match κ with
  | 0 => { σ := Nat, sli := [7, 5, 6], slc := fun s => [SV.v (Value.int .i64 (s : Int)), SV.v (Value.int .i64 (runB zs s : Int)), SV.v (Value.int .i64 (mostTo zs s : Int))], bxi := [], bxc := fun s => [], inv := fun s W => True, μ := fun s W => 0, free := true }
  | _ => { σ := Unit, sli := [], slc := fun _ => [], bxi := [], bxc := fun _ => [], inv := fun _ _ => False, μ := fun _ _ => 0 }
abbrev spec_l02Fault_k0 (zs : List Int) (s47 : Nat) (w48 : World) (J49 : Nat → World → Prop) (m50 : Nat → World → Nat) (x173 : Int) (x174 : Int) (x175 : Int) (w207 : World) : Prop :=
  I64 (x175 + 1) ∧ ∃ s208 : Nat, (Value.int .i64 (x175 + 1)) = (Value.int .i64 (s208 : Int)) ∧ (Value.int .i64 x173) = (Value.int .i64 (runB zs s208 : Int)) ∧ (Value.int .i64 x174) = (Value.int .i64 (mostTo zs s208 : Int)) ∧ (J49 s208 w207) ∧ (m50 s208 w207) < (m50 s47 w48)
abbrev spec_l02Fault_k1 (zs : List Int) (s47 : Nat) (w48 : World) (J49 : Nat → World → Prop) (m50 : Nat → World → Nat) (n109 : Int) (n111 : Int) (x113 : Int) (x114 : Int) (x115 : Int) (w142 : World) : Prop :=
  (((n109 ≠ n111) → I64 (0 + 1) ∧ (spec_l02Fault_k0 zs s47 w48 J49 m50 (0 + 1) (max x114 (0 + 1)) x115 w142)) ∧ (¬ (n109 ≠ n111) → I64 (x113 + 1) ∧ (spec_l02Fault_k0 zs s47 w48 J49 m50 (x113 + 1) (max x114 (x113 + 1)) x115 w142)))
abbrev spec_l02Fault_k2 (zs : List Int) (x27 : Value) (s47 : Nat) (w48 : World) (J49 : Nat → World → Prop) (m50 : Nat → World → Nat) (x88 : Int) (x89 : Int) (x90 : Int) (w107 : World) : Prop :=
  ((((0 : Int) < x90) → IxV 1 x27 x90 (fun ad108 => ∃ n109 : Int, LdV w107 (Value.pointer (some ad108)) (Value.int .i64 n109) ∧ I64 (x90 - 1) ∧ IxV 1 x27 (x90 - 1) (fun ad110 => ∃ n111 : Int, LdV w107 (Value.pointer (some ad110)) (Value.int .i64 n111) ∧ ∀ w112 : World, Ext w107 w112 → (spec_l02Fault_k1 zs s47 w48 J49 m50 n109 n111 x88 x89 x90 w112)))) ∧ (¬ ((0 : Int) < x90) → ∀ w209 : World, Ext w107 w209 → I64 (x88 + 1) ∧ (spec_l02Fault_k0 zs s47 w48 J49 m50 (x88 + 1) (max x89 (x88 + 1)) x90 w209)))
abbrev spec_l02Fault_k3 (zs : List Int) (Post : Value → World → Prop) (x27 : Value) (x42 : Int) (s47 : Nat) (w48 : World) (J49 : Nat → World → Prop) (m50 : Nat → World → Nat) (n66 : Int) (x68 : Int) (x69 : Int) (x70 : Int) (w87 : World) : Prop :=
  (((x42 < n66) → Post (Value.int .i64 3) w87) ∧ (¬ (x42 < n66) → (spec_l02Fault_k2 zs x27 s47 w48 J49 m50 x68 x69 x70 w87)))
abbrev spec_l02Fault_k4 (zs : List Int) (Post : Value → World → Prop) (x27 : Value) (x42 : Int) (s47 : Nat) (w48 : World) (J49 : Nat → World → Prop) (m50 : Nat → World → Nat) (x52 : Int) (x53 : Int) (x54 : Int) (w58 : World) : Prop :=
  ((((0 : Int) < x54) → IxV 1 x27 x54 (fun ad59 => ∃ n60 : Int, LdV w58 (Value.pointer (some ad59)) (Value.int .i64 n60) ∧ I64 (x54 - 1) ∧ IxV 1 x27 (x54 - 1) (fun ad61 => ∃ n62 : Int, LdV w58 (Value.pointer (some ad61)) (Value.int .i64 n62) ∧ I64 (n60 - n62) ∧ ∃ n66 : Int, (∀ w63 : World, Ext w58 w63 → Calls Tryd.prog 102 #[(Value.int .i64 (n60 - n62))] w63 (fun e64 w65 => e64 = .returned (Value.int .i64 n66) ∧ Ext w63 w65)) ∧ ∀ w67 : World, Ext w58 w67 → (spec_l02Fault_k3 zs Post x27 x42 s47 w48 J49 m50 n66 x52 x53 x54 w67)))) ∧ (¬ ((0 : Int) < x54) → ∀ w231 : World, Ext w58 w231 → (spec_l02Fault_k2 zs x27 s47 w48 J49 m50 x52 x53 x54 w231)))
abbrev spec_l02Fault_k5 (Post : Value → World → Prop) (x245 : Value) (x247 : Int) (x266 : Int) (x267 : Int) (w268 : World) : Prop :=
  (((x266 < x247) → Post (Value.int .i64 4) w268) ∧ (¬ (x266 < x247) → ∃ n272 : Int, (∀ w269 : World, Ext w268 w269 → Calls Tryd.prog 103 #[x245] w269 (fun e270 w271 => e270 = .returned (Value.int .i64 n272) ∧ Ext w269 w271)) ∧ ∀ w273 : World, Ext w268 w273 → (((n272 < x267) → Post (Value.int .i64 5) w273) ∧ (¬ (n272 < x267) → Post (Value.int .i64 0) w273))))
abbrev spec_l02Fault_k6 (zs : List Int) (Post : Value → World → Prop) (x27 : Value) (x42 : Int) (x43 : Int) (x44 : Int) (w45 : World) : Prop :=
  (∃ (J49 : Nat → World → Prop) (m50 : Nat → World → Nat), ((∃ s46 : Nat, (Value.int .i64 0) = (Value.int .i64 (s46 : Int)) ∧ (Value.int .i64 0) = (Value.int .i64 (runB zs s46 : Int)) ∧ (Value.int .i64 0) = (Value.int .i64 (mostTo zs s46 : Int)) ∧ (J49 s46 w45)) ∧ ∀ (s47 : Nat) (w48 : World), (J49 s47 w48) → LenV x27 (fun n51 => ((((s47 : Int) < n51) → (spec_l02Fault_k4 zs Post x27 x42 s47 w48 J49 m50 (runB zs s47 : Int) (mostTo zs s47 : Int) (s47 : Int) w48)) ∧ (¬ ((s47 : Int) < n51) → (spec_l02Fault_k5 Post x27 (mostTo zs s47 : Int) x43 x44 w48))))))
abbrev spec_l02Fault_k7 (zs : List Int) (w : World) (Post : Value → World → Prop) (x8 : Value) (x13 : Int) (x14 : Int) (x15 : Int) (x16 : Int) (x17 : Int) (w18 : World) : Prop :=
  Calls Tryd.prog 101 #[(Value.agg #[(Value.int .i64 x13), (Value.int .i64 x14), (Value.int .i64 x15), (Value.int .i64 x16), (Value.int .i64 x17)]), x8] w18 (fun e19 w20 => ∃ b21 : Bool, e19 = .returned (Value.bool b21) ∧ Keeps w.heap.size [39] w18 w20 ∧ (((!b21) = true → Post (Value.int .i64 2) w20) ∧ ((!b21) = false → (spec_l02Fault_k6 zs Post x8 x15 x16 x17 w20))))
def spec_l02Fault_vc (m_Chambers : Int) (m_Depths : Int) (m_Step : Int) (m_Same : Int) (m_Least : Int) (v : Value) (zs : List Int) (w : World) (Post : Value → World → Prop) : Prop :=
  ∀ w1 : World, Ext w w1 → LenV v (fun n2 => (((n2 ≠ m_Chambers) → Post (Value.int .i64 1) w1) ∧ (¬ (n2 ≠ m_Chambers) → (spec_l02Fault_k7 zs w Post v m_Chambers m_Depths m_Step m_Same m_Least w1))))
theorem spec_l02Fault_eq (m_Chambers : Int) (m_Depths : Int) (m_Step : Int) (m_Same : Int) (m_Least : Int) (v : Value) (zs : List Int) (w : World) (Post : Value → World → Prop) : denF Tryd.prog [] (spec_l02Fault_A m_Chambers m_Depths m_Step m_Same m_Least v zs w) 72 [(Value.agg #[(Value.int .i64 m_Chambers), (Value.int .i64 m_Depths), (Value.int .i64 m_Step), (Value.int .i64 m_Same), (Value.int .i64 m_Least)]), v] w Post = spec_l02Fault_vc m_Chambers m_Depths m_Step m_Same m_Least v zs w Post := by kernel_rfl
set_option maxRecDepth 100000 in
theorem spec_l02Fault_calls (m_Chambers : Int) (m_Depths : Int) (m_Step : Int) (m_Same : Int) (m_Least : Int) (v : Value) (zs : List Int) (w : World) (Post : Value → World → Prop) (hvc : spec_l02Fault_vc m_Chambers m_Depths m_Step m_Same m_Least v zs w Post) : Ret Tryd.prog 72 #[(Value.agg #[(Value.int .i64 m_Chambers), (Value.int .i64 m_Depths), (Value.int .i64 m_Step), (Value.int .i64 m_Same), (Value.int .i64 m_Least)]), v] w Post :=
  Ret.of (denF_sound mixed (Eq.mpr (spec_l02Fault_eq m_Chambers m_Depths m_Step m_Same m_Least v zs w Post) hvc))

theorem spec_l02Fault_val (c d s m l : Int) (v : Value) (zs : List Int) (w : World) (hv : RI w v zs) (hm : MkOk c d s m l) : Val Tryd.prog 72 #[mkV c d s m l, v] w (.int .i64 (fault c d s m l zs)) :=
  Ret.val (spec_l02Fault_calls c d s m l v zs w _ (by
    unfold spec_l02Fault_vc
    have hbd := hv.bound
    obtain ⟨hm1, hm2, hm3, hm4, hm5⟩ := hm
    intro w1 h1
    refine (hv.ext h1).len ⟨fun hne => ⟨ieq (fault_1 hne).symm, h1⟩, fun he => ?_⟩
    have hlen : (zs.length : Int) = c := Classical.not_not.1 he
    refine (spec_l02Cuts_val c d s m l v zs w1 (hv.ext h1) (by unfold I64; omega)).call fun w2 h2 => ⟨_, rfl, h2.keeps, fun hb => ⟨ieq (fault_2 hlen fun h => nd_t hb ⟨hlen, h⟩).symm, h1.trans h2⟩, fun hb => ?_⟩
    have hcut := (nd_f hb).2
    refine ⟨fun k W => k ≤ zs.length ∧ Ext w W ∧ ∀ i, i < k → StepAt s zs i, fun k _ => zs.length - k, ⟨0, rfl, rfl, rfl, Nat.zero_le _, h1.trans h2, fun i hi => absurd hi (Nat.not_lt_zero i)⟩, ?_⟩
    rintro k w3 ⟨hk, h3, hst⟩
    have hv3 := hv.ext h3
    have hrb := runB_le zs k
    have hmt := mostTo_le zs k
    refine hv3.len ⟨fun hlt => ?_, fun hge => ?_⟩
    · have hlt' : k < zs.length := by omega
      have back : ∀ (w4 : World) (r : Int), Ext w w4 → StepAt s zs k → r = ((runB zs (k + 1) : Nat) : Int) → I64 r ∧ spec_l02Fault_k0 zs k w3 (fun k W => k ≤ zs.length ∧ Ext w W ∧ ∀ i, i < k → StepAt s zs i) (fun k _ => zs.length - k) r (max ((mostTo zs k : Nat) : Int) r) (k : Int) w4 := by
        intro w4 r h4 hsk hr
        have hrb' := runB_le zs (k + 1)
        refine ⟨by unfold I64; omega, by unfold I64; omega, k + 1, rfl, ieq hr, ieq ?_, ⟨hlt', h4, fun i hi => ?_⟩, by simp only; omega⟩
        · rw [hr]
          simp only [mostTo, runB]
          omega
        · rcases Nat.lt_or_ge i k with h5 | h5
          · exact hst i h5
          · have : i = k := by omega
            subst this
            exact hsk
      have tail : ∀ (w4 : World), Ext w w4 → StepAt s zs k → spec_l02Fault_k2 zs v k w3 (fun k W => k ≤ zs.length ∧ Ext w W ∧ ∀ i, i < k → StepAt s zs i) (fun k _ => zs.length - k) (runB zs k : Int) (mostTo zs k : Int) (k : Int) w4 := by
        intro w4 h4 hsk
        have hv4 := hv.ext h4
        refine ⟨fun h0 => ?_, fun h0 w5 h5 => back w5 _ (h4.trans h5) hsk ?_⟩
        · refine hv4.get k rfl hlt' ⟨by unfold I64; omega, hv4.get (k - 1) (by omega) (by omega) fun w5 h5 => ⟨fun hne => back w5 _ (h4.trans h5) hsk ?_, fun he => back w5 _ (h4.trans h5) hsk ?_⟩⟩
          · rw [runB_ne (by omega) (by rw [getD_get hlt', getD_get (show k - 1 < zs.length by omega)]; exact hne)]
            rfl
          · rw [runB_eq (by omega) (by rw [getD_get hlt', getD_get (show k - 1 < zs.length by omega)]; exact Classical.not_not.1 he)]
            rfl
        · have : k = 0 := by omega
          subst this
          rfl
      refine ⟨fun h0 => ?_, fun h0 w4 h4 => tail w4 (h3.trans h4) fun h => absurd h (by omega)⟩
      have hc1 := hcut.get hlt'
      have hc2 := hcut.get (show k - 1 < zs.length by omega)
      refine hv3.get k rfl hlt' ⟨by unfold I64; omega, hv3.get (k - 1) (by omega) (by omega) ⟨by unfold I64; omega, _, fun w4 h4 => (spec_l01Abs_val _ w4 (by unfold I64; omega)).call fun _ h => ⟨rfl, h⟩, fun w4 h4 => ⟨fun hb => ⟨ieq (fault_3 hlen hcut fun h => ?_).symm, h3.trans h4⟩, fun hb => tail w4 (h3.trans h4) ((StepAt.of (by omega) hlt').2 (by omega))⟩⟩⟩
      have := (StepAt.of (by omega) hlt').1 (h k hlt')
      omega
    · have hs : StepsOk s zs := fun i hi => hst i (by omega)
      have hkl : k = zs.length := by omega
      have hmr := mostTo_runs (zs := zs) (m := m) (by omega) k
      refine ⟨fun hb => ⟨ieq (fault_4 hlen hcut hs fun h => ?_).symm, h3⟩, fun hb => ?_⟩
      · have := hmr.2 fun i hi => h i (by omega)
        omega
      · have hr : RunsOk m zs := fun i hi => hmr.1 (by omega) i (by omega)
        exact ⟨_, fun w5 h5 => (spec_l02Kinds_val v zs w5 (hv3.ext h5)).call fun _ h => ⟨rfl, h⟩, fun w5 h5 => ⟨fun hb => ⟨ieq (fault_5 hlen hcut hs hr hb).symm, h3.trans h5⟩, fun hb => ⟨ieq (fault_0 hlen hcut hs hr hb).symm, h3.trans h5⟩⟩⟩))
def spec_l02Begins_A (m_Chambers : Int) (m_Depths : Int) (m_Step : Int) (m_Same : Int) (m_Least : Int) (v : Value) (zs : List Int) (w : World) : Nat → Ann := fun κ => match κ with
  | 0 => { σ := Nat, sli := [6, 5], slc := fun s => [SV.v (Value.int .i64 (s : Int)), SV.v (Value.int .i64 (runB zs s : Int))], bxi := [], bxc := fun s => [], inv := fun s W => True, μ := fun s W => 0, free := true }
  | _ => { σ := Unit, sli := [], slc := fun _ => [], bxi := [], bxc := fun _ => [], inv := fun _ _ => False, μ := fun _ _ => 0 }
abbrev spec_l02Begins_k0 (zs : List Int) (s3 : Nat) (w4 : World) (J5 : Nat → World → Prop) (m6 : Nat → World → Nat) (x114 : Int) (x115 : Int) (w146 : World) : Prop :=
  I64 (x115 + 1) ∧ ∃ s147 : Nat, (Value.int .i64 (x115 + 1)) = (Value.int .i64 (s147 : Int)) ∧ (Value.int .i64 x114) = (Value.int .i64 (runB zs s147 : Int)) ∧ (J5 s147 w146) ∧ (m6 s147 w146) < (m6 s3 w4)
abbrev spec_l02Begins_k1 (m_Step : Int) (zs : List Int) (Post : Value → World → Prop) (s3 : Nat) (w4 : World) (J5 : Nat → World → Prop) (m6 : Nat → World → Nat) (n79 : Int) (x81 : Int) (x82 : Int) (w113 : World) : Prop :=
  (((m_Step < n79) → Post (Value.bool false) w113) ∧ (¬ (m_Step < n79) → (spec_l02Begins_k0 zs s3 w4 J5 m6 x81 x82 w113)))
abbrev spec_l02Begins_k2 (m_Step : Int) (m_Same : Int) (v : Value) (zs : List Int) (Post : Value → World → Prop) (s3 : Nat) (w4 : World) (J5 : Nat → World → Prop) (m6 : Nat → World → Nat) (x35 : Int) (x36 : Int) (w50 : World) : Prop :=
  I64 (x35 + 1) ∧ (((m_Same < (x35 + 1)) → ∀ w51 : World, Ext w50 w51 → Post (Value.bool false) w51) ∧ (¬ (m_Same < (x35 + 1)) → ((((0 : Int) < x36) → IxV 1 v x36 (fun ad72 => ∃ n73 : Int, LdV w50 (Value.pointer (some ad72)) (Value.int .i64 n73) ∧ I64 (x36 - 1) ∧ IxV 1 v (x36 - 1) (fun ad74 => ∃ n75 : Int, LdV w50 (Value.pointer (some ad74)) (Value.int .i64 n75) ∧ I64 (n73 - n75) ∧ ∃ n79 : Int, (∀ w76 : World, Ext w50 w76 → Calls Tryd.prog 102 #[(Value.int .i64 (n73 - n75))] w76 (fun e77 w78 => e77 = .returned (Value.int .i64 n79) ∧ Ext w76 w78)) ∧ ∀ w80 : World, Ext w50 w80 → (spec_l02Begins_k1 m_Step zs Post s3 w4 J5 m6 n79 (x35 + 1) x36 w80)))) ∧ (¬ ((0 : Int) < x36) → ∀ w148 : World, Ext w50 w148 → (spec_l02Begins_k0 zs s3 w4 J5 m6 (x35 + 1) x36 w148)))))
abbrev spec_l02Begins_k3 (m_Step : Int) (m_Same : Int) (v : Value) (zs : List Int) (Post : Value → World → Prop) (s3 : Nat) (w4 : World) (J5 : Nat → World → Prop) (m6 : Nat → World → Nat) (n15 : Int) (n17 : Int) (x19 : Int) (x20 : Int) (w34 : World) : Prop :=
  (((n15 ≠ n17) → (spec_l02Begins_k2 m_Step m_Same v zs Post s3 w4 J5 m6 0 x20 w34)) ∧ (¬ (n15 ≠ n17) → (spec_l02Begins_k2 m_Step m_Same v zs Post s3 w4 J5 m6 x19 x20 w34)))
abbrev spec_l02Begins_k4 (m_Step : Int) (m_Same : Int) (v : Value) (zs : List Int) (Post : Value → World → Prop) (s3 : Nat) (w4 : World) (J5 : Nat → World → Prop) (m6 : Nat → World → Nat) (x8 : Int) (x9 : Int) (w13 : World) : Prop :=
  ((((0 : Int) < x9) → IxV 1 v x9 (fun ad14 => ∃ n15 : Int, LdV w13 (Value.pointer (some ad14)) (Value.int .i64 n15) ∧ I64 (x9 - 1) ∧ IxV 1 v (x9 - 1) (fun ad16 => ∃ n17 : Int, LdV w13 (Value.pointer (some ad16)) (Value.int .i64 n17) ∧ ∀ w18 : World, Ext w13 w18 → (spec_l02Begins_k3 m_Step m_Same v zs Post s3 w4 J5 m6 n15 n17 x8 x9 w18)))) ∧ (¬ ((0 : Int) < x9) → ∀ w170 : World, Ext w13 w170 → (spec_l02Begins_k2 m_Step m_Same v zs Post s3 w4 J5 m6 x8 x9 w170)))
def spec_l02Begins_vc (m_Chambers : Int) (m_Depths : Int) (m_Step : Int) (m_Same : Int) (m_Least : Int) (v : Value) (zs : List Int) (w : World) (Post : Value → World → Prop) : Prop :=
  ∀ w1 : World, Ext w w1 → (∃ (J5 : Nat → World → Prop) (m6 : Nat → World → Nat), ((∃ s2 : Nat, (Value.int .i64 0) = (Value.int .i64 (s2 : Int)) ∧ (Value.int .i64 0) = (Value.int .i64 (runB zs s2 : Int)) ∧ (J5 s2 w1)) ∧ ∀ (s3 : Nat) (w4 : World), (J5 s3 w4) → LenV v (fun n7 => ((((s3 : Int) < n7) → (spec_l02Begins_k4 m_Step m_Same v zs Post s3 w4 J5 m6 (runB zs s3 : Int) (s3 : Int) w4)) ∧ (¬ ((s3 : Int) < n7) → Post (Value.bool true) w4)))))
theorem spec_l02Begins_eq (m_Chambers : Int) (m_Depths : Int) (m_Step : Int) (m_Same : Int) (m_Least : Int) (v : Value) (zs : List Int) (w : World) (Post : Value → World → Prop) : denF Tryd.prog [] (spec_l02Begins_A m_Chambers m_Depths m_Step m_Same m_Least v zs w) 131 [(Value.agg #[(Value.int .i64 m_Chambers), (Value.int .i64 m_Depths), (Value.int .i64 m_Step), (Value.int .i64 m_Same), (Value.int .i64 m_Least)]), v] w Post = spec_l02Begins_vc m_Chambers m_Depths m_Step m_Same m_Least v zs w Post := by kernel_rfl
set_option maxRecDepth 100000 in
theorem spec_l02Begins_calls (m_Chambers : Int) (m_Depths : Int) (m_Step : Int) (m_Same : Int) (m_Least : Int) (v : Value) (zs : List Int) (w : World) (Post : Value → World → Prop) (hvc : spec_l02Begins_vc m_Chambers m_Depths m_Step m_Same m_Least v zs w Post) : Ret Tryd.prog 131 #[(Value.agg #[(Value.int .i64 m_Chambers), (Value.int .i64 m_Depths), (Value.int .i64 m_Step), (Value.int .i64 m_Same), (Value.int .i64 m_Least)]), v] w Post :=
  Ret.of (denF_sound mixed (Eq.mpr (spec_l02Begins_eq m_Chambers m_Depths m_Step m_Same m_Least v zs w Post) hvc))

theorem spec_l02Begins_val (c d s m l : Int) (v : Value) (zs : List Int) (w : World) (hv : RI w v zs) (hd : d ≤ 8) (hcut : CutsOk d zs) : Val Tryd.prog 131 #[mkV c d s m l, v] w (.bool (decide (Begins ⟨c, d, s, m, l⟩ zs))) :=
  Ret.val (spec_l02Begins_calls c d s m l v zs w _ (by
    unfold spec_l02Begins_vc
    have hbd := hv.bound
    intro w1 h1
    refine ⟨fun k W => k ≤ zs.length ∧ Ext w W ∧ ∀ i, i < k → StepAt s zs i ∧ (runAt zs i : Int) ≤ m, fun k _ => zs.length - k, ⟨0, rfl, rfl, Nat.zero_le _, h1, fun i hi => absurd hi (Nat.not_lt_zero i)⟩, ?_⟩
    rintro k w3 ⟨hk, h3, hst⟩
    have hv3 := hv.ext h3
    have hrb := runB_le zs k
    refine hv3.len ⟨fun hlt => ?_, fun hge => ⟨beq_val (decide_eq_true fun i hi => hst i (by omega)).symm, h3⟩⟩
    have hlt' : k < zs.length := by omega
    have no : ¬ (StepAt s zs k ∧ (runAt zs k : Int) ≤ m) → Value.bool false = Value.bool (decide (Begins ⟨c, d, s, m, l⟩ zs)) := fun hn => beq_val (decide_eq_false fun hh => hn (hh k hlt')).symm
    have hrk : ((runB zs (k + 1) : Nat) : Int) = (runAt zs k : Int) := rfl
    have hrb' := runB_le zs (k + 1)
    have back : ∀ (w4 : World) (r : Int), Ext w w4 → StepAt s zs k → r = (runAt zs k : Int) → (runAt zs k : Int) ≤ m → spec_l02Begins_k0 zs k w3 (fun k W => k ≤ zs.length ∧ Ext w W ∧ ∀ i, i < k → StepAt s zs i ∧ (runAt zs i : Int) ≤ m) (fun k _ => zs.length - k) r (k : Int) w4 := by
      intro w4 r h4 hsk hr hrm
      refine ⟨by unfold I64; omega, k + 1, rfl, ieq hr, ⟨hlt', h4, fun i hi => ?_⟩, by simp only; omega⟩
      rcases Nat.lt_or_ge i k with h5 | h5
      · exact hst i h5
      · have : i = k := by omega
        subst this
        exact ⟨hsk, hrm⟩
    have tail : ∀ (w4 : World) (r : Int), Ext w w4 → r + 1 = (runAt zs k : Int) → spec_l02Begins_k2 s m v zs (fun v' w' => v' = Value.bool (decide (Begins ⟨c, d, s, m, l⟩ zs)) ∧ Ext w w') k w3 (fun k W => k ≤ zs.length ∧ Ext w W ∧ ∀ i, i < k → StepAt s zs i ∧ (runAt zs i : Int) ≤ m) (fun k _ => zs.length - k) r (k : Int) w4 := by
      intro w4 r h4 hr
      have hv4 := hv.ext h4
      refine ⟨by unfold I64; omega, fun hb w5 h5 => ⟨no fun hh => ?_, h4.trans h5⟩, fun hb => ⟨fun h0 => ?_, fun h0 w5 h5 => back w5 _ (h4.trans h5) (fun h => absurd h (by omega)) hr (by omega)⟩⟩
      · have := hh.2; omega
      · have hc1 := hcut.get hlt'
        have hc2 := hcut.get (show k - 1 < zs.length by omega)
        refine hv4.get k rfl hlt' ⟨by unfold I64; omega, hv4.get (k - 1) (by omega) (by omega) ⟨by unfold I64; omega, _, fun w5 h5 => (spec_l01Abs_val _ w5 (by unfold I64; omega)).call fun _ h => ⟨rfl, h⟩, fun w5 h5 => ⟨fun hb2 => ⟨no fun hh => ?_, h4.trans h5⟩, fun hb2 => back w5 _ (h4.trans h5) ((StepAt.of (by omega) hlt').2 (by omega)) hr (by omega)⟩⟩⟩
        have := (StepAt.of (by omega) hlt').1 hh.1
        omega
    refine ⟨fun h0 => ?_, fun h0 w4 h4 => tail w4 _ (h3.trans h4) ?_⟩
    · refine hv3.get k rfl hlt' ⟨by unfold I64; omega, hv3.get (k - 1) (by omega) (by omega) fun w5 h5 => ⟨fun hne => tail w5 _ (h3.trans h5) ?_, fun he => tail w5 _ (h3.trans h5) ?_⟩⟩
      · rw [← hrk, runB_ne (by omega) (by rw [getD_get hlt', getD_get (show k - 1 < zs.length by omega)]; exact hne)]
        rfl
      · rw [← hrk, runB_eq (by omega) (by rw [getD_get hlt', getD_get (show k - 1 < zs.length by omega)]; exact Classical.not_not.1 he)]
        rfl
    · have : k = 0 := by omega
      subst this
      rfl))
end Go.Proofs
