/- Contracts: reversing a row, reversed keys. No condition. -/
import Derived.Test.YtccekkkiaebnmaaL03a
set_option linter.unusedVariables false
namespace Go.Proofs
open Go.Sx Go.RowKit
def revTo (zs : List Int) (k : Nat) : List Int := (List.range zs.length).map fun p => if p < k ∨ zs.length ≤ p + k then zs.getD (zs.length - 1 - p) 0 else zs.getD p 0
theorem revTo_length (zs : List Int) (k : Nat) : (revTo zs k).length = zs.length := by simp [revTo]
theorem revTo_get {zs : List Int} {k p : Nat} (hp : p < zs.length) : (revTo zs k)[p]'(by rw [revTo_length]; exact hp) = if p < k ∨ zs.length ≤ p + k then zs.getD (zs.length - 1 - p) 0 else zs.getD p 0 := by simp [revTo]
theorem revTo_zero (zs : List Int) : revTo zs 0 = zs := by
  refine List.ext_getElem (revTo_length zs 0) fun p h1 h2 => ?_
  rw [revTo_get h2, if_neg (by omega)]
  exact getD_get h2
theorem revTo_all {zs : List Int} {k : Nat} (h : zs.length ≤ 2 * k + 1) : revTo zs k = zs.reverse := by
  refine List.ext_getElem (by rw [revTo_length, List.length_reverse]) fun p h1 h2 => ?_
  rw [revTo_length] at h1
  rw [revTo_get h1, List.getElem_reverse]
  split
  · exact getD_get (by omega)
  · have : zs.length - 1 - p = p := by omega
    rw [getD_get h1]
    congr 1
    omega
theorem revTo_step {zs : List Int} {k : Nat} (h : 2 * k + 1 < zs.length) : ((revTo zs k).set k (zs.getD (zs.length - 1 - k) 0)).set (zs.length - 1 - k) (zs.getD k 0) = revTo zs (k + 1) := by
  refine List.ext_getElem (by simp [revTo_length]) fun p h1 h2 => ?_
  rw [revTo_length] at h2
  rw [List.getElem_set, List.getElem_set, revTo_get h2, revTo_get h2]
  by_cases h3 : zs.length - 1 - k = p
  · rw [if_pos h3, if_pos (by omega)]
    congr 1
    omega
  · rw [if_neg h3]
    by_cases h4 : k = p
    · rw [if_pos h4, if_pos (by omega), h4]
    · rw [if_neg h4]
      by_cases h5 : p < k ∨ zs.length ≤ p + k
      · rw [if_pos h5, if_pos (by omega)]
      · rw [if_neg h5, if_neg (by omega)]
/-- as 'setAt', the place told to whatever is asked of it -/
theorem own_setIx {w : World} {v : Value} {xs : List Value} {B : Nat} {e : TypeId} (h : Own B w e v xs) {i : Int} (k : Nat) (hi : i = k) (hk : k < xs.length) {C : Addr → Prop}
    (hC : ∀ ad, (∀ {n0 : Nat} {Ts : List TypeId} {x : Value} {K : World → Prop}, x.oneCell' = true → e ∉ Ts → (∀ w', Own B w' e v (xs.set k x) → w.grownBy w' v.ownBlock → K w') → StV n0 Ts w (.pointer (some ad)) x K) → C ad) : IxV 1 v i C := by
  rcases id h.2 with ⟨rfl, h0⟩ | ⟨g, cap, cur, hv, _⟩
  · have : xs = [] := List.eq_nil_of_length_eq_zero h0
    subst this
    simp at hk
  · have hix := fun {n0 : Nat} {Ts : List TypeId} {x : Value} {K : World → Prop} (h1 : x.oneCell' = true) (hT : e ∉ Ts) (hK : ∀ w', Own B w' e v (xs.set k x) → w.grownBy w' v.ownBlock → K w') => h.setAt (n0 := n0) (Ts := Ts) (x := x) k hi hk h1 hT hK
    obtain ⟨ad0, len0, cap0, e0, l0, l1, _⟩ := hix (n0 := 0) (Ts := []) (x := .bool true) (K := fun _ => True) rfl (by simp) fun _ _ _ => trivial
    refine ⟨ad0, len0, cap0, e0, l0, l1, hC _ fun {n0 Ts x K} h1 hT hK => ?_⟩
    obtain ⟨ad1, len1, cap1, e1, _, _, hst⟩ := hix (n0 := n0) (Ts := Ts) (x := x) (K := K) h1 hT hK
    rw [e0] at e1
    injection e1 with ea el ec
    injection ea with ea
    rw [ea]
    exact hst
theorem ext_grown {w w' : World} (h : Ext w w') (row : Option Nat) : w.grownBy w' row := ⟨h.os, h.tape, h.output, h.size, fun b hb _ => h.block b hb⟩
theorem ints_set (zs : List Int) (k : Nat) (x : Int) : (ints zs).set k (.int .i64 x) = ints (zs.set k x) := by simp [ints]
def slices_Reverse_int64_int64_A (v : Value) (w : World) : Nat → Ann := fun κ => match κ with
  | 0 => { σ := Int × Int, sli := [2, 3], slc := fun s => [SV.v (Value.int .i64 s.1), SV.v (Value.int .i64 s.2)], bxi := [], bxc := fun s => [], inv := fun s W => True, μ := fun s W => 0, free := true }
  | _ => { σ := Unit, sli := [], slc := fun _ => [], bxi := [], bxc := fun _ => [], inv := fun _ _ => False, μ := fun _ _ => 0 }
abbrev slices_Reverse_int64_int64_k0 (w : World) (s3 : Int × Int) (w4 : World) (J5 : (Int × Int) → World → Prop) (m6 : (Int × Int) → World → Nat) (x35 : Int) (x36 : Int) (x41 : Value) (x42 : Int) (x46 : Int) (x50 : Int) (x51 : Addr) (w52 : World) : Prop :=
  StV w.heap.size [] w52 (Value.pointer (some x51)) (Value.int .i64 x46) (fun w53 => IxV 1 x41 x42 (fun ad54 => StV w.heap.size [] w53 (Value.pointer (some ad54)) (Value.int .i64 x50) (fun w55 => I64 (x35 + 1) ∧ I64 (x36 - 1) ∧ ∃ s56 : (Int × Int), (Value.int .i64 (x35 + 1)) = (Value.int .i64 s56.1) ∧ (Value.int .i64 (x36 - 1)) = (Value.int .i64 s56.2) ∧ (J5 s56 w55) ∧ (m6 s56 w55) < (m6 s3 w4))))
abbrev slices_Reverse_int64_int64_k1 (w : World) (s3 : Int × Int) (w4 : World) (J5 : (Int × Int) → World → Prop) (m6 : (Int × Int) → World → Nat) (x58 : Int) (x59 : Int) (x64 : Value) (x72 : Int) (w74 : World) : Prop :=
  IxV 1 x64 x59 (fun ad75 => StV w.heap.size [] w74 (Value.pointer (some ad75)) (Value.int .i64 x72) (fun w76 => I64 (x58 + 1) ∧ I64 (x59 - 1) ∧ ∃ s77 : (Int × Int), (Value.int .i64 (x58 + 1)) = (Value.int .i64 s77.1) ∧ (Value.int .i64 (x59 - 1)) = (Value.int .i64 s77.2) ∧ (J5 s77 w76) ∧ (m6 s77 w76) < (m6 s3 w4)))
abbrev slices_Reverse_int64_int64_k2 (w : World) (s3 : Int × Int) (w4 : World) (J5 : (Int × Int) → World → Prop) (m6 : (Int × Int) → World → Nat) (x18 : Int) (x19 : Int) (x24 : Value) (x28 : Int) (x32 : Int) (x33 : Addr) (w34 : World) : Prop :=
  ((slices_Reverse_int64_int64_k0 w s3 w4 J5 m6 x18 x19 x24 x19 x28 x32 x33 w34) ∧ (StV w.heap.size [] w34 (Value.pointer (some x33)) (Value.int .i64 x28) (fun w57 => (slices_Reverse_int64_int64_k1 w s3 w4 J5 m6 x18 x19 x24 x32 w57))))
abbrev slices_Reverse_int64_int64_k3 (v : Value) (w : World) (s3 : Int × Int) (w4 : World) (J5 : (Int × Int) → World → Prop) (m6 : (Int × Int) → World → Nat) (x96 : Int) (x97 : Int) (x102 : Int) (x110 : Int) (w112 : World) : Prop :=
  IxV 1 v x102 (fun ad113 => StV w.heap.size [] w112 (Value.pointer (some ad113)) (Value.int .i64 x110) (fun w114 => I64 (x96 + 1) ∧ I64 (x97 - 1) ∧ ∃ s115 : (Int × Int), (Value.int .i64 (x96 + 1)) = (Value.int .i64 s115.1) ∧ (Value.int .i64 (x97 - 1)) = (Value.int .i64 s115.2) ∧ (J5 s115 w114) ∧ (m6 s115 w114) < (m6 s3 w4)))
abbrev slices_Reverse_int64_int64_k4 (v : Value) (w : World) (s3 : Int × Int) (w4 : World) (J5 : (Int × Int) → World → Prop) (m6 : (Int × Int) → World → Nat) (x78 : Int) (x79 : Int) (x84 : Int) (x88 : Int) (x92 : Int) (x93 : Addr) (w94 : World) : Prop :=
  ((slices_Reverse_int64_int64_k0 w s3 w4 J5 m6 x78 x79 v x84 x88 x92 x93 w94) ∧ (StV w.heap.size [] w94 (Value.pointer (some x93)) (Value.int .i64 x88) (fun w95 => (slices_Reverse_int64_int64_k3 v w s3 w4 J5 m6 x78 x79 x84 x92 w95))))
abbrev slices_Reverse_int64_int64_k5 (v : Value) (w : World) (s3 : Int × Int) (w4 : World) (J5 : (Int × Int) → World → Prop) (m6 : (Int × Int) → World → Nat) (x117 : Int) (x118 : Int) (x130 : Int) (w132 : World) : Prop :=
  IxV 1 v x118 (fun ad133 => StV w.heap.size [] w132 (Value.pointer (some ad133)) (Value.int .i64 x130) (fun w134 => I64 (x117 + 1) ∧ I64 (x118 - 1) ∧ ∃ s135 : (Int × Int), (Value.int .i64 (x117 + 1)) = (Value.int .i64 s135.1) ∧ (Value.int .i64 (x118 - 1)) = (Value.int .i64 s135.2) ∧ (J5 s135 w134) ∧ (m6 s135 w134) < (m6 s3 w4)))
abbrev slices_Reverse_int64_int64_k6 (v : Value) (w : World) (s3 : Int × Int) (w4 : World) (J5 : (Int × Int) → World → Prop) (m6 : (Int × Int) → World → Nat) (x7 : Int) (x8 : Int) (w11 : World) : Prop :=
  ∀ w12 : World, Ext w11 w12 → IxV 1 v x8 (fun ad13 => ∃ n14 : Int, LdV w12 (Value.pointer (some ad13)) (Value.int .i64 n14) ∧ IxV 1 v x7 (fun ad15 => ∃ n16 : Int, LdV w12 (Value.pointer (some ad15)) (Value.int .i64 n16) ∧ IxV 1 v x7 (fun ad17 => ((slices_Reverse_int64_int64_k2 w s3 w4 J5 m6 x7 x8 v n14 n16 ad17 w12) ∧ (slices_Reverse_int64_int64_k4 v w s3 w4 J5 m6 x7 x8 x8 n14 n16 ad17 w12) ∧ (StV w.heap.size [] w12 (Value.pointer (some ad17)) (Value.int .i64 n14) (fun w116 => (slices_Reverse_int64_int64_k5 v w s3 w4 J5 m6 x7 x8 n16 w116)))))))
def slices_Reverse_int64_int64_vc (v : Value) (w : World) (Post : Value → World → Prop) : Prop :=
  LenV v (fun n1 => I64 (n1 - 1) ∧ (∃ (J5 : (Int × Int) → World → Prop) (m6 : (Int × Int) → World → Nat), ((∃ s2 : (Int × Int), (Value.int .i64 0) = (Value.int .i64 s2.1) ∧ (Value.int .i64 (n1 - 1)) = (Value.int .i64 s2.2) ∧ (J5 s2 w)) ∧ ∀ (s3 : (Int × Int)) (w4 : World), (J5 s3 w4) → (((s3.1 < s3.2) → (slices_Reverse_int64_int64_k6 v w s3 w4 J5 m6 s3.1 s3.2 w4)) ∧ (¬ (s3.1 < s3.2) → Post (Value.tuple #[]) w4)))))
theorem slices_Reverse_int64_int64_eq (v : Value) (w : World) (Post : Value → World → Prop) : denF Try.prog [9700000] (slices_Reverse_int64_int64_A v w) 116 [v] w Post = slices_Reverse_int64_int64_vc v w Post := by kernel_rfl
set_option maxRecDepth 100000 in
theorem slices_Reverse_int64_int64_calls (v : Value) (w : World) (Post : Value → World → Prop) (hvc : slices_Reverse_int64_int64_vc v w Post) : Ret Try.prog 116 #[v] w Post :=
  Ret.of (denF_sound mixed (Eq.mpr (slices_Reverse_int64_int64_eq v w Post) hvc))

theorem slices_Reverse_ret (v : Value) (B : Nat) (zs : List Int) (w : World) (hv : Own B w 2 v (ints zs)) (hl : zs.length ≤ 1000) : Ret Try.prog 116 #[v] w fun r w' => r = .tuple #[] ∧ Own B w' 2 v (ints zs.reverse) ∧ w.grownBy w' v.ownBlock :=
  slices_Reverse_int64_int64_calls v w _ (by
    unfold slices_Reverse_int64_int64_vc
    have hr : RI w v zs := hv.rd
    refine hr.len ⟨by unfold I64; omega, fun s W => ∃ k : Nat, s.1 = k ∧ s.2 = (zs.length : Int) - 1 - k ∧ 2 * k ≤ zs.length + 1 ∧ w.grownBy W v.ownBlock ∧ Own B W 2 v (ints (revTo zs k)), fun s _ => (s.2 - s.1 + 1).toNat, ⟨(0, zs.length - 1), rfl, rfl, 0, rfl, by simp, by omega, World.grownBy.refl w _, by rw [revTo_zero]; exact hv⟩, ?_⟩
    rintro ⟨i, j⟩ w1 ⟨k, hi, hj, hk, g1, o1⟩
    simp only at hi hj
    subst hi hj
    refine ⟨fun hlt => ?_, fun hge => ?_⟩
    · simp only at hlt
      have h2k : 2 * k + 1 < zs.length := by omega
      intro w2 h2
      have o2 := o1.ext h2
      have r2 : RI w2 v (revTo zs k) := o2.rd
      have ek : (revTo zs k)[k]'(by rw [revTo_length]; omega) = zs.getD k 0 := by rw [revTo_get (by omega), if_neg (by omega)]
      have ej : (revTo zs k)[zs.length - 1 - k]'(by rw [revTo_length]; omega) = zs.getD (zs.length - 1 - k) 0 := by rw [revTo_get (by omega), if_neg (by omega)]
      refine r2.get (zs.length - 1 - k) (by simp only; omega) (by rw [revTo_length]; omega) (r2.get k rfl (by rw [revTo_length]; omega) ?_)
      rw [ek, ej]
      have fin : ∀ w3, Own B w3 2 v ((ints (revTo zs k)).set k (.int .i64 (zs.getD (zs.length - 1 - k) 0))) → w2.grownBy w3 v.ownBlock → IxV 1 v ((zs.length : Int) - 1 - k) (fun ad => StV w.heap.size [] w3 (.pointer (some ad)) (.int .i64 (zs.getD k 0)) (fun w4 => I64 ((k : Int) + 1) ∧ I64 ((zs.length : Int) - 1 - k - 1) ∧ ∃ s : Int × Int, Value.int .i64 ((k : Int) + 1) = .int .i64 s.1 ∧ Value.int .i64 ((zs.length : Int) - 1 - k - 1) = .int .i64 s.2 ∧
          (∃ k : Nat, s.1 = k ∧ s.2 = (zs.length : Int) - 1 - k ∧ 2 * k ≤ zs.length + 1 ∧ w.grownBy w4 v.ownBlock ∧ Own B w4 2 v (ints (revTo zs k))) ∧ (s.2 - s.1 + 1).toNat < ((zs.length : Int) - 1 - k - k + 1).toNat)) := by
        intro w3 o3 g3
        rw [ints_set] at o3
        refine o3.setAt (zs.length - 1 - k) (by omega) (by rw [ints_length, List.length_set, revTo_length]; omega) rfl (by simp) fun w4 o4 g4 => ?_
        rw [ints_set, revTo_step h2k] at o4
        exact ⟨by unfold I64; omega, by unfold I64; omega, (k + 1, zs.length - 1 - k - 1), rfl, rfl, ⟨k + 1, by simp, by simp only; omega, by omega, ((g1.trans (ext_grown h2 _)).trans g3).trans g4, o4⟩, by simp only; omega⟩
      refine own_setIx o2 k rfl (by rw [ints_length, revTo_length]; omega) fun ad st => ?_
      exact ⟨⟨st rfl (by simp) fin, st rfl (by simp) fin⟩, ⟨st rfl (by simp) fin, st rfl (by simp) fin⟩, st rfl (by simp) fin⟩
    · simp only at hge
      rw [revTo_all (by omega)] at o1
      exact ⟨rfl, o1, g1⟩)
abbrev impl_ReverseKey_k0 (w : World) (Post : Value → World → Prop) (x12 : Value) (w29 : World) : Prop :=
  Calls Try.prog 94 #[x12] w29 (fun e30 w31 => ∃ u32 : Value, e30 = .returned u32 ∧ Keeps w.heap.size [25] w29 w31 ∧ Calls Try.prog 116 #[u32] w31 (fun e33 w34 => e33 = .returned (Value.tuple #[]) ∧ Keeps w.heap.size [25] w31 w34 ∧ Post (Value.tuple #[u32, (Value.int .i64 0)]) w34))
def impl_ReverseKey_vc (m_Chambers : Int) (m_Depths : Int) (m_Step : Int) (m_Same : Int) (m_Least : Int) (v : Value) (w : World) (Post : Value → World → Prop) : Prop :=
  ∀ w1 : World, Ext w w1 → oneC v (∀ (v2 : Value) (w3 : World), Own w1.heap.size w3 36 v2 [v] → Ext w1 w3 → Calls Try.prog 85 #[(Value.agg #[(Value.int .i64 m_Chambers), (Value.int .i64 m_Depths), (Value.int .i64 m_Step), (Value.int .i64 m_Same), (Value.int .i64 m_Least)]), v2] w3 (fun e4 w5 => ∃ n6 : Int, e4 = .returned (Value.int .i64 n6) ∧ Keeps w.heap.size [25] w3 w5 ∧ (((n6 ≠ (0 : Int)) → Post (Value.tuple #[(Value.slice none 0 0), (Value.int .i64 n6)]) w5) ∧ (¬ (n6 ≠ (0 : Int)) → (impl_ReverseKey_k0 w Post v w5)))))
theorem impl_ReverseKey_eq (m_Chambers : Int) (m_Depths : Int) (m_Step : Int) (m_Same : Int) (m_Least : Int) (v : Value) (w : World) (Post : Value → World → Prop) : denF Try.prog [] noAnn 42 [(Value.agg #[(Value.int .i64 m_Chambers), (Value.int .i64 m_Depths), (Value.int .i64 m_Step), (Value.int .i64 m_Same), (Value.int .i64 m_Least)]), v] w Post = impl_ReverseKey_vc m_Chambers m_Depths m_Step m_Same m_Least v w Post := by kernel_rfl
set_option maxRecDepth 100000 in
theorem impl_ReverseKey_calls (m_Chambers : Int) (m_Depths : Int) (m_Step : Int) (m_Same : Int) (m_Least : Int) (v : Value) (w : World) (Post : Value → World → Prop) (hvc : impl_ReverseKey_vc m_Chambers m_Depths m_Step m_Same m_Least v w Post) : Ret Try.prog 42 #[(Value.agg #[(Value.int .i64 m_Chambers), (Value.int .i64 m_Depths), (Value.int .i64 m_Step), (Value.int .i64 m_Same), (Value.int .i64 m_Least)]), v] w Post :=
  Ret.of (denF_sound mixed (Eq.mpr (impl_ReverseKey_eq m_Chambers m_Depths m_Step m_Same m_Least v w Post) hvc))

theorem impl_ReverseKey_ret (M : Mk) (v : Value) (zs : List Int) (w : World) (hv : RI w v zs) : SlR 42 #[mkV M.c M.d M.s M.m M.l, v] w (revR M zs) (kCode M [zs]) :=
  impl_ReverseKey_calls M.c M.d M.s M.m M.l v w _ (by
    unfold impl_ReverseKey_vc
    intro w0 h0
    refine hv.oneC fun r w1 o1 h1 => ?_
    have k1 := h0.trans h1
    refine (impl_keysCode_val M r [zs] w1 (RR.one1 o1 (hv.ext k1))).call fun w2 h2 => ⟨_, rfl, h2.keeps, fun hne => ?_, fun he => ?_⟩
    · unfold revR; rw [if_neg hne]
      exact ⟨_, rfl, Own.nil_ _ _ _, k1.trans h2⟩
    have he := Classical.not_not.1 he
    have k2 := k1.trans h2
    obtain ⟨hm, _, hl, hl2, hcut⟩ := one_small he
    refine (slices_Clone_ret v zs w2 (hv.ext k2) (by omega) (fun h => by rw [h] at hl2; simp at hl2)).call ?_
    rintro u w3 ⟨o3, h3⟩
    refine ⟨u, rfl, h3.keeps, ?_⟩
    refine (slices_Reverse_ret u w2.heap.size zs w3 o3 (by omega)).call ?_
    rintro _ w4 ⟨rfl, o4, g4⟩
    refine ⟨rfl, o3.keepsG g4 (by decide), u, by rw [he], by unfold revR; rw [if_pos he]; exact o4.mono k2.size, (k2.trans h3).grown o3 k2.size g4⟩)
end Go.Proofs
