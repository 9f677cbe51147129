/- Contracts: what a lock opens for. No condition. -/
import Derived.Test.YtccekkkiaebnmaaL05a
import Derived.Test.YtccekkkiaebnmaaL03a
set_option linter.unusedVariables false
namespace Go.Proofs
open Go.Sx Go.RowKit
def Opn (zss : List (List Int)) (ks : List Int) (k : Nat) : Prop := ∀ i, i < k → ks.getD i 0 ∈ zss.getD i []
instance (zss : List (List Int)) (ks : List Int) (k : Nat) : Decidable (Opn zss ks k) := inferInstanceAs (Decidable (∀ i, i < k → _))
theorem Opn.succ {zss : List (List Int)} {ks : List Int} {k : Nat} (h : Opn zss ks k) (hk : k < ks.length) (hz : k < zss.length) (h1 : ks[k] ∈ zss[k]) : Opn zss ks (k + 1) := by
  intro i hi
  rcases Nat.lt_or_ge i k with h2 | h2
  · exact h i h2
  · have : i = k := by omega
    subst this
    rw [getD_get hk, List.getD, List.getElem?_eq_getElem hz]
    exact h1
theorem Opn.at {zss : List (List Int)} {ks : List Int} {k n : Nat} (h : Opn zss ks n) (hn : k < n) (hk : k < ks.length) (hz : k < zss.length) : ks[k] ∈ zss[k] := by
  have := h k hn
  rwa [getD_get hk, List.getD, List.getElem?_eq_getElem hz] at this
def spec_l04Opens_A (l_Sets : Value) (v : Value) (w : World) : Nat → Ann := fun κ => match κ with
  | 0 => { σ := Nat, sli := [5], slc := fun s => [SV.v (Value.int .i64 (s : Int))], bxi := [], bxc := fun s => [], inv := fun s W => True, μ := fun s W => 0, free := true }
  | _ => { σ := Unit, sli := [], slc := fun _ => [], bxi := [], bxc := fun _ => [], inv := fun _ _ => False, μ := fun _ _ => 0 }
abbrev spec_l04Opens_k0 (s3 : Nat) (w4 : World) (J5 : Nat → World → Prop) (m6 : Nat → World → Nat) (x22 : Int) (w36 : World) : Prop :=
  I64 (x22 + 1) ∧ ∃ s37 : Nat, (Value.int .i64 (x22 + 1)) = (Value.int .i64 (s37 : Int)) ∧ (J5 s37 w36) ∧ (m6 s37 w36) < (m6 s3 w4)
abbrev spec_l04Opens_k1 (l_Sets : Value) (v : Value) (Post : Value → World → Prop) (s3 : Nat) (w4 : World) (J5 : Nat → World → Prop) (m6 : Nat → World → Nat) (x8 : Int) (w12 : World) : Prop :=
  IxV 1 l_Sets x8 (fun ad13 => ∃ u14 : Value, LdV w12 (Value.pointer (some ad13)) u14 ∧ IxV 1 v x8 (fun ad15 => ∃ n16 : Int, LdV w12 (Value.pointer (some ad15)) (Value.int .i64 n16) ∧ ∃ b20 : Bool, (∀ w17 : World, Ext w12 w17 → Calls Try.prog 79 #[u14, (Value.int .i64 n16)] w17 (fun e18 w19 => e18 = .returned (Value.bool b20) ∧ Ext w17 w19)) ∧ ∀ w21 : World, Ext w12 w21 → (((!b20) = true → Post (Value.bool false) w21) ∧ ((!b20) = false → (spec_l04Opens_k0 s3 w4 J5 m6 x8 w21)))))
def spec_l04Opens_vc (l_Sets : Value) (v : Value) (w : World) (Post : Value → World → Prop) : Prop :=
  oneC l_Sets (∀ w1 : World, Ext w w1 → (∃ (J5 : Nat → World → Prop) (m6 : Nat → World → Nat), ((∃ s2 : Nat, (Value.int .i64 0) = (Value.int .i64 (s2 : Int)) ∧ (J5 s2 w1)) ∧ ∀ (s3 : Nat) (w4 : World), (J5 s3 w4) → LenV v (fun n7 => ((((s3 : Int) < n7) → (spec_l04Opens_k1 l_Sets v Post s3 w4 J5 m6 (s3 : Int) w4)) ∧ (¬ ((s3 : Int) < n7) → Post (Value.bool true) w4))))))
theorem spec_l04Opens_eq (l_Sets : Value) (v : Value) (w : World) (Post : Value → World → Prop) : denF Try.prog [] (spec_l04Opens_A l_Sets v w) 122 [(Value.agg #[l_Sets]), v] w Post = spec_l04Opens_vc l_Sets v w Post := by kernel_rfl
set_option maxRecDepth 100000 in
theorem spec_l04Opens_calls (l_Sets : Value) (v : Value) (w : World) (Post : Value → World → Prop) (hvc : spec_l04Opens_vc l_Sets v w Post) : Ret Try.prog 122 #[(Value.agg #[l_Sets]), v] w Post :=
  Ret.of (denF_sound mixed (Eq.mpr (spec_l04Opens_eq l_Sets v w Post) hvc))

theorem spec_l04Opens_val (v u : Value) (zss : List (List Int)) (ks : List Int) (w : World) (h : RR w v zss) (hu : RI w u ks) (hl : ks.length ≤ zss.length) : Val Try.prog 122 #[lkV v, u] w (.bool (decide (Opn zss ks ks.length))) :=
  Ret.val (spec_l04Opens_calls v u w _ (by
    unfold spec_l04Opens_vc
    have hbd := hu.bound
    refine h.oneC fun w1 k1 => ?_
    refine ⟨fun k W => k ≤ ks.length ∧ Ext w W ∧ Opn zss ks k, fun k _ => ks.length - k, ⟨0, rfl, Nat.zero_le _, k1, fun i hi => absurd hi (Nat.not_lt_zero i)⟩, ?_⟩
    rintro k w2 ⟨hk, k2, ho⟩
    refine (hu.ext k2).len ⟨fun hlt => ?_, fun hge => ⟨?_, k2⟩⟩
    · have hlt' : k < ks.length := by omega
      have hz : k < zss.length := by omega
      refine (h.ext k2).get k rfl hz fun x hx => (hu.ext k2).get k rfl hlt' ⟨_, fun w3 h3 => (spec_l01Has_val x ks[k] zss[k] w3 (hx.ext h3)).call fun _ hh => ⟨rfl, hh⟩, fun w3 h3 => ⟨fun hb => ⟨?_, k2.trans h3⟩, fun hb => ⟨by unfold I64; omega, k + 1, rfl, ⟨hlt', k2.trans h3, ho.succ hlt' hz (nd_f hb)⟩, by simp only; omega⟩⟩⟩
      exact beq_val (decide_eq_false fun hh => nd_t hb (hh.at hlt' hlt' hz)).symm
    · have : k = ks.length := by omega
      subst this
      exact beq_val (decide_eq_true ho).symm))
def impl_opens_A (l_Sets : Value) (v : Value) (w : World) : Nat → Ann := fun κ => match κ with
  | 0 => { σ := Nat, sli := [9], slc := fun s => [SV.v (Value.int .i64 (s : Int))], bxi := [], bxc := fun s => [], inv := fun s W => True, μ := fun s W => 0, free := true }
  | _ => { σ := Unit, sli := [], slc := fun _ => [], bxi := [], bxc := fun _ => [], inv := fun _ _ => False, μ := fun _ _ => 0 }
abbrev impl_opens_k0 (s4 : Nat) (w5 : World) (J6 : Nat → World → Prop) (m7 : Nat → World → Nat) (x19 : Int) (w30 : World) : Prop :=
  I64 (x19 + 1) ∧ ∃ s31 : Nat, (Value.int .i64 (x19 + 1)) = (Value.int .i64 (s31 : Int)) ∧ (J6 s31 w30) ∧ (m7 s31 w30) < (m7 s4 w5)
abbrev impl_opens_k1 (l_Sets : Value) (v : Value) (w : World) (Post : Value → World → Prop) (s4 : Nat) (w5 : World) (J6 : Nat → World → Prop) (m7 : Nat → World → Nat) (x8 : Int) (w9 : World) : Prop :=
  IxV 1 v x8 (fun ad10 => ∃ n11 : Int, LdV w9 (Value.pointer (some ad10)) (Value.int .i64 n11) ∧ IxV 1 l_Sets x8 (fun ad12 => ∃ u13 : Value, LdV w9 (Value.pointer (some ad12)) u13 ∧ Calls Try.prog 133 #[u13, (Value.int .i64 n11)] w9 (fun e14 w15 => ∃ b16 : Bool, e14 = .returned (Value.bool b16) ∧ Keeps w.heap.size [28] w9 w15 ∧ (((!b16) = true → Post (Value.bool false) w15) ∧ ((!b16) = false → (impl_opens_k0 s4 w5 J6 m7 x8 w15))))))
def impl_opens_vc (l_Sets : Value) (v : Value) (w : World) (Post : Value → World → Prop) : Prop :=
  oneC l_Sets (∀ w1 : World, Ext w w1 → LenV v (fun n2 => (∃ (J6 : Nat → World → Prop) (m7 : Nat → World → Nat), ((∃ s3 : Nat, (Value.int .i64 0) = (Value.int .i64 (s3 : Int)) ∧ (J6 s3 w1)) ∧ ∀ (s4 : Nat) (w5 : World), (J6 s4 w5) → ((((s4 : Int) < n2) → (impl_opens_k1 l_Sets v w Post s4 w5 J6 m7 (s4 : Int) w5)) ∧ (¬ ((s4 : Int) < n2) → Post (Value.bool true) w5))))))
theorem impl_opens_eq (l_Sets : Value) (v : Value) (w : World) (Post : Value → World → Prop) : denF Try.prog [] (impl_opens_A l_Sets v w) 120 [(Value.agg #[l_Sets]), v] w Post = impl_opens_vc l_Sets v w Post := by kernel_rfl
set_option maxRecDepth 100000 in
theorem impl_opens_calls (l_Sets : Value) (v : Value) (w : World) (Post : Value → World → Prop) (hvc : impl_opens_vc l_Sets v w Post) : Ret Try.prog 120 #[(Value.agg #[l_Sets]), v] w Post :=
  Ret.of (denF_sound mixed (Eq.mpr (impl_opens_eq l_Sets v w Post) hvc))

theorem impl_opens_val (v u : Value) (zss : List (List Int)) (ks : List Int) (w : World) (h : RR w v zss) (hu : RI w u ks) (hl : ks.length ≤ zss.length) : Val Try.prog 120 #[lkV v, u] w (.bool (decide (Opn zss ks ks.length))) :=
  Ret.val (impl_opens_calls v u w _ (by
    unfold impl_opens_vc
    have hbd := hu.bound
    refine h.oneC fun w1 k1 => ?_
    refine (hu.ext k1).len ⟨fun k W => k ≤ ks.length ∧ Ext w W ∧ Opn zss ks k, fun k _ => ks.length - k, ⟨0, rfl, Nat.zero_le _, k1, fun i hi => absurd hi (Nat.not_lt_zero i)⟩, ?_⟩
    rintro k w2 ⟨hk, k2, ho⟩
    refine ⟨fun hlt => ?_, fun hge => ⟨?_, k2⟩⟩
    · have hlt' : k < ks.length := by omega
      have hz : k < zss.length := by omega
      refine (hu.ext k2).get k rfl hlt' ((h.ext k2).get k rfl hz fun x hx => (slices_Contains_val x ks[k] zss[k] w2 hx).call fun w3 h3 => ⟨_, rfl, h3.keeps, fun hb => ⟨?_, k2.trans h3⟩, fun hb => ⟨by unfold I64; omega, k + 1, rfl, ⟨hlt', k2.trans h3, ho.succ hlt' hz (nd_f hb)⟩, by simp only; omega⟩⟩)
      exact beq_val (decide_eq_false fun hh => nd_t hb (hh.at hlt' hlt' hz)).symm
    · have : k = ks.length := by omega
      subst this
      exact beq_val (decide_eq_true ho).symm))
def opCode (c d s m l : Int) (zss : List (List Int)) (ks : List Int) : Int := if LkOk c d s m l zss then (if IsK ⟨c, d, s, m, l⟩ ks then 0 else 2) else 1
def opensR (c d s m l : Int) (zss : List (List Int)) (ks : List Int) : Value := if opCode c d s m l zss ks = 0 then .tuple #[.bool (decide (Opn zss ks ks.length)), .int .i64 0] else .tuple #[.bool false, .int .i64 (opCode c d s m l zss ks)]
theorem opensR_pair (c d s m l : Int) (zss : List (List Int)) (ks : List Int) : ∃ x y, opensR c d s m l zss ks = .tuple #[.bool x, .int .i64 y] := by unfold opensR; split <;> exact ⟨_, _, rfl⟩
theorem opCode_zero {c d s m l : Int} {zss : List (List Int)} {ks : List Int} (h : opCode c d s m l zss ks = 0) : LkOk c d s m l zss ∧ IsK ⟨c, d, s, m, l⟩ ks := by
  unfold opCode at h
  split at h
  · split at h
    · exact ⟨by assumption, by assumption⟩
    · cases h
  · cases h
abbrev spec_l04Code_k0 (w : World) (Post : Value → World → Prop) (x12 : Value) (x22 : Int) (x23 : Int) (x24 : Int) (x25 : Int) (x26 : Int) (w28 : World) : Prop :=
  Calls Try.prog 89 #[(Value.agg #[(Value.int .i64 x22), (Value.int .i64 x23), (Value.int .i64 x24), (Value.int .i64 x25), (Value.int .i64 x26)]), x12] w28 (fun e29 w30 => ∃ n31 : Int, e29 = .returned (Value.int .i64 n31) ∧ Keeps w.heap.size [25, 28] w28 w30 ∧ Post (Value.int .i64 n31) w30)
def spec_l04Code_vc (m_Chambers : Int) (m_Depths : Int) (m_Step : Int) (m_Same : Int) (m_Least : Int) (l_Sets : Value) (v : Value) (w : World) (Post : Value → World → Prop) : Prop :=
  ∀ w1 : World, Ext w w1 → oneC l_Sets (∀ w2 : World, Ext w1 w2 → Calls Try.prog 69 #[(Value.agg #[(Value.int .i64 m_Chambers), (Value.int .i64 m_Depths), (Value.int .i64 m_Step), (Value.int .i64 m_Same), (Value.int .i64 m_Least)]), (Value.agg #[l_Sets])] w2 (fun e3 w4 => ∃ b5 : Bool, e3 = .returned (Value.bool b5) ∧ Keeps w.heap.size [25, 28] w2 w4 ∧ (((!b5) = true → Post (Value.int .i64 1) w4) ∧ ((!b5) = false → (spec_l04Code_k0 w Post v m_Chambers m_Depths m_Step m_Same m_Least w4)))))
theorem spec_l04Code_eq (m_Chambers : Int) (m_Depths : Int) (m_Step : Int) (m_Same : Int) (m_Least : Int) (l_Sets : Value) (v : Value) (w : World) (Post : Value → World → Prop) : denF Try.prog [] noAnn 121 [(Value.agg #[(Value.int .i64 m_Chambers), (Value.int .i64 m_Depths), (Value.int .i64 m_Step), (Value.int .i64 m_Same), (Value.int .i64 m_Least)]), (Value.agg #[l_Sets]), v] w Post = spec_l04Code_vc m_Chambers m_Depths m_Step m_Same m_Least l_Sets v w Post := by kernel_rfl
set_option maxRecDepth 100000 in
theorem spec_l04Code_calls (m_Chambers : Int) (m_Depths : Int) (m_Step : Int) (m_Same : Int) (m_Least : Int) (l_Sets : Value) (v : Value) (w : World) (Post : Value → World → Prop) (hvc : spec_l04Code_vc m_Chambers m_Depths m_Step m_Same m_Least l_Sets v w Post) : Ret Try.prog 121 #[(Value.agg #[(Value.int .i64 m_Chambers), (Value.int .i64 m_Depths), (Value.int .i64 m_Step), (Value.int .i64 m_Same), (Value.int .i64 m_Least)]), (Value.agg #[l_Sets]), v] w Post :=
  Ret.of (denF_sound mixed (Eq.mpr (spec_l04Code_eq m_Chambers m_Depths m_Step m_Same m_Least l_Sets v w Post) hvc))

theorem spec_l04Code_val (c d s m l : Int) (v u : Value) (zss : List (List Int)) (ks : List Int) (w : World) (h : RR w v zss) (hu : RI w u ks) : Val Try.prog 121 #[mkV c d s m l, lkV v, u] w (.int .i64 (opCode c d s m l zss ks)) :=
  Ret.val (spec_l04Code_calls c d s m l v u w _ (by
    unfold spec_l04Code_vc
    intro w1 h1
    refine h.oneC fun w2 h2 => ?_
    have k2 := h1.trans h2
    refine (spec_IsLock_val c d s m l v zss w2 (h.ext k2)).call fun w3 h3 => ⟨_, rfl, h3.keeps, fun hb => ⟨?_, k2.trans h3⟩, fun hb => ?_⟩
    · unfold opCode; rw [if_neg (nd_t hb)]
    have hk := nd_f hb
    have k3 := k2.trans h3
    refine (spec_l02Code_val ⟨c, d, s, m, l⟩ u ks w3 (hu.ext k3)).call fun w4 h4 => ⟨_, rfl, h4.keeps, ?_, k3.trans h4⟩
    unfold opCode kCode
    rw [if_pos hk, if_pos (show MkOk c d s m l from hk.1)]
    simp))
abbrev spec_Opens_k0 (w : World) (Post : Value → World → Prop) (x12 : Value) (x29 : Value) (w30 : World) : Prop :=
  Calls Try.prog 122 #[(Value.agg #[x29]), x12] w30 (fun e31 w32 => ∃ b33 : Bool, e31 = .returned (Value.bool b33) ∧ Keeps w.heap.size [25, 28] w30 w32 ∧ Post (Value.tuple #[(Value.bool b33), (Value.int .i64 0)]) w32)
def spec_Opens_vc (m_Chambers : Int) (m_Depths : Int) (m_Step : Int) (m_Same : Int) (m_Least : Int) (l_Sets : Value) (v : Value) (w : World) (Post : Value → World → Prop) : Prop :=
  ∀ w1 : World, Ext w w1 → oneC l_Sets (∀ w2 : World, Ext w1 w2 → Calls Try.prog 121 #[(Value.agg #[(Value.int .i64 m_Chambers), (Value.int .i64 m_Depths), (Value.int .i64 m_Step), (Value.int .i64 m_Same), (Value.int .i64 m_Least)]), (Value.agg #[l_Sets]), v] w2 (fun e3 w4 => ∃ n5 : Int, e3 = .returned (Value.int .i64 n5) ∧ Keeps w.heap.size [25, 28] w2 w4 ∧ (((n5 ≠ (0 : Int)) → Post (Value.tuple #[(Value.bool false), (Value.int .i64 n5)]) w4) ∧ (¬ (n5 ≠ (0 : Int)) → (spec_Opens_k0 w Post v l_Sets w4)))))
theorem spec_Opens_eq (m_Chambers : Int) (m_Depths : Int) (m_Step : Int) (m_Same : Int) (m_Least : Int) (l_Sets : Value) (v : Value) (w : World) (Post : Value → World → Prop) : denF Try.prog [] noAnn 54 [(Value.agg #[(Value.int .i64 m_Chambers), (Value.int .i64 m_Depths), (Value.int .i64 m_Step), (Value.int .i64 m_Same), (Value.int .i64 m_Least)]), (Value.agg #[l_Sets]), v] w Post = spec_Opens_vc m_Chambers m_Depths m_Step m_Same m_Least l_Sets v w Post := by kernel_rfl
set_option maxRecDepth 100000 in
theorem spec_Opens_calls (m_Chambers : Int) (m_Depths : Int) (m_Step : Int) (m_Same : Int) (m_Least : Int) (l_Sets : Value) (v : Value) (w : World) (Post : Value → World → Prop) (hvc : spec_Opens_vc m_Chambers m_Depths m_Step m_Same m_Least l_Sets v w Post) : Ret Try.prog 54 #[(Value.agg #[(Value.int .i64 m_Chambers), (Value.int .i64 m_Depths), (Value.int .i64 m_Step), (Value.int .i64 m_Same), (Value.int .i64 m_Least)]), (Value.agg #[l_Sets]), v] w Post :=
  Ret.of (denF_sound mixed (Eq.mpr (spec_Opens_eq m_Chambers m_Depths m_Step m_Same m_Least l_Sets v w Post) hvc))

theorem spec_Opens_val (c d s m l : Int) (v u : Value) (zss : List (List Int)) (ks : List Int) (w : World) (h : RR w v zss) (hu : RI w u ks) : Val Try.prog 54 #[mkV c d s m l, lkV v, u] w (opensR c d s m l zss ks) :=
  Ret.val (spec_Opens_calls c d s m l v u w _ (by
    unfold spec_Opens_vc
    intro w1 h1
    refine h.oneC fun w2 h2 => ?_
    have k2 := h1.trans h2
    refine (spec_l04Code_val c d s m l v u zss ks w2 (h.ext k2) (hu.ext k2)).call fun w3 h3 => ⟨_, rfl, h3.keeps, fun hne => ⟨?_, k2.trans h3⟩, fun he => ?_⟩
    · unfold opensR; rw [if_neg hne]
    have he := Classical.not_not.1 he
    have k3 := k2.trans h3
    obtain ⟨p1, p2⟩ := opCode_zero he
    refine (spec_l04Opens_val v u zss ks w3 (h.ext k3) (hu.ext k3) (by have := p1.2.1; have : (ks.length : Int) = c := p2.1; omega)).call fun w4 h4 => ⟨_, rfl, h4.keeps, ?_, k3.trans h4⟩
    unfold opensR; rw [if_pos he]))
abbrev impl_Opens_k0 (w : World) (Post : Value → World → Prop) (x42 : Value) (x67 : Value) (w68 : World) : Prop :=
  Calls Try.prog 120 #[(Value.agg #[x67]), x42] w68 (fun e69 w70 => ∃ b71 : Bool, e69 = .returned (Value.bool b71) ∧ Keeps w.heap.size [25, 28] w68 w70 ∧ Post (Value.tuple #[(Value.bool b71), (Value.int .i64 0)]) w70)
abbrev impl_Opens_k1 (w : World) (Post : Value → World → Prop) (x14 : Value) (x26 : Int) (x27 : Int) (x28 : Int) (x29 : Int) (x30 : Int) (x31 : Value) (w32 : World) : Prop :=
  Calls Try.prog 117 #[(Value.agg #[(Value.int .i64 x26), (Value.int .i64 x27), (Value.int .i64 x28), (Value.int .i64 x29), (Value.int .i64 x30)]), x14] w32 (fun e33 w34 => ∃ b35 : Bool, e33 = .returned (Value.bool b35) ∧ Keeps w.heap.size [25, 28] w32 w34 ∧ (((!b35) = true → Post (Value.tuple #[(Value.bool false), (Value.int .i64 2)]) w34) ∧ ((!b35) = false → (impl_Opens_k0 w Post x14 x31 w34))))
def impl_Opens_vc (m_Chambers : Int) (m_Depths : Int) (m_Step : Int) (m_Same : Int) (m_Least : Int) (l_Sets : Value) (v : Value) (w : World) (Post : Value → World → Prop) : Prop :=
  ∀ w1 : World, Ext w w1 → oneC l_Sets (∀ w2 : World, Ext w1 w2 → oneC l_Sets (∀ (v3 : Value) (w4 : World), Own w2.heap.size w4 28 v3 [l_Sets] → Ext w2 w4 → Calls Try.prog 75 #[(Value.agg #[(Value.int .i64 m_Chambers), (Value.int .i64 m_Depths), (Value.int .i64 m_Step), (Value.int .i64 m_Same), (Value.int .i64 m_Least)]), v3] w4 (fun e5 w6 => ∃ n7 : Int, e5 = .returned (Value.int .i64 n7) ∧ Keeps w.heap.size [25, 28] w4 w6 ∧ (((n7 ≠ (0 : Int)) → Post (Value.tuple #[(Value.bool false), (Value.int .i64 n7)]) w6) ∧ (¬ (n7 ≠ (0 : Int)) → (impl_Opens_k1 w Post v m_Chambers m_Depths m_Step m_Same m_Least l_Sets w6))))))
theorem impl_Opens_eq (m_Chambers : Int) (m_Depths : Int) (m_Step : Int) (m_Same : Int) (m_Least : Int) (l_Sets : Value) (v : Value) (w : World) (Post : Value → World → Prop) : denF Try.prog [] noAnn 53 [(Value.agg #[(Value.int .i64 m_Chambers), (Value.int .i64 m_Depths), (Value.int .i64 m_Step), (Value.int .i64 m_Same), (Value.int .i64 m_Least)]), (Value.agg #[l_Sets]), v] w Post = impl_Opens_vc m_Chambers m_Depths m_Step m_Same m_Least l_Sets v w Post := by kernel_rfl
set_option maxRecDepth 100000 in
theorem impl_Opens_calls (m_Chambers : Int) (m_Depths : Int) (m_Step : Int) (m_Same : Int) (m_Least : Int) (l_Sets : Value) (v : Value) (w : World) (Post : Value → World → Prop) (hvc : impl_Opens_vc m_Chambers m_Depths m_Step m_Same m_Least l_Sets v w Post) : Ret Try.prog 53 #[(Value.agg #[(Value.int .i64 m_Chambers), (Value.int .i64 m_Depths), (Value.int .i64 m_Step), (Value.int .i64 m_Same), (Value.int .i64 m_Least)]), (Value.agg #[l_Sets]), v] w Post :=
  Ret.of (denF_sound mixed (Eq.mpr (impl_Opens_eq m_Chambers m_Depths m_Step m_Same m_Least l_Sets v w Post) hvc))

theorem impl_Opens_val (c d s m l : Int) (v u : Value) (zss : List (List Int)) (ks : List Int) (w : World) (h : RR w v zss) (hu : RI w u ks) : Val Try.prog 53 #[mkV c d s m l, lkV v, u] w (opensR c d s m l zss ks) :=
  Ret.val (impl_Opens_calls c d s m l v u w _ (by
    unfold impl_Opens_vc
    intro w1 h1
    refine h.oneC fun w2 h2 => h.oneC fun v3 w4 o4 h4 => ?_
    have k4 := (h1.trans h2).trans h4
    refine (impl_locksCode_val c d s m l v3 [zss] w4 (RLs.one o4 (h.ext k4))).call fun w5 h5 => ⟨_, rfl, h5.keeps, ?_⟩
    rw [locksR_one]
    have k5 := k4.trans h5
    by_cases hk : LkOk c d s m l zss
    · rw [if_pos hk]
      refine ⟨fun hne => absurd rfl hne, fun _ => ?_⟩
      refine (impl_isKey_val c d s m l u ks w5 (hu.ext k5) hk.1).call fun w6 h6 => ⟨_, rfl, h6.keeps, fun hb => ⟨?_, k5.trans h6⟩, fun hb => ?_⟩
      · have e : opCode c d s m l zss ks = 2 := by unfold opCode; rw [if_pos hk, if_neg (nd_t hb)]
        unfold opensR; rw [e, if_neg (by decide)]
      have hK := nd_f hb
      have k6 := k5.trans h6
      refine (impl_opens_val v u zss ks w6 (h.ext k6) (hu.ext k6) (by have := hk.2.1; have : (ks.length : Int) = c := hK.1; omega)).call fun w7 h7 => ⟨_, rfl, h7.keeps, ?_, k6.trans h7⟩
      have e : opCode c d s m l zss ks = 0 := by unfold opCode; rw [if_pos hk, if_pos hK]
      unfold opensR; rw [if_pos e]
    · rw [if_neg hk]
      refine ⟨fun _ => ⟨?_, k5⟩, fun hn => absurd (by decide) hn⟩
      have e : opCode c d s m l zss ks = 1 := by unfold opCode; rw [if_neg hk]
      unfold opensR; rw [e, if_neg (by decide)]))
end Go.Proofs
