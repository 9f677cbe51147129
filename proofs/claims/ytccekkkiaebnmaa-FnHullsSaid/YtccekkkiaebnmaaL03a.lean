/- Codes of keys, differences and distances, mirrored and reversed keys. No condition. -/
import Derived.Test.YtccekkkiaebnmaaL02d
set_option linter.unusedVariables false
namespace Go.Proofs
open Go.Sx Go.RowKit
/-! ### the code of keys -/
abbrev Mk.v (M : Mk) : Value := mkV M.c M.d M.s M.m M.l
def kCode (M : Mk) (zss : List (List Int)) : Int := if MkOk M.c M.d M.s M.m M.l then (if ∀ z ∈ zss, IsK M z then 0 else 2) else 1
theorem kCode_no {M : Mk} {zss : List (List Int)} (h : ¬ MkOk M.c M.d M.s M.m M.l) : kCode M zss = 1 := by unfold kCode; rw [if_neg h]
theorem kCode_bad {M : Mk} {zss : List (List Int)} (h : MkOk M.c M.d M.s M.m M.l) (h2 : ¬ ∀ z ∈ zss, IsK M z) : kCode M zss = 2 := by unfold kCode; rw [if_pos h, if_neg h2]
theorem kCode_ok {M : Mk} {zss : List (List Int)} (h : MkOk M.c M.d M.s M.m M.l) (h2 : ∀ z ∈ zss, IsK M z) : kCode M zss = 0 := by unfold kCode; rw [if_pos h, if_pos h2]
theorem kCode_zero {M : Mk} {zss : List (List Int)} (h : kCode M zss = 0) : M.Ok ∧ ∀ z ∈ zss, IsK M z := by
  by_cases hm : MkOk M.c M.d M.s M.m M.l
  · by_cases hk : ∀ z ∈ zss, IsK M z
    · exact ⟨hm, hk⟩
    · rw [kCode_bad hm hk] at h; cases h
  · rw [kCode_no hm] at h; cases h
theorem kCode_two (M : Mk) (a b : List Int) : kCode M [a, b] = if kCode M [a] = 0 then kCode M [b] else kCode M [a] := by
  by_cases hm : MkOk M.c M.d M.s M.m M.l
  · by_cases ha : IsK M a
    · rw [if_pos (kCode_ok hm (by simpa using ha))]
      by_cases hb : IsK M b
      · rw [kCode_ok (zss := [b]) hm (by simpa using hb), kCode_ok hm (by simp [ha, hb])]
      · rw [kCode_bad (zss := [b]) hm (by simpa using hb), kCode_bad hm (by simp [hb])]
    · rw [kCode_bad (zss := [a]) hm (by simpa using ha), if_neg (by decide), kCode_bad hm (by simp [ha])]
  · rw [kCode_no hm, kCode_no hm, kCode_no hm]
    rfl
theorem RR.one1 {B : Nat} {w : World} {e : TypeId} {r v : Value} {zs : List Int} (o : Own B w e r [v]) (h : RI w v zs) : RR w r [zs] := ⟨[v], o.rd, Rows.nil_.snoc h⟩
theorem RR.two2 {B : Nat} {w : World} {e : TypeId} {r u v : Value} {xs zs : List Int} (o : Own B w e r [u, v]) (h : RI w u xs) (h' : RI w v zs) : RR w r [xs, zs] := ⟨[u, v], o.rd, (Rows.nil_.snoc h).snoc h'⟩
theorem rows_take_succ {zss : List (List Int)} {p : List Int → Prop} {k : Nat} (hk : k < zss.length) (h : ∀ z ∈ zss.take k, p z) (h1 : p zss[k]) : ∀ z ∈ zss.take (k + 1), p z := by
  intro z hz
  rw [take_snoc zss k hk, List.mem_append] at hz
  rcases hz with hz | hz
  · exact h z hz
  · simp at hz
    subst hz
    exact h1
abbrev spec_l02Code_k0 (w : World) (Post : Value → World → Prop) (x10 : Value) (x19 : Int) (x20 : Int) (x21 : Int) (x22 : Int) (x23 : Int) (w24 : World) : Prop :=
  Calls Try.prog 142 #[(Value.agg #[(Value.int .i64 x19), (Value.int .i64 x20), (Value.int .i64 x21), (Value.int .i64 x22), (Value.int .i64 x23)]), x10] w24 (fun e25 w26 => ∃ n27 : Int, e25 = .returned (Value.int .i64 n27) ∧ Keeps w.heap.size [25] w24 w26 ∧ (((n27 ≠ (0 : Int)) → Post (Value.int .i64 2) w26) ∧ (¬ (n27 ≠ (0 : Int)) → Post (Value.int .i64 0) w26)))
def spec_l02Code_vc (m_Chambers : Int) (m_Depths : Int) (m_Step : Int) (m_Same : Int) (m_Least : Int) (v : Value) (w : World) (Post : Value → World → Prop) : Prop :=
  ∀ w1 : World, Ext w w1 → Calls Try.prog 72 #[(Value.agg #[(Value.int .i64 m_Chambers), (Value.int .i64 m_Depths), (Value.int .i64 m_Step), (Value.int .i64 m_Same), (Value.int .i64 m_Least)])] w1 (fun e2 w3 => ∃ b4 : Bool, e2 = .returned (Value.bool b4) ∧ Keeps w.heap.size [25] w1 w3 ∧ (((!b4) = true → Post (Value.int .i64 1) w3) ∧ ((!b4) = false → (spec_l02Code_k0 w Post v m_Chambers m_Depths m_Step m_Same m_Least w3))))
theorem spec_l02Code_eq (m_Chambers : Int) (m_Depths : Int) (m_Step : Int) (m_Same : Int) (m_Least : Int) (v : Value) (w : World) (Post : Value → World → Prop) : denF Try.prog [] noAnn 89 [(Value.agg #[(Value.int .i64 m_Chambers), (Value.int .i64 m_Depths), (Value.int .i64 m_Step), (Value.int .i64 m_Same), (Value.int .i64 m_Least)]), v] w Post = spec_l02Code_vc m_Chambers m_Depths m_Step m_Same m_Least v w Post := by kernel_rfl
set_option maxRecDepth 100000 in
theorem spec_l02Code_calls (m_Chambers : Int) (m_Depths : Int) (m_Step : Int) (m_Same : Int) (m_Least : Int) (v : Value) (w : World) (Post : Value → World → Prop) (hvc : spec_l02Code_vc m_Chambers m_Depths m_Step m_Same m_Least v w Post) : Ret Try.prog 89 #[(Value.agg #[(Value.int .i64 m_Chambers), (Value.int .i64 m_Depths), (Value.int .i64 m_Step), (Value.int .i64 m_Same), (Value.int .i64 m_Least)]), v] w Post :=
  Ret.of (denF_sound mixed (Eq.mpr (spec_l02Code_eq m_Chambers m_Depths m_Step m_Same m_Least v w Post) hvc))

theorem spec_l02Code_val (M : Mk) (v : Value) (zs : List Int) (w : World) (hv : RI w v zs) : Val Try.prog 89 #[mkV M.c M.d M.s M.m M.l, v] w (.int .i64 (kCode M [zs])) :=
  Ret.val (spec_l02Code_calls M.c M.d M.s M.m M.l v w _ (by
    unfold spec_l02Code_vc
    intro w1 h1
    refine (spec_IsMaker_val ..).call fun w2 h2 => ⟨_, rfl, h2.keeps, fun hb => ⟨by rw [kCode_no (nd_t hb)], h1.trans h2⟩, fun hb => ?_⟩
    have hm := nd_f hb
    have k2 := h1.trans h2
    refine (spec_l02Fault_val M.c M.d M.s M.m M.l v zs w2 (hv.ext k2) hm).call fun w3 h3 => ⟨_, rfl, h3.keeps, fun hb => ⟨?_, k2.trans h3⟩, fun hb => ⟨?_, k2.trans h3⟩⟩
    · rw [kCode_bad hm fun hh => hb (fault_zero.2 (hh zs (by simp)))]
    · rw [kCode_ok hm fun z hz => by simp at hz; subst hz; exact fault_zero.1 (Classical.not_not.1 hb)]))
def impl_keysCode_A (m_Chambers : Int) (m_Depths : Int) (m_Step : Int) (m_Same : Int) (m_Least : Int) (v : Value) (w : World) : Nat → Ann := fun κ => match κ with
  | 0 => { σ := Nat, sli := [12], slc := fun s => [SV.v (Value.int .i64 (s : Int))], bxi := [], bxc := fun s => [], inv := fun s W => True, μ := fun s W => 0, free := true }
  | _ => { σ := Unit, sli := [], slc := fun _ => [], bxi := [], bxc := fun _ => [], inv := fun _ _ => False, μ := fun _ _ => 0 }
abbrev impl_keysCode_k0 (s27 : Nat) (w28 : World) (J29 : Nat → World → Prop) (m30 : Nat → World → Nat) (x39 : Int) (w50 : World) : Prop :=
  I64 (x39 + 1) ∧ ∃ s51 : Nat, (Value.int .i64 (x39 + 1)) = (Value.int .i64 (s51 : Int)) ∧ (J29 s51 w50) ∧ (m30 s51 w50) < (m30 s27 w28)
abbrev impl_keysCode_k1 (w : World) (Post : Value → World → Prop) (x10 : Value) (x19 : Int) (x20 : Int) (x21 : Int) (x22 : Int) (x23 : Int) (s27 : Nat) (w28 : World) (J29 : Nat → World → Prop) (m30 : Nat → World → Nat) (x31 : Int) (w32 : World) : Prop :=
  IxV 1 x10 x31 (fun ad33 => ∃ u34 : Value, LdV w32 (Value.pointer (some ad33)) u34 ∧ Calls Try.prog 117 #[(Value.agg #[(Value.int .i64 x19), (Value.int .i64 x20), (Value.int .i64 x21), (Value.int .i64 x22), (Value.int .i64 x23)]), u34] w32 (fun e35 w36 => ∃ b37 : Bool, e35 = .returned (Value.bool b37) ∧ Keeps w.heap.size [25] w32 w36 ∧ (((!b37) = true → Post (Value.int .i64 2) w36) ∧ ((!b37) = false → (impl_keysCode_k0 s27 w28 J29 m30 x31 w36)))))
abbrev impl_keysCode_k2 (w : World) (Post : Value → World → Prop) (x10 : Value) (x19 : Int) (x20 : Int) (x21 : Int) (x22 : Int) (x23 : Int) (w24 : World) : Prop :=
  LenV x10 (fun n25 => (∃ (J29 : Nat → World → Prop) (m30 : Nat → World → Nat), ((∃ s26 : Nat, (Value.int .i64 0) = (Value.int .i64 (s26 : Int)) ∧ (J29 s26 w24)) ∧ ∀ (s27 : Nat) (w28 : World), (J29 s27 w28) → ((((s27 : Int) < n25) → (impl_keysCode_k1 w Post x10 x19 x20 x21 x22 x23 s27 w28 J29 m30 (s27 : Int) w28)) ∧ (¬ ((s27 : Int) < n25) → Post (Value.int .i64 0) w28)))))
def impl_keysCode_vc (m_Chambers : Int) (m_Depths : Int) (m_Step : Int) (m_Same : Int) (m_Least : Int) (v : Value) (w : World) (Post : Value → World → Prop) : Prop :=
  ∀ w1 : World, Ext w w1 → Calls Try.prog 92 #[(Value.agg #[(Value.int .i64 m_Chambers), (Value.int .i64 m_Depths), (Value.int .i64 m_Step), (Value.int .i64 m_Same), (Value.int .i64 m_Least)])] w1 (fun e2 w3 => ∃ b4 : Bool, e2 = .returned (Value.bool b4) ∧ Keeps w.heap.size [25] w1 w3 ∧ (((!b4) = true → Post (Value.int .i64 1) w3) ∧ ((!b4) = false → (impl_keysCode_k2 w Post v m_Chambers m_Depths m_Step m_Same m_Least w3))))
theorem impl_keysCode_eq (m_Chambers : Int) (m_Depths : Int) (m_Step : Int) (m_Same : Int) (m_Least : Int) (v : Value) (w : World) (Post : Value → World → Prop) : denF Try.prog [] (impl_keysCode_A m_Chambers m_Depths m_Step m_Same m_Least v w) 85 [(Value.agg #[(Value.int .i64 m_Chambers), (Value.int .i64 m_Depths), (Value.int .i64 m_Step), (Value.int .i64 m_Same), (Value.int .i64 m_Least)]), v] w Post = impl_keysCode_vc m_Chambers m_Depths m_Step m_Same m_Least v w Post := by kernel_rfl
set_option maxRecDepth 100000 in
theorem impl_keysCode_calls (m_Chambers : Int) (m_Depths : Int) (m_Step : Int) (m_Same : Int) (m_Least : Int) (v : Value) (w : World) (Post : Value → World → Prop) (hvc : impl_keysCode_vc m_Chambers m_Depths m_Step m_Same m_Least v w Post) : Ret Try.prog 85 #[(Value.agg #[(Value.int .i64 m_Chambers), (Value.int .i64 m_Depths), (Value.int .i64 m_Step), (Value.int .i64 m_Same), (Value.int .i64 m_Least)]), v] w Post :=
  Ret.of (denF_sound mixed (Eq.mpr (impl_keysCode_eq m_Chambers m_Depths m_Step m_Same m_Least v w Post) hvc))

theorem impl_keysCode_val (M : Mk) (v : Value) (zss : List (List Int)) (w : World) (h : RR w v zss) : Val Try.prog 85 #[mkV M.c M.d M.s M.m M.l, v] w (.int .i64 (kCode M zss)) :=
  Ret.val (impl_keysCode_calls M.c M.d M.s M.m M.l v w _ (by
    unfold impl_keysCode_vc
    have hbd := h.bound
    intro w1 h1
    refine (impl_IsMaker_val ..).call fun w2 h2 => ⟨_, rfl, h2.keeps, fun hb => ⟨by rw [kCode_no (nd_t hb)], h1.trans h2⟩, fun hb => ?_⟩
    have hm := nd_f hb
    have k2 := h1.trans h2
    refine (h.ext k2).len ⟨fun k W => k ≤ zss.length ∧ Ext w W ∧ ∀ z ∈ zss.take k, IsK M z, fun k _ => zss.length - k, ⟨0, rfl, Nat.zero_le _, k2, by simp⟩, ?_⟩
    rintro k w3 ⟨hk, k3, hall⟩
    refine ⟨fun hlt => ?_, fun hge => ⟨?_, k3⟩⟩
    · have hlt' : k < zss.length := by omega
      refine (h.ext k3).get k rfl hlt' fun u hu => ?_
      refine (impl_isKey_val M.c M.d M.s M.m M.l u zss[k] w3 hu hm).call fun w6 h6 => ⟨_, rfl, h6.keeps, fun hb => ⟨?_, k3.trans h6⟩, fun hb => ⟨by unfold I64; omega, k + 1, rfl, ⟨hlt', k3.trans h6, rows_take_succ hlt' hall (nd_f hb)⟩, by simp only; omega⟩⟩
      rw [kCode_bad hm fun hh => nd_t hb (hh _ (List.getElem_mem hlt'))]
    · have e : zss.take k = zss := List.take_of_length_le (by omega)
      rw [e] at hall
      rw [kCode_ok hm hall]))
/-! ### differences and distances -/
def diffTo (a b : List Int) : Nat → Int
  | 0 => 0
  | k + 1 => if a.getD k 0 ≠ b.getD k 0 then diffTo a b k + 1 else diffTo a b k
theorem diffTo_range (a b : List Int) : ∀ k : Nat, 0 ≤ diffTo a b k ∧ diffTo a b k ≤ k
  | 0 => by simp [diffTo]
  | k + 1 => by
    have := diffTo_range a b k
    unfold diffTo
    split <;> omega
def farTo (a b : List Int) : Nat → Int
  | 0 => 0
  | k + 1 => farTo a b k + max (a.getD k 0 - b.getD k 0) (-(a.getD k 0 - b.getD k 0))
theorem farTo_range {a b : List Int} (ha : ∀ z ∈ a, 0 ≤ z ∧ z ≤ 7) (hb : ∀ z ∈ b, 0 ≤ z ∧ z ≤ 7) : ∀ k : Nat, k ≤ a.length → k ≤ b.length → 0 ≤ farTo a b k ∧ farTo a b k ≤ 7 * k
  | 0, _, _ => by simp [farTo]
  | k + 1, h1, h2 => by
    have ih := farTo_range ha hb k (by omega) (by omega)
    have h3 := ha _ (List.getElem_mem (show k < a.length by omega))
    have h4 := hb _ (List.getElem_mem (show k < b.length by omega))
    unfold farTo
    rw [getD_get (show k < a.length by omega), getD_get (show k < b.length by omega)]
    omega
theorem IsK.small {M : Mk} {zs : List Int} (hm : M.Ok) (h : IsK M zs) : zs.length ≤ 6 ∧ 2 ≤ zs.length ∧ (zs.length : Int) = M.c ∧ ∀ z ∈ zs, 0 ≤ z ∧ z ≤ 7 := by
  have hc := hm.1
  have hd := hm.2.1
  have h1 := h.1
  refine ⟨by omega, by omega, h1, fun z hz => ?_⟩
  have := h.2.1 z hz
  omega
def impl_differenceOf_A (u : Value) (v : Value) (w : World) : Nat → Ann := fun κ => match κ with
  | 0 => { σ := Nat × Int, sli := [9, 5], slc := fun s => [SV.v (Value.int .i64 (s.1 : Int)), SV.v (Value.int .i64 s.2)], bxi := [], bxc := fun s => [], inv := fun s W => True, μ := fun s W => 0, free := true }
  | _ => { σ := Unit, sli := [], slc := fun _ => [], bxi := [], bxc := fun _ => [], inv := fun _ _ => False, μ := fun _ _ => 0 }
abbrev impl_differenceOf_k0 (s3 : Nat × Int) (w4 : World) (J5 : (Nat × Int) → World → Prop) (m6 : (Nat × Int) → World → Nat) (x15 : Int) (x17 : Int) (w29 : World) : Prop :=
  I64 (x17 + 1) ∧ ∃ s30 : (Nat × Int), (Value.int .i64 (x17 + 1)) = (Value.int .i64 (s30.1 : Int)) ∧ (Value.int .i64 x15) = (Value.int .i64 s30.2) ∧ (J5 s30 w29) ∧ (m6 s30 w29) < (m6 s3 w4)
abbrev impl_differenceOf_k1 (u : Value) (v : Value) (s3 : Nat × Int) (w4 : World) (J5 : (Nat × Int) → World → Prop) (m6 : (Nat × Int) → World → Nat) (x7 : Int) (x8 : Int) (w9 : World) : Prop :=
  IxV 1 u x8 (fun ad10 => ∃ n11 : Int, LdV w9 (Value.pointer (some ad10)) (Value.int .i64 n11) ∧ IxV 1 v x8 (fun ad12 => ∃ n13 : Int, LdV w9 (Value.pointer (some ad12)) (Value.int .i64 n13) ∧ ∀ w14 : World, Ext w9 w14 → (((n11 ≠ n13) → I64 (x7 + 1) ∧ (impl_differenceOf_k0 s3 w4 J5 m6 (x7 + 1) x8 w14)) ∧ (¬ (n11 ≠ n13) → (impl_differenceOf_k0 s3 w4 J5 m6 x7 x8 w14)))))
def impl_differenceOf_vc (u : Value) (v : Value) (w : World) (Post : Value → World → Prop) : Prop :=
  LenV u (fun n1 => (∃ (J5 : (Nat × Int) → World → Prop) (m6 : (Nat × Int) → World → Nat), ((∃ s2 : (Nat × Int), (Value.int .i64 0) = (Value.int .i64 (s2.1 : Int)) ∧ (Value.int .i64 0) = (Value.int .i64 s2.2) ∧ (J5 s2 w)) ∧ ∀ (s3 : (Nat × Int)) (w4 : World), (J5 s3 w4) → ((((s3.1 : Int) < n1) → (impl_differenceOf_k1 u v s3 w4 J5 m6 s3.2 (s3.1 : Int) w4)) ∧ (¬ ((s3.1 : Int) < n1) → Post (Value.int .i64 s3.2) w4)))))
theorem impl_differenceOf_eq (u : Value) (v : Value) (w : World) (Post : Value → World → Prop) : denF Try.prog [] (impl_differenceOf_A u v w) 106 [u, v] w Post = impl_differenceOf_vc u v w Post := by kernel_rfl
set_option maxRecDepth 100000 in
theorem impl_differenceOf_calls (u : Value) (v : Value) (w : World) (Post : Value → World → Prop) (hvc : impl_differenceOf_vc u v w Post) : Ret Try.prog 106 #[u, v] w Post :=
  Ret.of (denF_sound mixed (Eq.mpr (impl_differenceOf_eq u v w Post) hvc))

theorem impl_differenceOf_val (u v : Value) (a b : List Int) (w : World) (hu : RI w u a) (hv : RI w v b) (hab : a.length = b.length) (hl : a.length ≤ 100) : Val Try.prog 106 #[u, v] w (.int .i64 (diffTo a b a.length)) :=
  Ret.val (impl_differenceOf_calls u v w _ (by
    unfold impl_differenceOf_vc
    refine hu.len ⟨fun s W => s.1 ≤ a.length ∧ s.2 = diffTo a b s.1 ∧ Ext w W, fun s _ => a.length - s.1, ⟨(0, 0), rfl, rfl, Nat.zero_le _, rfl, .refl w⟩, ?_⟩
    rintro ⟨k, n⟩ w1 ⟨hk, hn, h1⟩
    simp only at hk hn
    subst hn
    refine ⟨fun hlt => ?_, fun hge => ⟨?_, h1⟩⟩
    · have hlt' : k < a.length := by simp only at hlt; omega
      have hr := diffTo_range a b k
      refine (hu.ext h1).get k rfl hlt' ((hv.ext h1).get k rfl (by omega) fun w2 h2 => ⟨fun hne => ⟨by unfold I64; simp only; omega, by unfold I64; simp only; omega, (k + 1, diffTo a b (k + 1)), rfl, ieq ?_, ⟨hlt', rfl, h1.trans h2⟩, by simp only; omega⟩, fun he => ⟨by unfold I64; simp only; omega, (k + 1, diffTo a b (k + 1)), rfl, ieq ?_, ⟨hlt', rfl, h1.trans h2⟩, by simp only; omega⟩⟩)
      · simp only [diffTo]; rw [getD_get hlt', getD_get (show k < b.length by omega), if_pos hne]
      · simp only [diffTo]; rw [getD_get hlt', getD_get (show k < b.length by omega), if_neg he]
    · have : k = a.length := by simp only at hge; omega
      subst this; rfl))
def spec_l03Distance_A (u : Value) (v : Value) (w : World) : Nat → Ann := fun κ => match κ with
  | 0 => { σ := Nat × Int, sli := [6, 5], slc := fun s => [SV.v (Value.int .i64 (s.1 : Int)), SV.v (Value.int .i64 s.2)], bxi := [], bxc := fun s => [], inv := fun s W => True, μ := fun s W => 0, free := true }
  | _ => { σ := Unit, sli := [], slc := fun _ => [], bxi := [], bxc := fun _ => [], inv := fun _ _ => False, μ := fun _ _ => 0 }
abbrev spec_l03Distance_k0 (u : Value) (v : Value) (s2 : Nat × Int) (w3 : World) (J4 : (Nat × Int) → World → Prop) (m5 : (Nat × Int) → World → Nat) (x7 : Int) (x8 : Int) (w12 : World) : Prop :=
  IxV 1 u x8 (fun ad13 => ∃ n14 : Int, LdV w12 (Value.pointer (some ad13)) (Value.int .i64 n14) ∧ IxV 1 v x8 (fun ad15 => ∃ n16 : Int, LdV w12 (Value.pointer (some ad15)) (Value.int .i64 n16) ∧ I64 (n14 - n16) ∧ ∃ n20 : Int, (∀ w17 : World, Ext w12 w17 → Calls Try.prog 148 #[(Value.int .i64 (n14 - n16))] w17 (fun e18 w19 => e18 = .returned (Value.int .i64 n20) ∧ Ext w17 w19)) ∧ I64 (x7 + n20) ∧ ∀ w21 : World, Ext w12 w21 → I64 (x8 + 1) ∧ ∃ s22 : (Nat × Int), (Value.int .i64 (x8 + 1)) = (Value.int .i64 (s22.1 : Int)) ∧ (Value.int .i64 (x7 + n20)) = (Value.int .i64 s22.2) ∧ (J4 s22 w21) ∧ (m5 s22 w21) < (m5 s2 w3)))
def spec_l03Distance_vc (u : Value) (v : Value) (w : World) (Post : Value → World → Prop) : Prop :=
  (∃ (J4 : (Nat × Int) → World → Prop) (m5 : (Nat × Int) → World → Nat), ((∃ s1 : (Nat × Int), (Value.int .i64 0) = (Value.int .i64 (s1.1 : Int)) ∧ (Value.int .i64 0) = (Value.int .i64 s1.2) ∧ (J4 s1 w)) ∧ ∀ (s2 : (Nat × Int)) (w3 : World), (J4 s2 w3) → LenV u (fun n6 => ((((s2.1 : Int) < n6) → (spec_l03Distance_k0 u v s2 w3 J4 m5 s2.2 (s2.1 : Int) w3)) ∧ (¬ ((s2.1 : Int) < n6) → Post (Value.int .i64 s2.2) w3)))))
theorem spec_l03Distance_eq (u : Value) (v : Value) (w : World) (Post : Value → World → Prop) : denF Try.prog [] (spec_l03Distance_A u v w) 114 [u, v] w Post = spec_l03Distance_vc u v w Post := by kernel_rfl
set_option maxRecDepth 100000 in
theorem spec_l03Distance_calls (u : Value) (v : Value) (w : World) (Post : Value → World → Prop) (hvc : spec_l03Distance_vc u v w Post) : Ret Try.prog 114 #[u, v] w Post :=
  Ret.of (denF_sound mixed (Eq.mpr (spec_l03Distance_eq u v w Post) hvc))

theorem spec_l03Distance_val (u v : Value) (a b : List Int) (w : World) (hu : RI w u a) (hv : RI w v b) (hab : a.length = b.length) (hl : a.length ≤ 100) (ha : ∀ z ∈ a, 0 ≤ z ∧ z ≤ 7) (hb : ∀ z ∈ b, 0 ≤ z ∧ z ≤ 7) : Val Try.prog 114 #[u, v] w (.int .i64 (farTo a b a.length)) :=
  Ret.val (spec_l03Distance_calls u v w _ (by
    unfold spec_l03Distance_vc
    refine ⟨fun s W => s.1 ≤ a.length ∧ s.2 = farTo a b s.1 ∧ Ext w W, fun s _ => a.length - s.1, ⟨(0, 0), rfl, rfl, Nat.zero_le _, rfl, .refl w⟩, ?_⟩
    rintro ⟨k, n⟩ w1 ⟨hk, hn, h1⟩
    simp only at hk hn
    subst hn
    refine (hu.ext h1).len ⟨fun hlt => ?_, fun hge => ⟨?_, h1⟩⟩
    · have hlt' : k < a.length := by simp only at hlt; omega
      have hr := farTo_range ha hb k (by omega) (by omega)
      have ha' := ha _ (List.getElem_mem hlt')
      have hb' := hb _ (List.getElem_mem (show k < b.length by omega))
      refine (hu.ext h1).get k rfl hlt' ((hv.ext h1).get k rfl (by omega) ⟨by unfold I64; omega, _, fun w2 h2 => (spec_l01Abs_val _ w2 (by unfold I64; omega)).call fun _ hx => ⟨rfl, hx⟩, by unfold I64; simp only; omega, fun w3 h3 => ⟨by unfold I64; simp only; omega, (k + 1, farTo a b (k + 1)), rfl, ieq ?_, ⟨hlt', rfl, h1.trans h3⟩, by simp only; omega⟩⟩)
      simp only [farTo]; rw [getD_get hlt', getD_get (show k < b.length by omega)]
    · have : k = a.length := by simp only at hge; omega
      subst this; rfl))
def impl_distanceOf_A (u : Value) (v : Value) (w : World) : Nat → Ann := fun κ => match κ with
  | 0 => { σ := Nat × Int, sli := [9, 5], slc := fun s => [SV.v (Value.int .i64 (s.1 : Int)), SV.v (Value.int .i64 s.2)], bxi := [], bxc := fun s => [], inv := fun s W => True, μ := fun s W => 0, free := true }
  | _ => { σ := Unit, sli := [], slc := fun _ => [], bxi := [], bxc := fun _ => [], inv := fun _ _ => False, μ := fun _ _ => 0 }
abbrev impl_distanceOf_k0 (u : Value) (v : Value) (s3 : Nat × Int) (w4 : World) (J5 : (Nat × Int) → World → Prop) (m6 : (Nat × Int) → World → Nat) (x7 : Int) (x8 : Int) (w9 : World) : Prop :=
  IxV 1 u x8 (fun ad10 => ∃ n11 : Int, LdV w9 (Value.pointer (some ad10)) (Value.int .i64 n11) ∧ IxV 1 v x8 (fun ad12 => ∃ n13 : Int, LdV w9 (Value.pointer (some ad12)) (Value.int .i64 n13) ∧ I64 (n11 - n13) ∧ ∃ n17 : Int, (∀ w14 : World, Ext w9 w14 → Calls Try.prog 140 #[(Value.int .i64 (n11 - n13))] w14 (fun e15 w16 => e15 = .returned (Value.int .i64 n17) ∧ Ext w14 w16)) ∧ I64 (x7 + n17) ∧ ∀ w18 : World, Ext w9 w18 → I64 (x8 + 1) ∧ ∃ s19 : (Nat × Int), (Value.int .i64 (x8 + 1)) = (Value.int .i64 (s19.1 : Int)) ∧ (Value.int .i64 (x7 + n17)) = (Value.int .i64 s19.2) ∧ (J5 s19 w18) ∧ (m6 s19 w18) < (m6 s3 w4)))
def impl_distanceOf_vc (u : Value) (v : Value) (w : World) (Post : Value → World → Prop) : Prop :=
  LenV u (fun n1 => (∃ (J5 : (Nat × Int) → World → Prop) (m6 : (Nat × Int) → World → Nat), ((∃ s2 : (Nat × Int), (Value.int .i64 0) = (Value.int .i64 (s2.1 : Int)) ∧ (Value.int .i64 0) = (Value.int .i64 s2.2) ∧ (J5 s2 w)) ∧ ∀ (s3 : (Nat × Int)) (w4 : World), (J5 s3 w4) → ((((s3.1 : Int) < n1) → (impl_distanceOf_k0 u v s3 w4 J5 m6 s3.2 (s3.1 : Int) w4)) ∧ (¬ ((s3.1 : Int) < n1) → Post (Value.int .i64 s3.2) w4)))))
theorem impl_distanceOf_eq (u : Value) (v : Value) (w : World) (Post : Value → World → Prop) : denF Try.prog [] (impl_distanceOf_A u v w) 111 [u, v] w Post = impl_distanceOf_vc u v w Post := by kernel_rfl
set_option maxRecDepth 100000 in
theorem impl_distanceOf_calls (u : Value) (v : Value) (w : World) (Post : Value → World → Prop) (hvc : impl_distanceOf_vc u v w Post) : Ret Try.prog 111 #[u, v] w Post :=
  Ret.of (denF_sound mixed (Eq.mpr (impl_distanceOf_eq u v w Post) hvc))

theorem impl_distanceOf_val (u v : Value) (a b : List Int) (w : World) (hu : RI w u a) (hv : RI w v b) (hab : a.length = b.length) (hl : a.length ≤ 100) (ha : ∀ z ∈ a, 0 ≤ z ∧ z ≤ 7) (hb : ∀ z ∈ b, 0 ≤ z ∧ z ≤ 7) : Val Try.prog 111 #[u, v] w (.int .i64 (farTo a b a.length)) :=
  Ret.val (impl_distanceOf_calls u v w _ (by
    unfold impl_distanceOf_vc
    refine hu.len ⟨fun s W => s.1 ≤ a.length ∧ s.2 = farTo a b s.1 ∧ Ext w W, fun s _ => a.length - s.1, ⟨(0, 0), rfl, rfl, Nat.zero_le _, rfl, .refl w⟩, ?_⟩
    rintro ⟨k, n⟩ w1 ⟨hk, hn, h1⟩
    simp only at hk hn
    subst hn
    refine ⟨fun hlt => ?_, fun hge => ⟨?_, h1⟩⟩
    · have hlt' : k < a.length := by simp only at hlt; omega
      have hr := farTo_range ha hb k (by omega) (by omega)
      have ha' := ha _ (List.getElem_mem hlt')
      have hb' := hb _ (List.getElem_mem (show k < b.length by omega))
      refine (hu.ext h1).get k rfl hlt' ((hv.ext h1).get k rfl (by omega) ⟨by unfold I64; omega, _, fun w2 h2 => (impl_absolute_val _ w2 (by unfold I64; omega)).call fun _ hx => ⟨rfl, hx⟩, by unfold I64; simp only; omega, fun w3 h3 => ⟨by unfold I64; simp only; omega, (k + 1, farTo a b (k + 1)), rfl, ieq ?_, ⟨hlt', rfl, h1.trans h3⟩, by simp only; omega⟩⟩)
      simp only [farTo]; rw [getD_get hlt', getD_get (show k < b.length by omega)]
    · have : k = a.length := by simp only at hge; omega
      subst this; rfl))
/-- two keys: a number, or the code -/
def twoR (M : Mk) (a b : List Int) (n : Int) : Value := if kCode M [a, b] = 0 then .tuple #[.int .i64 n, .int .i64 0] else .tuple #[.int .i64 0, .int .i64 (kCode M [a, b])]
theorem twoR_pair (M : Mk) (a b : List Int) (n : Int) : ∃ x y, twoR M a b n = .tuple #[.int .i64 x, .int .i64 y] := by unfold twoR; split <;> exact ⟨_, _, rfl⟩
theorem two_small {M : Mk} {a b : List Int} (h : kCode M [a, b] = 0) : a.length = b.length ∧ a.length ≤ 100 ∧ (∀ z ∈ a, 0 ≤ z ∧ z ≤ 7) ∧ ∀ z ∈ b, 0 ≤ z ∧ z ≤ 7 := by
  obtain ⟨hm, hk⟩ := kCode_zero h
  obtain ⟨a1, a2, a3, a4⟩ := (hk a (by simp)).small hm
  obtain ⟨b1, b2, b3, b4⟩ := (hk b (by simp)).small hm
  exact ⟨by omega, by omega, a4, b4⟩
/-! ### mirrored and reversed keys -/
def mirror (d : Int) (zs : List Int) : List Int := zs.map fun z => d - 1 - z
def mirrorR (M : Mk) (zs : List Int) : List Int := if kCode M [zs] = 0 then mirror M.d zs else []
def revR (M : Mk) (zs : List Int) : List Int := if kCode M [zs] = 0 then zs.reverse else []
theorem one_small {M : Mk} {a : List Int} (h : kCode M [a] = 0) : M.Ok ∧ IsK M a ∧ a.length ≤ 6 ∧ 2 ≤ a.length ∧ ∀ z ∈ a, 0 ≤ z ∧ z ≤ M.d - 1 := by
  obtain ⟨hm, hk⟩ := kCode_zero h
  have hk := hk a (by simp)
  obtain ⟨a1, a2, a3, a4⟩ := hk.small hm
  exact ⟨hm, hk, a1, a2, hk.2.1⟩
theorem mirrorR_len (M : Mk) (zs : List Int) : (mirrorR M zs).length ≤ 6 := by
  unfold mirrorR; split
  · rename_i h
    have := (one_small h).2.2.1
    simpa [mirror] using this
  · simp
theorem revR_len (M : Mk) (zs : List Int) : (revR M zs).length ≤ 6 := by
  unfold revR; split
  · rename_i h
    have := (one_small h).2.2.1
    simpa using this
  · simp
def spec_ReverseKey_A (m_Chambers : Int) (m_Depths : Int) (m_Step : Int) (m_Same : Int) (m_Least : Int) (v : Value) (w : World) : Nat → Ann := fun κ => match κ with
  | 0 => { σ := Int × Value, sli := [8, 7], slc := fun s => [SV.v (Value.int .i64 s.1), SV.v s.2], bxi := [], bxc := fun s => [], inv := fun s W => True, μ := fun s W => 0, free := true }
  | _ => { σ := Unit, sli := [], slc := fun _ => [], bxi := [], bxc := fun _ => [], inv := fun _ _ => False, μ := fun _ _ => 0 }
abbrev spec_ReverseKey_k0 (x10 : Value) (s31 : Int × Value) (w32 : World) (J33 : (Int × Value) → World → Prop) (m34 : (Int × Value) → World → Nat) (x35 : Value) (x36 : Int) (w38 : World) : Prop :=
  IxV 1 x10 x36 (fun ad39 => ∃ n40 : Int, LdV w38 (Value.pointer (some ad39)) (Value.int .i64 n40) ∧ ∀ (v41 : Value) (w42 : World), Own w38.heap.size w42 2 v41 [(Value.int .i64 n40)] → Ext w38 w42 → AppV w42 2 x35 v41 (fun v43 w44 => I64 (x36 - 1) ∧ ∃ s45 : (Int × Value), (Value.int .i64 (x36 - 1)) = (Value.int .i64 s45.1) ∧ v43 = s45.2 ∧ (J33 s45 w44) ∧ (m34 s45 w44) < (m34 s31 w32)))
abbrev spec_ReverseKey_k1 (Post : Value → World → Prop) (x10 : Value) (w26 : World) : Prop :=
  ∀ (v27 : Value) (w28 : World), Own w26.heap.size w28 2 v27 [] → Ext w26 w28 → LenV x10 (fun n29 => I64 (n29 - 1) ∧ (∃ (J33 : (Int × Value) → World → Prop) (m34 : (Int × Value) → World → Nat), ((∃ s30 : (Int × Value), (Value.int .i64 (n29 - 1)) = (Value.int .i64 s30.1) ∧ v27 = s30.2 ∧ (J33 s30 w28)) ∧ ∀ (s31 : (Int × Value)) (w32 : World), (J33 s31 w32) → ((((0 : Int) ≤ s31.1) → (spec_ReverseKey_k0 x10 s31 w32 J33 m34 s31.2 s31.1 w32)) ∧ (¬ ((0 : Int) ≤ s31.1) → Post (Value.tuple #[s31.2, (Value.int .i64 0)]) w32)))))
def spec_ReverseKey_vc (m_Chambers : Int) (m_Depths : Int) (m_Step : Int) (m_Same : Int) (m_Least : Int) (v : Value) (w : World) (Post : Value → World → Prop) : Prop :=
  ∀ w1 : World, Ext w w1 → Calls Try.prog 89 #[(Value.agg #[(Value.int .i64 m_Chambers), (Value.int .i64 m_Depths), (Value.int .i64 m_Step), (Value.int .i64 m_Same), (Value.int .i64 m_Least)]), v] w1 (fun e2 w3 => ∃ n4 : Int, e2 = .returned (Value.int .i64 n4) ∧ Keeps w.heap.size [25] w1 w3 ∧ (((n4 ≠ (0 : Int)) → Post (Value.tuple #[(Value.slice none 0 0), (Value.int .i64 n4)]) w3) ∧ (¬ (n4 ≠ (0 : Int)) → (spec_ReverseKey_k1 Post v w3))))
theorem spec_ReverseKey_eq (m_Chambers : Int) (m_Depths : Int) (m_Step : Int) (m_Same : Int) (m_Least : Int) (v : Value) (w : World) (Post : Value → World → Prop) : denF Try.prog [] (spec_ReverseKey_A m_Chambers m_Depths m_Step m_Same m_Least v w) 43 [(Value.agg #[(Value.int .i64 m_Chambers), (Value.int .i64 m_Depths), (Value.int .i64 m_Step), (Value.int .i64 m_Same), (Value.int .i64 m_Least)]), v] w Post = spec_ReverseKey_vc m_Chambers m_Depths m_Step m_Same m_Least v w Post := by kernel_rfl
set_option maxRecDepth 100000 in
theorem spec_ReverseKey_calls (m_Chambers : Int) (m_Depths : Int) (m_Step : Int) (m_Same : Int) (m_Least : Int) (v : Value) (w : World) (Post : Value → World → Prop) (hvc : spec_ReverseKey_vc m_Chambers m_Depths m_Step m_Same m_Least v w Post) : Ret Try.prog 43 #[(Value.agg #[(Value.int .i64 m_Chambers), (Value.int .i64 m_Depths), (Value.int .i64 m_Step), (Value.int .i64 m_Same), (Value.int .i64 m_Least)]), v] w Post :=
  Ret.of (denF_sound mixed (Eq.mpr (spec_ReverseKey_eq m_Chambers m_Depths m_Step m_Same m_Least v w Post) hvc))

theorem spec_ReverseKey_ret (M : Mk) (v : Value) (zs : List Int) (w : World) (hv : RI w v zs) : SlR 43 #[mkV M.c M.d M.s M.m M.l, v] w (revR M zs) (kCode M [zs]) :=
  spec_ReverseKey_calls M.c M.d M.s M.m M.l v w _ (by
    unfold spec_ReverseKey_vc
    intro w1 h1
    refine (spec_l02Code_val M v zs w1 (hv.ext h1)).call fun w2 h2 => ⟨_, rfl, h2.keeps, fun hne => ?_, fun he => ?_⟩
    · unfold revR; rw [if_neg hne]
      exact ⟨_, rfl, Own.nil_ _ _ _, h1.trans h2⟩
    have he := Classical.not_not.1 he
    have k2 := h1.trans h2
    obtain ⟨hm, _, hl, hl2, hcut⟩ := one_small he
    intro u w3 o3 h3
    have k3 := k2.trans h3
    refine (hv.ext k3).len ⟨by unfold I64; omega, fun s W => -1 ≤ s.1 ∧ s.1 ≤ zs.length - 1 ∧ Ext w W ∧ Own w.heap.size W 2 s.2 (ints (zs.reverse.take (zs.length - 1 - s.1).toNat)), fun s _ => (s.1 + 1).toNat, ⟨(zs.length - 1, u), rfl, rfl, by simp only; omega, by simp only; omega, k3, ?_⟩, ?_⟩
    · simp only
      rw [show (((zs.length : Int) - 1 - (zs.length - 1)).toNat) = 0 by omega]
      simpa [ints] using o3.mono k2.size
    rintro ⟨i, u⟩ w4 ⟨hi, hi2, k4, o4⟩
    simp only at hi hi2 o4
    refine ⟨fun hlt => ?_, fun hge => ?_⟩
    · simp only at hlt
      have hlt' : i.toNat < zs.length := by omega
      refine (hv.ext k4).get i.toNat (by simp only; omega) hlt' fun r w6 o6 h6 => ?_
      have k6 := k4.trans h6
      have o46 := o4.ext h6
      refine o46.app1 o6 rfl (by simp; omega) k6.size fun u' w7 o7 g7 _ => ⟨by unfold I64; simp only; omega, (i - 1, u'), rfl, rfl, ⟨by simp only; omega, by simp only; omega, k6.grown o46 (Nat.le_refl _) g7, ?_⟩, by simp only; omega⟩
      simp only
      have e1 : ((zs.length : Int) - 1 - (i - 1)).toNat = ((zs.length : Int) - 1 - i).toNat + 1 := by omega
      have hk : ((zs.length : Int) - 1 - i).toNat < zs.reverse.length := by rw [List.length_reverse]; omega
      rw [e1, take_snoc zs.reverse _ hk, ints_append]
      have e2 : zs.reverse[((zs.length : Int) - 1 - i).toNat] = zs[i.toNat] := by
        rw [List.getElem_reverse]
        congr 1
        omega
      rw [e2]
      exact o7
    · have e : zs.reverse.take (((zs.length : Int) - 1 - i).toNat) = zs.reverse := List.take_of_length_le (by simp only at hge; rw [List.length_reverse]; omega)
      rw [e] at o4
      exact ⟨u, by rw [he], by unfold revR; rw [if_pos he]; exact o4, k4⟩)

end Go.Proofs
