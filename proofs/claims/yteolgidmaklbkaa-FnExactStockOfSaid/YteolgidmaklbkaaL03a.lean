/- Codes of keys, differences and distances, mirrored and reversed keys. No condition. -/
import Derived.Test.YteolgidmaklbkaaL02d
set_option linter.unusedVariables false
namespace Go.Proofs
open Go.Sx Go.RowKit
/-! ### the code of keys -/
abbrev Mk.v (M : Mk) : Value := mkV M.c M.d M.s M.m M.l
def kCode (M : Mk) (zss : List (List Int)) : Int := if MkOk M.c M.d M.s M.m M.l then (if ∀ z ∈ zss, IsK M z then 0 else 2) else 1
theorem kCode_no {M : Mk} {zss : List (List Int)} (h : ¬ MkOk M.c M.d M.s M.m M.l) : kCode M zss = 1 := by unfold kCode; rw [if_neg h]
theorem kCode_bad {M : Mk} {zss : List (List Int)} (h : MkOk M.c M.d M.s M.m M.l) (h2 : ¬ ∀ z ∈ zss, IsK M z) : kCode M zss = 2 := by unfold kCode; rw [if_pos h, if_neg h2]
theorem kCode_ok {M : Mk} {zss : List (List Int)} (h : MkOk M.c M.d M.s M.m M.l) (h2 : ∀ z ∈ zss, IsK M z) : kCode M zss = 0 := by unfold kCode; rw [if_pos h, if_pos h2]
theorem kCode_zero {M : Mk} {zss : List (List Int)} (h : kCode M zss = 0) : M.Ok ∧ ∀ z ∈ zss, IsK M z := by
  by_cases hm : MkOk M.c M.d M.s M.m M.l
  · by_cases hk : ∀ z ∈ zss, IsK M z
    · exact ⟨hm, hk⟩
    · rw [kCode_bad hm hk] at h; cases h
  · rw [kCode_no hm] at h; cases h
theorem kCode_two (M : Mk) (a b : List Int) : kCode M [a, b] = if kCode M [a] = 0 then kCode M [b] else kCode M [a] := by
  by_cases hm : MkOk M.c M.d M.s M.m M.l
  · by_cases ha : IsK M a
    · rw [if_pos (kCode_ok hm (by simpa using ha))]
      by_cases hb : IsK M b
      · rw [kCode_ok (zss := [b]) hm (by simpa using hb), kCode_ok hm (by simp [ha, hb])]
      · rw [kCode_bad (zss := [b]) hm (by simpa using hb), kCode_bad hm (by simp [hb])]
    · rw [kCode_bad (zss := [a]) hm (by simpa using ha), if_neg (by decide), kCode_bad hm (by simp [ha])]
  · rw [kCode_no hm, kCode_no hm, kCode_no hm]
    rfl
theorem RR.one1 {B : Nat} {w : World} {e : TypeId} {r v : Value} {zs : List Int} (o : Own B w e r [v]) (h : RI w v zs) : RR w r [zs] := ⟨[v], o.rd, Rows.nil_.snoc h⟩
theorem RR.two2 {B : Nat} {w : World} {e : TypeId} {r u v : Value} {xs zs : List Int} (o : Own B w e r [u, v]) (h : RI w u xs) (h' : RI w v zs) : RR w r [xs, zs] := ⟨[u, v], o.rd, (Rows.nil_.snoc h).snoc h'⟩
theorem rows_take_succ {zss : List (List Int)} {p : List Int → Prop} {k : Nat} (hk : k < zss.length) (h : ∀ z ∈ zss.take k, p z) (h1 : p zss[k]) : ∀ z ∈ zss.take (k + 1), p z := by
  intro z hz
  rw [take_snoc zss k hk, List.mem_append] at hz
  rcases hz with hz | hz
  · exact h z hz
  · simp at hz
    subst hz
    exact h1
abbrev spec_l02Code_k0 (w : World) (Post : Value → World → Prop) (x10 : Value) (x19 : Int) (x20 : Int) (x21 : Int) (x22 : Int) (x23 : Int) (w24 : World) : Prop :=
  Calls Try.prog 136 #[(Value.agg #[(Value.int .i64 x19), (Value.int .i64 x20), (Value.int .i64 x21), (Value.int .i64 x22), (Value.int .i64 x23)]), x10] w24 (fun e25 w26 => ∃ n27 : Int, e25 = .returned (Value.int .i64 n27) ∧ Keeps w.heap.size [56] w24 w26 ∧ (((n27 ≠ (0 : Int)) → Post (Value.int .i64 2) w26) ∧ (¬ (n27 ≠ (0 : Int)) → Post (Value.int .i64 0) w26)))
def spec_l02Code_vc (m_Chambers : Int) (m_Depths : Int) (m_Step : Int) (m_Same : Int) (m_Least : Int) (v : Value) (w : World) (Post : Value → World → Prop) : Prop :=
  ∀ w1 : World, Ext w w1 → Calls Try.prog 85 #[(Value.agg #[(Value.int .i64 m_Chambers), (Value.int .i64 m_Depths), (Value.int .i64 m_Step), (Value.int .i64 m_Same), (Value.int .i64 m_Least)])] w1 (fun e2 w3 => ∃ b4 : Bool, e2 = .returned (Value.bool b4) ∧ Keeps w.heap.size [56] w1 w3 ∧ (((!b4) = true → Post (Value.int .i64 1) w3) ∧ ((!b4) = false → (spec_l02Code_k0 w Post v m_Chambers m_Depths m_Step m_Same m_Least w3))))
theorem spec_l02Code_eq (m_Chambers : Int) (m_Depths : Int) (m_Step : Int) (m_Same : Int) (m_Least : Int) (v : Value) (w : World) (Post : Value → World → Prop) : denF Try.prog [] noAnn 155 [(Value.agg #[(Value.int .i64 m_Chambers), (Value.int .i64 m_Depths), (Value.int .i64 m_Step), (Value.int .i64 m_Same), (Value.int .i64 m_Least)]), v] w Post = spec_l02Code_vc m_Chambers m_Depths m_Step m_Same m_Least v w Post := by kernel_rfl
set_option maxRecDepth 100000 in
theorem spec_l02Code_calls (m_Chambers : Int) (m_Depths : Int) (m_Step : Int) (m_Same : Int) (m_Least : Int) (v : Value) (w : World) (Post : Value → World → Prop) (hvc : spec_l02Code_vc m_Chambers m_Depths m_Step m_Same m_Least v w Post) : Ret Try.prog 155 #[(Value.agg #[(Value.int .i64 m_Chambers), (Value.int .i64 m_Depths), (Value.int .i64 m_Step), (Value.int .i64 m_Same), (Value.int .i64 m_Least)]), v] w Post :=
  Ret.of (denF_sound mixed (Eq.mpr (spec_l02Code_eq m_Chambers m_Depths m_Step m_Same m_Least v w Post) hvc))

theorem spec_l02Code_val (M : Mk) (v : Value) (zs : List Int) (w : World) (hv : RI w v zs) : Val Try.prog 155 #[mkV M.c M.d M.s M.m M.l, v] w (.int .i64 (kCode M [zs])) :=
  Ret.val (spec_l02Code_calls M.c M.d M.s M.m M.l v w _ (by
    unfold spec_l02Code_vc
    intro w1 h1
    refine (spec_IsMaker_val ..).call fun w2 h2 => ⟨_, rfl, h2.keeps, fun hb => ⟨by rw [kCode_no (nd_t hb)], h1.trans h2⟩, fun hb => ?_⟩
    have hm := nd_f hb
    have k2 := h1.trans h2
    refine (spec_l02Fault_val M.c M.d M.s M.m M.l v zs w2 (hv.ext k2) hm).call fun w3 h3 => ⟨_, rfl, h3.keeps, fun hb => ⟨?_, k2.trans h3⟩, fun hb => ⟨?_, k2.trans h3⟩⟩
    · rw [kCode_bad hm fun hh => hb (fault_zero.2 (hh zs (by simp)))]
    · rw [kCode_ok hm fun z hz => by simp at hz; subst hz; exact fault_zero.1 (Classical.not_not.1 hb)]))
def impl_keysCode_A (m_Chambers : Int) (m_Depths : Int) (m_Step : Int) (m_Same : Int) (m_Least : Int) (v : Value) (w : World) : Nat → Ann := fun κ => match κ with
  | 0 => { σ := Nat, sli := [12], slc := fun s => [SV.v (Value.int .i64 (s : Int))], bxi := [], bxc := fun s => [], inv := fun s W => True, μ := fun s W => 0, free := true }
  | _ => { σ := Unit, sli := [], slc := fun _ => [], bxi := [], bxc := fun _ => [], inv := fun _ _ => False, μ := fun _ _ => 0 }
abbrev impl_keysCode_k0 (s27 : Nat) (w28 : World) (J29 : Nat → World → Prop) (m30 : Nat → World → Nat) (x39 : Int) (w50 : World) : Prop :=
  I64 (x39 + 1) ∧ ∃ s51 : Nat, (Value.int .i64 (x39 + 1)) = (Value.int .i64 (s51 : Int)) ∧ (J29 s51 w50) ∧ (m30 s51 w50) < (m30 s27 w28)
abbrev impl_keysCode_k1 (w : World) (Post : Value → World → Prop) (x10 : Value) (x19 : Int) (x20 : Int) (x21 : Int) (x22 : Int) (x23 : Int) (s27 : Nat) (w28 : World) (J29 : Nat → World → Prop) (m30 : Nat → World → Nat) (x31 : Int) (w32 : World) : Prop :=
  IxV 1 x10 x31 (fun ad33 => ∃ u34 : Value, LdV w32 (Value.pointer (some ad33)) u34 ∧ Calls Try.prog 139 #[(Value.agg #[(Value.int .i64 x19), (Value.int .i64 x20), (Value.int .i64 x21), (Value.int .i64 x22), (Value.int .i64 x23)]), u34] w32 (fun e35 w36 => ∃ b37 : Bool, e35 = .returned (Value.bool b37) ∧ Keeps w.heap.size [56] w32 w36 ∧ (((!b37) = true → Post (Value.int .i64 2) w36) ∧ ((!b37) = false → (impl_keysCode_k0 s27 w28 J29 m30 x31 w36)))))
abbrev impl_keysCode_k2 (w : World) (Post : Value → World → Prop) (x10 : Value) (x19 : Int) (x20 : Int) (x21 : Int) (x22 : Int) (x23 : Int) (w24 : World) : Prop :=
  LenV x10 (fun n25 => (∃ (J29 : Nat → World → Prop) (m30 : Nat → World → Nat), ((∃ s26 : Nat, (Value.int .i64 0) = (Value.int .i64 (s26 : Int)) ∧ (J29 s26 w24)) ∧ ∀ (s27 : Nat) (w28 : World), (J29 s27 w28) → ((((s27 : Int) < n25) → (impl_keysCode_k1 w Post x10 x19 x20 x21 x22 x23 s27 w28 J29 m30 (s27 : Int) w28)) ∧ (¬ ((s27 : Int) < n25) → Post (Value.int .i64 0) w28)))))
def impl_keysCode_vc (m_Chambers : Int) (m_Depths : Int) (m_Step : Int) (m_Same : Int) (m_Least : Int) (v : Value) (w : World) (Post : Value → World → Prop) : Prop :=
  ∀ w1 : World, Ext w w1 → Calls Try.prog 84 #[(Value.agg #[(Value.int .i64 m_Chambers), (Value.int .i64 m_Depths), (Value.int .i64 m_Step), (Value.int .i64 m_Same), (Value.int .i64 m_Least)])] w1 (fun e2 w3 => ∃ b4 : Bool, e2 = .returned (Value.bool b4) ∧ Keeps w.heap.size [56] w1 w3 ∧ (((!b4) = true → Post (Value.int .i64 1) w3) ∧ ((!b4) = false → (impl_keysCode_k2 w Post v m_Chambers m_Depths m_Step m_Same m_Least w3))))
theorem impl_keysCode_eq (m_Chambers : Int) (m_Depths : Int) (m_Step : Int) (m_Same : Int) (m_Least : Int) (v : Value) (w : World) (Post : Value → World → Prop) : denF Try.prog [] (impl_keysCode_A m_Chambers m_Depths m_Step m_Same m_Least v w) 148 [(Value.agg #[(Value.int .i64 m_Chambers), (Value.int .i64 m_Depths), (Value.int .i64 m_Step), (Value.int .i64 m_Same), (Value.int .i64 m_Least)]), v] w Post = impl_keysCode_vc m_Chambers m_Depths m_Step m_Same m_Least v w Post := by kernel_rfl
set_option maxRecDepth 100000 in
theorem impl_keysCode_calls (m_Chambers : Int) (m_Depths : Int) (m_Step : Int) (m_Same : Int) (m_Least : Int) (v : Value) (w : World) (Post : Value → World → Prop) (hvc : impl_keysCode_vc m_Chambers m_Depths m_Step m_Same m_Least v w Post) : Ret Try.prog 148 #[(Value.agg #[(Value.int .i64 m_Chambers), (Value.int .i64 m_Depths), (Value.int .i64 m_Step), (Value.int .i64 m_Same), (Value.int .i64 m_Least)]), v] w Post :=
  Ret.of (denF_sound mixed (Eq.mpr (impl_keysCode_eq m_Chambers m_Depths m_Step m_Same m_Least v w Post) hvc))

theorem impl_keysCode_val (M : Mk) (v : Value) (zss : List (List Int)) (w : World) (h : RR w v zss) : Val Try.prog 148 #[mkV M.c M.d M.s M.m M.l, v] w (.int .i64 (kCode M zss)) :=
  Ret.val (impl_keysCode_calls M.c M.d M.s M.m M.l v w _ (by
    unfold impl_keysCode_vc
    have hbd := h.bound
    intro w1 h1
    refine (impl_IsMaker_val ..).call fun w2 h2 => ⟨_, rfl, h2.keeps, fun hb => ⟨by rw [kCode_no (nd_t hb)], h1.trans h2⟩, fun hb => ?_⟩
    have hm := nd_f hb
    have k2 := h1.trans h2
    refine (h.ext k2).len ⟨fun k W => k ≤ zss.length ∧ Ext w W ∧ ∀ z ∈ zss.take k, IsK M z, fun k _ => zss.length - k, ⟨0, rfl, Nat.zero_le _, k2, by simp⟩, ?_⟩
    rintro k w3 ⟨hk, k3, hall⟩
    refine ⟨fun hlt => ?_, fun hge => ⟨?_, k3⟩⟩
    · have hlt' : k < zss.length := by omega
      refine (h.ext k3).get k rfl hlt' fun u hu => ?_
      refine (impl_isKey_val M.c M.d M.s M.m M.l u zss[k] w3 hu hm).call fun w6 h6 => ⟨_, rfl, h6.keeps, fun hb => ⟨?_, k3.trans h6⟩, fun hb => ⟨by unfold I64; omega, k + 1, rfl, ⟨hlt', k3.trans h6, rows_take_succ hlt' hall (nd_f hb)⟩, by simp only; omega⟩⟩
      rw [kCode_bad hm fun hh => nd_t hb (hh _ (List.getElem_mem hlt'))]
    · have e : zss.take k = zss := List.take_of_length_le (by omega)
      rw [e] at hall
      rw [kCode_ok hm hall]))
def spec_l03Two_vc (m_Chambers : Int) (m_Depths : Int) (m_Step : Int) (m_Same : Int) (m_Least : Int) (u : Value) (v : Value) (w : World) (Post : Value → World → Prop) : Prop :=
  ∀ w1 : World, Ext w w1 → Calls Try.prog 155 #[(Value.agg #[(Value.int .i64 m_Chambers), (Value.int .i64 m_Depths), (Value.int .i64 m_Step), (Value.int .i64 m_Same), (Value.int .i64 m_Least)]), u] w1 (fun e2 w3 => ∃ n4 : Int, e2 = .returned (Value.int .i64 n4) ∧ Keeps w.heap.size [56] w1 w3 ∧ (((n4 = (0 : Int)) → Calls Try.prog 155 #[(Value.agg #[(Value.int .i64 m_Chambers), (Value.int .i64 m_Depths), (Value.int .i64 m_Step), (Value.int .i64 m_Same), (Value.int .i64 m_Least)]), v] w3 (fun e5 w6 => ∃ n7 : Int, e5 = .returned (Value.int .i64 n7) ∧ Keeps w.heap.size [56] w3 w6 ∧ Post (Value.int .i64 n7) w6)) ∧ (¬ (n4 = (0 : Int)) → Post (Value.int .i64 n4) w3)))
theorem spec_l03Two_eq (m_Chambers : Int) (m_Depths : Int) (m_Step : Int) (m_Same : Int) (m_Least : Int) (u : Value) (v : Value) (w : World) (Post : Value → World → Prop) : denF Try.prog [] noAnn 150 [(Value.agg #[(Value.int .i64 m_Chambers), (Value.int .i64 m_Depths), (Value.int .i64 m_Step), (Value.int .i64 m_Same), (Value.int .i64 m_Least)]), u, v] w Post = spec_l03Two_vc m_Chambers m_Depths m_Step m_Same m_Least u v w Post := by kernel_rfl
set_option maxRecDepth 100000 in
theorem spec_l03Two_calls (m_Chambers : Int) (m_Depths : Int) (m_Step : Int) (m_Same : Int) (m_Least : Int) (u : Value) (v : Value) (w : World) (Post : Value → World → Prop) (hvc : spec_l03Two_vc m_Chambers m_Depths m_Step m_Same m_Least u v w Post) : Ret Try.prog 150 #[(Value.agg #[(Value.int .i64 m_Chambers), (Value.int .i64 m_Depths), (Value.int .i64 m_Step), (Value.int .i64 m_Same), (Value.int .i64 m_Least)]), u, v] w Post :=
  Ret.of (denF_sound mixed (Eq.mpr (spec_l03Two_eq m_Chambers m_Depths m_Step m_Same m_Least u v w Post) hvc))

theorem spec_l03Two_val (M : Mk) (u v : Value) (xs zs : List Int) (w : World) (hu : RI w u xs) (hv : RI w v zs) : Val Try.prog 150 #[mkV M.c M.d M.s M.m M.l, u, v] w (.int .i64 (kCode M [xs, zs])) :=
  Ret.val (spec_l03Two_calls M.c M.d M.s M.m M.l u v w _ (by
    unfold spec_l03Two_vc
    intro w1 h1
    refine (spec_l02Code_val M u xs w1 (hu.ext h1)).call fun w2 h2 => ⟨_, rfl, h2.keeps, fun he => ?_, fun hne => ⟨?_, h1.trans h2⟩⟩
    · refine (spec_l02Code_val M v zs w2 (hv.ext (h1.trans h2))).call fun w3 h3 => ⟨_, rfl, h3.keeps, ?_, (h1.trans h2).trans h3⟩
      rw [kCode_two, if_pos he]
    · rw [kCode_two, if_neg hne]))

/-! ### differences and distances -/
def diffTo (a b : List Int) : Nat → Int
  | 0 => 0
  | k + 1 => if a.getD k 0 ≠ b.getD k 0 then diffTo a b k + 1 else diffTo a b k
theorem diffTo_range (a b : List Int) : ∀ k : Nat, 0 ≤ diffTo a b k ∧ diffTo a b k ≤ k
  | 0 => by simp [diffTo]
  | k + 1 => by
    have := diffTo_range a b k
    unfold diffTo
    split <;> omega
def farTo (a b : List Int) : Nat → Int
  | 0 => 0
  | k + 1 => farTo a b k + max (a.getD k 0 - b.getD k 0) (-(a.getD k 0 - b.getD k 0))
theorem farTo_range {a b : List Int} (ha : ∀ z ∈ a, 0 ≤ z ∧ z ≤ 7) (hb : ∀ z ∈ b, 0 ≤ z ∧ z ≤ 7) : ∀ k : Nat, k ≤ a.length → k ≤ b.length → 0 ≤ farTo a b k ∧ farTo a b k ≤ 7 * k
  | 0, _, _ => by simp [farTo]
  | k + 1, h1, h2 => by
    have ih := farTo_range ha hb k (by omega) (by omega)
    have h3 := ha _ (List.getElem_mem (show k < a.length by omega))
    have h4 := hb _ (List.getElem_mem (show k < b.length by omega))
    unfold farTo
    rw [getD_get (show k < a.length by omega), getD_get (show k < b.length by omega)]
    omega
theorem IsK.small {M : Mk} {zs : List Int} (hm : M.Ok) (h : IsK M zs) : zs.length ≤ 6 ∧ 2 ≤ zs.length ∧ (zs.length : Int) = M.c ∧ ∀ z ∈ zs, 0 ≤ z ∧ z ≤ 7 := by
  have hc := hm.1
  have hd := hm.2.1
  have h1 := h.1
  refine ⟨by omega, by omega, h1, fun z hz => ?_⟩
  have := h.2.1 z hz
  omega
def spec_l03Difference_A (u : Value) (v : Value) (w : World) : Nat → Ann := fun κ => match κ with
  | 0 => { σ := Nat × Int, sli := [6, 5], slc := fun s => [SV.v (Value.int .i64 (s.1 : Int)), SV.v (Value.int .i64 s.2)], bxi := [], bxc := fun s => [], inv := fun s W => True, μ := fun s W => 0, free := true }
  | _ => { σ := Unit, sli := [], slc := fun _ => [], bxi := [], bxc := fun _ => [], inv := fun _ _ => False, μ := fun _ _ => 0 }
abbrev spec_l03Difference_k0 (s2 : Nat × Int) (w3 : World) (J4 : (Nat × Int) → World → Prop) (m5 : (Nat × Int) → World → Nat) (x18 : Int) (x19 : Int) (w33 : World) : Prop :=
  I64 (x19 + 1) ∧ ∃ s34 : (Nat × Int), (Value.int .i64 (x19 + 1)) = (Value.int .i64 (s34.1 : Int)) ∧ (Value.int .i64 x18) = (Value.int .i64 s34.2) ∧ (J4 s34 w33) ∧ (m5 s34 w33) < (m5 s2 w3)
abbrev spec_l03Difference_k1 (u : Value) (v : Value) (s2 : Nat × Int) (w3 : World) (J4 : (Nat × Int) → World → Prop) (m5 : (Nat × Int) → World → Nat) (x7 : Int) (x8 : Int) (w12 : World) : Prop :=
  IxV 1 u x8 (fun ad13 => ∃ n14 : Int, LdV w12 (Value.pointer (some ad13)) (Value.int .i64 n14) ∧ IxV 1 v x8 (fun ad15 => ∃ n16 : Int, LdV w12 (Value.pointer (some ad15)) (Value.int .i64 n16) ∧ ∀ w17 : World, Ext w12 w17 → (((n14 ≠ n16) → I64 (x7 + 1) ∧ (spec_l03Difference_k0 s2 w3 J4 m5 (x7 + 1) x8 w17)) ∧ (¬ (n14 ≠ n16) → (spec_l03Difference_k0 s2 w3 J4 m5 x7 x8 w17)))))
def spec_l03Difference_vc (u : Value) (v : Value) (w : World) (Post : Value → World → Prop) : Prop :=
  (∃ (J4 : (Nat × Int) → World → Prop) (m5 : (Nat × Int) → World → Nat), ((∃ s1 : (Nat × Int), (Value.int .i64 0) = (Value.int .i64 (s1.1 : Int)) ∧ (Value.int .i64 0) = (Value.int .i64 s1.2) ∧ (J4 s1 w)) ∧ ∀ (s2 : (Nat × Int)) (w3 : World), (J4 s2 w3) → LenV u (fun n6 => ((((s2.1 : Int) < n6) → (spec_l03Difference_k1 u v s2 w3 J4 m5 s2.2 (s2.1 : Int) w3)) ∧ (¬ ((s2.1 : Int) < n6) → Post (Value.int .i64 s2.2) w3)))))
theorem spec_l03Difference_eq (u : Value) (v : Value) (w : World) (Post : Value → World → Prop) : denF Try.prog [] (spec_l03Difference_A u v w) 151 [u, v] w Post = spec_l03Difference_vc u v w Post := by kernel_rfl
set_option maxRecDepth 100000 in
theorem spec_l03Difference_calls (u : Value) (v : Value) (w : World) (Post : Value → World → Prop) (hvc : spec_l03Difference_vc u v w Post) : Ret Try.prog 151 #[u, v] w Post :=
  Ret.of (denF_sound mixed (Eq.mpr (spec_l03Difference_eq u v w Post) hvc))

theorem spec_l03Difference_val (u v : Value) (a b : List Int) (w : World) (hu : RI w u a) (hv : RI w v b) (hab : a.length = b.length) (hl : a.length ≤ 100) : Val Try.prog 151 #[u, v] w (.int .i64 (diffTo a b a.length)) :=
  Ret.val (spec_l03Difference_calls u v w _ (by
    unfold spec_l03Difference_vc
    refine ⟨fun s W => s.1 ≤ a.length ∧ s.2 = diffTo a b s.1 ∧ Ext w W, fun s _ => a.length - s.1, ⟨(0, 0), rfl, rfl, Nat.zero_le _, rfl, .refl w⟩, ?_⟩
    rintro ⟨k, n⟩ w1 ⟨hk, hn, h1⟩
    simp only at hk hn
    subst hn
    refine (hu.ext h1).len ⟨fun hlt => ?_, fun hge => ⟨?_, h1⟩⟩
    · have hlt' : k < a.length := by simp only at hlt; omega
      have hr := diffTo_range a b k
      refine (hu.ext h1).get k rfl hlt' ((hv.ext h1).get k rfl (by omega) fun w2 h2 => ⟨fun hne => ⟨by unfold I64; simp only; omega, by unfold I64; simp only; omega, (k + 1, diffTo a b (k + 1)), rfl, ieq ?_, ⟨hlt', rfl, h1.trans h2⟩, by simp only; omega⟩, fun he => ⟨by unfold I64; simp only; omega, (k + 1, diffTo a b (k + 1)), rfl, ieq ?_, ⟨hlt', rfl, h1.trans h2⟩, by simp only; omega⟩⟩)
      · simp only [diffTo]; rw [getD_get hlt', getD_get (show k < b.length by omega), if_pos hne]
      · simp only [diffTo]; rw [getD_get hlt', getD_get (show k < b.length by omega), if_neg he]
    · have : k = a.length := by simp only at hge; omega
      subst this; rfl))
def impl_differenceOf_A (u : Value) (v : Value) (w : World) : Nat → Ann := fun κ => match κ with
  | 0 => { σ := Nat × Int, sli := [9, 5], slc := fun s => [SV.v (Value.int .i64 (s.1 : Int)), SV.v (Value.int .i64 s.2)], bxi := [], bxc := fun s => [], inv := fun s W => True, μ := fun s W => 0, free := true }
  | _ => { σ := Unit, sli := [], slc := fun _ => [], bxi := [], bxc := fun _ => [], inv := fun _ _ => False, μ := fun _ _ => 0 }
abbrev impl_differenceOf_k0 (s3 : Nat × Int) (w4 : World) (J5 : (Nat × Int) → World → Prop) (m6 : (Nat × Int) → World → Nat) (x15 : Int) (x17 : Int) (w29 : World) : Prop :=
  I64 (x17 + 1) ∧ ∃ s30 : (Nat × Int), (Value.int .i64 (x17 + 1)) = (Value.int .i64 (s30.1 : Int)) ∧ (Value.int .i64 x15) = (Value.int .i64 s30.2) ∧ (J5 s30 w29) ∧ (m6 s30 w29) < (m6 s3 w4)
abbrev impl_differenceOf_k1 (u : Value) (v : Value) (s3 : Nat × Int) (w4 : World) (J5 : (Nat × Int) → World → Prop) (m6 : (Nat × Int) → World → Nat) (x7 : Int) (x8 : Int) (w9 : World) : Prop :=
  IxV 1 u x8 (fun ad10 => ∃ n11 : Int, LdV w9 (Value.pointer (some ad10)) (Value.int .i64 n11) ∧ IxV 1 v x8 (fun ad12 => ∃ n13 : Int, LdV w9 (Value.pointer (some ad12)) (Value.int .i64 n13) ∧ ∀ w14 : World, Ext w9 w14 → (((n11 ≠ n13) → I64 (x7 + 1) ∧ (impl_differenceOf_k0 s3 w4 J5 m6 (x7 + 1) x8 w14)) ∧ (¬ (n11 ≠ n13) → (impl_differenceOf_k0 s3 w4 J5 m6 x7 x8 w14)))))
def impl_differenceOf_vc (u : Value) (v : Value) (w : World) (Post : Value → World → Prop) : Prop :=
  LenV u (fun n1 => (∃ (J5 : (Nat × Int) → World → Prop) (m6 : (Nat × Int) → World → Nat), ((∃ s2 : (Nat × Int), (Value.int .i64 0) = (Value.int .i64 (s2.1 : Int)) ∧ (Value.int .i64 0) = (Value.int .i64 s2.2) ∧ (J5 s2 w)) ∧ ∀ (s3 : (Nat × Int)) (w4 : World), (J5 s3 w4) → ((((s3.1 : Int) < n1) → (impl_differenceOf_k1 u v s3 w4 J5 m6 s3.2 (s3.1 : Int) w4)) ∧ (¬ ((s3.1 : Int) < n1) → Post (Value.int .i64 s3.2) w4)))))
theorem impl_differenceOf_eq (u : Value) (v : Value) (w : World) (Post : Value → World → Prop) : denF Try.prog [] (impl_differenceOf_A u v w) 149 [u, v] w Post = impl_differenceOf_vc u v w Post := by kernel_rfl
set_option maxRecDepth 100000 in
theorem impl_differenceOf_calls (u : Value) (v : Value) (w : World) (Post : Value → World → Prop) (hvc : impl_differenceOf_vc u v w Post) : Ret Try.prog 149 #[u, v] w Post :=
  Ret.of (denF_sound mixed (Eq.mpr (impl_differenceOf_eq u v w Post) hvc))

theorem impl_differenceOf_val (u v : Value) (a b : List Int) (w : World) (hu : RI w u a) (hv : RI w v b) (hab : a.length = b.length) (hl : a.length ≤ 100) : Val Try.prog 149 #[u, v] w (.int .i64 (diffTo a b a.length)) :=
  Ret.val (impl_differenceOf_calls u v w _ (by
    unfold impl_differenceOf_vc
    refine hu.len ⟨fun s W => s.1 ≤ a.length ∧ s.2 = diffTo a b s.1 ∧ Ext w W, fun s _ => a.length - s.1, ⟨(0, 0), rfl, rfl, Nat.zero_le _, rfl, .refl w⟩, ?_⟩
    rintro ⟨k, n⟩ w1 ⟨hk, hn, h1⟩
    simp only at hk hn
    subst hn
    refine ⟨fun hlt => ?_, fun hge => ⟨?_, h1⟩⟩
    · have hlt' : k < a.length := by simp only at hlt; omega
      have hr := diffTo_range a b k
      refine (hu.ext h1).get k rfl hlt' ((hv.ext h1).get k rfl (by omega) fun w2 h2 => ⟨fun hne => ⟨by unfold I64; simp only; omega, by unfold I64; simp only; omega, (k + 1, diffTo a b (k + 1)), rfl, ieq ?_, ⟨hlt', rfl, h1.trans h2⟩, by simp only; omega⟩, fun he => ⟨by unfold I64; simp only; omega, (k + 1, diffTo a b (k + 1)), rfl, ieq ?_, ⟨hlt', rfl, h1.trans h2⟩, by simp only; omega⟩⟩)
      · simp only [diffTo]; rw [getD_get hlt', getD_get (show k < b.length by omega), if_pos hne]
      · simp only [diffTo]; rw [getD_get hlt', getD_get (show k < b.length by omega), if_neg he]
    · have : k = a.length := by simp only at hge; omega
      subst this; rfl))
def spec_l03Distance_A (u : Value) (v : Value) (w : World) : Nat → Ann := fun κ => match κ with
  | 0 => { σ := Nat × Int, sli := [6, 5], slc := fun s => [SV.v (Value.int .i64 (s.1 : Int)), SV.v (Value.int .i64 s.2)], bxi := [], bxc := fun s => [], inv := fun s W => True, μ := fun s W => 0, free := true }
  | _ => { σ := Unit, sli := [], slc := fun _ => [], bxi := [], bxc := fun _ => [], inv := fun _ _ => False, μ := fun _ _ => 0 }
abbrev spec_l03Distance_k0 (u : Value) (v : Value) (s2 : Nat × Int) (w3 : World) (J4 : (Nat × Int) → World → Prop) (m5 : (Nat × Int) → World → Nat) (x7 : Int) (x8 : Int) (w12 : World) : Prop :=
  IxV 1 u x8 (fun ad13 => ∃ n14 : Int, LdV w12 (Value.pointer (some ad13)) (Value.int .i64 n14) ∧ IxV 1 v x8 (fun ad15 => ∃ n16 : Int, LdV w12 (Value.pointer (some ad15)) (Value.int .i64 n16) ∧ I64 (n14 - n16) ∧ ∃ n20 : Int, (∀ w17 : World, Ext w12 w17 → Calls Try.prog 166 #[(Value.int .i64 (n14 - n16))] w17 (fun e18 w19 => e18 = .returned (Value.int .i64 n20) ∧ Ext w17 w19)) ∧ I64 (x7 + n20) ∧ ∀ w21 : World, Ext w12 w21 → I64 (x8 + 1) ∧ ∃ s22 : (Nat × Int), (Value.int .i64 (x8 + 1)) = (Value.int .i64 (s22.1 : Int)) ∧ (Value.int .i64 (x7 + n20)) = (Value.int .i64 s22.2) ∧ (J4 s22 w21) ∧ (m5 s22 w21) < (m5 s2 w3)))
def spec_l03Distance_vc (u : Value) (v : Value) (w : World) (Post : Value → World → Prop) : Prop :=
  (∃ (J4 : (Nat × Int) → World → Prop) (m5 : (Nat × Int) → World → Nat), ((∃ s1 : (Nat × Int), (Value.int .i64 0) = (Value.int .i64 (s1.1 : Int)) ∧ (Value.int .i64 0) = (Value.int .i64 s1.2) ∧ (J4 s1 w)) ∧ ∀ (s2 : (Nat × Int)) (w3 : World), (J4 s2 w3) → LenV u (fun n6 => ((((s2.1 : Int) < n6) → (spec_l03Distance_k0 u v s2 w3 J4 m5 s2.2 (s2.1 : Int) w3)) ∧ (¬ ((s2.1 : Int) < n6) → Post (Value.int .i64 s2.2) w3)))))
theorem spec_l03Distance_eq (u : Value) (v : Value) (w : World) (Post : Value → World → Prop) : denF Try.prog [] (spec_l03Distance_A u v w) 153 [u, v] w Post = spec_l03Distance_vc u v w Post := by kernel_rfl
set_option maxRecDepth 100000 in
theorem spec_l03Distance_calls (u : Value) (v : Value) (w : World) (Post : Value → World → Prop) (hvc : spec_l03Distance_vc u v w Post) : Ret Try.prog 153 #[u, v] w Post :=
  Ret.of (denF_sound mixed (Eq.mpr (spec_l03Distance_eq u v w Post) hvc))

theorem spec_l03Distance_val (u v : Value) (a b : List Int) (w : World) (hu : RI w u a) (hv : RI w v b) (hab : a.length = b.length) (hl : a.length ≤ 100) (ha : ∀ z ∈ a, 0 ≤ z ∧ z ≤ 7) (hb : ∀ z ∈ b, 0 ≤ z ∧ z ≤ 7) : Val Try.prog 153 #[u, v] w (.int .i64 (farTo a b a.length)) :=
  Ret.val (spec_l03Distance_calls u v w _ (by
    unfold spec_l03Distance_vc
    refine ⟨fun s W => s.1 ≤ a.length ∧ s.2 = farTo a b s.1 ∧ Ext w W, fun s _ => a.length - s.1, ⟨(0, 0), rfl, rfl, Nat.zero_le _, rfl, .refl w⟩, ?_⟩
    rintro ⟨k, n⟩ w1 ⟨hk, hn, h1⟩
    simp only at hk hn
    subst hn
    refine (hu.ext h1).len ⟨fun hlt => ?_, fun hge => ⟨?_, h1⟩⟩
    · have hlt' : k < a.length := by simp only at hlt; omega
      have hr := farTo_range ha hb k (by omega) (by omega)
      have ha' := ha _ (List.getElem_mem hlt')
      have hb' := hb _ (List.getElem_mem (show k < b.length by omega))
      refine (hu.ext h1).get k rfl hlt' ((hv.ext h1).get k rfl (by omega) ⟨by unfold I64; omega, _, fun w2 h2 => (spec_l01Abs_val _ w2 (by unfold I64; omega)).call fun _ hx => ⟨rfl, hx⟩, by unfold I64; simp only; omega, fun w3 h3 => ⟨by unfold I64; simp only; omega, (k + 1, farTo a b (k + 1)), rfl, ieq ?_, ⟨hlt', rfl, h1.trans h3⟩, by simp only; omega⟩⟩)
      simp only [farTo]; rw [getD_get hlt', getD_get (show k < b.length by omega)]
    · have : k = a.length := by simp only at hge; omega
      subst this; rfl))
def impl_distanceOf_A (u : Value) (v : Value) (w : World) : Nat → Ann := fun κ => match κ with
  | 0 => { σ := Nat × Int, sli := [9, 5], slc := fun s => [SV.v (Value.int .i64 (s.1 : Int)), SV.v (Value.int .i64 s.2)], bxi := [], bxc := fun s => [], inv := fun s W => True, μ := fun s W => 0, free := true }
  | _ => { σ := Unit, sli := [], slc := fun _ => [], bxi := [], bxc := fun _ => [], inv := fun _ _ => False, μ := fun _ _ => 0 }
abbrev impl_distanceOf_k0 (u : Value) (v : Value) (s3 : Nat × Int) (w4 : World) (J5 : (Nat × Int) → World → Prop) (m6 : (Nat × Int) → World → Nat) (x7 : Int) (x8 : Int) (w9 : World) : Prop :=
  IxV 1 u x8 (fun ad10 => ∃ n11 : Int, LdV w9 (Value.pointer (some ad10)) (Value.int .i64 n11) ∧ IxV 1 v x8 (fun ad12 => ∃ n13 : Int, LdV w9 (Value.pointer (some ad12)) (Value.int .i64 n13) ∧ I64 (n11 - n13) ∧ ∃ n17 : Int, (∀ w14 : World, Ext w9 w14 → Calls Try.prog 163 #[(Value.int .i64 (n11 - n13))] w14 (fun e15 w16 => e15 = .returned (Value.int .i64 n17) ∧ Ext w14 w16)) ∧ I64 (x7 + n17) ∧ ∀ w18 : World, Ext w9 w18 → I64 (x8 + 1) ∧ ∃ s19 : (Nat × Int), (Value.int .i64 (x8 + 1)) = (Value.int .i64 (s19.1 : Int)) ∧ (Value.int .i64 (x7 + n17)) = (Value.int .i64 s19.2) ∧ (J5 s19 w18) ∧ (m6 s19 w18) < (m6 s3 w4)))
def impl_distanceOf_vc (u : Value) (v : Value) (w : World) (Post : Value → World → Prop) : Prop :=
  LenV u (fun n1 => (∃ (J5 : (Nat × Int) → World → Prop) (m6 : (Nat × Int) → World → Nat), ((∃ s2 : (Nat × Int), (Value.int .i64 0) = (Value.int .i64 (s2.1 : Int)) ∧ (Value.int .i64 0) = (Value.int .i64 s2.2) ∧ (J5 s2 w)) ∧ ∀ (s3 : (Nat × Int)) (w4 : World), (J5 s3 w4) → ((((s3.1 : Int) < n1) → (impl_distanceOf_k0 u v s3 w4 J5 m6 s3.2 (s3.1 : Int) w4)) ∧ (¬ ((s3.1 : Int) < n1) → Post (Value.int .i64 s3.2) w4)))))
theorem impl_distanceOf_eq (u : Value) (v : Value) (w : World) (Post : Value → World → Prop) : denF Try.prog [] (impl_distanceOf_A u v w) 152 [u, v] w Post = impl_distanceOf_vc u v w Post := by kernel_rfl
set_option maxRecDepth 100000 in
theorem impl_distanceOf_calls (u : Value) (v : Value) (w : World) (Post : Value → World → Prop) (hvc : impl_distanceOf_vc u v w Post) : Ret Try.prog 152 #[u, v] w Post :=
  Ret.of (denF_sound mixed (Eq.mpr (impl_distanceOf_eq u v w Post) hvc))

theorem impl_distanceOf_val (u v : Value) (a b : List Int) (w : World) (hu : RI w u a) (hv : RI w v b) (hab : a.length = b.length) (hl : a.length ≤ 100) (ha : ∀ z ∈ a, 0 ≤ z ∧ z ≤ 7) (hb : ∀ z ∈ b, 0 ≤ z ∧ z ≤ 7) : Val Try.prog 152 #[u, v] w (.int .i64 (farTo a b a.length)) :=
  Ret.val (impl_distanceOf_calls u v w _ (by
    unfold impl_distanceOf_vc
    refine hu.len ⟨fun s W => s.1 ≤ a.length ∧ s.2 = farTo a b s.1 ∧ Ext w W, fun s _ => a.length - s.1, ⟨(0, 0), rfl, rfl, Nat.zero_le _, rfl, .refl w⟩, ?_⟩
    rintro ⟨k, n⟩ w1 ⟨hk, hn, h1⟩
    simp only at hk hn
    subst hn
    refine ⟨fun hlt => ?_, fun hge => ⟨?_, h1⟩⟩
    · have hlt' : k < a.length := by simp only at hlt; omega
      have hr := farTo_range ha hb k (by omega) (by omega)
      have ha' := ha _ (List.getElem_mem hlt')
      have hb' := hb _ (List.getElem_mem (show k < b.length by omega))
      refine (hu.ext h1).get k rfl hlt' ((hv.ext h1).get k rfl (by omega) ⟨by unfold I64; omega, _, fun w2 h2 => (impl_absolute_val _ w2 (by unfold I64; omega)).call fun _ hx => ⟨rfl, hx⟩, by unfold I64; simp only; omega, fun w3 h3 => ⟨by unfold I64; simp only; omega, (k + 1, farTo a b (k + 1)), rfl, ieq ?_, ⟨hlt', rfl, h1.trans h3⟩, by simp only; omega⟩⟩)
      simp only [farTo]; rw [getD_get hlt', getD_get (show k < b.length by omega)]
    · have : k = a.length := by simp only at hge; omega
      subst this; rfl))
/-- two keys: a number, or the code -/
def twoR (M : Mk) (a b : List Int) (n : Int) : Value := if kCode M [a, b] = 0 then .tuple #[.int .i64 n, .int .i64 0] else .tuple #[.int .i64 0, .int .i64 (kCode M [a, b])]
theorem twoR_pair (M : Mk) (a b : List Int) (n : Int) : ∃ x y, twoR M a b n = .tuple #[.int .i64 x, .int .i64 y] := by unfold twoR; split <;> exact ⟨_, _, rfl⟩
theorem two_small {M : Mk} {a b : List Int} (h : kCode M [a, b] = 0) : a.length = b.length ∧ a.length ≤ 100 ∧ (∀ z ∈ a, 0 ≤ z ∧ z ≤ 7) ∧ ∀ z ∈ b, 0 ≤ z ∧ z ≤ 7 := by
  obtain ⟨hm, hk⟩ := kCode_zero h
  obtain ⟨a1, a2, a3, a4⟩ := (hk a (by simp)).small hm
  obtain ⟨b1, b2, b3, b4⟩ := (hk b (by simp)).small hm
  exact ⟨by omega, by omega, a4, b4⟩
abbrev spec_DifferenceOf_k0 (w : World) (Post : Value → World → Prop) (x10 : Value) (x11 : Value) (w29 : World) : Prop :=
  Calls Try.prog 151 #[x10, x11] w29 (fun e30 w31 => ∃ n32 : Int, e30 = .returned (Value.int .i64 n32) ∧ Keeps w.heap.size [56] w29 w31 ∧ Post (Value.tuple #[(Value.int .i64 n32), (Value.int .i64 0)]) w31)
def spec_DifferenceOf_vc (m_Chambers : Int) (m_Depths : Int) (m_Step : Int) (m_Same : Int) (m_Least : Int) (u : Value) (v : Value) (w : World) (Post : Value → World → Prop) : Prop :=
  ∀ w1 : World, Ext w w1 → Calls Try.prog 150 #[(Value.agg #[(Value.int .i64 m_Chambers), (Value.int .i64 m_Depths), (Value.int .i64 m_Step), (Value.int .i64 m_Same), (Value.int .i64 m_Least)]), u, v] w1 (fun e2 w3 => ∃ n4 : Int, e2 = .returned (Value.int .i64 n4) ∧ Keeps w.heap.size [56] w1 w3 ∧ (((n4 ≠ (0 : Int)) → Post (Value.tuple #[(Value.int .i64 0), (Value.int .i64 n4)]) w3) ∧ (¬ (n4 ≠ (0 : Int)) → (spec_DifferenceOf_k0 w Post u v w3))))
theorem spec_DifferenceOf_eq (m_Chambers : Int) (m_Depths : Int) (m_Step : Int) (m_Same : Int) (m_Least : Int) (u : Value) (v : Value) (w : World) (Post : Value → World → Prop) : denF Try.prog [] noAnn 88 [(Value.agg #[(Value.int .i64 m_Chambers), (Value.int .i64 m_Depths), (Value.int .i64 m_Step), (Value.int .i64 m_Same), (Value.int .i64 m_Least)]), u, v] w Post = spec_DifferenceOf_vc m_Chambers m_Depths m_Step m_Same m_Least u v w Post := by kernel_rfl
set_option maxRecDepth 100000 in
theorem spec_DifferenceOf_calls (m_Chambers : Int) (m_Depths : Int) (m_Step : Int) (m_Same : Int) (m_Least : Int) (u : Value) (v : Value) (w : World) (Post : Value → World → Prop) (hvc : spec_DifferenceOf_vc m_Chambers m_Depths m_Step m_Same m_Least u v w Post) : Ret Try.prog 88 #[(Value.agg #[(Value.int .i64 m_Chambers), (Value.int .i64 m_Depths), (Value.int .i64 m_Step), (Value.int .i64 m_Same), (Value.int .i64 m_Least)]), u, v] w Post :=
  Ret.of (denF_sound mixed (Eq.mpr (spec_DifferenceOf_eq m_Chambers m_Depths m_Step m_Same m_Least u v w Post) hvc))

theorem spec_DifferenceOf_val (M : Mk) (u v : Value) (a b : List Int) (w : World) (hu : RI w u a) (hv : RI w v b) : Val Try.prog 88 #[mkV M.c M.d M.s M.m M.l, u, v] w (twoR M a b (diffTo a b a.length)) :=
  Ret.val (spec_DifferenceOf_calls M.c M.d M.s M.m M.l u v w _ (by
    unfold spec_DifferenceOf_vc
    intro w1 h1
    refine (spec_l03Two_val M u v a b w1 (hu.ext h1) (hv.ext h1)).call fun w2 h2 => ⟨_, rfl, h2.keeps, fun hne => ⟨?_, h1.trans h2⟩, fun he => ?_⟩
    · unfold twoR; rw [if_neg hne]
    have he := Classical.not_not.1 he
    have k2 := h1.trans h2
    obtain ⟨p1, p2, p3, p4⟩ := two_small he
    refine (spec_l03Difference_val u v a b w2 (hu.ext k2) (hv.ext k2) p1 p2).call fun w3 h3 => ⟨_, rfl, h3.keeps, ?_, k2.trans h3⟩
    unfold twoR; rw [if_pos he]))
abbrev impl_DifferenceOf_k0 (w : World) (Post : Value → World → Prop) (x12 : Value) (x13 : Value) (w32 : World) : Prop :=
  Calls Try.prog 149 #[x12, x13] w32 (fun e33 w34 => ∃ n35 : Int, e33 = .returned (Value.int .i64 n35) ∧ Keeps w.heap.size [56] w32 w34 ∧ Post (Value.tuple #[(Value.int .i64 n35), (Value.int .i64 0)]) w34)
def impl_DifferenceOf_vc (m_Chambers : Int) (m_Depths : Int) (m_Step : Int) (m_Same : Int) (m_Least : Int) (u : Value) (v : Value) (w : World) (Post : Value → World → Prop) : Prop :=
  ∀ w1 : World, Ext w w1 → oneC u (oneC v (∀ (v2 : Value) (w3 : World), Own w1.heap.size w3 22 v2 [u, v] → Ext w1 w3 → Calls Try.prog 148 #[(Value.agg #[(Value.int .i64 m_Chambers), (Value.int .i64 m_Depths), (Value.int .i64 m_Step), (Value.int .i64 m_Same), (Value.int .i64 m_Least)]), v2] w3 (fun e4 w5 => ∃ n6 : Int, e4 = .returned (Value.int .i64 n6) ∧ Keeps w.heap.size [56] w3 w5 ∧ (((n6 ≠ (0 : Int)) → Post (Value.tuple #[(Value.int .i64 0), (Value.int .i64 n6)]) w5) ∧ (¬ (n6 ≠ (0 : Int)) → (impl_DifferenceOf_k0 w Post u v w5))))))
theorem impl_DifferenceOf_eq (m_Chambers : Int) (m_Depths : Int) (m_Step : Int) (m_Same : Int) (m_Least : Int) (u : Value) (v : Value) (w : World) (Post : Value → World → Prop) : denF Try.prog [] noAnn 87 [(Value.agg #[(Value.int .i64 m_Chambers), (Value.int .i64 m_Depths), (Value.int .i64 m_Step), (Value.int .i64 m_Same), (Value.int .i64 m_Least)]), u, v] w Post = impl_DifferenceOf_vc m_Chambers m_Depths m_Step m_Same m_Least u v w Post := by kernel_rfl
set_option maxRecDepth 100000 in
theorem impl_DifferenceOf_calls (m_Chambers : Int) (m_Depths : Int) (m_Step : Int) (m_Same : Int) (m_Least : Int) (u : Value) (v : Value) (w : World) (Post : Value → World → Prop) (hvc : impl_DifferenceOf_vc m_Chambers m_Depths m_Step m_Same m_Least u v w Post) : Ret Try.prog 87 #[(Value.agg #[(Value.int .i64 m_Chambers), (Value.int .i64 m_Depths), (Value.int .i64 m_Step), (Value.int .i64 m_Same), (Value.int .i64 m_Least)]), u, v] w Post :=
  Ret.of (denF_sound mixed (Eq.mpr (impl_DifferenceOf_eq m_Chambers m_Depths m_Step m_Same m_Least u v w Post) hvc))

theorem impl_DifferenceOf_val (M : Mk) (u v : Value) (a b : List Int) (w : World) (hu : RI w u a) (hv : RI w v b) : Val Try.prog 87 #[mkV M.c M.d M.s M.m M.l, u, v] w (twoR M a b (diffTo a b a.length)) :=
  Ret.val (impl_DifferenceOf_calls M.c M.d M.s M.m M.l u v w _ (by
    unfold impl_DifferenceOf_vc
    intro w0 h0
    refine hu.oneC (hv.oneC fun r w1 o1 h1 => ?_)
    have k1 := h0.trans h1
    refine (impl_keysCode_val M r [a, b] w1 (RR.two2 o1 (hu.ext k1) (hv.ext k1))).call fun w2 h2 => ⟨_, rfl, h2.keeps, fun hne => ⟨?_, k1.trans h2⟩, fun he => ?_⟩
    · unfold twoR; rw [if_neg hne]
    have he := Classical.not_not.1 he
    have k2 := k1.trans h2
    obtain ⟨p1, p2, p3, p4⟩ := two_small he
    refine (impl_differenceOf_val u v a b w2 (hu.ext k2) (hv.ext k2) p1 p2).call fun w3 h3 => ⟨_, rfl, h3.keeps, ?_, k2.trans h3⟩
    unfold twoR; rw [if_pos he]))
abbrev spec_DistanceOf_k0 (w : World) (Post : Value → World → Prop) (x10 : Value) (x11 : Value) (w29 : World) : Prop :=
  Calls Try.prog 153 #[x10, x11] w29 (fun e30 w31 => ∃ n32 : Int, e30 = .returned (Value.int .i64 n32) ∧ Keeps w.heap.size [56] w29 w31 ∧ Post (Value.tuple #[(Value.int .i64 n32), (Value.int .i64 0)]) w31)
def spec_DistanceOf_vc (m_Chambers : Int) (m_Depths : Int) (m_Step : Int) (m_Same : Int) (m_Least : Int) (u : Value) (v : Value) (w : World) (Post : Value → World → Prop) : Prop :=
  ∀ w1 : World, Ext w w1 → Calls Try.prog 150 #[(Value.agg #[(Value.int .i64 m_Chambers), (Value.int .i64 m_Depths), (Value.int .i64 m_Step), (Value.int .i64 m_Same), (Value.int .i64 m_Least)]), u, v] w1 (fun e2 w3 => ∃ n4 : Int, e2 = .returned (Value.int .i64 n4) ∧ Keeps w.heap.size [56] w1 w3 ∧ (((n4 ≠ (0 : Int)) → Post (Value.tuple #[(Value.int .i64 0), (Value.int .i64 n4)]) w3) ∧ (¬ (n4 ≠ (0 : Int)) → (spec_DistanceOf_k0 w Post u v w3))))
theorem spec_DistanceOf_eq (m_Chambers : Int) (m_Depths : Int) (m_Step : Int) (m_Same : Int) (m_Least : Int) (u : Value) (v : Value) (w : World) (Post : Value → World → Prop) : denF Try.prog [] noAnn 90 [(Value.agg #[(Value.int .i64 m_Chambers), (Value.int .i64 m_Depths), (Value.int .i64 m_Step), (Value.int .i64 m_Same), (Value.int .i64 m_Least)]), u, v] w Post = spec_DistanceOf_vc m_Chambers m_Depths m_Step m_Same m_Least u v w Post := by kernel_rfl
set_option maxRecDepth 100000 in
theorem spec_DistanceOf_calls (m_Chambers : Int) (m_Depths : Int) (m_Step : Int) (m_Same : Int) (m_Least : Int) (u : Value) (v : Value) (w : World) (Post : Value → World → Prop) (hvc : spec_DistanceOf_vc m_Chambers m_Depths m_Step m_Same m_Least u v w Post) : Ret Try.prog 90 #[(Value.agg #[(Value.int .i64 m_Chambers), (Value.int .i64 m_Depths), (Value.int .i64 m_Step), (Value.int .i64 m_Same), (Value.int .i64 m_Least)]), u, v] w Post :=
  Ret.of (denF_sound mixed (Eq.mpr (spec_DistanceOf_eq m_Chambers m_Depths m_Step m_Same m_Least u v w Post) hvc))

theorem spec_DistanceOf_val (M : Mk) (u v : Value) (a b : List Int) (w : World) (hu : RI w u a) (hv : RI w v b) : Val Try.prog 90 #[mkV M.c M.d M.s M.m M.l, u, v] w (twoR M a b (farTo a b a.length)) :=
  Ret.val (spec_DistanceOf_calls M.c M.d M.s M.m M.l u v w _ (by
    unfold spec_DistanceOf_vc
    intro w1 h1
    refine (spec_l03Two_val M u v a b w1 (hu.ext h1) (hv.ext h1)).call fun w2 h2 => ⟨_, rfl, h2.keeps, fun hne => ⟨?_, h1.trans h2⟩, fun he => ?_⟩
    · unfold twoR; rw [if_neg hne]
    have he := Classical.not_not.1 he
    have k2 := h1.trans h2
    obtain ⟨p1, p2, p3, p4⟩ := two_small he
    refine (spec_l03Distance_val u v a b w2 (hu.ext k2) (hv.ext k2) p1 p2 p3 p4).call fun w3 h3 => ⟨_, rfl, h3.keeps, ?_, k2.trans h3⟩
    unfold twoR; rw [if_pos he]))
abbrev impl_DistanceOf_k0 (w : World) (Post : Value → World → Prop) (x12 : Value) (x13 : Value) (w32 : World) : Prop :=
  Calls Try.prog 152 #[x12, x13] w32 (fun e33 w34 => ∃ n35 : Int, e33 = .returned (Value.int .i64 n35) ∧ Keeps w.heap.size [56] w32 w34 ∧ Post (Value.tuple #[(Value.int .i64 n35), (Value.int .i64 0)]) w34)
def impl_DistanceOf_vc (m_Chambers : Int) (m_Depths : Int) (m_Step : Int) (m_Same : Int) (m_Least : Int) (u : Value) (v : Value) (w : World) (Post : Value → World → Prop) : Prop :=
  ∀ w1 : World, Ext w w1 → oneC u (oneC v (∀ (v2 : Value) (w3 : World), Own w1.heap.size w3 22 v2 [u, v] → Ext w1 w3 → Calls Try.prog 148 #[(Value.agg #[(Value.int .i64 m_Chambers), (Value.int .i64 m_Depths), (Value.int .i64 m_Step), (Value.int .i64 m_Same), (Value.int .i64 m_Least)]), v2] w3 (fun e4 w5 => ∃ n6 : Int, e4 = .returned (Value.int .i64 n6) ∧ Keeps w.heap.size [56] w3 w5 ∧ (((n6 ≠ (0 : Int)) → Post (Value.tuple #[(Value.int .i64 0), (Value.int .i64 n6)]) w5) ∧ (¬ (n6 ≠ (0 : Int)) → (impl_DistanceOf_k0 w Post u v w5))))))
theorem impl_DistanceOf_eq (m_Chambers : Int) (m_Depths : Int) (m_Step : Int) (m_Same : Int) (m_Least : Int) (u : Value) (v : Value) (w : World) (Post : Value → World → Prop) : denF Try.prog [] noAnn 89 [(Value.agg #[(Value.int .i64 m_Chambers), (Value.int .i64 m_Depths), (Value.int .i64 m_Step), (Value.int .i64 m_Same), (Value.int .i64 m_Least)]), u, v] w Post = impl_DistanceOf_vc m_Chambers m_Depths m_Step m_Same m_Least u v w Post := by kernel_rfl
set_option maxRecDepth 100000 in
theorem impl_DistanceOf_calls (m_Chambers : Int) (m_Depths : Int) (m_Step : Int) (m_Same : Int) (m_Least : Int) (u : Value) (v : Value) (w : World) (Post : Value → World → Prop) (hvc : impl_DistanceOf_vc m_Chambers m_Depths m_Step m_Same m_Least u v w Post) : Ret Try.prog 89 #[(Value.agg #[(Value.int .i64 m_Chambers), (Value.int .i64 m_Depths), (Value.int .i64 m_Step), (Value.int .i64 m_Same), (Value.int .i64 m_Least)]), u, v] w Post :=
  Ret.of (denF_sound mixed (Eq.mpr (impl_DistanceOf_eq m_Chambers m_Depths m_Step m_Same m_Least u v w Post) hvc))

theorem impl_DistanceOf_val (M : Mk) (u v : Value) (a b : List Int) (w : World) (hu : RI w u a) (hv : RI w v b) : Val Try.prog 89 #[mkV M.c M.d M.s M.m M.l, u, v] w (twoR M a b (farTo a b a.length)) :=
  Ret.val (impl_DistanceOf_calls M.c M.d M.s M.m M.l u v w _ (by
    unfold impl_DistanceOf_vc
    intro w0 h0
    refine hu.oneC (hv.oneC fun r w1 o1 h1 => ?_)
    have k1 := h0.trans h1
    refine (impl_keysCode_val M r [a, b] w1 (RR.two2 o1 (hu.ext k1) (hv.ext k1))).call fun w2 h2 => ⟨_, rfl, h2.keeps, fun hne => ⟨?_, k1.trans h2⟩, fun he => ?_⟩
    · unfold twoR; rw [if_neg hne]
    have he := Classical.not_not.1 he
    have k2 := k1.trans h2
    obtain ⟨p1, p2, p3, p4⟩ := two_small he
    refine (impl_distanceOf_val u v a b w2 (hu.ext k2) (hv.ext k2) p1 p2 p3 p4).call fun w3 h3 => ⟨_, rfl, h3.keeps, ?_, k2.trans h3⟩
    unfold twoR; rw [if_pos he]))

/-! ### mirrored and reversed keys -/
def mirror (d : Int) (zs : List Int) : List Int := zs.map fun z => d - 1 - z
def mirrorR (M : Mk) (zs : List Int) : List Int := if kCode M [zs] = 0 then mirror M.d zs else []
def revR (M : Mk) (zs : List Int) : List Int := if kCode M [zs] = 0 then zs.reverse else []
theorem one_small {M : Mk} {a : List Int} (h : kCode M [a] = 0) : M.Ok ∧ IsK M a ∧ a.length ≤ 6 ∧ 2 ≤ a.length ∧ ∀ z ∈ a, 0 ≤ z ∧ z ≤ M.d - 1 := by
  obtain ⟨hm, hk⟩ := kCode_zero h
  have hk := hk a (by simp)
  obtain ⟨a1, a2, a3, a4⟩ := hk.small hm
  exact ⟨hm, hk, a1, a2, hk.2.1⟩
theorem mirrorR_len (M : Mk) (zs : List Int) : (mirrorR M zs).length ≤ 6 := by
  unfold mirrorR; split
  · rename_i h
    have := (one_small h).2.2.1
    simpa [mirror] using this
  · simp
theorem revR_len (M : Mk) (zs : List Int) : (revR M zs).length ≤ 6 := by
  unfold revR; split
  · rename_i h
    have := (one_small h).2.2.1
    simpa using this
  · simp
def spec_MirrorKey_A (m_Chambers : Int) (m_Depths : Int) (m_Step : Int) (m_Same : Int) (m_Least : Int) (v : Value) (w : World) : Nat → Ann := fun κ => match κ with
  | 0 => { σ := Nat × Value, sli := [8, 7], slc := fun s => [SV.v (Value.int .i64 (s.1 : Int)), SV.v s.2], bxi := [], bxc := fun s => [], inv := fun s W => True, μ := fun s W => 0, free := true }
  | _ => { σ := Unit, sli := [], slc := fun _ => [], bxi := [], bxc := fun _ => [], inv := fun _ _ => False, μ := fun _ _ => 0 }
abbrev spec_MirrorKey_k0 (x10 : Value) (x22 : Int) (s30 : Nat × Value) (w31 : World) (J32 : (Nat × Value) → World → Prop) (m33 : (Nat × Value) → World → Nat) (x35 : Value) (x36 : Int) (w40 : World) : Prop :=
  ∀ w41 : World, Ext w40 w41 → I64 (x22 - 1) ∧ IxV 1 x10 x36 (fun ad42 => ∃ n43 : Int, LdV w41 (Value.pointer (some ad42)) (Value.int .i64 n43) ∧ I64 ((x22 - 1) - n43) ∧ ∀ (v44 : Value) (w45 : World), Own w41.heap.size w45 2 v44 [(Value.int .i64 ((x22 - 1) - n43))] → Ext w41 w45 → AppV w45 2 x35 v44 (fun v46 w47 => I64 (x36 + 1) ∧ ∃ s48 : (Nat × Value), (Value.int .i64 (x36 + 1)) = (Value.int .i64 (s48.1 : Int)) ∧ v46 = s48.2 ∧ (J32 s48 w47) ∧ (m33 s48 w47) < (m33 s30 w31)))
abbrev spec_MirrorKey_k1 (Post : Value → World → Prop) (x10 : Value) (x22 : Int) (w26 : World) : Prop :=
  ∀ (v27 : Value) (w28 : World), Own w26.heap.size w28 2 v27 [] → Ext w26 w28 → (∃ (J32 : (Nat × Value) → World → Prop) (m33 : (Nat × Value) → World → Nat), ((∃ s29 : (Nat × Value), (Value.int .i64 0) = (Value.int .i64 (s29.1 : Int)) ∧ v27 = s29.2 ∧ (J32 s29 w28)) ∧ ∀ (s30 : (Nat × Value)) (w31 : World), (J32 s30 w31) → LenV x10 (fun n34 => ((((s30.1 : Int) < n34) → (spec_MirrorKey_k0 x10 x22 s30 w31 J32 m33 s30.2 (s30.1 : Int) w31)) ∧ (¬ ((s30.1 : Int) < n34) → Post (Value.tuple #[s30.2, (Value.int .i64 0)]) w31)))))
def spec_MirrorKey_vc (m_Chambers : Int) (m_Depths : Int) (m_Step : Int) (m_Same : Int) (m_Least : Int) (v : Value) (w : World) (Post : Value → World → Prop) : Prop :=
  ∀ w1 : World, Ext w w1 → Calls Try.prog 155 #[(Value.agg #[(Value.int .i64 m_Chambers), (Value.int .i64 m_Depths), (Value.int .i64 m_Step), (Value.int .i64 m_Same), (Value.int .i64 m_Least)]), v] w1 (fun e2 w3 => ∃ n4 : Int, e2 = .returned (Value.int .i64 n4) ∧ Keeps w.heap.size [56] w1 w3 ∧ (((n4 ≠ (0 : Int)) → Post (Value.tuple #[(Value.slice none 0 0), (Value.int .i64 n4)]) w3) ∧ (¬ (n4 ≠ (0 : Int)) → (spec_MirrorKey_k1 Post v m_Depths w3))))
theorem spec_MirrorKey_eq (m_Chambers : Int) (m_Depths : Int) (m_Step : Int) (m_Same : Int) (m_Least : Int) (v : Value) (w : World) (Post : Value → World → Prop) : denF Try.prog [] (spec_MirrorKey_A m_Chambers m_Depths m_Step m_Same m_Least v w) 93 [(Value.agg #[(Value.int .i64 m_Chambers), (Value.int .i64 m_Depths), (Value.int .i64 m_Step), (Value.int .i64 m_Same), (Value.int .i64 m_Least)]), v] w Post = spec_MirrorKey_vc m_Chambers m_Depths m_Step m_Same m_Least v w Post := by kernel_rfl
set_option maxRecDepth 100000 in
theorem spec_MirrorKey_calls (m_Chambers : Int) (m_Depths : Int) (m_Step : Int) (m_Same : Int) (m_Least : Int) (v : Value) (w : World) (Post : Value → World → Prop) (hvc : spec_MirrorKey_vc m_Chambers m_Depths m_Step m_Same m_Least v w Post) : Ret Try.prog 93 #[(Value.agg #[(Value.int .i64 m_Chambers), (Value.int .i64 m_Depths), (Value.int .i64 m_Step), (Value.int .i64 m_Same), (Value.int .i64 m_Least)]), v] w Post :=
  Ret.of (denF_sound mixed (Eq.mpr (spec_MirrorKey_eq m_Chambers m_Depths m_Step m_Same m_Least v w Post) hvc))

theorem spec_MirrorKey_ret (M : Mk) (v : Value) (zs : List Int) (w : World) (hv : RI w v zs) : SlR 93 #[mkV M.c M.d M.s M.m M.l, v] w (mirrorR M zs) (kCode M [zs]) :=
  spec_MirrorKey_calls M.c M.d M.s M.m M.l v w _ (by
    unfold spec_MirrorKey_vc
    intro w1 h1
    refine (spec_l02Code_val M v zs w1 (hv.ext h1)).call fun w2 h2 => ⟨_, rfl, h2.keeps, fun hne => ?_, fun he => ?_⟩
    · unfold mirrorR; rw [if_neg hne]
      exact ⟨_, rfl, Own.nil_ _ _ _, h1.trans h2⟩
    have he := Classical.not_not.1 he
    have k2 := h1.trans h2
    obtain ⟨hm, _, hl, _, hcut⟩ := one_small he
    have hd := hm.2.1
    intro u w3 o3 h3
    have k3 := k2.trans h3
    refine ⟨fun s W => s.1 ≤ zs.length ∧ Ext w W ∧ Own w.heap.size W 2 s.2 (ints (mirror M.d (zs.take s.1))), fun s _ => zs.length - s.1, ⟨(0, u), rfl, rfl, Nat.zero_le _, k3, by simpa [mirror, ints] using o3.mono k2.size⟩, ?_⟩
    rintro ⟨k, u⟩ w4 ⟨hk, k4, o4⟩
    simp only at hk o4
    refine (hv.ext k4).len ⟨fun hlt => ?_, fun hge => ?_⟩
    · have hlt' : k < zs.length := by simp only at hlt; omega
      intro w5 h5
      have k5 := k4.trans h5
      have hz := hcut _ (List.getElem_mem hlt')
      refine ⟨by unfold I64; omega, (hv.ext k5).get k rfl hlt' ⟨by unfold I64; omega, fun r w6 o6 h6 => ?_⟩⟩
      have k6 := k5.trans h6
      have o46 := (o4.ext h5).ext h6
      refine o46.app1 o6 rfl (by simp [mirror]; omega) k6.size fun u' w7 o7 g7 _ => ⟨by unfold I64; simp only; omega, (k + 1, u'), rfl, rfl, ⟨hlt', k6.grown o46 (Nat.le_refl _) g7, ?_⟩, by simp only; omega⟩
      simp only
      rw [take_snoc zs k hlt', mirror, List.map_append, ints_append]
      exact o7
    · have e : zs.take k = zs := List.take_of_length_le (by simp only at hge; omega)
      rw [e] at o4
      exact ⟨u, by rw [he], by unfold mirrorR; rw [if_pos he]; exact o4, k4⟩)
def impl_MirrorKey_A (m_Chambers : Int) (m_Depths : Int) (m_Step : Int) (m_Same : Int) (m_Least : Int) (v : Value) (w : World) : Nat → Ann := fun κ => match κ with
  | 0 => { σ := Nat × Value, sli := [20, 7], slc := fun s => [SV.v (Value.int .i64 (s.1 : Int)), SV.v s.2], bxi := [], bxc := fun s => [], inv := fun s W => True, μ := fun s W => 0, free := true }
  | _ => { σ := Unit, sli := [], slc := fun _ => [], bxi := [], bxc := fun _ => [], inv := fun _ _ => False, μ := fun _ _ => 0 }
abbrev impl_MirrorKey_k0 (x12 : Value) (x25 : Int) (s34 : Nat × Value) (w35 : World) (J36 : (Nat × Value) → World → Prop) (m37 : (Nat × Value) → World → Nat) (x38 : Value) (x39 : Int) (w40 : World) : Prop :=
  IxV 1 x12 x39 (fun ad41 => ∃ n42 : Int, LdV w40 (Value.pointer (some ad41)) (Value.int .i64 n42) ∧ I64 (x25 - 1) ∧ I64 ((x25 - 1) - n42) ∧ ∀ (v43 : Value) (w44 : World), Own w40.heap.size w44 2 v43 [(Value.int .i64 ((x25 - 1) - n42))] → Ext w40 w44 → AppV w44 2 x38 v43 (fun v45 w46 => I64 (x39 + 1) ∧ ∃ s47 : (Nat × Value), (Value.int .i64 (x39 + 1)) = (Value.int .i64 (s47.1 : Int)) ∧ v45 = s47.2 ∧ (J36 s47 w46) ∧ (m37 s47 w46) < (m37 s34 w35)))
abbrev impl_MirrorKey_k1 (Post : Value → World → Prop) (x12 : Value) (x25 : Int) (w29 : World) : Prop :=
  ∀ (v30 : Value) (w31 : World), Own w29.heap.size w31 2 v30 [] → Ext w29 w31 → LenV x12 (fun n32 => (∃ (J36 : (Nat × Value) → World → Prop) (m37 : (Nat × Value) → World → Nat), ((∃ s33 : (Nat × Value), (Value.int .i64 0) = (Value.int .i64 (s33.1 : Int)) ∧ v30 = s33.2 ∧ (J36 s33 w31)) ∧ ∀ (s34 : (Nat × Value)) (w35 : World), (J36 s34 w35) → ((((s34.1 : Int) < n32) → (impl_MirrorKey_k0 x12 x25 s34 w35 J36 m37 s34.2 (s34.1 : Int) w35)) ∧ (¬ ((s34.1 : Int) < n32) → Post (Value.tuple #[s34.2, (Value.int .i64 0)]) w35)))))
def impl_MirrorKey_vc (m_Chambers : Int) (m_Depths : Int) (m_Step : Int) (m_Same : Int) (m_Least : Int) (v : Value) (w : World) (Post : Value → World → Prop) : Prop :=
  ∀ w1 : World, Ext w w1 → oneC v (∀ (v2 : Value) (w3 : World), Own w1.heap.size w3 22 v2 [v] → Ext w1 w3 → Calls Try.prog 148 #[(Value.agg #[(Value.int .i64 m_Chambers), (Value.int .i64 m_Depths), (Value.int .i64 m_Step), (Value.int .i64 m_Same), (Value.int .i64 m_Least)]), v2] w3 (fun e4 w5 => ∃ n6 : Int, e4 = .returned (Value.int .i64 n6) ∧ Keeps w.heap.size [56] w3 w5 ∧ (((n6 ≠ (0 : Int)) → Post (Value.tuple #[(Value.slice none 0 0), (Value.int .i64 n6)]) w5) ∧ (¬ (n6 ≠ (0 : Int)) → (impl_MirrorKey_k1 Post v m_Depths w5)))))
theorem impl_MirrorKey_eq (m_Chambers : Int) (m_Depths : Int) (m_Step : Int) (m_Same : Int) (m_Least : Int) (v : Value) (w : World) (Post : Value → World → Prop) : denF Try.prog [] (impl_MirrorKey_A m_Chambers m_Depths m_Step m_Same m_Least v w) 92 [(Value.agg #[(Value.int .i64 m_Chambers), (Value.int .i64 m_Depths), (Value.int .i64 m_Step), (Value.int .i64 m_Same), (Value.int .i64 m_Least)]), v] w Post = impl_MirrorKey_vc m_Chambers m_Depths m_Step m_Same m_Least v w Post := by kernel_rfl
set_option maxRecDepth 100000 in
theorem impl_MirrorKey_calls (m_Chambers : Int) (m_Depths : Int) (m_Step : Int) (m_Same : Int) (m_Least : Int) (v : Value) (w : World) (Post : Value → World → Prop) (hvc : impl_MirrorKey_vc m_Chambers m_Depths m_Step m_Same m_Least v w Post) : Ret Try.prog 92 #[(Value.agg #[(Value.int .i64 m_Chambers), (Value.int .i64 m_Depths), (Value.int .i64 m_Step), (Value.int .i64 m_Same), (Value.int .i64 m_Least)]), v] w Post :=
  Ret.of (denF_sound mixed (Eq.mpr (impl_MirrorKey_eq m_Chambers m_Depths m_Step m_Same m_Least v w Post) hvc))

theorem impl_MirrorKey_ret (M : Mk) (v : Value) (zs : List Int) (w : World) (hv : RI w v zs) : SlR 92 #[mkV M.c M.d M.s M.m M.l, v] w (mirrorR M zs) (kCode M [zs]) :=
  impl_MirrorKey_calls M.c M.d M.s M.m M.l v w _ (by
    unfold impl_MirrorKey_vc
    intro w0 h0
    refine hv.oneC fun r w1 o1 h1 => ?_
    have k1 := h0.trans h1
    refine (impl_keysCode_val M r [zs] w1 (RR.one1 o1 (hv.ext k1))).call fun w2 h2 => ⟨_, rfl, h2.keeps, fun hne => ?_, fun he => ?_⟩
    · unfold mirrorR; rw [if_neg hne]
      exact ⟨_, rfl, Own.nil_ _ _ _, k1.trans h2⟩
    have he := Classical.not_not.1 he
    have k2 := k1.trans h2
    obtain ⟨hm, _, hl, _, hcut⟩ := one_small he
    have hd := hm.2.1
    intro u w3 o3 h3
    have k3 := k2.trans h3
    refine (hv.ext k3).len ⟨fun s W => s.1 ≤ zs.length ∧ Ext w W ∧ Own w.heap.size W 2 s.2 (ints (mirror M.d (zs.take s.1))), fun s _ => zs.length - s.1, ⟨(0, u), rfl, rfl, Nat.zero_le _, k3, by simpa [mirror, ints] using o3.mono k2.size⟩, ?_⟩
    rintro ⟨k, u⟩ w4 ⟨hk, k4, o4⟩
    simp only at hk o4
    refine ⟨fun hlt => ?_, fun hge => ?_⟩
    · have hlt' : k < zs.length := by simp only at hlt; omega
      have hz := hcut _ (List.getElem_mem hlt')
      refine (hv.ext k4).get k rfl hlt' ⟨by unfold I64; omega, by unfold I64; omega, fun r w6 o6 h6 => ?_⟩
      have k6 := k4.trans h6
      have o46 := o4.ext h6
      refine o46.app1 o6 rfl (by simp [mirror]; omega) k6.size fun u' w7 o7 g7 _ => ⟨by unfold I64; simp only; omega, (k + 1, u'), rfl, rfl, ⟨hlt', k6.grown o46 (Nat.le_refl _) g7, ?_⟩, by simp only; omega⟩
      simp only
      rw [take_snoc zs k hlt', mirror, List.map_append, ints_append]
      exact o7
    · have e : zs.take k = zs := List.take_of_length_le (by simp only at hge; omega)
      rw [e] at o4
      exact ⟨u, by rw [he], by unfold mirrorR; rw [if_pos he]; exact o4, k4⟩)
end Go.Proofs
