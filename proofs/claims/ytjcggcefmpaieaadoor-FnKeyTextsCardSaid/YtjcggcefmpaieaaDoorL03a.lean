/- Codes of keys, differences and distances, mirrored and reversed keys. No condition. -/
import Derived.Test.YtjcggcefmpaieaaDoorL02d
set_option linter.unusedVariables false
namespace Go.Proofs
open Go.Sx Go.RowKit
/-! ### the code of keys -/
abbrev Mk.v (M : Mk) : Value := mkV M.c M.d M.s M.m M.l
def kCode (M : Mk) (zss : List (List Int)) : Int := if MkOk M.c M.d M.s M.m M.l then (if ∀ z ∈ zss, IsK M z then 0 else 2) else 1
theorem kCode_no {M : Mk} {zss : List (List Int)} (h : ¬ MkOk M.c M.d M.s M.m M.l) : kCode M zss = 1 := by unfold kCode; rw [if_neg h]
theorem kCode_bad {M : Mk} {zss : List (List Int)} (h : MkOk M.c M.d M.s M.m M.l) (h2 : ¬ ∀ z ∈ zss, IsK M z) : kCode M zss = 2 := by unfold kCode; rw [if_pos h, if_neg h2]
theorem kCode_ok {M : Mk} {zss : List (List Int)} (h : MkOk M.c M.d M.s M.m M.l) (h2 : ∀ z ∈ zss, IsK M z) : kCode M zss = 0 := by unfold kCode; rw [if_pos h, if_pos h2]
theorem kCode_zero {M : Mk} {zss : List (List Int)} (h : kCode M zss = 0) : M.Ok ∧ ∀ z ∈ zss, IsK M z := by
  by_cases hm : MkOk M.c M.d M.s M.m M.l
  · by_cases hk : ∀ z ∈ zss, IsK M z
    · exact ⟨hm, hk⟩
    · rw [kCode_bad hm hk] at h; cases h
  · rw [kCode_no hm] at h; cases h
theorem kCode_two (M : Mk) (a b : List Int) : kCode M [a, b] = if kCode M [a] = 0 then kCode M [b] else kCode M [a] := by
  by_cases hm : MkOk M.c M.d M.s M.m M.l
  · by_cases ha : IsK M a
    · rw [if_pos (kCode_ok hm (by simpa using ha))]
      by_cases hb : IsK M b
      · rw [kCode_ok (zss := [b]) hm (by simpa using hb), kCode_ok hm (by simp [ha, hb])]
      · rw [kCode_bad (zss := [b]) hm (by simpa using hb), kCode_bad hm (by simp [hb])]
    · rw [kCode_bad (zss := [a]) hm (by simpa using ha), if_neg (by decide), kCode_bad hm (by simp [ha])]
  · rw [kCode_no hm, kCode_no hm, kCode_no hm]
    rfl
theorem RR.one1 {B : Nat} {w : World} {e : TypeId} {r v : Value} {zs : List Int} (o : Own B w e r [v]) (h : RI w v zs) : RR w r [zs] := ⟨[v], o.rd, Rows.nil_.snoc h⟩
theorem RR.two2 {B : Nat} {w : World} {e : TypeId} {r u v : Value} {xs zs : List Int} (o : Own B w e r [u, v]) (h : RI w u xs) (h' : RI w v zs) : RR w r [xs, zs] := ⟨[u, v], o.rd, (Rows.nil_.snoc h).snoc h'⟩
theorem rows_take_succ {zss : List (List Int)} {p : List Int → Prop} {k : Nat} (hk : k < zss.length) (h : ∀ z ∈ zss.take k, p z) (h1 : p zss[k]) : ∀ z ∈ zss.take (k + 1), p z := by
  intro z hz
  rw [take_snoc zss k hk, List.mem_append] at hz
  rcases hz with hz | hz
  · exact h z hz
  · simp at hz
    subst hz
    exact h1
abbrev spec_l02Code_k0 (w : World) (Post : Value → World → Prop) (x10 : Value) (x19 : Int) (x20 : Int) (x21 : Int) (x22 : Int) (x23 : Int) (w24 : World) : Prop :=
  Calls Tryd.prog 72 #[(Value.agg #[(Value.int .i64 x19), (Value.int .i64 x20), (Value.int .i64 x21), (Value.int .i64 x22), (Value.int .i64 x23)]), x10] w24 (fun e25 w26 => ∃ n27 : Int, e25 = .returned (Value.int .i64 n27) ∧ Keeps w.heap.size [39] w24 w26 ∧ (((n27 ≠ (0 : Int)) → Post (Value.int .i64 2) w26) ∧ (¬ (n27 ≠ (0 : Int)) → Post (Value.int .i64 0) w26)))
def spec_l02Code_vc (m_Chambers : Int) (m_Depths : Int) (m_Step : Int) (m_Same : Int) (m_Least : Int) (v : Value) (w : World) (Post : Value → World → Prop) : Prop :=
  ∀ w1 : World, Ext w w1 → Calls Tryd.prog 48 #[(Value.agg #[(Value.int .i64 m_Chambers), (Value.int .i64 m_Depths), (Value.int .i64 m_Step), (Value.int .i64 m_Same), (Value.int .i64 m_Least)])] w1 (fun e2 w3 => ∃ b4 : Bool, e2 = .returned (Value.bool b4) ∧ Keeps w.heap.size [39] w1 w3 ∧ (((!b4) = true → Post (Value.int .i64 1) w3) ∧ ((!b4) = false → (spec_l02Code_k0 w Post v m_Chambers m_Depths m_Step m_Same m_Least w3))))
theorem spec_l02Code_eq (m_Chambers : Int) (m_Depths : Int) (m_Step : Int) (m_Same : Int) (m_Least : Int) (v : Value) (w : World) (Post : Value → World → Prop) : denF Tryd.prog [] noAnn 57 [(Value.agg #[(Value.int .i64 m_Chambers), (Value.int .i64 m_Depths), (Value.int .i64 m_Step), (Value.int .i64 m_Same), (Value.int .i64 m_Least)]), v] w Post = spec_l02Code_vc m_Chambers m_Depths m_Step m_Same m_Least v w Post := by kernel_rfl
set_option maxRecDepth 100000 in
theorem spec_l02Code_calls (m_Chambers : Int) (m_Depths : Int) (m_Step : Int) (m_Same : Int) (m_Least : Int) (v : Value) (w : World) (Post : Value → World → Prop) (hvc : spec_l02Code_vc m_Chambers m_Depths m_Step m_Same m_Least v w Post) : Ret Tryd.prog 57 #[(Value.agg #[(Value.int .i64 m_Chambers), (Value.int .i64 m_Depths), (Value.int .i64 m_Step), (Value.int .i64 m_Same), (Value.int .i64 m_Least)]), v] w Post :=
  Ret.of (denF_sound mixed (Eq.mpr (spec_l02Code_eq m_Chambers m_Depths m_Step m_Same m_Least v w Post) hvc))

theorem spec_l02Code_val (M : Mk) (v : Value) (zs : List Int) (w : World) (hv : RI w v zs) : Val Tryd.prog 57 #[mkV M.c M.d M.s M.m M.l, v] w (.int .i64 (kCode M [zs])) :=
  Ret.val (spec_l02Code_calls M.c M.d M.s M.m M.l v w _ (by
    unfold spec_l02Code_vc
    intro w1 h1
    refine (spec_IsMaker_val ..).call fun w2 h2 => ⟨_, rfl, h2.keeps, fun hb => ⟨by rw [kCode_no (nd_t hb)], h1.trans h2⟩, fun hb => ?_⟩
    have hm := nd_f hb
    have k2 := h1.trans h2
    refine (spec_l02Fault_val M.c M.d M.s M.m M.l v zs w2 (hv.ext k2) hm).call fun w3 h3 => ⟨_, rfl, h3.keeps, fun hb => ⟨?_, k2.trans h3⟩, fun hb => ⟨?_, k2.trans h3⟩⟩
    · rw [kCode_bad hm fun hh => hb (fault_zero.2 (hh zs (by simp)))]
    · rw [kCode_ok hm fun z hz => by simp at hz; subst hz; exact fault_zero.1 (Classical.not_not.1 hb)]))
def impl_keysCode_A (m_Chambers : Int) (m_Depths : Int) (m_Step : Int) (m_Same : Int) (m_Least : Int) (v : Value) (w : World) : Nat → Ann := fun κ => match κ with
  | 0 => { σ := Nat, sli := [12], slc := fun s => [SV.v (Value.int .i64 (s : Int))], bxi := [], bxc := fun s => [], inv := fun s W => True, μ := fun s W => 0, free := true }
  | _ => { σ := Unit, sli := [], slc := fun _ => [], bxi := [], bxc := fun _ => [], inv := fun _ _ => False, μ := fun _ _ => 0 }
abbrev impl_keysCode_k0 (s27 : Nat) (w28 : World) (J29 : Nat → World → Prop) (m30 : Nat → World → Nat) (x39 : Int) (w50 : World) : Prop :=
  I64 (x39 + 1) ∧ ∃ s51 : Nat, (Value.int .i64 (x39 + 1)) = (Value.int .i64 (s51 : Int)) ∧ (J29 s51 w50) ∧ (m30 s51 w50) < (m30 s27 w28)
abbrev impl_keysCode_k1 (w : World) (Post : Value → World → Prop) (x10 : Value) (x19 : Int) (x20 : Int) (x21 : Int) (x22 : Int) (x23 : Int) (s27 : Nat) (w28 : World) (J29 : Nat → World → Prop) (m30 : Nat → World → Nat) (x31 : Int) (w32 : World) : Prop :=
  IxV 1 x10 x31 (fun ad33 => ∃ u34 : Value, LdV w32 (Value.pointer (some ad33)) u34 ∧ Calls Tryd.prog 89 #[(Value.agg #[(Value.int .i64 x19), (Value.int .i64 x20), (Value.int .i64 x21), (Value.int .i64 x22), (Value.int .i64 x23)]), u34] w32 (fun e35 w36 => ∃ b37 : Bool, e35 = .returned (Value.bool b37) ∧ Keeps w.heap.size [39] w32 w36 ∧ (((!b37) = true → Post (Value.int .i64 2) w36) ∧ ((!b37) = false → (impl_keysCode_k0 s27 w28 J29 m30 x31 w36)))))
abbrev impl_keysCode_k2 (w : World) (Post : Value → World → Prop) (x10 : Value) (x19 : Int) (x20 : Int) (x21 : Int) (x22 : Int) (x23 : Int) (w24 : World) : Prop :=
  LenV x10 (fun n25 => (∃ (J29 : Nat → World → Prop) (m30 : Nat → World → Nat), ((∃ s26 : Nat, (Value.int .i64 0) = (Value.int .i64 (s26 : Int)) ∧ (J29 s26 w24)) ∧ ∀ (s27 : Nat) (w28 : World), (J29 s27 w28) → ((((s27 : Int) < n25) → (impl_keysCode_k1 w Post x10 x19 x20 x21 x22 x23 s27 w28 J29 m30 (s27 : Int) w28)) ∧ (¬ ((s27 : Int) < n25) → Post (Value.int .i64 0) w28)))))
def impl_keysCode_vc (m_Chambers : Int) (m_Depths : Int) (m_Step : Int) (m_Same : Int) (m_Least : Int) (v : Value) (w : World) (Post : Value → World → Prop) : Prop :=
  ∀ w1 : World, Ext w w1 → Calls Tryd.prog 51 #[(Value.agg #[(Value.int .i64 m_Chambers), (Value.int .i64 m_Depths), (Value.int .i64 m_Step), (Value.int .i64 m_Same), (Value.int .i64 m_Least)])] w1 (fun e2 w3 => ∃ b4 : Bool, e2 = .returned (Value.bool b4) ∧ Keeps w.heap.size [39] w1 w3 ∧ (((!b4) = true → Post (Value.int .i64 1) w3) ∧ ((!b4) = false → (impl_keysCode_k2 w Post v m_Chambers m_Depths m_Step m_Same m_Least w3))))
theorem impl_keysCode_eq (m_Chambers : Int) (m_Depths : Int) (m_Step : Int) (m_Same : Int) (m_Least : Int) (v : Value) (w : World) (Post : Value → World → Prop) : denF Tryd.prog [] (impl_keysCode_A m_Chambers m_Depths m_Step m_Same m_Least v w) 59 [(Value.agg #[(Value.int .i64 m_Chambers), (Value.int .i64 m_Depths), (Value.int .i64 m_Step), (Value.int .i64 m_Same), (Value.int .i64 m_Least)]), v] w Post = impl_keysCode_vc m_Chambers m_Depths m_Step m_Same m_Least v w Post := by kernel_rfl
set_option maxRecDepth 100000 in
theorem impl_keysCode_calls (m_Chambers : Int) (m_Depths : Int) (m_Step : Int) (m_Same : Int) (m_Least : Int) (v : Value) (w : World) (Post : Value → World → Prop) (hvc : impl_keysCode_vc m_Chambers m_Depths m_Step m_Same m_Least v w Post) : Ret Tryd.prog 59 #[(Value.agg #[(Value.int .i64 m_Chambers), (Value.int .i64 m_Depths), (Value.int .i64 m_Step), (Value.int .i64 m_Same), (Value.int .i64 m_Least)]), v] w Post :=
  Ret.of (denF_sound mixed (Eq.mpr (impl_keysCode_eq m_Chambers m_Depths m_Step m_Same m_Least v w Post) hvc))

theorem impl_keysCode_val (M : Mk) (v : Value) (zss : List (List Int)) (w : World) (h : RR w v zss) : Val Tryd.prog 59 #[mkV M.c M.d M.s M.m M.l, v] w (.int .i64 (kCode M zss)) :=
  Ret.val (impl_keysCode_calls M.c M.d M.s M.m M.l v w _ (by
    unfold impl_keysCode_vc
    have hbd := h.bound
    intro w1 h1
    refine (impl_IsMaker_val ..).call fun w2 h2 => ⟨_, rfl, h2.keeps, fun hb => ⟨by rw [kCode_no (nd_t hb)], h1.trans h2⟩, fun hb => ?_⟩
    have hm := nd_f hb
    have k2 := h1.trans h2
    refine (h.ext k2).len ⟨fun k W => k ≤ zss.length ∧ Ext w W ∧ ∀ z ∈ zss.take k, IsK M z, fun k _ => zss.length - k, ⟨0, rfl, Nat.zero_le _, k2, by simp⟩, ?_⟩
    rintro k w3 ⟨hk, k3, hall⟩
    refine ⟨fun hlt => ?_, fun hge => ⟨?_, k3⟩⟩
    · have hlt' : k < zss.length := by omega
      refine (h.ext k3).get k rfl hlt' fun u hu => ?_
      refine (impl_isKey_val M.c M.d M.s M.m M.l u zss[k] w3 hu hm).call fun w6 h6 => ⟨_, rfl, h6.keeps, fun hb => ⟨?_, k3.trans h6⟩, fun hb => ⟨by unfold I64; omega, k + 1, rfl, ⟨hlt', k3.trans h6, rows_take_succ hlt' hall (nd_f hb)⟩, by simp only; omega⟩⟩
      rw [kCode_bad hm fun hh => nd_t hb (hh _ (List.getElem_mem hlt'))]
    · have e : zss.take k = zss := List.take_of_length_le (by omega)
      rw [e] at hall
      rw [kCode_ok hm hall]))
/-! ### differences and distances -/
def diffTo (a b : List Int) : Nat → Int
  | 0 => 0
  | k + 1 => if a.getD k 0 ≠ b.getD k 0 then diffTo a b k + 1 else diffTo a b k
theorem diffTo_range (a b : List Int) : ∀ k : Nat, 0 ≤ diffTo a b k ∧ diffTo a b k ≤ k
  | 0 => by simp [diffTo]
  | k + 1 => by
    have := diffTo_range a b k
    unfold diffTo
    split <;> omega
def farTo (a b : List Int) : Nat → Int
  | 0 => 0
  | k + 1 => farTo a b k + max (a.getD k 0 - b.getD k 0) (-(a.getD k 0 - b.getD k 0))
theorem farTo_range {a b : List Int} (ha : ∀ z ∈ a, 0 ≤ z ∧ z ≤ 7) (hb : ∀ z ∈ b, 0 ≤ z ∧ z ≤ 7) : ∀ k : Nat, k ≤ a.length → k ≤ b.length → 0 ≤ farTo a b k ∧ farTo a b k ≤ 7 * k
  | 0, _, _ => by simp [farTo]
  | k + 1, h1, h2 => by
    have ih := farTo_range ha hb k (by omega) (by omega)
    have h3 := ha _ (List.getElem_mem (show k < a.length by omega))
    have h4 := hb _ (List.getElem_mem (show k < b.length by omega))
    unfold farTo
    rw [getD_get (show k < a.length by omega), getD_get (show k < b.length by omega)]
    omega
theorem IsK.small {M : Mk} {zs : List Int} (hm : M.Ok) (h : IsK M zs) : zs.length ≤ 6 ∧ 2 ≤ zs.length ∧ (zs.length : Int) = M.c ∧ ∀ z ∈ zs, 0 ≤ z ∧ z ≤ 7 := by
  have hc := hm.1
  have hd := hm.2.1
  have h1 := h.1
  refine ⟨by omega, by omega, h1, fun z hz => ?_⟩
  have := h.2.1 z hz
  omega
/-- two keys: a number, or the code -/
def twoR (M : Mk) (a b : List Int) (n : Int) : Value := if kCode M [a, b] = 0 then .tuple #[.int .i64 n, .int .i64 0] else .tuple #[.int .i64 0, .int .i64 (kCode M [a, b])]
theorem twoR_pair (M : Mk) (a b : List Int) (n : Int) : ∃ x y, twoR M a b n = .tuple #[.int .i64 x, .int .i64 y] := by unfold twoR; split <;> exact ⟨_, _, rfl⟩
theorem two_small {M : Mk} {a b : List Int} (h : kCode M [a, b] = 0) : a.length = b.length ∧ a.length ≤ 100 ∧ (∀ z ∈ a, 0 ≤ z ∧ z ≤ 7) ∧ ∀ z ∈ b, 0 ≤ z ∧ z ≤ 7 := by
  obtain ⟨hm, hk⟩ := kCode_zero h
  obtain ⟨a1, a2, a3, a4⟩ := (hk a (by simp)).small hm
  obtain ⟨b1, b2, b3, b4⟩ := (hk b (by simp)).small hm
  exact ⟨by omega, by omega, a4, b4⟩
/-! ### mirrored and reversed keys -/
def mirror (d : Int) (zs : List Int) : List Int := zs.map fun z => d - 1 - z
def mirrorR (M : Mk) (zs : List Int) : List Int := if kCode M [zs] = 0 then mirror M.d zs else []
def revR (M : Mk) (zs : List Int) : List Int := if kCode M [zs] = 0 then zs.reverse else []
theorem one_small {M : Mk} {a : List Int} (h : kCode M [a] = 0) : M.Ok ∧ IsK M a ∧ a.length ≤ 6 ∧ 2 ≤ a.length ∧ ∀ z ∈ a, 0 ≤ z ∧ z ≤ M.d - 1 := by
  obtain ⟨hm, hk⟩ := kCode_zero h
  have hk := hk a (by simp)
  obtain ⟨a1, a2, a3, a4⟩ := hk.small hm
  exact ⟨hm, hk, a1, a2, hk.2.1⟩
theorem mirrorR_len (M : Mk) (zs : List Int) : (mirrorR M zs).length ≤ 6 := by
  unfold mirrorR; split
  · rename_i h
    have := (one_small h).2.2.1
    simpa [mirror] using this
  · simp
theorem revR_len (M : Mk) (zs : List Int) : (revR M zs).length ≤ 6 := by
  unfold revR; split
  · rename_i h
    have := (one_small h).2.2.1
    simpa using this
  · simp
end Go.Proofs
