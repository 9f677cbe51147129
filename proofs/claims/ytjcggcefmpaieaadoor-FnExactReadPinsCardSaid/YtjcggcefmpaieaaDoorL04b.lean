/- Locks: the code of locks, combinations and wafers, of the program and of the reference. No condition. -/
import Derived.Test.YtjcggcefmpaieaaDoorL04a
import Derived.Test.YtjcggcefmpaieaaDoorL02b
set_option linter.unusedVariables false
namespace Go.Proofs
open Go.Sx Go.RowKit
/-! ### plain -/
def LkAll (c d : Int) (zss : List (List Int)) : Prop := (zss.length : Int) = c ∧ SetsOk d zss
instance (c d : Int) (zss : List (List Int)) : Decidable (LkAll c d zss) := inferInstanceAs (Decidable (_ ∧ _))
def LksOk (c d s m l : Int) (lss : List (List (List Int))) : Prop := MkOk c d s m l ∧ ∀ zss ∈ lss, LkAll c d zss
instance (c d s m l : Int) (lss : List (List (List Int))) : Decidable (LksOk c d s m l lss) := inferInstanceAs (Decidable (_ ∧ _))
theorem rises_ge {n : Int} {zs : List Int} {k : Nat} (h : Rises n zs k) : ∀ i, i < k → (i : Int) ≤ zs.getD i 0
  | 0, hi => (h 0 hi).1
  | i + 1, hi => by
    have h1 := rises_ge h i (by omega)
    have h2 := (h (i + 1) hi).2.2 (by omega)
    rw [Nat.add_sub_cancel] at h2
    omega
theorem rises_len {n : Int} {zs : List Int} (h : Rises n zs zs.length) (hn : 0 ≤ n) : (zs.length : Int) ≤ n := by
  cases hl : zs.length with
  | zero => omega
  | succ k =>
    rw [hl] at h
    have h1 := rises_ge h k (by omega)
    have h2 := (h k (by omega)).2.1
    omega
theorem SetsOk.len {d : Int} {zss : List (List Int)} (h : SetsOk d zss) (hd : 0 ≤ d) : ∀ z ∈ zss, 1 ≤ (z.length : Int) ∧ (z.length : Int) ≤ d := by
  intro z hz
  obtain ⟨h1, h2⟩ := h z hz
  have := List.length_pos_iff.2 h1
  have := rises_len h2 hd
  omega
def comb (zss : List (List Int)) : Int := zss.foldl (fun a z => a * (z.length : Int)) 1
theorem comb_snoc (zss : List (List Int)) (k : Nat) (hk : k < zss.length) : comb (zss.take (k + 1)) = comb (zss.take k) * (zss[k].length : Int) := by
  unfold comb
  rw [take_snoc zss k hk, List.foldl_append]
  rfl
theorem comb_range {zss : List (List Int)} (h : ∀ z ∈ zss, 1 ≤ (z.length : Int) ∧ (z.length : Int) ≤ 8) : ∀ k, k ≤ zss.length → 1 ≤ comb (zss.take k) ∧ comb (zss.take k) ≤ 8 ^ k
  | 0, _ => by simp [comb]
  | k + 1, hk => by
    have ih := comb_range h k (by omega)
    have hz := h _ (List.getElem_mem (show k < zss.length by omega))
    rw [comb_snoc zss k (by omega), Int.pow_succ]
    refine ⟨?_, Int.mul_le_mul ih.2 hz.2 (by omega) (by omega)⟩
    have := Int.mul_le_mul ih.1 hz.1 (by omega) (by omega)
    omega
theorem pow8 {k : Nat} (h : k ≤ 6) : (8 : Int) ^ k ≤ 262144 := by
  match k, h with
  | 0, _ => decide
  | 1, _ => decide
  | 2, _ => decide
  | 3, _ => decide
  | 4, _ => decide
  | 5, _ => decide
  | 6, _ => decide
def wafers (zss : List (List Int)) : Int := zss.foldl (fun a z => a + ((z.length : Int) - 1)) 0
theorem wafers_snoc (zss : List (List Int)) (k : Nat) (hk : k < zss.length) : wafers (zss.take (k + 1)) = wafers (zss.take k) + ((zss[k].length : Int) - 1) := by
  unfold wafers
  rw [take_snoc zss k hk, List.foldl_append]
  rfl
theorem wafers_range {zss : List (List Int)} (h : ∀ z ∈ zss, 1 ≤ (z.length : Int) ∧ (z.length : Int) ≤ 8) : ∀ k, k ≤ zss.length → 0 ≤ wafers (zss.take k) ∧ wafers (zss.take k) ≤ 8 * k
  | 0, _ => by simp [wafers]
  | k + 1, hk => by
    have ih := wafers_range h k (by omega)
    have hz := h _ (List.getElem_mem (show k < zss.length by omega))
    rw [wafers_snoc zss k (by omega)]
    omega

/-! ### the code of locks -/
/-- a slice of locks -/
def RLs (w : World) (v : Value) (lss : List (List (List Int))) : Prop := ∃ us : List Value, Rd w v us ∧ us.length = lss.length ∧ ∀ (i : Nat) (u : Value) (z : List (List Int)), us[i]? = some u → lss[i]? = some z → RR w u z
theorem RLs.ext {w w' : World} {v : Value} {lss : List (List (List Int))} (h : RLs w v lss) (e : Ext w w') : RLs w' v lss := let ⟨us, h1, h2, h3⟩ := h; ⟨us, h1.ext e, h2, fun i u z hu hz => (h3 i u z hu hz).ext e⟩
theorem RLs.len {w : World} {v : Value} {lss : List (List (List Int))} (h : RLs w v lss) {K : Int → Prop} (hK : K (lss.length : Int)) : LenV v K := let ⟨us, h1, h2, _⟩ := h; h1.len (by rw [h2]; exact hK)
theorem RLs.bound {w : World} {v : Value} {lss : List (List (List Int))} (h : RLs w v lss) : lss.length ≤ 9223372036854775807 := let ⟨us, h1, h2, _⟩ := h; by rw [← h2]; exact h1.bound
theorem RLs.get {w : World} {v : Value} {lss : List (List (List Int))} (h : RLs w v lss) {i : Int} (k : Nat) (hi : i = k) (hk : k < lss.length) {R : Value → Prop} (hR : ∀ u, RR w u lss[k] → R u) : IxV 1 v i (fun ad => ∃ u : Value, LdV w (.pointer (some ad)) u ∧ R u) := by
  obtain ⟨us, h1, h2, h3⟩ := h
  exact h1.ix k hi (by rw [h2]; exact hk) fun ad ha => ⟨_, ha, hR _ (h3 k _ _ (List.getElem?_eq_getElem _) (List.getElem?_eq_getElem hk))⟩
theorem RLs.one {B : Nat} {w : World} {e : TypeId} {r v : Value} {zss : List (List Int)} (o : Own B w e r [v]) (h : RR w v zss) : RLs w r [zss] := by
  refine ⟨[v], o.rd, rfl, fun i u z hu hz => ?_⟩
  match i, hu, hz with
  | 0, hu, hz =>
    simp at hu hz
    subst hu hz
    exact h
theorem RLs.two {B : Nat} {w : World} {e : TypeId} {r v v' : Value} {zss zss' : List (List Int)} (o : Own B w e r [v, v']) (h : RR w v zss) (h' : RR w v' zss') : RLs w r [zss, zss'] := by
  refine ⟨[v, v'], o.rd, rfl, fun i u z hu hz => ?_⟩
  match i, hu, hz with
  | 0, hu, hz =>
    simp at hu hz
    subst hu hz
    exact h
  | 1, hu, hz =>
    simp at hu hz
    subst hu hz
    exact h'
def locksR (c d s m l : Int) (lss : List (List (List Int))) : Int := if LksOk c d s m l lss then 0 else 1
theorem mem_take_succ {lss : List (List (List Int))} {p : List (List Int) → Prop} {k : Nat} (hk : k < lss.length) (h : ∀ z ∈ lss.take k, p z) (h1 : p lss[k]) : ∀ z ∈ lss.take (k + 1), p z := by
  intro z hz
  rw [take_snoc lss k hk, List.mem_append] at hz
  rcases hz with hz | hz
  · exact h z hz
  · simp at hz
    subst hz
    exact h1
def impl_locksCode_A (m_Chambers : Int) (m_Depths : Int) (m_Step : Int) (m_Same : Int) (m_Least : Int) (ls : Value) (w : World) : Nat → Ann := fun κ => match κ with
  | 0 => { σ := Nat, sli := [12], slc := fun s => [SV.v (Value.int .i64 (s : Int))], bxi := [], bxc := fun s => [], inv := fun s W => True, μ := fun s W => 0, free := true }
  | _ => { σ := Unit, sli := [], slc := fun _ => [], bxi := [], bxc := fun _ => [], inv := fun _ _ => False, μ := fun _ _ => 0 }
abbrev impl_locksCode_k0 (s27 : Nat) (w28 : World) (J29 : Nat → World → Prop) (m30 : Nat → World → Nat) (x40 : Int) (w52 : World) : Prop :=
  I64 (x40 + 1) ∧ ∃ s53 : Nat, (Value.int .i64 (x40 + 1)) = (Value.int .i64 (s53 : Int)) ∧ (J29 s53 w52) ∧ (m30 s53 w52) < (m30 s27 w28)
abbrev impl_locksCode_k1 (w : World) (Post : Value → World → Prop) (x10 : Value) (x19 : Int) (x20 : Int) (x21 : Int) (x22 : Int) (x23 : Int) (s27 : Nat) (w28 : World) (J29 : Nat → World → Prop) (m30 : Nat → World → Nat) (x31 : Int) (w32 : World) : Prop :=
  IxV 1 x10 x31 (fun ad33 => ∃ u34 : Value, LdV w32 (Value.pointer (some ad33)) u34 ∧ ∀ w35 : World, Ext w32 w35 → oneC u34 (∀ w36 : World, BxS w.heap.size 36 w35 w36 → Calls Tryd.prog 88 #[(Value.agg #[(Value.int .i64 x19), (Value.int .i64 x20), (Value.int .i64 x21), (Value.int .i64 x22), (Value.int .i64 x23)]), (Value.agg #[u34])] w36 (fun e37 w38 => ∃ b39 : Bool, e37 = .returned (Value.bool b39) ∧ Keeps w.heap.size [39, 36] w36 w38 ∧ (((!b39) = true → Post (Value.int .i64 1) w38) ∧ ((!b39) = false → (impl_locksCode_k0 s27 w28 J29 m30 x31 w38))))))
abbrev impl_locksCode_k2 (w : World) (Post : Value → World → Prop) (x10 : Value) (x19 : Int) (x20 : Int) (x21 : Int) (x22 : Int) (x23 : Int) (w24 : World) : Prop :=
  LenV x10 (fun n25 => (∃ (J29 : Nat → World → Prop) (m30 : Nat → World → Nat), ((∃ s26 : Nat, (Value.int .i64 0) = (Value.int .i64 (s26 : Int)) ∧ (J29 s26 w24)) ∧ ∀ (s27 : Nat) (w28 : World), (J29 s27 w28) → ((((s27 : Int) < n25) → (impl_locksCode_k1 w Post x10 x19 x20 x21 x22 x23 s27 w28 J29 m30 (s27 : Int) w28)) ∧ (¬ ((s27 : Int) < n25) → Post (Value.int .i64 0) w28)))))
def impl_locksCode_vc (m_Chambers : Int) (m_Depths : Int) (m_Step : Int) (m_Same : Int) (m_Least : Int) (ls : Value) (w : World) (Post : Value → World → Prop) : Prop :=
  ∀ w1 : World, Ext w w1 → Calls Tryd.prog 51 #[(Value.agg #[(Value.int .i64 m_Chambers), (Value.int .i64 m_Depths), (Value.int .i64 m_Step), (Value.int .i64 m_Same), (Value.int .i64 m_Least)])] w1 (fun e2 w3 => ∃ b4 : Bool, e2 = .returned (Value.bool b4) ∧ Keeps w.heap.size [39] w1 w3 ∧ (((!b4) = true → Post (Value.int .i64 1) w3) ∧ ((!b4) = false → (impl_locksCode_k2 w Post ls m_Chambers m_Depths m_Step m_Same m_Least w3))))
theorem impl_locksCode_eq (m_Chambers : Int) (m_Depths : Int) (m_Step : Int) (m_Same : Int) (m_Least : Int) (ls : Value) (w : World) (Post : Value → World → Prop) : denF Tryd.prog [] (impl_locksCode_A m_Chambers m_Depths m_Step m_Same m_Least ls w) 65 [(Value.agg #[(Value.int .i64 m_Chambers), (Value.int .i64 m_Depths), (Value.int .i64 m_Step), (Value.int .i64 m_Same), (Value.int .i64 m_Least)]), ls] w Post = impl_locksCode_vc m_Chambers m_Depths m_Step m_Same m_Least ls w Post := by kernel_rfl
set_option maxRecDepth 100000 in
theorem impl_locksCode_calls (m_Chambers : Int) (m_Depths : Int) (m_Step : Int) (m_Same : Int) (m_Least : Int) (ls : Value) (w : World) (Post : Value → World → Prop) (hvc : impl_locksCode_vc m_Chambers m_Depths m_Step m_Same m_Least ls w Post) : Ret Tryd.prog 65 #[(Value.agg #[(Value.int .i64 m_Chambers), (Value.int .i64 m_Depths), (Value.int .i64 m_Step), (Value.int .i64 m_Same), (Value.int .i64 m_Least)]), ls] w Post :=
  Ret.of (denF_sound mixed (Eq.mpr (impl_locksCode_eq m_Chambers m_Depths m_Step m_Same m_Least ls w Post) hvc))

theorem impl_locksCode_val (c d s m l : Int) (v : Value) (lss : List (List (List Int))) (w : World) (h : RLs w v lss) : Val Tryd.prog 65 #[mkV c d s m l, v] w (.int .i64 (locksR c d s m l lss)) :=
  Ret.val (impl_locksCode_calls c d s m l v w _ (by
    unfold impl_locksCode_vc
    have hbd := h.bound
    intro w1 h1
    refine (impl_IsMaker_val ..).call fun w2 h2 => ⟨_, rfl, h2.keeps, fun hb => ⟨?_, h1.trans h2⟩, fun hb => ?_⟩
    · unfold locksR; rw [if_neg fun hh => nd_t hb hh.1]
    have hm := nd_f hb
    have k2 := h1.trans h2
    refine (h.ext k2).len ⟨fun k W => k ≤ lss.length ∧ Ext w W ∧ ∀ z ∈ lss.take k, LkAll c d z, fun k _ => lss.length - k, ⟨0, rfl, Nat.zero_le _, k2, by simp⟩, ?_⟩
    rintro k w3 ⟨hk, k3, hall⟩
    refine ⟨fun hlt => ?_, fun hge => ⟨?_, k3⟩⟩
    · have hlt' : k < lss.length := by omega
      obtain ⟨us, g1, g2, g3⟩ := h
      have hku : k < us.length := by omega
      have hu := g3 k us[k] lss[k] (List.getElem?_eq_getElem hku) (List.getElem?_eq_getElem hlt')
      refine (g1.ext k3).ix k rfl hku fun ad had => ⟨us[k], had, fun w4 h4 => hu.oneC fun w5 b5 => ?_⟩
      have k5 := (k3.trans h4).bxs b5
      refine (impl_isLock_val c d s m l us[k] lss[k] w5 (hu.ext k5)).call fun w6 h6 => ⟨_, rfl, h6.keeps, fun hb => ⟨?_, k5.trans h6⟩, fun hb => ⟨by unfold I64; omega, k + 1, rfl, ⟨hlt', k5.trans h6, mem_take_succ hlt' hall (nd_f hb)⟩, by simp only; omega⟩⟩
      unfold locksR; rw [if_neg fun hh => nd_t hb (hh.2 _ (List.getElem_mem hlt'))]
    · have e : lss.take k = lss := List.take_of_length_le (by omega)
      rw [e] at hall
      unfold locksR; rw [if_pos ⟨hm, hall⟩]))
theorem locksR_one {c d s m l : Int} {zss : List (List Int)} : locksR c d s m l [zss] = if LkOk c d s m l zss then 0 else 1 := by
  unfold locksR
  by_cases h : LkOk c d s m l zss
  · rw [if_pos h, if_pos ⟨h.1, fun z hz => by simp at hz; subst hz; exact h.2⟩]
  · rw [if_neg h, if_neg fun hh => h ⟨hh.1, hh.2 zss (by simp)⟩]

/-! ### combinations -/
def combR (c d s m l : Int) (zss : List (List Int)) : Value := if LkOk c d s m l zss then .tuple #[.int .i64 (comb zss), .int .i64 0] else .tuple #[.int .i64 0, .int .i64 1]
theorem combR_pair (c d s m l : Int) (zss : List (List Int)) : ∃ x y, combR c d s m l zss = .tuple #[.int .i64 x, .int .i64 y] := by
  unfold combR; split <;> exact ⟨_, _, rfl⟩
/-! ### wafers -/
def wafR (c d s m l : Int) (zss : List (List Int)) : Value := if LkOk c d s m l zss then .tuple #[.int .i64 (wafers zss), .int .i64 0] else .tuple #[.int .i64 0, .int .i64 1]
theorem wafR_pair (c d s m l : Int) (zss : List (List Int)) : ∃ x y, wafR c d s m l zss = .tuple #[.int .i64 x, .int .i64 y] := by
  unfold wafR; split <;> exact ⟨_, _, rfl⟩
end Go.Proofs
