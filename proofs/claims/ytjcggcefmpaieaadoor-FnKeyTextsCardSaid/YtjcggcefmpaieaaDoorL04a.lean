/- Locks: the copies, the comparisons, the sizes, and what a lock is. No condition. -/
import Derived.Test.YtjcggcefmpaieaaDoorMat
set_option linter.unusedVariables false
namespace Go.Proofs
open Go.Sx Go.RowKit
/-- a lock's value -/
def lkV (v : Value) : Value := .agg #[v]
def SetsOk (d : Int) (zss : List (List Int)) : Prop := ∀ z ∈ zss, z ≠ [] ∧ Rises d z z.length
instance (d : Int) (zss : List (List Int)) : Decidable (SetsOk d zss) := inferInstanceAs (Decidable (∀ z ∈ zss, _ ∧ _))
def LkOk (c d s m l : Int) (zss : List (List Int)) : Prop := MkOk c d s m l ∧ (zss.length : Int) = c ∧ SetsOk d zss
instance (c d s m l : Int) (zss : List (List Int)) : Decidable (LkOk c d s m l zss) := inferInstanceAs (Decidable (_ ∧ _))
theorem allr_take_succ {zss : List (List Int)} {p : List Int → Prop} {k : Nat} (hk : k < zss.length) (h : ∀ z ∈ zss.take k, p z) (h1 : p zss[k]) : ∀ z ∈ zss.take (k + 1), p z := by
  intro z hz
  rw [take_snoc zss k hk, List.mem_append] at hz
  rcases hz with hz | hz
  · exact h z hz
  · simp at hz
    subst hz
    exact h1
theorem len_zero {z : List Int} (h : (z.length : Int) = 0) : z = [] := List.eq_nil_of_length_eq_zero (by omega)

def laws_toLock_vc (l_Sets : Value) (zss : List (List Int)) (w : World) (Post : Value → World → Prop) : Prop :=
  oneC l_Sets (∀ w1 : World, Ext w w1 → ∀ w2 : World, Ext w1 w2 → ∀ w3 : World, Ext w2 w3 → Calls Tryd.prog 64 #[l_Sets] w3 (fun e4 w5 => ∃ u6 : Value, e4 = .returned u6 ∧ Keeps w.heap.size [48, 36, 36] w3 w5 ∧ oneC u6 (∀ w7 : World, BxS w.heap.size 36 w5 w7 → oneC u6 (∀ w8 : World, BxS w.heap.size 36 w7 w8 → Post (Value.agg #[u6]) w8))))
theorem laws_toLock_eq (l_Sets : Value) (zss : List (List Int)) (w : World) (Post : Value → World → Prop) : denF Tryd.prog [1000064] noAnn 30 [(Value.agg #[l_Sets])] w Post = laws_toLock_vc l_Sets zss w Post := by kernel_rfl
set_option maxRecDepth 100000 in
theorem laws_toLock_calls (l_Sets : Value) (zss : List (List Int)) (w : World) (Post : Value → World → Prop) (hvc : laws_toLock_vc l_Sets zss w Post) : Ret Tryd.prog 30 #[(Value.agg #[l_Sets])] w Post :=
  Ret.of (denF_sound mixed (Eq.mpr (laws_toLock_eq l_Sets zss w Post) hvc))

theorem laws_toLock_ret (v : Value) (zss : List (List Int)) (w : World) (h : RR w v zss) (hl : zss.length ≤ 4398046511104) (hz : ∀ z ∈ zss, z.length ≤ 4398046511104) :
    Ret Tryd.prog 30 #[lkV v] w fun u w' => ∃ x, u = lkV x ∧ OwnR w.heap.size w' x zss ∧ Ext w w' :=
  laws_toLock_calls v zss w _ (by
    unfold laws_toLock_vc
    refine h.oneC fun w1 h1 w2 h2 w3 h3 => ?_
    have h0 := (h1.trans h2).trans h3
    refine (laws_toInt64SS_ret v zss w3 (h.ext h0) hl hz).call ?_
    rintro x w5 ⟨ox, h5⟩
    refine ⟨x, rfl, h5.keeps, ?_⟩
    refine ox.rr.oneC fun w7 b7 => ?_
    refine ox.rr.oneC fun w8 b8 => ?_
    exact ⟨x, rfl, ((ox.mono h0.size).bxs b7 (by decide) (by decide)).bxs b8 (by decide) (by decide), ((h0.trans h5).bxs b7).bxs b8⟩)
def laws_szLock_vc (l_Sets : Value) (n : Int) (zss : List (List Int)) (w : World) (Post : Value → World → Prop) : Prop :=
  oneC l_Sets (∀ w1 : World, Ext w w1 → Calls Tryd.prog 60 #[l_Sets, (Value.int .i64 n)] w1 (fun e2 w3 => ∃ n4 : Int, e2 = .returned (Value.int .i64 n4) ∧ Keeps w.heap.size [48] w1 w3 ∧ (((n4 < (0 : Int)) → Post (Value.int .i64 (-1)) w3) ∧ (¬ (n4 < (0 : Int)) → Post (Value.int .i64 n4) w3))))
theorem laws_szLock_eq (l_Sets : Value) (n : Int) (zss : List (List Int)) (w : World) (Post : Value → World → Prop) : denF Tryd.prog [] noAnn 28 [(Value.agg #[l_Sets]), (Value.int .i64 n)] w Post = laws_szLock_vc l_Sets n zss w Post := by kernel_rfl
set_option maxRecDepth 100000 in
theorem laws_szLock_calls (l_Sets : Value) (n : Int) (zss : List (List Int)) (w : World) (Post : Value → World → Prop) (hvc : laws_szLock_vc l_Sets n zss w Post) : Ret Tryd.prog 28 #[(Value.agg #[l_Sets]), (Value.int .i64 n)] w Post :=
  Ret.of (denF_sound mixed (Eq.mpr (laws_szLock_eq l_Sets n zss w Post) hvc))

theorem laws_szLock_ret (v : Value) (n : Int) (zss : List (List Int)) (w : World) (h : RR w v zss) (hn : 0 ≤ n) (hn' : n ≤ 1048576) :
    Ret Tryd.prog 28 #[lkV v, .int .i64 n] w fun r w' => Ext w w' ∧ ∃ m : Int, r = .int .i64 m ∧ m ≤ n ∧ (0 ≤ m → (zss.length : Int) ≤ n ∧ ∀ z ∈ zss, (z.length : Int) ≤ n) :=
  laws_szLock_calls v n zss w _ (by
    unfold laws_szLock_vc
    refine h.oneC fun w1 h1 => ?_
    refine (laws_szInt64SS_ret v n zss w1 (h.ext h1) hn hn').call ?_
    rintro r w2 ⟨h2, m, rfl, hm, hm'⟩
    exact ⟨m, rfl, h2.keeps, fun hneg => ⟨h1.trans h2, -1, rfl, by omega, by omega⟩, fun hpos => ⟨h1.trans h2, m, rfl, hm, hm'⟩⟩)
def laws_eqLock_vc (a_Sets : Value) (b_Sets : Value) (zss : List (List Int)) (w : World) (Post : Value → World → Prop) : Prop :=
  oneC a_Sets (∀ w1 : World, Ext w w1 → oneC b_Sets (∀ w2 : World, Ext w1 w2 → Calls Tryd.prog 54 #[a_Sets, b_Sets] w2 (fun e3 w4 => ∃ b5 : Bool, e3 = .returned (Value.bool b5) ∧ Keeps w.heap.size [36, 36] w2 w4 ∧ (((!b5) = true → Post (Value.bool false) w4) ∧ ((!b5) = false → Post (Value.bool true) w4)))))
theorem laws_eqLock_eq (a_Sets : Value) (b_Sets : Value) (zss : List (List Int)) (w : World) (Post : Value → World → Prop) : denF Tryd.prog [] noAnn 21 [(Value.agg #[a_Sets]), (Value.agg #[b_Sets])] w Post = laws_eqLock_vc a_Sets b_Sets zss w Post := by kernel_rfl
set_option maxRecDepth 100000 in
theorem laws_eqLock_calls (a_Sets : Value) (b_Sets : Value) (zss : List (List Int)) (w : World) (Post : Value → World → Prop) (hvc : laws_eqLock_vc a_Sets b_Sets zss w Post) : Ret Tryd.prog 21 #[(Value.agg #[a_Sets]), (Value.agg #[b_Sets])] w Post :=
  Ret.of (denF_sound mixed (Eq.mpr (laws_eqLock_eq a_Sets b_Sets zss w Post) hvc))

theorem laws_eqLock_val (a b : Value) (zss : List (List Int)) (w : World) (ha : RR w a zss) (hb : RR w b zss) : Val Tryd.prog 21 #[lkV a, lkV b] w (.bool true) :=
  Ret.val (laws_eqLock_calls a b zss w _ (by
    unfold laws_eqLock_vc
    refine ha.oneC fun w1 h1 => hb.oneC fun w2 h2 => ?_
    have h0 := h1.trans h2
    exact (laws_eqInt64SS_val a b zss w2 (ha.ext h0) (hb.ext h0)).call fun w3 h3 => ⟨true, rfl, h3.keeps, fun h => (by cases h), fun _ => ⟨rfl, h0.trans h3⟩⟩))

def impl_isLock_A (m_Chambers : Int) (m_Depths : Int) (m_Step : Int) (m_Same : Int) (m_Least : Int) (l_Sets : Value) (zss : List (List Int)) (w : World) : Nat → Ann := fun κ => match κ with
  | 0 => { σ := Nat, sli := [10], slc := fun s => [SV.v (Value.int .i64 (s : Int))], bxi := [], bxc := fun s => [], inv := fun s W => True, μ := fun s W => 0, free := true }
  | _ => { σ := Unit, sli := [], slc := fun _ => [], bxi := [], bxc := fun _ => [], inv := fun _ _ => False, μ := fun _ _ => 0 }
def impl_isLock_vc (m_Chambers : Int) (m_Depths : Int) (m_Step : Int) (m_Same : Int) (m_Least : Int) (l_Sets : Value) (zss : List (List Int)) (w : World) (Post : Value → World → Prop) : Prop :=
  ∀ w1 : World, Ext w w1 → oneC l_Sets (∀ w2 : World, Ext w1 w2 → LenV l_Sets (fun n3 => (∃ (J7 : Nat → World → Prop) (m8 : Nat → World → Nat), ((∃ s4 : Nat, (Value.int .i64 0) = (Value.int .i64 (s4 : Int)) ∧ (J7 s4 w2)) ∧ ∀ (s5 : Nat) (w6 : World), (J7 s5 w6) → ((((s5 : Int) < n3) → IxV 1 l_Sets (s5 : Int) (fun ad9 => ∃ u10 : Value, LdV w6 (Value.pointer (some ad9)) u10 ∧ LenV u10 (fun n11 => (((n11 = (0 : Int)) → Post (Value.bool false) w6) ∧ (¬ (n11 = (0 : Int)) → Calls Tryd.prog 110 #[u10, (Value.int .i64 m_Depths)] w6 (fun e12 w13 => ∃ b14 : Bool, e12 = .returned (Value.bool b14) ∧ Keeps w.heap.size [39, 36] w6 w13 ∧ (((!b14) = true → Post (Value.bool false) w13) ∧ ((!b14) = false → I64 ((s5 : Int) + 1) ∧ ∃ s15 : Nat, (Value.int .i64 ((s5 : Int) + 1)) = (Value.int .i64 (s15 : Int)) ∧ (J7 s15 w13) ∧ (m8 s15 w13) < (m8 s5 w6))))))))) ∧ (¬ ((s5 : Int) < n3) → LenV l_Sets (fun n16 => Post (Value.bool (decide (n16 = m_Chambers))) w6)))))))
theorem impl_isLock_eq (m_Chambers : Int) (m_Depths : Int) (m_Step : Int) (m_Same : Int) (m_Least : Int) (l_Sets : Value) (zss : List (List Int)) (w : World) (Post : Value → World → Prop) : denF Tryd.prog [] (impl_isLock_A m_Chambers m_Depths m_Step m_Same m_Least l_Sets zss w) 88 [(Value.agg #[(Value.int .i64 m_Chambers), (Value.int .i64 m_Depths), (Value.int .i64 m_Step), (Value.int .i64 m_Same), (Value.int .i64 m_Least)]), (Value.agg #[l_Sets])] w Post = impl_isLock_vc m_Chambers m_Depths m_Step m_Same m_Least l_Sets zss w Post := by kernel_rfl
set_option maxRecDepth 100000 in
theorem impl_isLock_calls (m_Chambers : Int) (m_Depths : Int) (m_Step : Int) (m_Same : Int) (m_Least : Int) (l_Sets : Value) (zss : List (List Int)) (w : World) (Post : Value → World → Prop) (hvc : impl_isLock_vc m_Chambers m_Depths m_Step m_Same m_Least l_Sets zss w Post) : Ret Tryd.prog 88 #[(Value.agg #[(Value.int .i64 m_Chambers), (Value.int .i64 m_Depths), (Value.int .i64 m_Step), (Value.int .i64 m_Same), (Value.int .i64 m_Least)]), (Value.agg #[l_Sets])] w Post :=
  Ret.of (denF_sound mixed (Eq.mpr (impl_isLock_eq m_Chambers m_Depths m_Step m_Same m_Least l_Sets zss w Post) hvc))

theorem impl_isLock_val (c d s m l : Int) (v : Value) (zss : List (List Int)) (w : World) (h : RR w v zss) : Val Tryd.prog 88 #[mkV c d s m l, lkV v] w (.bool (decide ((zss.length : Int) = c ∧ SetsOk d zss))) :=
  Ret.val (impl_isLock_calls c d s m l v zss w _ (by
    unfold impl_isLock_vc
    have hbd := h.bound
    intro w1 h1
    refine h.oneC fun w2 h2 => ?_
    have h0 := h1.trans h2
    refine (h.ext h0).len ⟨fun k W => k ≤ zss.length ∧ Ext w W ∧ ∀ z ∈ zss.take k, z ≠ [] ∧ Rises d z z.length, fun k _ => zss.length - k, ⟨0, rfl, Nat.zero_le _, h0, by simp⟩, ?_⟩
    rintro k w3 ⟨hk, h3, hall⟩
    refine ⟨fun hlt => ?_, fun hge => ?_⟩
    · have hlt' : k < zss.length := by omega
      have no : ¬ (zss[k] ≠ [] ∧ Rises d zss[k] zss[k].length) → Value.bool false = Value.bool (decide ((zss.length : Int) = c ∧ SetsOk d zss)) := fun hn => beq_val (decide_eq_false fun hh => hn (hh.2 _ (List.getElem_mem hlt'))).symm
      refine (h.ext h3).get k rfl hlt' fun u hu => hu.len ⟨fun he => ⟨no fun hh => hh.1 (len_zero he), h3⟩, fun he => ?_⟩
      have hne : zss[k] ≠ [] := fun e => he (by rw [e]; rfl)
      refine (impl_IsRising_val u d _ w3 hu).call fun w4 h4 => ⟨_, rfl, h4.keeps, fun hb => ⟨no fun hh => nd_t hb hh.2, h3.trans h4⟩, fun hb => ⟨by unfold I64; omega, k + 1, rfl, ⟨hlt', h3.trans h4, allr_take_succ hlt' hall ⟨hne, nd_f hb⟩⟩, by simp only; omega⟩⟩
    · have e : zss.take k = zss := List.take_of_length_le (by omega)
      rw [e] at hall
      refine (h.ext h3).len ⟨beq_val (decide_eq_decide.2 ⟨fun hh => ⟨hh, hall⟩, fun hh => hh.1⟩), h3⟩))
def spec_IsLock_A (m_Chambers : Int) (m_Depths : Int) (m_Step : Int) (m_Same : Int) (m_Least : Int) (l_Sets : Value) (zss : List (List Int)) (w : World) : Nat → Ann := fun κ => match κ with
  | 0 => { σ := Nat, sli := [5], slc := fun s => [SV.v (Value.int .i64 (s : Int))], bxi := [], bxc := fun s => [], inv := fun s W => True, μ := fun s W => 0, free := true }
  | _ => { σ := Unit, sli := [], slc := fun _ => [], bxi := [], bxc := fun _ => [], inv := fun _ _ => False, μ := fun _ _ => 0 }
def spec_IsLock_vc (m_Chambers : Int) (m_Depths : Int) (m_Step : Int) (m_Same : Int) (m_Least : Int) (l_Sets : Value) (zss : List (List Int)) (w : World) (Post : Value → World → Prop) : Prop :=
  ∀ w1 : World, Ext w w1 → oneC l_Sets (∀ w2 : World, Ext w1 w2 → Calls Tryd.prog 48 #[(Value.agg #[(Value.int .i64 m_Chambers), (Value.int .i64 m_Depths), (Value.int .i64 m_Step), (Value.int .i64 m_Same), (Value.int .i64 m_Least)])] w2 (fun e3 w4 => ∃ b5 : Bool, e3 = .returned (Value.bool b5) ∧ Keeps w.heap.size [39, 36] w2 w4 ∧ (((!b5) = true → Post (Value.bool false) w4) ∧ ((!b5) = false → LenV l_Sets (fun n6 => (((n6 ≠ m_Chambers) → Post (Value.bool false) w4) ∧ (¬ (n6 ≠ m_Chambers) → (∃ (J10 : Nat → World → Prop) (m11 : Nat → World → Nat), ((∃ s7 : Nat, (Value.int .i64 0) = (Value.int .i64 (s7 : Int)) ∧ (J10 s7 w4)) ∧ ∀ (s8 : Nat) (w9 : World), (J10 s8 w9) → LenV l_Sets (fun n12 => ((((s8 : Int) < n12) → IxV 1 l_Sets (s8 : Int) (fun ad13 => ∃ u14 : Value, LdV w9 (Value.pointer (some ad13)) u14 ∧ LenV u14 (fun n15 => (((n15 = (0 : Int)) → ∀ w16 : World, Ext w9 w16 → Post (Value.bool false) w16) ∧ (¬ (n15 = (0 : Int)) → IxV 1 l_Sets (s8 : Int) (fun ad17 => ∃ u18 : Value, LdV w9 (Value.pointer (some ad17)) u18 ∧ ∃ b22 : Bool, (∀ w19 : World, Ext w9 w19 → Calls Tryd.prog 91 #[u18, (Value.int .i64 m_Depths)] w19 (fun e20 w21 => e20 = .returned (Value.bool b22) ∧ Ext w19 w21)) ∧ ∀ w23 : World, Ext w9 w23 → (((!b22) = true → Post (Value.bool false) w23) ∧ ((!b22) = false → I64 ((s8 : Int) + 1) ∧ ∃ s24 : Nat, (Value.int .i64 ((s8 : Int) + 1)) = (Value.int .i64 (s24 : Int)) ∧ (J10 s24 w23) ∧ (m11 s24 w23) < (m11 s8 w9))))))))) ∧ (¬ ((s8 : Int) < n12) → Post (Value.bool true) w9))))))))))))
theorem spec_IsLock_eq (m_Chambers : Int) (m_Depths : Int) (m_Step : Int) (m_Same : Int) (m_Least : Int) (l_Sets : Value) (zss : List (List Int)) (w : World) (Post : Value → World → Prop) : denF Tryd.prog [] (spec_IsLock_A m_Chambers m_Depths m_Step m_Same m_Least l_Sets zss w) 61 [(Value.agg #[(Value.int .i64 m_Chambers), (Value.int .i64 m_Depths), (Value.int .i64 m_Step), (Value.int .i64 m_Same), (Value.int .i64 m_Least)]), (Value.agg #[l_Sets])] w Post = spec_IsLock_vc m_Chambers m_Depths m_Step m_Same m_Least l_Sets zss w Post := by kernel_rfl
set_option maxRecDepth 100000 in
theorem spec_IsLock_calls (m_Chambers : Int) (m_Depths : Int) (m_Step : Int) (m_Same : Int) (m_Least : Int) (l_Sets : Value) (zss : List (List Int)) (w : World) (Post : Value → World → Prop) (hvc : spec_IsLock_vc m_Chambers m_Depths m_Step m_Same m_Least l_Sets zss w Post) : Ret Tryd.prog 61 #[(Value.agg #[(Value.int .i64 m_Chambers), (Value.int .i64 m_Depths), (Value.int .i64 m_Step), (Value.int .i64 m_Same), (Value.int .i64 m_Least)]), (Value.agg #[l_Sets])] w Post :=
  Ret.of (denF_sound mixed (Eq.mpr (spec_IsLock_eq m_Chambers m_Depths m_Step m_Same m_Least l_Sets zss w Post) hvc))

theorem spec_IsLock_val (c d s m l : Int) (v : Value) (zss : List (List Int)) (w : World) (h : RR w v zss) : Val Tryd.prog 61 #[mkV c d s m l, lkV v] w (.bool (decide (LkOk c d s m l zss))) :=
  Ret.val (spec_IsLock_calls c d s m l v zss w _ (by
    unfold spec_IsLock_vc
    have hbd := h.bound
    intro w1 h1
    refine h.oneC fun w2 h2 => ?_
    have h0 := h1.trans h2
    refine (spec_IsMaker_val ..).call fun w3 h3 => ⟨_, rfl, h3.keeps, fun hb => ⟨beq_val (decide_eq_false fun hh => nd_t hb hh.1).symm, h0.trans h3⟩, fun hb => ?_⟩
    have hm := nd_f hb
    have h3 := h0.trans h3
    refine (h.ext h3).len ⟨fun hne => ⟨beq_val (decide_eq_false fun hh => hne hh.2.1).symm, h3⟩, fun heq => ?_⟩
    have hc : (zss.length : Int) = c := Classical.not_not.1 heq
    refine ⟨fun k W => k ≤ zss.length ∧ Ext w W ∧ ∀ z ∈ zss.take k, z ≠ [] ∧ Rises d z z.length, fun k _ => zss.length - k, ⟨0, rfl, Nat.zero_le _, h3, by simp⟩, ?_⟩
    rintro k w4 ⟨hk, h4, hall⟩
    refine (h.ext h4).len ⟨fun hlt => ?_, fun hge => ?_⟩
    · have hlt' : k < zss.length := by omega
      have no : ¬ (zss[k] ≠ [] ∧ Rises d zss[k] zss[k].length) → Value.bool false = Value.bool (decide (LkOk c d s m l zss)) := fun hn => beq_val (decide_eq_false fun hh => hn (hh.2.2 _ (List.getElem_mem hlt'))).symm
      refine (h.ext h4).get k rfl hlt' fun u hu => hu.len ⟨fun he => fun w5 h5 => ⟨no fun hh => hh.1 (len_zero he), h4.trans h5⟩, fun he => (h.ext h4).get k rfl hlt' fun u hu => ?_⟩
      have hne : zss[k] ≠ [] := fun e => he (by rw [e]; rfl)
      refine ⟨_, fun w5 h5 => (spec_l01Rises_val u d _ w5 (hu.ext h5)).call fun _ hx => ⟨rfl, hx⟩, fun w5 h5 => ⟨fun hb => ⟨no fun hh => nd_t hb hh.2, h4.trans h5⟩, fun hb => ⟨by unfold I64; omega, k + 1, rfl, ⟨hlt', h4.trans h5, allr_take_succ hlt' hall ⟨hne, nd_f hb⟩⟩, by simp only; omega⟩⟩⟩
    · have e : zss.take k = zss := List.take_of_length_le (by omega)
      rw [e] at hall
      exact ⟨beq_val (decide_eq_true ⟨hm, hc, hall⟩).symm, h4⟩))
end Go.Proofs
