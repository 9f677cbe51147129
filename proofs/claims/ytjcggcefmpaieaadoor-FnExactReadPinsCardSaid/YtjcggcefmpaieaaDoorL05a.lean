/- Pins: stacks, the pins of a lock. No condition. -/
import Derived.Test.YtjcggcefmpaieaaDoorL04b
import Derived.Test.YtjcggcefmpaieaaDoorMarks
import Derived.Test.YtjcggcefmpaieaaDoorL02d
set_option linter.unusedVariables false
namespace Go.Proofs
open Go.Sx Go.RowKit
theorem rises_in {n : Int} {zs : List Int} (h : Rises n zs zs.length) : ∀ x ∈ zs, 0 ≤ x ∧ x < n := by
  intro x hx
  obtain ⟨i, hi, rfl⟩ := List.getElem_of_mem hx
  have := h i hi
  unfold RiseAt at this
  rw [getD_get hi] at this
  exact ⟨this.1, this.2.1⟩
theorem lk_small {c d s m l : Int} {zss : List (List Int)} (h : LkOk c d s m l zss) : (0 ≤ d ∧ d ≤ 8) ∧ zss.length ≤ 6 ∧ ∀ z ∈ zss, 0 < z.length ∧ z.length ≤ 100 ∧ ∀ x ∈ z, 0 ≤ x ∧ x ≤ 7 := by
  obtain ⟨hm, hc, hs⟩ := h
  have h1 := hm.1
  have h2 := hm.2.1
  refine ⟨by omega, by omega, fun z hz => ?_⟩
  have h3 := hs.len (by omega) z hz
  refine ⟨by omega, by omega, fun x hx => ?_⟩
  have := rises_in (hs z hz).2 x hx
  omega
/-- a row of the call's own, put at the end of a slice of rows -/
theorem OwnR.push {B C : Nat} {w3 w4 w5 : World} {v u r : Value} {zss : List (List Int)} {z : List Int} (h : OwnR B w3 v zss) (hu : Own w3.heap.size w4 2 u (ints z)) (e4 : Ext w3 w4) (hr : Own C w5 24 r [u]) (e5 : Ext w4 w5) (hB : B ≤ w3.heap.size) (hl : zss.length < 4398046511104) {K : Value → World → Prop}
    (hK : ∀ v' w6, OwnR B w6 v' (zss ++ [z]) → (∀ w0 : World, w0.heap.size ≤ B → Ext w0 w5 → Ext w0 w6) → K v' w6) : AppV w5 24 v r K := by
  obtain ⟨us, h1, h2, h3⟩ := h
  have e := e4.trans e5
  have h1' := h1.ext e
  have hu' := (hu.ext e5)
  refine h1'.app1 hr hu.rd.one (by rw [h2.1]; exact hl) (Nat.le_trans hB e.size) fun v' w6 o6 g6 hb => hK v' w6 ⟨us ++ [u], o6, ?_, ?_⟩ fun w0 h0 x => x.grown h1' h0 g6
  · refine (h2.map fun x zx hx => ((hx.ext e).grown g6 (Apart.types (hx.ext e) h1' (by decide)))).snoc ?_
    exact (hu'.mono hB).grown g6 (Apart.types hu' h1' (by decide))
  · rw [List.pairwise_append]
    refine ⟨h3, by simp, fun x hx y hy => ?_⟩
    simp only [List.mem_singleton] at hy
    subst hy
    obtain ⟨i, hi, rfl⟩ := List.getElem_of_mem hx
    have hik : i < zss.length := by rw [← h2.1]; exact hi
    exact Apart.new (h2.get hik) hu
/-! ### stacks -/
def steps (zs : List Int) : List Int := (List.range zs.length).map fun i => if i = 0 then zs.getD 0 0 else zs.getD i 0 - zs.getD (i - 1) 0
theorem steps_length (zs : List Int) : (steps zs).length = zs.length := by simp [steps]
theorem steps_get {zs : List Int} {k : Nat} (hk : k < (steps zs).length) : (steps zs)[k] = if k = 0 then zs.getD 0 0 else zs.getD k 0 - zs.getD (k - 1) 0 := by simp [steps]
def stack (d : Int) (zs : List Int) : List Int := steps zs ++ [d - 1 - zs.getD (zs.length - 1) 0]
theorem stack_length (d : Int) (zs : List Int) : (stack d zs).length = zs.length + 1 := by simp [stack, steps_length]
def spec_l05Stack_A (m_Chambers : Int) (m_Depths : Int) (m_Step : Int) (m_Same : Int) (m_Least : Int) (v : Value) (w : World) : Nat → Ann := fun κ => match κ with
  | 0 => { σ := Nat × Value, sli := [6, 5], slc := fun s => [SV.v (Value.int .i64 (s.1 : Int)), SV.v s.2], bxi := [], bxc := fun s => [], inv := fun s W => True, μ := fun s W => 0, free := true }
  | _ => { σ := Unit, sli := [], slc := fun _ => [], bxi := [], bxc := fun _ => [], inv := fun _ _ => False, μ := fun _ _ => 0 }
abbrev spec_l05Stack_k0 (v : Value) (s7 : Nat × Value) (w8 : World) (J9 : (Nat × Value) → World → Prop) (m10 : (Nat × Value) → World → Nat) (x12 : Value) (x13 : Int) (w17 : World) : Prop :=
  ∀ w18 : World, Ext w17 w18 → IxV 1 v x13 (fun ad19 => ∃ n20 : Int, LdV w18 (Value.pointer (some ad19)) (Value.int .i64 n20) ∧ I64 (x13 - 1) ∧ IxV 1 v (x13 - 1) (fun ad21 => ∃ n22 : Int, LdV w18 (Value.pointer (some ad21)) (Value.int .i64 n22) ∧ I64 (n20 - n22) ∧ ∀ (v23 : Value) (w24 : World), Sx.Own w18.heap.size w24 2 v23 [(Value.int .i64 (n20 - n22))] → Ext w18 w24 → AppV w24 2 x12 v23 (fun v25 w26 => I64 (x13 + 1) ∧ ∃ s27 : (Nat × Value), (Value.int .i64 (x13 + 1)) = (Value.int .i64 (s27.1 : Int)) ∧ v25 = s27.2 ∧ (J9 s27 w26) ∧ (m10 s27 w26) < (m10 s7 w8))))
abbrev spec_l05Stack_k1 (Post : Value → World → Prop) (x33 : Value) (x34 : Value) (x44 : Int) (w48 : World) : Prop :=
  ∀ w49 : World, Ext w48 w49 → I64 (x44 - 1) ∧ LenV x33 (fun n50 => I64 (n50 - 1) ∧ IxV 1 x33 (n50 - 1) (fun ad51 => ∃ n52 : Int, LdV w49 (Value.pointer (some ad51)) (Value.int .i64 n52) ∧ I64 ((x44 - 1) - n52) ∧ ∀ (v53 : Value) (w54 : World), Sx.Own w49.heap.size w54 2 v53 [(Value.int .i64 ((x44 - 1) - n52))] → Ext w49 w54 → AppV w54 2 x34 v53 (fun v55 w56 => Post v55 w56)))
def spec_l05Stack_vc (m_Chambers : Int) (m_Depths : Int) (m_Step : Int) (m_Same : Int) (m_Least : Int) (v : Value) (w : World) (Post : Value → World → Prop) : Prop :=
  ∀ w1 : World, Ext w w1 → IxV 1 v 0 (fun ad2 => ∃ n3 : Int, LdV w1 (Value.pointer (some ad2)) (Value.int .i64 n3) ∧ ∀ (v4 : Value) (w5 : World), Sx.Own w1.heap.size w5 2 v4 [(Value.int .i64 n3)] → Ext w1 w5 → (∃ (J9 : (Nat × Value) → World → Prop) (m10 : (Nat × Value) → World → Nat), ((∃ s6 : (Nat × Value), (Value.int .i64 1) = (Value.int .i64 (s6.1 : Int)) ∧ v4 = s6.2 ∧ (J9 s6 w5)) ∧ ∀ (s7 : (Nat × Value)) (w8 : World), (J9 s7 w8) → LenV v (fun n11 => ((((s7.1 : Int) < n11) → (spec_l05Stack_k0 v s7 w8 J9 m10 s7.2 (s7.1 : Int) w8)) ∧ (¬ ((s7.1 : Int) < n11) → (spec_l05Stack_k1 Post v s7.2 m_Depths w8)))))))
theorem spec_l05Stack_eq (m_Chambers : Int) (m_Depths : Int) (m_Step : Int) (m_Same : Int) (m_Least : Int) (v : Value) (w : World) (Post : Value → World → Prop) : denF Tryd.prog [] (spec_l05Stack_A m_Chambers m_Depths m_Step m_Same m_Least v w) 92 [(Value.agg #[(Value.int .i64 m_Chambers), (Value.int .i64 m_Depths), (Value.int .i64 m_Step), (Value.int .i64 m_Same), (Value.int .i64 m_Least)]), v] w Post = spec_l05Stack_vc m_Chambers m_Depths m_Step m_Same m_Least v w Post := by kernel_rfl
set_option maxRecDepth 100000 in
theorem spec_l05Stack_calls (m_Chambers : Int) (m_Depths : Int) (m_Step : Int) (m_Same : Int) (m_Least : Int) (v : Value) (w : World) (Post : Value → World → Prop) (hvc : spec_l05Stack_vc m_Chambers m_Depths m_Step m_Same m_Least v w Post) : Ret Tryd.prog 92 #[(Value.agg #[(Value.int .i64 m_Chambers), (Value.int .i64 m_Depths), (Value.int .i64 m_Step), (Value.int .i64 m_Same), (Value.int .i64 m_Least)]), v] w Post :=
  Ret.of (denF_sound mixed (Eq.mpr (spec_l05Stack_eq m_Chambers m_Depths m_Step m_Same m_Least v w Post) hvc))

theorem spec_l05Stack_ret (c d s m l : Int) (v : Value) (zs : List Int) (w : World) (hv : RI w v zs) (hd : 0 ≤ d ∧ d ≤ 8) (h0 : 0 < zs.length) (hl : zs.length ≤ 100) (hz : ∀ z ∈ zs, 0 ≤ z ∧ z ≤ 7) : Ret Tryd.prog 92 #[mkV c d s m l, v] w fun u w' => Own w.heap.size w' 2 u (ints (stack d zs)) ∧ Ext w w' :=
  spec_l05Stack_calls c d s m l v w _ (by
    unfold spec_l05Stack_vc
    intro w1 h1
    refine (hv.ext h1).get 0 rfl h0 fun r w2 o2 h2 => ?_
    have k2 := h1.trans h2
    refine ⟨fun s W => 1 ≤ s.1 ∧ s.1 ≤ zs.length ∧ Ext w W ∧ Own w.heap.size W 2 s.2 (ints ((steps zs).take s.1)), fun s _ => zs.length - s.1, ⟨(1, r), rfl, rfl, Nat.le_refl _, h0, k2, ?_⟩, ?_⟩
    · have hs : 0 < (steps zs).length := by rw [steps_length]; exact h0
      simp only
      rw [take_snoc (steps zs) 0 hs, steps_get, if_pos rfl, getD_get h0]
      exact o2.mono h1.size
    rintro ⟨k, u⟩ w4 ⟨hk1, hk, k4, o4⟩
    simp only at hk1 hk o4
    refine (hv.ext k4).len ⟨fun hlt => ?_, fun hge => ?_⟩
    · have hlt' : k < zs.length := by simp only at hlt; omega
      intro w5 h5
      have k5 := k4.trans h5
      have z1 := hz _ (List.getElem_mem hlt')
      have z2 := hz _ (List.getElem_mem (show k - 1 < zs.length by omega))
      refine (hv.ext k5).get k rfl hlt' ⟨by unfold I64; simp only; omega, (hv.ext k5).get (k - 1) (by simp only; omega) (by omega) ⟨by unfold I64; omega, fun r w6 o6 h6 => ?_⟩⟩
      have k6 := k5.trans h6
      have o46 := (o4.ext h5).ext h6
      refine o46.app1 o6 rfl (by simp [steps_length]; omega) k6.size fun u' w7 o7 g7 _ => ⟨by unfold I64; simp only; omega, (k + 1, u'), rfl, rfl, ⟨by simp only; omega, hlt', k6.grown o46 (Nat.le_refl _) g7, ?_⟩, by simp only; omega⟩
      simp only
      have hs : k < (steps zs).length := by rw [steps_length]; exact hlt'
      rw [take_snoc (steps zs) k hs, ints_append, steps_get, if_neg (by omega), getD_get hlt', getD_get (show k - 1 < zs.length by omega)]
      exact o7
    · have hkl : k = zs.length := by simp only at hge; omega
      subst hkl
      intro w5 h5
      have k5 := k4.trans h5
      have z1 := hz _ (List.getElem_mem (show zs.length - 1 < zs.length by omega))
      refine ⟨by unfold I64; omega, (hv.ext k5).len ⟨by unfold I64; omega, (hv.ext k5).get (zs.length - 1) (by omega) (by omega) ⟨by unfold I64; omega, fun r w6 o6 h6 => ?_⟩⟩⟩
      have k6 := k5.trans h6
      have o46 := (o4.ext h5).ext h6
      refine o46.app1 o6 rfl (by simp [steps_length]; omega) k6.size fun u' w7 o7 g7 _ => ⟨?_, k6.grown o46 (Nat.le_refl _) g7⟩
      have e : (steps zs).take zs.length = steps zs := List.take_of_length_le (by rw [steps_length]; exact Nat.le_refl _)
      rw [e] at o7
      rw [stack, ints_append, getD_get (show zs.length - 1 < zs.length by omega)]
      exact o7)
def impl_stackOf_A (m_Chambers : Int) (m_Depths : Int) (m_Step : Int) (m_Same : Int) (m_Least : Int) (v : Value) (w : World) : Nat → Ann := fun κ => match κ with
  | 0 => { σ := Nat × Value, sli := [6, 5], slc := fun s => [SV.v (Value.int .i64 (s.1 : Int)), SV.v s.2], bxi := [], bxc := fun s => [], inv := fun s W => True, μ := fun s W => 0, free := true }
  | _ => { σ := Unit, sli := [], slc := fun _ => [], bxi := [], bxc := fun _ => [], inv := fun _ _ => False, μ := fun _ _ => 0 }
abbrev impl_stackOf_k0 (v : Value) (s7 : Nat × Value) (w8 : World) (J9 : (Nat × Value) → World → Prop) (m10 : (Nat × Value) → World → Nat) (x12 : Value) (x13 : Int) (w17 : World) : Prop :=
  ∀ w18 : World, Ext w17 w18 → IxV 1 v x13 (fun ad19 => ∃ n20 : Int, LdV w18 (Value.pointer (some ad19)) (Value.int .i64 n20) ∧ I64 (x13 - 1) ∧ IxV 1 v (x13 - 1) (fun ad21 => ∃ n22 : Int, LdV w18 (Value.pointer (some ad21)) (Value.int .i64 n22) ∧ I64 (n20 - n22) ∧ ∀ (v23 : Value) (w24 : World), Sx.Own w18.heap.size w24 2 v23 [(Value.int .i64 (n20 - n22))] → Ext w18 w24 → AppV w24 2 x12 v23 (fun v25 w26 => I64 (x13 + 1) ∧ ∃ s27 : (Nat × Value), (Value.int .i64 (x13 + 1)) = (Value.int .i64 (s27.1 : Int)) ∧ v25 = s27.2 ∧ (J9 s27 w26) ∧ (m10 s27 w26) < (m10 s7 w8))))
abbrev impl_stackOf_k1 (Post : Value → World → Prop) (x33 : Value) (x34 : Value) (x44 : Int) (w48 : World) : Prop :=
  ∀ w49 : World, Ext w48 w49 → I64 (x44 - 1) ∧ LenV x33 (fun n50 => I64 (n50 - 1) ∧ IxV 1 x33 (n50 - 1) (fun ad51 => ∃ n52 : Int, LdV w49 (Value.pointer (some ad51)) (Value.int .i64 n52) ∧ I64 ((x44 - 1) - n52) ∧ ∀ (v53 : Value) (w54 : World), Sx.Own w49.heap.size w54 2 v53 [(Value.int .i64 ((x44 - 1) - n52))] → Ext w49 w54 → AppV w54 2 x34 v53 (fun v55 w56 => Post v55 w56)))
def impl_stackOf_vc (m_Chambers : Int) (m_Depths : Int) (m_Step : Int) (m_Same : Int) (m_Least : Int) (v : Value) (w : World) (Post : Value → World → Prop) : Prop :=
  ∀ w1 : World, Ext w w1 → IxV 1 v 0 (fun ad2 => ∃ n3 : Int, LdV w1 (Value.pointer (some ad2)) (Value.int .i64 n3) ∧ ∀ (v4 : Value) (w5 : World), Sx.Own w1.heap.size w5 2 v4 [(Value.int .i64 n3)] → Ext w1 w5 → (∃ (J9 : (Nat × Value) → World → Prop) (m10 : (Nat × Value) → World → Nat), ((∃ s6 : (Nat × Value), (Value.int .i64 1) = (Value.int .i64 (s6.1 : Int)) ∧ v4 = s6.2 ∧ (J9 s6 w5)) ∧ ∀ (s7 : (Nat × Value)) (w8 : World), (J9 s7 w8) → LenV v (fun n11 => ((((s7.1 : Int) < n11) → (impl_stackOf_k0 v s7 w8 J9 m10 s7.2 (s7.1 : Int) w8)) ∧ (¬ ((s7.1 : Int) < n11) → (impl_stackOf_k1 Post v s7.2 m_Depths w8)))))))
theorem impl_stackOf_eq (m_Chambers : Int) (m_Depths : Int) (m_Step : Int) (m_Same : Int) (m_Least : Int) (v : Value) (w : World) (Post : Value → World → Prop) : denF Tryd.prog [] (impl_stackOf_A m_Chambers m_Depths m_Step m_Same m_Least v w) 93 [(Value.agg #[(Value.int .i64 m_Chambers), (Value.int .i64 m_Depths), (Value.int .i64 m_Step), (Value.int .i64 m_Same), (Value.int .i64 m_Least)]), v] w Post = impl_stackOf_vc m_Chambers m_Depths m_Step m_Same m_Least v w Post := by kernel_rfl
set_option maxRecDepth 100000 in
theorem impl_stackOf_calls (m_Chambers : Int) (m_Depths : Int) (m_Step : Int) (m_Same : Int) (m_Least : Int) (v : Value) (w : World) (Post : Value → World → Prop) (hvc : impl_stackOf_vc m_Chambers m_Depths m_Step m_Same m_Least v w Post) : Ret Tryd.prog 93 #[(Value.agg #[(Value.int .i64 m_Chambers), (Value.int .i64 m_Depths), (Value.int .i64 m_Step), (Value.int .i64 m_Same), (Value.int .i64 m_Least)]), v] w Post :=
  Ret.of (denF_sound mixed (Eq.mpr (impl_stackOf_eq m_Chambers m_Depths m_Step m_Same m_Least v w Post) hvc))

theorem impl_stackOf_ret (c d s m l : Int) (v : Value) (zs : List Int) (w : World) (hv : RI w v zs) (hd : 0 ≤ d ∧ d ≤ 8) (h0 : 0 < zs.length) (hl : zs.length ≤ 100) (hz : ∀ z ∈ zs, 0 ≤ z ∧ z ≤ 7) : Ret Tryd.prog 93 #[mkV c d s m l, v] w fun u w' => Own w.heap.size w' 2 u (ints (stack d zs)) ∧ Ext w w' :=
  impl_stackOf_calls c d s m l v w _ (by
    unfold impl_stackOf_vc
    intro w1 h1
    refine (hv.ext h1).get 0 rfl h0 fun r w2 o2 h2 => ?_
    have k2 := h1.trans h2
    refine ⟨fun s W => 1 ≤ s.1 ∧ s.1 ≤ zs.length ∧ Ext w W ∧ Own w.heap.size W 2 s.2 (ints ((steps zs).take s.1)), fun s _ => zs.length - s.1, ⟨(1, r), rfl, rfl, Nat.le_refl _, h0, k2, ?_⟩, ?_⟩
    · have hs : 0 < (steps zs).length := by rw [steps_length]; exact h0
      simp only
      rw [take_snoc (steps zs) 0 hs, steps_get, if_pos rfl, getD_get h0]
      exact o2.mono h1.size
    rintro ⟨k, u⟩ w4 ⟨hk1, hk, k4, o4⟩
    simp only at hk1 hk o4
    refine (hv.ext k4).len ⟨fun hlt => ?_, fun hge => ?_⟩
    · have hlt' : k < zs.length := by simp only at hlt; omega
      intro w5 h5
      have k5 := k4.trans h5
      have z1 := hz _ (List.getElem_mem hlt')
      have z2 := hz _ (List.getElem_mem (show k - 1 < zs.length by omega))
      refine (hv.ext k5).get k rfl hlt' ⟨by unfold I64; simp only; omega, (hv.ext k5).get (k - 1) (by simp only; omega) (by omega) ⟨by unfold I64; omega, fun r w6 o6 h6 => ?_⟩⟩
      have k6 := k5.trans h6
      have o46 := (o4.ext h5).ext h6
      refine o46.app1 o6 rfl (by simp [steps_length]; omega) k6.size fun u' w7 o7 g7 _ => ⟨by unfold I64; simp only; omega, (k + 1, u'), rfl, rfl, ⟨by simp only; omega, hlt', k6.grown o46 (Nat.le_refl _) g7, ?_⟩, by simp only; omega⟩
      simp only
      have hs : k < (steps zs).length := by rw [steps_length]; exact hlt'
      rw [take_snoc (steps zs) k hs, ints_append, steps_get, if_neg (by omega), getD_get hlt', getD_get (show k - 1 < zs.length by omega)]
      exact o7
    · have hkl : k = zs.length := by simp only at hge; omega
      subst hkl
      intro w5 h5
      have k5 := k4.trans h5
      have z1 := hz _ (List.getElem_mem (show zs.length - 1 < zs.length by omega))
      refine ⟨by unfold I64; omega, (hv.ext k5).len ⟨by unfold I64; omega, (hv.ext k5).get (zs.length - 1) (by omega) (by omega) ⟨by unfold I64; omega, fun r w6 o6 h6 => ?_⟩⟩⟩
      have k6 := k5.trans h6
      have o46 := (o4.ext h5).ext h6
      refine o46.app1 o6 rfl (by simp [steps_length]; omega) k6.size fun u' w7 o7 g7 _ => ⟨?_, k6.grown o46 (Nat.le_refl _) g7⟩
      have e : (steps zs).take zs.length = steps zs := List.take_of_length_le (by rw [steps_length]; exact Nat.le_refl _)
      rw [e] at o7
      rw [stack, ints_append, getD_get (show zs.length - 1 < zs.length by omega)]
      exact o7)
def spec_l05Pins_A (m_Chambers : Int) (m_Depths : Int) (m_Step : Int) (m_Same : Int) (m_Least : Int) (l_Sets : Value) (w : World) : Nat → Ann := fun κ => match κ with
  | 0 => { σ := Nat × Value, sli := [6, 5], slc := fun s => [SV.v (Value.int .i64 (s.1 : Int)), SV.v s.2], bxi := [], bxc := fun s => [], inv := fun s W => True, μ := fun s W => 0, free := true }
  | _ => { σ := Unit, sli := [], slc := fun _ => [], bxi := [], bxc := fun _ => [], inv := fun _ _ => False, μ := fun _ _ => 0 }
abbrev spec_l05Pins_k0 (m_Chambers : Int) (m_Depths : Int) (m_Step : Int) (m_Same : Int) (m_Least : Int) (l_Sets : Value) (w : World) (s6 : Nat × Value) (w7 : World) (J8 : (Nat × Value) → World → Prop) (m9 : (Nat × Value) → World → Nat) (x11 : Value) (x12 : Int) (w16 : World) : Prop :=
  ∀ w17 : World, Ext w16 w17 → IxV 1 l_Sets x12 (fun ad18 => ∃ u19 : Value, LdV w17 (Value.pointer (some ad18)) u19 ∧ Calls Tryd.prog 92 #[(Value.agg #[(Value.int .i64 m_Chambers), (Value.int .i64 m_Depths), (Value.int .i64 m_Step), (Value.int .i64 m_Same), (Value.int .i64 m_Least)]), u19] w17 (fun e20 w21 => ∃ u22 : Value, e20 = .returned u22 ∧ Keeps w.heap.size [39, 36] w17 w21 ∧ Ext w17 w21 ∧ oneC u22 (∀ (v23 : Value) (w24 : World), Sx.Own w21.heap.size w24 24 v23 [u22] → Ext w21 w24 → AppV w24 24 x11 v23 (fun v25 w26 => I64 (x12 + 1) ∧ ∃ s27 : (Nat × Value), (Value.int .i64 (x12 + 1)) = (Value.int .i64 (s27.1 : Int)) ∧ v25 = s27.2 ∧ (J8 s27 w26) ∧ (m9 s27 w26) < (m9 s6 w7)))))
def spec_l05Pins_vc (m_Chambers : Int) (m_Depths : Int) (m_Step : Int) (m_Same : Int) (m_Least : Int) (l_Sets : Value) (w : World) (Post : Value → World → Prop) : Prop :=
  ∀ w1 : World, Ext w w1 → oneC l_Sets (∀ w2 : World, Ext w1 w2 → ∀ (v3 : Value) (w4 : World), Sx.Own w2.heap.size w4 24 v3 [] → Ext w2 w4 → (∃ (J8 : (Nat × Value) → World → Prop) (m9 : (Nat × Value) → World → Nat), ((∃ s5 : (Nat × Value), (Value.int .i64 0) = (Value.int .i64 (s5.1 : Int)) ∧ v3 = s5.2 ∧ (J8 s5 w4)) ∧ ∀ (s6 : (Nat × Value)) (w7 : World), (J8 s6 w7) → LenV l_Sets (fun n10 => ((((s6.1 : Int) < n10) → (spec_l05Pins_k0 m_Chambers m_Depths m_Step m_Same m_Least l_Sets w s6 w7 J8 m9 s6.2 (s6.1 : Int) w7)) ∧ (¬ ((s6.1 : Int) < n10) → Post s6.2 w7))))))
theorem spec_l05Pins_eq (m_Chambers : Int) (m_Depths : Int) (m_Step : Int) (m_Same : Int) (m_Least : Int) (l_Sets : Value) (w : World) (Post : Value → World → Prop) : denF Tryd.prog [1000092] (spec_l05Pins_A m_Chambers m_Depths m_Step m_Same m_Least l_Sets w) 63 [(Value.agg #[(Value.int .i64 m_Chambers), (Value.int .i64 m_Depths), (Value.int .i64 m_Step), (Value.int .i64 m_Same), (Value.int .i64 m_Least)]), (Value.agg #[l_Sets])] w Post = spec_l05Pins_vc m_Chambers m_Depths m_Step m_Same m_Least l_Sets w Post := by kernel_rfl
set_option maxRecDepth 100000 in
theorem spec_l05Pins_calls (m_Chambers : Int) (m_Depths : Int) (m_Step : Int) (m_Same : Int) (m_Least : Int) (l_Sets : Value) (w : World) (Post : Value → World → Prop) (hvc : spec_l05Pins_vc m_Chambers m_Depths m_Step m_Same m_Least l_Sets w Post) : Ret Tryd.prog 63 #[(Value.agg #[(Value.int .i64 m_Chambers), (Value.int .i64 m_Depths), (Value.int .i64 m_Step), (Value.int .i64 m_Same), (Value.int .i64 m_Least)]), (Value.agg #[l_Sets])] w Post :=
  Ret.of (denF_sound mixed (Eq.mpr (spec_l05Pins_eq m_Chambers m_Depths m_Step m_Same m_Least l_Sets w Post) hvc))

theorem spec_l05Pins_ret (c d s m l : Int) (v : Value) (zss : List (List Int)) (w : World) (h : RR w v zss) (hd : 0 ≤ d ∧ d ≤ 8) (hl : zss.length ≤ 6) (hz : ∀ z ∈ zss, 0 < z.length ∧ z.length ≤ 100 ∧ ∀ x ∈ z, 0 ≤ x ∧ x ≤ 7) : Ret Tryd.prog 63 #[mkV c d s m l, lkV v] w fun u w' => OwnR w.heap.size w' u (zss.map (stack d)) ∧ Ext w w' :=
  spec_l05Pins_calls c d s m l v w _ (by
    unfold spec_l05Pins_vc
    intro w1 h1
    refine h.oneC fun w2 h2 u w3 o3 h3 => ?_
    have k2 := h1.trans h2
    have k3 := k2.trans h3
    refine ⟨fun s W => s.1 ≤ zss.length ∧ Ext w W ∧ OwnR w.heap.size W s.2 ((zss.take s.1).map (stack d)), fun s _ => zss.length - s.1, ⟨(0, u), rfl, rfl, Nat.zero_le _, k3, [], o3.mono k2.size, Rows.nil_, .nil⟩, ?_⟩
    rintro ⟨k, u⟩ w4 ⟨hk, k4, o4⟩
    simp only at hk o4
    refine (h.ext k4).len ⟨fun hlt => ?_, fun hge => ?_⟩
    · have hlt' : k < zss.length := by simp only at hlt; omega
      intro w5 h5
      have k5 := k4.trans h5
      obtain ⟨z0, z1, z2⟩ := hz _ (List.getElem_mem hlt')
      refine (h.ext k5).get k rfl hlt' fun x hx => ?_
      refine (spec_l05Stack_ret c d s m l x zss[k] w5 hx hd z0 z1 z2).call ?_
      rintro y w6 ⟨o6, h6⟩
      refine ⟨y, rfl, h6.keeps, h6, o6.rd.oneC fun r w7 o7 h7 => ?_⟩
      refine (o4.ext h5).push o6 h6 o7 h7 k5.size (by simp; omega) fun v' w8 o8 hx8 => ⟨by unfold I64; simp only; omega, (k + 1, v'), rfl, rfl, ⟨hlt', hx8 w (Nat.le_refl _) ((k5.trans h6).trans h7), ?_⟩, by simp only; omega⟩
      simp only
      rw [take_snoc zss k hlt', List.map_append]
      exact o8
    · have e : zss.take k = zss := List.take_of_length_le (by simp only at hge; omega)
      rw [e] at o4
      exact ⟨o4, k4⟩)
def impl_pinsOf_A (m_Chambers : Int) (m_Depths : Int) (m_Step : Int) (m_Same : Int) (m_Least : Int) (l_Sets : Value) (w : World) : Nat → Ann := fun κ => match κ with
  | 0 => { σ := Nat × Value, sli := [12, 5], slc := fun s => [SV.v (Value.int .i64 (s.1 : Int)), SV.v s.2], bxi := [], bxc := fun s => [], inv := fun s W => True, μ := fun s W => 0, free := true }
  | _ => { σ := Unit, sli := [], slc := fun _ => [], bxi := [], bxc := fun _ => [], inv := fun _ _ => False, μ := fun _ _ => 0 }
abbrev impl_pinsOf_k0 (m_Chambers : Int) (m_Depths : Int) (m_Step : Int) (m_Same : Int) (m_Least : Int) (l_Sets : Value) (w : World) (s7 : Nat × Value) (w8 : World) (J9 : (Nat × Value) → World → Prop) (m10 : (Nat × Value) → World → Nat) (x11 : Value) (x12 : Int) (w13 : World) : Prop :=
  IxV 1 l_Sets x12 (fun ad14 => ∃ u15 : Value, LdV w13 (Value.pointer (some ad14)) u15 ∧ Calls Tryd.prog 93 #[(Value.agg #[(Value.int .i64 m_Chambers), (Value.int .i64 m_Depths), (Value.int .i64 m_Step), (Value.int .i64 m_Same), (Value.int .i64 m_Least)]), u15] w13 (fun e16 w17 => ∃ u18 : Value, e16 = .returned u18 ∧ Keeps w.heap.size [39, 36] w13 w17 ∧ oneC u18 (∀ (v19 : Value) (w20 : World), Sx.Own w17.heap.size w20 24 v19 [u18] → Ext w17 w20 → AppV w20 24 x11 v19 (fun v21 w22 => I64 (x12 + 1) ∧ ∃ s23 : (Nat × Value), (Value.int .i64 (x12 + 1)) = (Value.int .i64 (s23.1 : Int)) ∧ v21 = s23.2 ∧ (J9 s23 w22) ∧ (m10 s23 w22) < (m10 s7 w8)))))
def impl_pinsOf_vc (m_Chambers : Int) (m_Depths : Int) (m_Step : Int) (m_Same : Int) (m_Least : Int) (l_Sets : Value) (w : World) (Post : Value → World → Prop) : Prop :=
  ∀ w1 : World, Ext w w1 → oneC l_Sets (∀ w2 : World, Ext w1 w2 → ∀ (v3 : Value) (w4 : World), Sx.Own w2.heap.size w4 24 v3 [] → Ext w2 w4 → LenV l_Sets (fun n5 => (∃ (J9 : (Nat × Value) → World → Prop) (m10 : (Nat × Value) → World → Nat), ((∃ s6 : (Nat × Value), (Value.int .i64 0) = (Value.int .i64 (s6.1 : Int)) ∧ v3 = s6.2 ∧ (J9 s6 w4)) ∧ ∀ (s7 : (Nat × Value)) (w8 : World), (J9 s7 w8) → ((((s7.1 : Int) < n5) → (impl_pinsOf_k0 m_Chambers m_Depths m_Step m_Same m_Least l_Sets w s7 w8 J9 m10 s7.2 (s7.1 : Int) w8)) ∧ (¬ ((s7.1 : Int) < n5) → Post s7.2 w8))))))
theorem impl_pinsOf_eq (m_Chambers : Int) (m_Depths : Int) (m_Step : Int) (m_Same : Int) (m_Least : Int) (l_Sets : Value) (w : World) (Post : Value → World → Prop) : denF Tryd.prog [1000093] (impl_pinsOf_A m_Chambers m_Depths m_Step m_Same m_Least l_Sets w) 66 [(Value.agg #[(Value.int .i64 m_Chambers), (Value.int .i64 m_Depths), (Value.int .i64 m_Step), (Value.int .i64 m_Same), (Value.int .i64 m_Least)]), (Value.agg #[l_Sets])] w Post = impl_pinsOf_vc m_Chambers m_Depths m_Step m_Same m_Least l_Sets w Post := by kernel_rfl
set_option maxRecDepth 100000 in
theorem impl_pinsOf_calls (m_Chambers : Int) (m_Depths : Int) (m_Step : Int) (m_Same : Int) (m_Least : Int) (l_Sets : Value) (w : World) (Post : Value → World → Prop) (hvc : impl_pinsOf_vc m_Chambers m_Depths m_Step m_Same m_Least l_Sets w Post) : Ret Tryd.prog 66 #[(Value.agg #[(Value.int .i64 m_Chambers), (Value.int .i64 m_Depths), (Value.int .i64 m_Step), (Value.int .i64 m_Same), (Value.int .i64 m_Least)]), (Value.agg #[l_Sets])] w Post :=
  Ret.of (denF_sound mixed (Eq.mpr (impl_pinsOf_eq m_Chambers m_Depths m_Step m_Same m_Least l_Sets w Post) hvc))

theorem impl_pinsOf_ret (c d s m l : Int) (v : Value) (zss : List (List Int)) (w : World) (h : RR w v zss) (hd : 0 ≤ d ∧ d ≤ 8) (hl : zss.length ≤ 6) (hz : ∀ z ∈ zss, 0 < z.length ∧ z.length ≤ 100 ∧ ∀ x ∈ z, 0 ≤ x ∧ x ≤ 7) : Ret Tryd.prog 66 #[mkV c d s m l, lkV v] w fun u w' => OwnR w.heap.size w' u (zss.map (stack d)) ∧ Ext w w' :=
  impl_pinsOf_calls c d s m l v w _ (by
    unfold impl_pinsOf_vc
    intro w1 h1
    refine h.oneC fun w2 h2 u w3 o3 h3 => ?_
    have k2 := h1.trans h2
    have k3 := k2.trans h3
    refine (h.ext k3).len ⟨fun s W => s.1 ≤ zss.length ∧ Ext w W ∧ OwnR w.heap.size W s.2 ((zss.take s.1).map (stack d)), fun s _ => zss.length - s.1, ⟨(0, u), rfl, rfl, Nat.zero_le _, k3, [], o3.mono k2.size, Rows.nil_, .nil⟩, ?_⟩
    rintro ⟨k, u⟩ w5 ⟨hk, k5, o5⟩
    simp only at hk o5
    refine ⟨fun hlt => ?_, fun hge => ?_⟩
    · have hlt' : k < zss.length := by simp only at hlt; omega
      obtain ⟨z0, z1, z2⟩ := hz _ (List.getElem_mem hlt')
      refine (h.ext k5).get k rfl hlt' fun x hx => ?_
      refine (impl_stackOf_ret c d s m l x zss[k] w5 hx hd z0 z1 z2).call ?_
      rintro y w6 ⟨o6, h6⟩
      refine ⟨y, rfl, h6.keeps, o6.rd.oneC fun r w7 o7 h7 => ?_⟩
      refine o5.push o6 h6 o7 h7 k5.size (by simp; omega) fun v' w8 o8 hx8 => ⟨by unfold I64; simp only; omega, (k + 1, v'), rfl, rfl, ⟨hlt', hx8 w (Nat.le_refl _) ((k5.trans h6).trans h7), ?_⟩, by simp only; omega⟩
      simp only
      rw [take_snoc zss k hlt', List.map_append]
      exact o8
    · have e : zss.take k = zss := List.take_of_length_le (by simp only at hge; omega)
      rw [e] at o5
      exact ⟨o5, k5⟩)
/-! ### the pins of a lock -/
def lkCode (c d s m l : Int) (zss : List (List Int)) : Int := if LkOk c d s m l zss then 0 else 1
def pinsR (c d s m l : Int) (zss : List (List Int)) : List (List Int) := if LkOk c d s m l zss then zss.map (stack d) else []
theorem pinsR_total (c d s m l : Int) (zss : List (List Int)) : total (pinsR c d s m l zss) ≤ 1000000 := by
  unfold pinsR
  split
  · rename_i h
    obtain ⟨_, h1, h2⟩ := lk_small h
    have := total_max (zss := zss.map (stack d)) (n := 101) fun z hz => by
      obtain ⟨x, hx, rfl⟩ := List.mem_map.1 hz
      have := (h2 x hx).2.1
      rw [stack_length]
      omega
    simp at this
    omega
  · simp [total]
theorem OwnR.base {B : Nat} {w w0 : World} {v : Value} {zss : List (List Int)} (h : OwnR w0.heap.size w v zss) (hB : B ≤ w0.heap.size) : OwnR B w v zss := h.mono hB
end Go.Proofs
