/- Parts of this claim, laid together: contracts of functions and plain facts, L05a, L03a, L05e, S10, S07, S08, S09, L04c, L03b, L04d, L04e, L03c, L03d, L03f, L05d, S11, L02e, L02f, S06. No condition. -/
import Derived.Test.YtjcggcefmpaieaaGreatDoorMa
import Derived.Lib.SplitLaws
import Derived.Lib.AtoiErrMem
section
set_option linter.unusedVariables false
namespace Go.Proofs
open Go.Sx Go.RowKit
theorem rises_in {n : Int} {zs : List Int} (h : Rises n zs zs.length) : ∀ x ∈ zs, 0 ≤ x ∧ x < n := by
  intro x hx
  obtain ⟨i, hi, rfl⟩ := List.getElem_of_mem hx
  have := h i hi
  unfold RiseAt at this
  rw [getD_get hi] at this
  exact ⟨this.1, this.2.1⟩
theorem lk_small {c d s m l : Int} {zss : List (List Int)} (h : LkOk c d s m l zss) : (0 ≤ d ∧ d ≤ 8) ∧ zss.length ≤ 6 ∧ ∀ z ∈ zss, 0 < z.length ∧ z.length ≤ 100 ∧ ∀ x ∈ z, 0 ≤ x ∧ x ≤ 7 := by
  obtain ⟨hm, hc, hs⟩ := h
  have h1 := hm.1
  have h2 := hm.2.1
  refine ⟨by omega, by omega, fun z hz => ?_⟩
  have h3 := hs.len (by omega) z hz
  refine ⟨by omega, by omega, fun x hx => ?_⟩
  have := rises_in (hs z hz).2 x hx
  omega
/-- a row of the call's own, put at the end of a slice of rows -/
theorem OwnR.push {B C : Nat} {w3 w4 w5 : World} {v u r : Value} {zss : List (List Int)} {z : List Int} (h : OwnR B w3 v zss) (hu : Own w3.heap.size w4 2 u (ints z)) (e4 : Ext w3 w4) (hr : Own C w5 45 r [u]) (e5 : Ext w4 w5) (hB : B ≤ w3.heap.size) (hl : zss.length < 4398046511104) {K : Value → World → Prop}
    (hK : ∀ v' w6, OwnR B w6 v' (zss ++ [z]) → (∀ w0 : World, w0.heap.size ≤ B → Ext w0 w5 → Ext w0 w6) → K v' w6) : AppV w5 45 v r K := by
  obtain ⟨us, h1, h2, h3⟩ := h
  have e := e4.trans e5
  have h1' := h1.ext e
  have hu' := (hu.ext e5)
  refine h1'.app1 hr hu.rd.one (by rw [h2.1]; exact hl) (Nat.le_trans hB e.size) fun v' w6 o6 g6 hb => hK v' w6 ⟨us ++ [u], o6, ?_, ?_⟩ fun w0 h0 x => x.grown h1' h0 g6
  · refine (h2.map fun x zx hx => ((hx.ext e).grown g6 (Apart.types (hx.ext e) h1' (by decide)))).snoc ?_
    exact (hu'.mono hB).grown g6 (Apart.types hu' h1' (by decide))
  · rw [List.pairwise_append]
    refine ⟨h3, by simp, fun x hx y hy => ?_⟩
    simp only [List.mem_singleton] at hy
    subst hy
    obtain ⟨i, hi, rfl⟩ := List.getElem_of_mem hx
    have hik : i < zss.length := by rw [← h2.1]; exact hi
    exact Apart.new (h2.get hik) hu
/-! ### stacks -/
def steps (zs : List Int) : List Int := (List.range zs.length).map fun i => if i = 0 then zs.getD 0 0 else zs.getD i 0 - zs.getD (i - 1) 0
theorem steps_length (zs : List Int) : (steps zs).length = zs.length := by simp [steps]
theorem steps_get {zs : List Int} {k : Nat} (hk : k < (steps zs).length) : (steps zs)[k] = if k = 0 then zs.getD 0 0 else zs.getD k 0 - zs.getD (k - 1) 0 := by simp [steps]
def stack (d : Int) (zs : List Int) : List Int := steps zs ++ [d - 1 - zs.getD (zs.length - 1) 0]
theorem stack_length (d : Int) (zs : List Int) : (stack d zs).length = zs.length + 1 := by simp [stack, steps_length]
def spec_l05Stack_A (m_Chambers : Int) (m_Depths : Int) (m_Step : Int) (m_Same : Int) (m_Least : Int) (v : Value) (w : World) : Nat → Ann := fun κ => match κ with
  | 0 => { σ := Nat × Value, sli := [6, 5], slc := fun s => [SV.v (Value.int .i64 (s.1 : Int)), SV.v s.2], bxi := [], bxc := fun s => [], inv := fun s W => True, μ := fun s W => 0, free := true }
  | _ => { σ := Unit, sli := [], slc := fun _ => [], bxi := [], bxc := fun _ => [], inv := fun _ _ => False, μ := fun _ _ => 0 }
abbrev spec_l05Stack_k0 (v : Value) (s7 : Nat × Value) (w8 : World) (J9 : (Nat × Value) → World → Prop) (m10 : (Nat × Value) → World → Nat) (x12 : Value) (x13 : Int) (w17 : World) : Prop :=
  ∀ w18 : World, Ext w17 w18 → IxV 1 v x13 (fun ad19 => ∃ n20 : Int, LdV w18 (Value.pointer (some ad19)) (Value.int .i64 n20) ∧ I64 (x13 - 1) ∧ IxV 1 v (x13 - 1) (fun ad21 => ∃ n22 : Int, LdV w18 (Value.pointer (some ad21)) (Value.int .i64 n22) ∧ I64 (n20 - n22) ∧ ∀ (v23 : Value) (w24 : World), Sx.Own w18.heap.size w24 2 v23 [(Value.int .i64 (n20 - n22))] → Ext w18 w24 → AppV w24 2 x12 v23 (fun v25 w26 => I64 (x13 + 1) ∧ ∃ s27 : (Nat × Value), (Value.int .i64 (x13 + 1)) = (Value.int .i64 (s27.1 : Int)) ∧ v25 = s27.2 ∧ (J9 s27 w26) ∧ (m10 s27 w26) < (m10 s7 w8))))
abbrev spec_l05Stack_k1 (Post : Value → World → Prop) (x33 : Value) (x34 : Value) (x44 : Int) (w48 : World) : Prop :=
  ∀ w49 : World, Ext w48 w49 → I64 (x44 - 1) ∧ LenV x33 (fun n50 => I64 (n50 - 1) ∧ IxV 1 x33 (n50 - 1) (fun ad51 => ∃ n52 : Int, LdV w49 (Value.pointer (some ad51)) (Value.int .i64 n52) ∧ I64 ((x44 - 1) - n52) ∧ ∀ (v53 : Value) (w54 : World), Sx.Own w49.heap.size w54 2 v53 [(Value.int .i64 ((x44 - 1) - n52))] → Ext w49 w54 → AppV w54 2 x34 v53 (fun v55 w56 => Post v55 w56)))
def spec_l05Stack_vc (m_Chambers : Int) (m_Depths : Int) (m_Step : Int) (m_Same : Int) (m_Least : Int) (v : Value) (w : World) (Post : Value → World → Prop) : Prop :=
  ∀ w1 : World, Ext w w1 → IxV 1 v 0 (fun ad2 => ∃ n3 : Int, LdV w1 (Value.pointer (some ad2)) (Value.int .i64 n3) ∧ ∀ (v4 : Value) (w5 : World), Sx.Own w1.heap.size w5 2 v4 [(Value.int .i64 n3)] → Ext w1 w5 → (∃ (J9 : (Nat × Value) → World → Prop) (m10 : (Nat × Value) → World → Nat), ((∃ s6 : (Nat × Value), (Value.int .i64 1) = (Value.int .i64 (s6.1 : Int)) ∧ v4 = s6.2 ∧ (J9 s6 w5)) ∧ ∀ (s7 : (Nat × Value)) (w8 : World), (J9 s7 w8) → LenV v (fun n11 => ((((s7.1 : Int) < n11) → (spec_l05Stack_k0 v s7 w8 J9 m10 s7.2 (s7.1 : Int) w8)) ∧ (¬ ((s7.1 : Int) < n11) → (spec_l05Stack_k1 Post v s7.2 m_Depths w8)))))))
theorem spec_l05Stack_eq (m_Chambers : Int) (m_Depths : Int) (m_Step : Int) (m_Same : Int) (m_Least : Int) (v : Value) (w : World) (Post : Value → World → Prop) : denF Tryz.prog [] (spec_l05Stack_A m_Chambers m_Depths m_Step m_Same m_Least v w) 45 [(Value.agg #[(Value.int .i64 m_Chambers), (Value.int .i64 m_Depths), (Value.int .i64 m_Step), (Value.int .i64 m_Same), (Value.int .i64 m_Least)]), v] w Post = spec_l05Stack_vc m_Chambers m_Depths m_Step m_Same m_Least v w Post := by kernel_rfl
set_option maxRecDepth 100000 in
theorem spec_l05Stack_calls (m_Chambers : Int) (m_Depths : Int) (m_Step : Int) (m_Same : Int) (m_Least : Int) (v : Value) (w : World) (Post : Value → World → Prop) (hvc : spec_l05Stack_vc m_Chambers m_Depths m_Step m_Same m_Least v w Post) : Ret Tryz.prog 45 #[(Value.agg #[(Value.int .i64 m_Chambers), (Value.int .i64 m_Depths), (Value.int .i64 m_Step), (Value.int .i64 m_Same), (Value.int .i64 m_Least)]), v] w Post :=
  Ret.of (denF_sound mixed (Eq.mpr (spec_l05Stack_eq m_Chambers m_Depths m_Step m_Same m_Least v w Post) hvc))

theorem spec_l05Stack_ret (c d s m l : Int) (v : Value) (zs : List Int) (w : World) (hv : RI w v zs) (hd : 0 ≤ d ∧ d ≤ 8) (h0 : 0 < zs.length) (hl : zs.length ≤ 100) (hz : ∀ z ∈ zs, 0 ≤ z ∧ z ≤ 7) : Ret Tryz.prog 45 #[mkV c d s m l, v] w fun u w' => Own w.heap.size w' 2 u (ints (stack d zs)) ∧ Ext w w' :=
  spec_l05Stack_calls c d s m l v w _ (by
    unfold spec_l05Stack_vc
    intro w1 h1
    refine (hv.ext h1).get 0 rfl h0 fun r w2 o2 h2 => ?_
    have k2 := h1.trans h2
    refine ⟨fun s W => 1 ≤ s.1 ∧ s.1 ≤ zs.length ∧ Ext w W ∧ Own w.heap.size W 2 s.2 (ints ((steps zs).take s.1)), fun s _ => zs.length - s.1, ⟨(1, r), rfl, rfl, Nat.le_refl _, h0, k2, ?_⟩, ?_⟩
    · have hs : 0 < (steps zs).length := by rw [steps_length]; exact h0
      simp only
      rw [take_snoc (steps zs) 0 hs, steps_get, if_pos rfl, getD_get h0]
      exact o2.mono h1.size
    rintro ⟨k, u⟩ w4 ⟨hk1, hk, k4, o4⟩
    simp only at hk1 hk o4
    refine (hv.ext k4).len ⟨fun hlt => ?_, fun hge => ?_⟩
    · have hlt' : k < zs.length := by simp only at hlt; omega
      intro w5 h5
      have k5 := k4.trans h5
      have z1 := hz _ (List.getElem_mem hlt')
      have z2 := hz _ (List.getElem_mem (show k - 1 < zs.length by omega))
      refine (hv.ext k5).get k rfl hlt' ⟨by unfold I64; simp only; omega, (hv.ext k5).get (k - 1) (by simp only; omega) (by omega) ⟨by unfold I64; omega, fun r w6 o6 h6 => ?_⟩⟩
      have k6 := k5.trans h6
      have o46 := (o4.ext h5).ext h6
      refine o46.app1 o6 rfl (by simp [steps_length]; omega) k6.size fun u' w7 o7 g7 _ => ⟨by unfold I64; simp only; omega, (k + 1, u'), rfl, rfl, ⟨by simp only; omega, hlt', k6.grown o46 (Nat.le_refl _) g7, ?_⟩, by simp only; omega⟩
      simp only
      have hs : k < (steps zs).length := by rw [steps_length]; exact hlt'
      rw [take_snoc (steps zs) k hs, ints_append, steps_get, if_neg (by omega), getD_get hlt', getD_get (show k - 1 < zs.length by omega)]
      exact o7
    · have hkl : k = zs.length := by simp only at hge; omega
      subst hkl
      intro w5 h5
      have k5 := k4.trans h5
      have z1 := hz _ (List.getElem_mem (show zs.length - 1 < zs.length by omega))
      refine ⟨by unfold I64; omega, (hv.ext k5).len ⟨by unfold I64; omega, (hv.ext k5).get (zs.length - 1) (by omega) (by omega) ⟨by unfold I64; omega, fun r w6 o6 h6 => ?_⟩⟩⟩
      have k6 := k5.trans h6
      have o46 := (o4.ext h5).ext h6
      refine o46.app1 o6 rfl (by simp [steps_length]; omega) k6.size fun u' w7 o7 g7 _ => ⟨?_, k6.grown o46 (Nat.le_refl _) g7⟩
      have e : (steps zs).take zs.length = steps zs := List.take_of_length_le (by rw [steps_length]; exact Nat.le_refl _)
      rw [e] at o7
      rw [stack, ints_append, getD_get (show zs.length - 1 < zs.length by omega)]
      exact o7)
def impl_stackOf_A (m_Chambers : Int) (m_Depths : Int) (m_Step : Int) (m_Same : Int) (m_Least : Int) (v : Value) (w : World) : Nat → Ann := fun κ => match κ with
  | 0 => { σ := Nat × Value, sli := [6, 5], slc := fun s => [SV.v (Value.int .i64 (s.1 : Int)), SV.v s.2], bxi := [], bxc := fun s => [], inv := fun s W => True, μ := fun s W => 0, free := true }
  | _ => { σ := Unit, sli := [], slc := fun _ => [], bxi := [], bxc := fun _ => [], inv := fun _ _ => False, μ := fun _ _ => 0 }
abbrev impl_stackOf_k0 (v : Value) (s7 : Nat × Value) (w8 : World) (J9 : (Nat × Value) → World → Prop) (m10 : (Nat × Value) → World → Nat) (x12 : Value) (x13 : Int) (w17 : World) : Prop :=
  ∀ w18 : World, Ext w17 w18 → IxV 1 v x13 (fun ad19 => ∃ n20 : Int, LdV w18 (Value.pointer (some ad19)) (Value.int .i64 n20) ∧ I64 (x13 - 1) ∧ IxV 1 v (x13 - 1) (fun ad21 => ∃ n22 : Int, LdV w18 (Value.pointer (some ad21)) (Value.int .i64 n22) ∧ I64 (n20 - n22) ∧ ∀ (v23 : Value) (w24 : World), Sx.Own w18.heap.size w24 2 v23 [(Value.int .i64 (n20 - n22))] → Ext w18 w24 → AppV w24 2 x12 v23 (fun v25 w26 => I64 (x13 + 1) ∧ ∃ s27 : (Nat × Value), (Value.int .i64 (x13 + 1)) = (Value.int .i64 (s27.1 : Int)) ∧ v25 = s27.2 ∧ (J9 s27 w26) ∧ (m10 s27 w26) < (m10 s7 w8))))
abbrev impl_stackOf_k1 (Post : Value → World → Prop) (x33 : Value) (x34 : Value) (x44 : Int) (w48 : World) : Prop :=
  ∀ w49 : World, Ext w48 w49 → I64 (x44 - 1) ∧ LenV x33 (fun n50 => I64 (n50 - 1) ∧ IxV 1 x33 (n50 - 1) (fun ad51 => ∃ n52 : Int, LdV w49 (Value.pointer (some ad51)) (Value.int .i64 n52) ∧ I64 ((x44 - 1) - n52) ∧ ∀ (v53 : Value) (w54 : World), Sx.Own w49.heap.size w54 2 v53 [(Value.int .i64 ((x44 - 1) - n52))] → Ext w49 w54 → AppV w54 2 x34 v53 (fun v55 w56 => Post v55 w56)))
def impl_stackOf_vc (m_Chambers : Int) (m_Depths : Int) (m_Step : Int) (m_Same : Int) (m_Least : Int) (v : Value) (w : World) (Post : Value → World → Prop) : Prop :=
  ∀ w1 : World, Ext w w1 → IxV 1 v 0 (fun ad2 => ∃ n3 : Int, LdV w1 (Value.pointer (some ad2)) (Value.int .i64 n3) ∧ ∀ (v4 : Value) (w5 : World), Sx.Own w1.heap.size w5 2 v4 [(Value.int .i64 n3)] → Ext w1 w5 → (∃ (J9 : (Nat × Value) → World → Prop) (m10 : (Nat × Value) → World → Nat), ((∃ s6 : (Nat × Value), (Value.int .i64 1) = (Value.int .i64 (s6.1 : Int)) ∧ v4 = s6.2 ∧ (J9 s6 w5)) ∧ ∀ (s7 : (Nat × Value)) (w8 : World), (J9 s7 w8) → LenV v (fun n11 => ((((s7.1 : Int) < n11) → (impl_stackOf_k0 v s7 w8 J9 m10 s7.2 (s7.1 : Int) w8)) ∧ (¬ ((s7.1 : Int) < n11) → (impl_stackOf_k1 Post v s7.2 m_Depths w8)))))))
theorem impl_stackOf_eq (m_Chambers : Int) (m_Depths : Int) (m_Step : Int) (m_Same : Int) (m_Least : Int) (v : Value) (w : World) (Post : Value → World → Prop) : denF Tryz.prog [] (impl_stackOf_A m_Chambers m_Depths m_Step m_Same m_Least v w) 43 [(Value.agg #[(Value.int .i64 m_Chambers), (Value.int .i64 m_Depths), (Value.int .i64 m_Step), (Value.int .i64 m_Same), (Value.int .i64 m_Least)]), v] w Post = impl_stackOf_vc m_Chambers m_Depths m_Step m_Same m_Least v w Post := by kernel_rfl
set_option maxRecDepth 100000 in
theorem impl_stackOf_calls (m_Chambers : Int) (m_Depths : Int) (m_Step : Int) (m_Same : Int) (m_Least : Int) (v : Value) (w : World) (Post : Value → World → Prop) (hvc : impl_stackOf_vc m_Chambers m_Depths m_Step m_Same m_Least v w Post) : Ret Tryz.prog 43 #[(Value.agg #[(Value.int .i64 m_Chambers), (Value.int .i64 m_Depths), (Value.int .i64 m_Step), (Value.int .i64 m_Same), (Value.int .i64 m_Least)]), v] w Post :=
  Ret.of (denF_sound mixed (Eq.mpr (impl_stackOf_eq m_Chambers m_Depths m_Step m_Same m_Least v w Post) hvc))

theorem impl_stackOf_ret (c d s m l : Int) (v : Value) (zs : List Int) (w : World) (hv : RI w v zs) (hd : 0 ≤ d ∧ d ≤ 8) (h0 : 0 < zs.length) (hl : zs.length ≤ 100) (hz : ∀ z ∈ zs, 0 ≤ z ∧ z ≤ 7) : Ret Tryz.prog 43 #[mkV c d s m l, v] w fun u w' => Own w.heap.size w' 2 u (ints (stack d zs)) ∧ Ext w w' :=
  impl_stackOf_calls c d s m l v w _ (by
    unfold impl_stackOf_vc
    intro w1 h1
    refine (hv.ext h1).get 0 rfl h0 fun r w2 o2 h2 => ?_
    have k2 := h1.trans h2
    refine ⟨fun s W => 1 ≤ s.1 ∧ s.1 ≤ zs.length ∧ Ext w W ∧ Own w.heap.size W 2 s.2 (ints ((steps zs).take s.1)), fun s _ => zs.length - s.1, ⟨(1, r), rfl, rfl, Nat.le_refl _, h0, k2, ?_⟩, ?_⟩
    · have hs : 0 < (steps zs).length := by rw [steps_length]; exact h0
      simp only
      rw [take_snoc (steps zs) 0 hs, steps_get, if_pos rfl, getD_get h0]
      exact o2.mono h1.size
    rintro ⟨k, u⟩ w4 ⟨hk1, hk, k4, o4⟩
    simp only at hk1 hk o4
    refine (hv.ext k4).len ⟨fun hlt => ?_, fun hge => ?_⟩
    · have hlt' : k < zs.length := by simp only at hlt; omega
      intro w5 h5
      have k5 := k4.trans h5
      have z1 := hz _ (List.getElem_mem hlt')
      have z2 := hz _ (List.getElem_mem (show k - 1 < zs.length by omega))
      refine (hv.ext k5).get k rfl hlt' ⟨by unfold I64; simp only; omega, (hv.ext k5).get (k - 1) (by simp only; omega) (by omega) ⟨by unfold I64; omega, fun r w6 o6 h6 => ?_⟩⟩
      have k6 := k5.trans h6
      have o46 := (o4.ext h5).ext h6
      refine o46.app1 o6 rfl (by simp [steps_length]; omega) k6.size fun u' w7 o7 g7 _ => ⟨by unfold I64; simp only; omega, (k + 1, u'), rfl, rfl, ⟨by simp only; omega, hlt', k6.grown o46 (Nat.le_refl _) g7, ?_⟩, by simp only; omega⟩
      simp only
      have hs : k < (steps zs).length := by rw [steps_length]; exact hlt'
      rw [take_snoc (steps zs) k hs, ints_append, steps_get, if_neg (by omega), getD_get hlt', getD_get (show k - 1 < zs.length by omega)]
      exact o7
    · have hkl : k = zs.length := by simp only at hge; omega
      subst hkl
      intro w5 h5
      have k5 := k4.trans h5
      have z1 := hz _ (List.getElem_mem (show zs.length - 1 < zs.length by omega))
      refine ⟨by unfold I64; omega, (hv.ext k5).len ⟨by unfold I64; omega, (hv.ext k5).get (zs.length - 1) (by omega) (by omega) ⟨by unfold I64; omega, fun r w6 o6 h6 => ?_⟩⟩⟩
      have k6 := k5.trans h6
      have o46 := (o4.ext h5).ext h6
      refine o46.app1 o6 rfl (by simp [steps_length]; omega) k6.size fun u' w7 o7 g7 _ => ⟨?_, k6.grown o46 (Nat.le_refl _) g7⟩
      have e : (steps zs).take zs.length = steps zs := List.take_of_length_le (by rw [steps_length]; exact Nat.le_refl _)
      rw [e] at o7
      rw [stack, ints_append, getD_get (show zs.length - 1 < zs.length by omega)]
      exact o7)
def spec_l05Pins_A (m_Chambers : Int) (m_Depths : Int) (m_Step : Int) (m_Same : Int) (m_Least : Int) (l_Sets : Value) (w : World) : Nat → Ann := fun κ => match κ with
  | 0 => { σ := Nat × Value, sli := [6, 5], slc := fun s => [SV.v (Value.int .i64 (s.1 : Int)), SV.v s.2], bxi := [], bxc := fun s => [], inv := fun s W => True, μ := fun s W => 0, free := true }
  | _ => { σ := Unit, sli := [], slc := fun _ => [], bxi := [], bxc := fun _ => [], inv := fun _ _ => False, μ := fun _ _ => 0 }
abbrev spec_l05Pins_k0 (m_Chambers : Int) (m_Depths : Int) (m_Step : Int) (m_Same : Int) (m_Least : Int) (l_Sets : Value) (w : World) (s6 : Nat × Value) (w7 : World) (J8 : (Nat × Value) → World → Prop) (m9 : (Nat × Value) → World → Nat) (x11 : Value) (x12 : Int) (w16 : World) : Prop :=
  ∀ w17 : World, Ext w16 w17 → IxV 1 l_Sets x12 (fun ad18 => ∃ u19 : Value, LdV w17 (Value.pointer (some ad18)) u19 ∧ Calls Tryz.prog 45 #[(Value.agg #[(Value.int .i64 m_Chambers), (Value.int .i64 m_Depths), (Value.int .i64 m_Step), (Value.int .i64 m_Same), (Value.int .i64 m_Least)]), u19] w17 (fun e20 w21 => ∃ u22 : Value, e20 = .returned u22 ∧ Keeps w.heap.size [25, 28] w17 w21 ∧ Ext w17 w21 ∧ oneC u22 (∀ (v23 : Value) (w24 : World), Sx.Own w21.heap.size w24 45 v23 [u22] → Ext w21 w24 → AppV w24 45 x11 v23 (fun v25 w26 => I64 (x12 + 1) ∧ ∃ s27 : (Nat × Value), (Value.int .i64 (x12 + 1)) = (Value.int .i64 (s27.1 : Int)) ∧ v25 = s27.2 ∧ (J8 s27 w26) ∧ (m9 s27 w26) < (m9 s6 w7)))))
def spec_l05Pins_vc (m_Chambers : Int) (m_Depths : Int) (m_Step : Int) (m_Same : Int) (m_Least : Int) (l_Sets : Value) (w : World) (Post : Value → World → Prop) : Prop :=
  ∀ w1 : World, Ext w w1 → oneC l_Sets (∀ w2 : World, Ext w1 w2 → ∀ (v3 : Value) (w4 : World), Sx.Own w2.heap.size w4 45 v3 [] → Ext w2 w4 → (∃ (J8 : (Nat × Value) → World → Prop) (m9 : (Nat × Value) → World → Nat), ((∃ s5 : (Nat × Value), (Value.int .i64 0) = (Value.int .i64 (s5.1 : Int)) ∧ v3 = s5.2 ∧ (J8 s5 w4)) ∧ ∀ (s6 : (Nat × Value)) (w7 : World), (J8 s6 w7) → LenV l_Sets (fun n10 => ((((s6.1 : Int) < n10) → (spec_l05Pins_k0 m_Chambers m_Depths m_Step m_Same m_Least l_Sets w s6 w7 J8 m9 s6.2 (s6.1 : Int) w7)) ∧ (¬ ((s6.1 : Int) < n10) → Post s6.2 w7))))))
theorem spec_l05Pins_eq (m_Chambers : Int) (m_Depths : Int) (m_Step : Int) (m_Same : Int) (m_Least : Int) (l_Sets : Value) (w : World) (Post : Value → World → Prop) : denF Tryz.prog [1000045] (spec_l05Pins_A m_Chambers m_Depths m_Step m_Same m_Least l_Sets w) 23 [(Value.agg #[(Value.int .i64 m_Chambers), (Value.int .i64 m_Depths), (Value.int .i64 m_Step), (Value.int .i64 m_Same), (Value.int .i64 m_Least)]), (Value.agg #[l_Sets])] w Post = spec_l05Pins_vc m_Chambers m_Depths m_Step m_Same m_Least l_Sets w Post := by kernel_rfl
set_option maxRecDepth 100000 in
theorem spec_l05Pins_calls (m_Chambers : Int) (m_Depths : Int) (m_Step : Int) (m_Same : Int) (m_Least : Int) (l_Sets : Value) (w : World) (Post : Value → World → Prop) (hvc : spec_l05Pins_vc m_Chambers m_Depths m_Step m_Same m_Least l_Sets w Post) : Ret Tryz.prog 23 #[(Value.agg #[(Value.int .i64 m_Chambers), (Value.int .i64 m_Depths), (Value.int .i64 m_Step), (Value.int .i64 m_Same), (Value.int .i64 m_Least)]), (Value.agg #[l_Sets])] w Post :=
  Ret.of (denF_sound mixed (Eq.mpr (spec_l05Pins_eq m_Chambers m_Depths m_Step m_Same m_Least l_Sets w Post) hvc))

theorem spec_l05Pins_ret (c d s m l : Int) (v : Value) (zss : List (List Int)) (w : World) (h : RR w v zss) (hd : 0 ≤ d ∧ d ≤ 8) (hl : zss.length ≤ 6) (hz : ∀ z ∈ zss, 0 < z.length ∧ z.length ≤ 100 ∧ ∀ x ∈ z, 0 ≤ x ∧ x ≤ 7) : Ret Tryz.prog 23 #[mkV c d s m l, lkV v] w fun u w' => OwnR w.heap.size w' u (zss.map (stack d)) ∧ Ext w w' :=
  spec_l05Pins_calls c d s m l v w _ (by
    unfold spec_l05Pins_vc
    intro w1 h1
    refine h.oneC fun w2 h2 u w3 o3 h3 => ?_
    have k2 := h1.trans h2
    have k3 := k2.trans h3
    refine ⟨fun s W => s.1 ≤ zss.length ∧ Ext w W ∧ OwnR w.heap.size W s.2 ((zss.take s.1).map (stack d)), fun s _ => zss.length - s.1, ⟨(0, u), rfl, rfl, Nat.zero_le _, k3, [], o3.mono k2.size, Rows.nil_, .nil⟩, ?_⟩
    rintro ⟨k, u⟩ w4 ⟨hk, k4, o4⟩
    simp only at hk o4
    refine (h.ext k4).len ⟨fun hlt => ?_, fun hge => ?_⟩
    · have hlt' : k < zss.length := by simp only at hlt; omega
      intro w5 h5
      have k5 := k4.trans h5
      obtain ⟨z0, z1, z2⟩ := hz _ (List.getElem_mem hlt')
      refine (h.ext k5).get k rfl hlt' fun x hx => ?_
      refine (spec_l05Stack_ret c d s m l x zss[k] w5 hx hd z0 z1 z2).call ?_
      rintro y w6 ⟨o6, h6⟩
      refine ⟨y, rfl, h6.keeps, h6, o6.rd.oneC fun r w7 o7 h7 => ?_⟩
      refine (o4.ext h5).push o6 h6 o7 h7 k5.size (by simp; omega) fun v' w8 o8 hx8 => ⟨by unfold I64; simp only; omega, (k + 1, v'), rfl, rfl, ⟨hlt', hx8 w (Nat.le_refl _) ((k5.trans h6).trans h7), ?_⟩, by simp only; omega⟩
      simp only
      rw [take_snoc zss k hlt', List.map_append]
      exact o8
    · have e : zss.take k = zss := List.take_of_length_le (by simp only at hge; omega)
      rw [e] at o4
      exact ⟨o4, k4⟩)
def impl_pinsOf_A (m_Chambers : Int) (m_Depths : Int) (m_Step : Int) (m_Same : Int) (m_Least : Int) (l_Sets : Value) (w : World) : Nat → Ann := fun κ => match κ with
  | 0 => { σ := Nat × Value, sli := [12, 5], slc := fun s => [SV.v (Value.int .i64 (s.1 : Int)), SV.v s.2], bxi := [], bxc := fun s => [], inv := fun s W => True, μ := fun s W => 0, free := true }
  | _ => { σ := Unit, sli := [], slc := fun _ => [], bxi := [], bxc := fun _ => [], inv := fun _ _ => False, μ := fun _ _ => 0 }
abbrev impl_pinsOf_k0 (m_Chambers : Int) (m_Depths : Int) (m_Step : Int) (m_Same : Int) (m_Least : Int) (l_Sets : Value) (w : World) (s7 : Nat × Value) (w8 : World) (J9 : (Nat × Value) → World → Prop) (m10 : (Nat × Value) → World → Nat) (x11 : Value) (x12 : Int) (w13 : World) : Prop :=
  IxV 1 l_Sets x12 (fun ad14 => ∃ u15 : Value, LdV w13 (Value.pointer (some ad14)) u15 ∧ Calls Tryz.prog 43 #[(Value.agg #[(Value.int .i64 m_Chambers), (Value.int .i64 m_Depths), (Value.int .i64 m_Step), (Value.int .i64 m_Same), (Value.int .i64 m_Least)]), u15] w13 (fun e16 w17 => ∃ u18 : Value, e16 = .returned u18 ∧ Keeps w.heap.size [25, 28] w13 w17 ∧ oneC u18 (∀ (v19 : Value) (w20 : World), Sx.Own w17.heap.size w20 45 v19 [u18] → Ext w17 w20 → AppV w20 45 x11 v19 (fun v21 w22 => I64 (x12 + 1) ∧ ∃ s23 : (Nat × Value), (Value.int .i64 (x12 + 1)) = (Value.int .i64 (s23.1 : Int)) ∧ v21 = s23.2 ∧ (J9 s23 w22) ∧ (m10 s23 w22) < (m10 s7 w8)))))
def impl_pinsOf_vc (m_Chambers : Int) (m_Depths : Int) (m_Step : Int) (m_Same : Int) (m_Least : Int) (l_Sets : Value) (w : World) (Post : Value → World → Prop) : Prop :=
  ∀ w1 : World, Ext w w1 → oneC l_Sets (∀ w2 : World, Ext w1 w2 → ∀ (v3 : Value) (w4 : World), Sx.Own w2.heap.size w4 45 v3 [] → Ext w2 w4 → LenV l_Sets (fun n5 => (∃ (J9 : (Nat × Value) → World → Prop) (m10 : (Nat × Value) → World → Nat), ((∃ s6 : (Nat × Value), (Value.int .i64 0) = (Value.int .i64 (s6.1 : Int)) ∧ v3 = s6.2 ∧ (J9 s6 w4)) ∧ ∀ (s7 : (Nat × Value)) (w8 : World), (J9 s7 w8) → ((((s7.1 : Int) < n5) → (impl_pinsOf_k0 m_Chambers m_Depths m_Step m_Same m_Least l_Sets w s7 w8 J9 m10 s7.2 (s7.1 : Int) w8)) ∧ (¬ ((s7.1 : Int) < n5) → Post s7.2 w8))))))
theorem impl_pinsOf_eq (m_Chambers : Int) (m_Depths : Int) (m_Step : Int) (m_Same : Int) (m_Least : Int) (l_Sets : Value) (w : World) (Post : Value → World → Prop) : denF Tryz.prog [1000043] (impl_pinsOf_A m_Chambers m_Depths m_Step m_Same m_Least l_Sets w) 21 [(Value.agg #[(Value.int .i64 m_Chambers), (Value.int .i64 m_Depths), (Value.int .i64 m_Step), (Value.int .i64 m_Same), (Value.int .i64 m_Least)]), (Value.agg #[l_Sets])] w Post = impl_pinsOf_vc m_Chambers m_Depths m_Step m_Same m_Least l_Sets w Post := by kernel_rfl
set_option maxRecDepth 100000 in
theorem impl_pinsOf_calls (m_Chambers : Int) (m_Depths : Int) (m_Step : Int) (m_Same : Int) (m_Least : Int) (l_Sets : Value) (w : World) (Post : Value → World → Prop) (hvc : impl_pinsOf_vc m_Chambers m_Depths m_Step m_Same m_Least l_Sets w Post) : Ret Tryz.prog 21 #[(Value.agg #[(Value.int .i64 m_Chambers), (Value.int .i64 m_Depths), (Value.int .i64 m_Step), (Value.int .i64 m_Same), (Value.int .i64 m_Least)]), (Value.agg #[l_Sets])] w Post :=
  Ret.of (denF_sound mixed (Eq.mpr (impl_pinsOf_eq m_Chambers m_Depths m_Step m_Same m_Least l_Sets w Post) hvc))

theorem impl_pinsOf_ret (c d s m l : Int) (v : Value) (zss : List (List Int)) (w : World) (h : RR w v zss) (hd : 0 ≤ d ∧ d ≤ 8) (hl : zss.length ≤ 6) (hz : ∀ z ∈ zss, 0 < z.length ∧ z.length ≤ 100 ∧ ∀ x ∈ z, 0 ≤ x ∧ x ≤ 7) : Ret Tryz.prog 21 #[mkV c d s m l, lkV v] w fun u w' => OwnR w.heap.size w' u (zss.map (stack d)) ∧ Ext w w' :=
  impl_pinsOf_calls c d s m l v w _ (by
    unfold impl_pinsOf_vc
    intro w1 h1
    refine h.oneC fun w2 h2 u w3 o3 h3 => ?_
    have k2 := h1.trans h2
    have k3 := k2.trans h3
    refine (h.ext k3).len ⟨fun s W => s.1 ≤ zss.length ∧ Ext w W ∧ OwnR w.heap.size W s.2 ((zss.take s.1).map (stack d)), fun s _ => zss.length - s.1, ⟨(0, u), rfl, rfl, Nat.zero_le _, k3, [], o3.mono k2.size, Rows.nil_, .nil⟩, ?_⟩
    rintro ⟨k, u⟩ w5 ⟨hk, k5, o5⟩
    simp only at hk o5
    refine ⟨fun hlt => ?_, fun hge => ?_⟩
    · have hlt' : k < zss.length := by simp only at hlt; omega
      obtain ⟨z0, z1, z2⟩ := hz _ (List.getElem_mem hlt')
      refine (h.ext k5).get k rfl hlt' fun x hx => ?_
      refine (impl_stackOf_ret c d s m l x zss[k] w5 hx hd z0 z1 z2).call ?_
      rintro y w6 ⟨o6, h6⟩
      refine ⟨y, rfl, h6.keeps, o6.rd.oneC fun r w7 o7 h7 => ?_⟩
      refine o5.push o6 h6 o7 h7 k5.size (by simp; omega) fun v' w8 o8 hx8 => ⟨by unfold I64; simp only; omega, (k + 1, v'), rfl, rfl, ⟨hlt', hx8 w (Nat.le_refl _) ((k5.trans h6).trans h7), ?_⟩, by simp only; omega⟩
      simp only
      rw [take_snoc zss k hlt', List.map_append]
      exact o8
    · have e : zss.take k = zss := List.take_of_length_le (by simp only at hge; omega)
      rw [e] at o5
      exact ⟨o5, k5⟩)
/-! ### the pins of a lock -/
def lkCode (c d s m l : Int) (zss : List (List Int)) : Int := if LkOk c d s m l zss then 0 else 1
def pinsR (c d s m l : Int) (zss : List (List Int)) : List (List Int) := if LkOk c d s m l zss then zss.map (stack d) else []
theorem pinsR_total (c d s m l : Int) (zss : List (List Int)) : total (pinsR c d s m l zss) ≤ 1000000 := by
  unfold pinsR
  split
  · rename_i h
    obtain ⟨_, h1, h2⟩ := lk_small h
    have := total_max (zss := zss.map (stack d)) (n := 101) fun z hz => by
      obtain ⟨x, hx, rfl⟩ := List.mem_map.1 hz
      have := (h2 x hx).2.1
      rw [stack_length]
      omega
    simp at this
    omega
  · simp [total]
theorem OwnR.base {B : Nat} {w w0 : World} {v : Value} {zss : List (List Int)} (h : OwnR w0.heap.size w v zss) (hB : B ≤ w0.heap.size) : OwnR B w v zss := h.mono hB
abbrev spec_PinsOf_k0 (w : World) (Post : Value → World → Prop) (x21 : Int) (x22 : Int) (x23 : Int) (x24 : Int) (x25 : Int) (x26 : Value) (w27 : World) : Prop :=
  Calls Tryz.prog 23 #[(Value.agg #[(Value.int .i64 x21), (Value.int .i64 x22), (Value.int .i64 x23), (Value.int .i64 x24), (Value.int .i64 x25)]), (Value.agg #[x26])] w27 (fun e28 w29 => ∃ u30 : Value, e28 = .returned u30 ∧ Keeps w.heap.size [25, 28] w27 w29 ∧ Post (Value.tuple #[u30, (Value.int .i64 0)]) w29)
def spec_PinsOf_vc (m_Chambers : Int) (m_Depths : Int) (m_Step : Int) (m_Same : Int) (m_Least : Int) (l_Sets : Value) (w : World) (Post : Value → World → Prop) : Prop :=
  ∀ w1 : World, Ext w w1 → oneC l_Sets (∀ w2 : World, Ext w1 w2 → Calls Tryz.prog 22 #[(Value.agg #[(Value.int .i64 m_Chambers), (Value.int .i64 m_Depths), (Value.int .i64 m_Step), (Value.int .i64 m_Same), (Value.int .i64 m_Least)]), (Value.agg #[l_Sets])] w2 (fun e3 w4 => ∃ b5 : Bool, e3 = .returned (Value.bool b5) ∧ Keeps w.heap.size [25, 28] w2 w4 ∧ (((!b5) = true → Post (Value.tuple #[(Value.slice none 0 0), (Value.int .i64 1)]) w4) ∧ ((!b5) = false → (spec_PinsOf_k0 w Post m_Chambers m_Depths m_Step m_Same m_Least l_Sets w4)))))
theorem spec_PinsOf_eq (m_Chambers : Int) (m_Depths : Int) (m_Step : Int) (m_Same : Int) (m_Least : Int) (l_Sets : Value) (w : World) (Post : Value → World → Prop) : denF Tryz.prog [] noAnn 7 [(Value.agg #[(Value.int .i64 m_Chambers), (Value.int .i64 m_Depths), (Value.int .i64 m_Step), (Value.int .i64 m_Same), (Value.int .i64 m_Least)]), (Value.agg #[l_Sets])] w Post = spec_PinsOf_vc m_Chambers m_Depths m_Step m_Same m_Least l_Sets w Post := by kernel_rfl
set_option maxRecDepth 100000 in
theorem spec_PinsOf_calls (m_Chambers : Int) (m_Depths : Int) (m_Step : Int) (m_Same : Int) (m_Least : Int) (l_Sets : Value) (w : World) (Post : Value → World → Prop) (hvc : spec_PinsOf_vc m_Chambers m_Depths m_Step m_Same m_Least l_Sets w Post) : Ret Tryz.prog 7 #[(Value.agg #[(Value.int .i64 m_Chambers), (Value.int .i64 m_Depths), (Value.int .i64 m_Step), (Value.int .i64 m_Same), (Value.int .i64 m_Least)]), (Value.agg #[l_Sets])] w Post :=
  Ret.of (denF_sound mixed (Eq.mpr (spec_PinsOf_eq m_Chambers m_Depths m_Step m_Same m_Least l_Sets w Post) hvc))

theorem spec_PinsOf_ret (c d s m l : Int) (v : Value) (zss : List (List Int)) (w : World) (h : RR w v zss) : SsR 7 #[mkV c d s m l, lkV v] w (pinsR c d s m l zss) (lkCode c d s m l zss) :=
  spec_PinsOf_calls c d s m l v w _ (by
    unfold spec_PinsOf_vc
    intro w1 h1
    refine h.oneC fun w2 h2 => ?_
    have k2 := h1.trans h2
    refine (spec_IsLock_val c d s m l v zss w2 (h.ext k2)).call fun w5 h5 => ⟨_, rfl, h5.keeps, fun hb => ?_, fun hb => ?_⟩
    · unfold pinsR lkCode; rw [if_neg (nd_t hb), if_neg (nd_t hb)]
      exact ⟨_, rfl, OwnR.nil_ _ _, k2.trans h5⟩
    have hk := nd_f hb
    have k5 := k2.trans h5
    obtain ⟨p1, p2, p3⟩ := lk_small hk
    refine (spec_l05Pins_ret c d s m l v zss w5 (h.ext k5) p1 p2 p3).call ?_
    rintro u w6 ⟨o6, h6⟩
    refine ⟨u, rfl, h6.keeps, ?_⟩
    unfold pinsR lkCode; rw [if_pos hk, if_pos hk]
    exact ⟨u, rfl, o6.mono k5.size, k5.trans h6⟩)
abbrev impl_PinsOf_k0 (w : World) (Post : Value → World → Prop) (x25 : Int) (x26 : Int) (x27 : Int) (x28 : Int) (x29 : Int) (x30 : Value) (w31 : World) : Prop :=
  Calls Tryz.prog 21 #[(Value.agg #[(Value.int .i64 x25), (Value.int .i64 x26), (Value.int .i64 x27), (Value.int .i64 x28), (Value.int .i64 x29)]), (Value.agg #[x30])] w31 (fun e32 w33 => ∃ u34 : Value, e32 = .returned u34 ∧ Keeps w.heap.size [25, 28] w31 w33 ∧ Post (Value.tuple #[u34, (Value.int .i64 0)]) w33)
def impl_PinsOf_vc (m_Chambers : Int) (m_Depths : Int) (m_Step : Int) (m_Same : Int) (m_Least : Int) (l_Sets : Value) (w : World) (Post : Value → World → Prop) : Prop :=
  ∀ w1 : World, Ext w w1 → oneC l_Sets (∀ w2 : World, Ext w1 w2 → oneC l_Sets (∀ (v3 : Value) (w4 : World), Sx.Own w2.heap.size w4 28 v3 [l_Sets] → Ext w2 w4 → Calls Tryz.prog 20 #[(Value.agg #[(Value.int .i64 m_Chambers), (Value.int .i64 m_Depths), (Value.int .i64 m_Step), (Value.int .i64 m_Same), (Value.int .i64 m_Least)]), v3] w4 (fun e5 w6 => ∃ n7 : Int, e5 = .returned (Value.int .i64 n7) ∧ Keeps w.heap.size [25, 28] w4 w6 ∧ (((n7 ≠ (0 : Int)) → Post (Value.tuple #[(Value.slice none 0 0), (Value.int .i64 n7)]) w6) ∧ (¬ (n7 ≠ (0 : Int)) → (impl_PinsOf_k0 w Post m_Chambers m_Depths m_Step m_Same m_Least l_Sets w6))))))
theorem impl_PinsOf_eq (m_Chambers : Int) (m_Depths : Int) (m_Step : Int) (m_Same : Int) (m_Least : Int) (l_Sets : Value) (w : World) (Post : Value → World → Prop) : denF Tryz.prog [] noAnn 6 [(Value.agg #[(Value.int .i64 m_Chambers), (Value.int .i64 m_Depths), (Value.int .i64 m_Step), (Value.int .i64 m_Same), (Value.int .i64 m_Least)]), (Value.agg #[l_Sets])] w Post = impl_PinsOf_vc m_Chambers m_Depths m_Step m_Same m_Least l_Sets w Post := by kernel_rfl
set_option maxRecDepth 100000 in
theorem impl_PinsOf_calls (m_Chambers : Int) (m_Depths : Int) (m_Step : Int) (m_Same : Int) (m_Least : Int) (l_Sets : Value) (w : World) (Post : Value → World → Prop) (hvc : impl_PinsOf_vc m_Chambers m_Depths m_Step m_Same m_Least l_Sets w Post) : Ret Tryz.prog 6 #[(Value.agg #[(Value.int .i64 m_Chambers), (Value.int .i64 m_Depths), (Value.int .i64 m_Step), (Value.int .i64 m_Same), (Value.int .i64 m_Least)]), (Value.agg #[l_Sets])] w Post :=
  Ret.of (denF_sound mixed (Eq.mpr (impl_PinsOf_eq m_Chambers m_Depths m_Step m_Same m_Least l_Sets w Post) hvc))

theorem impl_PinsOf_ret (c d s m l : Int) (v : Value) (zss : List (List Int)) (w : World) (h : RR w v zss) : SsR 6 #[mkV c d s m l, lkV v] w (pinsR c d s m l zss) (lkCode c d s m l zss) :=
  impl_PinsOf_calls c d s m l v w _ (by
    unfold impl_PinsOf_vc
    intro w1 h1
    refine h.oneC fun w2 h2 => h.oneC fun v3 w4 o4 h4 => ?_
    have k4 := (h1.trans h2).trans h4
    refine (impl_locksCode_val c d s m l v3 [zss] w4 (RLs.one o4 (h.ext k4))).call fun w5 h5 => ⟨_, rfl, h5.keeps, ?_⟩
    rw [locksR_one]
    have k5 := k4.trans h5
    by_cases hk : LkOk c d s m l zss
    · rw [if_pos hk]
      refine ⟨fun hne => absurd rfl hne, fun _ => ?_⟩
      obtain ⟨p1, p2, p3⟩ := lk_small hk
      refine (impl_pinsOf_ret c d s m l v zss w5 (h.ext k5) p1 p2 p3).call ?_
      rintro u w6 ⟨o6, h6⟩
      refine ⟨u, rfl, h6.keeps, ?_⟩
      unfold pinsR lkCode; rw [if_pos hk, if_pos hk]
      exact ⟨u, rfl, o6.mono k5.size, k5.trans h6⟩
    · rw [if_neg hk]
      refine ⟨fun _ => ?_, fun hn => absurd (by decide) hn⟩
      unfold pinsR lkCode; rw [if_neg hk, if_neg hk]
      exact ⟨_, rfl, OwnR.nil_ _ _, k5⟩)
end Go.Proofs
end
section
set_option linter.unusedVariables false
namespace Go.Proofs
open Go.Sx Go.RowKit
/-! ### the code of keys -/
abbrev Mk.v (M : Mk) : Value := mkV M.c M.d M.s M.m M.l
def kCode (M : Mk) (zss : List (List Int)) : Int := if MkOk M.c M.d M.s M.m M.l then (if ∀ z ∈ zss, IsK M z then 0 else 2) else 1
theorem kCode_no {M : Mk} {zss : List (List Int)} (h : ¬ MkOk M.c M.d M.s M.m M.l) : kCode M zss = 1 := by unfold kCode; rw [if_neg h]
theorem kCode_bad {M : Mk} {zss : List (List Int)} (h : MkOk M.c M.d M.s M.m M.l) (h2 : ¬ ∀ z ∈ zss, IsK M z) : kCode M zss = 2 := by unfold kCode; rw [if_pos h, if_neg h2]
theorem kCode_ok {M : Mk} {zss : List (List Int)} (h : MkOk M.c M.d M.s M.m M.l) (h2 : ∀ z ∈ zss, IsK M z) : kCode M zss = 0 := by unfold kCode; rw [if_pos h, if_pos h2]
theorem kCode_zero {M : Mk} {zss : List (List Int)} (h : kCode M zss = 0) : M.Ok ∧ ∀ z ∈ zss, IsK M z := by
  by_cases hm : MkOk M.c M.d M.s M.m M.l
  · by_cases hk : ∀ z ∈ zss, IsK M z
    · exact ⟨hm, hk⟩
    · rw [kCode_bad hm hk] at h; cases h
  · rw [kCode_no hm] at h; cases h
theorem kCode_two (M : Mk) (a b : List Int) : kCode M [a, b] = if kCode M [a] = 0 then kCode M [b] else kCode M [a] := by
  by_cases hm : MkOk M.c M.d M.s M.m M.l
  · by_cases ha : IsK M a
    · rw [if_pos (kCode_ok hm (by simpa using ha))]
      by_cases hb : IsK M b
      · rw [kCode_ok (zss := [b]) hm (by simpa using hb), kCode_ok hm (by simp [ha, hb])]
      · rw [kCode_bad (zss := [b]) hm (by simpa using hb), kCode_bad hm (by simp [hb])]
    · rw [kCode_bad (zss := [a]) hm (by simpa using ha), if_neg (by decide), kCode_bad hm (by simp [ha])]
  · rw [kCode_no hm, kCode_no hm, kCode_no hm]
    rfl
theorem RR.one1 {B : Nat} {w : World} {e : TypeId} {r v : Value} {zs : List Int} (o : Own B w e r [v]) (h : RI w v zs) : RR w r [zs] := ⟨[v], o.rd, Rows.nil_.snoc h⟩
theorem RR.two2 {B : Nat} {w : World} {e : TypeId} {r u v : Value} {xs zs : List Int} (o : Own B w e r [u, v]) (h : RI w u xs) (h' : RI w v zs) : RR w r [xs, zs] := ⟨[u, v], o.rd, (Rows.nil_.snoc h).snoc h'⟩
theorem rows_take_succ {zss : List (List Int)} {p : List Int → Prop} {k : Nat} (hk : k < zss.length) (h : ∀ z ∈ zss.take k, p z) (h1 : p zss[k]) : ∀ z ∈ zss.take (k + 1), p z := by
  intro z hz
  rw [take_snoc zss k hk, List.mem_append] at hz
  rcases hz with hz | hz
  · exact h z hz
  · simp at hz
    subst hz
    exact h1
/-! ### differences and distances -/
def diffTo (a b : List Int) : Nat → Int
  | 0 => 0
  | k + 1 => if a.getD k 0 ≠ b.getD k 0 then diffTo a b k + 1 else diffTo a b k
theorem diffTo_range (a b : List Int) : ∀ k : Nat, 0 ≤ diffTo a b k ∧ diffTo a b k ≤ k
  | 0 => by simp [diffTo]
  | k + 1 => by
    have := diffTo_range a b k
    unfold diffTo
    split <;> omega
def farTo (a b : List Int) : Nat → Int
  | 0 => 0
  | k + 1 => farTo a b k + max (a.getD k 0 - b.getD k 0) (-(a.getD k 0 - b.getD k 0))
theorem farTo_range {a b : List Int} (ha : ∀ z ∈ a, 0 ≤ z ∧ z ≤ 7) (hb : ∀ z ∈ b, 0 ≤ z ∧ z ≤ 7) : ∀ k : Nat, k ≤ a.length → k ≤ b.length → 0 ≤ farTo a b k ∧ farTo a b k ≤ 7 * k
  | 0, _, _ => by simp [farTo]
  | k + 1, h1, h2 => by
    have ih := farTo_range ha hb k (by omega) (by omega)
    have h3 := ha _ (List.getElem_mem (show k < a.length by omega))
    have h4 := hb _ (List.getElem_mem (show k < b.length by omega))
    unfold farTo
    rw [getD_get (show k < a.length by omega), getD_get (show k < b.length by omega)]
    omega
theorem IsK.small {M : Mk} {zs : List Int} (hm : M.Ok) (h : IsK M zs) : zs.length ≤ 6 ∧ 2 ≤ zs.length ∧ (zs.length : Int) = M.c ∧ ∀ z ∈ zs, 0 ≤ z ∧ z ≤ 7 := by
  have hc := hm.1
  have hd := hm.2.1
  have h1 := h.1
  refine ⟨by omega, by omega, h1, fun z hz => ?_⟩
  have := h.2.1 z hz
  omega
/-- two keys: a number, or the code -/
def twoR (M : Mk) (a b : List Int) (n : Int) : Value := if kCode M [a, b] = 0 then .tuple #[.int .i64 n, .int .i64 0] else .tuple #[.int .i64 0, .int .i64 (kCode M [a, b])]
theorem twoR_pair (M : Mk) (a b : List Int) (n : Int) : ∃ x y, twoR M a b n = .tuple #[.int .i64 x, .int .i64 y] := by unfold twoR; split <;> exact ⟨_, _, rfl⟩
theorem two_small {M : Mk} {a b : List Int} (h : kCode M [a, b] = 0) : a.length = b.length ∧ a.length ≤ 100 ∧ (∀ z ∈ a, 0 ≤ z ∧ z ≤ 7) ∧ ∀ z ∈ b, 0 ≤ z ∧ z ≤ 7 := by
  obtain ⟨hm, hk⟩ := kCode_zero h
  obtain ⟨a1, a2, a3, a4⟩ := (hk a (by simp)).small hm
  obtain ⟨b1, b2, b3, b4⟩ := (hk b (by simp)).small hm
  exact ⟨by omega, by omega, a4, b4⟩
/-! ### mirrored and reversed keys -/
def mirror (d : Int) (zs : List Int) : List Int := zs.map fun z => d - 1 - z
def mirrorR (M : Mk) (zs : List Int) : List Int := if kCode M [zs] = 0 then mirror M.d zs else []
def revR (M : Mk) (zs : List Int) : List Int := if kCode M [zs] = 0 then zs.reverse else []
theorem one_small {M : Mk} {a : List Int} (h : kCode M [a] = 0) : M.Ok ∧ IsK M a ∧ a.length ≤ 6 ∧ 2 ≤ a.length ∧ ∀ z ∈ a, 0 ≤ z ∧ z ≤ M.d - 1 := by
  obtain ⟨hm, hk⟩ := kCode_zero h
  have hk := hk a (by simp)
  obtain ⟨a1, a2, a3, a4⟩ := hk.small hm
  exact ⟨hm, hk, a1, a2, hk.2.1⟩
theorem mirrorR_len (M : Mk) (zs : List Int) : (mirrorR M zs).length ≤ 6 := by
  unfold mirrorR; split
  · rename_i h
    have := (one_small h).2.2.1
    simpa [mirror] using this
  · simp
theorem revR_len (M : Mk) (zs : List Int) : (revR M zs).length ≤ 6 := by
  unfold revR; split
  · rename_i h
    have := (one_small h).2.2.1
    simpa using this
  · simp
end Go.Proofs
end
section
set_option linter.unusedVariables false
namespace Go.Proofs
open Go.Sx Go.RowKit
/-! ### counts in plain Lean -/
def bump (xs : List Int) (k : Int) : List Int := xs.set k.toNat (xs.getD k.toNat 0 + 1)
theorem bump_length (xs : List Int) (k : Int) : (bump xs k).length = xs.length := by simp [bump]
def Bd (n : Int) (xs : List Int) : Prop := ∀ x ∈ xs, 0 ≤ x ∧ x ≤ n
theorem Bd.mono {n m : Int} {xs : List Int} (h : Bd n xs) (hm : n ≤ m) : Bd m xs := fun x hx => by have := h x hx; omega
theorem Bd.at {n : Int} {xs : List Int} (h : Bd n xs) (h0 : 0 ≤ n) (k : Nat) : 0 ≤ xs.getD k 0 ∧ xs.getD k 0 ≤ n := by
  rcases Nat.lt_or_ge k xs.length with hk | hk
  · rw [getD_get hk]
    exact h _ (List.getElem_mem hk)
  · rw [List.getD, List.getElem?_eq_none hk]
    exact ⟨Int.le_refl _, h0⟩
theorem Bd.bump {n : Int} {xs : List Int} (h : Bd n xs) (h0 : 0 ≤ n) (k : Int) : Bd (n + 1) (bump xs k) := by
  intro x hx
  rcases List.mem_or_eq_of_mem_set hx with hx | rfl
  · have := h x hx; omega
  · have := h.at h0 k.toNat; omega
def bumps (l xs : List Int) : List Int := xs.foldl bump l
theorem bumps_length (l xs : List Int) : (bumps l xs).length = l.length := by
  induction xs generalizing l with
  | nil => rfl
  | cons x xs ih => exact (ih _).trans (bump_length _ _)
theorem bumps_snoc (l xs : List Int) (x : Int) : bumps l (xs ++ [x]) = bump (bumps l xs) x := by simp [bumps]
structure Tri where
  b : List Int
  w : List Int
  d : List Int
def mid (st : List Int) : List Int := (st.take (st.length - 1)).drop 1
theorem mid_length (st : List Int) : (mid st).length = st.length - 2 := by simp [mid]; omega
theorem mid_get {st : List Int} {k : Nat} (hk : k < (mid st).length) : (mid st)[k] = st[k + 1]'(by rw [mid_length] at hk; omega) := by
  simp [mid]
def Tri.add (T : Tri) (st : List Int) : Tri := ⟨bump T.b (st.getD 0 0), bumps T.w (mid st), bump T.d (st.getD (st.length - 1) 0)⟩
def Tri.adds (T : Tri) (sts : List (List Int)) : Tri := sts.foldl Tri.add T
theorem Tri.adds_snoc (T : Tri) {sts : List (List Int)} {c : Nat} (hc : c < sts.length) : T.adds (sts.take (c + 1)) = (T.adds (sts.take c)).add sts[c] := by
  unfold Tri.adds
  rw [take_snoc sts c hc, List.foldl_append]
  rfl
def zeros (d : Int) : List Int := List.replicate d.toNat 0
theorem ints_zeros (d : Int) : ints (zeros d) = List.replicate d.toNat (Value.int .i64 0) := by simp [ints, zeros]
def tri0 (d : Int) : Tri := ⟨zeros d, zeros d, zeros d⟩
def noTri : Tri := ⟨[], [], []⟩
def stock (d : Int) (lss : List (List (List Int))) : Tri := lss.foldl (fun T z => T.adds (z.map (stack d))) (tri0 d)
theorem stock_snoc (d : Int) {lss : List (List (List Int))} {i : Nat} (hi : i < lss.length) : stock d (lss.take (i + 1)) = (stock d (lss.take i)).adds (lss[i].map (stack d)) := by
  unfold stock
  rw [take_snoc lss i hi, List.foldl_append]
  rfl
structure Tri.Ok (T : Tri) (n : Int) (D : Nat) : Prop where
  lb : T.b.length = D
  lw : T.w.length = D
  ld : T.d.length = D
  b : Bd n T.b
  w : Bd n T.w
  d : Bd n T.d
theorem Tri.Ok.mono {T : Tri} {n m : Int} {D : Nat} (h : T.Ok n D) (hm : n ≤ m) : T.Ok m D := ⟨h.lb, h.lw, h.ld, h.b.mono hm, h.w.mono hm, h.d.mono hm⟩
theorem tri0_ok (d : Int) : (tri0 d).Ok 0 d.toNat := by
  have hb : Bd 0 (zeros d) := fun x hx => by
    have := (List.mem_replicate.1 hx).2
    omega
  exact ⟨by simp [tri0, zeros], by simp [tri0, zeros], by simp [tri0, zeros], hb, hb, hb⟩
def stkCode (M : Mk) (lss : List (List (List Int))) : Int := if LksOk M.c M.d M.s M.m M.l lss then (if lss.length ≤ 40 then 0 else 3) else 1
def stkR (M : Mk) (lss : List (List (List Int))) : Tri := if LksOk M.c M.d M.s M.m M.l lss then (if lss.length ≤ 40 then stock M.d lss else noTri) else noTri
theorem stk_no {M : Mk} {lss : List (List (List Int))} (h : ¬ LksOk M.c M.d M.s M.m M.l lss) : stkR M lss = noTri ∧ stkCode M lss = 1 := by unfold stkR stkCode; rw [if_neg h, if_neg h]; exact ⟨rfl, rfl⟩
theorem stk_many {M : Mk} {lss : List (List (List Int))} (h : LksOk M.c M.d M.s M.m M.l lss) (h2 : ¬ lss.length ≤ 40) : stkR M lss = noTri ∧ stkCode M lss = 3 := by unfold stkR stkCode; rw [if_pos h, if_pos h, if_neg h2, if_neg h2]; exact ⟨rfl, rfl⟩
theorem stk_yes {M : Mk} {lss : List (List (List Int))} (h : LksOk M.c M.d M.s M.m M.l lss) (h2 : lss.length ≤ 40) : stkR M lss = stock M.d lss ∧ stkCode M lss = 0 := by unfold stkR stkCode; rw [if_pos h, if_pos h, if_pos h2, if_pos h2]; exact ⟨rfl, rfl⟩
theorem stack_in {d : Int} {z : List Int} (hz : z ≠ []) (hr : Rises d z z.length) : ∀ x ∈ stack d z, 0 ≤ x ∧ x ≤ d - 1 := by
  intro x hx
  unfold stack at hx
  have hn := List.length_pos_iff.2 hz
  rcases List.mem_append.1 hx with hx | hx
  · obtain ⟨k, hk, rfl⟩ := List.getElem_of_mem hx
    rw [steps_get]
    have hk' : k < z.length := by rw [steps_length] at hk; exact hk
    have a := hr k hk'
    split
    · rename_i h0; subst h0
      have := a.1; have := a.2.1
      omega
    · have b := hr (k - 1) (by omega)
      have := a.1; have := a.2.1; have := a.2.2 (by omega); have := b.1; have := b.2.1
      omega
  · simp only [List.mem_singleton] at hx
    have a := hr (z.length - 1) (by omega)
    have := a.1; have := a.2.1
    omega
/-- what the pins of a lock are -/
theorem pins_in {M : Mk} (hm : MkOk M.c M.d M.s M.m M.l) {zss : List (List Int)} (h : LkAll M.c M.d zss) {st : List Int} (hst : st ∈ zss.map (stack M.d)) : 2 ≤ st.length ∧ st.length ≤ 9 ∧ ∀ x ∈ st, 0 ≤ x ∧ x ≤ M.d - 1 := by
  obtain ⟨z, hz, rfl⟩ := List.mem_map.1 hst
  obtain ⟨hne, hr⟩ := h.2 z hz
  have hd := hm.2.1
  have hl := rises_len hr (by omega)
  have hn := List.length_pos_iff.2 hne
  rw [stack_length]
  exact ⟨by omega, by omega, stack_in hne hr⟩
/-! ### in memory -/
section
variable {B N : Nat} {w w' W W' : World} {v : Value}
theorem VwR.pres {zss : List (List Int)} (h : VwR B w v zss) {K : Nat → Prop} (p : Pres K w w') (hK : ∀ k, B ≤ k → K k) : VwR B w' v zss :=
  let ⟨us, h1, h2⟩ := h
  ⟨us, h1.keep fun g cs hB hg => (p.block g (heap_lt hg) (hK g hB)).trans hg, h2.map fun u z hr => hr.keep fun g cs hB hg => (p.block g (heap_lt hg) (hK g hB)).trans hg⟩
theorem VwR.getV {zss : List (List Int)} (h : VwR B w v zss) {i : Int} (k : Nat) (hi : i = k) (hk : k < zss.length) {R : Value → Prop} (hR : ∀ u, Vw B w 2 u (ints zss[k]) → R u) : IxV 1 v i (fun ad => ∃ u : Value, LdV w (.pointer (some ad)) u ∧ R u) := by
  obtain ⟨us, h1, h2⟩ := h
  exact h1.rd.ix k hi (by rw [h2.1]; exact hk) fun ad had => ⟨_, had, hR _ (h2.get hk)⟩
theorem _root_.Go.Sx.Vw.ri {zs : List Int} (h : Vw B w 2 v (ints zs)) : RI w v zs := h.rd
theorem _root_.Go.Sx.OwnI.inc {xs : List Int} (h : OwnI B N w 2 v (ints xs)) {n : Int} (h0 : 0 ≤ n) (h1 : n < (xs.length : Int)) (hb : I64 (xs.getD n.toNat 0 + 1)) {n0 : Nat} {Ts : List TypeId} (hT : 2 ∉ Ts) {K : World → Prop}
    (hK : ∀ W', OwnI B N W' 2 v (ints (bump xs n)) → w.grownBy W' v.ownBlock → K W') :
    IxV 1 v n (fun ad => ∃ m : Int, LdV w (.pointer (some ad)) (.int .i64 m) ∧ I64 (m + 1) ∧ IxV 1 v n (fun ad' => StV n0 Ts w (.pointer (some ad')) (.int .i64 (m + 1)) K)) := by
  have hk : n.toNat < xs.length := by omega
  have hr : RI w v xs := h.1.rd
  rw [getD_get hk] at hb
  refine hr.get n.toNat (by omega) hk ⟨hb, h.1.setAt n.toNat (by omega) (by simpa using hk) rfl hT fun W' o g => hK W' ⟨?_, h.2⟩ g⟩
  have e : ints (bump xs n) = (ints xs).set n.toNat (.int .i64 (xs[n.toNat] + 1)) := by
    unfold bump ints
    rw [List.map_set, getD_get hk]
  rw [e]
  exact o
/-- three rows of counts -/
structure TriR (B N : Nat) (W : World) (vb vw vd : Value) (T : Tri) : Prop where
  b : OwnI B N W 2 vb (ints T.b)
  w : OwnI B N W 2 vw (ints T.w)
  d : OwnI B N W 2 vd (ints T.d)
  bw : Apart vb vw
  bd : Apart vb vd
  wd : Apart vw vd
variable {vb vw vd : Value} {T : Tri}
theorem TriR.ext (h : TriR B N W vb vw vd T) (e : Ext W W') : TriR B N W' vb vw vd T := ⟨h.b.ext e, h.w.ext e, h.d.ext e, h.bw, h.bd, h.wd⟩
theorem TriR.bxs (h : TriR B N W vb vw vd T) {n0 : Nat} {Q : TypeId} (e : BxS n0 Q W W') (hT : 2 ≠ Q) : TriR B N W' vb vw vd T := ⟨h.b.bxs e hT, h.w.bxs e hT, h.d.bxs e hT, h.bw, h.bd, h.wd⟩
theorem _root_.Go.Sx.OwnI.out {xs : List Value} (h : OwnI B N W 2 v xs) (g : W.grownBy W' v.ownBlock) : Pres (fun k => N ≤ k ∨ k < B) W W' :=
  grown_pres g fun b hb hK => by have := (h.1.lt hb).1; have := h.2 b hb; omega
theorem TriR.incB (h : TriR B N W vb vw vd T) {m : Int} {D : Nat} (hok : T.Ok m D) (hm : 0 ≤ m) (hm2 : m ≤ 1000000) {n : Int} (h0 : 0 ≤ n) (h1 : n < D) {n0 : Nat} {Ts : List TypeId} (hT : 2 ∉ Ts) {K : World → Prop}
    (hK : ∀ W', TriR B N W' vb vw vd ⟨bump T.b n, T.w, T.d⟩ → Pres (fun k => N ≤ k ∨ k < B) W W' → K W') :
    IxV 1 vb n (fun ad => ∃ x : Int, LdV W (.pointer (some ad)) (.int .i64 x) ∧ I64 (x + 1) ∧ IxV 1 vb n (fun ad' => StV n0 Ts W (.pointer (some ad')) (.int .i64 (x + 1)) K)) :=
  h.b.inc h0 (by have := hok.lb; omega) (by have := hok.b.at hm n.toNat; unfold I64; omega) hT fun W' o g => hK W' ⟨o, ⟨h.w.1.grown g h.bw.symm, h.w.2⟩, ⟨h.d.1.grown g h.bd.symm, h.d.2⟩, h.bw, h.bd, h.wd⟩ (h.b.out g)
theorem TriR.incW (h : TriR B N W vb vw vd T) {m : Int} {D : Nat} (hok : T.Ok m D) (hm : 0 ≤ m) (hm2 : m ≤ 1000000) {n : Int} (h0 : 0 ≤ n) (h1 : n < D) {n0 : Nat} {Ts : List TypeId} (hT : 2 ∉ Ts) {K : World → Prop}
    (hK : ∀ W', TriR B N W' vb vw vd ⟨T.b, bump T.w n, T.d⟩ → Pres (fun k => N ≤ k ∨ k < B) W W' → K W') :
    IxV 1 vw n (fun ad => ∃ x : Int, LdV W (.pointer (some ad)) (.int .i64 x) ∧ I64 (x + 1) ∧ IxV 1 vw n (fun ad' => StV n0 Ts W (.pointer (some ad')) (.int .i64 (x + 1)) K)) :=
  h.w.inc h0 (by have := hok.lw; omega) (by have := hok.w.at hm n.toNat; unfold I64; omega) hT fun W' o g => hK W' ⟨⟨h.b.1.grown g h.bw, h.b.2⟩, o, ⟨h.d.1.grown g h.wd.symm, h.d.2⟩, h.bw, h.bd, h.wd⟩ (h.w.out g)
theorem TriR.incD (h : TriR B N W vb vw vd T) {m : Int} {D : Nat} (hok : T.Ok m D) (hm : 0 ≤ m) (hm2 : m ≤ 1000000) {n : Int} (h0 : 0 ≤ n) (h1 : n < D) {n0 : Nat} {Ts : List TypeId} (hT : 2 ∉ Ts) {K : World → Prop}
    (hK : ∀ W', TriR B N W' vb vw vd ⟨T.b, T.w, bump T.d n⟩ → Pres (fun k => N ≤ k ∨ k < B) W W' → K W') :
    IxV 1 vd n (fun ad => ∃ x : Int, LdV W (.pointer (some ad)) (.int .i64 x) ∧ I64 (x + 1) ∧ IxV 1 vd n (fun ad' => StV n0 Ts W (.pointer (some ad')) (.int .i64 (x + 1)) K)) :=
  h.d.inc h0 (by have := hok.ld; omega) (by have := hok.d.at hm n.toNat; unfold I64; omega) hT fun W' o g => hK W' ⟨⟨h.b.1.grown g h.bd, h.b.2⟩, ⟨h.w.1.grown g h.wd, h.w.2⟩, o, h.bw, h.bd, h.wd⟩ (h.d.out g)
end
theorem Tri.Ok.bumpB {T : Tri} {n : Int} {D : Nat} (h : T.Ok n D) (hn : 0 ≤ n) (k : Int) : Tri.Ok ⟨Go.Proofs.bump T.b k, T.w, T.d⟩ (n + 1) D := ⟨(bump_length _ _).trans h.lb, h.lw, h.ld, h.b.bump hn k, h.w.mono (by omega), h.d.mono (by omega)⟩
theorem Tri.Ok.bumpW {T : Tri} {n : Int} {D : Nat} (h : T.Ok n D) (hn : 0 ≤ n) (k : Int) : Tri.Ok ⟨T.b, Go.Proofs.bump T.w k, T.d⟩ (n + 1) D := ⟨h.lb, (bump_length _ _).trans h.lw, h.ld, h.b.mono (by omega), h.w.bump hn k, h.d.mono (by omega)⟩
theorem Tri.Ok.bumpD {T : Tri} {n : Int} {D : Nat} (h : T.Ok n D) (hn : 0 ≤ n) (k : Int) : Tri.Ok ⟨T.b, T.w, Go.Proofs.bump T.d k⟩ (n + 1) D := ⟨h.lb, h.lw, (bump_length _ _).trans h.ld, h.b.mono (by omega), h.w.mono (by omega), h.d.bump hn k⟩
/-- a call hands back three rows of its own and a code -/
def StR (f : FuncId) (args : Array Value) (w : World) (T : Tri) (code : Int) : Prop :=
  Ret Tryz.prog f args w fun r w' => ∃ a b d N, r = .tuple #[a, b, d, .int .i64 code] ∧ TriR w.heap.size N w' a b d T ∧ N ≤ w'.heap.size ∧ Ext w w'
theorem TriR.none_ (B N : Nat) (w : World) : TriR B N w (.slice none 0 0) (.slice none 0 0) (.slice none 0 0) noTri :=
  ⟨⟨Own.nil_ _ _ _, fun g hg => by simp [Value.ownBlock] at hg⟩, ⟨Own.nil_ _ _ _, fun g hg => by simp [Value.ownBlock] at hg⟩, ⟨Own.nil_ _ _ _, fun g hg => by simp [Value.ownBlock] at hg⟩, .inl rfl, .inl rfl, .inl rfl⟩
/-- three rows made one behind the other -/
theorem TriR.make {w w1 w2 w3 w4 : World} {d : Int} {vb vw vd : Value} (e1 : Ext w w1) (hb : Own w1.heap.size w2 2 vb (List.replicate d.toNat (Value.int .i64 0))) (hw : Own w2.heap.size w3 2 vw (List.replicate d.toNat (Value.int .i64 0))) (hd : Own w3.heap.size w4 2 vd (List.replicate d.toNat (Value.int .i64 0)))
    (e2 : Ext w1 w2) (e3 : Ext w2 w3) (e4 : Ext w3 w4) : TriR w.heap.size w4.heap.size w4 vb vw vd (tri0 d) ∧ TriR w.heap.size w4.heap.size w4 vb vd vw (tri0 d) ∧ TriR w.heap.size w4.heap.size w4 vw vb vd (tri0 d) ∧ TriR w.heap.size w4.heap.size w4 vw vd vb (tri0 d) ∧ TriR w.heap.size w4.heap.size w4 vd vb vw (tri0 d) ∧ TriR w.heap.size w4.heap.size w4 vd vw vb (tri0 d) := by
  have a1 : Apart vb vw := Apart.new hb hw
  have a2 : Apart vw vd := Apart.new hw hd
  have a3 : Apart vb vd := Apart.new (hb.ext e3) hd
  have o1 : OwnI w.heap.size w4.heap.size w4 2 vb (ints (zeros d)) := by rw [ints_zeros]; exact (((hb.ext e3).ext e4).mono e1.size).i
  have o2 : OwnI w.heap.size w4.heap.size w4 2 vw (ints (zeros d)) := by rw [ints_zeros]; exact ((hw.ext e4).mono (e1.trans e2).size).i
  have o3 : OwnI w.heap.size w4.heap.size w4 2 vd (ints (zeros d)) := by rw [ints_zeros]; exact (hd.mono ((e1.trans e2).trans e3).size).i
  exact ⟨⟨o1, o2, o3, a1, a3, a2⟩, ⟨o1, o3, o2, a3, a1, a2.symm⟩, ⟨o2, o1, o3, a1.symm, a2, a3⟩, ⟨o2, o3, o1, a2, a1.symm, a3.symm⟩, ⟨o3, o1, o2, a3.symm, a2.symm, a1⟩, ⟨o3, o2, o1, a2.symm, a3.symm, a1.symm⟩⟩
end Go.Proofs
end
section
set_option linter.unusedVariables false
namespace Go.Proofs
open Go.Sx Go.RowKit Go.Tx

/-- one stack -/
def stT (z : List Int) : List UInt8 := Lib.join (z.map Lib.itoa) [43]
/-- stacks with blanks between them -/
def pinsT (zss : List (List Int)) : List UInt8 := Lib.join (zss.map stT) [32]
theorem join_take' {α : Type} (f : α → List UInt8) (zs : List α) (sep : List UInt8) {k : Nat} (hk : k < zs.length) :
    Lib.join ((zs.take (k + 1)).map f) sep = (if 0 < k then Lib.join ((zs.take k).map f) sep ++ sep else []) ++ f zs[k] := by
  rw [List.take_add_one, List.getElem?_eq_getElem hk, Option.toList_some, List.map_append, List.map_cons, List.map_nil]
  split
  · rename_i h
    rw [join_snoc]
    intro h0
    have := congrArg List.length h0
    rw [List.length_map, List.length_take, List.length_nil] at this
    omega
  · obtain rfl : k = 0 := by omega
    rw [List.take_zero, List.map_nil, List.nil_append, Lib.join_one, List.nil_append]
/-- stacks that are small -/
def StOk (zss : List (List Int)) : Prop := zss.length ≤ 100 ∧ ∀ z ∈ zss, z.length ≤ 1000 ∧ ∀ x ∈ z, 0 ≤ x ∧ x ≤ 8
theorem st_len {z : List Int} (hl : z.length ≤ 1000) (hz : ∀ x ∈ z, 0 ≤ x ∧ x ≤ 8) (k : Nat) : (Lib.join ((z.take k).map Lib.itoa) [43]).length ≤ 14000 := by
  have h1 := join_length (ws := (z.take k).map Lib.itoa) (sep := [43]) (k := 13) (by
    intro x hx
    obtain ⟨y, hy, rfl⟩ := List.mem_map.1 hx
    have := hz y (List.mem_of_mem_take hy)
    exact itoa13 (by simp only [Mx]; omega))
  have h3 : ((z.take k).map Lib.itoa).length ≤ 1000 := by simp; omega
  refine Nat.le_trans h1 (Nat.le_trans (Nat.mul_le_mul h3 (Nat.le_refl _)) (by decide))
theorem stT_len {z : List Int} (hl : z.length ≤ 1000) (hz : ∀ x ∈ z, 0 ≤ x ∧ x ≤ 8) : (stT z).length ≤ 14000 := by
  have := st_len hl hz z.length
  rw [List.take_length] at this
  exact this
theorem pins_len {zss : List (List Int)} (h : StOk zss) (k : Nat) : (Lib.join ((zss.take k).map stT) [32]).length ≤ 1400100 := by
  have h1 := join_length (ws := (zss.take k).map stT) (sep := [32]) (k := 14000) (by
    intro x hx
    obtain ⟨y, hy, rfl⟩ := List.mem_map.1 hx
    have := h.2 y (List.mem_of_mem_take hy)
    exact stT_len this.1 this.2)
  have h2 := h.1
  have h3 : ((zss.take k).map stT).length ≤ 100 := by simp; omega
  refine Nat.le_trans h1 (Nat.le_trans (Nat.mul_le_mul h3 (Nat.le_refl _)) (by decide))
def spec_l05Text_A (v : Value) (w : World) : Nat → Ann := fun κ => match κ with
  | 0 => { σ := Nat × List UInt8, sli := [4, 3], slc := fun s => [SV.v (Value.int .i64 (s.1 : Int)), SV.v (Value.string (⟨s.2.toArray⟩ : ByteArray))], bxi := [], bxc := fun s => [], inv := fun s W => True, μ := fun s W => 0, free := true }
  | 1 => { σ := Nat × List UInt8, sli := [5, 3], slc := fun s => [SV.v (Value.int .i64 (s.1 : Int)), SV.v (Value.string (⟨s.2.toArray⟩ : ByteArray))], bxi := [], bxc := fun s => [], inv := fun s W => True, μ := fun s W => 0, free := true }
  | _ => { σ := Unit, sli := [], slc := fun _ => [], bxi := [], bxc := fun _ => [], inv := fun _ _ => False, μ := fun _ _ => 0 }
abbrev spec_l05Text_k0 (s23 : Nat × List UInt8) (w24 : World) (J25 : (Nat × List UInt8) → World → Prop) (m26 : (Nat × List UInt8) → World → Nat) (x58 : ByteArray) (x59 : Int) (w79 : World) : Prop :=
  I64 (x59 + 1) ∧ ∃ s80 : (Nat × List UInt8), (Value.int .i64 (x59 + 1)) = (Value.int .i64 (s80.1 : Int)) ∧ (Value.string x58) = (Value.string (⟨s80.2.toArray⟩ : ByteArray)) ∧ (J25 s80 w79) ∧ (m26 s80 w79) < (m26 s23 w24)
abbrev spec_l05Text_k1 (v : Value) (w : World) (x14 : Int) (s23 : Nat × List UInt8) (w24 : World) (J25 : (Nat × List UInt8) → World → Prop) (m26 : (Nat × List UInt8) → World → Nat) (x39 : ByteArray) (x40 : Int) (w50 : World) : Prop :=
  IxV 1 v x14 (fun ad51 => ∃ u52 : Value, LdV w50 (Value.pointer (some ad51)) u52 ∧ IxV 1 u52 x40 (fun ad53 => ∃ n54 : Int, LdV w50 (Value.pointer (some ad53)) (Value.int .i64 n54) ∧ Calls Tryz.prog 64 #[(Value.int .i64 n54)] w50 (fun e55 w56 => ∃ s57 : ByteArray, e55 = .returned (Value.string s57) ∧ Keeps w.heap.size [] w50 w56 ∧ I64 ((x39.size + s57.size : Nat) : Int) ∧ (spec_l05Text_k0 s23 w24 J25 m26 (x39 ++ s57) x40 w56))))
abbrev spec_l05Text_k2 (v : Value) (w : World) (x14 : Int) (s23 : Nat × List UInt8) (w24 : World) (J25 : (Nat × List UInt8) → World → Prop) (m26 : (Nat × List UInt8) → World → Nat) (x30 : ByteArray) (x31 : Int) (w38 : World) : Prop :=
  ((((0 : Int) < x31) → I64 ((x30.size + (⟨#[43]⟩ : ByteArray).size : Nat) : Int) ∧ (spec_l05Text_k1 v w x14 s23 w24 J25 m26 (x30 ++ (⟨#[43]⟩ : ByteArray)) x31 w38)) ∧ (¬ ((0 : Int) < x31) → (spec_l05Text_k1 v w x14 s23 w24 J25 m26 x30 x31 w38)))
abbrev spec_l05Text_k3 (s2 : Nat × List UInt8) (w3 : World) (J4 : (Nat × List UInt8) → World → Prop) (m5 : (Nat × List UInt8) → World → Nat) (x81 : ByteArray) (x82 : Int) (w96 : World) : Prop :=
  I64 (x82 + 1) ∧ ∃ s97 : (Nat × List UInt8), (Value.int .i64 (x82 + 1)) = (Value.int .i64 (s97.1 : Int)) ∧ (Value.string x81) = (Value.string (⟨s97.2.toArray⟩ : ByteArray)) ∧ (J4 s97 w96) ∧ (m5 s97 w96) < (m5 s2 w3)
abbrev spec_l05Text_k4 (v : Value) (w : World) (s2 : Nat × List UInt8) (w3 : World) (J4 : (Nat × List UInt8) → World → Prop) (m5 : (Nat × List UInt8) → World → Nat) (x13 : ByteArray) (x14 : Int) (w21 : World) : Prop :=
  (∃ (J25 : (Nat × List UInt8) → World → Prop) (m26 : (Nat × List UInt8) → World → Nat), ((∃ s22 : (Nat × List UInt8), (Value.int .i64 0) = (Value.int .i64 (s22.1 : Int)) ∧ (Value.string x13) = (Value.string (⟨s22.2.toArray⟩ : ByteArray)) ∧ (J25 s22 w21)) ∧ ∀ (s23 : (Nat × List UInt8)) (w24 : World), (J25 s23 w24) → IxV 1 v x14 (fun ad27 => ∃ u28 : Value, LdV w24 (Value.pointer (some ad27)) u28 ∧ LenV u28 (fun n29 => ((((s23.1 : Int) < n29) → (spec_l05Text_k2 v w x14 s23 w24 J25 m26 (⟨s23.2.toArray⟩ : ByteArray) (s23.1 : Int) w24)) ∧ (¬ ((s23.1 : Int) < n29) → (spec_l05Text_k3 s2 w3 J4 m5 (⟨s23.2.toArray⟩ : ByteArray) x14 w24)))))))
abbrev spec_l05Text_k5 (v : Value) (w : World) (s2 : Nat × List UInt8) (w3 : World) (J4 : (Nat × List UInt8) → World → Prop) (m5 : (Nat × List UInt8) → World → Nat) (x7 : ByteArray) (x8 : Int) (w12 : World) : Prop :=
  ((((0 : Int) < x8) → I64 ((x7.size + (⟨#[32]⟩ : ByteArray).size : Nat) : Int) ∧ (spec_l05Text_k4 v w s2 w3 J4 m5 (x7 ++ (⟨#[32]⟩ : ByteArray)) x8 w12)) ∧ (¬ ((0 : Int) < x8) → (spec_l05Text_k4 v w s2 w3 J4 m5 x7 x8 w12)))
def spec_l05Text_vc (v : Value) (w : World) (Post : Value → World → Prop) : Prop :=
  (∃ (J4 : (Nat × List UInt8) → World → Prop) (m5 : (Nat × List UInt8) → World → Nat), ((∃ s1 : (Nat × List UInt8), (Value.int .i64 0) = (Value.int .i64 (s1.1 : Int)) ∧ (Value.string (⟨#[]⟩ : ByteArray)) = (Value.string (⟨s1.2.toArray⟩ : ByteArray)) ∧ (J4 s1 w)) ∧ ∀ (s2 : (Nat × List UInt8)) (w3 : World), (J4 s2 w3) → LenV v (fun n6 => ((((s2.1 : Int) < n6) → (spec_l05Text_k5 v w s2 w3 J4 m5 (⟨s2.2.toArray⟩ : ByteArray) (s2.1 : Int) w3)) ∧ (¬ ((s2.1 : Int) < n6) → Post (Value.string (⟨s2.2.toArray⟩ : ByteArray)) w3)))))
theorem spec_l05Text_eq (v : Value) (w : World) (Post : Value → World → Prop) : denF Tryz.prog [] (spec_l05Text_A v w) 51 [v] w Post = spec_l05Text_vc v w Post := by kernel_rfl
set_option maxRecDepth 100000 in
theorem spec_l05Text_calls (v : Value) (w : World) (Post : Value → World → Prop) (hvc : spec_l05Text_vc v w Post) : Ret Tryz.prog 51 #[v] w Post :=
  Ret.of (denF_sound mixed (Eq.mpr (spec_l05Text_eq v w Post) hvc))

theorem spec_l05Text_val (v : Value) (zss : List (List Int)) (w : World) (hv : RR w v zss) (hz : StOk zss) : Val Tryz.prog 51 #[v] w (txt (pinsT zss)) :=
  Ret.val (spec_l05Text_calls v w _ (by
    unfold spec_l05Text_vc
    refine ⟨fun s W => s.1 ≤ zss.length ∧ s.2 = Lib.join ((zss.take s.1).map stT) [32] ∧ Ext w W, fun s _ => zss.length - s.1, ⟨(0, []), rfl, rfl, Nat.zero_le _, rfl, .refl w⟩, ?_⟩
    rintro ⟨k, t⟩ w2 ⟨hk, ht, h2⟩
    simp only at hk ht
    subst ht
    have hlen := pins_len hz k
    have hzl := hz.1
    refine (hv.ext h2).len ⟨fun hlt => ?_, fun hge => ?_⟩
    · simp only at hlt
      have hk' : k < zss.length := by omega
      obtain ⟨hl1, hx1⟩ := hz.2 _ (List.getElem_mem hk')
      have tail : ∀ (t : List UInt8), t = (if 0 < k then Lib.join ((zss.take k).map stT) [32] ++ [32] else []) →
          spec_l05Text_k4 v w (k, Lib.join ((zss.take k).map stT) [32]) w2 (fun s W => s.1 ≤ zss.length ∧ s.2 = Lib.join ((zss.take s.1).map stT) [32] ∧ Ext w W) (fun s _ => zss.length - s.1) ⟨t.toArray⟩ (k : Int) w2 := by
        intro t ht
        have htl : t.length ≤ 1400101 := by
          rw [ht]
          split
          · rw [List.length_append, show ([32] : List UInt8).length = 1 from rfl]; omega
          · exact Nat.zero_le _
        unfold spec_l05Text_k4
        refine ⟨fun s W => s.1 ≤ zss[k].length ∧ s.2 = t ++ Lib.join ((zss[k].take s.1).map Lib.itoa) [43] ∧ Ext w W, fun s _ => zss[k].length - s.1, ⟨(0, t), rfl, rfl, Nat.zero_le _, by simp [Lib.join_nil], h2⟩, ?_⟩
        rintro ⟨j, u⟩ w3 ⟨hj, hu, h3⟩
        simp only at hj hu
        subst hu
        have hlj := st_len hl1 hx1 j
        refine (hv.ext h3).get k rfl hk' fun x hx => hx.len ⟨fun hlt => ?_, fun hge => ?_⟩
        · simp only at hlt
          have hj' : j < zss[k].length := by omega
          have hzj := hx1 _ (List.getElem_mem hj')
          have hlz := itoa13 (n := zss[k][j]) (by simp only [Mx]; omega)
          have inner : ∀ (q : List UInt8), q = t ++ (if 0 < j then Lib.join ((zss[k].take j).map Lib.itoa) [43] ++ [43] else []) →
              spec_l05Text_k1 v w (k : Int) (j, t ++ Lib.join ((zss[k].take j).map Lib.itoa) [43]) w3 (fun s W => s.1 ≤ zss[k].length ∧ s.2 = t ++ Lib.join ((zss[k].take s.1).map Lib.itoa) [43] ∧ Ext w W) (fun s _ => zss[k].length - s.1) ⟨q.toArray⟩ (j : Int) w3 := by
            intro q hq
            have hql : q.length ≤ 1500000 := by
              rw [hq, List.length_append]
              split
              · rw [List.length_append, show ([43] : List UInt8).length = 1 from rfl]; omega
              · simp; omega
            unfold spec_l05Text_k1
            refine (hv.ext h3).get k rfl hk' fun x hx => hx.get j rfl hj' ?_
            have := spec_l01Dec_val (zss[k][j].toNat + 1) zss[k][j] w3 (by omega) hzj.1 (by omega)
            rw [← itoa_pos hzj.1] at this
            refine this.call fun w4 h4 => ⟨_, rfl, h4.keeps, ?_, ?_⟩
            · simp only [I64, ByteArray.size, List.size_toArray]
              omega
            · rw [ByteArray.mk_append_mk]
              refine ⟨by unfold I64; omega, (j + 1, q ++ Lib.itoa zss[k][j]), rfl, rfl, ⟨hj', ?_, h3.trans h4⟩, by simp only; omega⟩
              simp only
              rw [join_take' _ _ _ hj', hq, List.append_assoc]
          refine ⟨fun hpos => ⟨?_, ?_⟩, fun hno => ?_⟩
          · simp only [I64, ByteArray.size, List.size_toArray, List.length_append]
            have : ([(43 : UInt8)]).length = 1 := rfl
            omega
          · have e : (⟨(t ++ Lib.join ((zss[k].take j).map Lib.itoa) [43]).toArray⟩ ++ ⟨#[43]⟩ : ByteArray) = ⟨(t ++ Lib.join ((zss[k].take j).map Lib.itoa) [43] ++ [43]).toArray⟩ := ByteArray.mk_append_mk _ [43]
            simp only at hpos ⊢
            rw [e]
            exact inner _ (by rw [if_pos (by omega), List.append_assoc])
          · simp only at hno
            refine inner _ ?_
            rw [if_neg (by omega)]
            obtain rfl : j = 0 := by omega
            rfl
        · simp only at hge
          obtain rfl : j = zss[k].length := by omega
          unfold spec_l05Text_k3
          rw [List.take_length]
          refine ⟨by unfold I64; omega, (k + 1, t ++ stT zss[k]), rfl, rfl, ⟨hk', ?_, h3⟩, by simp only; omega⟩
          simp only
          rw [join_take' _ _ _ hk', ht]
      refine ⟨fun hpos => ⟨?_, ?_⟩, fun hno => ?_⟩
      · simp only [I64, ByteArray.size, List.size_toArray]
        have : ([(32 : UInt8)]).length = 1 := rfl
        omega
      · have e : (⟨(Lib.join ((zss.take k).map stT) [32]).toArray⟩ ++ ⟨#[32]⟩ : ByteArray) = ⟨(Lib.join ((zss.take k).map stT) [32] ++ [32]).toArray⟩ := ByteArray.mk_append_mk _ [32]
        simp only at hpos ⊢
        rw [e]
        exact tail _ (by rw [if_pos (by omega)])
      · simp only at hno
        refine tail _ ?_
        rw [if_neg (by omega)]
        obtain rfl : k = 0 := by omega
        rfl
    · simp only at hge
      obtain rfl : k = zss.length := by omega
      rw [List.take_length]
      exact ⟨rfl, h2⟩))
theorem stacks_ok {c d s m l : Int} {zss : List (List Int)} (h : LkOk c d s m l zss) : StOk (zss.map (stack d)) := by
  have hd := h.1.2.1
  obtain ⟨h1, h2, h3⟩ := lk_small h
  refine ⟨by rw [List.length_map]; omega, fun z hz => ?_⟩
  obtain ⟨x, hx, rfl⟩ := List.mem_map.1 hz
  obtain ⟨hne, hr⟩ := h.2.2 x hx
  have := h3 x hx
  refine ⟨by rw [stack_length]; omega, fun y hy => ?_⟩
  have := stack_in hne hr y hy
  omega
/-- the text of a lock's pins -/
def pinsTx (c d s m l : Int) (zss : List (List Int)) : List UInt8 := if LkOk c d s m l zss then pinsT (zss.map (stack d)) else []
def pinsV (c d s m l : Int) (zss : List (List Int)) : Value := pairT (pinsTx c d s m l zss) (lkCode c d s m l zss)
theorem pinsV_no {c d s m l : Int} {zss : List (List Int)} (h : ¬ LkOk c d s m l zss) : pinsV c d s m l zss = pairT [] 1 := by unfold pinsV pinsTx lkCode; rw [if_neg h, if_neg h]
theorem pinsV_yes {c d s m l : Int} {zss : List (List Int)} (h : LkOk c d s m l zss) : pinsV c d s m l zss = pairT (pinsT (zss.map (stack d))) 0 := by unfold pinsV pinsTx lkCode; rw [if_pos h, if_pos h]
abbrev spec_PinsText_k0 (w : World) (Post : Value → World → Prop) (x22 : Int) (x23 : Int) (x24 : Int) (x25 : Int) (x26 : Int) (x27 : Value) (w28 : World) : Prop :=
  Calls Tryz.prog 23 #[(Value.agg #[(Value.int .i64 x22), (Value.int .i64 x23), (Value.int .i64 x24), (Value.int .i64 x25), (Value.int .i64 x26)]), (Value.agg #[x27])] w28 (fun e29 w30 => ∃ u31 : Value, e29 = .returned u31 ∧ Keeps w.heap.size [25, 28] w28 w30 ∧ Calls Tryz.prog 51 #[u31] w30 (fun e32 w33 => ∃ s34 : ByteArray, e32 = .returned (Value.string s34) ∧ Keeps w.heap.size [25, 28] w30 w33 ∧ Post (Value.tuple #[(Value.string s34), (Value.int .i64 0)]) w33))
def spec_PinsText_vc (m_Chambers : Int) (m_Depths : Int) (m_Step : Int) (m_Same : Int) (m_Least : Int) (l_Sets : Value) (w : World) (Post : Value → World → Prop) : Prop :=
  ∀ w1 : World, Ext w w1 → oneC l_Sets (∀ w2 : World, Ext w1 w2 → Calls Tryz.prog 22 #[(Value.agg #[(Value.int .i64 m_Chambers), (Value.int .i64 m_Depths), (Value.int .i64 m_Step), (Value.int .i64 m_Same), (Value.int .i64 m_Least)]), (Value.agg #[l_Sets])] w2 (fun e3 w4 => ∃ b5 : Bool, e3 = .returned (Value.bool b5) ∧ Keeps w.heap.size [25, 28] w2 w4 ∧ (((!b5) = true → Post (Value.tuple #[(Value.string (⟨#[]⟩ : ByteArray)), (Value.int .i64 1)]) w4) ∧ ((!b5) = false → (spec_PinsText_k0 w Post m_Chambers m_Depths m_Step m_Same m_Least l_Sets w4)))))
theorem spec_PinsText_eq (m_Chambers : Int) (m_Depths : Int) (m_Step : Int) (m_Same : Int) (m_Least : Int) (l_Sets : Value) (w : World) (Post : Value → World → Prop) : denF Tryz.prog [] noAnn 32 [(Value.agg #[(Value.int .i64 m_Chambers), (Value.int .i64 m_Depths), (Value.int .i64 m_Step), (Value.int .i64 m_Same), (Value.int .i64 m_Least)]), (Value.agg #[l_Sets])] w Post = spec_PinsText_vc m_Chambers m_Depths m_Step m_Same m_Least l_Sets w Post := by kernel_rfl
set_option maxRecDepth 100000 in
theorem spec_PinsText_calls (m_Chambers : Int) (m_Depths : Int) (m_Step : Int) (m_Same : Int) (m_Least : Int) (l_Sets : Value) (w : World) (Post : Value → World → Prop) (hvc : spec_PinsText_vc m_Chambers m_Depths m_Step m_Same m_Least l_Sets w Post) : Ret Tryz.prog 32 #[(Value.agg #[(Value.int .i64 m_Chambers), (Value.int .i64 m_Depths), (Value.int .i64 m_Step), (Value.int .i64 m_Same), (Value.int .i64 m_Least)]), (Value.agg #[l_Sets])] w Post :=
  Ret.of (denF_sound mixed (Eq.mpr (spec_PinsText_eq m_Chambers m_Depths m_Step m_Same m_Least l_Sets w Post) hvc))

theorem spec_PinsText_val (c d s m l : Int) (v : Value) (zss : List (List Int)) (w : World) (h : RR w v zss) : Val Tryz.prog 32 #[mkV c d s m l, lkV v] w (pinsV c d s m l zss) :=
  Ret.val (spec_PinsText_calls c d s m l v w _ (by
    unfold spec_PinsText_vc
    intro w1 h1
    refine h.oneC fun w2 h2 => ?_
    have k2 := h1.trans h2
    refine (spec_IsLock_val c d s m l v zss w2 (h.ext k2)).call fun w5 h5 => ⟨_, rfl, h5.keeps, fun hb => ?_, fun hb => ?_⟩
    · rw [pinsV_no (nd_t hb)]
      exact ⟨rfl, k2.trans h5⟩
    have hk := nd_f hb
    have k5 := k2.trans h5
    obtain ⟨p1, p2, p3⟩ := lk_small hk
    unfold spec_PinsText_k0
    refine (spec_l05Pins_ret c d s m l v zss w5 (h.ext k5) p1 p2 p3).call ?_
    rintro u w6 ⟨o6, h6⟩
    refine ⟨u, rfl, h6.keeps, ?_⟩
    refine (spec_l05Text_val u _ w6 o6.rr (stacks_ok hk)).call fun w7 h7 => ⟨_, rfl, h7.keeps, ?_, (k5.trans h6).trans h7⟩
    rw [pinsV_yes hk]
    rfl))
def impl_PinsText_A (m_Chambers : Int) (m_Depths : Int) (m_Step : Int) (m_Same : Int) (m_Least : Int) (l_Sets : Value) (w : World) : Nat → Ann := fun κ => match κ with
  | 0 => { σ := Nat × Value, sli := [22, 7], slc := fun s => [SV.v (Value.int .i64 (s.1 : Int)), SV.v s.2], bxi := [], bxc := fun s => [], inv := fun s W => True, μ := fun s W => 0, free := true }
  | _ => { σ := Unit, sli := [], slc := fun _ => [], bxi := [], bxc := fun _ => [], inv := fun _ _ => False, μ := fun _ _ => 0 }
abbrev impl_PinsText_k0 (w : World) (u37 : Value) (s40 : Nat × Value) (w41 : World) (J42 : (Nat × Value) → World → Prop) (m43 : (Nat × Value) → World → Nat) (x44 : Value) (x45 : Int) (w46 : World) : Prop :=
  IxV 1 u37 x45 (fun ad47 => ∃ u48 : Value, LdV w46 (Value.pointer (some ad47)) u48 ∧ Calls Tryz.prog 38 #[u48, (Value.string (⟨#[43]⟩ : ByteArray))] w46 (fun e49 w50 => ∃ s51 : ByteArray, e49 = .returned (Value.string s51) ∧ Keeps w.heap.size [25, 28] w46 w50 ∧ ∀ (v52 : Value) (w53 : World), Sx.Own w50.heap.size w53 9 v52 [(Value.string s51)] → Ext w50 w53 → AppV w53 9 x44 v52 (fun v54 w55 => I64 (x45 + 1) ∧ ∃ s56 : (Nat × Value), (Value.int .i64 (x45 + 1)) = (Value.int .i64 (s56.1 : Int)) ∧ v54 = s56.2 ∧ (J42 s56 w55) ∧ (m43 s56 w55) < (m43 s40 w41))))
abbrev impl_PinsText_k1 (w : World) (Post : Value → World → Prop) (x66 : Value) (w92 : World) : Prop :=
  Calls Tryz.prog 39 #[x66, (Value.string (⟨#[32]⟩ : ByteArray))] w92 (fun e93 w94 => ∃ s95 : ByteArray, e93 = .returned (Value.string s95) ∧ Keeps w.heap.size [25, 28] w92 w94 ∧ Post (Value.tuple #[(Value.string s95), (Value.int .i64 0)]) w94)
abbrev impl_PinsText_k2 (w : World) (Post : Value → World → Prop) (x26 : Int) (x27 : Int) (x28 : Int) (x29 : Int) (x30 : Int) (x31 : Value) (w32 : World) : Prop :=
  ∀ (v33 : Value) (w34 : World), Sx.Own w32.heap.size w34 9 v33 [] → Ext w32 w34 → Calls Tryz.prog 21 #[(Value.agg #[(Value.int .i64 x26), (Value.int .i64 x27), (Value.int .i64 x28), (Value.int .i64 x29), (Value.int .i64 x30)]), (Value.agg #[x31])] w34 (fun e35 w36 => ∃ u37 : Value, e35 = .returned u37 ∧ Keeps w.heap.size [25, 28] w34 w36 ∧ LenV u37 (fun n38 => (∃ (J42 : (Nat × Value) → World → Prop) (m43 : (Nat × Value) → World → Nat), ((∃ s39 : (Nat × Value), (Value.int .i64 0) = (Value.int .i64 (s39.1 : Int)) ∧ v33 = s39.2 ∧ (J42 s39 w36)) ∧ ∀ (s40 : (Nat × Value)) (w41 : World), (J42 s40 w41) → ((((s40.1 : Int) < n38) → (impl_PinsText_k0 w u37 s40 w41 J42 m43 s40.2 (s40.1 : Int) w41)) ∧ (¬ ((s40.1 : Int) < n38) → (impl_PinsText_k1 w Post s40.2 w41)))))))
def impl_PinsText_vc (m_Chambers : Int) (m_Depths : Int) (m_Step : Int) (m_Same : Int) (m_Least : Int) (l_Sets : Value) (w : World) (Post : Value → World → Prop) : Prop :=
  ∀ w1 : World, Ext w w1 → oneC l_Sets (∀ w2 : World, Ext w1 w2 → oneC l_Sets (∀ (v3 : Value) (w4 : World), Sx.Own w2.heap.size w4 28 v3 [l_Sets] → Ext w2 w4 → Calls Tryz.prog 20 #[(Value.agg #[(Value.int .i64 m_Chambers), (Value.int .i64 m_Depths), (Value.int .i64 m_Step), (Value.int .i64 m_Same), (Value.int .i64 m_Least)]), v3] w4 (fun e5 w6 => ∃ n7 : Int, e5 = .returned (Value.int .i64 n7) ∧ Keeps w.heap.size [25, 28] w4 w6 ∧ (((n7 ≠ (0 : Int)) → Post (Value.tuple #[(Value.string (⟨#[]⟩ : ByteArray)), (Value.int .i64 n7)]) w6) ∧ (¬ (n7 ≠ (0 : Int)) → (impl_PinsText_k2 w Post m_Chambers m_Depths m_Step m_Same m_Least l_Sets w6))))))
theorem impl_PinsText_eq (m_Chambers : Int) (m_Depths : Int) (m_Step : Int) (m_Same : Int) (m_Least : Int) (l_Sets : Value) (w : World) (Post : Value → World → Prop) : denF Tryz.prog [] (impl_PinsText_A m_Chambers m_Depths m_Step m_Same m_Least l_Sets w) 16 [(Value.agg #[(Value.int .i64 m_Chambers), (Value.int .i64 m_Depths), (Value.int .i64 m_Step), (Value.int .i64 m_Same), (Value.int .i64 m_Least)]), (Value.agg #[l_Sets])] w Post = impl_PinsText_vc m_Chambers m_Depths m_Step m_Same m_Least l_Sets w Post := by kernel_rfl
set_option maxRecDepth 100000 in
theorem impl_PinsText_calls (m_Chambers : Int) (m_Depths : Int) (m_Step : Int) (m_Same : Int) (m_Least : Int) (l_Sets : Value) (w : World) (Post : Value → World → Prop) (hvc : impl_PinsText_vc m_Chambers m_Depths m_Step m_Same m_Least l_Sets w Post) : Ret Tryz.prog 16 #[(Value.agg #[(Value.int .i64 m_Chambers), (Value.int .i64 m_Depths), (Value.int .i64 m_Step), (Value.int .i64 m_Same), (Value.int .i64 m_Least)]), (Value.agg #[l_Sets])] w Post :=
  Ret.of (denF_sound mixed (Eq.mpr (impl_PinsText_eq m_Chambers m_Depths m_Step m_Same m_Least l_Sets w Post) hvc))

theorem impl_PinsText_val (c d s m l : Int) (v : Value) (zss : List (List Int)) (w : World) (h : RR w v zss) (hg : Gl w) : Val Tryz.prog 16 #[mkV c d s m l, lkV v] w (pinsV c d s m l zss) :=
  Ret.val (impl_PinsText_calls c d s m l v w _ (by
    unfold impl_PinsText_vc
    intro w1 h1
    refine h.oneC fun w2 h2 => h.oneC fun v3 w4 o4 h4 => ?_
    have k4 := (h1.trans h2).trans h4
    refine (impl_locksCode_val c d s m l v3 [zss] w4 (RLs.one o4 (h.ext k4))).call fun w5 h5 => ⟨_, rfl, h5.keeps, ?_⟩
    rw [locksR_one]
    have k5 := k4.trans h5
    by_cases hk : LkOk c d s m l zss
    · rw [if_pos hk, pinsV_yes hk]
      refine ⟨fun hne => absurd rfl hne, fun _ => ?_⟩
      obtain ⟨p1, p2, p3⟩ := lk_small hk
      have hst := stacks_ok hk
      unfold impl_PinsText_k2
      intro a w6 o6 h6
      have k6 := k5.trans h6
      refine (impl_pinsOf_ret c d s m l v zss w6 (h.ext k6) p1 p2 p3).call ?_
      rintro u w7 ⟨o7, h7⟩
      have k7 := k6.trans h7
      generalize zss.map (stack d) = yss at o7 hst ⊢
      refine ⟨u, rfl, h7.keeps, o7.rr.len ⟨fun s W => s.1 ≤ yss.length ∧ Own w.heap.size W 9 s.2 (strs ((yss.take s.1).map stT)) ∧ OwnR w.heap.size W u yss ∧ Ext w W, fun s _ => yss.length - s.1, ⟨(0, a), rfl, rfl, Nat.zero_le _, (o6.mono k5.size).ext h7, o7.mono k6.size, k7⟩, ?_⟩⟩
      rintro ⟨k, q⟩ w8 ⟨hk8, o8, u8, k8⟩
      simp only at hk8 o8
      have hyl := hst.1
      refine ⟨fun hlt => ?_, fun hge => ?_⟩
      · simp only at hlt
        have hk' : k < yss.length := by omega
        obtain ⟨hl1, hx1⟩ := hst.2 _ (List.getElem_mem hk')
        unfold impl_PinsText_k0
        refine u8.rr.get k rfl hk' fun x hx => ?_
        refine (impl_joined_val x yss[k] ⟨#[43]⟩ w8 hx (fun z h => by have := hx1 z h; unfold I64; omega) (by omega) (by decide) (hg.ext k8)).call fun w9 h9 => ⟨_, rfl, h9.keeps, fun r w10 o10 h10 => ?_⟩
        have k10 := (k8.trans h9).trans h10
        have o810 := (o8.ext h9).ext h10
        refine o810.app1 o10 rfl (by rw [strs_length, List.length_map, List.length_take]; omega) k10.size fun v' w11 o11 g11 _ => ⟨by unfold I64; omega, (k + 1, v'), rfl, rfl, ⟨hk', ?_, ?_, k10.grown o810 (Nat.le_refl _) g11⟩, by simp only; omega⟩
        · simp only
          rw [take_snoc yss k hk', List.map_append, strs_append]
          exact o11
        · obtain ⟨us, r1, r2, r3⟩ := (u8.ext h9).ext h10
          exact ⟨us, r1.grown g11 (Apart.types r1 o810 (by decide)), r2.map fun x z hr => hr.grown g11 (Apart.types hr o810 (by decide)), r3⟩
      · simp only at hge
        unfold impl_PinsText_k1
        obtain rfl : k = yss.length := by omega
        rw [List.take_length] at o8
        have hlen := pins_len hst yss.length
        rw [List.take_length] at hlen
        refine (join_call ⟨#[32]⟩ w8 o8 (Nat.le_trans hlen (by decide)) (by rw [List.length_map]; omega)).call fun w9 h9 => ⟨_, rfl, h9.keeps, rfl, k8.trans h9⟩
    · rw [if_neg hk, pinsV_no hk]
      exact ⟨fun _ => ⟨rfl, k5⟩, fun hh => absurd (fun e => by cases e) hh⟩))
end Go.Proofs
end
section
set_option linter.unusedVariables false
namespace Go.Tx
open Go Go.Lib Go.Sx

/-! ### byte arrays made of a list -/
theorem ba_eta (t : ByteArray) : (⟨t.data.toList.toArray⟩ : ByteArray) = t := by simp
theorem ba_size (l : List UInt8) : (⟨l.toArray⟩ : ByteArray).size = l.length := by simp [ByteArray.size]
theorem ba_get {l : List UInt8} {i : Nat} (h : i < l.length) : (⟨l.toArray⟩ : ByteArray)[i]? = some l[i] := by
  rw [getElem?_pos (⟨l.toArray⟩ : ByteArray) i (by rw [ba_size]; exact h)]
  rfl
theorem ba_beq (a b : List UInt8) : ((⟨a.toArray⟩ : ByteArray).toList == (⟨b.toArray⟩ : ByteArray).toList) = decide (a = b) := by
  rw [ByteArray.toList_eq, ByteArray.toList_eq]
  by_cases h : a = b
  · subst h; simp
  · simp [h]
theorem ba_extract (l : List UInt8) {i j : Nat} (hi : i ≤ j) (hj : j ≤ l.length) : (⟨l.toArray⟩ : ByteArray).extract i j = ⟨((l.take j).drop i).toArray⟩ := by
  apply Go.WideShapes.bytes_inj
  rw [ByteArray.data_extract]
  simp [List.drop_take]

/-! ### numbers -/
/-- the number that a numeral spells -/
def rd (l : List UInt8) : Option Int := match parseIntB 64 l with
  | .ok n => if itoa n = l then some n else none
  | _ => none
theorem rd_itoa {n : Int} (h : I64 n) : rd (itoa n) = some n := by
  unfold rd
  rw [parse_itoa h]
  simp
theorem rd_some {l : List UInt8} {n : Int} (h : rd l = some n) : I64 n ∧ l = itoa n := by
  unfold rd at h
  split at h
  · rename_i m hm
    split at h
    · rename_i e
      injection h with h
      subst h
      exact ⟨parse_range hm, e.symm⟩
    · cases h
  · cases h
/-- the numbers that these texts spell -/
def rds : List (List UInt8) → Option (List Int)
  | [] => some []
  | x :: xs => match rd x, rds xs with
    | some n, some ns => some (n :: ns)
    | _, _ => none
theorem rds_map : ∀ {zs : List Int}, (∀ z ∈ zs, I64 z) → rds (zs.map itoa) = some zs
  | [], _ => rfl
  | z :: zs, h => by
    rw [List.map_cons, rds, rd_itoa (h z (by simp)), rds_map fun y hy => h y (List.mem_cons_of_mem _ hy)]
theorem rds_some : ∀ {ws : List (List UInt8)} {zs : List Int}, rds ws = some zs → ws = zs.map itoa ∧ ∀ z ∈ zs, I64 z
  | [], zs, h => by
    injection h with h
    subst h
    exact ⟨rfl, fun z hz => (by cases hz)⟩
  | x :: xs, zs, h => by
    rw [rds] at h
    split at h
    · rename_i n ns h1 h2
      injection h with h
      subst h
      obtain ⟨e1, e2⟩ := rd_some h1
      obtain ⟨e3, e4⟩ := rds_some h2
      refine ⟨by rw [e3, e2]; rfl, fun z hz => ?_⟩
      rcases List.mem_cons.1 hz with rfl | hz
      · exact e1
      · exact e4 z hz
    · cases h
theorem rds_bad {ws : List (List UInt8)} {x : List UInt8} (hx : x ∈ ws) (h : rd x = none) : rds ws = none := by
  cases hr : rds ws with
  | none => rfl
  | some zs =>
    obtain ⟨e, hz⟩ := rds_some hr
    subst e
    obtain ⟨z, hm, rfl⟩ := List.mem_map.1 hx
    rw [rd_itoa (hz z hm)] at h
    cases h
/-- one word more -/
theorem rds_snoc {ws : List (List UInt8)} {zs : List Int} {x : List UInt8} {n : Int} (h : rds ws = some zs) (hx : rd x = some n) : rds (ws ++ [x]) = some (zs ++ [n]) := by
  obtain ⟨e, hz⟩ := rds_some h
  obtain ⟨h1, h2⟩ := rd_some hx
  rw [e, h2, show zs.map itoa ++ [itoa n] = (zs ++ [n]).map itoa by simp]
  refine rds_map fun z hm => ?_
  rcases List.mem_append.1 hm with hm | hm
  · exact hz z hm
  · rw [List.mem_singleton] at hm
    subst hm
    exact h1
/-! ### numbers of at most thirteen digits -/
def Sml (n : Int) : Prop := 0 ≤ n ∧ n ≤ 9999999999999
theorem sml_dec {n : Int} (h : Sml n) : itoa n = decDigits n.toNat ∧ 1 ≤ (itoa n).length ∧ (itoa n).length ≤ 13 ∧ ∀ c ∈ itoa n, isDig c := by
  unfold Sml at h
  have e := itoa_pos h.1
  refine ⟨e, ?_, ?_, ?_⟩
  · exact List.length_pos_iff.2 (itoa_ne n)
  · rw [e]; exact dd_length _ 13 (by decide) (by omega)
  · rw [e]; exact dd_digits _
theorem sml_val {n : Int} (h : Sml n) : valD 0 (itoa n) = n.toNat := by rw [(sml_dec h).1, valD_dd]
theorem valD_snoc (l : List UInt8) {k : Nat} (hk : k < l.length) : valD 0 (l.take (k + 1)) = 10 * valD 0 (l.take k) + (l[k].toNat - 48) := by
  rw [show l.take (k + 1) = l.take k ++ [l[k]] by rw [List.take_add_one, List.getElem?_eq_getElem hk]; rfl, valD_append]
  rfl
theorem valD_size : ∀ (l : List UInt8), (∀ c ∈ l, isDig c) → ∀ a, valD a l < (a + 1) * 10 ^ l.length
  | [], _, a => by simp [valD]
  | c :: l, h, a => by
    have h1 := h c (by simp)
    unfold isDig at h1
    have := valD_size l (fun x hx => h x (List.mem_cons_of_mem _ hx)) (10 * a + (c.toNat - 48))
    have e : valD a (c :: l) = valD (10 * a + (c.toNat - 48)) l := rfl
    rw [e, List.length_cons, Nat.pow_succ]
    refine Nat.lt_of_lt_of_le this ?_
    rw [show (a + 1) * (10 ^ l.length * 10) = ((a + 1) * 10) * 10 ^ l.length by rw [Nat.mul_comm (10 ^ l.length), Nat.mul_assoc]]
    exact Nat.mul_le_mul_right _ (by omega)
theorem valD_sml {l : List UInt8} (h : ∀ c ∈ l, isDig c) (hl : l.length ≤ 13) : valD 0 l ≤ 9999999999999 := by
  have h1 := valD_size l h 0
  have h2 : 10 ^ l.length ≤ 10 ^ 13 := Nat.pow_le_pow_right (by decide) hl
  omega
/-- a word of the reference's: a number of at most thirteen digits -/
def rd13 (l : List UInt8) : Option Int := match rd l with
  | some n => if 0 ≤ n ∧ n ≤ 9999999999999 then some n else none
  | none => none
theorem rd13_some {l : List UInt8} {n : Int} : rd13 l = some n ↔ Sml n ∧ l = itoa n := by
  unfold rd13
  constructor
  · intro h
    split at h
    · rename_i m hm
      split at h
      · rename_i hs
        injection h with h
        subst h
        exact ⟨hs, (rd_some hm).2⟩
      · cases h
    · cases h
  · rintro ⟨h, rfl⟩
    have h' := h
    unfold Sml at h'
    rw [rd_itoa (by unfold I64; omega)]
    simp only
    rw [if_pos h']
theorem rd13_rd {l : List UInt8} {n : Int} (h : rd13 l = some n) : rd l = some n := by
  obtain ⟨h1, rfl⟩ := rd13_some.1 h
  unfold Sml at h1
  exact rd_itoa (by unfold I64; omega)
theorem rd13_none {l : List UInt8} (h : ∀ n, Sml n → l ≠ itoa n) : rd13 l = none := by
  cases hr : rd13 l with
  | none => rfl
  | some n => exact absurd (rd13_some.1 hr).2 (h n (rd13_some.1 hr).1)
/-- if a word is no number of at most thirteen digits, then not all of the numbers are -/
theorem rds_no13 {ws : List (List UInt8)} {x : List UInt8} {zs : List Int} (hx : x ∈ ws) (h : rd13 x = none) (hr : rds ws = some zs) : ∃ z ∈ zs, ¬ Sml z := by
  obtain ⟨e, hz⟩ := rds_some hr
  subst e
  obtain ⟨z, hm, rfl⟩ := List.mem_map.1 hx
  refine ⟨z, hm, fun hs => ?_⟩
  rw [rd13_some.2 ⟨hs, rfl⟩] at h
  cases h
end Go.Tx
end
section
set_option linter.unusedVariables false
namespace Go.Tx
open Go Go.Lib Go.Sx
theorem drop_split (l : List UInt8) {f i : Nat} (hf : f ≤ i) (hi : i < l.length) : l.drop f = (l.take i).drop f ++ l[i] :: l.drop (i + 1) := by
  conv => lhs; rw [← List.take_append_drop i l, List.drop_eq_getElem_cons hi]
  rw [List.drop_append_of_le_length (by rw [List.length_take]; omega)]
/-- the words between two marks -/
theorem split_words (b : UInt8) (l : List UInt8) : splitB ⟨#[b]⟩ 0 (countB ⟨l.toArray⟩ ⟨#[b]⟩) ⟨l.toArray⟩ = (cutAt b l).map fun x => ⟨x.toArray⟩ := by
  have h := splitB_data ⟨#[b]⟩ 0 (countB ⟨l.toArray⟩ ⟨#[b]⟩) ⟨l.toArray⟩
  have h2 : countB ⟨l.toArray⟩ ⟨#[b]⟩ = count l [b] := rfl
  rw [show (⟨l.toArray⟩ : ByteArray).data.toList = l from rfl, show (⟨#[b]⟩ : ByteArray).data.toList = [b] from rfl] at h
  rw [h2] at h ⊢
  rw [splitK_cut b l.length l (Nat.le_refl _)] at h
  rw [← h, List.map_map]
  conv => lhs; rw [← List.map_id (splitB _ _ _ _)]
  refine List.map_congr_left fun x _ => ?_
  exact (ba_eta x).symm
end Go.Tx
namespace Go.Proofs
open Go.Sx Go.RowKit Go.Tx

/-- the library's variables that a reader of texts meets -/
def Gs (w : World) : Prop := Gl w ∧ (∃ m : Int, w.cell? ⟨0, 0, none⟩ = some (.int .i64 m)) ∧
  (∃ ev, w.cell? ⟨3, 0, none⟩ = some ev ∧ (ev = .nilIface ∨ ∃ te pe, ev = .iface te pe)) ∧ (∃ ev, w.cell? ⟨4, 0, none⟩ = some ev ∧ (ev = .nilIface ∨ ∃ te pe, ev = .iface te pe))
theorem Gs.ext {w w' : World} (h : Gs w) (e : Ext w w') : Gs w' := by
  obtain ⟨h1, ⟨m, hm⟩, ⟨a, ha, ha'⟩, ⟨b, hb, hb'⟩⟩ := h
  exact ⟨h1.ext e, ⟨m, e.cell hm⟩, ⟨a, e.cell ha, ha'⟩, ⟨b, e.cell hb, hb'⟩⟩
/-- 'strings.Split(s, b)' -/
theorem split_ret (l : List UInt8) (b : UInt8) (w : World) (hg : Gs w) (hl : l.length ≤ 1048576) : Ret Tryz.prog 34 #[txt l, .string ⟨#[b]⟩] w fun v w' => Own w.heap.size w' 9 v (strs (cutAt b l)) ∧ Ext w w' := by
  obtain ⟨_, ⟨m, hm⟩, _⟩ := hg
  refine Ret.of ((Tryz.strings_Split ⟨l.toArray⟩ ⟨#[b]⟩ m w (by rw [ba_size]; omega) hm (Nat.le_refl 1)).mono ?_)
  rintro e w' ⟨rfl, rfl⟩
  have hc : Lib.countB ⟨l.toArray⟩ ⟨#[b]⟩ + 1 = (strs (cutAt b l)).length := by
    rw [← Lib.splitB_all ⟨#[b]⟩ (Nat.le_refl 1) 0 _ ⟨l.toArray⟩ rfl, split_words, strs_length, List.length_map]
  have hle := cutAt_length b l
  have hcells : (((Lib.splitB ⟨#[b]⟩ 0 (Lib.countB ⟨l.toArray⟩ ⟨#[b]⟩) ⟨l.toArray⟩).map Value.string).toArray) = (strs (cutAt b l)).toArray := by
    rw [split_words, List.map_map]
    rfl
  refine ⟨_, rfl, ?_, Ext.alloc _ _⟩
  rw [hc, hcells]
  have hh : (w.alloc (.cells (strs (cutAt b l)).toArray 9)).heap[w.heap.size]? = some (.cells (strs (cutAt b l)).toArray 9 (0, 0)) := by
    show (w.heap.push _)[w.heap.size]? = _
    simp
  exact ⟨by simp, .inr ⟨w.heap.size, _, _, rfl, Nat.le_refl _, hh, Nat.le_refl _, by rw [strs_length]; unfold maxLen; omega, by simp, by simp⟩⟩
def spec_l01Split_A (t : ByteArray) (c : Int) (w : World) : Nat → Ann := fun κ => match κ with
  | 0 => { σ := Nat × Value × Nat, sli := [7, 5, 6], slc := fun s => [SV.v (Value.int .i64 (s.1 : Int)), SV.v s.2.1, SV.v (Value.int .i64 (s.2.2 : Int))], bxi := [], bxc := fun s => [], inv := fun s W => True, μ := fun s W => 0, free := true }
  | _ => { σ := Unit, sli := [], slc := fun _ => [], bxi := [], bxc := fun _ => [], inv := fun _ _ => False, μ := fun _ _ => 0 }
abbrev spec_l01Split_k0 (s4 : Nat × Value × Nat) (w5 : World) (J6 : (Nat × Value × Nat) → World → Prop) (m7 : (Nat × Value × Nat) → World → Nat) (x29 : Value) (x30 : Int) (x31 : Int) (w47 : World) : Prop :=
  I64 (x31 + 1) ∧ ∃ s48 : (Nat × Value × Nat), (Value.int .i64 (x31 + 1)) = (Value.int .i64 (s48.1 : Int)) ∧ x29 = s48.2.1 ∧ (Value.int .i64 x30) = (Value.int .i64 (s48.2.2 : Int)) ∧ (J6 s48 w47) ∧ (m7 s48 w47) < (m7 s4 w5)
abbrev spec_l01Split_k1 (t : ByteArray) (s4 : Nat × Value × Nat) (w5 : World) (J6 : (Nat × Value × Nat) → World → Prop) (m7 : (Nat × Value × Nat) → World → Nat) (x15 : Value) (x16 : Int) (x17 : Int) (w24 : World) : Prop :=
  0 ≤ x16 ∧ x16 ≤ x17 ∧ x17 ≤ (t.size : Int) ∧ ∀ (v25 : Value) (w26 : World), Sx.Own w24.heap.size w26 9 v25 [(Value.string (t.extract x16.toNat x17.toNat))] → Ext w24 w26 → AppV w26 9 x15 v25 (fun v27 w28 => I64 (x17 + 1) ∧ (spec_l01Split_k0 s4 w5 J6 m7 v27 (x17 + 1) x17 w28))
abbrev spec_l01Split_k2 (t : ByteArray) (c : Int) (s4 : Nat × Value × Nat) (w5 : World) (J6 : (Nat × Value × Nat) → World → Prop) (m7 : (Nat × Value × Nat) → World → Nat) (c49 : UInt8) (x50 : Value) (x51 : Int) (x52 : Int) (w63 : World) : Prop :=
  ((((c49.toNat : Int) = c) → 0 ≤ x51 ∧ x51 ≤ x52 ∧ x52 ≤ (t.size : Int) ∧ ∀ (v64 : Value) (w65 : World), Sx.Own w63.heap.size w65 9 v64 [(Value.string (t.extract x51.toNat x52.toNat))] → Ext w63 w65 → AppV w65 9 x50 v64 (fun v66 w67 => I64 (x52 + 1) ∧ (spec_l01Split_k0 s4 w5 J6 m7 v66 (x52 + 1) x52 w67))) ∧ (¬ ((c49.toNat : Int) = c) → (spec_l01Split_k0 s4 w5 J6 m7 x50 x51 x52 w63)))
abbrev spec_l01Split_k3 (t : ByteArray) (c : Int) (s4 : Nat × Value × Nat) (w5 : World) (J6 : (Nat × Value × Nat) → World → Prop) (m7 : (Nat × Value × Nat) → World → Nat) (x8 : Value) (x9 : Int) (x10 : Int) (w14 : World) : Prop :=
  (((x10 = (t.size : Int)) → (spec_l01Split_k1 t s4 w5 J6 m7 x8 x9 x10 w14)) ∧ (¬ (x10 = (t.size : Int)) → 0 ≤ x10 ∧ ∃ c49 : UInt8, t[x10.toNat]? = some c49 ∧ (spec_l01Split_k2 t c s4 w5 J6 m7 c49 x8 x9 x10 w14)))
def spec_l01Split_vc (t : ByteArray) (c : Int) (w : World) (Post : Value → World → Prop) : Prop :=
  ∀ (v1 : Value) (w2 : World), Sx.Own w.heap.size w2 9 v1 [] → Ext w w2 → (∃ (J6 : (Nat × Value × Nat) → World → Prop) (m7 : (Nat × Value × Nat) → World → Nat), ((∃ s3 : (Nat × Value × Nat), (Value.int .i64 0) = (Value.int .i64 (s3.1 : Int)) ∧ v1 = s3.2.1 ∧ (Value.int .i64 0) = (Value.int .i64 (s3.2.2 : Int)) ∧ (J6 s3 w2)) ∧ ∀ (s4 : (Nat × Value × Nat)) (w5 : World), (J6 s4 w5) → ((((s4.1 : Int) ≤ (t.size : Int)) → (spec_l01Split_k3 t c s4 w5 J6 m7 s4.2.1 (s4.2.2 : Int) (s4.1 : Int) w5)) ∧ (¬ ((s4.1 : Int) ≤ (t.size : Int)) → Post s4.2.1 w5))))
theorem spec_l01Split_eq (t : ByteArray) (c : Int) (w : World) (Post : Value → World → Prop) : denF Tryz.prog [] (spec_l01Split_A t c w) 54 [(Value.string t), (Value.int .u8 c)] w Post = spec_l01Split_vc t c w Post := by kernel_rfl
set_option maxRecDepth 100000 in
theorem spec_l01Split_calls (t : ByteArray) (c : Int) (w : World) (Post : Value → World → Prop) (hvc : spec_l01Split_vc t c w Post) : Ret Tryz.prog 54 #[(Value.string t), (Value.int .u8 c)] w Post :=
  Ret.of (denF_sound mixed (Eq.mpr (spec_l01Split_eq t c w Post) hvc))

theorem spec_l01Split_ret (l : List UInt8) (b : UInt8) (w : World) (hl : l.length ≤ 1048576) : Ret Tryz.prog 54 #[txt l, .int .u8 (b.toNat : Int)] w fun v w' => Own w.heap.size w' 9 v (strs (cutAt b l)) ∧ Ext w w' :=
  spec_l01Split_calls ⟨l.toArray⟩ (b.toNat : Int) w _ (by
    unfold spec_l01Split_vc
    have hbs := ba_size l
    rw [ba_size]
    intro v1 w1 o1 h1
    refine ⟨fun s W => ∃ ws : List (List UInt8), Own w.heap.size W 9 s.2.1 (strs ws) ∧ Ext w W ∧ ws.length ≤ s.1 ∧ ((s.1 ≤ l.length ∧ s.2.2 ≤ s.1 ∧ cutAt b l = ws ++ cutAt b (l.drop s.2.2) ∧ b ∉ (l.take s.1).drop s.2.2) ∨ (s.1 = l.length + 1 ∧ ws = cutAt b l)), fun s _ => l.length + 1 - s.1, ⟨(0, v1, 0), rfl, rfl, rfl, [], o1, h1, Nat.le_refl _, .inl ⟨Nat.zero_le _, Nat.le_refl _, rfl, by simp⟩⟩, ?_⟩
    rintro ⟨i, v, f⟩ w2 ⟨ws, o2, h2, hw, hor⟩
    simp only at o2 hor hw
    refine ⟨fun hle => ?_, fun hgt => ?_⟩
    · simp only at hle
      rcases hor with ⟨hi, hf, hcut, hno⟩ | ⟨hi, _⟩
      rotate_left
      · omega
      have add : ∀ (x : List UInt8) (W : World), Ext w2 W → x = (l.take i).drop f → ∀ (v3 : Value) (w3 : World), Own W.heap.size w3 9 v3 [txt x] → Ext W w3 → ∀ {K : Value → World → Prop}, (∀ v' w', Own w.heap.size w' 9 v' (strs (ws ++ [x])) → Ext w w' → K v' w') → AppV w3 9 v v3 K := by
        intro x W hW hx v3 w3 o3 h3 K hK
        have k3 := (h2.trans hW).trans h3
        refine ((o2.ext hW).ext h3).app1 o3 rfl (by rw [strs_length]; omega) k3.size fun v' w' o g _ => hK v' w' (by rw [strs_append]; exact o) (k3.grown ((o2.ext hW).ext h3) (Nat.le_refl _) g)
      refine ⟨fun heq => ?_, fun hne => ?_⟩
      · have hil : i = l.length := by omega
        refine ⟨by (try simp only); omega, by (try simp only); omega, by (try simp only); omega, fun v3 w3 o3 h3 => ?_⟩
        rw [show ((f : Int)).toNat = f by omega, show ((i : Int)).toNat = i by omega, ba_extract l hf hi] at o3
        refine add _ w2 (.refl _) rfl v3 w3 o3 h3 fun v' w' o' h' => ⟨by unfold I64; omega, by unfold I64; omega, (i + 1, v', i + 1), rfl, rfl, rfl, ⟨_, o', h', by rw [List.length_append]; simp only [List.length_cons, List.length_nil]; omega, .inr ⟨by simp only; omega, ?_⟩⟩, by simp only; omega⟩
        subst hil
        rw [List.take_length] at hno ⊢
        rw [hcut, cutAt_none hno]
      · have hil : i < l.length := by omega
        refine ⟨by omega, l[i], by rw [show ((i : Int)).toNat = i by omega]; exact ba_get hil, fun hb => ?_, fun hb => ?_⟩
        · refine ⟨by (try simp only); omega, by (try simp only); omega, by (try simp only); omega, fun v3 w3 o3 h3 => ?_⟩
          rw [show ((f : Int)).toNat = f by omega, show ((i : Int)).toNat = i by omega, ba_extract l hf hi] at o3
          refine add _ w2 (.refl _) rfl v3 w3 o3 h3 fun v' w' o' h' => ⟨by unfold I64; omega, by unfold I64; omega, (i + 1, v', i + 1), rfl, rfl, rfl, ⟨_, o', h', by rw [List.length_append]; simp only [List.length_cons, List.length_nil]; omega, .inl ⟨hil, Nat.le_refl _, ?_, by simp⟩⟩, by simp only; omega⟩
          have hbe : l[i] = b := by
            apply UInt8.toNat_inj.1
            omega
          rw [hcut, drop_split l hf hil, hbe, cutAt_hit hno, List.append_assoc]
          rfl
        · refine ⟨by unfold I64; omega, (i + 1, v, f), rfl, rfl, rfl, ⟨ws, o2, h2, by simp only; omega, .inl ⟨hil, by simp only; omega, hcut, ?_⟩⟩, by simp only; omega⟩
          simp only
          rw [List.take_add_one, List.getElem?_eq_getElem hil, List.drop_append_of_le_length (by rw [List.length_take]; omega)]
          intro hm
          rcases List.mem_append.1 hm with hm | hm
          · exact hno hm
          · simp at hm
            exact hb (by rw [hm])
    · simp only at hgt
      rcases hor with ⟨hi, _⟩ | ⟨_, rfl⟩
      · omega
      · exact ⟨o2, h2⟩)
/-- a number, if there is one -/
def NumP (r : Value) (o : Option Int) : Prop := ∃ (n : Int) (b : Bool), r = .tuple #[.int .i64 n, .bool b] ∧ (b = true → o = some n) ∧ (b = false → o = none)
def spec_l01Value_A (t : ByteArray) (w : World) : Nat → Ann := fun κ => match κ with
  | 0 => { σ := Nat × Int, sli := [5, 4], slc := fun s => [SV.v (Value.int .i64 (s.1 : Int)), SV.v (Value.int .i64 s.2)], bxi := [], bxc := fun s => [], inv := fun s W => True, μ := fun s W => 0, free := true }
  | _ => { σ := Unit, sli := [], slc := fun _ => [], bxi := [], bxc := fun _ => [], inv := fun _ _ => False, μ := fun _ _ => 0 }
abbrev spec_l01Value_k0 (s21 : Nat × Int) (w22 : World) (J23 : (Nat × Int) → World → Prop) (m24 : (Nat × Int) → World → Nat) (x67 : Int) (x68 : Int) (w86 : World) : Prop :=
  I64 (x68 + 1) ∧ ∃ s87 : (Nat × Int), (Value.int .i64 (x68 + 1)) = (Value.int .i64 (s87.1 : Int)) ∧ (Value.int .i64 x67) = (Value.int .i64 s87.2) ∧ (J23 s87 w86) ∧ (m24 s87 w86) < (m24 s21 w22)
abbrev spec_l01Value_k1 (x13 : ByteArray) (s21 : Nat × Int) (w22 : World) (J23 : (Nat × Int) → World → Prop) (m24 : (Nat × Int) → World → Nat) (x54 : Int) (x55 : Int) (w65 : World) : Prop :=
  I64 (10 * x54) ∧ 0 ≤ x55 ∧ ∃ c66 : UInt8, x13[x55.toNat]? = some c66 ∧ I64 (IntKind.wrap .u8 ((c66.toNat : Int) - 48)) ∧ I64 ((10 * x54) + (IntKind.wrap .u8 ((c66.toNat : Int) - 48))) ∧ (spec_l01Value_k0 s21 w22 J23 m24 ((10 * x54) + (IntKind.wrap .u8 ((c66.toNat : Int) - 48))) x55 w65)
abbrev spec_l01Value_k2 (Post : Value → World → Prop) (x13 : ByteArray) (s21 : Nat × Int) (w22 : World) (J23 : (Nat × Int) → World → Prop) (m24 : (Nat × Int) → World → Nat) (c41 : UInt8) (x42 : Int) (x43 : Int) (w53 : World) : Prop :=
  ((((57 : Int) < (c41.toNat : Int)) → Post (Value.tuple #[(Value.int .i64 0), (Value.bool false)]) w53) ∧ (¬ ((57 : Int) < (c41.toNat : Int)) → (spec_l01Value_k1 x13 s21 w22 J23 m24 x42 x43 w53)))
abbrev spec_l01Value_k3 (Post : Value → World → Prop) (x13 : ByteArray) (s21 : Nat × Int) (w22 : World) (J23 : (Nat × Int) → World → Prop) (m24 : (Nat × Int) → World → Nat) (x25 : Int) (x26 : Int) (w30 : World) : Prop :=
  0 ≤ x26 ∧ ∃ c31 : UInt8, x13[x26.toNat]? = some c31 ∧ ((((c31.toNat : Int) < (48 : Int)) → Post (Value.tuple #[(Value.int .i64 0), (Value.bool false)]) w30) ∧ (¬ ((c31.toNat : Int) < (48 : Int)) → 0 ≤ x26 ∧ ∃ c41 : UInt8, x13[x26.toNat]? = some c41 ∧ (spec_l01Value_k2 Post x13 s21 w22 J23 m24 c41 x25 x26 w30)))
abbrev spec_l01Value_k4 (w : World) (Post : Value → World → Prop) (x88 : ByteArray) (x89 : Int) (w98 : World) : Prop :=
  Calls Tryz.prog 64 #[(Value.int .i64 x89)] w98 (fun e99 w100 => ∃ s101 : ByteArray, e99 = .returned (Value.string s101) ∧ Keeps w.heap.size [] w98 w100 ∧ Post (Value.tuple #[(Value.int .i64 x89), (Value.bool (s101.toList == x88.toList))]) w100)
abbrev spec_l01Value_k5 (w : World) (Post : Value → World → Prop) (x13 : ByteArray) (w19 : World) : Prop :=
  (∃ (J23 : (Nat × Int) → World → Prop) (m24 : (Nat × Int) → World → Nat), ((∃ s20 : (Nat × Int), (Value.int .i64 0) = (Value.int .i64 (s20.1 : Int)) ∧ (Value.int .i64 0) = (Value.int .i64 s20.2) ∧ (J23 s20 w19)) ∧ ∀ (s21 : (Nat × Int)) (w22 : World), (J23 s21 w22) → ((((s21.1 : Int) < (x13.size : Int)) → (spec_l01Value_k3 Post x13 s21 w22 J23 m24 s21.2 (s21.1 : Int) w22)) ∧ (¬ ((s21.1 : Int) < (x13.size : Int)) → (spec_l01Value_k4 w Post x13 s21.2 w22)))))
abbrev spec_l01Value_k6 (t : ByteArray) (w : World) (Post : Value → World → Prop) (x6 : ByteArray) (w12 : World) : Prop :=
  ((((13 : Int) < (t.size : Int)) → Post (Value.tuple #[(Value.int .i64 0), (Value.bool false)]) w12) ∧ (¬ ((13 : Int) < (t.size : Int)) → (spec_l01Value_k5 w Post x6 w12)))
def spec_l01Value_vc (t : ByteArray) (w : World) (Post : Value → World → Prop) : Prop :=
  ((((t.size : Int) < (1 : Int)) → Post (Value.tuple #[(Value.int .i64 0), (Value.bool false)]) w) ∧ (¬ ((t.size : Int) < (1 : Int)) → (spec_l01Value_k6 t w Post t w)))
theorem spec_l01Value_eq (t : ByteArray) (w : World) (Post : Value → World → Prop) : denF Tryz.prog [] (spec_l01Value_A t w) 55 [(Value.string t)] w Post = spec_l01Value_vc t w Post := by kernel_rfl
set_option maxRecDepth 100000 in
theorem spec_l01Value_calls (t : ByteArray) (w : World) (Post : Value → World → Prop) (hvc : spec_l01Value_vc t w Post) : Ret Tryz.prog 55 #[(Value.string t)] w Post :=
  Ret.of (denF_sound mixed (Eq.mpr (spec_l01Value_eq t w Post) hvc))

theorem spec_l01Value_ret (l : List UInt8) (w : World) : Ret Tryz.prog 55 #[txt l] w fun r w' => NumP r (rd13 l) ∧ Ext w w' :=
  spec_l01Value_calls ⟨l.toArray⟩ w _ (by
    unfold spec_l01Value_vc
    have hbs := ba_size l
    rw [ba_size]
    have no : ∀ (W : World), Ext w W → (∀ n, Sml n → l ≠ Lib.itoa n) → NumP (Value.tuple #[.int .i64 0, .bool false]) (rd13 l) ∧ Ext w W := fun W hW h => ⟨⟨0, false, rfl, fun h => (by cases h), fun _ => rd13_none h⟩, hW⟩
    refine ⟨fun h => no w (.refl _) fun n hn e => ?_, fun h => ⟨fun h2 => no w (.refl _) fun n hn e => ?_, fun h2 => ?_⟩⟩
    · have := (sml_dec hn).2.1
      rw [← e] at this
      omega
    · have := (sml_dec hn).2.2.1
      rw [← e] at this
      omega
    unfold spec_l01Value_k5
    rw [ba_size]
    refine ⟨fun s W => s.1 ≤ l.length ∧ s.2 = (valD 0 (l.take s.1) : Int) ∧ (∀ c ∈ l.take s.1, isDig c) ∧ Ext w W, fun s _ => l.length - s.1, ⟨(0, 0), rfl, rfl, Nat.zero_le _, rfl, by simp, .refl _⟩, ?_⟩
    rintro ⟨k, n⟩ w2 ⟨hk, hn, hd, k2⟩
    simp only at hk hn hd
    subst hn
    have hsz := valD_sml hd (by rw [List.length_take]; omega)
    refine ⟨fun hlt => ?_, fun hge => ?_⟩
    · simp only at hlt
      have hk' : k < l.length := by omega
      have hg : (⟨l.toArray⟩ : ByteArray)[((k : Int)).toNat]? = some l[k] := by rw [show ((k : Int)).toNat = k by omega]; exact ba_get hk'
      have bad : ¬ isDig l[k] → ∀ n, Sml n → l ≠ Lib.itoa n := fun h n hn e => h ((sml_dec hn).2.2.2 _ (by rw [← e]; exact List.getElem_mem hk'))
      refine ⟨by omega, l[k], hg, fun hlo => no w2 k2 (bad fun hh => by unfold isDig at hh; omega), fun hlo => ⟨by omega, l[k], hg, fun hhi => no w2 k2 (bad fun hh => by unfold isDig at hh; omega), fun hhi => ?_⟩⟩
      have hdk : isDig l[k] := by unfold isDig; omega
      have hw : IntKind.wrap .u8 ((l[k].toNat : Int) - 48) = (l[k].toNat : Int) - 48 := IntWalk.u8_in _ ⟨by omega, by omega⟩
      unfold spec_l01Value_k1
      refine ⟨by unfold I64; omega, by omega, l[k], hg, ?_⟩
      rw [hw]
      refine ⟨by unfold I64; omega, by unfold I64; omega, by unfold I64; omega, (k + 1, _), rfl, rfl, ⟨hk', ?_, ?_, k2⟩, by simp only; omega⟩
      · simp only
        rw [valD_snoc l hk']
        omega
      · intro c hc
        simp only at hc
        rw [List.take_add_one, List.getElem?_eq_getElem hk'] at hc
        rcases List.mem_append.1 hc with hc | hc
        · exact hd c hc
        · simp at hc
          rw [hc]
          exact hdk
    · simp only at hge
      obtain rfl : k = l.length := by omega
      rw [List.take_length] at hd hsz ⊢
      unfold spec_l01Value_k4
      refine (spec_l01Dec_val ((valD 0 l : Int).toNat + 1) (valD 0 l : Int) w2 (by omega) (by omega) (by omega)).call fun w3 h3 => ⟨_, rfl, h3.keeps, ⟨_, _, rfl, fun hb => ?_, fun hb => ?_⟩, k2.trans h3⟩
      · rw [ba_beq] at hb
        have hb := of_decide_eq_true hb
        exact rd13_some.2 ⟨⟨by omega, by omega⟩, by rw [itoa_pos (by omega)]; exact hb.symm⟩
      · rw [ba_beq] at hb
        refine rd13_none fun n hn e => of_decide_eq_false hb ?_
        have := sml_val hn
        rw [← e] at this
        rw [this, (show ((n.toNat : Int)).toNat = n.toNat by omega), ← (sml_dec hn).1]
        exact e.symm)
def impl_number_vc (t : ByteArray) (w : World) (Post : Value → World → Prop) : Prop :=
  Calls Tryz.prog 68 #[(Value.string t), (Value.int .i64 10), (Value.int .i64 64)] w (fun e1 w2 => ∃ n3 : Int, ∃ u4 : Value, e1 = .returned (Value.tuple #[(Value.int .i64 n3), u4]) ∧ Keeps w.heap.size [] w w2 ∧ ∃ b5 : Bool, NilI u4 b5 ∧ ((b5 = true → Calls Tryz.prog 56 #[(Value.int .i64 n3)] w2 (fun e6 w7 => ∃ s8 : ByteArray, e6 = .returned (Value.string s8) ∧ Keeps w.heap.size [] w2 w7 ∧ Post (Value.tuple #[(Value.int .i64 n3), (Value.bool (s8.toList == t.toList))]) w7)) ∧ (b5 = false → Post (Value.tuple #[(Value.int .i64 n3), (Value.bool false)]) w2)))
theorem impl_number_eq (t : ByteArray) (w : World) (Post : Value → World → Prop) : denF Tryz.prog [] noAnn 53 [(Value.string t)] w Post = impl_number_vc t w Post := by kernel_rfl
set_option maxRecDepth 100000 in
theorem impl_number_calls (t : ByteArray) (w : World) (Post : Value → World → Prop) (hvc : impl_number_vc t w Post) : Ret Tryz.prog 53 #[(Value.string t)] w Post :=
  Ret.of (denF_sound mixed (Eq.mpr (impl_number_eq t w Post) hvc))

theorem impl_number_ret (l : List UInt8) (w : World) (hl : l.length ≤ 1048576) (hg : Gs w) : Ret Tryz.prog 53 #[txt l] w fun r w' => NumP r (rd l) ∧ Ext w w' :=
  impl_number_calls ⟨l.toArray⟩ w _ (by
    unfold impl_number_vc
    have hs : (⟨l.toArray⟩ : ByteArray).size ≤ 1048576 := by rw [ba_size]; exact hl
    have hdl : (⟨l.toArray⟩ : ByteArray).data.toList = l := rfl
    rcases hp : Lib.parseIntB 64 l with n | _ | _
    · have hr := parse_range hp
      refine (Tryz.strconv_ParseInt_10_at64_ok ⟨l.toArray⟩ (by omega) n hp w).mono ?_
      rintro e w1 ⟨rfl, hw⟩
      have h1 : Ext w w1 := by
        rcases hw with rfl | ⟨t, rfl⟩
        · exact .refl _
        · exact Lib.bytesWorld_below _ _ _
      refine ⟨n, _, rfl, h1.keeps, true, .inl ⟨rfl, rfl⟩, fun _ => ?_, fun h => (by cases h)⟩
      refine (impl_text_val n w1 hr (hg.1.ext h1)).call fun w2 h2 => ⟨_, rfl, h2.keeps, ⟨_, _, rfl, fun hb => ?_, fun hb => ?_⟩, h1.trans h2⟩
      · rw [ba_beq] at hb
        rw [← of_decide_eq_true hb]
        exact rd_itoa hr
      · rw [ba_beq] at hb
        unfold rd
        rw [hp]
        simp only
        rw [if_neg (of_decide_eq_false hb)]
    · obtain ⟨_, _, ⟨ev, hv, hev⟩, _⟩ := hg
      refine Calls.mono (Go.Proofs.Any.strconv_ParseInt_10_at64_syntax Tryz.laysC174 ⟨l.toArray⟩ (by omega) hp ev w hv hev) ?_
      rintro e w1 ⟨N, rfl, _, _, h1⟩
      have h1 : Ext w w1 := h1
      refine ⟨_, _, rfl, h1.keeps, false, .inr ⟨⟨_, _, rfl⟩, rfl⟩, fun h => (by cases h), fun _ => ⟨⟨_, _, rfl, fun h => (by cases h), fun _ => ?_⟩, h1⟩⟩
      unfold rd
      rw [hp]
    · obtain ⟨_, _, _, ⟨ev, hv, hev⟩⟩ := hg
      refine (Tryz.strconv_ParseInt_10_at64_range ⟨l.toArray⟩ (by omega) hp ev w hv hev).mono ?_
      rintro e w1 ⟨N, rfl, _, _, h1⟩
      have h1 : Ext w w1 := h1
      refine ⟨_, _, rfl, h1.keeps, false, .inr ⟨⟨_, _, rfl⟩, rfl⟩, fun h => (by cases h), fun _ => ⟨⟨_, _, rfl, fun h => (by cases h), fun _ => ?_⟩, h1⟩⟩
      unfold rd
      rw [hp])
end Go.Proofs
end
section
set_option linter.unusedVariables false
namespace Go.Proofs
open Go.Sx Go.RowKit Go.Tx

theorem cut_small {b : UInt8} {l x : List UInt8} (h : x ∈ cutAt b l) : x.length ≤ l.length := by
  have h2 := Tx.join_cut b l
  generalize cutAt b l = ws at h h2
  rw [← h2]
  clear h2
  induction ws with
  | nil => cases h
  | cons y ys ih =>
    rw [Lib.join_cons, List.length_append]
    rcases List.mem_cons.1 h with rfl | h
    · omega
    · match ys, h with
      | z :: zs, h =>
        have := ih h
        rw [Lib.join_cons, List.length_append] at this
        simp only [Lib.joinTail, List.map_cons, List.flatten_cons, List.length_append, List.length_cons] at this ⊢
        omega
/-- what the library's reader of a text of numbers gives -/
def PartP (B : Nat) (r : Value) (w' : World) (o : Option (List Int)) : Prop := (∃ u zs, r = .tuple #[u, .bool true] ∧ Own B w' 2 u (ints zs) ∧ o = some zs) ∨ (r = .tuple #[.slice none 0 0, .bool false] ∧ o = none)
def impl_parted_A (t : ByteArray) (b : ByteArray) (w : World) : Nat → Ann := fun κ => match κ with
  | 0 => { σ := Nat × Value, sli := [16, 6], slc := fun s => [SV.v (Value.int .i64 (s.1 : Int)), SV.v s.2], bxi := [], bxc := fun s => [], inv := fun s W => True, μ := fun s W => 0, free := true }
  | _ => { σ := Unit, sli := [], slc := fun _ => [], bxi := [], bxc := fun _ => [], inv := fun _ _ => False, μ := fun _ _ => 0 }
abbrev impl_parted_k0 (s8 : Nat × Value) (w9 : World) (J10 : (Nat × Value) → World → Prop) (m11 : (Nat × Value) → World → Nat) (x42 : Value) (x46 : Int) (w62 : World) : Prop :=
  I64 (x46 + 1) ∧ ∃ s63 : (Nat × Value), (Value.int .i64 (x46 + 1)) = (Value.int .i64 (s63.1 : Int)) ∧ x42 = s63.2 ∧ (J10 s63 w62) ∧ (m11 s63 w62) < (m11 s8 w9)
abbrev impl_parted_k1 (s8 : Nat × Value) (w9 : World) (J10 : (Nat × Value) → World → Prop) (m11 : (Nat × Value) → World → Nat) (x21 : Value) (x23 : Int) (x25 : Int) (w37 : World) : Prop :=
  ∀ (v38 : Value) (w39 : World), Sx.Own w37.heap.size w39 2 v38 [(Value.int .i64 x23)] → Ext w37 w39 → AppV w39 2 x21 v38 (fun v40 w41 => (impl_parted_k0 s8 w9 J10 m11 v40 x25 w41))
abbrev impl_parted_k2 (w : World) (Post : Value → World → Prop) (u5 : Value) (s8 : Nat × Value) (w9 : World) (J10 : (Nat × Value) → World → Prop) (m11 : (Nat × Value) → World → Nat) (x12 : Value) (x13 : Int) (w14 : World) : Prop :=
  IxV 1 u5 x13 (fun ad15 => ∃ s16 : ByteArray, LdV w14 (Value.pointer (some ad15)) (Value.string s16) ∧ Calls Tryz.prog 53 #[(Value.string s16)] w14 (fun e17 w18 => ∃ n19 : Int, ∃ b20 : Bool, e17 = .returned (Value.tuple #[(Value.int .i64 n19), (Value.bool b20)]) ∧ Keeps w.heap.size [] w14 w18 ∧ (((!b20) = true → Post (Value.tuple #[(Value.slice none 0 0), (Value.bool false)]) w18) ∧ ((!b20) = false → (impl_parted_k1 s8 w9 J10 m11 x12 n19 x13 w18)))))
def impl_parted_vc (t : ByteArray) (b : ByteArray) (w : World) (Post : Value → World → Prop) : Prop :=
  ∀ (v1 : Value) (w2 : World), Sx.Own w.heap.size w2 2 v1 [] → Ext w w2 → Calls Tryz.prog 34 #[(Value.string t), (Value.string b)] w2 (fun e3 w4 => ∃ u5 : Value, e3 = .returned u5 ∧ Keeps w.heap.size [] w2 w4 ∧ LenV u5 (fun n6 => (∃ (J10 : (Nat × Value) → World → Prop) (m11 : (Nat × Value) → World → Nat), ((∃ s7 : (Nat × Value), (Value.int .i64 0) = (Value.int .i64 (s7.1 : Int)) ∧ v1 = s7.2 ∧ (J10 s7 w4)) ∧ ∀ (s8 : (Nat × Value)) (w9 : World), (J10 s8 w9) → ((((s8.1 : Int) < n6) → (impl_parted_k2 w Post u5 s8 w9 J10 m11 s8.2 (s8.1 : Int) w9)) ∧ (¬ ((s8.1 : Int) < n6) → Post (Value.tuple #[s8.2, (Value.bool true)]) w9))))))
theorem impl_parted_eq (t : ByteArray) (b : ByteArray) (w : World) (Post : Value → World → Prop) : denF Tryz.prog [] (impl_parted_A t b w) 35 [(Value.string t), (Value.string b)] w Post = impl_parted_vc t b w Post := by kernel_rfl
set_option maxRecDepth 100000 in
theorem impl_parted_calls (t : ByteArray) (b : ByteArray) (w : World) (Post : Value → World → Prop) (hvc : impl_parted_vc t b w Post) : Ret Tryz.prog 35 #[(Value.string t), (Value.string b)] w Post :=
  Ret.of (denF_sound mixed (Eq.mpr (impl_parted_eq t b w Post) hvc))

theorem impl_parted_ret (l : List UInt8) (b : UInt8) (w : World) (hl : l.length ≤ 1048576) (hg : Gs w) : Ret Tryz.prog 35 #[txt l, .string ⟨#[b]⟩] w fun r w' => PartP w.heap.size r w' (rds (cutAt b l)) ∧ Ext w w' :=
  impl_parted_calls ⟨l.toArray⟩ ⟨#[b]⟩ w _ (by
    unfold impl_parted_vc
    intro v1 w1 o1 h1
    refine (split_ret l b w1 (hg.ext h1) hl).call ?_
    rintro u w2 ⟨ou, h2⟩
    have k2 := h1.trans h2
    have hcl := cutAt_length b l
    have ou := ou.mono h1.size
    refine ⟨u, rfl, h2.keeps, RS.len ou.rd ⟨fun s W => s.1 ≤ (cutAt b l).length ∧ (∃ zs, rds ((cutAt b l).take s.1) = some zs ∧ zs.length = s.1 ∧ Own w.heap.size W 2 s.2 (ints zs)) ∧ Own w.heap.size W 9 u (strs (cutAt b l)) ∧ Ext w W, fun s _ => (cutAt b l).length - s.1, ⟨(0, v1), rfl, rfl, Nat.zero_le _, ⟨[], rfl, rfl, o1.ext h2⟩, ou, k2⟩, ?_⟩⟩
    rintro ⟨k, v⟩ w3 ⟨hk, ⟨zs, hr, hzl, o3⟩, u3, k3⟩
    simp only at hk hr o3 hzl
    refine ⟨fun hlt => ?_, fun hge => ?_⟩
    · simp only at hlt
      have hk' : k < (cutAt b l).length := by omega
      have hm := List.getElem_mem hk'
      refine RS.get u3.rd k rfl hk' ?_
      refine (impl_number_ret (cutAt b l)[k] w3 (by have := cut_small hm; omega) (hg.ext k3)).call ?_
      rintro _ w4 ⟨⟨n, ok, rfl, hy, hn⟩, h4⟩
      refine ⟨n, ok, rfl, h4.keeps, fun hb => ⟨.inr ⟨rfl, rds_bad hm (hn (by simpa using hb))⟩, k3.trans h4⟩, fun hb v5 w5 o5 h5 => ?_⟩
      have k5 := (k3.trans h4).trans h5
      refine ((o3.ext h4).ext h5).app1 o5 rfl (by simp; omega) k5.size fun v' w6 o6 g6 _ => ⟨by unfold I64; simp only; omega, (k + 1, v'), rfl, rfl, ⟨hk', ⟨zs ++ [n], ?_, by simp [hzl], by rw [ints_append]; exact o6⟩, ?_⟩, by simp only; omega⟩
      · simp only
        rw [List.take_add_one, List.getElem?_eq_getElem hk']
        exact rds_snoc hr (hy (by simpa using hb))
      · exact ⟨((u3.ext h4).ext h5).grown g6 (Apart.types ((u3.ext h4).ext h5) ((o3.ext h4).ext h5) (by decide)), k5.grown ((o3.ext h4).ext h5) (Nat.le_refl _) g6⟩
    · simp only at hge
      obtain rfl : k = (cutAt b l).length := by omega
      rw [List.take_length] at hr
      exact ⟨.inl ⟨v, zs, rfl, o3, hr⟩, k3⟩)
/-! ### the list with a text -/
def listO (l : List UInt8) : Option (List Int) := if l = [45] then some [] else match rds (cutAt 44 l) with
  | some zs => if Nums zs then some zs else none
  | none => none
def readL (l : List UInt8) : List Int := (listO l).getD []
def readC (l : List UInt8) : Int := if (listO l).isSome then 0 else 6
theorem listO_nums {l : List UInt8} {zs : List Int} (h : listO l = some zs) : Nums zs := by
  unfold listO at h
  split at h
  · injection h with h
    subst h
    exact ⟨by simp, fun z hz => (by cases hz)⟩
  · split at h
    · split at h
      · rename_i hn
        injection h with h
        subst h
        exact hn
      · cases h
    · cases h
theorem readL_len (l : List UInt8) : (readL l).length ≤ 100 := by
  unfold readL
  cases h : listO l with
  | none => simp
  | some zs => exact (listO_nums h).1
theorem slr_some {w w' : World} {l : List UInt8} {zs : List Int} (h : listO l = some zs) {u : Value} (o : Own w.heap.size w' 2 u (ints zs)) (e : Ext w w') : ∃ x, Value.tuple #[u, .int .i64 0] = .tuple #[x, .int .i64 (readC l)] ∧ Own w.heap.size w' 2 x (ints (readL l)) ∧ Ext w w' := by
  unfold readC readL
  rw [h]
  exact ⟨u, rfl, o, e⟩
theorem slr_none {w w' : World} {l : List UInt8} (h : listO l = none) (e : Ext w w') : ∃ x, Value.tuple #[.slice none 0 0, .int .i64 6] = .tuple #[x, .int .i64 (readC l)] ∧ Own w.heap.size w' 2 x (ints (readL l)) ∧ Ext w w' := by
  unfold readC readL
  rw [h]
  exact ⟨_, rfl, Own.nil_ _ _ _, e⟩
end Go.Proofs
end
section
set_option linter.unusedVariables false
namespace Go.Proofs
open Go.Sx Go.RowKit
def Opn (zss : List (List Int)) (ks : List Int) (k : Nat) : Prop := ∀ i, i < k → ks.getD i 0 ∈ zss.getD i []
instance (zss : List (List Int)) (ks : List Int) (k : Nat) : Decidable (Opn zss ks k) := inferInstanceAs (Decidable (∀ i, i < k → _))
theorem Opn.succ {zss : List (List Int)} {ks : List Int} {k : Nat} (h : Opn zss ks k) (hk : k < ks.length) (hz : k < zss.length) (h1 : ks[k] ∈ zss[k]) : Opn zss ks (k + 1) := by
  intro i hi
  rcases Nat.lt_or_ge i k with h2 | h2
  · exact h i h2
  · have : i = k := by omega
    subst this
    rw [getD_get hk, List.getD, List.getElem?_eq_getElem hz]
    exact h1
theorem Opn.at {zss : List (List Int)} {ks : List Int} {k n : Nat} (h : Opn zss ks n) (hn : k < n) (hk : k < ks.length) (hz : k < zss.length) : ks[k] ∈ zss[k] := by
  have := h k hn
  rwa [getD_get hk, List.getD, List.getElem?_eq_getElem hz] at this
def opCode (c d s m l : Int) (zss : List (List Int)) (ks : List Int) : Int := if LkOk c d s m l zss then (if IsK ⟨c, d, s, m, l⟩ ks then 0 else 2) else 1
def opensR (c d s m l : Int) (zss : List (List Int)) (ks : List Int) : Value := if opCode c d s m l zss ks = 0 then .tuple #[.bool (decide (Opn zss ks ks.length)), .int .i64 0] else .tuple #[.bool false, .int .i64 (opCode c d s m l zss ks)]
theorem opensR_pair (c d s m l : Int) (zss : List (List Int)) (ks : List Int) : ∃ x y, opensR c d s m l zss ks = .tuple #[.bool x, .int .i64 y] := by unfold opensR; split <;> exact ⟨_, _, rfl⟩
theorem opCode_zero {c d s m l : Int} {zss : List (List Int)} {ks : List Int} (h : opCode c d s m l zss ks = 0) : LkOk c d s m l zss ∧ IsK ⟨c, d, s, m, l⟩ ks := by
  unfold opCode at h
  split at h
  · split at h
    · exact ⟨by assumption, by assumption⟩
    · cases h
  · cases h
end Go.Proofs
end
section
set_option linter.unusedVariables false
namespace Go.Proofs
open Go.Sx Go.RowKit
def midTo (M : Mk) (zs : List Int) (k : Nat) (x : Int) : List (List Int) := (upFrom (zs.getD k 0 + 1) (x - (zs.getD k 0 + 1)).toNat).flatMap fun y => GA M (zs.length - (k + 1)) (zs.take k ++ [y])
section
variable {M : Mk} {zs : List Int} {k : Nat} {x y : Int}
theorem midTo_zero : midTo M zs k (zs.getD k 0 + 1) = [] := by
  unfold midTo
  rw [show (zs.getD k 0 + 1 - (zs.getD k 0 + 1)).toNat = 0 by omega]
  rfl
theorem midTo_succ (h : zs.getD k 0 + 1 ≤ x) : midTo M zs k (x + 1) = midTo M zs k x ++ GA M (zs.length - (k + 1)) (zs.take k ++ [x]) := by
  unfold midTo
  rw [show (x + 1 - (zs.getD k 0 + 1)).toNat = (x - (zs.getD k 0 + 1)).toNat + 1 by omega, upFrom_succ, List.flatMap_append]
  congr 1
  rw [show zs.getD k 0 + 1 + (((x - (zs.getD k 0 + 1)).toNat : Nat) : Int) = x by omega]
  simp
theorem midTo_pre (h : zs.getD k 0 + 1 ≤ x) (hx : x ≤ y) : ∃ r, midTo M zs k y = midTo M zs k x ++ r := by
  unfold midTo
  rw [show (y - (zs.getD k 0 + 1)).toNat = (x - (zs.getD k 0 + 1)).toNat + (y - x).toNat by omega, upFrom_split, List.flatMap_append]
  exact ⟨_, rfl⟩
end
def spec_l02Next_A (m_Chambers : Int) (m_Depths : Int) (m_Step : Int) (m_Same : Int) (m_Least : Int) (v : Value) (w : World) : Nat → Ann := fun κ => match κ with
  | 0 => { σ := Int, sli := [6], slc := fun s => [SV.v (Value.int .i64 s)], bxi := [], bxc := fun s => [], inv := fun s W => True, μ := fun s W => 0, free := true }
  | 1 => { σ := Int, sli := [7], slc := fun s => [SV.v (Value.int .i64 s)], bxi := [], bxc := fun s => [], inv := fun s W => True, μ := fun s W => 0, free := true }
  | _ => { σ := Unit, sli := [], slc := fun _ => [], bxi := [], bxc := fun _ => [], inv := fun _ _ => False, μ := fun _ _ => 0 }
abbrev spec_l02Next_k0 (s14 : Int) (w15 : World) (J16 : Int → World → Prop) (m17 : Int → World → Nat) (x49 : Int) (w73 : World) : Prop :=
  I64 (x49 + 1) ∧ ∃ s74 : Int, (Value.int .i64 (x49 + 1)) = (Value.int .i64 s74) ∧ (J16 s74 w73) ∧ (m17 s74 w73) < (m17 s14 w15)
abbrev spec_l02Next_k1 (w : World) (Post : Value → World → Prop) (s14 : Int) (w15 : World) (J16 : Int → World → Prop) (m17 : Int → World → Nat) (w22 : World) (x27 : Int) (x30 : Int) (x31 : Int) (x32 : Int) (x33 : Int) (x34 : Int) (x38 : Value) (x39 : Int) (w40 : World) : Prop :=
  ∀ (v41 : Value) (w42 : World), Sx.Own w40.heap.size w42 2 v41 [(Value.int .i64 x39)] → Ext w40 w42 → AppV w42 2 x38 v41 (fun v43 w44 => Ext w22 w44 ∧ Calls Tryz.prog 73 #[(Value.agg #[(Value.int .i64 x30), (Value.int .i64 x31), (Value.int .i64 x32), (Value.int .i64 x33), (Value.int .i64 x34)]), v43] w44 (fun e45 w46 => ∃ u47 : Value, ∃ b48 : Bool, e45 = .returned (Value.tuple #[u47, (Value.bool b48)]) ∧ Keeps w.heap.size [25] w44 w46 ∧ Ext w22 w46 ∧ ((b48 = true → Post (Value.tuple #[u47, (Value.bool true)]) w46) ∧ (b48 = false → (spec_l02Next_k0 s14 w15 J16 m17 x27 w46)))))
abbrev spec_l02Next_k2 (w : World) (Post : Value → World → Prop) (s14 : Int) (w15 : World) (J16 : Int → World → Prop) (m17 : Int → World → Nat) (w22 : World) (x77 : Int) (x80 : Int) (x81 : Int) (x82 : Int) (x83 : Int) (x84 : Int) (x87 : Value) (x89 : Value) (w90 : World) : Prop :=
  Calls Tryz.prog 83 #[x87] w90 (fun e91 w92 => ∃ u93 : Value, e91 = .returned u93 ∧ Keeps w.heap.size [25] w90 w92 ∧ Ext w22 w92 ∧ AppV w92 2 u93 x89 (fun v94 w95 => Ext w22 w95 ∧ Calls Tryz.prog 73 #[(Value.agg #[(Value.int .i64 x80), (Value.int .i64 x81), (Value.int .i64 x82), (Value.int .i64 x83), (Value.int .i64 x84)]), v94] w95 (fun e96 w97 => ∃ u98 : Value, ∃ b99 : Bool, e96 = .returned (Value.tuple #[u98, (Value.bool b99)]) ∧ Keeps w.heap.size [25] w95 w97 ∧ Ext w22 w97 ∧ ((b99 = true → Post (Value.tuple #[u98, (Value.bool true)]) w97) ∧ (b99 = false → (spec_l02Next_k0 s14 w15 J16 m17 x77 w97))))))
abbrev spec_l02Next_k3 (m_Chambers : Int) (m_Depths : Int) (m_Step : Int) (m_Same : Int) (m_Least : Int) (v : Value) (w : World) (Post : Value → World → Prop) (x8 : Int) (s14 : Int) (w15 : World) (J16 : Int → World → Prop) (m17 : Int → World → Nat) (x18 : Int) (w21 : World) : Prop :=
  ∀ w22 : World, Ext w21 w22 → SlV 1 v none (some x8) none (fun u23 => ((Calls Tryz.prog 83 #[u23] w22 (fun e24 w25 => ∃ u26 : Value, e24 = .returned u26 ∧ Keeps w.heap.size [25] w22 w25 ∧ Ext w22 w25 ∧ (spec_l02Next_k1 w Post s14 w15 J16 m17 w22 x18 m_Chambers m_Depths m_Step m_Same m_Least u26 x18 w25))) ∧ (∀ (v75 : Value) (w76 : World), Sx.Own w22.heap.size w76 2 v75 [(Value.int .i64 x18)] → Ext w22 w76 → (spec_l02Next_k2 w Post s14 w15 J16 m17 w22 x18 m_Chambers m_Depths m_Step m_Same m_Least u23 v75 w76))))
abbrev spec_l02Next_k4 (s4 : Int) (w5 : World) (J6 : Int → World → Prop) (m7 : Int → World → Nat) (x100 : Int) (w110 : World) : Prop :=
  I64 (x100 - 1) ∧ ∃ s111 : Int, (Value.int .i64 (x100 - 1)) = (Value.int .i64 s111) ∧ (J6 s111 w110) ∧ (m7 s111 w110) < (m7 s4 w5)
abbrev spec_l02Next_k5 (m_Chambers : Int) (m_Depths : Int) (m_Step : Int) (m_Same : Int) (m_Least : Int) (v : Value) (w : World) (Post : Value → World → Prop) (s4 : Int) (w5 : World) (J6 : Int → World → Prop) (m7 : Int → World → Nat) (x8 : Int) (w10 : World) : Prop :=
  IxV 1 v x8 (fun ad11 => ∃ n12 : Int, LdV w10 (Value.pointer (some ad11)) (Value.int .i64 n12) ∧ I64 (n12 + 1) ∧ (∃ (J16 : Int → World → Prop) (m17 : Int → World → Nat), ((∃ s13 : Int, (Value.int .i64 (n12 + 1)) = (Value.int .i64 s13) ∧ (J16 s13 w10)) ∧ ∀ (s14 : Int) (w15 : World), (J16 s14 w15) → (((s14 < m_Depths) → (spec_l02Next_k3 m_Chambers m_Depths m_Step m_Same m_Least v w Post x8 s14 w15 J16 m17 s14 w15)) ∧ (¬ (s14 < m_Depths) → (spec_l02Next_k4 s4 w5 J6 m7 x8 w15))))))
def spec_l02Next_vc (m_Chambers : Int) (m_Depths : Int) (m_Step : Int) (m_Same : Int) (m_Least : Int) (v : Value) (w : World) (Post : Value → World → Prop) : Prop :=
  ∀ w1 : World, Ext w w1 → LenV v (fun n2 => I64 (n2 - 1) ∧ (∃ (J6 : Int → World → Prop) (m7 : Int → World → Nat), ((∃ s3 : Int, (Value.int .i64 (n2 - 1)) = (Value.int .i64 s3) ∧ (J6 s3 w1)) ∧ ∀ (s4 : Int) (w5 : World), (J6 s4 w5) → ((((0 : Int) ≤ s4) → (spec_l02Next_k5 m_Chambers m_Depths m_Step m_Same m_Least v w Post s4 w5 J6 m7 s4 w5)) ∧ (¬ ((0 : Int) ≤ s4) → Post (Value.tuple #[(Value.slice none 0 0), (Value.bool false)]) w5)))))
theorem spec_l02Next_eq (m_Chambers : Int) (m_Depths : Int) (m_Step : Int) (m_Same : Int) (m_Least : Int) (v : Value) (w : World) (Post : Value → World → Prop) : denF Tryz.prog [1000083, 9000001] (spec_l02Next_A m_Chambers m_Depths m_Step m_Same m_Least v w) 72 [(Value.agg #[(Value.int .i64 m_Chambers), (Value.int .i64 m_Depths), (Value.int .i64 m_Step), (Value.int .i64 m_Same), (Value.int .i64 m_Least)]), v] w Post = spec_l02Next_vc m_Chambers m_Depths m_Step m_Same m_Least v w Post := by kernel_rfl
set_option maxRecDepth 100000 in
theorem spec_l02Next_calls (m_Chambers : Int) (m_Depths : Int) (m_Step : Int) (m_Same : Int) (m_Least : Int) (v : Value) (w : World) (Post : Value → World → Prop) (hvc : spec_l02Next_vc m_Chambers m_Depths m_Step m_Same m_Least v w Post) : Ret Tryz.prog 72 #[(Value.agg #[(Value.int .i64 m_Chambers), (Value.int .i64 m_Depths), (Value.int .i64 m_Step), (Value.int .i64 m_Same), (Value.int .i64 m_Least)]), v] w Post :=
  Ret.of (denF_sound mixed (Eq.mpr (spec_l02Next_eq m_Chambers m_Depths m_Step m_Same m_Least v w Post) hvc))

theorem spec_l02Next_ret {M : Mk} (hM : M.Ok) (v : Value) (zs : List Int) (w : World) (hl : (zs.length : Int) = M.c) (hc : CutsOk M.d zs) (hv : RI w v zs) :
    Ret Tryz.prog 72 #[mkV M.c M.d M.s M.m M.l, v] w fun r w' => Ext w w' ∧ ∃ u ok, r = .tuple #[u, .bool ok] ∧ ((ok = false ∧ u = .slice none 0 0 ∧ above M zs 0 = []) ∨ ∃ k rest, ok = true ∧ above M zs 0 = k :: rest ∧ Own w.heap.size w' 2 u (ints k)) :=
  spec_l02Next_calls M.c M.d M.s M.m M.l v w _ (by
    unfold spec_l02Next_vc
    have hM' := hM
    obtain ⟨hm1, hm2, hm3, hm4, hm5⟩ := hM'
    intro w1 h1
    refine (hv.ext h1).len ⟨by unfold I64; omega, fun s W => -1 ≤ s ∧ s ≤ zs.length - 1 ∧ above M zs (s + 1).toNat = [] ∧ Ext w W, fun s _ => (s + 1).toNat, ⟨zs.length - 1, rfl, by omega, Int.le_refl _, by rw [show ((zs.length : Int) - 1 + 1).toNat = zs.length by omega]; exact above_end, h1⟩, ?_⟩
    rintro s w2 ⟨hs, hs2, ha, k2⟩
    refine ⟨fun h0 => ?_, fun hneg => ⟨k2, _, false, rfl, .inl ⟨rfl, rfl, by rw [show (s + 1).toNat = 0 by omega] at ha; exact ha⟩⟩⟩
    obtain ⟨k, rfl⟩ := Int.eq_ofNat_of_zero_le h0
    rw [show ((k : Int) + 1).toNat = k + 1 by omega] at ha
    have hk : k < zs.length := by omega
    have hz := hc.get hk
    have hzd : zs.getD k 0 = zs[k] := getD_get hk
    refine (hv.ext k2).get k rfl hk ⟨by unfold I64; omega, fun x W => zs[k] + 1 ≤ x ∧ x ≤ M.d ∧ midTo M zs k x = [] ∧ Ext w W, fun x _ => (M.d - x).toNat, ⟨zs[k] + 1, rfl, Int.le_refl _, by omega, by rw [← hzd]; exact midTo_zero, k2⟩, ?_⟩
    rintro x w3 ⟨hx0, hx, hmid, k3⟩
    refine ⟨fun hlt => ?_, fun hge => ?_⟩
    · intro w4 h4
      have k4 := k3.trans h4
      refine (hv.ext k4).sl 0 k rfl rfl (Nat.zero_le _) (by omega) fun t ht => ?_
      rw [List.drop_zero] at ht
      refine own_snoc ht (by rw [List.length_take]; omega) fun u w5 o5 h5 => ?_
      refine (spec_l02First_ret hM (zs.length - (k + 1)) (zs.take k ++ [x]) u w5 (by simp; omega) (CutsOk.snoc (fun z hz => hc z (List.mem_of_mem_take hz)) (by omega) hlt) o5.rd).call ?_
      rintro _ w6 ⟨h6, u6, ok, rfl, hone, hor⟩
      have k6 := (k4.trans h5).trans h6
      refine ⟨u6, ok, rfl, h6.keeps, h5.trans h6, fun hok => ⟨k6, u6, true, rfl, .inr ?_⟩, fun hno => ?_⟩
      · rcases hor with ⟨h, _⟩ | ⟨kk, rest, _, hg, ho⟩
        · rw [hok] at h; cases h
        · have e1 := midTo_succ (M := M) (zs := zs) (k := k) (x := x) (by omega)
          rw [hmid, hg, List.nil_append] at e1
          obtain ⟨r, hr⟩ := midTo_pre (M := M) (zs := zs) (k := k) (x := x + 1) (y := M.d) (by omega) (by omega)
          obtain ⟨r', hr'⟩ := above_pre (M := M) hc (show k ≤ zs.length by omega)
          have e2 := above_step (M := M) hc hk
          rw [ha, List.nil_append] at e2
          change above M zs k = midTo M zs k M.d at e2
          rw [hr, e1] at e2
          rw [e2] at hr'
          refine ⟨kk, rest ++ r ++ r', rfl, by rw [hr']; simp, ?_⟩
          rcases ho with ⟨hn, rfl⟩ | ho
          · have hkp : kk = zs.take k ++ [x] := by
              have hmem : kk ∈ GA M (zs.length - (k + 1)) (zs.take k ++ [x]) := by rw [hg]; exact List.mem_cons_self ..
              obtain ⟨t, ht, hl⟩ := G_pre hmem
              have : t = [] := List.eq_nil_of_length_eq_zero (by omega)
              rw [ht, this, List.append_nil]
            rw [hkp]
            exact (o5.ext h6).mono k4.size
          · exact ho.mono ((k4.trans h5).size)
      · rcases hor with ⟨_, hg⟩ | ⟨kk, rest, h, _⟩
        · refine ⟨by unfold I64; omega, x + 1, rfl, ⟨by omega, by omega, ?_, k6⟩, by simp only; omega⟩
          rw [midTo_succ (by omega), hmid, hg]
          rfl
        · rw [hno] at h; cases h
    · have hxd : x = M.d := by omega
      rw [hxd] at hmid
      refine ⟨by unfold I64; omega, (k : Int) - 1, rfl, ⟨by omega, by omega, ?_, k3⟩, by simp only; omega⟩
      rw [show ((k : Int) - 1 + 1).toNat = k by omega, above_step hc hk, ha, List.nil_append]
      exact hmid)
theorem keys_next {M : Mk} {j : Nat} (hj : j < (keys M).length) (hc : 0 ≤ M.c) : above M (keys M)[j] 0 = (keys M).drop (j + 1) := by
  have hmem : (keys M)[j] ∈ keys M := List.getElem_mem hj
  rw [above_zero M _ (keys_length hc hmem)]
  have hs := get_split (List.getElem?_eq_getElem hj)
  have hp := keys_sorted M
  rw [hs] at hp
  have e := mid_above hp
  rw [← hs] at e
  exact e
/-- as 'push', with what the row reads as behind it -/
theorem OwnR.push2 {B C : Nat} {w3 w4 w5 : World} {v u r : Value} {zss : List (List Int)} {z : List Int} (h : OwnR B w3 v zss) (hu : Own w3.heap.size w4 2 u (ints z)) (e4 : Ext w3 w4) (hr : Own C w5 45 r [u]) (e5 : Ext w4 w5) (hB : B ≤ w3.heap.size) (hl : zss.length < 4398046511104) {K : Value → World → Prop}
    (hK : ∀ v' w6, OwnR B w6 v' (zss ++ [z]) → (∀ w0 : World, w0.heap.size ≤ B → Ext w0 w5 → Ext w0 w6) → RI w6 u z → K v' w6) : AppV w5 45 v r K := by
  obtain ⟨us, h1, h2, h3⟩ := h
  have e := e4.trans e5
  have h1' := h1.ext e
  have hu' := (hu.ext e5)
  refine h1'.app1 hr hu.rd.one (by rw [h2.1]; exact hl) (Nat.le_trans hB e.size) fun v' w6 o6 g6 hb => hK v' w6 ⟨us ++ [u], o6, ?_, ?_⟩ (fun w0 h0 x => x.grown h1' h0 g6) ?_
  · refine (h2.map fun x zx hx => ((hx.ext e).grown g6 (Apart.types (hx.ext e) h1' (by decide)))).snoc ?_
    exact (hu'.mono hB).grown g6 (Apart.types hu' h1' (by decide))
  · rw [List.pairwise_append]
    refine ⟨h3, by simp, fun x hx y hy => ?_⟩
    simp only [List.mem_singleton] at hy
    subst hy
    obtain ⟨i, hi, rfl⟩ := List.getElem_of_mem hx
    have hik : i < zss.length := by rw [← h2.1]; exact hi
    exact Apart.new (h2.get hik) hu
  · exact (hu'.grown g6 (Apart.types hu' h1' (by decide))).rd
theorem keys_max {M : Mk} (hM : M.Ok) : (keys M).length ≤ 262144 := G_max (by have := hM.2.1; omega) _ (by have := hM.1; omega) _
def fkCode (M : Mk) (n : Int) : Int := if MkOk M.c M.d M.s M.m M.l then (if 0 ≤ n ∧ n ≤ 300 then 0 else 2) else 1
def fkR (M : Mk) (n : Int) : List (List Int) := if MkOk M.c M.d M.s M.m M.l then (if 0 ≤ n ∧ n ≤ 300 then (keys M).take n.toNat else []) else []
theorem fkR_total (M : Mk) (n : Int) : total (fkR M n) ≤ 1000000 := by
  unfold fkR
  split
  · rename_i hm
    split
    · rename_i hn
      have h := total_max (zss := (keys M).take n.toNat) (n := 6) fun z hz => by
        have := keys_length (M := M) (by have := hm.1; omega) (List.mem_of_mem_take hz)
        have := hm.1
        omega
      rw [List.length_take] at h
      omega
    · simp [total]
  · simp [total]
end Go.Proofs
end
section
set_option linter.unusedVariables false
namespace Go.Proofs
open Go.Sx Go.RowKit
theorem up_filter : ∀ (n : Nat) (k : Int) (z : List Int), z.Pairwise (· < ·) → (∀ x ∈ z, k ≤ x ∧ x < k + n) → (upFrom k n).filter (fun x => decide (x ∈ z)) = z
  | 0, k, z, _, h => by
    cases z with
    | nil => rfl
    | cons a z => have := h a (by simp); omega
  | n + 1, k, z, hp, h => by
    rw [upFrom_cons]
    cases z with
    | nil =>
      rw [List.filter_eq_nil_iff]
      intro x _
      simp
    | cons a z =>
      have ha := h a (by simp)
      have hpa := List.pairwise_cons.1 hp
      by_cases e : a = k
      · subst e
        rw [List.filter_cons_of_pos (by simp)]
        congr 1
        have ih := up_filter n (a + 1) z hpa.2 fun x hx => by
          have h1 := h x (by simp [hx])
          have h2 := hpa.1 x hx
          omega
        rw [← ih]
        refine List.filter_congr fun x hx => ?_
        have h1 := (mem_upFrom.1 hx).1
        rw [ih]
        refine decide_eq_decide.2 ⟨fun hh => ?_, fun hh => List.mem_cons_of_mem _ hh⟩
        rcases List.mem_cons.1 hh with hh | hh
        · omega
        · exact hh
      · have hk : k ∉ a :: z := fun hh => by
          rcases List.mem_cons.1 hh with hh | hh
          · exact e hh.symm
          · have := hpa.1 k hh
            omega
        rw [List.filter_cons_of_neg (by simpa using hk)]
        refine up_filter n (k + 1) (a :: z) hp fun x hx => ?_
        have h1 := h x hx
        have : x ≠ k := fun e => hk (e ▸ hx)
        omega
theorem rises_pair {n : Int} {z : List Int} (h : Rises n z z.length) : z.Pairwise (· < ·) := by
  rw [List.pairwise_iff_getElem]
  intro i j hi hj hij
  have key : ∀ t : Nat, ∀ hj : i + t + 1 < z.length, z[i] < z[i + t + 1] := by
    intro t
    induction t with
    | zero =>
      intro hj
      have := (h (i + 0 + 1) hj)
      unfold RiseAt at this
      have := this.2.2 (by omega)
      rw [getD_get hj, Nat.add_sub_cancel, getD_get (show i + 0 < z.length by omega)] at this
      exact this
    | succ t ih =>
      intro hj
      have := (h (i + (t + 1) + 1) hj)
      unfold RiseAt at this
      have := this.2.2 (by omega)
      rw [getD_get hj, Nat.add_sub_cancel, getD_get (show i + (t + 1) < z.length by omega)] at this
      exact Int.lt_trans (ih (by omega)) this
  have := key (j - i - 1) (by omega)
  have e : i + (j - i - 1) + 1 = j := by omega
  simp only [e] at this
  exact this
def Al (zss : List (List Int)) : Nat → Int → Bool := fun i x => decide (x ∈ zss.getD i [])
theorem set_ups {d : Int} {zss : List (List Int)} (hs : SetsOk d zss) {i : Nat} (hi : i < zss.length) : (ups d).filter (Al zss i) = zss[i] := by
  have hz := (hs _ (List.getElem_mem hi)).2
  have e : Al zss i = fun x => decide (x ∈ zss[i]) := by
    funext x
    unfold Al
    rw [List.getD, List.getElem?_eq_getElem hi]
    rfl
  rw [e]
  refine up_filter _ _ _ (rises_pair hz) fun x hx => ?_
  have := rises_in hz x hx
  omega
theorem Rows.append {p : Value → List Int → Prop} {us ys : List Value} {zss yss : List (List Int)} (h : Rows p us zss) (g : Rows p ys yss) : Rows p (us ++ ys) (zss ++ yss) := by
  refine ⟨by rw [List.length_append, List.length_append, h.1, g.1], fun i u z hu hz => ?_⟩
  rcases Nat.lt_or_ge i us.length with hl | hl
  · rw [List.getElem?_append_left hl] at hu
    rw [List.getElem?_append_left (by rw [← h.1]; exact hl)] at hz
    exact h.2 i u z hu hz
  · rw [List.getElem?_append_right hl] at hu
    rw [List.getElem?_append_right (by rw [← h.1]; exact hl), ← h.1] at hz
    exact g.2 _ u z hu hz
theorem OwnR.pushAll {B : Nat} {w3 w4 : World} {v x : Value} {zss yss : List (List Int)} (h : OwnR B w3 v zss) (hx : OwnR w3.heap.size w4 x yss) (e : Ext w3 w4) (hB : B ≤ w3.heap.size) (hl : zss.length + yss.length ≤ 4398046511104) {K : Value → World → Prop}
    (hK : ∀ v' w6, OwnR B w6 v' (zss ++ yss) → (∀ w0 : World, w0.heap.size ≤ B → Ext w0 w4 → Ext w0 w6) → K v' w6) : AppV w4 45 v x K := by
  obtain ⟨us, h1, h2, h3⟩ := h
  obtain ⟨ys, g1, g2, g3⟩ := hx
  have h1' := h1.ext e
  refine h1'.app g1.rd (fun u hu => ?_) (by rw [h2.1, g2.1]; exact hl) (Nat.le_trans hB e.size) fun v' w6 o6 gr hb => hK v' w6 ⟨us ++ ys, o6, Rows.append (h2.map fun a z ha => ?_) (g2.map fun a z ha => ?_), ?_⟩ (fun w0 h0 x => x.grown h1' h0 gr)
  · obtain ⟨i, hi, rfl⟩ := List.getElem_of_mem hu
    exact (g2.get (show i < yss.length by rw [← g2.1]; exact hi)).rd.one
  · exact (ha.ext e).grown gr (Apart.types (ha.ext e) h1' (by decide))
  · exact (ha.mono hB).grown gr (Apart.types ha h1' (by decide))
  · rw [List.pairwise_append]
    refine ⟨h3, g3, fun a ha b hb => ?_⟩
    obtain ⟨i, hi, rfl⟩ := List.getElem_of_mem ha
    obtain ⟨j, hj, rfl⟩ := List.getElem_of_mem hb
    exact Apart.new (h2.get (show i < zss.length by rw [← h2.1]; exact hi)) (g2.get (show j < yss.length by rw [← g2.1]; exact hj))
def openersOf (M : Mk) (zss : List (List Int)) : List (List Int) := G M (Al zss) M.c.toNat []
theorem openers_max {M : Mk} (hM : M.Ok) (zss : List (List Int)) : (openersOf M zss).length ≤ 262144 := G_max (by have := hM.2.1; omega) _ (by have := hM.1; omega) _
def coR (c d s m l : Int) (zss : List (List Int)) : Value := if LkOk c d s m l zss then .tuple #[.int .i64 ((openersOf ⟨c, d, s, m, l⟩ zss).length : Int), .int .i64 0] else .tuple #[.int .i64 0, .int .i64 1]
theorem coR_pair (c d s m l : Int) (zss : List (List Int)) : ∃ x y, coR c d s m l zss = .tuple #[.int .i64 x, .int .i64 y] := by unfold coR; split <;> exact ⟨_, _, rfl⟩
def ooCode (c d s m l : Int) (zss : List (List Int)) (n : Int) : Int := if LkOk c d s m l zss then (if 0 ≤ n ∧ n ≤ 300 then 0 else 2) else 1
def ooR (c d s m l : Int) (zss : List (List Int)) (n : Int) : List (List Int) := if LkOk c d s m l zss then (if 0 ≤ n ∧ n ≤ 300 then (openersOf ⟨c, d, s, m, l⟩ zss).take n.toNat else []) else []
theorem ooR_total (c d s m l : Int) (zss : List (List Int)) (n : Int) : total (ooR c d s m l zss n) ≤ 1000000 := by
  unfold ooR
  split
  · rename_i hk
    have hm := hk.1.1
    split
    · rename_i hn
      have h := total_max (zss := (openersOf ⟨c, d, s, m, l⟩ zss).take n.toNat) (n := 6) fun z hz => by
        have := G_length (List.mem_of_mem_take hz)
        simp only [List.length_nil] at this
        omega
      rw [List.length_take] at h
      omega
    · simp [total]
  · simp [total]
end Go.Proofs
end
section
set_option linter.unusedVariables false
namespace Go.Proofs
open Go.Sx Go.RowKit
/-- a call hands back a lock of its own and a code -/
def LkR (f : FuncId) (args : Array Value) (w : World) (zss : List (List Int)) (code : Int) : Prop :=
  Ret Tryz.prog f args w fun r w' => ∃ u, r = .tuple #[lkV u, .int .i64 code] ∧ OwnR w.heap.size w' u zss ∧ Ext w w'
/-- the depths below n that p holds of -/
def filt (p : Int → Bool) (n : Nat) : List Int := (upFrom 0 n).filter p
theorem filt_zero (p : Int → Bool) : filt p 0 = [] := rfl
theorem filt_yes {p : Int → Bool} {n : Nat} (h : p n = true) : filt p (n + 1) = filt p n ++ [(n : Int)] := by
  unfold filt
  rw [upFrom_succ, List.filter_append, Int.zero_add]
  simp [h]
theorem filt_no {p : Int → Bool} {n : Nat} (h : p n = false) : filt p (n + 1) = filt p n := by
  unfold filt
  rw [upFrom_succ, List.filter_append, Int.zero_add]
  simp [h]
theorem filt_len (p : Int → Bool) (n : Nat) : (filt p n).length ≤ n := by
  unfold filt
  exact Nat.le_trans (List.length_filter_le _ _) (by simp)
theorem filt_rises (p : Int → Bool) (n : Nat) : Rises n (filt p n) (filt p n).length := by
  have hs : (filt p n).Pairwise (· < ·) := (upFrom_sorted 0 n).filter _
  intro i hi
  have hm := List.mem_filter.1 (List.getElem_mem hi)
  have := mem_upFrom.1 hm.1
  unfold RiseAt
  rw [getD_get hi]
  refine ⟨by omega, by omega, fun h0 => ?_⟩
  rw [getD_get (show i - 1 < (filt p n).length by omega)]
  exact List.pairwise_iff_getElem.1 hs (i - 1) i (by omega) hi (by omega)
/-- the sets of n chambers -/
def rowsOf (p : Nat → Int → Bool) (d : Int) (n : Nat) : List (List Int) := (List.range n).map fun i => filt (p i) d.toNat
theorem rowsOf_length (p : Nat → Int → Bool) (d : Int) (n : Nat) : (rowsOf p d n).length = n := by simp [rowsOf]
theorem rowsOf_succ (p : Nat → Int → Bool) (d : Int) (n : Nat) : rowsOf p d (n + 1) = rowsOf p d n ++ [filt (p n) d.toNat] := by simp [rowsOf, List.range_succ]
theorem rowsOf_setsOk {p : Nat → Int → Bool} {d : Int} (hd : 0 ≤ d) {n : Nat} (h : ∀ i, i < n → filt (p i) d.toNat ≠ []) : SetsOk d (rowsOf p d n) := by
  intro z hz
  obtain ⟨i, hi, rfl⟩ := List.mem_map.1 hz
  have hi := List.mem_range.1 hi
  refine ⟨h i hi, ?_⟩
  have := filt_rises (p i) d.toNat
  rwa [show ((d.toNat : Nat) : Int) = d by omega] at this
def pJ (za zb : List (List Int)) : Nat → Int → Bool := fun i x => Al za i x || Al zb i x
def pM (za zb : List (List Int)) : Nat → Int → Bool := fun i x => Al za i x && Al zb i x
theorem al_get {za : List (List Int)} {i : Nat} (hi : i < za.length) (x : Int) : Al za i x = decide (x ∈ za[i]) := by
  unfold Al
  rw [List.getD, List.getElem?_eq_getElem hi]
  rfl
theorem filter_set {d : Int} {za : List (List Int)} (hs : SetsOk d za) {i : Nat} (hi : i < za.length) (q : Int → Bool) : za[i].filter q = filt (fun x => Al za i x && q x) d.toNat := by
  unfold filt
  have := set_ups hs hi
  unfold ups at this
  rw [← this, List.filter_filter]
  congr 1
  funext x
  exact Bool.and_comm ..
abbrev Lk2 (M : Mk) (za zb : List (List Int)) : Prop := LkOk M.c M.d M.s M.m M.l za ∧ LkOk M.c M.d M.s M.m M.l zb
def joinR (M : Mk) (za zb : List (List Int)) : List (List Int) := if Lk2 M za zb then rowsOf (pJ za zb) M.d M.c.toNat else []
def joinCode (M : Mk) (za zb : List (List Int)) : Int := if Lk2 M za zb then 0 else 1
def meetOk (M : Mk) (za zb : List (List Int)) : Prop := ∀ i, i < M.c.toNat → filt (pM za zb i) M.d.toNat ≠ []
instance (M : Mk) (za zb : List (List Int)) : Decidable (meetOk M za zb) := inferInstanceAs (Decidable (∀ i, i < _ → _))
def meetR (M : Mk) (za zb : List (List Int)) : List (List Int) := if Lk2 M za zb then (if meetOk M za zb then rowsOf (pM za zb) M.d M.c.toNat else []) else []
def meetCode (M : Mk) (za zb : List (List Int)) : Int := if Lk2 M za zb then (if meetOk M za zb then 0 else 4) else 1
theorem joinR_yes {M : Mk} {za zb : List (List Int)} (h : Lk2 M za zb) : joinR M za zb = rowsOf (pJ za zb) M.d M.c.toNat ∧ joinCode M za zb = 0 := by unfold joinR joinCode; rw [if_pos h, if_pos h]; exact ⟨rfl, rfl⟩
theorem joinR_no {M : Mk} {za zb : List (List Int)} (h : ¬ Lk2 M za zb) : joinR M za zb = [] ∧ joinCode M za zb = 1 := by unfold joinR joinCode; rw [if_neg h, if_neg h]; exact ⟨rfl, rfl⟩
theorem meetR_yes {M : Mk} {za zb : List (List Int)} (h : Lk2 M za zb) (h2 : meetOk M za zb) : meetR M za zb = rowsOf (pM za zb) M.d M.c.toNat ∧ meetCode M za zb = 0 := by unfold meetR meetCode; rw [if_pos h, if_pos h, if_pos h2, if_pos h2]; exact ⟨rfl, rfl⟩
theorem meetR_none {M : Mk} {za zb : List (List Int)} (h : Lk2 M za zb) (h2 : ¬ meetOk M za zb) : meetR M za zb = [] ∧ meetCode M za zb = 4 := by unfold meetR meetCode; rw [if_pos h, if_pos h, if_neg h2, if_neg h2]; exact ⟨rfl, rfl⟩
theorem meetR_no {M : Mk} {za zb : List (List Int)} (h : ¬ Lk2 M za zb) : meetR M za zb = [] ∧ meetCode M za zb = 1 := by unfold meetR meetCode; rw [if_neg h, if_neg h]; exact ⟨rfl, rfl⟩
theorem lk2_lks {M : Mk} {za zb : List (List Int)} : LksOk M.c M.d M.s M.m M.l [za, zb] ↔ Lk2 M za zb := by
  unfold LksOk Lk2 LkOk
  simp only [List.mem_cons, List.not_mem_nil, or_false, forall_eq_or_imp, forall_eq]
  constructor
  · rintro ⟨h1, h2, h3⟩
    exact ⟨⟨h1, h2⟩, h1, h3⟩
  · rintro ⟨⟨h1, h2⟩, _, h3⟩
    exact ⟨h1, h2, h3⟩
theorem OwnR.new {B : Nat} {w0 w : World} {u : Value} (o : Own B w 45 u []) (h : w0.heap.size ≤ B) : OwnR w0.heap.size w u [] := ⟨[], o.mono h, Rows.nil_, .nil⟩
theorem meet_isLock {M : Mk} {za zb : List (List Int)} (hA : LkOk M.c M.d M.s M.m M.l za) : (((rowsOf (pM za zb) M.d M.c.toNat).length : Int) = M.c ∧ SetsOk M.d (rowsOf (pM za zb) M.d M.c.toNat)) ↔ meetOk M za zb := by
  have hc := hA.1.1
  have hd := hA.1.2.1
  constructor
  · rintro ⟨_, hs⟩ i hi
    exact (hs _ (List.mem_map.2 ⟨i, List.mem_range.2 hi, rfl⟩)).1
  · intro h
    exact ⟨by rw [rowsOf_length]; omega, rowsOf_setsOk (by omega) h⟩
theorem rowsOf_total {p : Nat → Int → Bool} {d : Int} (hd : d ≤ 8) {n : Nat} (hn : n ≤ 6) : total (rowsOf p d n) ≤ 48 := by
  have := total_max (zss := rowsOf p d n) (n := 8) fun z hz => by
    obtain ⟨i, hi, rfl⟩ := List.mem_map.1 hz
    have := filt_len (p i) d.toNat
    omega
  rw [rowsOf_length] at this
  omega
theorem joinR_total (M : Mk) (za zb : List (List Int)) : total (joinR M za zb) ≤ 1000000 := by
  unfold joinR
  split
  · rename_i h
    have hc := h.1.1.1
    have hd := h.1.1.2.1
    have := rowsOf_total (p := pJ za zb) (d := M.d) (by omega) (n := M.c.toNat) (by omega)
    omega
  · simp [total]
theorem meetR_total (M : Mk) (za zb : List (List Int)) : total (meetR M za zb) ≤ 1000000 := by
  unfold meetR
  split
  · rename_i h
    split
    · have hc := h.1.1.1
      have hd := h.1.1.2.1
      have := rowsOf_total (p := pM za zb) (d := M.d) (by omega) (n := M.c.toNat) (by omega)
      omega
    · simp [total]
  · simp [total]
end Go.Proofs
end
section
set_option linter.unusedVariables false
namespace Go.Proofs
open Go.Sx Go.RowKit
def nextR (M : Mk) (zs : List Int) : List Int := if MkOk M.c M.d M.s M.m M.l then (if (zs.length : Int) = M.c ∧ CutsOk M.d zs then ((keys M).filter (llt zs)).headD [] else []) else []
def nextCode (M : Mk) (zs : List Int) : Int := if MkOk M.c M.d M.s M.m M.l then (if (zs.length : Int) = M.c ∧ CutsOk M.d zs then (if (keys M).filter (llt zs) = [] then 4 else 0) else 2) else 1
theorem nextR_len (M : Mk) (zs : List Int) : (nextR M zs).length ≤ 1000 := by
  unfold nextR
  split
  · rename_i hm
    split
    · cases hk : (keys M).filter (llt zs) with
      | nil => simp
      | cons k r =>
        have hmem : k ∈ (keys M).filter (llt zs) := by rw [hk]; exact List.mem_cons_self ..
        have := keys_length (M := M) (by have := hm.1; omega) (List.mem_filter.1 hmem).1
        have := hm.1
        simp only [List.headD_cons]
        omega
    · simp
  · simp
section
variable {P F : List (List Int)} {zs : List Int}
theorem next_found (hP : P = [] ∨ P = [zs]) (hF : zs ∉ F) {k : Nat} (hk : k < ((P ++ F).take 2).length) (hpre : ∀ (i : Nat) (hi : i < ((P ++ F).take 2).length), i < k → ((P ++ F).take 2)[i] = zs) (hne : ((P ++ F).take 2)[k] ≠ zs) : ∃ r, F = ((P ++ F).take 2)[k] :: r := by
  rcases hP with rfl | rfl
  · cases F with
    | nil => simp at hk
    | cons f F =>
      match k, hk, hpre, hne with
      | 0, _, _, _ => exact ⟨F, rfl⟩
      | k + 1, hk, hpre, hne =>
        have := hpre 0 (by omega) (by omega)
        exact absurd (by rw [← this]; exact List.mem_cons_self ..) hF
  · match k, hk, hpre, hne with
    | 0, _, _, hne => exact absurd rfl hne
    | k + 1, hk, hpre, hne =>
      cases F with
      | nil => simp at hk
      | cons f F =>
        match k, hk with
        | 0, _ => exact ⟨F, rfl⟩
        | k + 1, hk => simp at hk; omega
theorem next_none (hP : P = [] ∨ P = [zs]) (hF : zs ∉ F) (hall : ∀ (i : Nat) (hi : i < ((P ++ F).take 2).length), ((P ++ F).take 2)[i] = zs) : F = [] := by
  cases F with
  | nil => rfl
  | cons f F =>
    rcases hP with rfl | rfl
    · have : f = zs := hall 0 (by simp)
      exact absurd (by rw [← this]; exact List.mem_cons_self ..) hF
    · have : f = zs := hall 1 (by simp)
      exact absurd (by rw [← this]; exact List.mem_cons_self ..) hF
end
end Go.Proofs
end
section
set_option linter.unusedVariables false
namespace Go.Proofs
open Go.Sx Go.RowKit
def rankOf (M : Mk) (ks : List Int) : Int := (((keys M).filter fun k => llt k ks).length : Int)
def rankR (M : Mk) (ks : List Int) : Value := if kCode M [ks] = 0 then .tuple #[.int .i64 (rankOf M ks), .int .i64 0] else .tuple #[.int .i64 0, .int .i64 (kCode M [ks])]
theorem rankR_pair (M : Mk) (ks : List Int) : ∃ x y, rankR M ks = .tuple #[.int .i64 x, .int .i64 y] := by unfold rankR; split <;> exact ⟨_, _, rfl⟩
/-! ### the program -/
def cnt (ks : List Int) (done : List (List Int)) : Int := ((done.filter fun k => decide (k ≠ ks)).length : Int)
theorem cnt_same {ks : List Int} (done : List (List Int)) : cnt ks (done ++ [ks]) = cnt ks done := by simp [cnt]
theorem cnt_other {ks k : List Int} (h : k ≠ ks) (done : List (List Int)) : cnt ks (done ++ [k]) = cnt ks done + 1 := by simp [cnt, h]
theorem cnt_le (ks : List Int) (done : List (List Int)) : 0 ≤ cnt ks done ∧ cnt ks done ≤ done.length := by
  have := List.length_filter_le (fun k => decide (k ≠ ks)) done
  unfold cnt
  omega
theorem cnt_not {ks : List Int} {a : List (List Int)} (h : ks ∉ a) : cnt ks a = a.length := by
  unfold cnt
  rw [List.filter_eq_self.2]
  intro k hk
  exact decide_eq_true fun e => h (e ▸ hk)
def rankJ (wb : World) (b0 b1 : Nat) (kv : Value) (ks : List Int) : (Nat → Prop) → List (List Int) → World → Prop := fun K done w =>
  ¬ K b0 ∧ ¬ K b1 ∧ (∀ b, b < wb.heap.size → ¬ K b) ∧ Ext wb w ∧ w.heap[b0]? = some (.cells #[kv] 45 (0, 0)) ∧ w.heap[b1]? = some (.cells #[.int .i64 (cnt ks done)] 2 (0, 0))
end Go.Proofs
end
section
set_option linter.unusedVariables false
namespace Go.Proofs
open Go.Sx Go.RowKit
theorem farTo_comm (a b : List Int) : ∀ k, farTo a b k = farTo b a k
  | 0 => rfl
  | k + 1 => by
    unfold farTo
    rw [farTo_comm a b k]
    omega
theorem farTo_nonneg (a b : List Int) : ∀ k, 0 ≤ farTo a b k
  | 0 => Int.le_refl _
  | k + 1 => by
    have := farTo_nonneg a b k
    unfold farTo
    omega
theorem farTo_same (a : List Int) : ∀ k, farTo a a k = 0
  | 0 => rfl
  | k + 1 => by
    unfold farTo
    rw [farTo_same a k]
    omega
theorem farTo_eq {a b : List Int} : ∀ k, farTo a b k ≤ 0 → ∀ i, i < k → a.getD i 0 = b.getD i 0
  | 0, _, i, hi => absurd hi (Nat.not_lt_zero i)
  | k + 1, h, i, hi => by
    have h0 := farTo_nonneg a b k
    unfold farTo at h
    rcases Nat.lt_or_ge i k with h1 | h1
    · exact farTo_eq k (by omega) i h1
    · have : i = k := by omega
      subst this
      omega
theorem far_pos {a b : List Int} (hl : a.length = b.length) : 0 < farTo a b a.length ↔ b ≠ a := by
  constructor
  · rintro h rfl
    rw [farTo_same] at h
    omega
  · intro h
    rcases Int.lt_or_le 0 (farTo a b a.length) with h1 | h1
    · exact h1
    · refine absurd (List.ext_getElem hl.symm fun i h2 h3 => ?_) h
      have := farTo_eq _ h1 i h3
      rw [getD_get h3, getD_get h2] at this
      exact this.symm
def farOf (ks k : List Int) : Int := farTo ks k ks.length
def nearS (ks best k : List Int) : List Int := if k ≠ ks ∧ (best = [] ∨ farOf ks k < farOf ks best) then k else best
def nearF (ks : List Int) (l : List (List Int)) : List Int := l.foldl (nearS ks) []
theorem nearF_snoc (ks : List Int) (l : List (List Int)) (k : List Int) : nearF ks (l ++ [k]) = nearS ks (nearF ks l) k := by
  unfold nearF
  rw [List.foldl_append]
  rfl
theorem nearF_mem (ks : List Int) (l : List (List Int)) : nearF ks l = [] ∨ nearF ks l ∈ l := by
  have gen : ∀ (l : List (List Int)) (a : List Int), l.foldl (nearS ks) a = a ∨ l.foldl (nearS ks) a ∈ l := by
    intro l
    induction l with
    | nil => intro a; exact .inl rfl
    | cons k l ih =>
      intro a
      rw [List.foldl_cons]
      rcases ih (nearS ks a k) with h | h
      · rw [h]
        unfold nearS
        split
        · exact .inr (List.mem_cons_self ..)
        · exact .inl rfl
      · exact .inr (List.mem_cons_of_mem _ h)
  exact gen l []
def nearestR (M : Mk) (ks : List Int) : List Int := if kCode M [ks] = 0 then nearF ks (keys M) else []
theorem nearestR_len (M : Mk) (ks : List Int) : (nearestR M ks).length ≤ 1000 := by
  unfold nearestR
  split
  · rename_i h
    have hm := (kCode_zero h).1
    have hc := hm.1
    rcases nearF_mem ks (keys M) with h1 | h1
    · rw [h1]; simp
    · have := keys_length (M := M) (by omega) h1
      omega
  · simp
def spec_l01Same_A (a : Value) (b : Value) (w : World) : Nat → Ann := fun κ => match κ with
  | 0 => { σ := Nat, sli := [5], slc := fun s => [SV.v (Value.int .i64 (s : Int))], bxi := [], bxc := fun s => [], inv := fun s W => True, μ := fun s W => 0, free := true }
  | _ => { σ := Unit, sli := [], slc := fun _ => [], bxi := [], bxc := fun _ => [], inv := fun _ _ => False, μ := fun _ _ => 0 }
abbrev spec_l01Same_k0 (s11 : Nat) (w12 : World) (J13 : Nat → World → Prop) (m14 : Nat → World → Nat) (x26 : Int) (w38 : World) : Prop :=
  I64 (x26 + 1) ∧ ∃ s39 : Nat, (Value.int .i64 (x26 + 1)) = (Value.int .i64 (s39 : Int)) ∧ (J13 s39 w38) ∧ (m14 s39 w38) < (m14 s11 w12)
abbrev spec_l01Same_k1 (Post : Value → World → Prop) (x3 : Value) (x4 : Value) (s11 : Nat) (w12 : World) (J13 : Nat → World → Prop) (m14 : Nat → World → Nat) (x16 : Int) (w20 : World) : Prop :=
  IxV 1 x3 x16 (fun ad21 => ∃ n22 : Int, LdV w20 (Value.pointer (some ad21)) (Value.int .i64 n22) ∧ IxV 1 x4 x16 (fun ad23 => ∃ n24 : Int, LdV w20 (Value.pointer (some ad23)) (Value.int .i64 n24) ∧ ∀ w25 : World, Ext w20 w25 → (((n22 ≠ n24) → Post (Value.bool false) w25) ∧ (¬ (n22 ≠ n24) → (spec_l01Same_k0 s11 w12 J13 m14 x16 w25)))))
abbrev spec_l01Same_k2 (Post : Value → World → Prop) (x3 : Value) (x4 : Value) (w9 : World) : Prop :=
  (∃ (J13 : Nat → World → Prop) (m14 : Nat → World → Nat), ((∃ s10 : Nat, (Value.int .i64 0) = (Value.int .i64 (s10 : Int)) ∧ (J13 s10 w9)) ∧ ∀ (s11 : Nat) (w12 : World), (J13 s11 w12) → LenV x3 (fun n15 => ((((s11 : Int) < n15) → (spec_l01Same_k1 Post x3 x4 s11 w12 J13 m14 (s11 : Int) w12)) ∧ (¬ ((s11 : Int) < n15) → Post (Value.bool true) w12)))))
def spec_l01Same_vc (a : Value) (b : Value) (w : World) (Post : Value → World → Prop) : Prop :=
  LenV a (fun n1 => LenV b (fun n2 => (((n1 ≠ n2) → Post (Value.bool false) w) ∧ (¬ (n1 ≠ n2) → (spec_l01Same_k2 Post a b w)))))
theorem spec_l01Same_eq (a : Value) (b : Value) (w : World) (Post : Value → World → Prop) : denF Tryz.prog [] (spec_l01Same_A a b w) 50 [a, b] w Post = spec_l01Same_vc a b w Post := by kernel_rfl
set_option maxRecDepth 100000 in
theorem spec_l01Same_calls (a : Value) (b : Value) (w : World) (Post : Value → World → Prop) (hvc : spec_l01Same_vc a b w Post) : Ret Tryz.prog 50 #[a, b] w Post :=
  Ret.of (denF_sound mixed (Eq.mpr (spec_l01Same_eq a b w Post) hvc))

theorem spec_l01Same_val (a b : Value) (xs ys : List Int) (w : World) (ha : RI w a xs) (hb : RI w b ys) : Val Tryz.prog 50 #[a, b] w (.bool (decide (xs = ys))) :=
  Ret.val (spec_l01Same_calls a b w _ (by
    unfold spec_l01Same_vc
    have hbd := ha.bound
    refine ha.len (hb.len ⟨fun hne => ⟨?_, .refl w⟩, fun heq => ?_⟩)
    · have : xs ≠ ys := fun e => hne (by rw [e])
      simp [this]
    · have hll : xs.length = ys.length := by omega
      refine ⟨fun k W => k ≤ xs.length ∧ Ext w W ∧ xs.take k = ys.take k, fun k _ => xs.length - k, ⟨0, rfl, Nat.zero_le _, .refl w, by simp⟩, ?_⟩
      rintro k w1 ⟨hk, h1, hpre⟩
      refine (ha.ext h1).len ⟨fun hlt => ?_, fun hge => ?_⟩
      · have hlt' : k < xs.length := by omega
        refine (ha.ext h1).get k rfl hlt' ((hb.ext h1).get k rfl (by omega) ?_)
        intro w2 h2
        refine ⟨fun hne => ⟨?_, h1.trans h2⟩, fun heq => ⟨by unfold I64; omega, k + 1, rfl, ⟨hlt', h1.trans h2, ?_⟩, by simp only; omega⟩⟩
        · have : xs ≠ ys := by
            rintro rfl
            exact hne rfl
          simp [this]
        · have e : xs[k] = ys[k] := Classical.not_not.1 heq
          rw [take_snoc xs k hlt', take_snoc ys k (by omega), hpre, e]
      · have hkl : k = xs.length := by omega
        refine ⟨?_, h1⟩
        have : xs = ys := by
          rw [hkl] at hpre
          rw [List.take_of_length_le (Nat.le_refl _), List.take_of_length_le (by omega)] at hpre
          exact hpre
        simp [this]))
/-- the reference's loop -/
def nearLoop (M : Mk) (ks : List Int) (w : World) : (Nat × Bool × Value × Value) → World → Prop := fun s W =>
  Ext w W ∧ s.1 ≤ (keys M).length ∧ Own w.heap.size W 2 s.2.2.1 (ints (nearF ks ((keys M).take s.1))) ∧
    (s.2.1 = true → ∃ hj : s.1 < (keys M).length, Own w.heap.size W 2 s.2.2.2 (ints (keys M)[s.1])) ∧ (s.2.1 = false → (keys M).length ≤ s.1)
/-! ### the program -/
def nearestJ (wb : World) (b0 b1 b2 : Nat) (kv : Value) (ks : List Int) : (Nat → Prop) → List (List Int) → World → Prop := fun K done w =>
  ¬ K b0 ∧ ¬ K b1 ∧ ¬ K b2 ∧ (∀ b, b < wb.heap.size → ¬ K b) ∧ Ext wb w ∧ w.heap[b0]? = some (.cells #[kv] 45 (0, 0)) ∧ w.heap[b1]? = some (.cells #[.int .i64 (if nearF ks done = [] then -1 else farOf ks (nearF ks done))] 2 (0, 0)) ∧
    ∃ nv, w.heap[b2]? = some (.cells #[nv] 45 (0, 0)) ∧ Own wb.heap.size w 2 nv (ints (nearF ks done)) ∧ (∀ g, nv.ownBlock = some g → ¬ K g) ∧ nv.ownBlock ≠ some b1
end Go.Proofs
end
section
set_option linter.unusedVariables false
namespace Go.Proofs
open Go.Sx Go.RowKit
/-! ### pins and sets -/
def ats (st : List Int) (k : Nat) : Int := (st.take k).sum
theorem ats_zero (st : List Int) : ats st 0 = 0 := by simp [ats]
theorem ats_succ {st : List Int} {k : Nat} (hk : k < st.length) : ats st (k + 1) = ats st k + st[k] := by
  unfold ats
  rw [take_snoc st k hk, List.sum_append]
  simp only [List.sum_cons, List.sum_nil, Int.add_zero]
theorem ats_all (st : List Int) : ats st st.length = st.sum := by unfold ats; rw [List.take_of_length_le (Nat.le_refl _)]
theorem ats_range {st : List Int} (h : ∀ x ∈ st, 0 ≤ x ∧ x ≤ 8) : ∀ k, k ≤ st.length → 0 ≤ ats st k ∧ ats st k ≤ 8 * k
  | 0, _ => by rw [ats_zero]; omega
  | k + 1, hk => by
    have ih := ats_range h k (by omega)
    have := h _ (List.getElem_mem (show k < st.length by omega))
    rw [ats_succ (by omega)]
    omega
def setTo (st : List Int) (n : Nat) : List Int := (List.range n).map fun k => ats st (k + 1)
theorem setTo_length (st : List Int) (n : Nat) : (setTo st n).length = n := by simp [setTo]
theorem setTo_succ (st : List Int) (n : Nat) : setTo st (n + 1) = setTo st n ++ [ats st (n + 1)] := by simp [setTo, List.range_succ]
theorem setTo_get {st : List Int} {n k : Nat} (hk : k < n) : (setTo st n).getD k 0 = ats st (k + 1) := by
  rw [getD_get (by rw [setTo_length]; exact hk)]
  simp [setTo]
def setOf (st : List Int) : List Int := setTo st (st.length - 1)
def lop (zss : List (List Int)) : List (List Int) := zss.map setOf
theorem lop_length (zss : List (List Int)) : (lop zss).length = zss.length := by simp [lop]
theorem lop_succ {zss : List (List Int)} {i : Nat} (hi : i < zss.length) : lop (zss.take (i + 1)) = lop (zss.take i) ++ [setTo zss[i] (zss[i].length - 1)] := by
  unfold lop
  rw [take_snoc zss i hi, List.map_append]
  rfl
def small (zss : List (List Int)) : Prop := ∀ z ∈ zss, ∀ x ∈ z, 0 ≤ x ∧ x ≤ 8
instance (zss : List (List Int)) : Decidable (small zss) := inferInstanceAs (Decidable (∀ z ∈ zss, ∀ x ∈ z, 0 ≤ x ∧ x ≤ 8))
def pinOk (d : Int) (st : List Int) : Prop := (∀ z ∈ st, 0 ≤ z ∧ z ≤ d - 1) ∧ (st.length : Int) ≤ d + 1 ∧ st.sum = d - 1
instance (d : Int) (st : List Int) : Decidable (pinOk d st) := inferInstanceAs (Decidable (_ ∧ _ ∧ _))
def lopOk (M : Mk) (zss : List (List Int)) : Prop := (∀ z ∈ zss, pinOk M.d z) ∧ (zss.length : Int) = M.c ∧ SetsOk M.d (lop zss)
instance (M : Mk) (zss : List (List Int)) : Decidable (lopOk M zss) := inferInstanceAs (Decidable (_ ∧ _ ∧ _))
def lopR (M : Mk) (zss : List (List Int)) : List (List Int) := if MkOk M.c M.d M.s M.m M.l then (if lopOk M zss then lop zss else []) else []
def lopCode (M : Mk) (zss : List (List Int)) : Int := if MkOk M.c M.d M.s M.m M.l then (if lopOk M zss then 0 else 2) else 1
theorem lop_no {M : Mk} {zss : List (List Int)} (h : ¬ MkOk M.c M.d M.s M.m M.l) : lopR M zss = [] ∧ lopCode M zss = 1 := by unfold lopR lopCode; rw [if_neg h, if_neg h]; exact ⟨rfl, rfl⟩
theorem lop_bad {M : Mk} {zss : List (List Int)} (h : MkOk M.c M.d M.s M.m M.l) (h2 : ¬ lopOk M zss) : lopR M zss = [] ∧ lopCode M zss = 2 := by unfold lopR lopCode; rw [if_pos h, if_pos h, if_neg h2, if_neg h2]; exact ⟨rfl, rfl⟩
theorem lop_yes {M : Mk} {zss : List (List Int)} (h : MkOk M.c M.d M.s M.m M.l) (h2 : lopOk M zss) : lopR M zss = lop zss ∧ lopCode M zss = 0 := by unfold lopR lopCode; rw [if_pos h, if_pos h, if_pos h2, if_pos h2]; exact ⟨rfl, rfl⟩
theorem lopR_total (M : Mk) (zss : List (List Int)) : total (lopR M zss) ≤ 1000000 := by
  unfold lopR
  split
  · rename_i hm
    split
    · rename_i h
      obtain ⟨_, h1, h2⟩ := lk_small (show LkOk M.c M.d M.s M.m M.l (lop zss) from ⟨hm, by rw [lop_length]; exact h.2.1, h.2.2⟩)
      have := total_max (zss := lop zss) (n := 100) fun z hz => (h2 z hz).2.1
      omega
    · simp [total]
  · simp [total]
theorem stack_set {d : Int} {st : List Int} (h0 : 0 < st.length) (hs : st.sum = d - 1) (h1 : setOf st ≠ []) : stack d (setOf st) = st := by
  have hn : 0 < st.length - 1 := by
    rcases Nat.eq_zero_or_pos (st.length - 1) with h | h
    · exact absurd (List.eq_nil_of_length_eq_zero (by unfold setOf; rw [setTo_length]; exact h)) h1
    · exact h
  have hl : (setOf st).length = st.length - 1 := by unfold setOf; rw [setTo_length]
  have hlen : (stack d (setOf st)).length = st.length := by rw [stack_length, hl]; omega
  apply List.ext_getElem hlen
  intro k hk hk'
  by_cases hlt : k < st.length - 1
  · have hk2 : k < (steps (setOf st)).length := by rw [steps_length, hl]; exact hlt
    simp only [stack]
    rw [List.getElem_append_left hk2, steps_get]
    unfold setOf
    split
    · rename_i h0
      subst h0
      rw [setTo_get hlt, ats_succ hk', ats_zero, Int.zero_add]
    · rw [setTo_get hlt, setTo_get (show k - 1 < st.length - 1 by omega), ats_succ hk', show k - 1 + 1 = k by omega]
      omega
  · have he : k = st.length - 1 := by omega
    have hk2 : (steps (setOf st)).length ≤ k := by rw [steps_length, hl]; omega
    simp only [stack]
    rw [List.getElem_append_right hk2]
    simp only [List.getElem_singleton]
    rw [hl]
    unfold setOf
    rw [setTo_get (show st.length - 1 - 1 < st.length - 1 by omega), show st.length - 1 - 1 + 1 = st.length - 1 by omega]
    have := ats_succ (st := st) (k := st.length - 1) (by omega)
    rw [show st.length - 1 + 1 = st.length by omega, ats_all, hs] at this
    subst he
    omega
theorem pin_of {d : Int} {st : List Int} (hd : 1 ≤ d) (h1 : setOf st ≠ []) (hr : Rises d (setOf st) (setOf st).length) (he : stack d (setOf st) = st) : pinOk d st := by
  have hl : (setOf st).length = st.length - 1 := by unfold setOf; rw [setTo_length]
  have hn : 0 < st.length - 1 := by
    rcases Nat.eq_zero_or_pos (st.length - 1) with h | h
    · exact absurd (List.eq_nil_of_length_eq_zero (by rw [hl]; exact h)) h1
    · exact h
  have hlast := hr (st.length - 2) (by rw [hl]; omega)
  have hlen := rises_len hr (show 0 ≤ d by omega)
  rw [hl] at hlen
  refine ⟨fun z hz => ?_, ?_, ?_⟩
  · rw [← he] at hz
    unfold stack at hz
    rcases List.mem_append.1 hz with hz | hz
    · obtain ⟨k, hk, rfl⟩ := List.getElem_of_mem hz
      rw [steps_get]
      have hk' : k < (setOf st).length := by rw [steps_length] at hk; exact hk
      have a := hr k hk'
      split
      · rename_i h0; subst h0
        have := a.1; have := a.2.1
        omega
      · have b := hr (k - 1) (by omega)
        have := a.1; have := a.2.1; have := a.2.2 (by omega); have := b.1; have := b.2.1
        omega
    · simp only [List.mem_singleton] at hz
      rw [hl, show st.length - 1 - 1 = st.length - 2 by omega] at hz
      have := hlast.1; have := hlast.2.1
      omega
  · have := hlast.2.1
    omega
  · rw [← ats_all]
    have hg : st.getD (st.length - 1) 0 = d - 1 - ats st (st.length - 1) := by
      have : (stack d (setOf st)).getD (st.length - 1) 0 = d - 1 - (setOf st).getD ((setOf st).length - 1) 0 := by
        rw [getD_get (by rw [stack_length, hl]; omega)]
        unfold stack
        rw [List.getElem_append_right (by rw [steps_length, hl]; omega)]
        simp
      rw [he, hl] at this
      rw [this]
      unfold setOf
      rw [setTo_get (show st.length - 1 - 1 < st.length - 1 by omega), show st.length - 1 - 1 + 1 = st.length - 1 by omega]
    have := ats_succ (st := st) (k := st.length - 1) (by omega)
    rw [show st.length - 1 + 1 = st.length by omega] at this
    rw [getD_get (show st.length - 1 < st.length by omega)] at hg
    omega
theorem lop_iff {M : Mk} {zss : List (List Int)} (hm : MkOk M.c M.d M.s M.m M.l) : lopOk M zss ↔ small zss ∧ LkOk M.c M.d M.s M.m M.l (lop zss) ∧ (lop zss).map (stack M.d) = zss := by
  have hd := hm.2.1
  constructor
  · rintro ⟨h1, h2, h3⟩
    refine ⟨fun z hz x hx => ?_, ⟨hm, by rw [lop_length]; exact h2, h3⟩, ?_⟩
    · have := (h1 z hz).1 x hx
      omega
    · unfold lop
      rw [List.map_map]
      conv => rhs; rw [← List.map_id zss]
      apply List.map_congr_left
      intro st hst
      have hp := h1 st hst
      have hne : st ≠ [] := fun e => by have := hp.2.2; rw [e] at this; simp at this; omega
      exact stack_set (List.length_pos_iff.2 hne) hp.2.2 (h3 _ (List.mem_map.2 ⟨st, hst, rfl⟩)).1
  · rintro ⟨h1, h2, h3⟩
    refine ⟨fun st hst => ?_, by have := h2.2.1; rw [lop_length] at this; exact this, h2.2.2⟩
    have hq := h2.2.2 (setOf st) (List.mem_map.2 ⟨st, hst, rfl⟩)
    refine pin_of (by omega) hq.1 hq.2 ?_
    obtain ⟨i, hi, rfl⟩ := List.getElem_of_mem hst
    have : ((lop zss).map (stack M.d))[i]? = zss[i]? := by rw [h3]
    unfold lop at this
    rw [List.map_map, List.getElem?_map, List.getElem?_eq_getElem hi] at this
    simpa using this
def spec_l05Small_A (v : Value) (w : World) : Nat → Ann := fun κ => match κ with
  | 0 => { σ := Nat, sli := [3], slc := fun s => [SV.v (Value.int .i64 (s : Int))], bxi := [], bxc := fun s => [], inv := fun s W => True, μ := fun s W => 0, free := true }
  | 1 => { σ := Nat, sli := [4], slc := fun s => [SV.v (Value.int .i64 (s : Int))], bxi := [], bxc := fun s => [], inv := fun s W => True, μ := fun s W => 0, free := true }
  | _ => { σ := Unit, sli := [], slc := fun _ => [], bxi := [], bxc := fun _ => [], inv := fun _ _ => False, μ := fun _ _ => 0 }
abbrev spec_l05Small_k0 (s13 : Nat) (w14 : World) (J15 : Nat → World → Prop) (m16 : Nat → World → Nat) (x35 : Int) (w51 : World) : Prop :=
  I64 (x35 + 1) ∧ ∃ s52 : Nat, (Value.int .i64 (x35 + 1)) = (Value.int .i64 (s52 : Int)) ∧ (J15 s52 w51) ∧ (m16 s52 w51) < (m16 s13 w14)
abbrev spec_l05Small_k1 (v : Value) (w : World) (Post : Value → World → Prop) (x7 : Int) (s13 : Nat) (w14 : World) (J15 : Nat → World → Prop) (m16 : Nat → World → Nat) (x20 : Int) (w27 : World) : Prop :=
  IxV 1 v x7 (fun ad28 => ∃ u29 : Value, LdV w27 (Value.pointer (some ad28)) u29 ∧ IxV 1 u29 x20 (fun ad30 => ∃ n31 : Int, LdV w27 (Value.pointer (some ad30)) (Value.int .i64 n31) ∧ Calls Tryz.prog 49 #[(Value.int .i64 n31), (Value.int .i64 0), (Value.int .i64 8)] w27 (fun e32 w33 => ∃ b34 : Bool, e32 = .returned (Value.bool b34) ∧ Keeps w.heap.size [] w27 w33 ∧ (((!b34) = true → Post (Value.bool false) w33) ∧ ((!b34) = false → (spec_l05Small_k0 s13 w14 J15 m16 x20 w33))))))
abbrev spec_l05Small_k2 (s2 : Nat) (w3 : World) (J4 : Nat → World → Prop) (m5 : Nat → World → Nat) (x53 : Int) (w64 : World) : Prop :=
  I64 (x53 + 1) ∧ ∃ s65 : Nat, (Value.int .i64 (x53 + 1)) = (Value.int .i64 (s65 : Int)) ∧ (J4 s65 w64) ∧ (m5 s65 w64) < (m5 s2 w3)
abbrev spec_l05Small_k3 (v : Value) (w : World) (Post : Value → World → Prop) (s2 : Nat) (w3 : World) (J4 : Nat → World → Prop) (m5 : Nat → World → Nat) (x7 : Int) (w11 : World) : Prop :=
  (∃ (J15 : Nat → World → Prop) (m16 : Nat → World → Nat), ((∃ s12 : Nat, (Value.int .i64 0) = (Value.int .i64 (s12 : Int)) ∧ (J15 s12 w11)) ∧ ∀ (s13 : Nat) (w14 : World), (J15 s13 w14) → IxV 1 v x7 (fun ad17 => ∃ u18 : Value, LdV w14 (Value.pointer (some ad17)) u18 ∧ LenV u18 (fun n19 => ((((s13 : Int) < n19) → (spec_l05Small_k1 v w Post x7 s13 w14 J15 m16 (s13 : Int) w14)) ∧ (¬ ((s13 : Int) < n19) → (spec_l05Small_k2 s2 w3 J4 m5 x7 w14)))))))
def spec_l05Small_vc (v : Value) (w : World) (Post : Value → World → Prop) : Prop :=
  (∃ (J4 : Nat → World → Prop) (m5 : Nat → World → Nat), ((∃ s1 : Nat, (Value.int .i64 0) = (Value.int .i64 (s1 : Int)) ∧ (J4 s1 w)) ∧ ∀ (s2 : Nat) (w3 : World), (J4 s2 w3) → LenV v (fun n6 => ((((s2 : Int) < n6) → (spec_l05Small_k3 v w Post s2 w3 J4 m5 (s2 : Int) w3)) ∧ (¬ ((s2 : Int) < n6) → Post (Value.bool true) w3)))))
theorem spec_l05Small_eq (v : Value) (w : World) (Post : Value → World → Prop) : denF Tryz.prog [] (spec_l05Small_A v w) 29 [v] w Post = spec_l05Small_vc v w Post := by kernel_rfl
set_option maxRecDepth 100000 in
theorem spec_l05Small_calls (v : Value) (w : World) (Post : Value → World → Prop) (hvc : spec_l05Small_vc v w Post) : Ret Tryz.prog 29 #[v] w Post :=
  Ret.of (denF_sound mixed (Eq.mpr (spec_l05Small_eq v w Post) hvc))

theorem spec_l05Small_val (v : Value) (zss : List (List Int)) (w : World) (h : RR w v zss) (hl : zss.length ≤ 1048600) (hz : ∀ z ∈ zss, z.length ≤ 1048600) : Val Tryz.prog 29 #[v] w (.bool (decide (small zss))) :=
  Ret.val (spec_l05Small_calls v w _ (by
    unfold spec_l05Small_vc
    refine ⟨fun i W => i ≤ zss.length ∧ (∀ z ∈ zss.take i, ∀ x ∈ z, 0 ≤ x ∧ x ≤ 8) ∧ Ext w W, fun i _ => zss.length - i, ⟨0, rfl, Nat.zero_le _, by simp, .refl w⟩, ?_⟩
    rintro i w1 ⟨hi, hall, h1⟩
    refine (h.ext h1).len ⟨fun hlt => ?_, fun hge => ?_⟩
    · have hlt' : i < zss.length := by omega
      have hzi := hz _ (List.getElem_mem hlt')
      refine ⟨fun k W => k ≤ zss[i].length ∧ (∀ x ∈ zss[i].take k, 0 ≤ x ∧ x ≤ 8) ∧ Ext w W, fun k _ => zss[i].length - k, ⟨0, rfl, Nat.zero_le _, by simp, h1⟩, ?_⟩
      rintro k w2 ⟨hk, hal, h2⟩
      refine (h.ext h2).get i rfl hlt' fun u hu => hu.len ⟨fun hlk => ?_, fun hgk => ?_⟩
      · have hlk' : k < zss[i].length := by omega
        refine (h.ext h2).get i rfl hlt' fun u hu => hu.get k rfl hlk' ?_
        refine (spec_l01In_val _ _ _ w2).call fun w3 h3 => ⟨_, rfl, h3.keeps, fun hb => ⟨?_, h2.trans h3⟩, fun hb => ⟨by unfold I64; omega, k + 1, rfl, ⟨hlk', ?_, h2.trans h3⟩, by simp only; omega⟩⟩
        · have hn := nd_t hb
          rw [decide_eq_false fun hh : small zss => hn (hh _ (List.getElem_mem hlt') _ (List.getElem_mem hlk'))]
        · intro x hx
          rw [take_snoc _ k hlk', List.mem_append] at hx
          rcases hx with hx | hx
          · exact hal x hx
          · simp only [List.mem_singleton] at hx
            subst hx
            exact nd_f hb
      · have hke : k = zss[i].length := by omega
        subst hke
        rw [List.take_of_length_le (Nat.le_refl _)] at hal
        refine ⟨by unfold I64; omega, i + 1, rfl, ⟨hlt', rows_take_succ hlt' hall hal, h2⟩, by simp only; omega⟩
    · have hie : i = zss.length := by omega
      subst hie
      rw [List.take_of_length_le (Nat.le_refl _)] at hall
      exact ⟨by rw [decide_eq_true (show small zss from hall)], h1⟩))
def spec_l05Lock_A (v : Value) (w : World) : Nat → Ann := fun κ => match κ with
  | 0 => { σ := Nat × Value, sli := [4, 3], slc := fun s => [SV.v (Value.int .i64 (s.1 : Int)), SV.v s.2], bxi := [], bxc := fun s => [], inv := fun s W => True, μ := fun s W => 0, free := true }
  | 1 => { σ := Nat × Int × Value, sli := [7, 6, 5], slc := fun s => [SV.v (Value.int .i64 (s.1 : Int)), SV.v (Value.int .i64 s.2.1), SV.v s.2.2], bxi := [], bxc := fun s => [], inv := fun s W => True, μ := fun s W => 0, free := true }
  | _ => { σ := Unit, sli := [], slc := fun _ => [], bxi := [], bxc := fun _ => [], inv := fun _ _ => False, μ := fun _ _ => 0 }
abbrev spec_l05Lock_k0 (v : Value) (x11 : Int) (s19 : Nat × Int × Value) (w20 : World) (J21 : (Nat × Int × Value) → World → Prop) (m22 : (Nat × Int × Value) → World → Nat) (x26 : Value) (x27 : Int) (x28 : Int) (w36 : World) : Prop :=
  IxV 1 v x11 (fun ad37 => ∃ u38 : Value, LdV w36 (Value.pointer (some ad37)) u38 ∧ IxV 1 u38 x28 (fun ad39 => ∃ n40 : Int, LdV w36 (Value.pointer (some ad39)) (Value.int .i64 n40) ∧ I64 (x27 + n40) ∧ ∀ (v41 : Value) (w42 : World), Sx.Own w36.heap.size w42 2 v41 [(Value.int .i64 (x27 + n40))] → Ext w36 w42 → AppV w42 2 x26 v41 (fun v43 w44 => I64 (x28 + 1) ∧ ∃ s45 : (Nat × Int × Value), (Value.int .i64 (x28 + 1)) = (Value.int .i64 (s45.1 : Int)) ∧ (Value.int .i64 (x27 + n40)) = (Value.int .i64 s45.2.1) ∧ v43 = s45.2.2 ∧ (J21 s45 w44) ∧ (m22 s45 w44) < (m22 s19 w20))))
abbrev spec_l05Lock_k1 (s5 : Nat × Value) (w6 : World) (J7 : (Nat × Value) → World → Prop) (m8 : (Nat × Value) → World → Nat) (x67 : Value) (x68 : Int) (w87 : World) : Prop :=
  I64 (x68 + 1) ∧ ∃ s88 : (Nat × Value), (Value.int .i64 (x68 + 1)) = (Value.int .i64 (s88.1 : Int)) ∧ x67 = s88.2 ∧ (J7 s88 w87) ∧ (m8 s88 w87) < (m8 s5 w6)
abbrev spec_l05Lock_k2 (s5 : Nat × Value) (w6 : World) (J7 : (Nat × Value) → World → Prop) (m8 : (Nat × Value) → World → Nat) (x46 : Value) (x47 : Int) (x48 : Value) (w62 : World) : Prop :=
  oneC x48 (∀ (v63 : Value) (w64 : World), Sx.Own w62.heap.size w64 45 v63 [x48] → Ext w62 w64 → AppV w64 45 x46 v63 (fun v65 w66 => (spec_l05Lock_k1 s5 w6 J7 m8 v65 x47 w66)))
abbrev spec_l05Lock_k3 (v : Value) (s5 : Nat × Value) (w6 : World) (J7 : (Nat × Value) → World → Prop) (m8 : (Nat × Value) → World → Nat) (x10 : Value) (x11 : Int) (w15 : World) : Prop :=
  ∀ (v16 : Value) (w17 : World), Sx.Own w15.heap.size w17 2 v16 [] → Ext w15 w17 → (∃ (J21 : (Nat × Int × Value) → World → Prop) (m22 : (Nat × Int × Value) → World → Nat), ((∃ s18 : (Nat × Int × Value), (Value.int .i64 0) = (Value.int .i64 (s18.1 : Int)) ∧ (Value.int .i64 0) = (Value.int .i64 s18.2.1) ∧ v16 = s18.2.2 ∧ (J21 s18 w17)) ∧ ∀ (s19 : (Nat × Int × Value)) (w20 : World), (J21 s19 w20) → I64 ((s19.1 : Int) + 1) ∧ IxV 1 v x11 (fun ad23 => ∃ u24 : Value, LdV w20 (Value.pointer (some ad23)) u24 ∧ LenV u24 (fun n25 => (((((s19.1 : Int) + 1) < n25) → (spec_l05Lock_k0 v x11 s19 w20 J21 m22 s19.2.2 s19.2.1 (s19.1 : Int) w20)) ∧ (¬ (((s19.1 : Int) + 1) < n25) → (spec_l05Lock_k2 s5 w6 J7 m8 x10 x11 s19.2.2 w20)))))))
abbrev spec_l05Lock_k4 (w : World) (Post : Value → World → Prop) (x90 : Value) (w96 : World) : Prop :=
  oneC x90 (oneC x90 (∀ w97 : World, BxS w.heap.size 28 w96 w97 → Post (Value.agg #[x90]) w97))
def spec_l05Lock_vc (v : Value) (w : World) (Post : Value → World → Prop) : Prop :=
  ∀ w1 : World, Ext w w1 → ∀ (v2 : Value) (w3 : World), Sx.Own w1.heap.size w3 45 v2 [] → Ext w1 w3 → (∃ (J7 : (Nat × Value) → World → Prop) (m8 : (Nat × Value) → World → Nat), ((∃ s4 : (Nat × Value), (Value.int .i64 0) = (Value.int .i64 (s4.1 : Int)) ∧ v2 = s4.2 ∧ (J7 s4 w3)) ∧ ∀ (s5 : (Nat × Value)) (w6 : World), (J7 s5 w6) → LenV v (fun n9 => ((((s5.1 : Int) < n9) → (spec_l05Lock_k3 v s5 w6 J7 m8 s5.2 (s5.1 : Int) w6)) ∧ (¬ ((s5.1 : Int) < n9) → (spec_l05Lock_k4 w Post s5.2 w6))))))
theorem spec_l05Lock_eq (v : Value) (w : World) (Post : Value → World → Prop) : denF Tryz.prog [] (spec_l05Lock_A v w) 30 [v] w Post = spec_l05Lock_vc v w Post := by kernel_rfl
set_option maxRecDepth 100000 in
theorem spec_l05Lock_calls (v : Value) (w : World) (Post : Value → World → Prop) (hvc : spec_l05Lock_vc v w Post) : Ret Tryz.prog 30 #[v] w Post :=
  Ret.of (denF_sound mixed (Eq.mpr (spec_l05Lock_eq v w Post) hvc))

theorem spec_l05Lock_ret (v : Value) (zss : List (List Int)) (w : World) (h : RR w v zss) (hl : zss.length ≤ 1048600) (hz : ∀ z ∈ zss, z.length ≤ 1048600) (hs : small zss) : Ret Tryz.prog 30 #[v] w fun r w' => ∃ u, r = lkV u ∧ OwnR w.heap.size w' u (lop zss) ∧ Ext w w' :=
  spec_l05Lock_calls v w _ (by
    unfold spec_l05Lock_vc
    intro w1 h1 v2 w3 o3 h3
    refine ⟨fun s W => s.1 ≤ zss.length ∧ Ext w W ∧ OwnR w.heap.size W s.2 (lop (zss.take s.1)), fun s _ => zss.length - s.1, ⟨(0, v2), rfl, rfl, Nat.zero_le _, h1.trans h3, OwnR.new o3 h1.size⟩, ?_⟩
    rintro ⟨i, u⟩ w6 ⟨hi, k6, o6⟩
    simp only at hi o6
    refine (h.ext k6).len ⟨fun hlt => ?_, fun hge => ?_⟩
    · have hlt' : i < zss.length := by simp only at hlt; omega
      have hst := hs _ (List.getElem_mem hlt')
      have hzi := hz _ (List.getElem_mem hlt')
      intro t w8 o8 h8
      refine ⟨fun s W => s.1 ≤ zss[i].length - 1 ∧ s.2.1 = ats zss[i] s.1 ∧ Ext w6 W ∧ Own w6.heap.size W 2 s.2.2 (ints (setTo zss[i] s.1)), fun s _ => zss[i].length - 1 - s.1, ⟨(0, 0, t), rfl, rfl, rfl, Nat.zero_le _, (ats_zero _).symm, h8, o8⟩, ?_⟩
      rintro ⟨k, n, q⟩ w9 ⟨hk, hn, h9, o9⟩
      simp only at hk hn o9
      subst hn
      have k9 := k6.trans h9
      refine ⟨by unfold I64; simp only; omega, (h.ext k9).get i rfl hlt' fun p hp => hp.len ⟨fun hlk => ?_, fun hgk => ?_⟩⟩
      · have hlk' : k + 1 < zss[i].length := by simp only at hlk; omega
        have hr := ats_range hst k (by omega)
        have hx := hst _ (List.getElem_mem (show k < zss[i].length by omega))
        refine (h.ext k9).get i rfl hlt' fun p hp => hp.get k rfl (by omega) ⟨by unfold I64; simp only; omega, fun r w10 o10 h10 => ?_⟩
        have x10 := h9.trans h10
        refine (o9.ext h10).app1 o10 rfl (by simp [setTo_length]; omega) x10.size fun q' w11 o11 g11 _ => ⟨by unfold I64; simp only; omega, (k + 1, ats zss[i] k + zss[i][k], q'), rfl, rfl, rfl, ⟨by simp only; omega, (ats_succ (by omega)).symm, x10.grown (o9.ext h10) (Nat.le_refl _) g11, ?_⟩, by simp only; omega⟩
        simp only
        rw [setTo_succ, ints_append, ats_succ (show k < zss[i].length by omega)]
        exact o11
      · have hke : k = zss[i].length - 1 := by simp only at hgk; omega
        subst hke
        refine o9.rd.oneC fun r2 w10 o10 h10 => ?_
        refine o6.push o9 h9 o10 h10 k6.size (by rw [lop_length, List.length_take]; omega) fun v' w11 o11 hx11 => ⟨by unfold I64; simp only; omega, (i + 1, v'), rfl, rfl, ⟨hlt', hx11 w (Nat.le_refl _) (k9.trans h10), ?_⟩, by simp only; omega⟩
        simp only
        rw [lop_succ hlt']
        exact o11
    · have hie : i = zss.length := by simp only at hge; omega
      subst hie
      rw [List.take_of_length_le (Nat.le_refl _)] at o6
      refine o6.rr.oneC (o6.rr.oneC fun w7 b7 => ⟨u, rfl, o6.bxs b7 (by decide) (by decide), k6.bxs b7⟩))
def spec_l05Same_A (u : Value) (v : Value) (w : World) : Nat → Ann := fun κ => match κ with
  | 0 => { σ := Nat, sli := [5], slc := fun s => [SV.v (Value.int .i64 (s : Int))], bxi := [], bxc := fun s => [], inv := fun s W => True, μ := fun s W => 0, free := true }
  | _ => { σ := Unit, sli := [], slc := fun _ => [], bxi := [], bxc := fun _ => [], inv := fun _ _ => False, μ := fun _ _ => 0 }
abbrev spec_l05Same_k0 (s11 : Nat) (w12 : World) (J13 : Nat → World → Prop) (m14 : Nat → World → Nat) (x30 : Int) (w44 : World) : Prop :=
  I64 (x30 + 1) ∧ ∃ s45 : Nat, (Value.int .i64 (x30 + 1)) = (Value.int .i64 (s45 : Int)) ∧ (J13 s45 w44) ∧ (m14 s45 w44) < (m14 s11 w12)
abbrev spec_l05Same_k1 (Post : Value → World → Prop) (x3 : Value) (x4 : Value) (s11 : Nat) (w12 : World) (J13 : Nat → World → Prop) (m14 : Nat → World → Nat) (x16 : Int) (w20 : World) : Prop :=
  IxV 1 x3 x16 (fun ad21 => ∃ u22 : Value, LdV w20 (Value.pointer (some ad21)) u22 ∧ IxV 1 x4 x16 (fun ad23 => ∃ u24 : Value, LdV w20 (Value.pointer (some ad23)) u24 ∧ ∃ b28 : Bool, (∀ w25 : World, Ext w20 w25 → Calls Tryz.prog 50 #[u22, u24] w25 (fun e26 w27 => e26 = .returned (Value.bool b28) ∧ Ext w25 w27)) ∧ ∀ w29 : World, Ext w20 w29 → (((!b28) = true → Post (Value.bool false) w29) ∧ ((!b28) = false → (spec_l05Same_k0 s11 w12 J13 m14 x16 w29)))))
abbrev spec_l05Same_k2 (Post : Value → World → Prop) (x3 : Value) (x4 : Value) (w9 : World) : Prop :=
  (∃ (J13 : Nat → World → Prop) (m14 : Nat → World → Nat), ((∃ s10 : Nat, (Value.int .i64 0) = (Value.int .i64 (s10 : Int)) ∧ (J13 s10 w9)) ∧ ∀ (s11 : Nat) (w12 : World), (J13 s11 w12) → LenV x3 (fun n15 => ((((s11 : Int) < n15) → (spec_l05Same_k1 Post x3 x4 s11 w12 J13 m14 (s11 : Int) w12)) ∧ (¬ ((s11 : Int) < n15) → Post (Value.bool true) w12)))))
def spec_l05Same_vc (u : Value) (v : Value) (w : World) (Post : Value → World → Prop) : Prop :=
  LenV u (fun n1 => LenV v (fun n2 => (((n1 ≠ n2) → Post (Value.bool false) w) ∧ (¬ (n1 ≠ n2) → (spec_l05Same_k2 Post u v w)))))
theorem spec_l05Same_eq (u : Value) (v : Value) (w : World) (Post : Value → World → Prop) : denF Tryz.prog [] (spec_l05Same_A u v w) 31 [u, v] w Post = spec_l05Same_vc u v w Post := by kernel_rfl
set_option maxRecDepth 100000 in
theorem spec_l05Same_calls (u : Value) (v : Value) (w : World) (Post : Value → World → Prop) (hvc : spec_l05Same_vc u v w Post) : Ret Tryz.prog 31 #[u, v] w Post :=
  Ret.of (denF_sound mixed (Eq.mpr (spec_l05Same_eq u v w Post) hvc))

theorem spec_l05Same_val (u v : Value) (za zb : List (List Int)) (w : World) (hu : RR w u za) (hv : RR w v zb) (hl : za.length ≤ 1000) : Val Tryz.prog 31 #[u, v] w (.bool (decide (za = zb))) :=
  Ret.val (spec_l05Same_calls u v w _ (by
    unfold spec_l05Same_vc
    refine hu.len (hv.len ⟨fun hne => ⟨?_, .refl w⟩, fun he => ?_⟩)
    · rw [decide_eq_false fun e : za = zb => hne (by rw [e])]
    have hlen : za.length = zb.length := by have := Classical.not_not.1 he; omega
    refine ⟨fun i W => i ≤ za.length ∧ za.take i = zb.take i ∧ Ext w W, fun i _ => za.length - i, ⟨0, rfl, Nat.zero_le _, rfl, .refl w⟩, ?_⟩
    rintro i w1 ⟨hi, heq, h1⟩
    refine (hu.ext h1).len ⟨fun hlt => ?_, fun hge => ?_⟩
    · have hlt' : i < za.length := by omega
      refine (hu.ext h1).get i rfl hlt' fun p hp => (hv.ext h1).get i rfl (by omega) fun q hq => ⟨decide (za[i] = zb[i]), fun W hW => (spec_l01Same_val p q _ _ W (hp.ext hW) (hq.ext hW)).calls, fun w2 h2 => ⟨fun hb => ⟨?_, h1.trans h2⟩, fun hb => ⟨by unfold I64; omega, i + 1, rfl, ⟨hlt', ?_, h1.trans h2⟩, by simp only; omega⟩⟩⟩
      · have hn := nd_t hb
        rw [decide_eq_false fun e : za = zb => hn (by subst e; rfl)]
      · rw [take_snoc za i hlt', take_snoc zb i (by omega), heq, nd_f hb]
    · have hie : i = za.length := by omega
      subst hie
      rw [List.take_of_length_le (Nat.le_refl _), List.take_of_length_le (by omega)] at heq
      exact ⟨by rw [decide_eq_true heq], h1⟩))
abbrev spec_LockOfPins_k0 (w : World) (Post : Value → World → Prop) (w95 : World) : Prop :=
  ∀ w96 : World, BxS w.heap.size 28 w95 w96 → Post (Value.tuple #[(Value.agg #[(Value.slice none 0 0)]), (Value.int .i64 2)]) w96
abbrev spec_LockOfPins_k1 (w : World) (Post : Value → World → Prop) (x192 : Value) (w193 : World) : Prop :=
  oneC x192 (∀ w194 : World, BxS w.heap.size 28 w193 w194 → Post (Value.tuple #[(Value.agg #[x192]), (Value.int .i64 0)]) w194)
abbrev spec_LockOfPins_k2 (w : World) (Post : Value → World → Prop) (x140 : Bool) (x146 : Value) (w147 : World) : Prop :=
  ((x140 = true → ∀ w148 : World, BxS w.heap.size 28 w147 w148 → Post (Value.tuple #[(Value.agg #[(Value.slice none 0 0)]), (Value.int .i64 2)]) w148) ∧ (x140 = false → (spec_LockOfPins_k1 w Post x146 w147)))
abbrev spec_LockOfPins_k3 (w : World) (Post : Value → World → Prop) (x36 : Value) (x48 : Int) (x49 : Int) (x50 : Int) (x51 : Int) (x52 : Int) (w53 : World) : Prop :=
  Calls Tryz.prog 30 #[x36] w53 (fun e54 w55 => ∃ u56 : Value, e54 = .returned (Value.agg #[u56]) ∧ Keeps w.heap.size [25, 28] w53 w55 ∧ ∀ w57 : World, Ext w55 w57 → oneC u56 (∀ w58 : World, BxS w.heap.size 28 w57 w58 → Calls Tryz.prog 22 #[(Value.agg #[(Value.int .i64 x48), (Value.int .i64 x49), (Value.int .i64 x50), (Value.int .i64 x51), (Value.int .i64 x52)]), (Value.agg #[u56])] w58 (fun e59 w60 => ∃ b61 : Bool, e59 = .returned (Value.bool b61) ∧ Keeps w.heap.size [25, 28, 28] w58 w60 ∧ (((!b61) = true → (spec_LockOfPins_k0 w Post w60)) ∧ ((!b61) = false → Calls Tryz.prog 23 #[(Value.agg #[(Value.int .i64 x48), (Value.int .i64 x49), (Value.int .i64 x50), (Value.int .i64 x51), (Value.int .i64 x52)]), (Value.agg #[u56])] w60 (fun e97 w98 => ∃ u99 : Value, e97 = .returned u99 ∧ Keeps w.heap.size [25, 28, 28] w60 w98 ∧ Calls Tryz.prog 31 #[u99, x36] w98 (fun e100 w101 => ∃ b102 : Bool, e100 = .returned (Value.bool b102) ∧ Keeps w.heap.size [25, 28, 28] w98 w101 ∧ (spec_LockOfPins_k2 w Post (!b102) u56 w101))))))))
abbrev spec_LockOfPins_k4 (w : World) (Post : Value → World → Prop) (x12 : Value) (x21 : Int) (x22 : Int) (x23 : Int) (x24 : Int) (x25 : Int) (w26 : World) : Prop :=
  Calls Tryz.prog 29 #[x12] w26 (fun e27 w28 => ∃ b29 : Bool, e27 = .returned (Value.bool b29) ∧ Keeps w.heap.size [25, 28] w26 w28 ∧ (((!b29) = true → ∀ w30 : World, BxS w.heap.size 28 w28 w30 → Post (Value.tuple #[(Value.agg #[(Value.slice none 0 0)]), (Value.int .i64 2)]) w30) ∧ ((!b29) = false → (spec_LockOfPins_k3 w Post x12 x21 x22 x23 x24 x25 w28))))
def spec_LockOfPins_vc (m_Chambers : Int) (m_Depths : Int) (m_Step : Int) (m_Same : Int) (m_Least : Int) (v : Value) (w : World) (Post : Value → World → Prop) : Prop :=
  ∀ w1 : World, Ext w w1 → ∀ w2 : World, Ext w1 w2 → Calls Tryz.prog 28 #[(Value.agg #[(Value.int .i64 m_Chambers), (Value.int .i64 m_Depths), (Value.int .i64 m_Step), (Value.int .i64 m_Same), (Value.int .i64 m_Least)])] w2 (fun e3 w4 => ∃ b5 : Bool, e3 = .returned (Value.bool b5) ∧ Keeps w.heap.size [25, 28] w2 w4 ∧ (((!b5) = true → ∀ w6 : World, BxS w.heap.size 28 w4 w6 → Post (Value.tuple #[(Value.agg #[(Value.slice none 0 0)]), (Value.int .i64 1)]) w6) ∧ ((!b5) = false → (spec_LockOfPins_k4 w Post v m_Chambers m_Depths m_Step m_Same m_Least w4))))
theorem spec_LockOfPins_eq (m_Chambers : Int) (m_Depths : Int) (m_Step : Int) (m_Same : Int) (m_Least : Int) (v : Value) (w : World) (Post : Value → World → Prop) : denF Tryz.prog [] noAnn 10 [(Value.agg #[(Value.int .i64 m_Chambers), (Value.int .i64 m_Depths), (Value.int .i64 m_Step), (Value.int .i64 m_Same), (Value.int .i64 m_Least)]), v] w Post = spec_LockOfPins_vc m_Chambers m_Depths m_Step m_Same m_Least v w Post := by kernel_rfl
set_option maxRecDepth 100000 in
theorem spec_LockOfPins_calls (m_Chambers : Int) (m_Depths : Int) (m_Step : Int) (m_Same : Int) (m_Least : Int) (v : Value) (w : World) (Post : Value → World → Prop) (hvc : spec_LockOfPins_vc m_Chambers m_Depths m_Step m_Same m_Least v w Post) : Ret Tryz.prog 10 #[(Value.agg #[(Value.int .i64 m_Chambers), (Value.int .i64 m_Depths), (Value.int .i64 m_Step), (Value.int .i64 m_Same), (Value.int .i64 m_Least)]), v] w Post :=
  Ret.of (denF_sound mixed (Eq.mpr (spec_LockOfPins_eq m_Chambers m_Depths m_Step m_Same m_Least v w Post) hvc))

theorem spec_LockOfPins_ret (M : Mk) (v : Value) (zss : List (List Int)) (w : World) (h : RR w v zss) (hl : zss.length ≤ 1048600) (hz : ∀ z ∈ zss, z.length ≤ 1048600) : LkR 10 #[M.v, v] w (lopR M zss) (lopCode M zss) :=
  spec_LockOfPins_calls M.c M.d M.s M.m M.l v w _ (by
    unfold spec_LockOfPins_vc
    intro w1 h1 w2 h2
    have k2 := h1.trans h2
    refine (spec_IsMaker_val ..).call fun w4 h4 => ⟨_, rfl, h4.keeps, fun hb w5 b5 => ?_, fun hb => ?_⟩
    · obtain ⟨e1, e2⟩ := lop_no (M := M) (zss := zss) (nd_t hb)
      rw [e1, e2]
      exact ⟨_, rfl, OwnR.nil_ _ _, (k2.trans h4).bxs b5⟩
    have hm := nd_f hb
    have k4 := k2.trans h4
    refine (spec_l05Small_val v zss w4 (h.ext k4) hl hz).call fun w6 h6 => ⟨_, rfl, h6.keeps, fun hb w7 b7 => ?_, fun hb => ?_⟩
    · obtain ⟨e1, e2⟩ := lop_bad hm fun hh => nd_t hb ((lop_iff hm).1 hh).1
      rw [e1, e2]
      exact ⟨_, rfl, OwnR.nil_ _ _, (k4.trans h6).bxs b7⟩
    have hs := nd_f hb
    have k6 := k4.trans h6
    refine (spec_l05Lock_ret v zss w6 (h.ext k6) hl hz hs).call ?_
    rintro _ w8 ⟨u, rfl, o8, h8⟩
    refine ⟨u, rfl, h8.keeps, fun w9 h9 => (o8.ext h9).rr.oneC fun w10 b10 => ?_⟩
    have o10 := (o8.ext h9).bxs b10 (by decide) (by decide)
    have k10 := ((k6.trans h8).trans h9).bxs b10
    refine (spec_IsLock_val M.c M.d M.s M.m M.l u (lop zss) w10 o10.rr).call fun w11 h11 => ⟨_, rfl, h11.keeps, fun hb w12 b12 => ?_, fun hb => ?_⟩
    · obtain ⟨e1, e2⟩ := lop_bad hm fun hh => nd_t hb ((lop_iff hm).1 hh).2.1
      rw [e1, e2]
      exact ⟨_, rfl, OwnR.nil_ _ _, (k10.trans h11).bxs b12⟩
    have hk := nd_f hb
    obtain ⟨p1, p2, p3⟩ := lk_small hk
    have k11 := k10.trans h11
    have o11 := o10.ext h11
    refine (spec_l05Pins_ret M.c M.d M.s M.m M.l u (lop zss) w11 o11.rr p1 p2 p3).call ?_
    rintro q w13 ⟨o13, h13⟩
    refine ⟨q, rfl, h13.keeps, ?_⟩
    have k13 := k11.trans h13
    refine (spec_l05Same_val q v _ zss w13 o13.rr (h.ext k13) (by rw [List.length_map]; omega)).call fun w14 h14 => ⟨_, rfl, h14.keeps, fun hb w15 b15 => ?_, fun hb => ?_⟩
    · obtain ⟨e1, e2⟩ := lop_bad hm fun hh => nd_t hb ((lop_iff hm).1 hh).2.2
      rw [e1, e2]
      exact ⟨_, rfl, OwnR.nil_ _ _, (k13.trans h14).bxs b15⟩
    obtain ⟨e1, e2⟩ := lop_yes hm ((lop_iff hm).2 ⟨hs, hk, nd_f hb⟩)
    rw [e1, e2]
    have o14 := (o11.ext h13).ext h14
    refine o14.rr.oneC fun w15 b15 => ⟨u, rfl, (o14.mono k6.size).bxs b15 (by decide) (by decide), (k13.trans h14).bxs b15⟩)
def impl_lockOfPinsp_A (m_Chambers : Int) (m_Depths : Int) (m_Step : Int) (m_Same : Int) (m_Least : Int) (v : Value) (w : World) : Nat → Ann := fun κ => match κ with
  | 0 => { σ := Nat × Value, sli := [16], slc := fun s => [SV.v (Value.int .i64 (s.1 : Int))], bxi := [2, 1], bxc := fun s => [[s.2], [(Value.slice none 0 0)]], inv := fun s W => True, μ := fun s W => 0, free := true }
  | 1 => { σ := Nat × Int × Value, sli := [50, 10, 9], slc := fun s => [SV.v (Value.int .i64 (s.1 : Int)), SV.v (Value.int .i64 s.2.1), SV.v s.2.2], bxi := [], bxc := fun s => [], inv := fun s W => True, μ := fun s W => 0, free := true }
  | _ => { σ := Unit, sli := [], slc := fun _ => [], bxi := [], bxc := fun _ => [], inv := fun _ _ => False, μ := fun _ _ => 0 }
abbrev impl_lockOfPinsp_k0 (w : World) (Post : Value → World → Prop) (w31 : World) : Prop :=
  ∀ w32 : World, BxS w.heap.size 28 w31 w32 → Post (Value.tuple #[(Value.agg #[(Value.slice none 0 0)]), (Value.bool false)]) w32
abbrev impl_lockOfPinsp_k1 (u82 : Value) (s85 : Nat × Int × Value) (w86 : World) (J87 : (Nat × Int × Value) → World → Prop) (m88 : (Nat × Int × Value) → World → Nat) (x89 : Value) (x90 : Int) (x91 : Int) (w92 : World) : Prop :=
  IxV 1 u82 x91 (fun ad93 => ∃ n94 : Int, LdV w92 (Value.pointer (some ad93)) (Value.int .i64 n94) ∧ I64 (x90 + n94) ∧ ∀ (v95 : Value) (w96 : World), Sx.Own w92.heap.size w96 2 v95 [(Value.int .i64 (x90 + n94))] → Ext w92 w96 → AppV w96 2 x89 v95 (fun v97 w98 => I64 (x91 + 1) ∧ ∃ s99 : (Nat × Int × Value), (Value.int .i64 (x91 + 1)) = (Value.int .i64 (s99.1 : Int)) ∧ (Value.int .i64 (x90 + n94)) = (Value.int .i64 s99.2.1) ∧ v97 = s99.2.2 ∧ (J87 s99 w98) ∧ (m88 s99 w98) < (m88 s85 w86)))
abbrev impl_lockOfPinsp_k2 (s7 : Nat × Value) (w8 : World) (J9 : (Nat × Value) → World → Prop) (m10 : (Nat × Value) → World → Nat) (x137 : Int) (x165 : Value) (w166 : World) : Prop :=
  I64 (x137 + 1) ∧ ∃ s167 : (Nat × Value), (Value.int .i64 (x137 + 1)) = (Value.int .i64 (s167.1 : Int)) ∧ x165 = s167.2 ∧ (Value.slice none 0 0) = (Value.slice none 0 0) ∧ (J9 s167 w166) ∧ (m10 s167 w166) < (m10 s7 w8)
abbrev impl_lockOfPinsp_k3 (w : World) (s7 : Nat × Value) (w8 : World) (J9 : (Nat × Value) → World → Prop) (m10 : (Nat × Value) → World → Nat) (x101 : Value) (x103 : Int) (x127 : Value) (w128 : World) : Prop :=
  oneC x101 (∀ (v129 : Value) (w130 : World), Sx.Own w128.heap.size w130 45 v129 [x101] → Ext w128 w130 → AppV w130 45 x127 v129 (fun v131 w132 => oneC v131 (∀ w133 : World, BxS w.heap.size 28 w132 w133 → (impl_lockOfPinsp_k2 s7 w8 J9 m10 x103 v131 w133))))
abbrev impl_lockOfPinsp_k4 (w : World) (s7 : Nat × Value) (w8 : World) (J9 : (Nat × Value) → World → Prop) (m10 : (Nat × Value) → World → Nat) (x60 : Value) (x61 : Int) (x77 : Value) (w78 : World) : Prop :=
  ∀ (v79 : Value) (w80 : World), Sx.Own w78.heap.size w80 2 v79 [] → Ext w78 w80 → LenV x60 (fun n81 => I64 (n81 - 1) ∧ SlV 1 x60 none (some (n81 - 1)) none (fun u82 => LenV u82 (fun n83 => (∃ (J87 : (Nat × Int × Value) → World → Prop) (m88 : (Nat × Int × Value) → World → Nat), ((∃ s84 : (Nat × Int × Value), (Value.int .i64 0) = (Value.int .i64 (s84.1 : Int)) ∧ (Value.int .i64 0) = (Value.int .i64 s84.2.1) ∧ v79 = s84.2.2 ∧ (J87 s84 w80)) ∧ ∀ (s85 : (Nat × Int × Value)) (w86 : World), (J87 s85 w86) → ((((s85.1 : Int) < n83) → (impl_lockOfPinsp_k1 u82 s85 w86 J87 m88 s85.2.2 s85.2.1 (s85.1 : Int) w86)) ∧ (¬ ((s85.1 : Int) < n83) → (impl_lockOfPinsp_k3 w s7 w8 J9 m10 s85.2.2 x61 x77 w86))))))))
abbrev impl_lockOfPinsp_k5 (m_Depths : Int) (w : World) (Post : Value → World → Prop) (s7 : Nat × Value) (w8 : World) (J9 : (Nat × Value) → World → Prop) (m10 : (Nat × Value) → World → Nat) (n38 : Int) (x40 : Value) (x41 : Int) (x57 : Value) (w58 : World) : Prop :=
  (((n38 ≠ (m_Depths - 1)) → ∀ w59 : World, BxS w.heap.size 28 w58 w59 → Post (Value.tuple #[(Value.agg #[(Value.slice none 0 0)]), (Value.bool false)]) w59) ∧ (¬ (n38 ≠ (m_Depths - 1)) → (impl_lockOfPinsp_k4 w s7 w8 J9 m10 x40 x41 x57 w58)))
abbrev impl_lockOfPinsp_k6 (m_Depths : Int) (v : Value) (w : World) (Post : Value → World → Prop) (s7 : Nat × Value) (w8 : World) (J9 : (Nat × Value) → World → Prop) (m10 : (Nat × Value) → World → Nat) (x11 : Int) (x12 : Value) (w13 : World) : Prop :=
  IxV 1 v x11 (fun ad14 => ∃ u15 : Value, LdV w13 (Value.pointer (some ad14)) u15 ∧ I64 (m_Depths - 1) ∧ ∃ b19 : Bool, (∀ w16 : World, Ext w13 w16 → Calls Tryz.prog 47 #[u15, (Value.int .i64 0), (Value.int .i64 (m_Depths - 1))] w16 (fun e17 w18 => e17 = .returned (Value.bool b19) ∧ Ext w16 w18)) ∧ (((!b19) = true → ∀ w20 : World, Ext w13 w20 → (impl_lockOfPinsp_k0 w Post w20)) ∧ ((!b19) = false → LenV u15 (fun n33 => I64 (m_Depths + 1) ∧ ((((m_Depths + 1) < n33) → ∀ w34 : World, Ext w13 w34 → (impl_lockOfPinsp_k0 w Post w34)) ∧ (¬ ((m_Depths + 1) < n33) → ∃ n38 : Int, (∀ w35 : World, Ext w13 w35 → Calls Tryz.prog 48 #[u15] w35 (fun e36 w37 => e36 = .returned (Value.int .i64 n38) ∧ Ext w35 w37)) ∧ I64 (m_Depths - 1) ∧ ∀ w39 : World, Ext w13 w39 → (impl_lockOfPinsp_k5 m_Depths w Post s7 w8 J9 m10 n38 u15 x11 x12 w39)))))))
abbrev impl_lockOfPinsp_k7 (w : World) (Post : Value → World → Prop) (x177 : Int) (x178 : Int) (x179 : Int) (x180 : Int) (x181 : Int) (x182 : Value) (w183 : World) : Prop :=
  ∀ w184 : World, Ext w183 w184 → Calls Tryz.prog 42 #[(Value.agg #[(Value.int .i64 x177), (Value.int .i64 x178), (Value.int .i64 x179), (Value.int .i64 x180), (Value.int .i64 x181)]), (Value.agg #[x182])] w184 (fun e185 w186 => ∃ b187 : Bool, e185 = .returned (Value.bool b187) ∧ Keeps w.heap.size [25, 28, 28] w184 w186 ∧ Ext w184 w186 ∧ oneC x182 (∀ w188 : World, BxS w.heap.size 28 w186 w188 → Post (Value.tuple #[(Value.agg #[x182]), (Value.bool b187)]) w188))
def impl_lockOfPinsp_vc (m_Chambers : Int) (m_Depths : Int) (m_Step : Int) (m_Same : Int) (m_Least : Int) (v : Value) (w : World) (Post : Value → World → Prop) : Prop :=
  ∀ w1 : World, Ext w w1 → ∀ w2 : World, Ext w1 w2 → ∀ w3 : World, Ext w2 w3 → ∀ w4 : World, BxS w.heap.size 28 w3 w4 → LenV v (fun n5 => (∃ (J9 : (Nat × Value) → World → Prop) (m10 : (Nat × Value) → World → Nat), ((∃ s6 : (Nat × Value), (Value.int .i64 0) = (Value.int .i64 (s6.1 : Int)) ∧ (Value.slice none 0 0) = s6.2 ∧ (Value.slice none 0 0) = (Value.slice none 0 0) ∧ (J9 s6 w4)) ∧ ∀ (s7 : (Nat × Value)) (w8 : World), (J9 s7 w8) → ((((s7.1 : Int) < n5) → (impl_lockOfPinsp_k6 m_Depths v w Post s7 w8 J9 m10 (s7.1 : Int) s7.2 w8)) ∧ (¬ ((s7.1 : Int) < n5) → (impl_lockOfPinsp_k7 w Post m_Chambers m_Depths m_Step m_Same m_Least s7.2 w8))))))
theorem impl_lockOfPinsp_eq (m_Chambers : Int) (m_Depths : Int) (m_Step : Int) (m_Same : Int) (m_Least : Int) (v : Value) (w : World) (Post : Value → World → Prop) : denF Tryz.prog [1000042] (impl_lockOfPinsp_A m_Chambers m_Depths m_Step m_Same m_Least v w) 27 [(Value.agg #[(Value.int .i64 m_Chambers), (Value.int .i64 m_Depths), (Value.int .i64 m_Step), (Value.int .i64 m_Same), (Value.int .i64 m_Least)]), v] w Post = impl_lockOfPinsp_vc m_Chambers m_Depths m_Step m_Same m_Least v w Post := by kernel_rfl
set_option maxRecDepth 100000 in
theorem impl_lockOfPinsp_calls (m_Chambers : Int) (m_Depths : Int) (m_Step : Int) (m_Same : Int) (m_Least : Int) (v : Value) (w : World) (Post : Value → World → Prop) (hvc : impl_lockOfPinsp_vc m_Chambers m_Depths m_Step m_Same m_Least v w Post) : Ret Tryz.prog 27 #[(Value.agg #[(Value.int .i64 m_Chambers), (Value.int .i64 m_Depths), (Value.int .i64 m_Step), (Value.int .i64 m_Same), (Value.int .i64 m_Least)]), v] w Post :=
  Ret.of (denF_sound mixed (Eq.mpr (impl_lockOfPinsp_eq m_Chambers m_Depths m_Step m_Same m_Least v w Post) hvc))

theorem impl_lockOfPinsp_ret (M : Mk) (hm : MkOk M.c M.d M.s M.m M.l) (v : Value) (zss : List (List Int)) (w : World) (h : RR w v zss) (hl : zss.length ≤ 1048600) (hz : ∀ z ∈ zss, z.length ≤ 1048600) : Ret Tryz.prog 27 #[M.v, v] w fun r w' => ∃ u, r = .tuple #[lkV u, .bool (decide (lopOk M zss))] ∧ OwnR w.heap.size w' u (if ∀ z ∈ zss, pinOk M.d z then lop zss else []) ∧ Ext w w' :=
  impl_lockOfPinsp_calls M.c M.d M.s M.m M.l v w _ (by
    unfold impl_lockOfPinsp_vc
    have hd := hm.2.1
    intro w1 h1 w2 h2 w3 h3 w4 b4
    have k4 := ((h1.trans h2).trans h3).bxs b4
    refine (h.ext k4).len ⟨fun s W => s.1 ≤ zss.length ∧ (∀ z ∈ zss.take s.1, pinOk M.d z) ∧ Ext w W ∧ OwnR w.heap.size W s.2 (lop (zss.take s.1)), fun s _ => zss.length - s.1, ⟨(0, .slice none 0 0), rfl, rfl, rfl, Nat.zero_le _, by simp, k4, OwnR.nil_ _ _⟩, ?_⟩
    rintro ⟨i, u⟩ w8 ⟨hi, hall, k8, o8⟩
    simp only at hi hall o8
    refine ⟨fun hlt => ?_, fun hge => ?_⟩
    · have hlt' : i < zss.length := by simp only at hlt; omega
      have hzi := hz _ (List.getElem_mem hlt')
      have bad : ∀ W, Ext w8 W → ¬ pinOk M.d zss[i] → ∀ W', BxS w.heap.size 28 W W' → ∃ u, Value.tuple #[.agg #[.slice none 0 0], .bool false] = .tuple #[lkV u, .bool (decide (lopOk M zss))] ∧ OwnR w.heap.size W' u (if ∀ z ∈ zss, pinOk M.d z then lop zss else []) ∧ Ext w W' := by
        intro W hW hn W' hB
        rw [decide_eq_false fun hh : lopOk M zss => hn (hh.1 _ (List.getElem_mem hlt')), if_neg fun hh : ∀ z ∈ zss, pinOk M.d z => hn (hh _ (List.getElem_mem hlt'))]
        exact ⟨_, rfl, OwnR.nil_ _ _, (k8.trans hW).bxs hB⟩
      refine (h.ext k8).get i rfl hlt' fun p hp => ⟨by unfold I64; omega, decide (∀ z ∈ zss[i], 0 ≤ z ∧ z ≤ M.d - 1), fun W hW => (impl_allWithin_val p _ _ _ W (hp.ext hW)).calls, fun hb W hW => bad W hW fun hh => nd_t hb hh.1, fun hb => hp.len ⟨by unfold I64; omega, fun hlong W hW => bad W hW fun hh => by have := hh.2.1; omega, fun hshort => ?_⟩⟩
      have hw := nd_f hb
      have hN : Nums zss[i] := ⟨by omega, fun z hz => by have := hw z hz; unfold Mx; omega⟩
      refine ⟨zss[i].sum, fun W hW => (impl_sum_val p _ W (hp.ext hW) hN).calls, by unfold I64; omega, fun w9 h9 => ⟨fun hne => bad w9 h9 fun hh => hne hh.2.2, fun hsum => ?_⟩⟩
      have hsum := Classical.not_not.1 hsum
      have hpin : pinOk M.d zss[i] := ⟨hw, by omega, hsum⟩
      have hne : zss[i] ≠ [] := fun e => by rw [e] at hsum; simp at hsum; omega
      have hpos := List.length_pos_iff.2 hne
      have hst : ∀ x ∈ zss[i], 0 ≤ x ∧ x ≤ 8 := fun x hx => by have := hw x hx; omega
      intro t w10 o10 h10
      have x10 := h9.trans h10
      have k10 := k8.trans x10
      refine hp.len ⟨by unfold I64; omega, hp.sl 0 (zss[i].length - 1) rfl (by simp; omega) (Nat.zero_le _) (by omega) fun y hy => ?_⟩
      rw [List.drop_zero] at hy
      have hyl : (zss[i].take (zss[i].length - 1)).length = zss[i].length - 1 := by rw [List.length_take]; omega
      refine hy.len ?_
      rw [hyl]
      refine ⟨fun s W => s.1 ≤ zss[i].length - 1 ∧ s.2.1 = ats zss[i] s.1 ∧ Ext w8 W ∧ Own w8.heap.size W 2 s.2.2 (ints (setTo zss[i] s.1)), fun s _ => zss[i].length - 1 - s.1, ⟨(0, 0, t), rfl, rfl, rfl, Nat.zero_le _, (ats_zero _).symm, x10, o10.mono h9.size⟩, ?_⟩
      rintro ⟨k, n, q⟩ w11 ⟨hk, hn, h11, o11⟩
      simp only at hk hn o11
      subst hn
      have k11 := k8.trans h11
      refine ⟨fun hlk => ?_, fun hgk => ?_⟩
      · have hlk' : k < zss[i].length - 1 := by simp only at hlk; omega
        have hr := ats_range hst k (by omega)
        have hx := hst _ (List.getElem_mem (show k < zss[i].length by omega))
        refine (RI.ext hy h11).get k rfl (by rw [hyl]; exact hlk') ?_
        rw [List.getElem_take]
        refine ⟨by unfold I64; simp only; omega, fun r w12 o12 h12 => ?_⟩
        have x12 := h11.trans h12
        refine (o11.ext h12).app1 o12 rfl (by simp [setTo_length]; omega) x12.size fun q' w13 o13 g13 _ => ⟨by unfold I64; simp only; omega, (k + 1, ats zss[i] k + zss[i][k], q'), rfl, rfl, rfl, ⟨hlk', (ats_succ (by omega)).symm, x12.grown (o11.ext h12) (Nat.le_refl _) g13, ?_⟩, by simp only; omega⟩
        simp only
        rw [setTo_succ, ints_append, ats_succ (show k < zss[i].length by omega)]
        exact o13
      · have hke : k = zss[i].length - 1 := by simp only at hgk; omega
        subst hke
        refine o11.rd.oneC fun r2 w12 o12 h12 => ?_
        refine o8.push o11 h11 o12 h12 k8.size (by rw [lop_length, List.length_take]; omega) fun v' w13 o13 hx13 => o13.rr.oneC fun w14 b14 => ⟨by unfold I64; simp only; omega, (i + 1, v'), rfl, rfl, rfl, ⟨hlt', rows_take_succ hlt' hall hpin, (hx13 w (Nat.le_refl _) (k11.trans h12)).bxs b14, ?_⟩, by simp only; omega⟩
        simp only
        rw [lop_succ hlt']
        exact o13.bxs b14 (by decide) (by decide)
    · have hie : i = zss.length := by simp only at hge; omega
      subst hie
      rw [List.take_of_length_le (Nat.le_refl _)] at hall o8
      intro w9 h9
      have o9 := o8.ext h9
      refine (impl_isLock_val M.c M.d M.s M.m M.l u (lop zss) w9 o9.rr).call fun w10 h10 => ⟨_, rfl, h10.keeps, h10, (o9.ext h10).rr.oneC fun w11 b11 => ⟨u, ?_, ?_, ((k8.trans h9).trans h10).bxs b11⟩⟩
      · have : (lopOk M zss) ↔ (((lop zss).length : Int) = M.c ∧ SetsOk M.d (lop zss)) := by
          rw [lop_length]
          exact ⟨fun hh => hh.2, fun hh => ⟨hall, hh⟩⟩
        rw [decide_eq_decide.2 this]
        rfl
      · rw [if_pos hall]
        exact (o9.ext h10).bxs b11 (by decide) (by decide))
abbrev impl_LockOfPins_k0 (w : World) (Post : Value → World → Prop) (x68 : Value) (w69 : World) : Prop :=
  oneC x68 (∀ w70 : World, BxS w.heap.size 28 w69 w70 → Post (Value.tuple #[(Value.agg #[x68]), (Value.int .i64 0)]) w70)
abbrev impl_LockOfPins_k1 (w : World) (Post : Value → World → Prop) (x12 : Value) (x21 : Int) (x22 : Int) (x23 : Int) (x24 : Int) (x25 : Int) (w26 : World) : Prop :=
  Calls Tryz.prog 27 #[(Value.agg #[(Value.int .i64 x21), (Value.int .i64 x22), (Value.int .i64 x23), (Value.int .i64 x24), (Value.int .i64 x25)]), x12] w26 (fun e27 w28 => ∃ u29 : Value, ∃ b30 : Bool, e27 = .returned (Value.tuple #[(Value.agg #[u29]), (Value.bool b30)]) ∧ Keeps w.heap.size [25, 28] w26 w28 ∧ ∀ w31 : World, Ext w28 w31 → oneC u29 (∀ w32 : World, BxS w.heap.size 28 w31 w32 → (((!b30) = true → ∀ w33 : World, BxS w.heap.size 28 w32 w33 → Post (Value.tuple #[(Value.agg #[(Value.slice none 0 0)]), (Value.int .i64 2)]) w33) ∧ ((!b30) = false → (impl_LockOfPins_k0 w Post u29 w32)))))
def impl_LockOfPins_vc (m_Chambers : Int) (m_Depths : Int) (m_Step : Int) (m_Same : Int) (m_Least : Int) (v : Value) (w : World) (Post : Value → World → Prop) : Prop :=
  ∀ w1 : World, Ext w w1 → ∀ w2 : World, Ext w1 w2 → Calls Tryz.prog 26 #[(Value.agg #[(Value.int .i64 m_Chambers), (Value.int .i64 m_Depths), (Value.int .i64 m_Step), (Value.int .i64 m_Same), (Value.int .i64 m_Least)])] w2 (fun e3 w4 => ∃ b5 : Bool, e3 = .returned (Value.bool b5) ∧ Keeps w.heap.size [25, 28] w2 w4 ∧ (((!b5) = true → ∀ w6 : World, BxS w.heap.size 28 w4 w6 → Post (Value.tuple #[(Value.agg #[(Value.slice none 0 0)]), (Value.int .i64 1)]) w6) ∧ ((!b5) = false → (impl_LockOfPins_k1 w Post v m_Chambers m_Depths m_Step m_Same m_Least w4))))
theorem impl_LockOfPins_eq (m_Chambers : Int) (m_Depths : Int) (m_Step : Int) (m_Same : Int) (m_Least : Int) (v : Value) (w : World) (Post : Value → World → Prop) : denF Tryz.prog [] noAnn 9 [(Value.agg #[(Value.int .i64 m_Chambers), (Value.int .i64 m_Depths), (Value.int .i64 m_Step), (Value.int .i64 m_Same), (Value.int .i64 m_Least)]), v] w Post = impl_LockOfPins_vc m_Chambers m_Depths m_Step m_Same m_Least v w Post := by kernel_rfl
set_option maxRecDepth 100000 in
theorem impl_LockOfPins_calls (m_Chambers : Int) (m_Depths : Int) (m_Step : Int) (m_Same : Int) (m_Least : Int) (v : Value) (w : World) (Post : Value → World → Prop) (hvc : impl_LockOfPins_vc m_Chambers m_Depths m_Step m_Same m_Least v w Post) : Ret Tryz.prog 9 #[(Value.agg #[(Value.int .i64 m_Chambers), (Value.int .i64 m_Depths), (Value.int .i64 m_Step), (Value.int .i64 m_Same), (Value.int .i64 m_Least)]), v] w Post :=
  Ret.of (denF_sound mixed (Eq.mpr (impl_LockOfPins_eq m_Chambers m_Depths m_Step m_Same m_Least v w Post) hvc))

theorem impl_LockOfPins_ret (M : Mk) (v : Value) (zss : List (List Int)) (w : World) (h : RR w v zss) (hl : zss.length ≤ 1048600) (hz : ∀ z ∈ zss, z.length ≤ 1048600) : LkR 9 #[M.v, v] w (lopR M zss) (lopCode M zss) :=
  impl_LockOfPins_calls M.c M.d M.s M.m M.l v w _ (by
    unfold impl_LockOfPins_vc
    intro w1 h1 w2 h2
    have k2 := h1.trans h2
    refine (impl_IsMaker_val ..).call fun w4 h4 => ⟨_, rfl, h4.keeps, fun hb w5 b5 => ?_, fun hb => ?_⟩
    · obtain ⟨e1, e2⟩ := lop_no (M := M) (zss := zss) (nd_t hb)
      rw [e1, e2]
      exact ⟨_, rfl, OwnR.nil_ _ _, (k2.trans h4).bxs b5⟩
    have hm := nd_f hb
    have k4 := k2.trans h4
    refine (impl_lockOfPinsp_ret M hm v zss w4 (h.ext k4) hl hz).call ?_
    rintro _ w6 ⟨u, rfl, o6, h6⟩
    refine ⟨u, _, rfl, h6.keeps, fun w7 h7 => (o6.ext h7).rr.oneC fun w8 b8 => ?_⟩
    have k8 := ((k4.trans h6).trans h7).bxs b8
    have o8 := (o6.ext h7).bxs b8 (by decide) (by decide)
    refine ⟨fun hb w9 b9 => ?_, fun hb => ?_⟩
    · obtain ⟨e1, e2⟩ := lop_bad hm (nd_t hb)
      rw [e1, e2]
      exact ⟨_, rfl, OwnR.nil_ _ _, k8.bxs b9⟩
    have hok := nd_f hb
    obtain ⟨e1, e2⟩ := lop_yes hm hok
    rw [e1, e2]
    rw [if_pos hok.1] at o8
    exact o8.rr.oneC fun w9 b9 => ⟨u, rfl, (o8.mono k4.size).bxs b9 (by decide) (by decide), k8.bxs b9⟩)
end Go.Proofs
end
section
set_option linter.unusedVariables false
namespace Go.Tx
open Go Go.Lib Go.Sx
/-- the stacks that these words spell -/
def rdss : List (List UInt8) → Option (List (List Int))
  | [] => some []
  | x :: xs => match rds (cutAt 43 x), rdss xs with
    | some z, some zs => some (z :: zs)
    | _, _ => none
theorem rdss_bad : ∀ {ws : List (List UInt8)} {x : List UInt8}, x ∈ ws → rds (cutAt 43 x) = none → rdss ws = none
  | y :: ys, x, hx, h => by
    rw [rdss]
    rcases List.mem_cons.1 hx with rfl | hx
    · rw [h]
    · rw [rdss_bad hx h]
      split
      · rename_i h2; cases h2
      · rfl
theorem rdss_snoc : ∀ {ws : List (List UInt8)} {zss : List (List Int)} {x : List UInt8} {z : List Int}, rdss ws = some zss → rds (cutAt 43 x) = some z → rdss (ws ++ [x]) = some (zss ++ [z])
  | [], zss, x, z, h, hx => by
    injection h with h
    subst h
    simp only [List.nil_append, rdss, hx]
  | y :: ys, zss, x, z, h, hx => by
    rw [rdss] at h
    split at h
    · rename_i a b h1 h2
      injection h with h
      subst h
      rw [List.cons_append, rdss, h1, rdss_snoc h2 hx]
      rfl
    · cases h
theorem rdss_len : ∀ {ws : List (List UInt8)} {zss : List (List Int)}, rdss ws = some zss → zss.length = ws.length
  | [], zss, h => by
    injection h with h
    subst h
    rfl
  | y :: ys, zss, h => by
    rw [rdss] at h
    split at h
    · rename_i a b h1 h2
      injection h with h
      subst h
      rw [List.length_cons, List.length_cons, rdss_len h2]
    · cases h
/-- each stack comes from a word -/
theorem rdss_mem : ∀ {ws : List (List UInt8)} {zss : List (List Int)}, rdss ws = some zss → (∀ z ∈ zss, ∃ x ∈ ws, rds (cutAt 43 x) = some z) ∧ ∀ x ∈ ws, ∃ z ∈ zss, rds (cutAt 43 x) = some z
  | [], zss, h => by
    injection h with h
    subst h
    exact ⟨fun z hz => (by cases hz), fun z hz => (by cases hz)⟩
  | y :: ys, zss, h => by
    rw [rdss] at h
    split at h
    · rename_i a b h1 h2
      injection h with h
      subst h
      obtain ⟨i1, i2⟩ := rdss_mem h2
      refine ⟨fun z hz => ?_, fun x hx => ?_⟩
      · rcases List.mem_cons.1 hz with rfl | hz
        · exact ⟨y, by simp, h1⟩
        · obtain ⟨x, hx, e⟩ := i1 z hz
          exact ⟨x, List.mem_cons_of_mem _ hx, e⟩
      · rcases List.mem_cons.1 hx with rfl | hx
        · exact ⟨a, by simp, h1⟩
        · obtain ⟨z, hz, e⟩ := i2 x hx
          exact ⟨z, List.mem_cons_of_mem _ hz, e⟩
    · cases h
theorem rds_len {ws : List (List UInt8)} {zs : List Int} (h : rds ws = some zs) : zs.length = ws.length := by
  have := congrArg List.length (rds_some h).1
  rw [List.length_map] at this
  exact this.symm
end Go.Tx
namespace Go.Proofs
open Go.Sx Go.RowKit Go.Tx

/-- the stacks of a text are not too long -/
theorem rdss_small {l : List UInt8} {zss : List (List Int)} (hl : l.length ≤ 1048576) (h : rdss (cutAt 32 l) = some zss) : zss.length ≤ 1048600 ∧ ∀ z ∈ zss, z.length ≤ 1048600 := by
  have h1 := rdss_len h
  have h2 := cutAt_length 32 l
  refine ⟨by omega, fun z hz => ?_⟩
  obtain ⟨x, hx, e⟩ := (rdss_mem h).1 z hz
  have h3 := rds_len e
  have h4 := cutAt_length 43 x
  have h5 := cut_small hx
  omega
/-- a row of the call's own, put at the end of a slice of rows; what else is there stays -/
theorem OwnR.push' {B C : Nat} {w3 w4 w5 : World} {v u r : Value} {zss : List (List Int)} {z : List Int} (h : OwnR B w3 v zss) (hu : Own w3.heap.size w4 2 u (ints z)) (e4 : Ext w3 w4) (hr : Own C w5 45 r [u]) (e5 : Ext w4 w5) (hB : B ≤ w3.heap.size) (hl : zss.length < 4398046511104) {K : Value → World → Prop}
    (hK : ∀ v' w6, OwnR B w6 v' (zss ++ [z]) → (∀ w0 : World, w0.heap.size ≤ B → Ext w0 w5 → Ext w0 w6) → (∀ (B' : Nat) (e : TypeId) (x : Value) (xs : List Value), e ≠ 45 → Own B' w5 e x xs → Own B' w6 e x xs) → K v' w6) : AppV w5 45 v r K := by
  obtain ⟨us, h1, h2, h3⟩ := h
  have e := e4.trans e5
  have h1' := h1.ext e
  have hu' := (hu.ext e5)
  refine h1'.app1 hr hu.rd.one (by rw [h2.1]; exact hl) (Nat.le_trans hB e.size) fun v' w6 o6 g6 hb => hK v' w6 ⟨us ++ [u], o6, ?_, ?_⟩ (fun w0 h0 x => x.grown h1' h0 g6) fun B' e x xs hne o => o.grown g6 (Apart.types o h1' hne)
  · refine (h2.map fun x zx hx => ((hx.ext e).grown g6 (Apart.types (hx.ext e) h1' (by decide)))).snoc ?_
    exact (hu'.mono hB).grown g6 (Apart.types hu' h1' (by decide))
  · rw [List.pairwise_append]
    refine ⟨h3, by simp, fun x hx y hy => ?_⟩
    simp only [List.mem_singleton] at hy
    subst hy
    obtain ⟨i, hi, rfl⟩ := List.getElem_of_mem hx
    have hik : i < zss.length := by rw [← h2.1]; exact hi
    exact Apart.new (h2.get hik) hu
def spec_l05Read_A (t : ByteArray) (w : World) : Nat → Ann := fun κ => match κ with
  | 0 => { σ := Nat × Value, sli := [6, 5], slc := fun s => [SV.v (Value.int .i64 (s.1 : Int)), SV.v s.2], bxi := [], bxc := fun s => [], inv := fun s W => True, μ := fun s W => 0, free := true }
  | 1 => { σ := Nat × Value, sli := [9, 8], slc := fun s => [SV.v (Value.int .i64 (s.1 : Int)), SV.v s.2], bxi := [], bxc := fun s => [], inv := fun s W => True, μ := fun s W => 0, free := true }
  | _ => { σ := Unit, sli := [], slc := fun _ => [], bxi := [], bxc := fun _ => [], inv := fun _ _ => False, μ := fun _ _ => 0 }
abbrev spec_l05Read_k0 (s26 : Nat × Value) (w27 : World) (J28 : (Nat × Value) → World → Prop) (m29 : (Nat × Value) → World → Nat) (x67 : Value) (x68 : Int) (w90 : World) : Prop :=
  I64 (x68 + 1) ∧ ∃ s91 : (Nat × Value), (Value.int .i64 (x68 + 1)) = (Value.int .i64 (s91.1 : Int)) ∧ x67 = s91.2 ∧ (J28 s91 w90) ∧ (m29 s91 w90) < (m29 s26 w27)
abbrev spec_l05Read_k1 (s26 : Nat × Value) (w27 : World) (J28 : (Nat × Value) → World → Prop) (m29 : (Nat × Value) → World → Nat) (x43 : Value) (x44 : Int) (x45 : Int) (w62 : World) : Prop :=
  ∀ (v63 : Value) (w64 : World), Sx.Own w62.heap.size w64 2 v63 [(Value.int .i64 x45)] → Ext w62 w64 → AppV w64 2 x43 v63 (fun v65 w66 => (spec_l05Read_k0 s26 w27 J28 m29 v65 x44 w66))
abbrev spec_l05Read_k2 (w : World) (Post : Value → World → Prop) (u22 : Value) (s26 : Nat × Value) (w27 : World) (J28 : (Nat × Value) → World → Prop) (m29 : (Nat × Value) → World → Nat) (x31 : Value) (x32 : Int) (w36 : World) : Prop :=
  IxV 1 u22 x32 (fun ad37 => ∃ s38 : ByteArray, LdV w36 (Value.pointer (some ad37)) (Value.string s38) ∧ Calls Tryz.prog 55 #[(Value.string s38)] w36 (fun e39 w40 => ∃ n41 : Int, ∃ b42 : Bool, e39 = .returned (Value.tuple #[(Value.int .i64 n41), (Value.bool b42)]) ∧ Keeps w.heap.size [] w36 w40 ∧ (((!b42) = true → Post (Value.tuple #[(Value.slice none 0 0), (Value.bool false)]) w40) ∧ ((!b42) = false → (spec_l05Read_k1 s26 w27 J28 m29 x31 x32 n41 w40)))))
abbrev spec_l05Read_k3 (s7 : Nat × Value) (w8 : World) (J9 : (Nat × Value) → World → Prop) (m10 : (Nat × Value) → World → Nat) (x114 : Value) (x115 : Int) (w135 : World) : Prop :=
  I64 (x115 + 1) ∧ ∃ s136 : (Nat × Value), (Value.int .i64 (x115 + 1)) = (Value.int .i64 (s136.1 : Int)) ∧ x114 = s136.2 ∧ (J9 s136 w135) ∧ (m10 s136 w135) < (m10 s7 w8)
abbrev spec_l05Read_k4 (s7 : Nat × Value) (w8 : World) (J9 : (Nat × Value) → World → Prop) (m10 : (Nat × Value) → World → Nat) (x92 : Value) (x93 : Int) (x95 : Value) (w109 : World) : Prop :=
  oneC x95 (∀ (v110 : Value) (w111 : World), Sx.Own w109.heap.size w111 45 v110 [x95] → Ext w109 w111 → AppV w111 45 x92 v110 (fun v112 w113 => (spec_l05Read_k3 s7 w8 J9 m10 v112 x93 w113)))
abbrev spec_l05Read_k5 (w : World) (Post : Value → World → Prop) (u3 : Value) (s7 : Nat × Value) (w8 : World) (J9 : (Nat × Value) → World → Prop) (m10 : (Nat × Value) → World → Nat) (x12 : Value) (x13 : Int) (w17 : World) : Prop :=
  IxV 1 u3 x13 (fun ad18 => ∃ s19 : ByteArray, LdV w17 (Value.pointer (some ad18)) (Value.string s19) ∧ Calls Tryz.prog 54 #[(Value.string s19), (Value.int .u8 43)] w17 (fun e20 w21 => ∃ u22 : Value, e20 = .returned u22 ∧ Keeps w.heap.size [] w17 w21 ∧ ∀ (v23 : Value) (w24 : World), Sx.Own w21.heap.size w24 2 v23 [] → Ext w21 w24 → (∃ (J28 : (Nat × Value) → World → Prop) (m29 : (Nat × Value) → World → Nat), ((∃ s25 : (Nat × Value), (Value.int .i64 0) = (Value.int .i64 (s25.1 : Int)) ∧ v23 = s25.2 ∧ (J28 s25 w24)) ∧ ∀ (s26 : (Nat × Value)) (w27 : World), (J28 s26 w27) → LenV u22 (fun n30 => ((((s26.1 : Int) < n30) → (spec_l05Read_k2 w Post u22 s26 w27 J28 m29 s26.2 (s26.1 : Int) w27)) ∧ (¬ ((s26.1 : Int) < n30) → (spec_l05Read_k4 s7 w8 J9 m10 x12 x13 s26.2 w27))))))))
def spec_l05Read_vc (t : ByteArray) (w : World) (Post : Value → World → Prop) : Prop :=
  Calls Tryz.prog 54 #[(Value.string t), (Value.int .u8 32)] w (fun e1 w2 => ∃ u3 : Value, e1 = .returned u3 ∧ Keeps w.heap.size [] w w2 ∧ ∀ (v4 : Value) (w5 : World), Sx.Own w2.heap.size w5 45 v4 [] → Ext w2 w5 → (∃ (J9 : (Nat × Value) → World → Prop) (m10 : (Nat × Value) → World → Nat), ((∃ s6 : (Nat × Value), (Value.int .i64 0) = (Value.int .i64 (s6.1 : Int)) ∧ v4 = s6.2 ∧ (J9 s6 w5)) ∧ ∀ (s7 : (Nat × Value)) (w8 : World), (J9 s7 w8) → LenV u3 (fun n11 => ((((s7.1 : Int) < n11) → (spec_l05Read_k5 w Post u3 s7 w8 J9 m10 s7.2 (s7.1 : Int) w8)) ∧ (¬ ((s7.1 : Int) < n11) → Post (Value.tuple #[s7.2, (Value.bool true)]) w8))))))
theorem spec_l05Read_eq (t : ByteArray) (w : World) (Post : Value → World → Prop) : denF Tryz.prog [] (spec_l05Read_A t w) 36 [(Value.string t)] w Post = spec_l05Read_vc t w Post := by kernel_rfl
set_option maxRecDepth 100000 in
theorem spec_l05Read_calls (t : ByteArray) (w : World) (Post : Value → World → Prop) (hvc : spec_l05Read_vc t w Post) : Ret Tryz.prog 36 #[(Value.string t)] w Post :=
  Ret.of (denF_sound mixed (Eq.mpr (spec_l05Read_eq t w Post) hvc))

theorem spec_l05Read_ret (l : List UInt8) (w : World) (hl : l.length ≤ 1048576) : Ret Tryz.prog 36 #[txt l] w fun r w' => Ext w w' ∧ ((∃ u zss, r = .tuple #[u, .bool true] ∧ OwnR w.heap.size w' u zss ∧ rdss (cutAt 32 l) = some zss) ∨ (r = .tuple #[.slice none 0 0, .bool false] ∧ ∃ x ∈ cutAt 32 l, ∃ y ∈ cutAt 43 x, rd13 y = none)) :=
  spec_l05Read_calls ⟨l.toArray⟩ w _ (by
    unfold spec_l05Read_vc
    refine (spec_l01Split_ret l 32 w hl).call ?_
    rintro u w2 ⟨ou, h2⟩
    have hcl := cutAt_length 32 l
    refine ⟨u, rfl, h2.keeps, fun v1 w3 o3 h3 => ?_⟩
    refine ⟨fun s W => s.1 ≤ (cutAt 32 l).length ∧ (∃ zss, rdss ((cutAt 32 l).take s.1) = some zss ∧ zss.length = s.1 ∧ OwnR w2.heap.size W s.2 zss) ∧ Ext w2 W, fun s _ => (cutAt 32 l).length - s.1, ⟨(0, v1), rfl, rfl, Nat.zero_le _, ⟨[], rfl, rfl, [], o3, Rows.nil_, .nil⟩, h3⟩, ?_⟩
    rintro ⟨k, v⟩ w4 ⟨hk, ⟨zss, hr, hzl, o4⟩, h4⟩
    simp only at hk hr o4 hzl
    have k4 := h2.trans h4
    refine RS.len (ou.ext h4).rd ⟨fun hlt => ?_, fun hge => ?_⟩
    · simp only at hlt
      have hk' : k < (cutAt 32 l).length := by omega
      have hm := List.getElem_mem hk'
      have hwl := cut_small hm
      refine RS.get (ou.ext h4).rd k rfl hk' ?_
      generalize hx : (cutAt 32 l)[k] = x at hm hwl
      refine (spec_l01Split_ret x 43 w4 (by omega)).call ?_
      rintro q w5 ⟨oq, h5⟩
      have hcx := cutAt_length 43 x
      refine ⟨q, rfl, h5.keeps, fun v5 w6 o6 h6 => ?_⟩
      have k5 := k4.trans h5
      refine ⟨fun s W => s.1 ≤ (cutAt 43 x).length ∧ (∃ zs, rds ((cutAt 43 x).take s.1) = some zs ∧ zs.length = s.1 ∧ Own w5.heap.size W 2 s.2 (ints zs)) ∧ Ext w5 W, fun s _ => (cutAt 43 x).length - s.1, ⟨(0, v5), rfl, rfl, Nat.zero_le _, ⟨[], rfl, rfl, o6⟩, h6⟩, ?_⟩
      rintro ⟨j, p⟩ w7 ⟨hj, ⟨zs, hrj, hzj, o7⟩, h7⟩
      simp only at hj hrj o7 hzj
      have k7 := k5.trans h7
      refine RS.len (oq.ext h7).rd ⟨fun hlt => ?_, fun hge => ?_⟩
      · simp only at hlt
        have hj' : j < (cutAt 43 x).length := by omega
        have hmj := List.getElem_mem hj'
        refine RS.get (oq.ext h7).rd j rfl hj' ?_
        refine (spec_l01Value_ret (cutAt 43 x)[j] w7).call ?_
        rintro _ w8 ⟨⟨n, ok, rfl, hy, hn⟩, h8⟩
        refine ⟨n, ok, rfl, h8.keeps, fun hb => ⟨k7.trans h8, .inr ⟨rfl, x, hm, _, hmj, hn (by simpa using hb)⟩⟩, fun hb v8 w9 o9 h9 => ?_⟩
        have h79 := (h7.trans h8).trans h9
        refine ((o7.ext h8).ext h9).app1 o9 rfl (by simp; omega) h79.size fun v' w10 o10 g10 _ => ⟨by unfold I64; simp only; omega, (j + 1, v'), rfl, rfl, ⟨hj', ⟨zs ++ [n], ?_, by simp [hzj], by rw [ints_append]; exact o10⟩, h79.grown ((o7.ext h8).ext h9) (Nat.le_refl _) g10⟩, by simp only; omega⟩
        simp only
        rw [List.take_add_one, List.getElem?_eq_getElem hj']
        exact rds_snoc hrj (rd13_rd (hy (by simpa using hb)))
      · simp only at hge
        obtain rfl : j = (cutAt 43 x).length := by omega
        rw [List.take_length] at hrj
        refine o7.rd.oneC fun r w8 o8 h8 => ?_
        refine (o4.ext h5).push o7 h7 o8 h8 (Nat.le_trans h4.size h5.size) (by omega) fun v' w9 o9 hx9 => ⟨by unfold I64; simp only; omega, (k + 1, v'), rfl, rfl, ⟨hk', ⟨zss ++ [zs], ?_, by simp [hzl], o9⟩, hx9 w2 (Nat.le_refl _) (((h4.trans h5).trans h7).trans h8)⟩, by simp only; omega⟩
        simp only
        rw [List.take_add_one, List.getElem?_eq_getElem hk', hx]
        exact rdss_snoc hr hrj
    · simp only at hge
      obtain rfl : k = (cutAt 32 l).length := by omega
      rw [List.take_length] at hr
      exact ⟨k4, .inl ⟨v, zss, rfl, o4.mono h2.size, hr⟩⟩)
/-! ### the lock with a text -/
def pinsO (M : Mk) (l : List UInt8) : Option (List (List Int)) := match rdss (cutAt 32 l) with
  | some zss => if lopOk M zss then some (lop zss) else none
  | none => none
def rpR (M : Mk) (l : List UInt8) : List (List Int) := if MkOk M.c M.d M.s M.m M.l then (pinsO M l).getD [] else []
def rpC (M : Mk) (l : List UInt8) : Int := if MkOk M.c M.d M.s M.m M.l then (if (pinsO M l).isSome then 0 else 6) else 1
theorem rp_no {M : Mk} {l : List UInt8} (h : ¬ MkOk M.c M.d M.s M.m M.l) : rpR M l = [] ∧ rpC M l = 1 := by unfold rpR rpC; rw [if_neg h, if_neg h]; exact ⟨rfl, rfl⟩
theorem rp_bad {M : Mk} {l : List UInt8} (h : MkOk M.c M.d M.s M.m M.l) (h2 : pinsO M l = none) : rpR M l = [] ∧ rpC M l = 6 := by unfold rpR rpC; rw [if_pos h, if_pos h, h2]; exact ⟨rfl, rfl⟩
theorem rp_yes {M : Mk} {l : List UInt8} {zss : List (List Int)} (h : MkOk M.c M.d M.s M.m M.l) (h2 : pinsO M l = some zss) : rpR M l = zss ∧ rpC M l = 0 := by unfold rpR rpC; rw [if_pos h, if_pos h, h2]; exact ⟨rfl, rfl⟩
theorem pinsO_lock {M : Mk} {l : List UInt8} {zss : List (List Int)} (h : MkOk M.c M.d M.s M.m M.l) (h2 : pinsO M l = some zss) : LkOk M.c M.d M.s M.m M.l zss := by
  unfold pinsO at h2
  split at h2
  · split at h2
    · rename_i hl
      injection h2 with h2
      subst h2
      exact ((lop_iff h).1 hl).2.1
    · cases h2
  · cases h2
theorem rpR_total (M : Mk) (l : List UInt8) : total (rpR M l) ≤ 1000000 := by
  by_cases hm : MkOk M.c M.d M.s M.m M.l
  · cases ho : pinsO M l with
    | none => rw [(rp_bad hm ho).1]; simp [total]
    | some zss =>
      rw [(rp_yes hm ho).1]
      obtain ⟨_, h1, h2⟩ := lk_small (pinsO_lock hm ho)
      have := total_max (zss := zss) (n := 100) fun z hz => (h2 z hz).2.1
      omega
  · rw [(rp_no hm).1]; simp [total]
def impl_ReadPins_A (m_Chambers : Int) (m_Depths : Int) (m_Step : Int) (m_Same : Int) (m_Least : Int) (t : ByteArray) (w : World) : Nat → Ann := fun κ => match κ with
  | 0 => { σ := Nat × Value, sli := [21, 6], slc := fun s => [SV.v (Value.int .i64 (s.1 : Int)), SV.v s.2], bxi := [1], bxc := fun s => [[(Value.slice none 0 0)]], inv := fun s W => True, μ := fun s W => 0, free := true }
  | _ => { σ := Unit, sli := [], slc := fun _ => [], bxi := [], bxc := fun _ => [], inv := fun _ _ => False, μ := fun _ _ => 0 }
abbrev impl_ReadPins_k0 (s34 : Nat × Value) (w35 : World) (J36 : (Nat × Value) → World → Prop) (m37 : (Nat × Value) → World → Nat) (x69 : Value) (x73 : Int) (w89 : World) : Prop :=
  I64 (x73 + 1) ∧ ∃ s90 : (Nat × Value), (Value.int .i64 (x73 + 1)) = (Value.int .i64 (s90.1 : Int)) ∧ x69 = s90.2 ∧ (Value.slice none 0 0) = (Value.slice none 0 0) ∧ (J36 s90 w89) ∧ (m37 s90 w89) < (m37 s34 w35)
abbrev impl_ReadPins_k1 (s34 : Nat × Value) (w35 : World) (J36 : (Nat × Value) → World → Prop) (m37 : (Nat × Value) → World → Nat) (x48 : Value) (x50 : Value) (x52 : Int) (w64 : World) : Prop :=
  oneC x50 (∀ (v65 : Value) (w66 : World), Sx.Own w64.heap.size w66 45 v65 [x50] → Ext w64 w66 → AppV w66 45 x48 v65 (fun v67 w68 => (impl_ReadPins_k0 s34 w35 J36 m37 v67 x52 w68)))
abbrev impl_ReadPins_k2 (w : World) (Post : Value → World → Prop) (u31 : Value) (s34 : Nat × Value) (w35 : World) (J36 : (Nat × Value) → World → Prop) (m37 : (Nat × Value) → World → Nat) (x38 : Value) (x39 : Int) (w40 : World) : Prop :=
  IxV 1 u31 x39 (fun ad41 => ∃ s42 : ByteArray, LdV w40 (Value.pointer (some ad41)) (Value.string s42) ∧ Calls Tryz.prog 35 #[(Value.string s42), (Value.string (⟨#[43]⟩ : ByteArray))] w40 (fun e43 w44 => ∃ u45 : Value, ∃ b46 : Bool, e43 = .returned (Value.tuple #[u45, (Value.bool b46)]) ∧ Keeps w.heap.size [25, 28] w40 w44 ∧ (((!b46) = true → ∀ w47 : World, BxS w.heap.size 28 w44 w47 → Post (Value.tuple #[(Value.agg #[(Value.slice none 0 0)]), (Value.int .i64 6)]) w47) ∧ ((!b46) = false → (impl_ReadPins_k1 s34 w35 J36 m37 x38 u45 x39 w44)))))
abbrev impl_ReadPins_k3 (w : World) (Post : Value → World → Prop) (x162 : Value) (w163 : World) : Prop :=
  oneC x162 (∀ w164 : World, BxS w.heap.size 28 w163 w164 → Post (Value.tuple #[(Value.agg #[x162]), (Value.int .i64 0)]) w164)
abbrev impl_ReadPins_k4 (w : World) (Post : Value → World → Prop) (x97 : Value) (x110 : Int) (x111 : Int) (x112 : Int) (x113 : Int) (x114 : Int) (w115 : World) : Prop :=
  Calls Tryz.prog 27 #[(Value.agg #[(Value.int .i64 x110), (Value.int .i64 x111), (Value.int .i64 x112), (Value.int .i64 x113), (Value.int .i64 x114)]), x97] w115 (fun e116 w117 => ∃ u118 : Value, ∃ b119 : Bool, e116 = .returned (Value.tuple #[(Value.agg #[u118]), (Value.bool b119)]) ∧ Keeps w.heap.size [25, 28] w115 w117 ∧ ∀ w120 : World, Ext w117 w120 → oneC u118 (∀ w121 : World, BxS w.heap.size 28 w120 w121 → (((!b119) = true → ∀ w122 : World, BxS w.heap.size 28 w121 w122 → Post (Value.tuple #[(Value.agg #[(Value.slice none 0 0)]), (Value.int .i64 6)]) w122) ∧ ((!b119) = false → (impl_ReadPins_k3 w Post u118 w121)))))
abbrev impl_ReadPins_k5 (w : World) (Post : Value → World → Prop) (x12 : ByteArray) (x21 : Int) (x22 : Int) (x23 : Int) (x24 : Int) (x25 : Int) (w26 : World) : Prop :=
  ∀ (v27 : Value) (w28 : World), Sx.Own w26.heap.size w28 45 v27 [] → Ext w26 w28 → Calls Tryz.prog 34 #[(Value.string x12), (Value.string (⟨#[32]⟩ : ByteArray))] w28 (fun e29 w30 => ∃ u31 : Value, e29 = .returned u31 ∧ Keeps w.heap.size [25, 28] w28 w30 ∧ LenV u31 (fun n32 => (∃ (J36 : (Nat × Value) → World → Prop) (m37 : (Nat × Value) → World → Nat), ((∃ s33 : (Nat × Value), (Value.int .i64 0) = (Value.int .i64 (s33.1 : Int)) ∧ v27 = s33.2 ∧ (Value.slice none 0 0) = (Value.slice none 0 0) ∧ (J36 s33 w30)) ∧ ∀ (s34 : (Nat × Value)) (w35 : World), (J36 s34 w35) → ((((s34.1 : Int) < n32) → (impl_ReadPins_k2 w Post u31 s34 w35 J36 m37 s34.2 (s34.1 : Int) w35)) ∧ (¬ ((s34.1 : Int) < n32) → (impl_ReadPins_k4 w Post s34.2 x21 x22 x23 x24 x25 w35)))))))
def impl_ReadPins_vc (m_Chambers : Int) (m_Depths : Int) (m_Step : Int) (m_Same : Int) (m_Least : Int) (t : ByteArray) (w : World) (Post : Value → World → Prop) : Prop :=
  ∀ w1 : World, Ext w w1 → ∀ w2 : World, Ext w1 w2 → Calls Tryz.prog 26 #[(Value.agg #[(Value.int .i64 m_Chambers), (Value.int .i64 m_Depths), (Value.int .i64 m_Step), (Value.int .i64 m_Same), (Value.int .i64 m_Least)])] w2 (fun e3 w4 => ∃ b5 : Bool, e3 = .returned (Value.bool b5) ∧ Keeps w.heap.size [25, 28] w2 w4 ∧ (((!b5) = true → ∀ w6 : World, BxS w.heap.size 28 w4 w6 → Post (Value.tuple #[(Value.agg #[(Value.slice none 0 0)]), (Value.int .i64 1)]) w6) ∧ ((!b5) = false → (impl_ReadPins_k5 w Post t m_Chambers m_Depths m_Step m_Same m_Least w4))))
theorem impl_ReadPins_eq (m_Chambers : Int) (m_Depths : Int) (m_Step : Int) (m_Same : Int) (m_Least : Int) (t : ByteArray) (w : World) (Post : Value → World → Prop) : denF Tryz.prog [] (impl_ReadPins_A m_Chambers m_Depths m_Step m_Same m_Least t w) 12 [(Value.agg #[(Value.int .i64 m_Chambers), (Value.int .i64 m_Depths), (Value.int .i64 m_Step), (Value.int .i64 m_Same), (Value.int .i64 m_Least)]), (Value.string t)] w Post = impl_ReadPins_vc m_Chambers m_Depths m_Step m_Same m_Least t w Post := by kernel_rfl
set_option maxRecDepth 100000 in
theorem impl_ReadPins_calls (m_Chambers : Int) (m_Depths : Int) (m_Step : Int) (m_Same : Int) (m_Least : Int) (t : ByteArray) (w : World) (Post : Value → World → Prop) (hvc : impl_ReadPins_vc m_Chambers m_Depths m_Step m_Same m_Least t w Post) : Ret Tryz.prog 12 #[(Value.agg #[(Value.int .i64 m_Chambers), (Value.int .i64 m_Depths), (Value.int .i64 m_Step), (Value.int .i64 m_Same), (Value.int .i64 m_Least)]), (Value.string t)] w Post :=
  Ret.of (denF_sound mixed (Eq.mpr (impl_ReadPins_eq m_Chambers m_Depths m_Step m_Same m_Least t w Post) hvc))

theorem impl_ReadPins_ret (M : Mk) (l : List UInt8) (w : World) (hl : l.length ≤ 1048576) (hg : Gs w) : LkR 12 #[M.v, txt l] w (rpR M l) (rpC M l) :=
  impl_ReadPins_calls M.c M.d M.s M.m M.l ⟨l.toArray⟩ w _ (by
    unfold impl_ReadPins_vc
    intro w1 h1 w2 h2
    have k2 := h1.trans h2
    refine (impl_IsMaker_val ..).call fun w4 h4 => ⟨_, rfl, h4.keeps, fun hb w5 b5 => ?_, fun hb => ?_⟩
    · obtain ⟨e1, e2⟩ := rp_no (M := M) (l := l) (nd_t hb)
      rw [e1, e2]
      exact ⟨_, rfl, OwnR.nil_ _ _, (k2.trans h4).bxs b5⟩
    have hm := nd_f hb
    have k4 := k2.trans h4
    unfold impl_ReadPins_k5
    intro v5 w5 o5 h5
    have k5 := k4.trans h5
    refine (split_ret l 32 w5 (hg.ext k5) hl).call ?_
    rintro u w6 ⟨ou, h6⟩
    have k6 := k5.trans h6
    have hcl := cutAt_length 32 l
    refine ⟨u, rfl, h6.keeps, RS.len ou.rd ⟨fun s W => s.1 ≤ (cutAt 32 l).length ∧ (∃ zss, rdss ((cutAt 32 l).take s.1) = some zss ∧ zss.length = s.1 ∧ OwnR w4.heap.size W s.2 zss) ∧ Own w5.heap.size W 9 u (strs (cutAt 32 l)) ∧ Ext w4 W, fun s _ => (cutAt 32 l).length - s.1, ⟨(0, v5), rfl, rfl, rfl, Nat.zero_le _, ⟨[], rfl, rfl, [], o5.ext h6, Rows.nil_, .nil⟩, ou, h5.trans h6⟩, ?_⟩⟩
    rintro ⟨k, v⟩ w7 ⟨hk, ⟨zss, hr, hzl, o7⟩, u7, j7⟩
    simp only at hk hr o7 hzl
    have k7 := k4.trans j7
    refine ⟨fun hlt => ?_, fun hge => ?_⟩
    · simp only at hlt
      have hk' : k < (cutAt 32 l).length := by omega
      have hmem := List.getElem_mem hk'
      have hwl := cut_small hmem
      unfold impl_ReadPins_k2
      refine RS.get u7.rd k rfl hk' ?_
      generalize hx : (cutAt 32 l)[k] = x at hmem hwl
      refine (impl_parted_ret x 43 w7 (by omega) (hg.ext k7)).call ?_
      rintro _ w8 ⟨⟨p, zs, rfl, o8, hrx⟩ | ⟨rfl, hrx⟩, h8⟩
      · refine ⟨p, true, rfl, h8.keeps, fun h => (by cases h), fun _ => ?_⟩
        unfold impl_ReadPins_k1
        refine o8.rd.oneC fun r w9 o9 h9 => ?_
        have k9 := (k7.trans h8).trans h9
        refine o7.push' o8 h8 o9 h9 j7.size (by omega) fun v' w10 o10 hx10 keep => ⟨by unfold I64; simp only; omega, (k + 1, v'), rfl, rfl, rfl, ⟨hk', ⟨zss ++ [zs], ?_, by simp [hzl], o10⟩, keep _ _ _ _ (by decide) ((u7.ext h8).ext h9), hx10 w4 (Nat.le_refl _) ((j7.trans h8).trans h9)⟩, by simp only; omega⟩
        simp only
        rw [List.take_add_one, List.getElem?_eq_getElem hk', hx]
        exact rdss_snoc hr hrx
      · refine ⟨_, false, rfl, h8.keeps, fun _ w9 b9 => ?_, fun h => (by cases h)⟩
        obtain ⟨e1, e2⟩ := rp_bad (l := l) hm (show pinsO M l = none by unfold pinsO; rw [rdss_bad hmem hrx])
        rw [e1, e2]
        exact ⟨_, rfl, OwnR.nil_ _ _, (k7.trans h8).bxs b9⟩
    · simp only at hge
      obtain rfl : k = (cutAt 32 l).length := by omega
      rw [List.take_length] at hr
      obtain ⟨s1, s2⟩ := rdss_small hl hr
      unfold impl_ReadPins_k4
      refine (impl_lockOfPinsp_ret M hm v zss w7 o7.rr s1 s2).call ?_
      rintro _ w8 ⟨q, rfl, o8, h8⟩
      refine ⟨q, _, rfl, h8.keeps, fun w9 h9 => (o8.ext h9).rr.oneC fun w10 b10 => ?_⟩
      have k10 := ((k7.trans h8).trans h9).bxs b10
      have o10 := (o8.ext h9).bxs b10 (by decide) (by decide)
      refine ⟨fun hb w11 b11 => ?_, fun hb => ?_⟩
      · obtain ⟨e1, e2⟩ := rp_bad (l := l) hm (show pinsO M l = none by unfold pinsO; rw [hr]; simp only; rw [if_neg (nd_t hb)])
        rw [e1, e2]
        exact ⟨_, rfl, OwnR.nil_ _ _, k10.bxs b11⟩
      · have hok := nd_f hb
        obtain ⟨e1, e2⟩ := rp_yes (l := l) hm (show pinsO M l = some (lop zss) by unfold pinsO; rw [hr]; simp only; rw [if_pos hok])
        rw [e1, e2]
        rw [if_pos hok.1] at o10
        unfold impl_ReadPins_k3
        exact o10.rr.oneC fun w11 b11 => ⟨q, rfl, (o10.mono k7.size).bxs b11 (by decide) (by decide), k10.bxs b11⟩)
abbrev spec_ReadPins_k0 (w : World) (Post : Value → World → Prop) (w81 : World) : Prop :=
  ∀ w82 : World, BxS w.heap.size 28 w81 w82 → Post (Value.tuple #[(Value.agg #[(Value.slice none 0 0)]), (Value.int .i64 6)]) w82
abbrev spec_ReadPins_k1 (w : World) (Post : Value → World → Prop) (x174 : Value) (w175 : World) : Prop :=
  oneC x174 (∀ w176 : World, BxS w.heap.size 28 w175 w176 → Post (Value.tuple #[(Value.agg #[x174]), (Value.int .i64 0)]) w176)
abbrev spec_ReadPins_k2 (w : World) (Post : Value → World → Prop) (n34 : Int) (x127 : Value) (w128 : World) : Prop :=
  (((n34 ≠ (0 : Int)) → ∀ w129 : World, BxS w.heap.size 28 w128 w129 → Post (Value.tuple #[(Value.agg #[(Value.slice none 0 0)]), (Value.int .i64 6)]) w129) ∧ (¬ (n34 ≠ (0 : Int)) → (spec_ReadPins_k1 w Post x127 w128)))
abbrev spec_ReadPins_k3 (w : World) (Post : Value → World → Prop) (x12 : ByteArray) (x21 : Int) (x22 : Int) (x23 : Int) (x24 : Int) (x25 : Int) (w26 : World) : Prop :=
  Calls Tryz.prog 36 #[(Value.string x12)] w26 (fun e27 w28 => ∃ u29 : Value, ∃ b30 : Bool, e27 = .returned (Value.tuple #[u29, (Value.bool b30)]) ∧ Keeps w.heap.size [25, 28] w26 w28 ∧ Calls Tryz.prog 10 #[(Value.agg #[(Value.int .i64 x21), (Value.int .i64 x22), (Value.int .i64 x23), (Value.int .i64 x24), (Value.int .i64 x25)]), u29] w28 (fun e31 w32 => ∃ u33 : Value, ∃ n34 : Int, e31 = .returned (Value.tuple #[(Value.agg #[u33]), (Value.int .i64 n34)]) ∧ Keeps w.heap.size [25, 28] w28 w32 ∧ ∀ w35 : World, Ext w32 w35 → oneC u33 (∀ w36 : World, BxS w.heap.size 28 w35 w36 → (((!b30) = true → (spec_ReadPins_k0 w Post w36)) ∧ ((!b30) = false → (spec_ReadPins_k2 w Post n34 u33 w36))))))
def spec_ReadPins_vc (m_Chambers : Int) (m_Depths : Int) (m_Step : Int) (m_Same : Int) (m_Least : Int) (t : ByteArray) (w : World) (Post : Value → World → Prop) : Prop :=
  ∀ w1 : World, Ext w w1 → ∀ w2 : World, Ext w1 w2 → Calls Tryz.prog 28 #[(Value.agg #[(Value.int .i64 m_Chambers), (Value.int .i64 m_Depths), (Value.int .i64 m_Step), (Value.int .i64 m_Same), (Value.int .i64 m_Least)])] w2 (fun e3 w4 => ∃ b5 : Bool, e3 = .returned (Value.bool b5) ∧ Keeps w.heap.size [25, 28] w2 w4 ∧ (((!b5) = true → ∀ w6 : World, BxS w.heap.size 28 w4 w6 → Post (Value.tuple #[(Value.agg #[(Value.slice none 0 0)]), (Value.int .i64 1)]) w6) ∧ ((!b5) = false → (spec_ReadPins_k3 w Post t m_Chambers m_Depths m_Step m_Same m_Least w4))))
theorem spec_ReadPins_eq (m_Chambers : Int) (m_Depths : Int) (m_Step : Int) (m_Same : Int) (m_Least : Int) (t : ByteArray) (w : World) (Post : Value → World → Prop) : denF Tryz.prog [] noAnn 13 [(Value.agg #[(Value.int .i64 m_Chambers), (Value.int .i64 m_Depths), (Value.int .i64 m_Step), (Value.int .i64 m_Same), (Value.int .i64 m_Least)]), (Value.string t)] w Post = spec_ReadPins_vc m_Chambers m_Depths m_Step m_Same m_Least t w Post := by kernel_rfl
set_option maxRecDepth 100000 in
theorem spec_ReadPins_calls (m_Chambers : Int) (m_Depths : Int) (m_Step : Int) (m_Same : Int) (m_Least : Int) (t : ByteArray) (w : World) (Post : Value → World → Prop) (hvc : spec_ReadPins_vc m_Chambers m_Depths m_Step m_Same m_Least t w Post) : Ret Tryz.prog 13 #[(Value.agg #[(Value.int .i64 m_Chambers), (Value.int .i64 m_Depths), (Value.int .i64 m_Step), (Value.int .i64 m_Same), (Value.int .i64 m_Least)]), (Value.string t)] w Post :=
  Ret.of (denF_sound mixed (Eq.mpr (spec_ReadPins_eq m_Chambers m_Depths m_Step m_Same m_Least t w Post) hvc))

theorem spec_ReadPins_ret (M : Mk) (l : List UInt8) (w : World) (hl : l.length ≤ 1048576) : LkR 13 #[M.v, txt l] w (rpR M l) (rpC M l) :=
  spec_ReadPins_calls M.c M.d M.s M.m M.l ⟨l.toArray⟩ w _ (by
    unfold spec_ReadPins_vc
    intro w1 h1 w2 h2
    have k2 := h1.trans h2
    refine (spec_IsMaker_val ..).call fun w4 h4 => ⟨_, rfl, h4.keeps, fun hb w5 b5 => ?_, fun hb => ?_⟩
    · obtain ⟨e1, e2⟩ := rp_no (M := M) (l := l) (nd_t hb)
      rw [e1, e2]
      exact ⟨_, rfl, OwnR.nil_ _ _, (k2.trans h4).bxs b5⟩
    have hm := nd_f hb
    have k4 := k2.trans h4
    unfold spec_ReadPins_k3
    refine (spec_l05Read_ret l w4 hl).call ?_
    rintro _ w5 ⟨h5, ⟨u, zss, rfl, o5, hr⟩ | ⟨rfl, x, hx, y, hy, hbad⟩⟩
    · have k5 := k4.trans h5
      obtain ⟨s1, s2⟩ := rdss_small hl hr
      refine ⟨u, true, rfl, h5.keeps, ?_⟩
      refine (spec_LockOfPins_ret M u zss w5 o5.rr s1 s2).call ?_
      rintro _ w6 ⟨q, rfl, o6, h6⟩
      refine ⟨q, _, rfl, h6.keeps, fun w7 h7 => (o6.ext h7).rr.oneC fun w8 b8 => ⟨fun h => (by cases h), fun _ => ?_⟩⟩
      have k8 := ((k5.trans h6).trans h7).bxs b8
      have o8 := (o6.ext h7).bxs b8 (by decide) (by decide)
      unfold spec_ReadPins_k2
      refine ⟨fun hne w9 b9 => ?_, fun he => ?_⟩
      · have hno : ¬ lopOk M zss := fun hok => hne (lop_yes hm hok).2
        obtain ⟨e1, e2⟩ := rp_bad (l := l) hm (show pinsO M l = none by unfold pinsO; rw [hr]; simp only; rw [if_neg hno])
        rw [e1, e2]
        exact ⟨_, rfl, OwnR.nil_ _ _, k8.bxs b9⟩
      · have hok : lopOk M zss := Classical.byContradiction fun hno => by
          have := (lop_bad hm hno).2
          omega
        obtain ⟨e1, e2⟩ := rp_yes (l := l) hm (show pinsO M l = some (lop zss) by unfold pinsO; rw [hr]; simp only; rw [if_pos hok])
        rw [e1, e2]
        rw [(lop_yes hm hok).1] at o8
        unfold spec_ReadPins_k1
        exact o8.rr.oneC fun w9 b9 => ⟨q, rfl, (o8.mono k5.size).bxs b9 (by decide) (by decide), k8.bxs b9⟩
    · have k5 := k4.trans h5
      have hnone : pinsO M l = none := by
        unfold pinsO
        split
        · rename_i zss hr
          obtain ⟨z, hz, hrz⟩ := (rdss_mem hr).2 x hx
          obtain ⟨n, hn, hs⟩ := rds_no13 hy hbad hrz
          rw [if_neg fun hok => hs (by
            have := (hok.1 z hz).1 n hn
            have := hm.2.1
            unfold Sml
            omega)]
        · rfl
      obtain ⟨e1, e2⟩ := rp_bad (l := l) hm hnone
      refine ⟨_, false, rfl, h5.keeps, ?_⟩
      refine (spec_LockOfPins_ret M _ [] w5 (OwnR.nil_ 0 w5).rr (by simp) (by simp)).call ?_
      rintro _ w6 ⟨q, rfl, o6, h6⟩
      refine ⟨q, _, rfl, h6.keeps, fun w7 h7 => (o6.ext h7).rr.oneC fun w8 b8 => ⟨fun _ => ?_, fun h => (by cases h)⟩⟩
      unfold spec_ReadPins_k0
      intro w9 b9
      rw [e1, e2]
      exact ⟨_, rfl, OwnR.nil_ _ _, (((k5.trans h6).trans h7).bxs b8).bxs b9⟩)
end Go.Proofs
end
section
set_option linter.unusedVariables false
namespace Go.Proofs
open Go.Sx Go.RowKit
def vlen : Value → Nat
  | .slice _ n _ => n
  | _ => 0
theorem Rd.vlen {w : World} {v : Value} {xs : List Value} (h : Rd w v xs) : Go.Proofs.vlen v = xs.length := by
  obtain ⟨a, c, rfl, _⟩ := h
  rfl
def keyAtO (M : Mk) (r : Int) : Option (List Int) := if 0 ≤ r then (keys M)[r.toNat]? else none
def keyAt (M : Mk) (r : Int) : List Int := if MkOk M.c M.d M.s M.m M.l then (keyAtO M r).getD [] else []
def keyAtCode (M : Mk) (r : Int) : Int := if MkOk M.c M.d M.s M.m M.l then (if (keyAtO M r).isSome then 0 else 4) else 1
theorem keyAt_len (M : Mk) (r : Int) : (keyAt M r).length ≤ 1000 := by
  unfold keyAt
  split
  · rename_i hm
    cases hk : keyAtO M r with
    | none => simp
    | some k =>
      unfold keyAtO at hk
      split at hk
      · have := keys_length (M := M) (by have := hm.1; omega) (List.mem_of_getElem? hk)
        have := hm.1
        simp only [Option.getD_some]
        omega
      · cases hk
  · simp

/-! ### the reference -/
/-- the keys of the cuts from x on of the next chamber -/
def onward (M : Mk) (n : Nat) (p : List Int) (x : Int) : List (List Int) := (upFrom x (M.d - x).toNat).flatMap fun y => GA M n (p ++ [y])
theorem onward_zero (M : Mk) (n : Nat) (p : List Int) : onward M n p 0 = GA M (n + 1) p := by
  rw [GA_succ]
  unfold onward ups
  rw [Int.sub_zero]
theorem onward_step {M : Mk} {n : Nat} {p : List Int} {x : Int} (h : x < M.d) : onward M n p x = GA M n (p ++ [x]) ++ onward M n p (x + 1) := by
  unfold onward
  rw [show (M.d - x).toNat = (M.d - (x + 1)).toNat + 1 by omega, upFrom_cons, List.flatMap_cons]
theorem onward_end {M : Mk} {n : Nat} {p : List Int} {x : Int} (h : M.d ≤ x) : onward M n p x = [] := by
  unfold onward
  rw [show (M.d - x).toNat = 0 by omega]
  rfl
end Go.Proofs
end
section
set_option linter.unusedVariables false
namespace Go.Proofs
open Go.Sx Go.RowKit
theorem vis_congr {α : Type} {go go' : List α → α → Bool} : ∀ {l done : List α} (n : Nat), (∀ d k, d.length < n → go d k = go' d k) → done.length + l.length ≤ n → vis go done l = vis go' done l
  | [], _, _, _, _ => rfl
  | k :: l, done, n, h, hn => by
    simp only [List.length_cons] at hn
    simp only [vis]
    rw [h done k (by omega), vis_congr (l := l) (done := done ++ [k]) n h (by simp; omega)]
/-- what is left of a rank, in int64 -/
def rk (r : Int) (n : Nat) : Int := IntKind.wrap .i64 (r - n)
theorem rk_succ (r : Int) (n : Nat) : IntKind.wrap .i64 (rk r n - 1) = rk r (n + 1) := by
  unfold rk
  rw [IntKind.wrap_i64, IntKind.wrap_i64, IntKind.wrap_i64]
  omega
theorem rk_zero {r : Int} (h : I64 r) {n : Nat} (hn : n ≤ 1000000) : rk r n = 0 ↔ r = n := by
  unfold rk
  rw [IntKind.wrap_i64]
  unfold I64 at h
  omega
theorem rk_pos {r : Int} (h : I64 r) (h0 : 0 ≤ r) {n : Nat} (hn : n ≤ 1000000) : rk r n = r - n := by
  unfold rk
  rw [IntKind.wrap_i64]
  unfold I64 at h
  omega
def keyAtJ (B b0 b1 : Nat) (r : Int) : (Nat → Prop) → List (List Int) → World → Prop := fun K done w =>
  ¬ K b0 ∧ ¬ K b1 ∧ w.heap[b0]? = some (.cells #[.int .i64 (rk r done.length)] 2 (0, 0)) ∧ ∃ v, w.heap[b1]? = some (.cells #[v] 45 (0, 0)) ∧
    (∀ g, v.ownBlock = some g → ¬ K g) ∧ Own B w 2 v (ints ((if 0 ≤ r then done[r.toNat]? else none).getD [])) ∧ ((if 0 ≤ r then done[r.toNat]? else none) = none → v = .slice none 0 0) ∧ v.ownBlock ≠ some b0
/-! ### the key with a text -/
/-- byte i of a text -/
def byteAt (t : ByteArray) (i : Nat) : Int := ((t[i]?.getD 0).toNat : Int)
theorem byteAt_get {t : ByteArray} {i : Nat} (h : i < t.size) : ∃ c : UInt8, t[i]? = some c ∧ (c.toNat : Int) = byteAt t i :=
  ⟨t[i], getElem?_pos t i h, by unfold byteAt; rw [getElem?_pos t i h]; rfl⟩
theorem byteAt_range (t : ByteArray) (i : Nat) : 0 ≤ byteAt t i ∧ byteAt t i < 256 := by
  unfold byteAt
  have := (t[i]?.getD 0).toNat_lt
  omega
/-- the first n bytes as digits -/
def digs (t : ByteArray) (n : Nat) : List Int := (List.range n).map fun i => byteAt t i - 48
@[simp] theorem digs_length (t : ByteArray) (n : Nat) : (digs t n).length = n := by simp [digs]
theorem digs_succ (t : ByteArray) (n : Nat) : digs t (n + 1) = digs t n ++ [byteAt t n - 48] := by simp [digs, List.range_succ]
theorem digs_mem {t : ByteArray} {n i : Nat} (h : i < n) : byteAt t i - 48 ∈ digs t n := List.mem_map.2 ⟨i, List.mem_range.2 h, rfl⟩
def readKey (M : Mk) (t : ByteArray) : List Int := if MkOk M.c M.d M.s M.m M.l then (if IsK M (digs t t.size) then digs t t.size else []) else []
def readKeyCode (M : Mk) (t : ByteArray) : Int := if MkOk M.c M.d M.s M.m M.l then (if IsK M (digs t t.size) then 0 else 6) else 1
theorem readKey_len (M : Mk) (t : ByteArray) : (readKey M t).length ≤ 1000 := by
  unfold readKey
  split
  · rename_i hm
    split
    · rename_i hk
      have := hk.1
      have := hm.1
      omega
    · simp
  · simp
theorem wf_i64 {n : Int} (h : (Lit.int .i64 n).wf = true) : I64 n := bounds_i64 h
end Go.Proofs
end
section
set_option linter.unusedVariables false
namespace Go.Proofs
open Go.Sx Go.RowKit Go.Tx

/-- a slice of bytes reads as a text -/
theorem rd_byt {w : World} {v : Value} {l : List UInt8} (h : Rd w v (l.map fun b => Value.int .u8 (b.toNat : Int))) {K : ByteArray → Prop} (hK : K ⟨l.toArray⟩) : BytV w v K := by
  obtain ⟨a, c, rfl, _, _, h3⟩ := h
  rw [List.length_map] at h3 ⊢
  refine ⟨a, c, l, rfl, fun h0 => ?_, hK⟩
  obtain ⟨ad, rfl, hc⟩ := h3 h0
  exact ⟨ad, rfl, fun j hj => hc j _ (by simp [hj])⟩
def dig (z : Int) : UInt8 := UInt8.ofNat (48 + z.toNat)
theorem dig_itoa {z : Int} (h : 0 ≤ z ∧ z < 10) : Lib.itoa z = [dig z] := by
  rw [itoa_pos h.1, dd_small (by omega)]
  rfl
theorem dig_nat {z : Int} (h : 0 ≤ z ∧ z < 10) : IntKind.u8.wrap (48 + z) = ((dig z).toNat : Int) := by
  unfold dig
  rw [digit_nat _ (by omega)]
  simp only [IntKind.wrap, IntKind.bits, IntKind.signed]
  simp
  omega
theorem join_digs {zs : List Int} (h : ∀ z ∈ zs, 0 ≤ z ∧ z < 10) : Lib.join (zs.map Lib.itoa) [] = zs.map dig := by
  match zs with
  | [] => rfl
  | z :: zs =>
    rw [List.map_cons, Lib.join_cons, dig_itoa (h z (by simp)), List.map_cons]
    have : Lib.joinTail [] (zs.map Lib.itoa) = zs.map dig := by
      have h' : ∀ z ∈ zs, 0 ≤ z ∧ z < 10 := fun z hz => h z (List.mem_cons_of_mem _ hz)
      clear h
      unfold Lib.joinTail
      induction zs with
      | nil => rfl
      | cons y ys ih =>
        have := ih fun z hz => h' z (List.mem_cons_of_mem _ hz)
        rw [List.map_cons, List.map_cons, List.flatten_cons, this, List.nil_append, dig_itoa (h' y (by simp)), List.map_cons]
        rfl
    rw [this]
    rfl
/-- the text of a key's cuts -/
def keyT (M : Mk) (zs : List Int) : List UInt8 := if kCode M [zs] = 0 then zs.map dig else []
def keyV (M : Mk) (zs : List Int) : Value := .tuple #[txt (keyT M zs), .int .i64 (kCode M [zs])]
theorem key_digs {M : Mk} {zs : List Int} (h : kCode M [zs] = 0) : (∀ z ∈ zs, 0 ≤ z ∧ z < 10) ∧ zs.length ≤ 6 := by
  obtain ⟨hm, hk⟩ := kCode_zero h
  have hz := hk zs (by simp)
  obtain ⟨m1, m2, m3, m4, m5⟩ := hm
  exact ⟨fun z h => by have := hz.2.1 z h; omega, by have := hz.1; omega⟩
end Go.Proofs
end
