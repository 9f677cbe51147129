/- The lock of pins: contracts. No condition. -/
import Derived.Test.YtjcggcefmpaieaaDoorL04e
import Derived.Test.YtjcggcefmpaieaaDoorL03f
set_option linter.unusedVariables false
namespace Go.Proofs
open Go.Sx Go.RowKit
/-! ### pins and sets -/
def ats (st : List Int) (k : Nat) : Int := (st.take k).sum
theorem ats_zero (st : List Int) : ats st 0 = 0 := by simp [ats]
theorem ats_succ {st : List Int} {k : Nat} (hk : k < st.length) : ats st (k + 1) = ats st k + st[k] := by
  unfold ats
  rw [take_snoc st k hk, List.sum_append]
  simp only [List.sum_cons, List.sum_nil, Int.add_zero]
theorem ats_all (st : List Int) : ats st st.length = st.sum := by unfold ats; rw [List.take_of_length_le (Nat.le_refl _)]
theorem ats_range {st : List Int} (h : ∀ x ∈ st, 0 ≤ x ∧ x ≤ 8) : ∀ k, k ≤ st.length → 0 ≤ ats st k ∧ ats st k ≤ 8 * k
  | 0, _ => by rw [ats_zero]; omega
  | k + 1, hk => by
    have ih := ats_range h k (by omega)
    have := h _ (List.getElem_mem (show k < st.length by omega))
    rw [ats_succ (by omega)]
    omega
def setTo (st : List Int) (n : Nat) : List Int := (List.range n).map fun k => ats st (k + 1)
theorem setTo_length (st : List Int) (n : Nat) : (setTo st n).length = n := by simp [setTo]
theorem setTo_succ (st : List Int) (n : Nat) : setTo st (n + 1) = setTo st n ++ [ats st (n + 1)] := by simp [setTo, List.range_succ]
theorem setTo_get {st : List Int} {n k : Nat} (hk : k < n) : (setTo st n).getD k 0 = ats st (k + 1) := by
  rw [getD_get (by rw [setTo_length]; exact hk)]
  simp [setTo]
def setOf (st : List Int) : List Int := setTo st (st.length - 1)
def lop (zss : List (List Int)) : List (List Int) := zss.map setOf
theorem lop_length (zss : List (List Int)) : (lop zss).length = zss.length := by simp [lop]
theorem lop_succ {zss : List (List Int)} {i : Nat} (hi : i < zss.length) : lop (zss.take (i + 1)) = lop (zss.take i) ++ [setTo zss[i] (zss[i].length - 1)] := by
  unfold lop
  rw [take_snoc zss i hi, List.map_append]
  rfl
def small (zss : List (List Int)) : Prop := ∀ z ∈ zss, ∀ x ∈ z, 0 ≤ x ∧ x ≤ 8
instance (zss : List (List Int)) : Decidable (small zss) := inferInstanceAs (Decidable (∀ z ∈ zss, ∀ x ∈ z, 0 ≤ x ∧ x ≤ 8))
def pinOk (d : Int) (st : List Int) : Prop := (∀ z ∈ st, 0 ≤ z ∧ z ≤ d - 1) ∧ (st.length : Int) ≤ d + 1 ∧ st.sum = d - 1
instance (d : Int) (st : List Int) : Decidable (pinOk d st) := inferInstanceAs (Decidable (_ ∧ _ ∧ _))
def lopOk (M : Mk) (zss : List (List Int)) : Prop := (∀ z ∈ zss, pinOk M.d z) ∧ (zss.length : Int) = M.c ∧ SetsOk M.d (lop zss)
instance (M : Mk) (zss : List (List Int)) : Decidable (lopOk M zss) := inferInstanceAs (Decidable (_ ∧ _ ∧ _))
def lopR (M : Mk) (zss : List (List Int)) : List (List Int) := if MkOk M.c M.d M.s M.m M.l then (if lopOk M zss then lop zss else []) else []
def lopCode (M : Mk) (zss : List (List Int)) : Int := if MkOk M.c M.d M.s M.m M.l then (if lopOk M zss then 0 else 2) else 1
theorem lop_no {M : Mk} {zss : List (List Int)} (h : ¬ MkOk M.c M.d M.s M.m M.l) : lopR M zss = [] ∧ lopCode M zss = 1 := by unfold lopR lopCode; rw [if_neg h, if_neg h]; exact ⟨rfl, rfl⟩
theorem lop_bad {M : Mk} {zss : List (List Int)} (h : MkOk M.c M.d M.s M.m M.l) (h2 : ¬ lopOk M zss) : lopR M zss = [] ∧ lopCode M zss = 2 := by unfold lopR lopCode; rw [if_pos h, if_pos h, if_neg h2, if_neg h2]; exact ⟨rfl, rfl⟩
theorem lop_yes {M : Mk} {zss : List (List Int)} (h : MkOk M.c M.d M.s M.m M.l) (h2 : lopOk M zss) : lopR M zss = lop zss ∧ lopCode M zss = 0 := by unfold lopR lopCode; rw [if_pos h, if_pos h, if_pos h2, if_pos h2]; exact ⟨rfl, rfl⟩
theorem lopR_total (M : Mk) (zss : List (List Int)) : total (lopR M zss) ≤ 1000000 := by
  unfold lopR
  split
  · rename_i hm
    split
    · rename_i h
      obtain ⟨_, h1, h2⟩ := lk_small (show LkOk M.c M.d M.s M.m M.l (lop zss) from ⟨hm, by rw [lop_length]; exact h.2.1, h.2.2⟩)
      have := total_max (zss := lop zss) (n := 100) fun z hz => (h2 z hz).2.1
      omega
    · simp [total]
  · simp [total]
theorem stack_set {d : Int} {st : List Int} (h0 : 0 < st.length) (hs : st.sum = d - 1) (h1 : setOf st ≠ []) : stack d (setOf st) = st := by
  have hn : 0 < st.length - 1 := by
    rcases Nat.eq_zero_or_pos (st.length - 1) with h | h
    · exact absurd (List.eq_nil_of_length_eq_zero (by unfold setOf; rw [setTo_length]; exact h)) h1
    · exact h
  have hl : (setOf st).length = st.length - 1 := by unfold setOf; rw [setTo_length]
  have hlen : (stack d (setOf st)).length = st.length := by rw [stack_length, hl]; omega
  apply List.ext_getElem hlen
  intro k hk hk'
  by_cases hlt : k < st.length - 1
  · have hk2 : k < (steps (setOf st)).length := by rw [steps_length, hl]; exact hlt
    simp only [stack]
    rw [List.getElem_append_left hk2, steps_get]
    unfold setOf
    split
    · rename_i h0
      subst h0
      rw [setTo_get hlt, ats_succ hk', ats_zero, Int.zero_add]
    · rw [setTo_get hlt, setTo_get (show k - 1 < st.length - 1 by omega), ats_succ hk', show k - 1 + 1 = k by omega]
      omega
  · have he : k = st.length - 1 := by omega
    have hk2 : (steps (setOf st)).length ≤ k := by rw [steps_length, hl]; omega
    simp only [stack]
    rw [List.getElem_append_right hk2]
    simp only [List.getElem_singleton]
    rw [hl]
    unfold setOf
    rw [setTo_get (show st.length - 1 - 1 < st.length - 1 by omega), show st.length - 1 - 1 + 1 = st.length - 1 by omega]
    have := ats_succ (st := st) (k := st.length - 1) (by omega)
    rw [show st.length - 1 + 1 = st.length by omega, ats_all, hs] at this
    subst he
    omega
theorem pin_of {d : Int} {st : List Int} (hd : 1 ≤ d) (h1 : setOf st ≠ []) (hr : Rises d (setOf st) (setOf st).length) (he : stack d (setOf st) = st) : pinOk d st := by
  have hl : (setOf st).length = st.length - 1 := by unfold setOf; rw [setTo_length]
  have hn : 0 < st.length - 1 := by
    rcases Nat.eq_zero_or_pos (st.length - 1) with h | h
    · exact absurd (List.eq_nil_of_length_eq_zero (by rw [hl]; exact h)) h1
    · exact h
  have hlast := hr (st.length - 2) (by rw [hl]; omega)
  have hlen := rises_len hr (show 0 ≤ d by omega)
  rw [hl] at hlen
  refine ⟨fun z hz => ?_, ?_, ?_⟩
  · rw [← he] at hz
    unfold stack at hz
    rcases List.mem_append.1 hz with hz | hz
    · obtain ⟨k, hk, rfl⟩ := List.getElem_of_mem hz
      rw [steps_get]
      have hk' : k < (setOf st).length := by rw [steps_length] at hk; exact hk
      have a := hr k hk'
      split
      · rename_i h0; subst h0
        have := a.1; have := a.2.1
        omega
      · have b := hr (k - 1) (by omega)
        have := a.1; have := a.2.1; have := a.2.2 (by omega); have := b.1; have := b.2.1
        omega
    · simp only [List.mem_singleton] at hz
      rw [hl, show st.length - 1 - 1 = st.length - 2 by omega] at hz
      have := hlast.1; have := hlast.2.1
      omega
  · have := hlast.2.1
    omega
  · rw [← ats_all]
    have hg : st.getD (st.length - 1) 0 = d - 1 - ats st (st.length - 1) := by
      have : (stack d (setOf st)).getD (st.length - 1) 0 = d - 1 - (setOf st).getD ((setOf st).length - 1) 0 := by
        rw [getD_get (by rw [stack_length, hl]; omega)]
        unfold stack
        rw [List.getElem_append_right (by rw [steps_length, hl]; omega)]
        simp
      rw [he, hl] at this
      rw [this]
      unfold setOf
      rw [setTo_get (show st.length - 1 - 1 < st.length - 1 by omega), show st.length - 1 - 1 + 1 = st.length - 1 by omega]
    have := ats_succ (st := st) (k := st.length - 1) (by omega)
    rw [show st.length - 1 + 1 = st.length by omega] at this
    rw [getD_get (show st.length - 1 < st.length by omega)] at hg
    omega
theorem lop_iff {M : Mk} {zss : List (List Int)} (hm : MkOk M.c M.d M.s M.m M.l) : lopOk M zss ↔ small zss ∧ LkOk M.c M.d M.s M.m M.l (lop zss) ∧ (lop zss).map (stack M.d) = zss := by
  have hd := hm.2.1
  constructor
  · rintro ⟨h1, h2, h3⟩
    refine ⟨fun z hz x hx => ?_, ⟨hm, by rw [lop_length]; exact h2, h3⟩, ?_⟩
    · have := (h1 z hz).1 x hx
      omega
    · unfold lop
      rw [List.map_map]
      conv => rhs; rw [← List.map_id zss]
      apply List.map_congr_left
      intro st hst
      have hp := h1 st hst
      have hne : st ≠ [] := fun e => by have := hp.2.2; rw [e] at this; simp at this; omega
      exact stack_set (List.length_pos_iff.2 hne) hp.2.2 (h3 _ (List.mem_map.2 ⟨st, hst, rfl⟩)).1
  · rintro ⟨h1, h2, h3⟩
    refine ⟨fun st hst => ?_, by have := h2.2.1; rw [lop_length] at this; exact this, h2.2.2⟩
    have hq := h2.2.2 (setOf st) (List.mem_map.2 ⟨st, hst, rfl⟩)
    refine pin_of (by omega) hq.1 hq.2 ?_
    obtain ⟨i, hi, rfl⟩ := List.getElem_of_mem hst
    have : ((lop zss).map (stack M.d))[i]? = zss[i]? := by rw [h3]
    unfold lop at this
    rw [List.map_map, List.getElem?_map, List.getElem?_eq_getElem hi] at this
    simpa using this
def spec_l05Small_A (v : Value) (w : World) : Nat → Ann := fun κ => match κ with
  | 0 => { σ := Nat, sli := [3], slc := fun s => [SV.v (Value.int .i64 (s : Int))], bxi := [], bxc := fun s => [], inv := fun s W => True, μ := fun s W => 0, free := true }
  | 1 => { σ := Nat, sli := [4], slc := fun s => [SV.v (Value.int .i64 (s : Int))], bxi := [], bxc := fun s => [], inv := fun s W => True, μ := fun s W => 0, free := true }
  | _ => { σ := Unit, sli := [], slc := fun _ => [], bxi := [], bxc := fun _ => [], inv := fun _ _ => False, μ := fun _ _ => 0 }
abbrev spec_l05Small_k0 (s13 : Nat) (w14 : World) (J15 : Nat → World → Prop) (m16 : Nat → World → Nat) (x35 : Int) (w51 : World) : Prop :=
  I64 (x35 + 1) ∧ ∃ s52 : Nat, (Value.int .i64 (x35 + 1)) = (Value.int .i64 (s52 : Int)) ∧ (J15 s52 w51) ∧ (m16 s52 w51) < (m16 s13 w14)
abbrev spec_l05Small_k1 (v : Value) (w : World) (Post : Value → World → Prop) (x7 : Int) (s13 : Nat) (w14 : World) (J15 : Nat → World → Prop) (m16 : Nat → World → Nat) (x20 : Int) (w27 : World) : Prop :=
  IxV 1 v x7 (fun ad28 => ∃ u29 : Value, LdV w27 (Value.pointer (some ad28)) u29 ∧ IxV 1 u29 x20 (fun ad30 => ∃ n31 : Int, LdV w27 (Value.pointer (some ad30)) (Value.int .i64 n31) ∧ Calls Tryd.prog 81 #[(Value.int .i64 n31), (Value.int .i64 0), (Value.int .i64 8)] w27 (fun e32 w33 => ∃ b34 : Bool, e32 = .returned (Value.bool b34) ∧ Keeps w.heap.size [] w27 w33 ∧ (((!b34) = true → Post (Value.bool false) w33) ∧ ((!b34) = false → (spec_l05Small_k0 s13 w14 J15 m16 x20 w33))))))
abbrev spec_l05Small_k2 (s2 : Nat) (w3 : World) (J4 : Nat → World → Prop) (m5 : Nat → World → Nat) (x53 : Int) (w64 : World) : Prop :=
  I64 (x53 + 1) ∧ ∃ s65 : Nat, (Value.int .i64 (x53 + 1)) = (Value.int .i64 (s65 : Int)) ∧ (J4 s65 w64) ∧ (m5 s65 w64) < (m5 s2 w3)
abbrev spec_l05Small_k3 (v : Value) (w : World) (Post : Value → World → Prop) (s2 : Nat) (w3 : World) (J4 : Nat → World → Prop) (m5 : Nat → World → Nat) (x7 : Int) (w11 : World) : Prop :=
  (∃ (J15 : Nat → World → Prop) (m16 : Nat → World → Nat), ((∃ s12 : Nat, (Value.int .i64 0) = (Value.int .i64 (s12 : Int)) ∧ (J15 s12 w11)) ∧ ∀ (s13 : Nat) (w14 : World), (J15 s13 w14) → IxV 1 v x7 (fun ad17 => ∃ u18 : Value, LdV w14 (Value.pointer (some ad17)) u18 ∧ LenV u18 (fun n19 => ((((s13 : Int) < n19) → (spec_l05Small_k1 v w Post x7 s13 w14 J15 m16 (s13 : Int) w14)) ∧ (¬ ((s13 : Int) < n19) → (spec_l05Small_k2 s2 w3 J4 m5 x7 w14)))))))
def spec_l05Small_vc (v : Value) (w : World) (Post : Value → World → Prop) : Prop :=
  (∃ (J4 : Nat → World → Prop) (m5 : Nat → World → Nat), ((∃ s1 : Nat, (Value.int .i64 0) = (Value.int .i64 (s1 : Int)) ∧ (J4 s1 w)) ∧ ∀ (s2 : Nat) (w3 : World), (J4 s2 w3) → LenV v (fun n6 => ((((s2 : Int) < n6) → (spec_l05Small_k3 v w Post s2 w3 J4 m5 (s2 : Int) w3)) ∧ (¬ ((s2 : Int) < n6) → Post (Value.bool true) w3)))))
theorem spec_l05Small_eq (v : Value) (w : World) (Post : Value → World → Prop) : denF Tryd.prog [] (spec_l05Small_A v w) 82 [v] w Post = spec_l05Small_vc v w Post := by kernel_rfl
set_option maxRecDepth 100000 in
theorem spec_l05Small_calls (v : Value) (w : World) (Post : Value → World → Prop) (hvc : spec_l05Small_vc v w Post) : Ret Tryd.prog 82 #[v] w Post :=
  Ret.of (denF_sound mixed (Eq.mpr (spec_l05Small_eq v w Post) hvc))

theorem spec_l05Small_val (v : Value) (zss : List (List Int)) (w : World) (h : RR w v zss) (hl : zss.length ≤ 1048600) (hz : ∀ z ∈ zss, z.length ≤ 1048600) : Val Tryd.prog 82 #[v] w (.bool (decide (small zss))) :=
  Ret.val (spec_l05Small_calls v w _ (by
    unfold spec_l05Small_vc
    refine ⟨fun i W => i ≤ zss.length ∧ (∀ z ∈ zss.take i, ∀ x ∈ z, 0 ≤ x ∧ x ≤ 8) ∧ Ext w W, fun i _ => zss.length - i, ⟨0, rfl, Nat.zero_le _, by simp, .refl w⟩, ?_⟩
    rintro i w1 ⟨hi, hall, h1⟩
    refine (h.ext h1).len ⟨fun hlt => ?_, fun hge => ?_⟩
    · have hlt' : i < zss.length := by omega
      have hzi := hz _ (List.getElem_mem hlt')
      refine ⟨fun k W => k ≤ zss[i].length ∧ (∀ x ∈ zss[i].take k, 0 ≤ x ∧ x ≤ 8) ∧ Ext w W, fun k _ => zss[i].length - k, ⟨0, rfl, Nat.zero_le _, by simp, h1⟩, ?_⟩
      rintro k w2 ⟨hk, hal, h2⟩
      refine (h.ext h2).get i rfl hlt' fun u hu => hu.len ⟨fun hlk => ?_, fun hgk => ?_⟩
      · have hlk' : k < zss[i].length := by omega
        refine (h.ext h2).get i rfl hlt' fun u hu => hu.get k rfl hlk' ?_
        refine (spec_l01In_val _ _ _ w2).call fun w3 h3 => ⟨_, rfl, h3.keeps, fun hb => ⟨?_, h2.trans h3⟩, fun hb => ⟨by unfold I64; omega, k + 1, rfl, ⟨hlk', ?_, h2.trans h3⟩, by simp only; omega⟩⟩
        · have hn := nd_t hb
          rw [decide_eq_false fun hh : small zss => hn (hh _ (List.getElem_mem hlt') _ (List.getElem_mem hlk'))]
        · intro x hx
          rw [take_snoc _ k hlk', List.mem_append] at hx
          rcases hx with hx | hx
          · exact hal x hx
          · simp only [List.mem_singleton] at hx
            subst hx
            exact nd_f hb
      · have hke : k = zss[i].length := by omega
        subst hke
        rw [List.take_of_length_le (Nat.le_refl _)] at hal
        refine ⟨by unfold I64; omega, i + 1, rfl, ⟨hlt', rows_take_succ hlt' hall hal, h2⟩, by simp only; omega⟩
    · have hie : i = zss.length := by omega
      subst hie
      rw [List.take_of_length_le (Nat.le_refl _)] at hall
      exact ⟨by rw [decide_eq_true (show small zss from hall)], h1⟩))
def spec_l05Lock_A (v : Value) (w : World) : Nat → Ann := fun κ => match κ with
  | 0 => { σ := Nat × Value, sli := [4, 3], slc := fun s => [SV.v (Value.int .i64 (s.1 : Int)), SV.v s.2], bxi := [], bxc := fun s => [], inv := fun s W => True, μ := fun s W => 0, free := true }
  | 1 => { σ := Nat × Int × Value, sli := [7, 6, 5], slc := fun s => [SV.v (Value.int .i64 (s.1 : Int)), SV.v (Value.int .i64 s.2.1), SV.v s.2.2], bxi := [], bxc := fun s => [], inv := fun s W => True, μ := fun s W => 0, free := true }
  | _ => { σ := Unit, sli := [], slc := fun _ => [], bxi := [], bxc := fun _ => [], inv := fun _ _ => False, μ := fun _ _ => 0 }
abbrev spec_l05Lock_k0 (v : Value) (x11 : Int) (s19 : Nat × Int × Value) (w20 : World) (J21 : (Nat × Int × Value) → World → Prop) (m22 : (Nat × Int × Value) → World → Nat) (x26 : Value) (x27 : Int) (x28 : Int) (w36 : World) : Prop :=
  IxV 1 v x11 (fun ad37 => ∃ u38 : Value, LdV w36 (Value.pointer (some ad37)) u38 ∧ IxV 1 u38 x28 (fun ad39 => ∃ n40 : Int, LdV w36 (Value.pointer (some ad39)) (Value.int .i64 n40) ∧ I64 (x27 + n40) ∧ ∀ (v41 : Value) (w42 : World), Sx.Own w36.heap.size w42 2 v41 [(Value.int .i64 (x27 + n40))] → Ext w36 w42 → AppV w42 2 x26 v41 (fun v43 w44 => I64 (x28 + 1) ∧ ∃ s45 : (Nat × Int × Value), (Value.int .i64 (x28 + 1)) = (Value.int .i64 (s45.1 : Int)) ∧ (Value.int .i64 (x27 + n40)) = (Value.int .i64 s45.2.1) ∧ v43 = s45.2.2 ∧ (J21 s45 w44) ∧ (m22 s45 w44) < (m22 s19 w20))))
abbrev spec_l05Lock_k1 (s5 : Nat × Value) (w6 : World) (J7 : (Nat × Value) → World → Prop) (m8 : (Nat × Value) → World → Nat) (x67 : Value) (x68 : Int) (w87 : World) : Prop :=
  I64 (x68 + 1) ∧ ∃ s88 : (Nat × Value), (Value.int .i64 (x68 + 1)) = (Value.int .i64 (s88.1 : Int)) ∧ x67 = s88.2 ∧ (J7 s88 w87) ∧ (m8 s88 w87) < (m8 s5 w6)
abbrev spec_l05Lock_k2 (s5 : Nat × Value) (w6 : World) (J7 : (Nat × Value) → World → Prop) (m8 : (Nat × Value) → World → Nat) (x46 : Value) (x47 : Int) (x48 : Value) (w62 : World) : Prop :=
  oneC x48 (∀ (v63 : Value) (w64 : World), Sx.Own w62.heap.size w64 24 v63 [x48] → Ext w62 w64 → AppV w64 24 x46 v63 (fun v65 w66 => (spec_l05Lock_k1 s5 w6 J7 m8 v65 x47 w66)))
abbrev spec_l05Lock_k3 (v : Value) (s5 : Nat × Value) (w6 : World) (J7 : (Nat × Value) → World → Prop) (m8 : (Nat × Value) → World → Nat) (x10 : Value) (x11 : Int) (w15 : World) : Prop :=
  ∀ (v16 : Value) (w17 : World), Sx.Own w15.heap.size w17 2 v16 [] → Ext w15 w17 → (∃ (J21 : (Nat × Int × Value) → World → Prop) (m22 : (Nat × Int × Value) → World → Nat), ((∃ s18 : (Nat × Int × Value), (Value.int .i64 0) = (Value.int .i64 (s18.1 : Int)) ∧ (Value.int .i64 0) = (Value.int .i64 s18.2.1) ∧ v16 = s18.2.2 ∧ (J21 s18 w17)) ∧ ∀ (s19 : (Nat × Int × Value)) (w20 : World), (J21 s19 w20) → I64 ((s19.1 : Int) + 1) ∧ IxV 1 v x11 (fun ad23 => ∃ u24 : Value, LdV w20 (Value.pointer (some ad23)) u24 ∧ LenV u24 (fun n25 => (((((s19.1 : Int) + 1) < n25) → (spec_l05Lock_k0 v x11 s19 w20 J21 m22 s19.2.2 s19.2.1 (s19.1 : Int) w20)) ∧ (¬ (((s19.1 : Int) + 1) < n25) → (spec_l05Lock_k2 s5 w6 J7 m8 x10 x11 s19.2.2 w20)))))))
abbrev spec_l05Lock_k4 (w : World) (Post : Value → World → Prop) (x90 : Value) (w96 : World) : Prop :=
  oneC x90 (oneC x90 (∀ w97 : World, BxS w.heap.size 36 w96 w97 → Post (Value.agg #[x90]) w97))
def spec_l05Lock_vc (v : Value) (w : World) (Post : Value → World → Prop) : Prop :=
  ∀ w1 : World, Ext w w1 → ∀ (v2 : Value) (w3 : World), Sx.Own w1.heap.size w3 24 v2 [] → Ext w1 w3 → (∃ (J7 : (Nat × Value) → World → Prop) (m8 : (Nat × Value) → World → Nat), ((∃ s4 : (Nat × Value), (Value.int .i64 0) = (Value.int .i64 (s4.1 : Int)) ∧ v2 = s4.2 ∧ (J7 s4 w3)) ∧ ∀ (s5 : (Nat × Value)) (w6 : World), (J7 s5 w6) → LenV v (fun n9 => ((((s5.1 : Int) < n9) → (spec_l05Lock_k3 v s5 w6 J7 m8 s5.2 (s5.1 : Int) w6)) ∧ (¬ ((s5.1 : Int) < n9) → (spec_l05Lock_k4 w Post s5.2 w6))))))
theorem spec_l05Lock_eq (v : Value) (w : World) (Post : Value → World → Prop) : denF Tryd.prog [] (spec_l05Lock_A v w) 83 [v] w Post = spec_l05Lock_vc v w Post := by kernel_rfl
set_option maxRecDepth 100000 in
theorem spec_l05Lock_calls (v : Value) (w : World) (Post : Value → World → Prop) (hvc : spec_l05Lock_vc v w Post) : Ret Tryd.prog 83 #[v] w Post :=
  Ret.of (denF_sound mixed (Eq.mpr (spec_l05Lock_eq v w Post) hvc))

theorem spec_l05Lock_ret (v : Value) (zss : List (List Int)) (w : World) (h : RR w v zss) (hl : zss.length ≤ 1048600) (hz : ∀ z ∈ zss, z.length ≤ 1048600) (hs : small zss) : Ret Tryd.prog 83 #[v] w fun r w' => ∃ u, r = lkV u ∧ OwnR w.heap.size w' u (lop zss) ∧ Ext w w' :=
  spec_l05Lock_calls v w _ (by
    unfold spec_l05Lock_vc
    intro w1 h1 v2 w3 o3 h3
    refine ⟨fun s W => s.1 ≤ zss.length ∧ Ext w W ∧ OwnR w.heap.size W s.2 (lop (zss.take s.1)), fun s _ => zss.length - s.1, ⟨(0, v2), rfl, rfl, Nat.zero_le _, h1.trans h3, OwnR.new o3 h1.size⟩, ?_⟩
    rintro ⟨i, u⟩ w6 ⟨hi, k6, o6⟩
    simp only at hi o6
    refine (h.ext k6).len ⟨fun hlt => ?_, fun hge => ?_⟩
    · have hlt' : i < zss.length := by simp only at hlt; omega
      have hst := hs _ (List.getElem_mem hlt')
      have hzi := hz _ (List.getElem_mem hlt')
      intro t w8 o8 h8
      refine ⟨fun s W => s.1 ≤ zss[i].length - 1 ∧ s.2.1 = ats zss[i] s.1 ∧ Ext w6 W ∧ Own w6.heap.size W 2 s.2.2 (ints (setTo zss[i] s.1)), fun s _ => zss[i].length - 1 - s.1, ⟨(0, 0, t), rfl, rfl, rfl, Nat.zero_le _, (ats_zero _).symm, h8, o8⟩, ?_⟩
      rintro ⟨k, n, q⟩ w9 ⟨hk, hn, h9, o9⟩
      simp only at hk hn o9
      subst hn
      have k9 := k6.trans h9
      refine ⟨by unfold I64; simp only; omega, (h.ext k9).get i rfl hlt' fun p hp => hp.len ⟨fun hlk => ?_, fun hgk => ?_⟩⟩
      · have hlk' : k + 1 < zss[i].length := by simp only at hlk; omega
        have hr := ats_range hst k (by omega)
        have hx := hst _ (List.getElem_mem (show k < zss[i].length by omega))
        refine (h.ext k9).get i rfl hlt' fun p hp => hp.get k rfl (by omega) ⟨by unfold I64; simp only; omega, fun r w10 o10 h10 => ?_⟩
        have x10 := h9.trans h10
        refine (o9.ext h10).app1 o10 rfl (by simp [setTo_length]; omega) x10.size fun q' w11 o11 g11 _ => ⟨by unfold I64; simp only; omega, (k + 1, ats zss[i] k + zss[i][k], q'), rfl, rfl, rfl, ⟨by simp only; omega, (ats_succ (by omega)).symm, x10.grown (o9.ext h10) (Nat.le_refl _) g11, ?_⟩, by simp only; omega⟩
        simp only
        rw [setTo_succ, ints_append, ats_succ (show k < zss[i].length by omega)]
        exact o11
      · have hke : k = zss[i].length - 1 := by simp only at hgk; omega
        subst hke
        refine o9.rd.oneC fun r2 w10 o10 h10 => ?_
        refine o6.push o9 h9 o10 h10 k6.size (by rw [lop_length, List.length_take]; omega) fun v' w11 o11 hx11 => ⟨by unfold I64; simp only; omega, (i + 1, v'), rfl, rfl, ⟨hlt', hx11 w (Nat.le_refl _) (k9.trans h10), ?_⟩, by simp only; omega⟩
        simp only
        rw [lop_succ hlt']
        exact o11
    · have hie : i = zss.length := by simp only at hge; omega
      subst hie
      rw [List.take_of_length_le (Nat.le_refl _)] at o6
      refine o6.rr.oneC (o6.rr.oneC fun w7 b7 => ⟨u, rfl, o6.bxs b7 (by decide) (by decide), k6.bxs b7⟩))
def spec_l05Same_A (u : Value) (v : Value) (w : World) : Nat → Ann := fun κ => match κ with
  | 0 => { σ := Nat, sli := [5], slc := fun s => [SV.v (Value.int .i64 (s : Int))], bxi := [], bxc := fun s => [], inv := fun s W => True, μ := fun s W => 0, free := true }
  | _ => { σ := Unit, sli := [], slc := fun _ => [], bxi := [], bxc := fun _ => [], inv := fun _ _ => False, μ := fun _ _ => 0 }
abbrev spec_l05Same_k0 (s11 : Nat) (w12 : World) (J13 : Nat → World → Prop) (m14 : Nat → World → Nat) (x30 : Int) (w44 : World) : Prop :=
  I64 (x30 + 1) ∧ ∃ s45 : Nat, (Value.int .i64 (x30 + 1)) = (Value.int .i64 (s45 : Int)) ∧ (J13 s45 w44) ∧ (m14 s45 w44) < (m14 s11 w12)
abbrev spec_l05Same_k1 (Post : Value → World → Prop) (x3 : Value) (x4 : Value) (s11 : Nat) (w12 : World) (J13 : Nat → World → Prop) (m14 : Nat → World → Nat) (x16 : Int) (w20 : World) : Prop :=
  IxV 1 x3 x16 (fun ad21 => ∃ u22 : Value, LdV w20 (Value.pointer (some ad21)) u22 ∧ IxV 1 x4 x16 (fun ad23 => ∃ u24 : Value, LdV w20 (Value.pointer (some ad23)) u24 ∧ ∃ b28 : Bool, (∀ w25 : World, Ext w20 w25 → Calls Tryd.prog 106 #[u22, u24] w25 (fun e26 w27 => e26 = .returned (Value.bool b28) ∧ Ext w25 w27)) ∧ ∀ w29 : World, Ext w20 w29 → (((!b28) = true → Post (Value.bool false) w29) ∧ ((!b28) = false → (spec_l05Same_k0 s11 w12 J13 m14 x16 w29)))))
abbrev spec_l05Same_k2 (Post : Value → World → Prop) (x3 : Value) (x4 : Value) (w9 : World) : Prop :=
  (∃ (J13 : Nat → World → Prop) (m14 : Nat → World → Nat), ((∃ s10 : Nat, (Value.int .i64 0) = (Value.int .i64 (s10 : Int)) ∧ (J13 s10 w9)) ∧ ∀ (s11 : Nat) (w12 : World), (J13 s11 w12) → LenV x3 (fun n15 => ((((s11 : Int) < n15) → (spec_l05Same_k1 Post x3 x4 s11 w12 J13 m14 (s11 : Int) w12)) ∧ (¬ ((s11 : Int) < n15) → Post (Value.bool true) w12)))))
def spec_l05Same_vc (u : Value) (v : Value) (w : World) (Post : Value → World → Prop) : Prop :=
  LenV u (fun n1 => LenV v (fun n2 => (((n1 ≠ n2) → Post (Value.bool false) w) ∧ (¬ (n1 ≠ n2) → (spec_l05Same_k2 Post u v w)))))
theorem spec_l05Same_eq (u : Value) (v : Value) (w : World) (Post : Value → World → Prop) : denF Tryd.prog [] (spec_l05Same_A u v w) 84 [u, v] w Post = spec_l05Same_vc u v w Post := by kernel_rfl
set_option maxRecDepth 100000 in
theorem spec_l05Same_calls (u : Value) (v : Value) (w : World) (Post : Value → World → Prop) (hvc : spec_l05Same_vc u v w Post) : Ret Tryd.prog 84 #[u, v] w Post :=
  Ret.of (denF_sound mixed (Eq.mpr (spec_l05Same_eq u v w Post) hvc))

theorem spec_l05Same_val (u v : Value) (za zb : List (List Int)) (w : World) (hu : RR w u za) (hv : RR w v zb) (hl : za.length ≤ 1000) : Val Tryd.prog 84 #[u, v] w (.bool (decide (za = zb))) :=
  Ret.val (spec_l05Same_calls u v w _ (by
    unfold spec_l05Same_vc
    refine hu.len (hv.len ⟨fun hne => ⟨?_, .refl w⟩, fun he => ?_⟩)
    · rw [decide_eq_false fun e : za = zb => hne (by rw [e])]
    have hlen : za.length = zb.length := by have := Classical.not_not.1 he; omega
    refine ⟨fun i W => i ≤ za.length ∧ za.take i = zb.take i ∧ Ext w W, fun i _ => za.length - i, ⟨0, rfl, Nat.zero_le _, rfl, .refl w⟩, ?_⟩
    rintro i w1 ⟨hi, heq, h1⟩
    refine (hu.ext h1).len ⟨fun hlt => ?_, fun hge => ?_⟩
    · have hlt' : i < za.length := by omega
      refine (hu.ext h1).get i rfl hlt' fun p hp => (hv.ext h1).get i rfl (by omega) fun q hq => ⟨decide (za[i] = zb[i]), fun W hW => (spec_l01Same_val p q _ _ W (hp.ext hW) (hq.ext hW)).calls, fun w2 h2 => ⟨fun hb => ⟨?_, h1.trans h2⟩, fun hb => ⟨by unfold I64; omega, i + 1, rfl, ⟨hlt', ?_, h1.trans h2⟩, by simp only; omega⟩⟩⟩
      · have hn := nd_t hb
        rw [decide_eq_false fun e : za = zb => hn (by subst e; rfl)]
      · rw [take_snoc za i hlt', take_snoc zb i (by omega), heq, nd_f hb]
    · have hie : i = za.length := by omega
      subst hie
      rw [List.take_of_length_le (Nat.le_refl _), List.take_of_length_le (by omega)] at heq
      exact ⟨by rw [decide_eq_true heq], h1⟩))
abbrev spec_LockOfPins_k0 (w : World) (Post : Value → World → Prop) (w95 : World) : Prop :=
  ∀ w96 : World, BxS w.heap.size 36 w95 w96 → Post (Value.tuple #[(Value.agg #[(Value.slice none 0 0)]), (Value.int .i64 2)]) w96
abbrev spec_LockOfPins_k1 (w : World) (Post : Value → World → Prop) (x192 : Value) (w193 : World) : Prop :=
  oneC x192 (∀ w194 : World, BxS w.heap.size 36 w193 w194 → Post (Value.tuple #[(Value.agg #[x192]), (Value.int .i64 0)]) w194)
abbrev spec_LockOfPins_k2 (w : World) (Post : Value → World → Prop) (x140 : Bool) (x146 : Value) (w147 : World) : Prop :=
  ((x140 = true → ∀ w148 : World, BxS w.heap.size 36 w147 w148 → Post (Value.tuple #[(Value.agg #[(Value.slice none 0 0)]), (Value.int .i64 2)]) w148) ∧ (x140 = false → (spec_LockOfPins_k1 w Post x146 w147)))
abbrev spec_LockOfPins_k3 (w : World) (Post : Value → World → Prop) (x36 : Value) (x48 : Int) (x49 : Int) (x50 : Int) (x51 : Int) (x52 : Int) (w53 : World) : Prop :=
  Calls Tryd.prog 83 #[x36] w53 (fun e54 w55 => ∃ u56 : Value, e54 = .returned (Value.agg #[u56]) ∧ Keeps w.heap.size [39, 36] w53 w55 ∧ ∀ w57 : World, Ext w55 w57 → oneC u56 (∀ w58 : World, BxS w.heap.size 36 w57 w58 → Calls Tryd.prog 61 #[(Value.agg #[(Value.int .i64 x48), (Value.int .i64 x49), (Value.int .i64 x50), (Value.int .i64 x51), (Value.int .i64 x52)]), (Value.agg #[u56])] w58 (fun e59 w60 => ∃ b61 : Bool, e59 = .returned (Value.bool b61) ∧ Keeps w.heap.size [39, 36, 36] w58 w60 ∧ (((!b61) = true → (spec_LockOfPins_k0 w Post w60)) ∧ ((!b61) = false → Calls Tryd.prog 63 #[(Value.agg #[(Value.int .i64 x48), (Value.int .i64 x49), (Value.int .i64 x50), (Value.int .i64 x51), (Value.int .i64 x52)]), (Value.agg #[u56])] w60 (fun e97 w98 => ∃ u99 : Value, e97 = .returned u99 ∧ Keeps w.heap.size [39, 36, 36] w60 w98 ∧ Calls Tryd.prog 84 #[u99, x36] w98 (fun e100 w101 => ∃ b102 : Bool, e100 = .returned (Value.bool b102) ∧ Keeps w.heap.size [39, 36, 36] w98 w101 ∧ (spec_LockOfPins_k2 w Post (!b102) u56 w101))))))))
abbrev spec_LockOfPins_k4 (w : World) (Post : Value → World → Prop) (x12 : Value) (x21 : Int) (x22 : Int) (x23 : Int) (x24 : Int) (x25 : Int) (w26 : World) : Prop :=
  Calls Tryd.prog 82 #[x12] w26 (fun e27 w28 => ∃ b29 : Bool, e27 = .returned (Value.bool b29) ∧ Keeps w.heap.size [39, 36] w26 w28 ∧ (((!b29) = true → ∀ w30 : World, BxS w.heap.size 36 w28 w30 → Post (Value.tuple #[(Value.agg #[(Value.slice none 0 0)]), (Value.int .i64 2)]) w30) ∧ ((!b29) = false → (spec_LockOfPins_k3 w Post x12 x21 x22 x23 x24 x25 w28))))
def spec_LockOfPins_vc (m_Chambers : Int) (m_Depths : Int) (m_Step : Int) (m_Same : Int) (m_Least : Int) (v : Value) (w : World) (Post : Value → World → Prop) : Prop :=
  ∀ w1 : World, Ext w w1 → ∀ w2 : World, Ext w1 w2 → Calls Tryd.prog 48 #[(Value.agg #[(Value.int .i64 m_Chambers), (Value.int .i64 m_Depths), (Value.int .i64 m_Step), (Value.int .i64 m_Same), (Value.int .i64 m_Least)])] w2 (fun e3 w4 => ∃ b5 : Bool, e3 = .returned (Value.bool b5) ∧ Keeps w.heap.size [39, 36] w2 w4 ∧ (((!b5) = true → ∀ w6 : World, BxS w.heap.size 36 w4 w6 → Post (Value.tuple #[(Value.agg #[(Value.slice none 0 0)]), (Value.int .i64 1)]) w6) ∧ ((!b5) = false → (spec_LockOfPins_k4 w Post v m_Chambers m_Depths m_Step m_Same m_Least w4))))
theorem spec_LockOfPins_eq (m_Chambers : Int) (m_Depths : Int) (m_Step : Int) (m_Same : Int) (m_Least : Int) (v : Value) (w : World) (Post : Value → World → Prop) : denF Tryd.prog [] noAnn 50 [(Value.agg #[(Value.int .i64 m_Chambers), (Value.int .i64 m_Depths), (Value.int .i64 m_Step), (Value.int .i64 m_Same), (Value.int .i64 m_Least)]), v] w Post = spec_LockOfPins_vc m_Chambers m_Depths m_Step m_Same m_Least v w Post := by kernel_rfl
set_option maxRecDepth 100000 in
theorem spec_LockOfPins_calls (m_Chambers : Int) (m_Depths : Int) (m_Step : Int) (m_Same : Int) (m_Least : Int) (v : Value) (w : World) (Post : Value → World → Prop) (hvc : spec_LockOfPins_vc m_Chambers m_Depths m_Step m_Same m_Least v w Post) : Ret Tryd.prog 50 #[(Value.agg #[(Value.int .i64 m_Chambers), (Value.int .i64 m_Depths), (Value.int .i64 m_Step), (Value.int .i64 m_Same), (Value.int .i64 m_Least)]), v] w Post :=
  Ret.of (denF_sound mixed (Eq.mpr (spec_LockOfPins_eq m_Chambers m_Depths m_Step m_Same m_Least v w Post) hvc))

theorem spec_LockOfPins_ret (M : Mk) (v : Value) (zss : List (List Int)) (w : World) (h : RR w v zss) (hl : zss.length ≤ 1048600) (hz : ∀ z ∈ zss, z.length ≤ 1048600) : LkR 50 #[M.v, v] w (lopR M zss) (lopCode M zss) :=
  spec_LockOfPins_calls M.c M.d M.s M.m M.l v w _ (by
    unfold spec_LockOfPins_vc
    intro w1 h1 w2 h2
    have k2 := h1.trans h2
    refine (spec_IsMaker_val ..).call fun w4 h4 => ⟨_, rfl, h4.keeps, fun hb w5 b5 => ?_, fun hb => ?_⟩
    · obtain ⟨e1, e2⟩ := lop_no (M := M) (zss := zss) (nd_t hb)
      rw [e1, e2]
      exact ⟨_, rfl, OwnR.nil_ _ _, (k2.trans h4).bxs b5⟩
    have hm := nd_f hb
    have k4 := k2.trans h4
    refine (spec_l05Small_val v zss w4 (h.ext k4) hl hz).call fun w6 h6 => ⟨_, rfl, h6.keeps, fun hb w7 b7 => ?_, fun hb => ?_⟩
    · obtain ⟨e1, e2⟩ := lop_bad hm fun hh => nd_t hb ((lop_iff hm).1 hh).1
      rw [e1, e2]
      exact ⟨_, rfl, OwnR.nil_ _ _, (k4.trans h6).bxs b7⟩
    have hs := nd_f hb
    have k6 := k4.trans h6
    refine (spec_l05Lock_ret v zss w6 (h.ext k6) hl hz hs).call ?_
    rintro _ w8 ⟨u, rfl, o8, h8⟩
    refine ⟨u, rfl, h8.keeps, fun w9 h9 => (o8.ext h9).rr.oneC fun w10 b10 => ?_⟩
    have o10 := (o8.ext h9).bxs b10 (by decide) (by decide)
    have k10 := ((k6.trans h8).trans h9).bxs b10
    refine (spec_IsLock_val M.c M.d M.s M.m M.l u (lop zss) w10 o10.rr).call fun w11 h11 => ⟨_, rfl, h11.keeps, fun hb w12 b12 => ?_, fun hb => ?_⟩
    · obtain ⟨e1, e2⟩ := lop_bad hm fun hh => nd_t hb ((lop_iff hm).1 hh).2.1
      rw [e1, e2]
      exact ⟨_, rfl, OwnR.nil_ _ _, (k10.trans h11).bxs b12⟩
    have hk := nd_f hb
    obtain ⟨p1, p2, p3⟩ := lk_small hk
    have k11 := k10.trans h11
    have o11 := o10.ext h11
    refine (spec_l05Pins_ret M.c M.d M.s M.m M.l u (lop zss) w11 o11.rr p1 p2 p3).call ?_
    rintro q w13 ⟨o13, h13⟩
    refine ⟨q, rfl, h13.keeps, ?_⟩
    have k13 := k11.trans h13
    refine (spec_l05Same_val q v _ zss w13 o13.rr (h.ext k13) (by rw [List.length_map]; omega)).call fun w14 h14 => ⟨_, rfl, h14.keeps, fun hb w15 b15 => ?_, fun hb => ?_⟩
    · obtain ⟨e1, e2⟩ := lop_bad hm fun hh => nd_t hb ((lop_iff hm).1 hh).2.2
      rw [e1, e2]
      exact ⟨_, rfl, OwnR.nil_ _ _, (k13.trans h14).bxs b15⟩
    obtain ⟨e1, e2⟩ := lop_yes hm ((lop_iff hm).2 ⟨hs, hk, nd_f hb⟩)
    rw [e1, e2]
    have o14 := (o11.ext h13).ext h14
    refine o14.rr.oneC fun w15 b15 => ⟨u, rfl, (o14.mono k6.size).bxs b15 (by decide) (by decide), (k13.trans h14).bxs b15⟩)
def impl_lockOfPinsp_A (m_Chambers : Int) (m_Depths : Int) (m_Step : Int) (m_Same : Int) (m_Least : Int) (v : Value) (w : World) : Nat → Ann := fun κ => match κ with
  | 0 => { σ := Nat × Value, sli := [16], slc := fun s => [SV.v (Value.int .i64 (s.1 : Int))], bxi := [2, 1], bxc := fun s => [[s.2], [(Value.slice none 0 0)]], inv := fun s W => True, μ := fun s W => 0, free := true }
  | 1 => { σ := Nat × Int × Value, sli := [50, 10, 9], slc := fun s => [SV.v (Value.int .i64 (s.1 : Int)), SV.v (Value.int .i64 s.2.1), SV.v s.2.2], bxi := [], bxc := fun s => [], inv := fun s W => True, μ := fun s W => 0, free := true }
  | _ => { σ := Unit, sli := [], slc := fun _ => [], bxi := [], bxc := fun _ => [], inv := fun _ _ => False, μ := fun _ _ => 0 }
abbrev impl_lockOfPinsp_k0 (w : World) (Post : Value → World → Prop) (w31 : World) : Prop :=
  ∀ w32 : World, BxS w.heap.size 36 w31 w32 → Post (Value.tuple #[(Value.agg #[(Value.slice none 0 0)]), (Value.bool false)]) w32
abbrev impl_lockOfPinsp_k1 (u82 : Value) (s85 : Nat × Int × Value) (w86 : World) (J87 : (Nat × Int × Value) → World → Prop) (m88 : (Nat × Int × Value) → World → Nat) (x89 : Value) (x90 : Int) (x91 : Int) (w92 : World) : Prop :=
  IxV 1 u82 x91 (fun ad93 => ∃ n94 : Int, LdV w92 (Value.pointer (some ad93)) (Value.int .i64 n94) ∧ I64 (x90 + n94) ∧ ∀ (v95 : Value) (w96 : World), Sx.Own w92.heap.size w96 2 v95 [(Value.int .i64 (x90 + n94))] → Ext w92 w96 → AppV w96 2 x89 v95 (fun v97 w98 => I64 (x91 + 1) ∧ ∃ s99 : (Nat × Int × Value), (Value.int .i64 (x91 + 1)) = (Value.int .i64 (s99.1 : Int)) ∧ (Value.int .i64 (x90 + n94)) = (Value.int .i64 s99.2.1) ∧ v97 = s99.2.2 ∧ (J87 s99 w98) ∧ (m88 s99 w98) < (m88 s85 w86)))
abbrev impl_lockOfPinsp_k2 (s7 : Nat × Value) (w8 : World) (J9 : (Nat × Value) → World → Prop) (m10 : (Nat × Value) → World → Nat) (x137 : Int) (x165 : Value) (w166 : World) : Prop :=
  I64 (x137 + 1) ∧ ∃ s167 : (Nat × Value), (Value.int .i64 (x137 + 1)) = (Value.int .i64 (s167.1 : Int)) ∧ x165 = s167.2 ∧ (Value.slice none 0 0) = (Value.slice none 0 0) ∧ (J9 s167 w166) ∧ (m10 s167 w166) < (m10 s7 w8)
abbrev impl_lockOfPinsp_k3 (w : World) (s7 : Nat × Value) (w8 : World) (J9 : (Nat × Value) → World → Prop) (m10 : (Nat × Value) → World → Nat) (x101 : Value) (x103 : Int) (x127 : Value) (w128 : World) : Prop :=
  oneC x101 (∀ (v129 : Value) (w130 : World), Sx.Own w128.heap.size w130 24 v129 [x101] → Ext w128 w130 → AppV w130 24 x127 v129 (fun v131 w132 => oneC v131 (∀ w133 : World, BxS w.heap.size 36 w132 w133 → (impl_lockOfPinsp_k2 s7 w8 J9 m10 x103 v131 w133))))
abbrev impl_lockOfPinsp_k4 (w : World) (s7 : Nat × Value) (w8 : World) (J9 : (Nat × Value) → World → Prop) (m10 : (Nat × Value) → World → Nat) (x60 : Value) (x61 : Int) (x77 : Value) (w78 : World) : Prop :=
  ∀ (v79 : Value) (w80 : World), Sx.Own w78.heap.size w80 2 v79 [] → Ext w78 w80 → LenV x60 (fun n81 => I64 (n81 - 1) ∧ SlV 1 x60 none (some (n81 - 1)) none (fun u82 => LenV u82 (fun n83 => (∃ (J87 : (Nat × Int × Value) → World → Prop) (m88 : (Nat × Int × Value) → World → Nat), ((∃ s84 : (Nat × Int × Value), (Value.int .i64 0) = (Value.int .i64 (s84.1 : Int)) ∧ (Value.int .i64 0) = (Value.int .i64 s84.2.1) ∧ v79 = s84.2.2 ∧ (J87 s84 w80)) ∧ ∀ (s85 : (Nat × Int × Value)) (w86 : World), (J87 s85 w86) → ((((s85.1 : Int) < n83) → (impl_lockOfPinsp_k1 u82 s85 w86 J87 m88 s85.2.2 s85.2.1 (s85.1 : Int) w86)) ∧ (¬ ((s85.1 : Int) < n83) → (impl_lockOfPinsp_k3 w s7 w8 J9 m10 s85.2.2 x61 x77 w86))))))))
abbrev impl_lockOfPinsp_k5 (m_Depths : Int) (w : World) (Post : Value → World → Prop) (s7 : Nat × Value) (w8 : World) (J9 : (Nat × Value) → World → Prop) (m10 : (Nat × Value) → World → Nat) (n38 : Int) (x40 : Value) (x41 : Int) (x57 : Value) (w58 : World) : Prop :=
  (((n38 ≠ (m_Depths - 1)) → ∀ w59 : World, BxS w.heap.size 36 w58 w59 → Post (Value.tuple #[(Value.agg #[(Value.slice none 0 0)]), (Value.bool false)]) w59) ∧ (¬ (n38 ≠ (m_Depths - 1)) → (impl_lockOfPinsp_k4 w s7 w8 J9 m10 x40 x41 x57 w58)))
abbrev impl_lockOfPinsp_k6 (m_Depths : Int) (v : Value) (w : World) (Post : Value → World → Prop) (s7 : Nat × Value) (w8 : World) (J9 : (Nat × Value) → World → Prop) (m10 : (Nat × Value) → World → Nat) (x11 : Int) (x12 : Value) (w13 : World) : Prop :=
  IxV 1 v x11 (fun ad14 => ∃ u15 : Value, LdV w13 (Value.pointer (some ad14)) u15 ∧ I64 (m_Depths - 1) ∧ ∃ b19 : Bool, (∀ w16 : World, Ext w13 w16 → Calls Tryd.prog 74 #[u15, (Value.int .i64 0), (Value.int .i64 (m_Depths - 1))] w16 (fun e17 w18 => e17 = .returned (Value.bool b19) ∧ Ext w16 w18)) ∧ (((!b19) = true → ∀ w20 : World, Ext w13 w20 → (impl_lockOfPinsp_k0 w Post w20)) ∧ ((!b19) = false → LenV u15 (fun n33 => I64 (m_Depths + 1) ∧ ((((m_Depths + 1) < n33) → ∀ w34 : World, Ext w13 w34 → (impl_lockOfPinsp_k0 w Post w34)) ∧ (¬ ((m_Depths + 1) < n33) → ∃ n38 : Int, (∀ w35 : World, Ext w13 w35 → Calls Tryd.prog 87 #[u15] w35 (fun e36 w37 => e36 = .returned (Value.int .i64 n38) ∧ Ext w35 w37)) ∧ I64 (m_Depths - 1) ∧ ∀ w39 : World, Ext w13 w39 → (impl_lockOfPinsp_k5 m_Depths w Post s7 w8 J9 m10 n38 u15 x11 x12 w39)))))))
abbrev impl_lockOfPinsp_k7 (w : World) (Post : Value → World → Prop) (x177 : Int) (x178 : Int) (x179 : Int) (x180 : Int) (x181 : Int) (x182 : Value) (w183 : World) : Prop :=
  ∀ w184 : World, Ext w183 w184 → Calls Tryd.prog 88 #[(Value.agg #[(Value.int .i64 x177), (Value.int .i64 x178), (Value.int .i64 x179), (Value.int .i64 x180), (Value.int .i64 x181)]), (Value.agg #[x182])] w184 (fun e185 w186 => ∃ b187 : Bool, e185 = .returned (Value.bool b187) ∧ Keeps w.heap.size [39, 36, 36] w184 w186 ∧ Ext w184 w186 ∧ oneC x182 (∀ w188 : World, BxS w.heap.size 36 w186 w188 → Post (Value.tuple #[(Value.agg #[x182]), (Value.bool b187)]) w188))
def impl_lockOfPinsp_vc (m_Chambers : Int) (m_Depths : Int) (m_Step : Int) (m_Same : Int) (m_Least : Int) (v : Value) (w : World) (Post : Value → World → Prop) : Prop :=
  ∀ w1 : World, Ext w w1 → ∀ w2 : World, Ext w1 w2 → ∀ w3 : World, Ext w2 w3 → ∀ w4 : World, BxS w.heap.size 36 w3 w4 → LenV v (fun n5 => (∃ (J9 : (Nat × Value) → World → Prop) (m10 : (Nat × Value) → World → Nat), ((∃ s6 : (Nat × Value), (Value.int .i64 0) = (Value.int .i64 (s6.1 : Int)) ∧ (Value.slice none 0 0) = s6.2 ∧ (Value.slice none 0 0) = (Value.slice none 0 0) ∧ (J9 s6 w4)) ∧ ∀ (s7 : (Nat × Value)) (w8 : World), (J9 s7 w8) → ((((s7.1 : Int) < n5) → (impl_lockOfPinsp_k6 m_Depths v w Post s7 w8 J9 m10 (s7.1 : Int) s7.2 w8)) ∧ (¬ ((s7.1 : Int) < n5) → (impl_lockOfPinsp_k7 w Post m_Chambers m_Depths m_Step m_Same m_Least s7.2 w8))))))
theorem impl_lockOfPinsp_eq (m_Chambers : Int) (m_Depths : Int) (m_Step : Int) (m_Same : Int) (m_Least : Int) (v : Value) (w : World) (Post : Value → World → Prop) : denF Tryd.prog [1000088] (impl_lockOfPinsp_A m_Chambers m_Depths m_Step m_Same m_Least v w) 53 [(Value.agg #[(Value.int .i64 m_Chambers), (Value.int .i64 m_Depths), (Value.int .i64 m_Step), (Value.int .i64 m_Same), (Value.int .i64 m_Least)]), v] w Post = impl_lockOfPinsp_vc m_Chambers m_Depths m_Step m_Same m_Least v w Post := by kernel_rfl
set_option maxRecDepth 100000 in
theorem impl_lockOfPinsp_calls (m_Chambers : Int) (m_Depths : Int) (m_Step : Int) (m_Same : Int) (m_Least : Int) (v : Value) (w : World) (Post : Value → World → Prop) (hvc : impl_lockOfPinsp_vc m_Chambers m_Depths m_Step m_Same m_Least v w Post) : Ret Tryd.prog 53 #[(Value.agg #[(Value.int .i64 m_Chambers), (Value.int .i64 m_Depths), (Value.int .i64 m_Step), (Value.int .i64 m_Same), (Value.int .i64 m_Least)]), v] w Post :=
  Ret.of (denF_sound mixed (Eq.mpr (impl_lockOfPinsp_eq m_Chambers m_Depths m_Step m_Same m_Least v w Post) hvc))

theorem impl_lockOfPinsp_ret (M : Mk) (hm : MkOk M.c M.d M.s M.m M.l) (v : Value) (zss : List (List Int)) (w : World) (h : RR w v zss) (hl : zss.length ≤ 1048600) (hz : ∀ z ∈ zss, z.length ≤ 1048600) : Ret Tryd.prog 53 #[M.v, v] w fun r w' => ∃ u, r = .tuple #[lkV u, .bool (decide (lopOk M zss))] ∧ OwnR w.heap.size w' u (if ∀ z ∈ zss, pinOk M.d z then lop zss else []) ∧ Ext w w' :=
  impl_lockOfPinsp_calls M.c M.d M.s M.m M.l v w _ (by
    unfold impl_lockOfPinsp_vc
    have hd := hm.2.1
    intro w1 h1 w2 h2 w3 h3 w4 b4
    have k4 := ((h1.trans h2).trans h3).bxs b4
    refine (h.ext k4).len ⟨fun s W => s.1 ≤ zss.length ∧ (∀ z ∈ zss.take s.1, pinOk M.d z) ∧ Ext w W ∧ OwnR w.heap.size W s.2 (lop (zss.take s.1)), fun s _ => zss.length - s.1, ⟨(0, .slice none 0 0), rfl, rfl, rfl, Nat.zero_le _, by simp, k4, OwnR.nil_ _ _⟩, ?_⟩
    rintro ⟨i, u⟩ w8 ⟨hi, hall, k8, o8⟩
    simp only at hi hall o8
    refine ⟨fun hlt => ?_, fun hge => ?_⟩
    · have hlt' : i < zss.length := by simp only at hlt; omega
      have hzi := hz _ (List.getElem_mem hlt')
      have bad : ∀ W, Ext w8 W → ¬ pinOk M.d zss[i] → ∀ W', BxS w.heap.size 36 W W' → ∃ u, Value.tuple #[.agg #[.slice none 0 0], .bool false] = .tuple #[lkV u, .bool (decide (lopOk M zss))] ∧ OwnR w.heap.size W' u (if ∀ z ∈ zss, pinOk M.d z then lop zss else []) ∧ Ext w W' := by
        intro W hW hn W' hB
        rw [decide_eq_false fun hh : lopOk M zss => hn (hh.1 _ (List.getElem_mem hlt')), if_neg fun hh : ∀ z ∈ zss, pinOk M.d z => hn (hh _ (List.getElem_mem hlt'))]
        exact ⟨_, rfl, OwnR.nil_ _ _, (k8.trans hW).bxs hB⟩
      refine (h.ext k8).get i rfl hlt' fun p hp => ⟨by unfold I64; omega, decide (∀ z ∈ zss[i], 0 ≤ z ∧ z ≤ M.d - 1), fun W hW => (impl_allWithin_val p _ _ _ W (hp.ext hW)).calls, fun hb W hW => bad W hW fun hh => nd_t hb hh.1, fun hb => hp.len ⟨by unfold I64; omega, fun hlong W hW => bad W hW fun hh => by have := hh.2.1; omega, fun hshort => ?_⟩⟩
      have hw := nd_f hb
      have hN : Nums zss[i] := ⟨by omega, fun z hz => by have := hw z hz; unfold Mx; omega⟩
      refine ⟨zss[i].sum, fun W hW => (impl_sum_val p _ W (hp.ext hW) hN).calls, by unfold I64; omega, fun w9 h9 => ⟨fun hne => bad w9 h9 fun hh => hne hh.2.2, fun hsum => ?_⟩⟩
      have hsum := Classical.not_not.1 hsum
      have hpin : pinOk M.d zss[i] := ⟨hw, by omega, hsum⟩
      have hne : zss[i] ≠ [] := fun e => by rw [e] at hsum; simp at hsum; omega
      have hpos := List.length_pos_iff.2 hne
      have hst : ∀ x ∈ zss[i], 0 ≤ x ∧ x ≤ 8 := fun x hx => by have := hw x hx; omega
      intro t w10 o10 h10
      have x10 := h9.trans h10
      have k10 := k8.trans x10
      refine hp.len ⟨by unfold I64; omega, hp.sl 0 (zss[i].length - 1) rfl (by simp; omega) (Nat.zero_le _) (by omega) fun y hy => ?_⟩
      rw [List.drop_zero] at hy
      have hyl : (zss[i].take (zss[i].length - 1)).length = zss[i].length - 1 := by rw [List.length_take]; omega
      refine hy.len ?_
      rw [hyl]
      refine ⟨fun s W => s.1 ≤ zss[i].length - 1 ∧ s.2.1 = ats zss[i] s.1 ∧ Ext w8 W ∧ Own w8.heap.size W 2 s.2.2 (ints (setTo zss[i] s.1)), fun s _ => zss[i].length - 1 - s.1, ⟨(0, 0, t), rfl, rfl, rfl, Nat.zero_le _, (ats_zero _).symm, x10, o10.mono h9.size⟩, ?_⟩
      rintro ⟨k, n, q⟩ w11 ⟨hk, hn, h11, o11⟩
      simp only at hk hn o11
      subst hn
      have k11 := k8.trans h11
      refine ⟨fun hlk => ?_, fun hgk => ?_⟩
      · have hlk' : k < zss[i].length - 1 := by simp only at hlk; omega
        have hr := ats_range hst k (by omega)
        have hx := hst _ (List.getElem_mem (show k < zss[i].length by omega))
        refine (RI.ext hy h11).get k rfl (by rw [hyl]; exact hlk') ?_
        rw [List.getElem_take]
        refine ⟨by unfold I64; simp only; omega, fun r w12 o12 h12 => ?_⟩
        have x12 := h11.trans h12
        refine (o11.ext h12).app1 o12 rfl (by simp [setTo_length]; omega) x12.size fun q' w13 o13 g13 _ => ⟨by unfold I64; simp only; omega, (k + 1, ats zss[i] k + zss[i][k], q'), rfl, rfl, rfl, ⟨hlk', (ats_succ (by omega)).symm, x12.grown (o11.ext h12) (Nat.le_refl _) g13, ?_⟩, by simp only; omega⟩
        simp only
        rw [setTo_succ, ints_append, ats_succ (show k < zss[i].length by omega)]
        exact o13
      · have hke : k = zss[i].length - 1 := by simp only at hgk; omega
        subst hke
        refine o11.rd.oneC fun r2 w12 o12 h12 => ?_
        refine o8.push o11 h11 o12 h12 k8.size (by rw [lop_length, List.length_take]; omega) fun v' w13 o13 hx13 => o13.rr.oneC fun w14 b14 => ⟨by unfold I64; simp only; omega, (i + 1, v'), rfl, rfl, rfl, ⟨hlt', rows_take_succ hlt' hall hpin, (hx13 w (Nat.le_refl _) (k11.trans h12)).bxs b14, ?_⟩, by simp only; omega⟩
        simp only
        rw [lop_succ hlt']
        exact o13.bxs b14 (by decide) (by decide)
    · have hie : i = zss.length := by simp only at hge; omega
      subst hie
      rw [List.take_of_length_le (Nat.le_refl _)] at hall o8
      intro w9 h9
      have o9 := o8.ext h9
      refine (impl_isLock_val M.c M.d M.s M.m M.l u (lop zss) w9 o9.rr).call fun w10 h10 => ⟨_, rfl, h10.keeps, h10, (o9.ext h10).rr.oneC fun w11 b11 => ⟨u, ?_, ?_, ((k8.trans h9).trans h10).bxs b11⟩⟩
      · have : (lopOk M zss) ↔ (((lop zss).length : Int) = M.c ∧ SetsOk M.d (lop zss)) := by
          rw [lop_length]
          exact ⟨fun hh => hh.2, fun hh => ⟨hall, hh⟩⟩
        rw [decide_eq_decide.2 this]
        rfl
      · rw [if_pos hall]
        exact (o9.ext h10).bxs b11 (by decide) (by decide))
end Go.Proofs
