/- The hull of keys: the contracts of the program's and the reference's functions. No condition. -/
import Derived.Test.YtccekkkiaebnmaaShS
import Derived.Test.YtccekkkiaebnmaaL04h
import Derived.Test.YtccekkkiaebnmaaL03b
set_option linter.unusedVariables false
namespace Go.Proofs
open Go.Sx Go.RowKit
def hullOk (M : Mk) (zss : List (List Int)) : Prop := zss ≠ [] ∧ (∀ z ∈ zss, IsK M z) ∧ zss.length ≤ 300
instance (M : Mk) (zss : List (List Int)) : Decidable (hullOk M zss) := inferInstanceAs (Decidable (_ ∧ _ ∧ _))
def hullR (M : Mk) (zss : List (List Int)) : List (List Int) := if MkOk M.c M.d M.s M.m M.l then (if hullOk M zss then hullL M zss else []) else []
def hullCode (M : Mk) (zss : List (List Int)) : Int := if MkOk M.c M.d M.s M.m M.l then (if hullOk M zss then 0 else 2) else 1
theorem hull_no {M : Mk} {zss : List (List Int)} (h : ¬ MkOk M.c M.d M.s M.m M.l) : hullR M zss = [] ∧ hullCode M zss = 1 := by unfold hullR hullCode; rw [if_neg h, if_neg h]; exact ⟨rfl, rfl⟩
theorem hull_bad {M : Mk} {zss : List (List Int)} (h : MkOk M.c M.d M.s M.m M.l) (h2 : ¬ hullOk M zss) : hullR M zss = [] ∧ hullCode M zss = 2 := by unfold hullR hullCode; rw [if_pos h, if_pos h, if_neg h2, if_neg h2]; exact ⟨rfl, rfl⟩
theorem hull_yes {M : Mk} {zss : List (List Int)} (h : MkOk M.c M.d M.s M.m M.l) (h2 : hullOk M zss) : hullR M zss = hullL M zss ∧ hullCode M zss = 0 := by unfold hullR hullCode; rw [if_pos h, if_pos h, if_pos h2, if_pos h2]; exact ⟨rfl, rfl⟩
theorem hullR_total (M : Mk) (zss : List (List Int)) : total (hullR M zss) ≤ 1000000 := by
  unfold hullR
  split
  · rename_i h
    have hc := h.1
    have hd := h.2.1
    split
    · have := rowsOf_total (p := pH zss) (d := M.d) (by omega) (n := M.c.toNat) (by omega)
      unfold hullL
      omega
    · simp [total]
  · simp [total]
def spec_l04Keys_A (m_Chambers : Int) (m_Depths : Int) (m_Step : Int) (m_Same : Int) (m_Least : Int) (v : Value) (w : World) : Nat → Ann := fun κ => match κ with
  | 0 => { σ := Nat, sli := [5], slc := fun s => [SV.v (Value.int .i64 (s : Int))], bxi := [], bxc := fun s => [], inv := fun s W => True, μ := fun s W => 0, free := true }
  | _ => { σ := Unit, sli := [], slc := fun _ => [], bxi := [], bxc := fun _ => [], inv := fun _ _ => False, μ := fun _ _ => 0 }
abbrev spec_l04Keys_k0 (s3 : Nat) (w4 : World) (J5 : Nat → World → Prop) (m6 : Nat → World → Nat) (x20 : Int) (w34 : World) : Prop :=
  I64 (x20 + 1) ∧ ∃ s35 : Nat, (Value.int .i64 (x20 + 1)) = (Value.int .i64 (s35 : Int)) ∧ (J5 s35 w34) ∧ (m6 s35 w34) < (m6 s3 w4)
abbrev spec_l04Keys_k1 (m_Chambers : Int) (m_Depths : Int) (m_Step : Int) (m_Same : Int) (m_Least : Int) (v : Value) (Post : Value → World → Prop) (s3 : Nat) (w4 : World) (J5 : Nat → World → Prop) (m6 : Nat → World → Nat) (x8 : Int) (w12 : World) : Prop :=
  IxV 1 v x8 (fun ad13 => ∃ u14 : Value, LdV w12 (Value.pointer (some ad13)) u14 ∧ ∃ n18 : Int, (∀ w15 : World, Ext w12 w15 → Calls Try.prog 142 #[(Value.agg #[(Value.int .i64 m_Chambers), (Value.int .i64 m_Depths), (Value.int .i64 m_Step), (Value.int .i64 m_Same), (Value.int .i64 m_Least)]), u14] w15 (fun e16 w17 => e16 = .returned (Value.int .i64 n18) ∧ Ext w15 w17)) ∧ ∀ w19 : World, Ext w12 w19 → (((n18 ≠ (0 : Int)) → Post (Value.bool false) w19) ∧ (¬ (n18 ≠ (0 : Int)) → (spec_l04Keys_k0 s3 w4 J5 m6 x8 w19))))
abbrev spec_l04Keys_k2 (Post : Value → World → Prop) (x41 : Value) (w51 : World) : Prop :=
  LenV x41 (fun n52 => Post (Value.bool (decide (n52 ≤ (300 : Int)))) w51)
def spec_l04Keys_vc (m_Chambers : Int) (m_Depths : Int) (m_Step : Int) (m_Same : Int) (m_Least : Int) (v : Value) (w : World) (Post : Value → World → Prop) : Prop :=
  ∀ w1 : World, Ext w w1 → (∃ (J5 : Nat → World → Prop) (m6 : Nat → World → Nat), ((∃ s2 : Nat, (Value.int .i64 0) = (Value.int .i64 (s2 : Int)) ∧ (J5 s2 w1)) ∧ ∀ (s3 : Nat) (w4 : World), (J5 s3 w4) → LenV v (fun n7 => ((((s3 : Int) < n7) → (spec_l04Keys_k1 m_Chambers m_Depths m_Step m_Same m_Least v Post s3 w4 J5 m6 (s3 : Int) w4)) ∧ (¬ ((s3 : Int) < n7) → (spec_l04Keys_k2 Post v w4))))))
theorem spec_l04Keys_eq (m_Chambers : Int) (m_Depths : Int) (m_Step : Int) (m_Same : Int) (m_Least : Int) (v : Value) (w : World) (Post : Value → World → Prop) : denF Try.prog [] (spec_l04Keys_A m_Chambers m_Depths m_Step m_Same m_Least v w) 124 [(Value.agg #[(Value.int .i64 m_Chambers), (Value.int .i64 m_Depths), (Value.int .i64 m_Step), (Value.int .i64 m_Same), (Value.int .i64 m_Least)]), v] w Post = spec_l04Keys_vc m_Chambers m_Depths m_Step m_Same m_Least v w Post := by kernel_rfl
set_option maxRecDepth 100000 in
theorem spec_l04Keys_calls (m_Chambers : Int) (m_Depths : Int) (m_Step : Int) (m_Same : Int) (m_Least : Int) (v : Value) (w : World) (Post : Value → World → Prop) (hvc : spec_l04Keys_vc m_Chambers m_Depths m_Step m_Same m_Least v w Post) : Ret Try.prog 124 #[(Value.agg #[(Value.int .i64 m_Chambers), (Value.int .i64 m_Depths), (Value.int .i64 m_Step), (Value.int .i64 m_Same), (Value.int .i64 m_Least)]), v] w Post :=
  Ret.of (denF_sound mixed (Eq.mpr (spec_l04Keys_eq m_Chambers m_Depths m_Step m_Same m_Least v w Post) hvc))

theorem spec_l04Keys_val (M : Mk) (hm : MkOk M.c M.d M.s M.m M.l) (v : Value) (zss : List (List Int)) (w : World) (h : RR w v zss) : Val Try.prog 124 #[M.v, v] w (.bool (decide ((∀ z ∈ zss, IsK M z) ∧ zss.length ≤ 300))) :=
  Ret.val (spec_l04Keys_calls M.c M.d M.s M.m M.l v w _ (by
    unfold spec_l04Keys_vc
    have hbd := h.bound
    intro w1 h1
    refine ⟨fun k W => k ≤ zss.length ∧ (∀ z ∈ zss.take k, IsK M z) ∧ Ext w W, fun k _ => zss.length - k, ⟨0, rfl, Nat.zero_le _, by simp, h1⟩, ?_⟩
    rintro k w4 ⟨hk, hall, h4⟩
    refine (h.ext h4).len ⟨fun hlt => ?_, fun hge => ?_⟩
    · have hlt' : k < zss.length := by omega
      refine (h.ext h4).get k rfl hlt' fun u hu => ⟨M.fault zss[k], fun W hW => (spec_l02Fault_val M.c M.d M.s M.m M.l u _ W (hu.ext hW) hm).calls, fun w19 h19 => ⟨fun hne => ⟨?_, h4.trans h19⟩, fun he => ⟨by unfold I64; omega, k + 1, rfl, ⟨hlt', allr_take_succ hlt' hall (fault_zero.1 (Classical.not_not.1 he)), h4.trans h19⟩, by simp only; omega⟩⟩⟩
      exact beq_val (decide_eq_false fun hh => hne (fault_zero.2 (hh.1 _ (List.getElem_mem hlt')))).symm
    · have hke : k = zss.length := by omega
      subst hke
      rw [List.take_of_length_le (Nat.le_refl _)] at hall
      refine (h.ext h4).len ⟨beq_val (decide_eq_decide.2 ⟨fun hh => ⟨hall, by omega⟩, fun hh => by omega⟩), h4⟩))
abbrev spec_HullOf_k0 (w : World) (Post : Value → World → Prop) (w49 : World) : Prop :=
  ∀ w50 : World, BxS w.heap.size 28 w49 w50 → Post (Value.tuple #[(Value.agg #[(Value.slice none 0 0)]), (Value.int .i64 2)]) w50
abbrev spec_HullOf_k1 (w : World) (Post : Value → World → Prop) (x91 : Value) (x111 : Int) (x112 : Int) (x113 : Int) (x114 : Int) (x115 : Int) (w116 : World) : Prop :=
  Calls Try.prog 125 #[(Value.agg #[(Value.int .i64 x111), (Value.int .i64 x112), (Value.int .i64 x113), (Value.int .i64 x114), (Value.int .i64 x115)]), x91] w116 (fun e117 w118 => ∃ u119 : Value, e117 = .returned (Value.agg #[u119]) ∧ Keeps w.heap.size [25, 28] w116 w118 ∧ oneC u119 (∀ w120 : World, BxS w.heap.size 28 w118 w120 → Post (Value.tuple #[(Value.agg #[u119]), (Value.int .i64 0)]) w120))
abbrev spec_HullOf_k2 (w : World) (Post : Value → World → Prop) (x59 : Value) (x78 : Bool) (x79 : Int) (x80 : Int) (x81 : Int) (x82 : Int) (x83 : Int) (w84 : World) : Prop :=
  ((x78 = true → ∀ w85 : World, BxS w.heap.size 28 w84 w85 → Post (Value.tuple #[(Value.agg #[(Value.slice none 0 0)]), (Value.int .i64 2)]) w85) ∧ (x78 = false → (spec_HullOf_k1 w Post x59 x79 x80 x81 x82 x83 w84)))
abbrev spec_HullOf_k3 (w : World) (Post : Value → World → Prop) (x12 : Value) (x21 : Int) (x22 : Int) (x23 : Int) (x24 : Int) (x25 : Int) (w26 : World) : Prop :=
  LenV x12 (fun n27 => (((n27 = (0 : Int)) → (spec_HullOf_k0 w Post w26)) ∧ (¬ (n27 = (0 : Int)) → Calls Try.prog 124 #[(Value.agg #[(Value.int .i64 x21), (Value.int .i64 x22), (Value.int .i64 x23), (Value.int .i64 x24), (Value.int .i64 x25)]), x12] w26 (fun e51 w52 => ∃ b53 : Bool, e51 = .returned (Value.bool b53) ∧ Keeps w.heap.size [25, 28] w26 w52 ∧ (spec_HullOf_k2 w Post x12 (!b53) x21 x22 x23 x24 x25 w52)))))
def spec_HullOf_vc (m_Chambers : Int) (m_Depths : Int) (m_Step : Int) (m_Same : Int) (m_Least : Int) (v : Value) (w : World) (Post : Value → World → Prop) : Prop :=
  ∀ w1 : World, Ext w w1 → ∀ w2 : World, Ext w1 w2 → Calls Try.prog 72 #[(Value.agg #[(Value.int .i64 m_Chambers), (Value.int .i64 m_Depths), (Value.int .i64 m_Step), (Value.int .i64 m_Same), (Value.int .i64 m_Least)])] w2 (fun e3 w4 => ∃ b5 : Bool, e3 = .returned (Value.bool b5) ∧ Keeps w.heap.size [25, 28] w2 w4 ∧ (((!b5) = true → ∀ w6 : World, BxS w.heap.size 28 w4 w6 → Post (Value.tuple #[(Value.agg #[(Value.slice none 0 0)]), (Value.int .i64 1)]) w6) ∧ ((!b5) = false → (spec_HullOf_k3 w Post v m_Chambers m_Depths m_Step m_Same m_Least w4))))
theorem spec_HullOf_eq (m_Chambers : Int) (m_Depths : Int) (m_Step : Int) (m_Same : Int) (m_Least : Int) (v : Value) (w : World) (Post : Value → World → Prop) : denF Try.prog [] noAnn 57 [(Value.agg #[(Value.int .i64 m_Chambers), (Value.int .i64 m_Depths), (Value.int .i64 m_Step), (Value.int .i64 m_Same), (Value.int .i64 m_Least)]), v] w Post = spec_HullOf_vc m_Chambers m_Depths m_Step m_Same m_Least v w Post := by kernel_rfl
set_option maxRecDepth 100000 in
theorem spec_HullOf_calls (m_Chambers : Int) (m_Depths : Int) (m_Step : Int) (m_Same : Int) (m_Least : Int) (v : Value) (w : World) (Post : Value → World → Prop) (hvc : spec_HullOf_vc m_Chambers m_Depths m_Step m_Same m_Least v w Post) : Ret Try.prog 57 #[(Value.agg #[(Value.int .i64 m_Chambers), (Value.int .i64 m_Depths), (Value.int .i64 m_Step), (Value.int .i64 m_Same), (Value.int .i64 m_Least)]), v] w Post :=
  Ret.of (denF_sound mixed (Eq.mpr (spec_HullOf_eq m_Chambers m_Depths m_Step m_Same m_Least v w Post) hvc))

theorem spec_HullOf_ret (M : Mk) (v : Value) (zss : List (List Int)) (w : World) (h : RR w v zss) : LkR 57 #[M.v, v] w (hullR M zss) (hullCode M zss) :=
  spec_HullOf_calls M.c M.d M.s M.m M.l v w _ (by
    unfold spec_HullOf_vc
    intro w1 h1 w2 h2
    have k2 := h1.trans h2
    refine (spec_IsMaker_val ..).call fun w4 h4 => ⟨_, rfl, h4.keeps, fun hb w5 b5 => ?_, fun hb => ?_⟩
    · obtain ⟨e1, e2⟩ := hull_no (M := M) (zss := zss) (nd_t hb)
      rw [e1, e2]
      exact ⟨_, rfl, OwnR.nil_ _ _, (k2.trans h4).bxs b5⟩
    have hm : MkOk M.c M.d M.s M.m M.l := nd_f hb
    have hc := hm.1
    have hd := hm.2.1
    have k4 := k2.trans h4
    refine (h.ext k4).len ⟨fun h0 w5 b5 => ?_, fun h0 => ?_⟩
    · have hz : zss = [] := List.eq_nil_of_length_eq_zero (by omega)
      obtain ⟨e1, e2⟩ := hull_bad hm fun hh => hh.1 hz
      rw [e1, e2]
      exact ⟨_, rfl, OwnR.nil_ _ _, k4.bxs b5⟩
    have hne : zss ≠ [] := fun e => h0 (by rw [e]; rfl)
    refine (spec_l04Keys_val M hm v zss w4 (h.ext k4)).call fun w6 h6 => ⟨_, rfl, h6.keeps, fun hb w7 b7 => ?_, fun hb => ?_⟩
    · have hno := nd_t hb
      obtain ⟨e1, e2⟩ := hull_bad hm fun hh => hno hh.2
      rw [e1, e2]
      exact ⟨_, rfl, OwnR.nil_ _ _, (k4.trans h6).bxs b7⟩
    have hy := nd_f hb
    obtain ⟨e1, e2⟩ := hull_yes hm ⟨hne, hy⟩
    rw [e1, e2]
    have k6 := k4.trans h6
    refine (spec_l04Hull_ret M (by omega) (by omega) v zss w6 (h.ext k6) (by omega) (fun z hz => by have := (hy.1 z hz).1; omega)).call ?_
    rintro _ w8 ⟨u, rfl, o8, h8⟩
    exact ⟨u, rfl, h8.keeps, o8.rr.oneC fun w9 b9 => ⟨u, rfl, (o8.mono k6.size).bxs b9 (by decide) (by decide), (k6.trans h8).bxs b9⟩⟩)
def impl_hullOf_A (m_Chambers : Int) (m_Depths : Int) (m_Step : Int) (m_Same : Int) (m_Least : Int) (v : Value) (w : World) : Nat → Ann := fun κ => match κ with
  | 0 => { σ := Nat × Value, sli := [13], slc := fun s => [SV.v (Value.int .i64 (s.1 : Int))], bxi := [2, 1], bxc := fun s => [[s.2], [(Value.slice none 0 0)]], inv := fun s W => True, μ := fun s W => 0, free := true }
  | 1 => { σ := Nat × Value, sli := [19, 7], slc := fun s => [SV.v (Value.int .i64 (s.1 : Int)), SV.v s.2], bxi := [], bxc := fun s => [], inv := fun s W => True, μ := fun s W => 0, free := true }
  | _ => { σ := Unit, sli := [], slc := fun _ => [], bxi := [], bxc := fun _ => [], inv := fun _ _ => False, μ := fun _ _ => 0 }
abbrev impl_hullOf_k0 (v : Value) (x10 : Int) (s17 : Nat × Value) (w18 : World) (J19 : (Nat × Value) → World → Prop) (m20 : (Nat × Value) → World → Nat) (x21 : Value) (x22 : Int) (w23 : World) : Prop :=
  IxV 1 v x22 (fun ad24 => ∃ u25 : Value, LdV w23 (Value.pointer (some ad24)) u25 ∧ IxV 1 u25 x10 (fun ad26 => ∃ n27 : Int, LdV w23 (Value.pointer (some ad26)) (Value.int .i64 n27) ∧ ∀ (v28 : Value) (w29 : World), Own w23.heap.size w29 2 v28 [(Value.int .i64 n27)] → Ext w23 w29 → AppV w29 2 x21 v28 (fun v30 w31 => I64 (x22 + 1) ∧ ∃ s32 : (Nat × Value), (Value.int .i64 (x22 + 1)) = (Value.int .i64 (s32.1 : Int)) ∧ v30 = s32.2 ∧ (J19 s32 w31) ∧ (m20 s32 w31) < (m20 s17 w18))))
abbrev impl_hullOf_k1 (s6 : Nat × Value) (w7 : World) (J8 : (Nat × Value) → World → Prop) (m9 : (Nat × Value) → World → Nat) (x56 : Int) (x68 : Value) (w69 : World) : Prop :=
  I64 (x56 + 1) ∧ ∃ s70 : (Nat × Value), (Value.int .i64 (x56 + 1)) = (Value.int .i64 (s70.1 : Int)) ∧ x68 = s70.2 ∧ (Value.slice none 0 0) = (Value.slice none 0 0) ∧ (J8 s70 w69) ∧ (m9 s70 w69) < (m9 s6 w7)
abbrev impl_hullOf_k2 (w : World) (s6 : Nat × Value) (w7 : World) (J8 : (Nat × Value) → World → Prop) (m9 : (Nat × Value) → World → Nat) (x34 : Value) (x35 : Int) (x41 : Value) (w42 : World) : Prop :=
  Calls Try.prog 150 #[x34] w42 (fun e43 w44 => e43 = .returned (Value.tuple #[]) ∧ Keeps w.heap.size [25, 28, 28] w42 w44 ∧ ∀ w45 : World, Ext w44 w45 → Calls Try.prog 151 #[x34] w45 (fun e46 w47 => ∃ u48 : Value, e46 = .returned u48 ∧ Keeps w.heap.size [25, 28, 28] w45 w47 ∧ Keeps w.heap.size [28] w45 w47 ∧ oneC u48 (∀ (v49 : Value) (w50 : World), Own w47.heap.size w50 36 v49 [u48] → Ext w47 w50 → AppV w50 36 x41 v49 (fun v51 w52 => oneC v51 (∀ w53 : World, BxS w.heap.size 28 w52 w53 → (impl_hullOf_k1 s6 w7 J8 m9 x35 v51 w53))))))
abbrev impl_hullOf_k3 (v : Value) (w : World) (s6 : Nat × Value) (w7 : World) (J8 : (Nat × Value) → World → Prop) (m9 : (Nat × Value) → World → Nat) (x10 : Int) (x11 : Value) (w12 : World) : Prop :=
  ∀ (v13 : Value) (w14 : World), Own w12.heap.size w14 2 v13 [] → Ext w12 w14 → LenV v (fun n15 => (∃ (J19 : (Nat × Value) → World → Prop) (m20 : (Nat × Value) → World → Nat), ((∃ s16 : (Nat × Value), (Value.int .i64 0) = (Value.int .i64 (s16.1 : Int)) ∧ v13 = s16.2 ∧ (J19 s16 w14)) ∧ ∀ (s17 : (Nat × Value)) (w18 : World), (J19 s17 w18) → ((((s17.1 : Int) < n15) → (impl_hullOf_k0 v x10 s17 w18 J19 m20 s17.2 (s17.1 : Int) w18)) ∧ (¬ ((s17.1 : Int) < n15) → (impl_hullOf_k2 w s6 w7 J8 m9 s17.2 x10 x11 w18))))))
abbrev impl_hullOf_k4 (w : World) (Post : Value → World → Prop) (x84 : Value) (w85 : World) : Prop :=
  oneC x84 (∀ w86 : World, BxS w.heap.size 28 w85 w86 → Post (Value.agg #[x84]) w86)
def impl_hullOf_vc (m_Chambers : Int) (m_Depths : Int) (m_Step : Int) (m_Same : Int) (m_Least : Int) (v : Value) (w : World) (Post : Value → World → Prop) : Prop :=
  ∀ w1 : World, Ext w w1 → ∀ w2 : World, Ext w1 w2 → ∀ w3 : World, Ext w2 w3 → ∀ w4 : World, BxS w.heap.size 28 w3 w4 → (∃ (J8 : (Nat × Value) → World → Prop) (m9 : (Nat × Value) → World → Nat), ((∃ s5 : (Nat × Value), (Value.int .i64 0) = (Value.int .i64 (s5.1 : Int)) ∧ (Value.slice none 0 0) = s5.2 ∧ (Value.slice none 0 0) = (Value.slice none 0 0) ∧ (J8 s5 w4)) ∧ ∀ (s6 : (Nat × Value)) (w7 : World), (J8 s6 w7) → ((((s6.1 : Int) < m_Chambers) → (impl_hullOf_k3 v w s6 w7 J8 m9 (s6.1 : Int) s6.2 w7)) ∧ (¬ ((s6.1 : Int) < m_Chambers) → (impl_hullOf_k4 w Post s6.2 w7)))))
theorem impl_hullOf_eq (m_Chambers : Int) (m_Depths : Int) (m_Step : Int) (m_Same : Int) (m_Least : Int) (v : Value) (w : World) (Post : Value → World → Prop) : denF Try.prog [9400000, 9700000, 9800000] (impl_hullOf_A m_Chambers m_Depths m_Step m_Same m_Least v w) 127 [(Value.agg #[(Value.int .i64 m_Chambers), (Value.int .i64 m_Depths), (Value.int .i64 m_Step), (Value.int .i64 m_Same), (Value.int .i64 m_Least)]), v] w Post = impl_hullOf_vc m_Chambers m_Depths m_Step m_Same m_Least v w Post := by kernel_rfl
set_option maxRecDepth 100000 in
theorem impl_hullOf_calls (m_Chambers : Int) (m_Depths : Int) (m_Step : Int) (m_Same : Int) (m_Least : Int) (v : Value) (w : World) (Post : Value → World → Prop) (hvc : impl_hullOf_vc m_Chambers m_Depths m_Step m_Same m_Least v w Post) : Ret Try.prog 127 #[(Value.agg #[(Value.int .i64 m_Chambers), (Value.int .i64 m_Depths), (Value.int .i64 m_Step), (Value.int .i64 m_Same), (Value.int .i64 m_Least)]), v] w Post :=
  Ret.of (denF_sound mixed (Eq.mpr (impl_hullOf_eq m_Chambers m_Depths m_Step m_Same m_Least v w Post) hvc))

theorem impl_hullOf_ret (M : Mk) (hm : MkOk M.c M.d M.s M.m M.l) (v : Value) (zss : List (List Int)) (w : World) (h : RR w v zss) (hok : hullOk M zss) : Ret Try.prog 127 #[M.v, v] w fun r w' => ∃ u, r = lkV u ∧ OwnR w.heap.size w' u (hullL M zss) ∧ Ext w w' :=
  impl_hullOf_calls M.c M.d M.s M.m M.l v w _ (by
    unfold impl_hullOf_vc
    obtain ⟨hne, hK, hl⟩ := hok
    have hc := hm.1
    have hd := hm.2.1
    intro w1 h1 w2 h2 w3 h3 w4 b4
    have k4 := ((h1.trans h2).trans h3).bxs b4
    refine ⟨fun s W => s.1 ≤ M.c.toNat ∧ Ext w W ∧ OwnR w.heap.size W s.2 (rowsOf (pH zss) M.d s.1), fun s _ => M.c.toNat - s.1, ⟨(0, .slice none 0 0), rfl, rfl, rfl, Nat.zero_le _, k4, OwnR.nil_ _ _⟩, ?_⟩
    rintro ⟨i, u⟩ w7 ⟨hi, k7, o7⟩
    simp only at hi o7
    refine ⟨fun hlt => ?_, fun hge => ?_⟩
    · have hic : i < M.c.toNat := by simp only at hlt; omega
      have hcut : ∀ z ∈ zss, i < z.length ∧ 0 ≤ z.getD i 0 ∧ z.getD i 0 ≤ M.d - 1 := fun z hz => by
        have hk := hK z hz
        have hlz := hk.1
        have hiz : i < z.length := by omega
        rw [getD_get hiz]
        exact ⟨hiz, hk.2.1 _ (List.getElem_mem hiz)⟩
      intro v13 w14 o14 h14
      refine (h.ext (k7.trans h14)).len ⟨fun s W => s.1 ≤ zss.length ∧ Ext w7 W ∧ Own w7.heap.size W 2 s.2 (ints ((zss.take s.1).map fun z => z.getD i 0)), fun s _ => zss.length - s.1, ⟨(0, v13), rfl, rfl, Nat.zero_le _, h14, o14⟩, ?_⟩
      rintro ⟨k, t⟩ w18 ⟨hk, h18, o18⟩
      simp only at hk o18
      have k18 := k7.trans h18
      refine ⟨fun hlk => ?_, fun hgk => ?_⟩
      · have hlk' : k < zss.length := by simp only at hlk; omega
        have hz := hcut _ (List.getElem_mem hlk')
        refine (h.ext k18).get k rfl hlk' fun p hp => hp.get i rfl hz.1 fun r w29 o29 h29 => ?_
        have x29 := h18.trans h29
        refine (o18.ext h29).app1 o29 rfl (by simp; omega) x29.size fun t' w31 o31 g31 _ => ⟨by unfold I64; simp only; omega, (k + 1, t'), rfl, rfl, ⟨hlk', x29.grown (o18.ext h29) (Nat.le_refl _) g31, ?_⟩, by simp only; omega⟩
        simp only
        rw [take_snoc zss k hlk', List.map_append, ints_append]
        rw [← getD_get hz.1] at o31
        exact o31
      · have hke : k = zss.length := by simp only at hgk; omega
        subst hke
        rw [List.take_of_length_le (Nat.le_refl _)] at o18
        have hcne : (zss.map fun z => z.getD i 0) ≠ [] := by
          intro e
          exact hne (List.map_eq_nil_iff.1 e)
        refine Calls.mono (slices_Sort_own o18 hcne (by rw [List.length_map]; omega)) ?_
        rintro e w44 ⟨rfl, o44, g44⟩
        have h44 : Ext w7 w44 := h18.grown o18 (Nat.le_refl _) g44
        refine ⟨rfl, o18.keepsG g44 (by decide), fun w45 h45 => ?_⟩
        have o45 := o44.ext h45
        have h45' := h44.trans h45
        have hsne : srt (zss.map fun z => z.getD i 0) ≠ [] := by
          intro e
          have := srt_length (zss.map fun z => z.getD i 0)
          rw [e, List.length_map] at this
          have := List.length_pos_iff.2 hne
          simp at *
          omega
        refine Calls.mono (slices_Compact_own o45 hsne (by rw [srt_length, List.length_map]; omega)) ?_
        rintro e w47 ⟨q, rfl, o47, hq, g47⟩
        have h47 : Ext w7 w47 := h45'.grown o45 (Nat.le_refl _) g47
        refine ⟨q, rfl, o45.keepsG g47 (by decide), o45.keepsG g47 (by decide), o47.rd.oneC fun r w50 o50 h50 => ?_⟩
        have hcol : Go.Lib.compactUpTo (srt (zss.map fun z => z.getD i 0)).toArray (srt (zss.map fun z => z.getD i 0)).length = filt (pH zss i) M.d.toNat := cset_col fun z hz => (hcut z hz).2
        rw [hcol] at o47
        refine o7.push o47 h47 o50 h50 k7.size (by rw [rowsOf_length]; omega) fun v' w52 o52 hx52 => o52.rr.oneC fun w53 b53 => ⟨by unfold I64; simp only; omega, (i + 1, v'), rfl, rfl, rfl, ⟨hic, (hx52 w (Nat.le_refl _) ((k7.trans h47).trans h50)).bxs b53, ?_⟩, by simp only; omega⟩
        simp only
        rw [rowsOf_succ]
        exact o52.bxs b53 (by decide) (by decide)
    · have hie : i = M.c.toNat := by simp only at hge; omega
      subst hie
      exact o7.rr.oneC fun w86 b86 => ⟨u, rfl, o7.bxs b86 (by decide) (by decide), k7.bxs b86⟩)
abbrev impl_HullOf_k0 (w : World) (Post : Value → World → Prop) (w53 : World) : Prop :=
  ∀ w54 : World, BxS w.heap.size 28 w53 w54 → Post (Value.tuple #[(Value.agg #[(Value.slice none 0 0)]), (Value.int .i64 2)]) w54
abbrev impl_HullOf_k1 (w : World) (Post : Value → World → Prop) (x88 : Value) (x103 : Int) (x104 : Int) (x105 : Int) (x106 : Int) (x107 : Int) (w108 : World) : Prop :=
  Calls Try.prog 127 #[(Value.agg #[(Value.int .i64 x103), (Value.int .i64 x104), (Value.int .i64 x105), (Value.int .i64 x106), (Value.int .i64 x107)]), x88] w108 (fun e109 w110 => ∃ u111 : Value, e109 = .returned (Value.agg #[u111]) ∧ Keeps w.heap.size [25, 28] w108 w110 ∧ oneC u111 (∀ w112 : World, BxS w.heap.size 28 w110 w112 → Post (Value.tuple #[(Value.agg #[u111]), (Value.int .i64 0)]) w112))
abbrev impl_HullOf_k2 (w : World) (Post : Value → World → Prop) (n55 : Int) (x61 : Value) (x76 : Int) (x77 : Int) (x78 : Int) (x79 : Int) (x80 : Int) (w81 : World) : Prop :=
  ((((300 : Int) < n55) → ∀ w82 : World, BxS w.heap.size 28 w81 w82 → Post (Value.tuple #[(Value.agg #[(Value.slice none 0 0)]), (Value.int .i64 2)]) w82) ∧ (¬ ((300 : Int) < n55) → (impl_HullOf_k1 w Post x61 x76 x77 x78 x79 x80 w81)))
abbrev impl_HullOf_k3 (w : World) (Post : Value → World → Prop) (x12 : Value) (x23 : Int) (x24 : Int) (x25 : Int) (x26 : Int) (x27 : Int) (w28 : World) : Prop :=
  LenV x12 (fun n29 => (((n29 < (1 : Int)) → (impl_HullOf_k0 w Post w28)) ∧ (¬ (n29 < (1 : Int)) → LenV x12 (fun n55 => (impl_HullOf_k2 w Post n55 x12 x23 x24 x25 x26 x27 w28)))))
def impl_HullOf_vc (m_Chambers : Int) (m_Depths : Int) (m_Step : Int) (m_Same : Int) (m_Least : Int) (v : Value) (w : World) (Post : Value → World → Prop) : Prop :=
  ∀ w1 : World, Ext w w1 → ∀ w2 : World, Ext w1 w2 → Calls Try.prog 85 #[(Value.agg #[(Value.int .i64 m_Chambers), (Value.int .i64 m_Depths), (Value.int .i64 m_Step), (Value.int .i64 m_Same), (Value.int .i64 m_Least)]), v] w2 (fun e3 w4 => ∃ n5 : Int, e3 = .returned (Value.int .i64 n5) ∧ Keeps w.heap.size [25, 28] w2 w4 ∧ (((n5 ≠ (0 : Int)) → ∀ w6 : World, BxS w.heap.size 28 w4 w6 → Post (Value.tuple #[(Value.agg #[(Value.slice none 0 0)]), (Value.int .i64 n5)]) w6) ∧ (¬ (n5 ≠ (0 : Int)) → (impl_HullOf_k3 w Post v m_Chambers m_Depths m_Step m_Same m_Least w4))))
theorem impl_HullOf_eq (m_Chambers : Int) (m_Depths : Int) (m_Step : Int) (m_Same : Int) (m_Least : Int) (v : Value) (w : World) (Post : Value → World → Prop) : denF Try.prog [] noAnn 60 [(Value.agg #[(Value.int .i64 m_Chambers), (Value.int .i64 m_Depths), (Value.int .i64 m_Step), (Value.int .i64 m_Same), (Value.int .i64 m_Least)]), v] w Post = impl_HullOf_vc m_Chambers m_Depths m_Step m_Same m_Least v w Post := by kernel_rfl
set_option maxRecDepth 100000 in
theorem impl_HullOf_calls (m_Chambers : Int) (m_Depths : Int) (m_Step : Int) (m_Same : Int) (m_Least : Int) (v : Value) (w : World) (Post : Value → World → Prop) (hvc : impl_HullOf_vc m_Chambers m_Depths m_Step m_Same m_Least v w Post) : Ret Try.prog 60 #[(Value.agg #[(Value.int .i64 m_Chambers), (Value.int .i64 m_Depths), (Value.int .i64 m_Step), (Value.int .i64 m_Same), (Value.int .i64 m_Least)]), v] w Post :=
  Ret.of (denF_sound mixed (Eq.mpr (impl_HullOf_eq m_Chambers m_Depths m_Step m_Same m_Least v w Post) hvc))

theorem impl_HullOf_ret (M : Mk) (v : Value) (zss : List (List Int)) (w : World) (h : RR w v zss) : LkR 60 #[M.v, v] w (hullR M zss) (hullCode M zss) :=
  impl_HullOf_calls M.c M.d M.s M.m M.l v w _ (by
    unfold impl_HullOf_vc
    have hbd := h.bound
    intro w1 h1 w2 h2
    have k2 := h1.trans h2
    refine (impl_keysCode_val M v zss w2 (h.ext k2)).call fun w4 h4 => ⟨_, rfl, h4.keeps, fun hne w6 b6 => ?_, fun he => ?_⟩
    · have e : hullR M zss = [] ∧ hullCode M zss = kCode M zss := by
        by_cases hm : MkOk M.c M.d M.s M.m M.l
        · by_cases hK : ∀ z ∈ zss, IsK M z
          · exact absurd (kCode_ok hm hK) hne
          · rw [kCode_bad hm hK]
            exact hull_bad hm fun hh => hK hh.2.1
        · rw [kCode_no hm]
          exact hull_no hm
      rw [e.1, e.2]
      exact ⟨_, rfl, OwnR.nil_ _ _, (k2.trans h4).bxs b6⟩
    obtain ⟨hm, hK⟩ := kCode_zero (Classical.not_not.1 he)
    have hm : MkOk M.c M.d M.s M.m M.l := hm
    have k4 := k2.trans h4
    refine (h.ext k4).len ⟨fun h0 w5 b5 => ?_, fun h0 => (h.ext k4).len ⟨fun h300 w5 b5 => ?_, fun h300 => ?_⟩⟩
    · have hz : zss = [] := List.eq_nil_of_length_eq_zero (by omega)
      obtain ⟨e1, e2⟩ := hull_bad hm fun hh => hh.1 hz
      rw [e1, e2]
      exact ⟨_, rfl, OwnR.nil_ _ _, k4.bxs b5⟩
    · obtain ⟨e1, e2⟩ := hull_bad (zss := zss) hm fun hh => by have := hh.2.2; omega
      rw [e1, e2]
      exact ⟨_, rfl, OwnR.nil_ _ _, k4.bxs b5⟩
    have hok : hullOk M zss := ⟨fun e => h0 (by rw [e]; decide), hK, by omega⟩
    obtain ⟨e1, e2⟩ := hull_yes hm hok
    rw [e1, e2]
    refine (impl_hullOf_ret M hm v zss w4 (h.ext k4) hok).call ?_
    rintro _ w8 ⟨u, rfl, o8, h8⟩
    exact ⟨u, rfl, h8.keeps, o8.rr.oneC fun w9 b9 => ⟨u, rfl, (o8.mono k4.size).bxs b9 (by decide) (by decide), (k4.trans h8).bxs b9⟩⟩)
end Go.Proofs
