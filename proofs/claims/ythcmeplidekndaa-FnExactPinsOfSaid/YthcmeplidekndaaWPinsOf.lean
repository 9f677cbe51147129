/- The law FnExactPinsOf: the program's function answers as the reference's, for all arguments. No condition. -/
import Derived.Test.YthcmeplidekndaaL05a
set_option linter.unusedVariables false
namespace Go.Proofs
open Go.Sx Go.RowKit
abbrev laws_FnExactPinsOf_k0 (Post : Value → World → Prop) (x1164 : Int) (x1165 : Int) (w1275 : World) : Prop :=
  (((x1165 ≠ x1164) → Post (Value.bool false) w1275) ∧ (¬ (x1165 ≠ x1164) → Post (Value.bool true) w1275))
abbrev laws_FnExactPinsOf_k1 (w : World) (Post : Value → World → Prop) (x1038 : Value) (x1041 : Int) (w1148 : World) : Prop :=
  Calls Try.prog 34 #[x1038, (Value.int .i64 1)] w1148 (fun e1149 w1150 => ∃ n1151 : Int, e1149 = .returned (Value.int .i64 n1151) ∧ Keeps w.heap.size [23, 38, 42] w1148 w1150 ∧ (((n1151 < (0 : Int)) → Post (Value.bool false) w1150) ∧ (¬ (n1151 < (0 : Int)) → (laws_FnExactPinsOf_k0 Post x1041 n1151 w1150))))
abbrev laws_FnExactPinsOf_k2 (w : World) (Post : Value → World → Prop) (x687 : Int) (n787 : Int) (x918 : Value) (x921 : Int) (w1028 : World) : Prop :=
  (((n787 ≠ x687) → Post (Value.bool false) w1028) ∧ (¬ (n787 ≠ x687) → (laws_FnExactPinsOf_k1 w Post x918 x921 w1028)))
abbrev laws_FnExactPinsOf_k3 (w : World) (Post : Value → World → Prop) (x686 : Value) (x687 : Int) (x688 : Value) (x691 : Int) (x765 : Int) (x766 : Int) (x767 : Int) (x768 : Int) (x769 : Int) (x770 : Value) (w772 : World) : Prop :=
  ∀ w773 : World, Ext w772 w773 → Calls Try.prog 16 #[(Value.agg #[(Value.int .i64 x765), (Value.int .i64 x766), (Value.int .i64 x767), (Value.int .i64 x768), (Value.int .i64 x769)])] w773 (fun e774 w775 => ∃ n776 : Int, ∃ n777 : Int, ∃ n778 : Int, ∃ n779 : Int, ∃ n780 : Int, e774 = .returned (Value.agg #[(Value.int .i64 n776), (Value.int .i64 n777), (Value.int .i64 n778), (Value.int .i64 n779), (Value.int .i64 n780)]) ∧ Keeps w.heap.size [23, 38, 42] w773 w775 ∧ Ext w773 w775 ∧ Calls Try.prog 28 #[(Value.agg #[x770])] w775 (fun e781 w782 => ∃ u783 : Value, e781 = .returned (Value.agg #[u783]) ∧ Keeps w.heap.size [23, 38, 42] w775 w782 ∧ Ext w773 w782 ∧ Calls Try.prog 29 #[(Value.agg #[(Value.int .i64 n776), (Value.int .i64 n777), (Value.int .i64 n778), (Value.int .i64 n779), (Value.int .i64 n780)]), (Value.agg #[u783])] w782 (fun e784 w785 => ∃ u786 : Value, ∃ n787 : Int, e784 = .returned (Value.tuple #[u786, (Value.int .i64 n787)]) ∧ Keeps w.heap.size [23, 38, 42] w782 w785 ∧ Ext w773 w785 ∧ Calls Try.prog 30 #[u786, x686] w785 (fun e788 w789 => ∃ b790 : Bool, e788 = .returned (Value.bool b790) ∧ Keeps w.heap.size [23, 38, 42] w785 w789 ∧ (((!b790) = true → Post (Value.bool false) w789) ∧ ((!b790) = false → (laws_FnExactPinsOf_k2 w Post x687 n787 x688 x691 w789)))))))
abbrev laws_FnExactPinsOf_k4 (w : World) (Post : Value → World → Prop) (x594 : Value) (x595 : Int) (x596 : Value) (x599 : Int) (x600 : Int) (x671 : Int) (x672 : Int) (x673 : Int) (x674 : Int) (x675 : Int) (x676 : Value) (w678 : World) : Prop :=
  (((x600 ≠ x599) → Post (Value.bool false) w678) ∧ (¬ (x600 ≠ x599) → (laws_FnExactPinsOf_k3 w Post x594 x595 x596 x599 x671 x672 x673 x674 x675 x676 w678)))
abbrev laws_FnExactPinsOf_k5 (w : World) (Post : Value → World → Prop) (x505 : Value) (x506 : Int) (x507 : Value) (x573 : Int) (x574 : Int) (x575 : Int) (x576 : Int) (x577 : Int) (x578 : Value) (w580 : World) : Prop :=
  Calls Try.prog 33 #[x507, (Value.int .i64 1)] w580 (fun e581 w582 => ∃ n583 : Int, e581 = .returned (Value.int .i64 n583) ∧ Keeps w.heap.size [23, 38, 42] w580 w582 ∧ Calls Try.prog 34 #[x507, (Value.int .i64 1)] w582 (fun e584 w585 => ∃ n586 : Int, e584 = .returned (Value.int .i64 n586) ∧ Keeps w.heap.size [23, 38, 42] w582 w585 ∧ (((n586 < (0 : Int)) → Post (Value.bool false) w585) ∧ (¬ (n586 < (0 : Int)) → (laws_FnExactPinsOf_k4 w Post x505 x506 x507 n583 n586 x573 x574 x575 x576 x577 x578 w585)))))
abbrev laws_FnExactPinsOf_k6 (w : World) (Post : Value → World → Prop) (x270 : Int) (x272 : Int) (x422 : Value) (x423 : Int) (x424 : Value) (x490 : Int) (x491 : Int) (x492 : Int) (x493 : Int) (x494 : Int) (x495 : Value) (w497 : World) : Prop :=
  (((x272 ≠ x270) → Post (Value.bool false) w497) ∧ (¬ (x272 ≠ x270) → (laws_FnExactPinsOf_k5 w Post x422 x423 x424 x490 x491 x492 x493 x494 x495 w497)))
abbrev laws_FnExactPinsOf_k7 (w : World) (Post : Value → World → Prop) (x269 : Value) (x270 : Int) (x271 : Value) (x272 : Int) (x325 : Int) (x326 : Int) (x327 : Int) (x328 : Int) (x329 : Int) (x330 : Value) (x331 : Value) (w332 : World) : Prop :=
  Calls Try.prog 32 #[(Value.agg #[x331]), (Value.int .i64 1)] w332 (fun e333 w334 => ∃ n335 : Int, e333 = .returned (Value.int .i64 n335) ∧ Keeps w.heap.size [23, 38, 42] w332 w334 ∧ (((n335 < (0 : Int)) → Post (Value.bool false) w334) ∧ (¬ (n335 < (0 : Int)) → Calls Try.prog 30 #[x271, x269] w334 (fun e412 w413 => ∃ b414 : Bool, e412 = .returned (Value.bool b414) ∧ Keeps w.heap.size [23, 38, 42] w334 w413 ∧ (((!b414) = true → Post (Value.bool false) w413) ∧ ((!b414) = false → (laws_FnExactPinsOf_k6 w Post x270 x272 x269 x270 x271 x325 x326 x327 x328 x329 x330 w413)))))))
abbrev laws_FnExactPinsOf_k8 (w : World) (Post : Value → World → Prop) (x196 : Value) (x197 : Int) (x198 : Value) (x199 : Int) (x247 : Int) (x248 : Int) (x249 : Int) (x250 : Int) (x251 : Int) (x252 : Value) (x253 : Value) (w254 : World) : Prop :=
  ∀ w255 : World, Ext w254 w255 → Calls Try.prog 28 #[(Value.agg #[x252])] w255 (fun e256 w257 => ∃ u258 : Value, e256 = .returned (Value.agg #[u258]) ∧ Keeps w.heap.size [23, 38, 42] w255 w257 ∧ Ext w255 w257 ∧ Calls Try.prog 31 #[(Value.agg #[x253]), (Value.agg #[u258])] w257 (fun e259 w260 => ∃ b261 : Bool, e259 = .returned (Value.bool b261) ∧ Keeps w.heap.size [23, 38, 42] w257 w260 ∧ Ext w255 w260 ∧ (((!b261) = true → Post (Value.bool false) w260) ∧ ((!b261) = false → (laws_FnExactPinsOf_k7 w Post x196 x197 x198 x199 x247 x248 x249 x250 x251 x252 x253 w260)))))
abbrev laws_FnExactPinsOf_k9 (w : World) (Post : Value → World → Prop) (n38 : Int) (n55 : Int) (x130 : Value) (x131 : Int) (x132 : Value) (x133 : Int) (x181 : Int) (x182 : Int) (x183 : Int) (x184 : Int) (x185 : Int) (x186 : Value) (x187 : Value) (w188 : World) : Prop :=
  (((n55 ≠ n38) → Post (Value.bool false) w188) ∧ (¬ (n55 ≠ n38) → (laws_FnExactPinsOf_k8 w Post x130 x131 x132 x133 x181 x182 x183 x184 x185 x186 x187 w188)))
abbrev laws_FnExactPinsOf_k10 (w : World) (Post : Value → World → Prop) (x17 : Int) (x18 : Int) (x19 : Int) (x20 : Int) (x21 : Int) (x22 : Value) (w23 : World) : Prop :=
  ∀ w24 : World, Ext w23 w24 → Calls Try.prog 16 #[(Value.agg #[(Value.int .i64 x17), (Value.int .i64 x18), (Value.int .i64 x19), (Value.int .i64 x20), (Value.int .i64 x21)])] w24 (fun e25 w26 => ∃ n27 : Int, ∃ n28 : Int, ∃ n29 : Int, ∃ n30 : Int, ∃ n31 : Int, e25 = .returned (Value.agg #[(Value.int .i64 n27), (Value.int .i64 n28), (Value.int .i64 n29), (Value.int .i64 n30), (Value.int .i64 n31)]) ∧ Keeps w.heap.size [23, 38] w24 w26 ∧ Ext w24 w26 ∧ Calls Try.prog 28 #[(Value.agg #[x22])] w26 (fun e32 w33 => ∃ u34 : Value, e32 = .returned (Value.agg #[u34]) ∧ Keeps w.heap.size [23, 38] w26 w33 ∧ Ext w24 w33 ∧ Calls Try.prog 27 #[(Value.agg #[(Value.int .i64 n27), (Value.int .i64 n28), (Value.int .i64 n29), (Value.int .i64 n30), (Value.int .i64 n31)]), (Value.agg #[u34])] w33 (fun e35 w36 => ∃ u37 : Value, ∃ n38 : Int, e35 = .returned (Value.tuple #[u37, (Value.int .i64 n38)]) ∧ Keeps w.heap.size [23, 38] w33 w36 ∧ Ext w24 w36 ∧ Calls Try.prog 28 #[(Value.agg #[x22])] w36 (fun e39 w40 => ∃ u41 : Value, e39 = .returned (Value.agg #[u41]) ∧ Keeps w.heap.size [23, 38] w36 w40 ∧ ∀ w42 : World, Ext w40 w42 → oneC u41 (∀ w43 : World, BxS w.heap.size 42 w42 w43 → ∀ w44 : World, Ext w43 w44 → Calls Try.prog 16 #[(Value.agg #[(Value.int .i64 x17), (Value.int .i64 x18), (Value.int .i64 x19), (Value.int .i64 x20), (Value.int .i64 x21)])] w44 (fun e45 w46 => ∃ n47 : Int, ∃ n48 : Int, ∃ n49 : Int, ∃ n50 : Int, ∃ n51 : Int, e45 = .returned (Value.agg #[(Value.int .i64 n47), (Value.int .i64 n48), (Value.int .i64 n49), (Value.int .i64 n50), (Value.int .i64 n51)]) ∧ Keeps w.heap.size [23, 38, 42] w44 w46 ∧ Ext w44 w46 ∧ Calls Try.prog 29 #[(Value.agg #[(Value.int .i64 n47), (Value.int .i64 n48), (Value.int .i64 n49), (Value.int .i64 n50), (Value.int .i64 n51)]), (Value.agg #[u41])] w46 (fun e52 w53 => ∃ u54 : Value, ∃ n55 : Int, e52 = .returned (Value.tuple #[u54, (Value.int .i64 n55)]) ∧ Keeps w.heap.size [23, 38, 42] w46 w53 ∧ Ext w44 w53 ∧ Calls Try.prog 30 #[u54, u37] w53 (fun e56 w57 => ∃ b58 : Bool, e56 = .returned (Value.bool b58) ∧ Keeps w.heap.size [23, 38, 42] w53 w57 ∧ (((!b58) = true → Post (Value.bool false) w57) ∧ ((!b58) = false → (laws_FnExactPinsOf_k9 w Post n38 n55 u37 n38 u54 n55 x17 x18 x19 x20 x21 x22 u41 w57)))))))))))
def laws_FnExactPinsOf_vc (m_Chambers : Int) (m_Depths : Int) (m_Step : Int) (m_Same : Int) (m_Least : Int) (l_Sets : Value) (w : World) (Post : Value → World → Prop) : Prop :=
  ∀ w1 : World, Ext w w1 → oneC l_Sets (∀ w2 : World, Ext w1 w2 → Calls Try.prog 26 #[(Value.agg #[l_Sets]), (Value.int .i64 1048576)] w2 (fun e3 w4 => ∃ n5 : Int, e3 = .returned (Value.int .i64 n5) ∧ Keeps w.heap.size [23, 38] w2 w4 ∧ (((n5 < (0 : Int)) → Post (Value.bool true) w4) ∧ (¬ (n5 < (0 : Int)) → (laws_FnExactPinsOf_k10 w Post m_Chambers m_Depths m_Step m_Same m_Least l_Sets w4)))))
theorem laws_FnExactPinsOf_eq (m_Chambers : Int) (m_Depths : Int) (m_Step : Int) (m_Same : Int) (m_Least : Int) (l_Sets : Value) (w : World) (Post : Value → World → Prop) : denF Try.prog [1000028, 1000029] noAnn 6 [(Value.agg #[(Value.int .i64 m_Chambers), (Value.int .i64 m_Depths), (Value.int .i64 m_Step), (Value.int .i64 m_Same), (Value.int .i64 m_Least)]), (Value.agg #[l_Sets])] w Post = laws_FnExactPinsOf_vc m_Chambers m_Depths m_Step m_Same m_Least l_Sets w Post := by kernel_rfl
set_option maxRecDepth 100000 in
theorem laws_FnExactPinsOf_calls (m_Chambers : Int) (m_Depths : Int) (m_Step : Int) (m_Same : Int) (m_Least : Int) (l_Sets : Value) (w : World) (Post : Value → World → Prop) (hvc : laws_FnExactPinsOf_vc m_Chambers m_Depths m_Step m_Same m_Least l_Sets w Post) : Ret Try.prog 6 #[(Value.agg #[(Value.int .i64 m_Chambers), (Value.int .i64 m_Depths), (Value.int .i64 m_Step), (Value.int .i64 m_Same), (Value.int .i64 m_Least)]), (Value.agg #[l_Sets])] w Post :=
  Ret.of (denF_sound mixed (Eq.mpr (laws_FnExactPinsOf_eq m_Chambers m_Depths m_Step m_Same m_Least l_Sets w Post) hvc))

end Go.Proofs
namespace Go.Proofs.Ythcmeplidekndaa.lawPinsOf
open Go.Proofs Go.Sx Go.RowKit Go.ChangeShapes Go.WideShapes Go.ChangeAt Go.Joins
theorem walk (c : Int) (_ : (Lit.int .i64 c).wf = true) (d : Int) (_ : (Lit.int .i64 d).wf = true) (s : Int) (_ : (Lit.int .i64 s).wf = true) (m : Int) (_ : (Lit.int .i64 m).wf = true) (l : Int) (_ : (Lit.int .i64 l).wf = true) (v : Value) (zv : List (List Int)) (w : World) (h : RR w v zv) (_ : ∀ z ∈ zv, ∀ n ∈ z, (Lit.int .i64 n).wf = true) : Val Try.prog 6 #[mkV c d s m l, lkV v] w (.bool true) :=
  Ret.val (laws_FnExactPinsOf_calls c d s m l v w _ (by
    unfold laws_FnExactPinsOf_vc
    have hR := pinsR_total c d s m l zv
    intro w1 h1
    have k1 := h1
    have z1 := h1.size
    refine h.oneC fun w2 h2 => ?_
    have k2 := k1.trans h2
    have z2 := h2.size
    refine (laws_szLock_ret v 1048576 zv w2 (h.ext k2) (by decide) (by decide)).call ?_
    rintro _ w3 ⟨h3, nz, rfl, hnz, hsz⟩
    have k3 := k2.trans h3
    have z3 := h3.size
    refine ⟨nz, rfl, h3.keeps, fun _ => ⟨rfl, k3⟩, fun hp => ?_⟩
    obtain ⟨hl, hz⟩ := hsz (by omega)
    have hl1 : zv.length ≤ 1048576 := by omega
    have hz1 : ∀ z ∈ zv, z.length ≤ 1048576 := fun z hh => by have := hz z hh; omega
    have hT := Nat.le_trans (total_max hz1) (Nat.mul_le_mul_right 1048576 hl1)
    have hl2 : zv.length ≤ 4398046511104 := by omega
    have hz2 : ∀ z ∈ zv, z.length ≤ 4398046511104 := fun z hh => by have := hz1 z hh; omega
    intro w4 h4
    have k4 := k3.trans h4
    have z4 := h4.size
    refine (laws_toMaker_val ..).call fun w5 h5 => ⟨_, _, _, _, _, rfl, h5.keeps, h5, ?_⟩
    have k5 := k4.trans h5
    have z5 := h5.size
    have x5 := h5
    refine (laws_toLock_ret v zv w5 (h.ext k5) hl2 hz2).call ?_
    rintro _ w6 ⟨p, rfl, qp, h6⟩
    refine ⟨p, rfl, h6.keeps, (x5.trans h6), ?_⟩
    have k6 := k5.trans h6
    have z6 := h6.size
    have x6 := x5.trans h6
    have op6 := qp.m
    refine (spec_PinsOf_ret c d s m l p zv w6 op6.rr).call ?_
    rintro _ w7 ⟨a, rfl, qa, h7⟩
    refine ⟨a, _, rfl, h7.keeps, (x6.trans h7), ?_⟩
    have k7 := k6.trans h7
    have z7 := h7.size
    have op7 := op6.ext h7
    have x7 := x6.trans h7
    have oa7 := qa.m
    refine (laws_toLock_ret v zv w7 (h.ext k7) hl2 hz2).call ?_
    rintro _ w8 ⟨x, rfl, qx, h8⟩
    refine ⟨x, rfl, h8.keeps, ?_⟩
    have k8 := k7.trans h8
    have z8 := h8.size
    have oa8 := oa7.ext h8
    have ox8 := qx.m
    intro w9 h9
    have k9 := k8.trans h9
    have z9 := h9.size
    have oa9 := oa8.ext h9
    have ox9 := ox8.ext h9
    refine ox9.rr.oneC fun w10 b10 => ?_
    have k10 := k9.bxs b10
    have z10 := b10.size
    have oa10 := oa9.bxs b10 (by decide) (by decide)
    have ox10 := ox9.bxs b10 (by decide) (by decide)
    intro w11 h11
    have k11 := k10.trans h11
    have z11 := h11.size
    have oa11 := oa10.ext h11
    have ox11 := ox10.ext h11
    refine (laws_toMaker_val ..).call fun w12 h12 => ⟨_, _, _, _, _, rfl, h12.keeps, h12, ?_⟩
    have k12 := k11.trans h12
    have z12 := h12.size
    have oa12 := oa11.ext h12
    have ox12 := ox11.ext h12
    have x12 := h12
    refine (impl_PinsOf_ret c d s m l x zv w12 ox12.rr).call ?_
    rintro _ w13 ⟨b, rfl, qb, h13⟩
    refine ⟨b, _, rfl, h13.keeps, (x12.trans h13), ?_⟩
    have k13 := k12.trans h13
    have z13 := h13.size
    have oa13 := oa12.ext h13
    have ox13 := ox12.ext h13
    have x13 := x12.trans h13
    have ob13 := qb.m
    refine (laws_eqInt64SS_val b a _ w13 ob13.rr oa13.rr).call fun w14 h14 => ⟨true, rfl, h14.keeps, fun hh => (by cases hh), fun _ => ?_⟩
    have k14 := k13.trans h14
    have z14 := h14.size
    have oa14 := oa13.ext h14
    have ox14 := ox13.ext h14
    have ob14 := ob13.ext h14
    refine ⟨fun hne => absurd rfl hne, fun _ => ?_⟩
    intro w15 h15
    have k15 := k14.trans h15
    have z15 := h15.size
    have oa15 := oa14.ext h15
    have ox15 := ox14.ext h15
    have ob15 := ob14.ext h15
    refine (laws_toLock_ret v zv w15 (h.ext k15) hl2 hz2).call ?_
    rintro _ w16 ⟨cc, rfl, qcc, h16⟩
    refine ⟨cc, rfl, h16.keeps, h16, ?_⟩
    have k16 := k15.trans h16
    have z16 := h16.size
    have oa16 := oa15.ext h16
    have ox16 := ox15.ext h16
    have ob16 := ob15.ext h16
    have x16 := h16
    have occ16 := qcc.m
    refine (laws_eqLock_val x cc zv w16 ox16.rr occ16.rr).call fun w17 h17 => ⟨true, rfl, h17.keeps, (x16.trans h17), fun hh => (by cases hh), fun _ => ?_⟩
    have k17 := k16.trans h17
    have z17 := h17.size
    have oa17 := oa16.ext h17
    have ox17 := ox16.ext h17
    have ob17 := ob16.ext h17
    have occ17 := occ16.ext h17
    have x17 := x16.trans h17
    refine (laws_markLock_ret x 1 _ _ zv w17 ox17 (by decide) (by omega)).call ?_
    rintro _ w18 ⟨rfl, _, m18⟩
    refine ⟨_, rfl, m18.2 _ _ (by decide), fun hneg => absurd hneg (by omega), fun _ => ?_⟩
    have k18 := m18.ext k17 (by omega)
    have z18 := m18.size
    have oa18 := oa17.rest m18 (by omega)
    have ob18 := ob17.rest m18 (by omega)
    refine (laws_eqInt64SS_val b a _ w18 ob18.rr oa18.rr).call fun w19 h19 => ⟨true, rfl, h19.keeps, fun hh => (by cases hh), fun _ => ?_⟩
    have k19 := k18.trans h19
    have z19 := h19.size
    have oa19 := oa18.ext h19
    have ob19 := ob18.ext h19
    refine ⟨fun hne => absurd rfl hne, fun _ => ?_⟩
    refine (laws_markInt64SS_ret b 1 _ _ _ w19 ob19 (by decide) (by omega)).call ?_
    rintro _ w20 ⟨rfl, mb20, m20⟩
    refine ⟨_, rfl, m20.2 _ _ (by decide), ?_⟩
    have k20 := m20.ext k19 (by omega)
    have z20 := m20.size
    have oa20 := oa19.rest m20 (by omega)
    refine (laws_heldInt64SS_val b 1 _ w20 mb20.rr (by decide) (by omega)).call fun w21 h21 => ⟨_, rfl, h21.keeps, fun hneg => absurd hneg (by omega), fun _ => ?_⟩
    have k21 := k20.trans h21
    have z21 := h21.size
    have oa21 := oa20.ext h21
    have ob21 := mb20.ext h21
    refine ⟨fun hne => absurd rfl hne, fun _ => ?_⟩
    intro w22 h22
    have k22 := k21.trans h22
    have z22 := h22.size
    have oa22 := oa21.ext h22
    have ob22 := ob21.ext h22
    refine (laws_toMaker_val ..).call fun w23 h23 => ⟨_, _, _, _, _, rfl, h23.keeps, h23, ?_⟩
    have k23 := k22.trans h23
    have z23 := h23.size
    have oa23 := oa22.ext h23
    have ob23 := ob22.ext h23
    have x23 := h23
    refine (laws_toLock_ret v zv w23 (h.ext k23) hl2 hz2).call ?_
    rintro _ w24 ⟨y, rfl, qy, h24⟩
    refine ⟨y, rfl, h24.keeps, (x23.trans h24), ?_⟩
    have k24 := k23.trans h24
    have z24 := h24.size
    have oa24 := oa23.ext h24
    have ob24 := ob23.ext h24
    have x24 := x23.trans h24
    have oy24 := qy.m
    refine (impl_PinsOf_ret c d s m l y zv w24 oy24.rr).call ?_
    rintro _ w25 ⟨e, rfl, qe, h25⟩
    refine ⟨e, _, rfl, h25.keeps, (x24.trans h25), ?_⟩
    have k25 := k24.trans h25
    have z25 := h25.size
    have oa25 := oa24.ext h25
    have ob25 := ob24.ext h25
    have oy25 := oy24.ext h25
    have x25 := x24.trans h25
    have oe25 := qe.m
    refine (laws_eqInt64SS_val e a _ w25 oe25.rr oa25.rr).call fun w26 h26 => ⟨true, rfl, h26.keeps, fun hh => (by cases hh), fun _ => ?_⟩
    have k26 := k25.trans h26
    have z26 := h26.size
    have oa26 := oa25.ext h26
    have ob26 := ob25.ext h26
    have oe26 := oe25.ext h26
    refine ⟨fun hne => absurd rfl hne, fun _ => ?_⟩
    refine (laws_heldInt64SS_val b 1 _ w26 ob26.rr (by decide) (by omega)).call fun w27 h27 => ⟨_, rfl, h27.keeps, fun hneg => absurd hneg (by omega), fun _ => ?_⟩
    have k27 := k26.trans h27
    have z27 := h27.size
    have ob27 := ob26.ext h27
    exact ⟨fun hne => absurd rfl hne, fun _ => ⟨rfl, k27⟩⟩))
set_option linter.unusedSimpArgs false in
theorem readable : ∀ t ∈ Try.f6.params.toList, Try.prog.readableRec t = true ∧ t < Try.prog.types.size := by
  rw [Try.params6]
  simp only [List.mem_cons, List.not_mem_nil, or_false, forall_eq_or_imp, forall_eq]
  exact ⟨⟨by kernel_rfl, of_decide_eq_true (by kernel_rfl)⟩, ⟨by kernel_rfl, of_decide_eq_true (by kernel_rfl)⟩⟩

set_option maxRecDepth 100000 in
theorem lifted (os : Os) (started : os.Started) (H : Type) (enc : TypeId × Value → H) :
    ReturnsInHanded {} Try.checked os 6 .any (Rows.fnExactPinsOfSpec.pre6 enc Try.prog Try.f6 Rows.fnExactPinsOfRow.domain false) (Rows.fnExactPinsOfSpec.post enc Try.prog Try.f6 false true false false) := by
  refine returnsInHanded_of_change (C := Try.checked) ownKnobNone started (by kernel_rfl) Try.func6
    (ChangeSpec.witness6 (enc := enc) (C := Try.checked) false ⟨#[], #[.agg #[.int .i64 0, .int .i64 0, .int .i64 0, .int .i64 0, .int .i64 0], .agg #[.slice none 0 0]], []⟩ 8 (by kernel_rfl) (by kernel_rfl) (by kernel_rfl) (by kernel_rfl)) ?_
  intro W base args ds gs before hval0 hW hcnd _
  have hval : ∀ (j : Nat) t v, Try.f6.params[j]? = some t → args[j]? = some v → Value.okWide Try.prog W .any base t v := hval0
  have hW' := hW
  obtain ⟨p, q, hA0, hV, rfl, hfz, hnd⟩ := hW
  have hA1 : DataW.TrodAll enc Try.prog W 0 (fun _ => true) true Try.f6.params.toList args.toList ds p := hA0
  have hA := hA1
  rw [Try.params6] at hA hval
  obtain ⟨v0, vs0, d0, ds0, p0, q0, hargs, rfl, rfl, h0, r0⟩ := trodAll_cons hA
  obtain ⟨v1, vs1, d1, ds1, p1, q1, rfl, rfl, rfl, h1, r1⟩ := trodAll_cons r0
  obtain ⟨rfl, rfl, rfl⟩ := trodAll_nil r1
  obtain rfl : args = #[v0, v1] := by cases args; simp_all
  obtain ⟨rfl, rfl⟩ := trodVars_none hV
  obtain ⟨v0_0, v0_1, v0_2, v0_3, v0_4, y0_0, y0_1, y0_2, y0_3, y0_4, m0, rfl, rfl, rfl, g0_0, g0_1, g0_2, g0_3, g0_4⟩ := open_agg5 Try.underlying23 (by kernel_rfl) (by kernel_rfl) (hval 0 23 v0 rfl rfl) h0
  obtain ⟨a0_0, e0_0, rfl, w0_0⟩ := DataW.trod_int Try.underlying2 g0_0
  simp only [List.cons.injEq, and_true] at e0_0
  subst e0_0
  obtain ⟨a0_1, e0_1, rfl, w0_1⟩ := DataW.trod_int Try.underlying2 g0_1
  simp only [List.cons.injEq, and_true] at e0_1
  subst e0_1
  obtain ⟨a0_2, e0_2, rfl, w0_2⟩ := DataW.trod_int Try.underlying2 g0_2
  simp only [List.cons.injEq, and_true] at e0_2
  subst e0_2
  obtain ⟨a0_3, e0_3, rfl, w0_3⟩ := DataW.trod_int Try.underlying2 g0_3
  simp only [List.cons.injEq, and_true] at e0_3
  subst e0_3
  obtain ⟨a0_4, e0_4, rfl, w0_4⟩ := DataW.trod_int Try.underlying2 g0_4
  simp only [List.cons.injEq, and_true] at e0_4
  subst e0_4
  obtain ⟨x1, z1, rfl, hz1, wz1⟩ := open_lock Try.underlying38 rfl rfl (by kernel_rfl) (by kernel_rfl) Try.underlying36 Try.underlying24 Try.underlying2 (by kernel_rfl) (by kernel_rfl) (hval 1 38 v1 rfl rfl) h1
  clear hA0 hval0
  refine (Val.calls (walk a0_0 w0_0 a0_1 w0_1 a0_2 w0_2 a0_3 w0_3 a0_4 w0_4 x1 z1 W hz1 wz1)).mono fun e W' ⟨he, hg⟩ => ?_
  subst he
  exact ⟨_, rfl, law_post laidOut readable hW' hA1 Try.underlying4 rfl rfl rfl hg⟩

theorem proved : Rows.FnExactPinsOfSaid :=
  OpenClaim.holds_of_wide 6 Try.f6 rfl rfl rfl rfl rfl rfl rfl ⟨rfl, rfl, rfl, rfl, rfl⟩ rfl rfl rfl rfl rfl (by kernel_rfl) Try.func6 (by kernel_rfl)
    (of_decide_eq_true (by kernel_rfl)) (by unfold Func.isWrapper; first | (rw [if_pos (by decide +kernel)]; kernel_rfl) | (rw [if_neg (by decide +kernel)]; exact ⟨rfl, rfl⟩))
    (fun os started H enc _ => lifted os started H enc)

end Go.Proofs.Ythcmeplidekndaa.lawPinsOf
