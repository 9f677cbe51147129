/- The law FnExactThinChambers: the program's function answers as the reference's, for all arguments. No condition. -/
import Derived.Test.YthcmeplidekndaaL05b
set_option linter.unusedVariables false
namespace Go.Proofs
open Go.Sx Go.RowKit
abbrev laws_FnExactThinChambers_k0 (Post : Value → World → Prop) (x1205 : Int) (x1206 : Int) (w1319 : World) : Prop :=
  (((x1206 ≠ x1205) → Post (Value.bool false) w1319) ∧ (¬ (x1206 ≠ x1205) → Post (Value.bool true) w1319))
abbrev laws_FnExactThinChambers_k1 (w : World) (Post : Value → World → Prop) (x1075 : Value) (x1078 : Int) (w1188 : World) : Prop :=
  Calls Try.prog 23 #[x1075, (Value.int .i64 1)] w1188 (fun e1189 w1190 => ∃ n1191 : Int, e1189 = .returned (Value.int .i64 n1191) ∧ Keeps w.heap.size [23, 38, 42] w1188 w1190 ∧ (((n1191 < (0 : Int)) → Post (Value.bool false) w1190) ∧ (¬ (n1191 < (0 : Int)) → (laws_FnExactThinChambers_k0 Post x1078 n1191 w1190))))
abbrev laws_FnExactThinChambers_k2 (w : World) (Post : Value → World → Prop) (x713 : Int) (n815 : Int) (x951 : Value) (x954 : Int) (w1064 : World) : Prop :=
  (((n815 ≠ x713) → Post (Value.bool false) w1064) ∧ (¬ (n815 ≠ x713) → (laws_FnExactThinChambers_k1 w Post x951 x954 w1064)))
abbrev laws_FnExactThinChambers_k3 (w : World) (Post : Value → World → Prop) (x710 : Int) (x712 : Value) (x713 : Int) (x714 : Value) (x717 : Int) (x793 : Int) (x794 : Int) (x795 : Int) (x796 : Int) (x797 : Int) (x798 : Value) (w800 : World) : Prop :=
  ∀ w801 : World, Ext w800 w801 → Calls Try.prog 16 #[(Value.agg #[(Value.int .i64 x793), (Value.int .i64 x794), (Value.int .i64 x795), (Value.int .i64 x796), (Value.int .i64 x797)])] w801 (fun e802 w803 => ∃ n804 : Int, ∃ n805 : Int, ∃ n806 : Int, ∃ n807 : Int, ∃ n808 : Int, e802 = .returned (Value.agg #[(Value.int .i64 n804), (Value.int .i64 n805), (Value.int .i64 n806), (Value.int .i64 n807), (Value.int .i64 n808)]) ∧ Keeps w.heap.size [23, 38, 42] w801 w803 ∧ Ext w801 w803 ∧ Calls Try.prog 28 #[(Value.agg #[x798])] w803 (fun e809 w810 => ∃ u811 : Value, e809 = .returned (Value.agg #[u811]) ∧ Keeps w.heap.size [23, 38, 42] w803 w810 ∧ Ext w801 w810 ∧ Calls Try.prog 43 #[(Value.agg #[(Value.int .i64 n804), (Value.int .i64 n805), (Value.int .i64 n806), (Value.int .i64 n807), (Value.int .i64 n808)]), (Value.agg #[u811]), (Value.int .i64 x710)] w810 (fun e812 w813 => ∃ u814 : Value, ∃ n815 : Int, e812 = .returned (Value.tuple #[u814, (Value.int .i64 n815)]) ∧ Keeps w.heap.size [23, 38, 42] w810 w813 ∧ Ext w801 w813 ∧ Calls Try.prog 19 #[u814, x712] w813 (fun e816 w817 => ∃ b818 : Bool, e816 = .returned (Value.bool b818) ∧ Keeps w.heap.size [23, 38, 42] w813 w817 ∧ (((!b818) = true → Post (Value.bool false) w817) ∧ ((!b818) = false → (laws_FnExactThinChambers_k2 w Post x713 n815 x714 x717 w817)))))))
abbrev laws_FnExactThinChambers_k4 (w : World) (Post : Value → World → Prop) (x615 : Int) (x617 : Value) (x618 : Int) (x619 : Value) (x622 : Int) (x623 : Int) (x696 : Int) (x697 : Int) (x698 : Int) (x699 : Int) (x700 : Int) (x701 : Value) (w703 : World) : Prop :=
  (((x623 ≠ x622) → Post (Value.bool false) w703) ∧ (¬ (x623 ≠ x622) → (laws_FnExactThinChambers_k3 w Post x615 x617 x618 x619 x622 x696 x697 x698 x699 x700 x701 w703)))
abbrev laws_FnExactThinChambers_k5 (w : World) (Post : Value → World → Prop) (x523 : Int) (x525 : Value) (x526 : Int) (x527 : Value) (x595 : Int) (x596 : Int) (x597 : Int) (x598 : Int) (x599 : Int) (x600 : Value) (w602 : World) : Prop :=
  Calls Try.prog 22 #[x527, (Value.int .i64 1)] w602 (fun e603 w604 => ∃ n605 : Int, e603 = .returned (Value.int .i64 n605) ∧ Keeps w.heap.size [23, 38, 42] w602 w604 ∧ Calls Try.prog 23 #[x527, (Value.int .i64 1)] w604 (fun e606 w607 => ∃ n608 : Int, e606 = .returned (Value.int .i64 n608) ∧ Keeps w.heap.size [23, 38, 42] w604 w607 ∧ (((n608 < (0 : Int)) → Post (Value.bool false) w607) ∧ (¬ (n608 < (0 : Int)) → (laws_FnExactThinChambers_k4 w Post x523 x525 x526 x527 n605 n608 x595 x596 x597 x598 x599 x600 w607)))))
abbrev laws_FnExactThinChambers_k6 (w : World) (Post : Value → World → Prop) (x281 : Int) (x283 : Int) (x437 : Int) (x439 : Value) (x440 : Int) (x441 : Value) (x509 : Int) (x510 : Int) (x511 : Int) (x512 : Int) (x513 : Int) (x514 : Value) (w516 : World) : Prop :=
  (((x283 ≠ x281) → Post (Value.bool false) w516) ∧ (¬ (x283 ≠ x281) → (laws_FnExactThinChambers_k5 w Post x437 x439 x440 x441 x509 x510 x511 x512 x513 x514 w516)))
abbrev laws_FnExactThinChambers_k7 (w : World) (Post : Value → World → Prop) (x278 : Int) (x280 : Value) (x281 : Int) (x282 : Value) (x283 : Int) (x338 : Int) (x339 : Int) (x340 : Int) (x341 : Int) (x342 : Int) (x343 : Value) (x344 : Value) (w345 : World) : Prop :=
  Calls Try.prog 32 #[(Value.agg #[x344]), (Value.int .i64 1)] w345 (fun e346 w347 => ∃ n348 : Int, e346 = .returned (Value.int .i64 n348) ∧ Keeps w.heap.size [23, 38, 42] w345 w347 ∧ (((n348 < (0 : Int)) → Post (Value.bool false) w347) ∧ (¬ (n348 < (0 : Int)) → Calls Try.prog 19 #[x282, x280] w347 (fun e428 w429 => ∃ b430 : Bool, e428 = .returned (Value.bool b430) ∧ Keeps w.heap.size [23, 38, 42] w347 w429 ∧ (((!b430) = true → Post (Value.bool false) w429) ∧ ((!b430) = false → (laws_FnExactThinChambers_k6 w Post x281 x283 x278 x280 x281 x282 x338 x339 x340 x341 x342 x343 w429)))))))
abbrev laws_FnExactThinChambers_k8 (w : World) (Post : Value → World → Prop) (x202 : Int) (x204 : Value) (x205 : Int) (x206 : Value) (x207 : Int) (x257 : Int) (x258 : Int) (x259 : Int) (x260 : Int) (x261 : Int) (x262 : Value) (x263 : Value) (w264 : World) : Prop :=
  ∀ w265 : World, Ext w264 w265 → Calls Try.prog 28 #[(Value.agg #[x262])] w265 (fun e266 w267 => ∃ u268 : Value, e266 = .returned (Value.agg #[u268]) ∧ Keeps w.heap.size [23, 38, 42] w265 w267 ∧ Ext w265 w267 ∧ Calls Try.prog 31 #[(Value.agg #[x263]), (Value.agg #[u268])] w267 (fun e269 w270 => ∃ b271 : Bool, e269 = .returned (Value.bool b271) ∧ Keeps w.heap.size [23, 38, 42] w267 w270 ∧ Ext w265 w270 ∧ (((!b271) = true → Post (Value.bool false) w270) ∧ ((!b271) = false → (laws_FnExactThinChambers_k7 w Post x202 x204 x205 x206 x207 x257 x258 x259 x260 x261 x262 x263 w270)))))
abbrev laws_FnExactThinChambers_k9 (w : World) (Post : Value → World → Prop) (n39 : Int) (n56 : Int) (x133 : Int) (x135 : Value) (x136 : Int) (x137 : Value) (x138 : Int) (x188 : Int) (x189 : Int) (x190 : Int) (x191 : Int) (x192 : Int) (x193 : Value) (x194 : Value) (w195 : World) : Prop :=
  (((n56 ≠ n39) → Post (Value.bool false) w195) ∧ (¬ (n56 ≠ n39) → (laws_FnExactThinChambers_k8 w Post x133 x135 x136 x137 x138 x188 x189 x190 x191 x192 x193 x194 w195)))
abbrev laws_FnExactThinChambers_k10 (w : World) (Post : Value → World → Prop) (x12 : Int) (x18 : Int) (x19 : Int) (x20 : Int) (x21 : Int) (x22 : Int) (x23 : Value) (w24 : World) : Prop :=
  ∀ w25 : World, Ext w24 w25 → Calls Try.prog 16 #[(Value.agg #[(Value.int .i64 x18), (Value.int .i64 x19), (Value.int .i64 x20), (Value.int .i64 x21), (Value.int .i64 x22)])] w25 (fun e26 w27 => ∃ n28 : Int, ∃ n29 : Int, ∃ n30 : Int, ∃ n31 : Int, ∃ n32 : Int, e26 = .returned (Value.agg #[(Value.int .i64 n28), (Value.int .i64 n29), (Value.int .i64 n30), (Value.int .i64 n31), (Value.int .i64 n32)]) ∧ Keeps w.heap.size [23, 38] w25 w27 ∧ Ext w25 w27 ∧ Calls Try.prog 28 #[(Value.agg #[x23])] w27 (fun e33 w34 => ∃ u35 : Value, e33 = .returned (Value.agg #[u35]) ∧ Keeps w.heap.size [23, 38] w27 w34 ∧ Ext w25 w34 ∧ Calls Try.prog 42 #[(Value.agg #[(Value.int .i64 n28), (Value.int .i64 n29), (Value.int .i64 n30), (Value.int .i64 n31), (Value.int .i64 n32)]), (Value.agg #[u35]), (Value.int .i64 x12)] w34 (fun e36 w37 => ∃ u38 : Value, ∃ n39 : Int, e36 = .returned (Value.tuple #[u38, (Value.int .i64 n39)]) ∧ Keeps w.heap.size [23, 38] w34 w37 ∧ Ext w25 w37 ∧ Calls Try.prog 28 #[(Value.agg #[x23])] w37 (fun e40 w41 => ∃ u42 : Value, e40 = .returned (Value.agg #[u42]) ∧ Keeps w.heap.size [23, 38] w37 w41 ∧ ∀ w43 : World, Ext w41 w43 → oneC u42 (∀ w44 : World, BxS w.heap.size 42 w43 w44 → ∀ w45 : World, Ext w44 w45 → Calls Try.prog 16 #[(Value.agg #[(Value.int .i64 x18), (Value.int .i64 x19), (Value.int .i64 x20), (Value.int .i64 x21), (Value.int .i64 x22)])] w45 (fun e46 w47 => ∃ n48 : Int, ∃ n49 : Int, ∃ n50 : Int, ∃ n51 : Int, ∃ n52 : Int, e46 = .returned (Value.agg #[(Value.int .i64 n48), (Value.int .i64 n49), (Value.int .i64 n50), (Value.int .i64 n51), (Value.int .i64 n52)]) ∧ Keeps w.heap.size [23, 38, 42] w45 w47 ∧ Ext w45 w47 ∧ Calls Try.prog 43 #[(Value.agg #[(Value.int .i64 n48), (Value.int .i64 n49), (Value.int .i64 n50), (Value.int .i64 n51), (Value.int .i64 n52)]), (Value.agg #[u42]), (Value.int .i64 x12)] w47 (fun e53 w54 => ∃ u55 : Value, ∃ n56 : Int, e53 = .returned (Value.tuple #[u55, (Value.int .i64 n56)]) ∧ Keeps w.heap.size [23, 38, 42] w47 w54 ∧ Ext w45 w54 ∧ Calls Try.prog 19 #[u55, u38] w54 (fun e57 w58 => ∃ b59 : Bool, e57 = .returned (Value.bool b59) ∧ Keeps w.heap.size [23, 38, 42] w54 w58 ∧ (((!b59) = true → Post (Value.bool false) w58) ∧ ((!b59) = false → (laws_FnExactThinChambers_k9 w Post n39 n56 x12 u38 n39 u55 n56 x18 x19 x20 x21 x22 x23 u42 w58)))))))))))
def laws_FnExactThinChambers_vc (m_Chambers : Int) (m_Depths : Int) (m_Step : Int) (m_Same : Int) (m_Least : Int) (l_Sets : Value) (n : Int) (w : World) (Post : Value → World → Prop) : Prop :=
  ∀ w1 : World, Ext w w1 → oneC l_Sets (∀ w2 : World, Ext w1 w2 → Calls Try.prog 26 #[(Value.agg #[l_Sets]), (Value.int .i64 1048576)] w2 (fun e3 w4 => ∃ n5 : Int, e3 = .returned (Value.int .i64 n5) ∧ Keeps w.heap.size [23, 38] w2 w4 ∧ (((n5 < (0 : Int)) → Post (Value.bool true) w4) ∧ (¬ (n5 < (0 : Int)) → (laws_FnExactThinChambers_k10 w Post n m_Chambers m_Depths m_Step m_Same m_Least l_Sets w4)))))
theorem laws_FnExactThinChambers_eq (m_Chambers : Int) (m_Depths : Int) (m_Step : Int) (m_Same : Int) (m_Least : Int) (l_Sets : Value) (n : Int) (w : World) (Post : Value → World → Prop) : denF Try.prog [1000028, 1000043] noAnn 10 [(Value.agg #[(Value.int .i64 m_Chambers), (Value.int .i64 m_Depths), (Value.int .i64 m_Step), (Value.int .i64 m_Same), (Value.int .i64 m_Least)]), (Value.agg #[l_Sets]), (Value.int .i64 n)] w Post = laws_FnExactThinChambers_vc m_Chambers m_Depths m_Step m_Same m_Least l_Sets n w Post := by kernel_rfl
set_option maxRecDepth 100000 in
theorem laws_FnExactThinChambers_calls (m_Chambers : Int) (m_Depths : Int) (m_Step : Int) (m_Same : Int) (m_Least : Int) (l_Sets : Value) (n : Int) (w : World) (Post : Value → World → Prop) (hvc : laws_FnExactThinChambers_vc m_Chambers m_Depths m_Step m_Same m_Least l_Sets n w Post) : Ret Try.prog 10 #[(Value.agg #[(Value.int .i64 m_Chambers), (Value.int .i64 m_Depths), (Value.int .i64 m_Step), (Value.int .i64 m_Same), (Value.int .i64 m_Least)]), (Value.agg #[l_Sets]), (Value.int .i64 n)] w Post :=
  Ret.of (denF_sound mixed (Eq.mpr (laws_FnExactThinChambers_eq m_Chambers m_Depths m_Step m_Same m_Least l_Sets n w Post) hvc))

end Go.Proofs
namespace Go.Proofs.Ythcmeplidekndaa.lawThinChambers
open Go.Proofs Go.Sx Go.RowKit Go.ChangeShapes Go.WideShapes Go.ChangeAt Go.Joins
theorem walk (c : Int) (_ : (Lit.int .i64 c).wf = true) (d : Int) (_ : (Lit.int .i64 d).wf = true) (s : Int) (_ : (Lit.int .i64 s).wf = true) (m : Int) (_ : (Lit.int .i64 m).wf = true) (l : Int) (_ : (Lit.int .i64 l).wf = true) (v : Value) (zv : List (List Int)) (n : Int) (hn : (Lit.int .i64 n).wf = true) (w : World) (h : RR w v zv) (_ : ∀ z ∈ zv, ∀ n ∈ z, (Lit.int .i64 n).wf = true) : Val Try.prog 10 #[mkV c d s m l, lkV v, .int .i64 n] w (.bool true) :=
  Ret.val (laws_FnExactThinChambers_calls c d s m l v n w _ (by
    unfold laws_FnExactThinChambers_vc
    have hR := thinR_len c d s m l zv n
    intro w1 h1
    have k1 := h1
    have z1 := h1.size
    refine h.oneC fun w2 h2 => ?_
    have k2 := k1.trans h2
    have z2 := h2.size
    refine (laws_szLock_ret v 1048576 zv w2 (h.ext k2) (by decide) (by decide)).call ?_
    rintro _ w3 ⟨h3, nz, rfl, hnz, hsz⟩
    have k3 := k2.trans h3
    have z3 := h3.size
    refine ⟨nz, rfl, h3.keeps, fun _ => ⟨rfl, k3⟩, fun hp => ?_⟩
    obtain ⟨hl, hz⟩ := hsz (by omega)
    have hl1 : zv.length ≤ 1048576 := by omega
    have hz1 : ∀ z ∈ zv, z.length ≤ 1048576 := fun z hh => by have := hz z hh; omega
    have hT := Nat.le_trans (total_max hz1) (Nat.mul_le_mul_right 1048576 hl1)
    have hl2 : zv.length ≤ 4398046511104 := by omega
    have hz2 : ∀ z ∈ zv, z.length ≤ 4398046511104 := fun z hh => by have := hz1 z hh; omega
    intro w4 h4
    have k4 := k3.trans h4
    have z4 := h4.size
    refine (laws_toMaker_val ..).call fun w5 h5 => ⟨_, _, _, _, _, rfl, h5.keeps, h5, ?_⟩
    have k5 := k4.trans h5
    have z5 := h5.size
    have x5 := h5
    refine (laws_toLock_ret v zv w5 (h.ext k5) hl2 hz2).call ?_
    rintro _ w6 ⟨p, rfl, qp, h6⟩
    refine ⟨p, rfl, h6.keeps, (x5.trans h6), ?_⟩
    have k6 := k5.trans h6
    have z6 := h6.size
    have x6 := x5.trans h6
    have op6 := qp.m
    refine (spec_ThinChambers_ret c d s m l p zv n w6 op6.rr).call ?_
    rintro _ w7 ⟨a, rfl, qa, h7⟩
    refine ⟨a, _, rfl, h7.keeps, (x6.trans h7), ?_⟩
    have k7 := k6.trans h7
    have z7 := h7.size
    have op7 := op6.ext h7
    have x7 := x6.trans h7
    have oa7 := qa.i
    refine (laws_toLock_ret v zv w7 (h.ext k7) hl2 hz2).call ?_
    rintro _ w8 ⟨x, rfl, qx, h8⟩
    refine ⟨x, rfl, h8.keeps, ?_⟩
    have k8 := k7.trans h8
    have z8 := h8.size
    have oa8 := oa7.ext h8
    have ox8 := qx.m
    intro w9 h9
    have k9 := k8.trans h9
    have z9 := h9.size
    have oa9 := oa8.ext h9
    have ox9 := ox8.ext h9
    refine ox9.rr.oneC fun w10 b10 => ?_
    have k10 := k9.bxs b10
    have z10 := b10.size
    have oa10 := oa9.bxs b10 (by decide)
    have ox10 := ox9.bxs b10 (by decide) (by decide)
    intro w11 h11
    have k11 := k10.trans h11
    have z11 := h11.size
    have oa11 := oa10.ext h11
    have ox11 := ox10.ext h11
    refine (laws_toMaker_val ..).call fun w12 h12 => ⟨_, _, _, _, _, rfl, h12.keeps, h12, ?_⟩
    have k12 := k11.trans h12
    have z12 := h12.size
    have oa12 := oa11.ext h12
    have ox12 := ox11.ext h12
    have x12 := h12
    refine (impl_ThinChambers_ret c d s m l x zv n w12 ox12.rr).call ?_
    rintro _ w13 ⟨b, rfl, qb, h13⟩
    refine ⟨b, _, rfl, h13.keeps, (x12.trans h13), ?_⟩
    have k13 := k12.trans h13
    have z13 := h13.size
    have oa13 := oa12.ext h13
    have ox13 := ox12.ext h13
    have x13 := x12.trans h13
    have ob13 := qb.i
    refine eq_same ob13.1.rd oa13.1.rd fun w14 h14 => ⟨true, rfl, h14.keeps, fun hh => (by cases hh), fun _ => ?_⟩
    have k14 := k13.trans h14
    have z14 := h14.size
    have oa14 := oa13.ext h14
    have ox14 := ox13.ext h14
    have ob14 := ob13.ext h14
    refine ⟨fun hne => absurd rfl hne, fun _ => ?_⟩
    intro w15 h15
    have k15 := k14.trans h15
    have z15 := h15.size
    have oa15 := oa14.ext h15
    have ox15 := ox14.ext h15
    have ob15 := ob14.ext h15
    refine (laws_toLock_ret v zv w15 (h.ext k15) hl2 hz2).call ?_
    rintro _ w16 ⟨cc, rfl, qcc, h16⟩
    refine ⟨cc, rfl, h16.keeps, h16, ?_⟩
    have k16 := k15.trans h16
    have z16 := h16.size
    have oa16 := oa15.ext h16
    have ox16 := ox15.ext h16
    have ob16 := ob15.ext h16
    have x16 := h16
    have occ16 := qcc.m
    refine (laws_eqLock_val x cc zv w16 ox16.rr occ16.rr).call fun w17 h17 => ⟨true, rfl, h17.keeps, (x16.trans h17), fun hh => (by cases hh), fun _ => ?_⟩
    have k17 := k16.trans h17
    have z17 := h17.size
    have oa17 := oa16.ext h17
    have ox17 := ox16.ext h17
    have ob17 := ob16.ext h17
    have occ17 := occ16.ext h17
    have x17 := x16.trans h17
    refine (laws_markLock_ret x 1 _ _ zv w17 ox17 (by decide) (by omega)).call ?_
    rintro _ w18 ⟨rfl, _, m18⟩
    refine ⟨_, rfl, m18.2 _ _ (by decide), fun hneg => absurd hneg (by omega), fun _ => ?_⟩
    have k18 := m18.ext k17 (by omega)
    have z18 := m18.size
    have oa18 := oa17.rest m18 (by omega)
    have ob18 := ob17.rest m18 (by omega)
    refine eq_same ob18.1.rd oa18.1.rd fun w19 h19 => ⟨true, rfl, h19.keeps, fun hh => (by cases hh), fun _ => ?_⟩
    have k19 := k18.trans h19
    have z19 := h19.size
    have oa19 := oa18.ext h19
    have ob19 := ob18.ext h19
    refine ⟨fun hne => absurd rfl hne, fun _ => ?_⟩
    refine (laws_markInt64S_ret b 1 _ _ w19 ob19.1 (by decide) (by simp; omega)).call ?_
    rintro _ w20 ⟨rfl, mb20, g20⟩
    have m20 := ob19.marked g20
    refine ⟨_, rfl, m20.2 _ _ (by decide), ?_⟩
    have k20 := m20.ext k19 (by omega)
    have z20 := m20.size
    have oa20 := oa19.rest m20 (by omega)
    have ob20 : OwnI _ _ _ _ _ _ := ⟨mb20, ob19.2⟩
    refine (laws_heldInt64S_val b 1 _ w20 ob20.1.rd (by decide) (by simp; omega)).call fun w21 h21 => ⟨_, rfl, h21.keeps, fun hneg => absurd hneg (by omega), fun _ => ?_⟩
    have k21 := k20.trans h21
    have z21 := h21.size
    have oa21 := oa20.ext h21
    have ob21 := ob20.ext h21
    refine ⟨fun hne => absurd rfl hne, fun _ => ?_⟩
    intro w22 h22
    have k22 := k21.trans h22
    have z22 := h22.size
    have oa22 := oa21.ext h22
    have ob22 := ob21.ext h22
    refine (laws_toMaker_val ..).call fun w23 h23 => ⟨_, _, _, _, _, rfl, h23.keeps, h23, ?_⟩
    have k23 := k22.trans h23
    have z23 := h23.size
    have oa23 := oa22.ext h23
    have ob23 := ob22.ext h23
    have x23 := h23
    refine (laws_toLock_ret v zv w23 (h.ext k23) hl2 hz2).call ?_
    rintro _ w24 ⟨y, rfl, qy, h24⟩
    refine ⟨y, rfl, h24.keeps, (x23.trans h24), ?_⟩
    have k24 := k23.trans h24
    have z24 := h24.size
    have oa24 := oa23.ext h24
    have ob24 := ob23.ext h24
    have x24 := x23.trans h24
    have oy24 := qy.m
    refine (impl_ThinChambers_ret c d s m l y zv n w24 oy24.rr).call ?_
    rintro _ w25 ⟨e, rfl, qe, h25⟩
    refine ⟨e, _, rfl, h25.keeps, (x24.trans h25), ?_⟩
    have k25 := k24.trans h25
    have z25 := h25.size
    have oa25 := oa24.ext h25
    have ob25 := ob24.ext h25
    have oy25 := oy24.ext h25
    have x25 := x24.trans h25
    have oe25 := qe.i
    refine eq_same oe25.1.rd oa25.1.rd fun w26 h26 => ⟨true, rfl, h26.keeps, fun hh => (by cases hh), fun _ => ?_⟩
    have k26 := k25.trans h26
    have z26 := h26.size
    have oa26 := oa25.ext h26
    have ob26 := ob25.ext h26
    have oe26 := oe25.ext h26
    refine ⟨fun hne => absurd rfl hne, fun _ => ?_⟩
    refine (laws_heldInt64S_val b 1 _ w26 ob26.1.rd (by decide) (by simp; omega)).call fun w27 h27 => ⟨_, rfl, h27.keeps, fun hneg => absurd hneg (by omega), fun _ => ?_⟩
    have k27 := k26.trans h27
    have z27 := h27.size
    have ob27 := ob26.ext h27
    exact ⟨fun hne => absurd rfl hne, fun _ => ⟨rfl, k27⟩⟩))
set_option linter.unusedSimpArgs false in
theorem readable : ∀ t ∈ Try.f10.params.toList, Try.prog.readableRec t = true ∧ t < Try.prog.types.size := by
  rw [Try.params10]
  simp only [List.mem_cons, List.not_mem_nil, or_false, forall_eq_or_imp, forall_eq]
  exact ⟨⟨by kernel_rfl, of_decide_eq_true (by kernel_rfl)⟩, ⟨by kernel_rfl, of_decide_eq_true (by kernel_rfl)⟩, ⟨by kernel_rfl, of_decide_eq_true (by kernel_rfl)⟩⟩

set_option maxRecDepth 100000 in
theorem lifted (os : Os) (started : os.Started) (H : Type) (enc : TypeId × Value → H) :
    ReturnsInHanded {} Try.checked os 10 .any (Rows.fnExactThinChambersSpec.pre6 enc Try.prog Try.f10 Rows.fnExactThinChambersRow.domain false) (Rows.fnExactThinChambersSpec.post enc Try.prog Try.f10 false true false false) := by
  refine returnsInHanded_of_change (C := Try.checked) ownKnobNone started (by kernel_rfl) Try.func10
    (ChangeSpec.witness6 (enc := enc) (C := Try.checked) false ⟨#[], #[.agg #[.int .i64 0, .int .i64 0, .int .i64 0, .int .i64 0, .int .i64 0], .agg #[.slice none 0 0], .int .i64 0], []⟩ 8 (by kernel_rfl) (by kernel_rfl) (by kernel_rfl) (by kernel_rfl)) ?_
  intro W base args ds gs before hval0 hW hcnd _
  have hval : ∀ (j : Nat) t v, Try.f10.params[j]? = some t → args[j]? = some v → Value.okWide Try.prog W .any base t v := hval0
  have hW' := hW
  obtain ⟨p, q, hA0, hV, rfl, hfz, hnd⟩ := hW
  have hA1 : DataW.TrodAll enc Try.prog W 0 (fun _ => true) true Try.f10.params.toList args.toList ds p := hA0
  have hA := hA1
  rw [Try.params10] at hA hval
  obtain ⟨v0, vs0, d0, ds0, p0, q0, hargs, rfl, rfl, h0, r0⟩ := trodAll_cons hA
  obtain ⟨v1, vs1, d1, ds1, p1, q1, rfl, rfl, rfl, h1, r1⟩ := trodAll_cons r0
  obtain ⟨v2, vs2, d2, ds2, p2, q2, rfl, rfl, rfl, h2, r2⟩ := trodAll_cons r1
  obtain ⟨rfl, rfl, rfl⟩ := trodAll_nil r2
  obtain rfl : args = #[v0, v1, v2] := by cases args; simp_all
  obtain ⟨rfl, rfl⟩ := trodVars_none hV
  obtain ⟨v0_0, v0_1, v0_2, v0_3, v0_4, y0_0, y0_1, y0_2, y0_3, y0_4, m0, rfl, rfl, rfl, g0_0, g0_1, g0_2, g0_3, g0_4⟩ := open_agg5 Try.underlying23 (by kernel_rfl) (by kernel_rfl) (hval 0 23 v0 rfl rfl) h0
  obtain ⟨a0_0, e0_0, rfl, w0_0⟩ := DataW.trod_int Try.underlying2 g0_0
  simp only [List.cons.injEq, and_true] at e0_0
  subst e0_0
  obtain ⟨a0_1, e0_1, rfl, w0_1⟩ := DataW.trod_int Try.underlying2 g0_1
  simp only [List.cons.injEq, and_true] at e0_1
  subst e0_1
  obtain ⟨a0_2, e0_2, rfl, w0_2⟩ := DataW.trod_int Try.underlying2 g0_2
  simp only [List.cons.injEq, and_true] at e0_2
  subst e0_2
  obtain ⟨a0_3, e0_3, rfl, w0_3⟩ := DataW.trod_int Try.underlying2 g0_3
  simp only [List.cons.injEq, and_true] at e0_3
  subst e0_3
  obtain ⟨a0_4, e0_4, rfl, w0_4⟩ := DataW.trod_int Try.underlying2 g0_4
  simp only [List.cons.injEq, and_true] at e0_4
  subst e0_4
  obtain ⟨x1, z1, rfl, hz1, wz1⟩ := open_lock Try.underlying38 rfl rfl (by kernel_rfl) (by kernel_rfl) Try.underlying36 Try.underlying24 Try.underlying2 (by kernel_rfl) (by kernel_rfl) (hval 1 38 v1 rfl rfl) h1
  obtain ⟨a2, rfl, rfl, rfl, w2⟩ := open_int Try.underlying2 (hval 2 2 v2 rfl rfl) h2
  clear hA0 hval0
  refine (Val.calls (walk a0_0 w0_0 a0_1 w0_1 a0_2 w0_2 a0_3 w0_3 a0_4 w0_4 x1 z1 a2 w2 W hz1 wz1)).mono fun e W' ⟨he, hg⟩ => ?_
  subst he
  exact ⟨_, rfl, law_post laidOut readable hW' hA1 Try.underlying4 rfl rfl rfl hg⟩

theorem proved : Rows.FnExactThinChambersSaid :=
  OpenClaim.holds_of_wide 10 Try.f10 rfl rfl rfl rfl rfl rfl rfl ⟨rfl, rfl, rfl, rfl, rfl⟩ rfl rfl rfl rfl rfl (by kernel_rfl) Try.func10 (by kernel_rfl)
    (of_decide_eq_true (by kernel_rfl)) (by unfold Func.isWrapper; first | (rw [if_pos (by decide +kernel)]; kernel_rfl) | (rw [if_neg (by decide +kernel)]; exact ⟨rfl, rfl⟩))
    (fun os started H enc _ => lifted os started H enc)

end Go.Proofs.Ythcmeplidekndaa.lawThinChambers
