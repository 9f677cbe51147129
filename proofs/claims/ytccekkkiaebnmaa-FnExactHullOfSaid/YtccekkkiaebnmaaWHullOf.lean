/- The law FnExactHullOf: the program's function answers as the reference's, for all arguments. No condition. -/
import Derived.Test.YtccekkkiaebnmaaL04f
set_option linter.unusedVariables false
namespace Go.Proofs
open Go.Sx Go.RowKit
abbrev laws_FnExactHullOf_k0 (Post : Value → World → Prop) (x1149 : Int) (x1150 : Int) (w1260 : World) : Prop :=
  (((x1150 ≠ x1149) → Post (Value.bool false) w1260) ∧ (¬ (x1150 ≠ x1149) → Post (Value.bool true) w1260))
abbrev laws_FnExactHullOf_k1 (w : World) (Post : Value → World → Prop) (x1027 : Int) (x1132 : Value) (w1134 : World) : Prop :=
  Calls Try.prog 65 #[(Value.agg #[x1132]), (Value.int .i64 1)] w1134 (fun e1135 w1136 => ∃ n1137 : Int, e1135 = .returned (Value.int .i64 n1137) ∧ Keeps w.heap.size [68, 28, 28, 28] w1134 w1136 ∧ (((n1137 < (0 : Int)) → Post (Value.bool false) w1136) ∧ (¬ (n1137 < (0 : Int)) → (laws_FnExactHullOf_k0 Post x1027 n1137 w1136))))
abbrev laws_FnExactHullOf_k2 (w : World) (Post : Value → World → Prop) (x675 : Int) (n774 : Int) (x908 : Int) (x1013 : Value) (w1015 : World) : Prop :=
  (((n774 ≠ x675) → Post (Value.bool false) w1015) ∧ (¬ (n774 ≠ x675) → (laws_FnExactHullOf_k1 w Post x908 x1013 w1015)))
abbrev laws_FnExactHullOf_k3 (w : World) (Post : Value → World → Prop) (x673 : Value) (x675 : Int) (x679 : Int) (x753 : Int) (x754 : Int) (x755 : Int) (x756 : Int) (x757 : Int) (x758 : Value) (x759 : Value) (w760 : World) : Prop :=
  Calls Try.prog 58 #[(Value.agg #[(Value.int .i64 x753), (Value.int .i64 x754), (Value.int .i64 x755), (Value.int .i64 x756), (Value.int .i64 x757)])] w760 (fun e761 w762 => ∃ n763 : Int, ∃ n764 : Int, ∃ n765 : Int, ∃ n766 : Int, ∃ n767 : Int, e761 = .returned (Value.agg #[(Value.int .i64 n763), (Value.int .i64 n764), (Value.int .i64 n765), (Value.int .i64 n766), (Value.int .i64 n767)]) ∧ Keeps w.heap.size [68, 28, 28] w760 w762 ∧ Calls Try.prog 59 #[x673] w762 (fun e768 w769 => ∃ u770 : Value, e768 = .returned u770 ∧ Keeps w.heap.size [68, 28, 28] w762 w769 ∧ Calls Try.prog 60 #[(Value.agg #[(Value.int .i64 n763), (Value.int .i64 n764), (Value.int .i64 n765), (Value.int .i64 n766), (Value.int .i64 n767)]), u770] w769 (fun e771 w772 => ∃ u773 : Value, ∃ n774 : Int, e771 = .returned (Value.tuple #[(Value.agg #[u773]), (Value.int .i64 n774)]) ∧ Keeps w.heap.size [68, 28, 28] w769 w772 ∧ ∀ w775 : World, Ext w772 w775 → oneC u773 (∀ w776 : World, BxS w.heap.size 28 w775 w776 → Calls Try.prog 61 #[(Value.agg #[u773]), (Value.agg #[x758])] w776 (fun e777 w778 => ∃ b779 : Bool, e777 = .returned (Value.bool b779) ∧ Keeps w.heap.size [68, 28, 28, 28] w776 w778 ∧ (((!b779) = true → Post (Value.bool false) w778) ∧ ((!b779) = false → (laws_FnExactHullOf_k2 w Post x675 n774 x679 x759 w778))))))))
abbrev laws_FnExactHullOf_k4 (w : World) (Post : Value → World → Prop) (x582 : Value) (x584 : Int) (x588 : Int) (x589 : Int) (x660 : Int) (x661 : Int) (x662 : Int) (x663 : Int) (x664 : Int) (x665 : Value) (x666 : Value) (w667 : World) : Prop :=
  (((x589 ≠ x588) → Post (Value.bool false) w667) ∧ (¬ (x589 ≠ x588) → (laws_FnExactHullOf_k3 w Post x582 x584 x588 x660 x661 x662 x663 x664 x665 x666 w667)))
abbrev laws_FnExactHullOf_k5 (w : World) (Post : Value → World → Prop) (x494 : Value) (x496 : Int) (x563 : Int) (x564 : Int) (x565 : Int) (x566 : Int) (x567 : Int) (x568 : Value) (x569 : Value) (w570 : World) : Prop :=
  Calls Try.prog 64 #[(Value.agg #[x569]), (Value.int .i64 1)] w570 (fun e571 w572 => ∃ n573 : Int, e571 = .returned (Value.int .i64 n573) ∧ Keeps w.heap.size [68, 28, 28] w570 w572 ∧ Calls Try.prog 65 #[(Value.agg #[x569]), (Value.int .i64 1)] w572 (fun e574 w575 => ∃ n576 : Int, e574 = .returned (Value.int .i64 n576) ∧ Keeps w.heap.size [68, 28, 28] w572 w575 ∧ (((n576 < (0 : Int)) → Post (Value.bool false) w575) ∧ (¬ (n576 < (0 : Int)) → (laws_FnExactHullOf_k4 w Post x494 x496 n573 n576 x563 x564 x565 x566 x567 x568 x569 w575)))))
abbrev laws_FnExactHullOf_k6 (w : World) (Post : Value → World → Prop) (x263 : Int) (x265 : Int) (x412 : Value) (x414 : Int) (x481 : Int) (x482 : Int) (x483 : Int) (x484 : Int) (x485 : Int) (x486 : Value) (x487 : Value) (w488 : World) : Prop :=
  (((x265 ≠ x263) → Post (Value.bool false) w488) ∧ (¬ (x265 ≠ x263) → (laws_FnExactHullOf_k5 w Post x412 x414 x481 x482 x483 x484 x485 x486 x487 w488)))
abbrev laws_FnExactHullOf_k7 (w : World) (Post : Value → World → Prop) (x261 : Value) (x263 : Int) (x264 : Value) (x265 : Int) (x318 : Int) (x319 : Int) (x320 : Int) (x321 : Int) (x322 : Int) (x323 : Value) (x324 : Value) (w325 : World) : Prop :=
  Calls Try.prog 63 #[x264, (Value.int .i64 1)] w325 (fun e326 w327 => ∃ n328 : Int, e326 = .returned (Value.int .i64 n328) ∧ Keeps w.heap.size [68, 28, 28] w325 w327 ∧ (((n328 < (0 : Int)) → Post (Value.bool false) w327) ∧ (¬ (n328 < (0 : Int)) → Calls Try.prog 61 #[(Value.agg #[x324]), (Value.agg #[x323])] w327 (fun e404 w405 => ∃ b406 : Bool, e404 = .returned (Value.bool b406) ∧ Keeps w.heap.size [68, 28, 28] w327 w405 ∧ (((!b406) = true → Post (Value.bool false) w405) ∧ ((!b406) = false → (laws_FnExactHullOf_k6 w Post x263 x265 x261 x263 x318 x319 x320 x321 x322 x323 x324 w405)))))))
abbrev laws_FnExactHullOf_k8 (w : World) (Post : Value → World → Prop) (x190 : Value) (x192 : Int) (x193 : Value) (x194 : Int) (x242 : Int) (x243 : Int) (x244 : Int) (x245 : Int) (x246 : Int) (x247 : Value) (x248 : Value) (w249 : World) : Prop :=
  Calls Try.prog 59 #[x190] w249 (fun e250 w251 => ∃ u252 : Value, e250 = .returned u252 ∧ Keeps w.heap.size [68, 28, 28] w249 w251 ∧ Calls Try.prog 62 #[x193, u252] w251 (fun e253 w254 => ∃ b255 : Bool, e253 = .returned (Value.bool b255) ∧ Keeps w.heap.size [68, 28, 28] w251 w254 ∧ (((!b255) = true → Post (Value.bool false) w254) ∧ ((!b255) = false → (laws_FnExactHullOf_k7 w Post x190 x192 x193 x194 x242 x243 x244 x245 x246 x247 x248 w254)))))
abbrev laws_FnExactHullOf_k9 (w : World) (Post : Value → World → Prop) (n35 : Int) (n51 : Int) (x125 : Value) (x127 : Int) (x128 : Value) (x129 : Int) (x177 : Int) (x178 : Int) (x179 : Int) (x180 : Int) (x181 : Int) (x182 : Value) (x183 : Value) (w184 : World) : Prop :=
  (((n51 ≠ n35) → Post (Value.bool false) w184) ∧ (¬ (n51 ≠ n35) → (laws_FnExactHullOf_k8 w Post x125 x127 x128 x129 x177 x178 x179 x180 x181 x182 x183 w184)))
abbrev laws_FnExactHullOf_k10 (w : World) (Post : Value → World → Prop) (x10 : Value) (x16 : Int) (x17 : Int) (x18 : Int) (x19 : Int) (x20 : Int) (w21 : World) : Prop :=
  Calls Try.prog 58 #[(Value.agg #[(Value.int .i64 x16), (Value.int .i64 x17), (Value.int .i64 x18), (Value.int .i64 x19), (Value.int .i64 x20)])] w21 (fun e22 w23 => ∃ n24 : Int, ∃ n25 : Int, ∃ n26 : Int, ∃ n27 : Int, ∃ n28 : Int, e22 = .returned (Value.agg #[(Value.int .i64 n24), (Value.int .i64 n25), (Value.int .i64 n26), (Value.int .i64 n27), (Value.int .i64 n28)]) ∧ Keeps w.heap.size [68] w21 w23 ∧ Calls Try.prog 59 #[x10] w23 (fun e29 w30 => ∃ u31 : Value, e29 = .returned u31 ∧ Keeps w.heap.size [68] w23 w30 ∧ Calls Try.prog 57 #[(Value.agg #[(Value.int .i64 n24), (Value.int .i64 n25), (Value.int .i64 n26), (Value.int .i64 n27), (Value.int .i64 n28)]), u31] w30 (fun e32 w33 => ∃ u34 : Value, ∃ n35 : Int, e32 = .returned (Value.tuple #[(Value.agg #[u34]), (Value.int .i64 n35)]) ∧ Keeps w.heap.size [68] w30 w33 ∧ ∀ w36 : World, Ext w33 w36 → oneC u34 (∀ w37 : World, BxS w.heap.size 28 w36 w37 → Calls Try.prog 59 #[x10] w37 (fun e38 w39 => ∃ u40 : Value, e38 = .returned u40 ∧ Keeps w.heap.size [68, 28] w37 w39 ∧ Calls Try.prog 58 #[(Value.agg #[(Value.int .i64 x16), (Value.int .i64 x17), (Value.int .i64 x18), (Value.int .i64 x19), (Value.int .i64 x20)])] w39 (fun e41 w42 => ∃ n43 : Int, ∃ n44 : Int, ∃ n45 : Int, ∃ n46 : Int, ∃ n47 : Int, e41 = .returned (Value.agg #[(Value.int .i64 n43), (Value.int .i64 n44), (Value.int .i64 n45), (Value.int .i64 n46), (Value.int .i64 n47)]) ∧ Keeps w.heap.size [68, 28] w39 w42 ∧ Calls Try.prog 60 #[(Value.agg #[(Value.int .i64 n43), (Value.int .i64 n44), (Value.int .i64 n45), (Value.int .i64 n46), (Value.int .i64 n47)]), u40] w42 (fun e48 w49 => ∃ u50 : Value, ∃ n51 : Int, e48 = .returned (Value.tuple #[(Value.agg #[u50]), (Value.int .i64 n51)]) ∧ Keeps w.heap.size [68, 28] w42 w49 ∧ ∀ w52 : World, Ext w49 w52 → oneC u50 (∀ w53 : World, BxS w.heap.size 28 w52 w53 → Calls Try.prog 61 #[(Value.agg #[u50]), (Value.agg #[u34])] w53 (fun e54 w55 => ∃ b56 : Bool, e54 = .returned (Value.bool b56) ∧ Keeps w.heap.size [68, 28, 28] w53 w55 ∧ (((!b56) = true → Post (Value.bool false) w55) ∧ ((!b56) = false → (laws_FnExactHullOf_k9 w Post n35 n51 x10 n35 u40 n51 x16 x17 x18 x19 x20 u34 u50 w55))))))))))))
def laws_FnExactHullOf_vc (m_Chambers : Int) (m_Depths : Int) (m_Step : Int) (m_Same : Int) (m_Least : Int) (v0 : Value) (w : World) (Post : Value → World → Prop) : Prop :=
  ∀ w1 : World, Ext w w1 → Calls Try.prog 56 #[v0, (Value.int .i64 1048576)] w1 (fun e2 w3 => ∃ n4 : Int, e2 = .returned (Value.int .i64 n4) ∧ Keeps w.heap.size [68] w1 w3 ∧ (((n4 < (0 : Int)) → Post (Value.bool true) w3) ∧ (¬ (n4 < (0 : Int)) → (laws_FnExactHullOf_k10 w Post v0 m_Chambers m_Depths m_Step m_Same m_Least w3))))
theorem laws_FnExactHullOf_eq (m_Chambers : Int) (m_Depths : Int) (m_Step : Int) (m_Same : Int) (m_Least : Int) (v0 : Value) (w : World) (Post : Value → World → Prop) : denF Try.prog [1000059, 1000060, 9400000, 9600000, 9800000] noAnn 8 [(Value.agg #[(Value.int .i64 m_Chambers), (Value.int .i64 m_Depths), (Value.int .i64 m_Step), (Value.int .i64 m_Same), (Value.int .i64 m_Least)]), v0] w Post = laws_FnExactHullOf_vc m_Chambers m_Depths m_Step m_Same m_Least v0 w Post := by kernel_rfl
set_option maxRecDepth 100000 in
theorem laws_FnExactHullOf_calls (m_Chambers : Int) (m_Depths : Int) (m_Step : Int) (m_Same : Int) (m_Least : Int) (v0 : Value) (w : World) (Post : Value → World → Prop) (hvc : laws_FnExactHullOf_vc m_Chambers m_Depths m_Step m_Same m_Least v0 w Post) : Ret Try.prog 8 #[(Value.agg #[(Value.int .i64 m_Chambers), (Value.int .i64 m_Depths), (Value.int .i64 m_Step), (Value.int .i64 m_Same), (Value.int .i64 m_Least)]), v0] w Post :=
  Ret.of (denF_sound mixed (Eq.mpr (laws_FnExactHullOf_eq m_Chambers m_Depths m_Step m_Same m_Least v0 w Post) hvc))

end Go.Proofs
namespace Go.Proofs.Ytccekkkiaebnmaa.lawHullOf
open Go.Proofs Go.Sx Go.RowKit Go.ChangeShapes Go.WideShapes Go.ChangeAt Go.Joins
theorem walk (c : Int) (_ : (Lit.int .i64 c).wf = true) (d : Int) (_ : (Lit.int .i64 d).wf = true) (s : Int) (_ : (Lit.int .i64 s).wf = true) (m : Int) (_ : (Lit.int .i64 m).wf = true) (l : Int) (_ : (Lit.int .i64 l).wf = true) (v0 : Value) (zv0 : List (List Int)) (w : World) (hv0 : RR w v0 zv0) (_ : ∀ z ∈ zv0, ∀ n ∈ z, (Lit.int .i64 n).wf = true) : Val Try.prog 8 #[mkV c d s m l, v0] w (.bool true) :=
  Ret.val (laws_FnExactHullOf_calls c d s m l v0 w _ (by
    unfold laws_FnExactHullOf_vc
    have hR := hullR_total ⟨c, d, s, m, l⟩ zv0
    intro w1 h1
    have k1 := h1
    have z1 := h1.size
    refine (laws_szInt64SS_ret v0 1048576 zv0 w1 (hv0.ext k1) (by omega) (by omega)).call ?_
    rintro _ w2 ⟨h2, nz0, rfl, hnz0, hsz0⟩
    have k2 := k1.trans h2
    have z2 := h2.size
    refine ⟨nz0, rfl, h2.keeps, fun _ => ⟨rfl, k2⟩, fun hp0 => ?_⟩
    obtain ⟨hlv0, hzv0⟩ := hsz0 (by omega)
    have hl1v0 : zv0.length ≤ 1048576 := by omega
    have hz1v0 : ∀ z ∈ zv0, z.length ≤ 1048576 := fun z hh => by have := hzv0 z hh; omega
    have hTv0 := Nat.le_trans (total_max hz1v0) (Nat.mul_le_mul_right 1048576 hl1v0)
    have hl2v0 : zv0.length ≤ 4398046511104 := by omega
    have hz2v0 : ∀ z ∈ zv0, z.length ≤ 4398046511104 := fun z hh => by have := hz1v0 z hh; omega
    refine (laws_toMaker_val ..).call fun w3 h3 => ⟨_, _, _, _, _, rfl, h3.keeps, ?_⟩
    have k3 := k2.trans h3
    have z3 := h3.size
    refine (laws_toInt64SS_ret v0 zv0 w3 (hv0.ext k3) hl2v0 hz2v0).call ?_
    rintro v0s w4 ⟨qv0s, h4⟩
    refine ⟨v0s, rfl, h4.keeps, ?_⟩
    have k4 := k3.trans h4
    have z4 := h4.size
    have ov0s4 := qv0s.m
    refine (spec_HullOf_ret ⟨c, d, s, m, l⟩ v0s zv0 w4 ov0s4.rr).call ?_
    rintro _ w5 ⟨a, rfl, qa, h5⟩
    refine ⟨a, _, rfl, h5.keeps, ?_⟩
    have k5 := k4.trans h5
    have z5 := h5.size
    have ov0s5 := ov0s4.ext h5
    have oa5 := qa.m
    intro w6 h6
    have k6 := k5.trans h6
    have z6 := h6.size
    have oa6 := oa5.ext h6
    refine oa6.rr.oneC fun w7 b7 => ?_
    have k7 := k6.bxs b7
    have z7 := b7.size
    have oa7 := oa6.bxs b7 (by decide) (by decide)
    refine (laws_toInt64SS_ret v0 zv0 w7 (hv0.ext k7) hl2v0 hz2v0).call ?_
    rintro v0x w8 ⟨qv0x, h8⟩
    refine ⟨v0x, rfl, h8.keeps, ?_⟩
    have k8 := k7.trans h8
    have z8 := h8.size
    have oa8 := oa7.ext h8
    have ov0x8 := qv0x.m
    refine (laws_toMaker_val ..).call fun w9 h9 => ⟨_, _, _, _, _, rfl, h9.keeps, ?_⟩
    have k9 := k8.trans h9
    have z9 := h9.size
    have oa9 := oa8.ext h9
    have ov0x9 := ov0x8.ext h9
    refine (impl_HullOf_ret ⟨c, d, s, m, l⟩ v0x zv0 w9 ov0x9.rr).call ?_
    rintro _ w10 ⟨b, rfl, qb, h10⟩
    refine ⟨b, _, rfl, h10.keeps, ?_⟩
    have k10 := k9.trans h10
    have z10 := h10.size
    have oa10 := oa9.ext h10
    have ov0x10 := ov0x9.ext h10
    have ob10 := qb.m
    intro w11 h11
    have k11 := k10.trans h11
    have z11 := h11.size
    have oa11 := oa10.ext h11
    have ov0x11 := ov0x10.ext h11
    have ob11 := ob10.ext h11
    refine ob11.rr.oneC fun w12 b12 => ?_
    have k12 := k11.bxs b12
    have z12 := b12.size
    have oa12 := oa11.bxs b12 (by decide) (by decide)
    have ov0x12 := ov0x11.bxs b12 (by decide) (by decide)
    have ob12 := ob11.bxs b12 (by decide) (by decide)
    refine (laws_eqLock_val b a _ w12 ob12.rr oa12.rr).call fun w13 h13 => ⟨true, rfl, h13.keeps, fun hh => (by cases hh), fun _ => ?_⟩
    have k13 := k12.trans h13
    have z13 := h13.size
    have oa13 := oa12.ext h13
    have ov0x13 := ov0x12.ext h13
    have ob13 := ob12.ext h13
    refine ⟨fun hne => absurd rfl hne, fun _ => ?_⟩
    refine (laws_toInt64SS_ret v0 zv0 w13 (hv0.ext k13) hl2v0 hz2v0).call ?_
    rintro v0c w14 ⟨qv0c, h14⟩
    refine ⟨v0c, rfl, h14.keeps, ?_⟩
    have k14 := k13.trans h14
    have z14 := h14.size
    have oa14 := oa13.ext h14
    have ov0x14 := ov0x13.ext h14
    have ob14 := ob13.ext h14
    have ov0c14 := qv0c.m
    refine (laws_eqInt64SS_val v0x v0c zv0 w14 ov0x14.rr ov0c14.rr).call fun w15 h15 => ⟨true, rfl, h15.keeps, fun hh => (by cases hh), fun _ => ?_⟩
    have k15 := k14.trans h15
    have z15 := h15.size
    have oa15 := oa14.ext h15
    have ov0x15 := ov0x14.ext h15
    have ob15 := ob14.ext h15
    have ov0c15 := ov0c14.ext h15
    refine (laws_markInt64SS_ret v0x (1) _ _ zv0 w15 ov0x15 (by omega) (by omega)).call ?_
    rintro _ w16 ⟨rfl, _, m16⟩
    refine ⟨_, rfl, m16.2 _ _ (by decide), ?_⟩
    have k16 := m16.ext k15 (by omega)
    have z16 := m16.size
    have oa16 := oa15.rest m16 (by omega)
    have ob16 := ob15.rest m16 (by omega)
    refine ⟨fun hneg => absurd hneg (by omega), fun _ => ?_⟩
    refine (laws_eqLock_val b a _ w16 ob16.rr oa16.rr).call fun w17 h17 => ⟨true, rfl, h17.keeps, fun hh => (by cases hh), fun _ => ?_⟩
    have k17 := k16.trans h17
    have z17 := h17.size
    have oa17 := oa16.ext h17
    have ob17 := ob16.ext h17
    refine ⟨fun hne => absurd rfl hne, fun _ => ?_⟩
    refine (laws_markLock_ret b 1 _ _ _ w17 ob17 (by decide) (by omega)).call ?_
    rintro _ w18 ⟨rfl, mb18, m18⟩
    refine ⟨_, rfl, m18.2 _ _ (by decide), ?_⟩
    have k18 := m18.ext k17 (by omega)
    have z18 := m18.size
    have oa18 := oa17.rest m18 (by omega)
    refine (laws_heldLock_val b 1 _ w18 mb18.rr (by decide) (by omega)).call fun w19 h19 => ⟨_, rfl, h19.keeps, fun hneg => absurd hneg (by omega), fun _ => ?_⟩
    have k19 := k18.trans h19
    have z19 := h19.size
    have oa19 := oa18.ext h19
    have ob19 := mb18.ext h19
    refine ⟨fun hne => absurd rfl hne, fun _ => ?_⟩
    refine (laws_toMaker_val ..).call fun w20 h20 => ⟨_, _, _, _, _, rfl, h20.keeps, ?_⟩
    have k20 := k19.trans h20
    have z20 := h20.size
    have oa20 := oa19.ext h20
    have ob20 := ob19.ext h20
    refine (laws_toInt64SS_ret v0 zv0 w20 (hv0.ext k20) hl2v0 hz2v0).call ?_
    rintro v0h w21 ⟨qv0h, h21⟩
    refine ⟨v0h, rfl, h21.keeps, ?_⟩
    have k21 := k20.trans h21
    have z21 := h21.size
    have oa21 := oa20.ext h21
    have ob21 := ob20.ext h21
    have ov0h21 := qv0h.m
    refine (impl_HullOf_ret ⟨c, d, s, m, l⟩ v0h zv0 w21 ov0h21.rr).call ?_
    rintro _ w22 ⟨e, rfl, qe, h22⟩
    refine ⟨e, _, rfl, h22.keeps, ?_⟩
    have k22 := k21.trans h22
    have z22 := h22.size
    have oa22 := oa21.ext h22
    have ob22 := ob21.ext h22
    have ov0h22 := ov0h21.ext h22
    have oe22 := qe.m
    intro w23 h23
    have k23 := k22.trans h23
    have z23 := h23.size
    have oa23 := oa22.ext h23
    have ob23 := ob22.ext h23
    have oe23 := oe22.ext h23
    refine oe23.rr.oneC fun w24 b24 => ?_
    have k24 := k23.bxs b24
    have z24 := b24.size
    have oa24 := oa23.bxs b24 (by decide) (by decide)
    have ob24 := ob23.bxs b24 (by decide) (by decide)
    have oe24 := oe23.bxs b24 (by decide) (by decide)
    refine (laws_eqLock_val e a _ w24 oe24.rr oa24.rr).call fun w25 h25 => ⟨true, rfl, h25.keeps, fun hh => (by cases hh), fun _ => ?_⟩
    have k25 := k24.trans h25
    have z25 := h25.size
    have oa25 := oa24.ext h25
    have ob25 := ob24.ext h25
    have oe25 := oe24.ext h25
    refine ⟨fun hne => absurd rfl hne, fun _ => ?_⟩
    refine (laws_heldLock_val b 1 _ w25 ob25.rr (by decide) (by omega)).call fun w26 h26 => ⟨_, rfl, h26.keeps, fun hneg => absurd hneg (by omega), fun _ => ?_⟩
    have k26 := k25.trans h26
    have z26 := h26.size
    have ob26 := ob25.ext h26
    exact ⟨fun hne => absurd rfl hne, fun _ => ⟨rfl, k26⟩⟩))
set_option linter.unusedSimpArgs false in
theorem readable : ∀ t ∈ Try.f8.params.toList, Try.prog.readableRec t = true ∧ t < Try.prog.types.size := by
  rw [Try.params8]
  simp only [List.mem_cons, List.not_mem_nil, or_false, forall_eq_or_imp, forall_eq]
  exact ⟨⟨by kernel_rfl, of_decide_eq_true (by kernel_rfl)⟩, ⟨by kernel_rfl, of_decide_eq_true (by kernel_rfl)⟩⟩

set_option maxRecDepth 100000 in
theorem lifted (os : Os) (started : os.Started) (H : Type) (enc : TypeId × Value → H) :
    ReturnsInHanded {} Try.checked os 8 .any (Rows.fnExactHullOfSpec.pre6 enc Try.prog Try.f8 Rows.fnExactHullOfRow.domain false) (Rows.fnExactHullOfSpec.post enc Try.prog Try.f8 false true false false) := by
  refine returnsInHanded_of_change (C := Try.checked) ownKnobNone started (by kernel_rfl) Try.func8
    (ChangeSpec.witness6 (enc := enc) (C := Try.checked) false ⟨#[], #[.agg #[.int .i64 0, .int .i64 0, .int .i64 0, .int .i64 0, .int .i64 0], .slice none 0 0], []⟩ 8 (by kernel_rfl) (by kernel_rfl) (by kernel_rfl) (by kernel_rfl)) ?_
  intro W base args ds gs before hval0 hW hcnd _
  have hval : ∀ (j : Nat) t v, Try.f8.params[j]? = some t → args[j]? = some v → Value.okWide Try.prog W .any base t v := hval0
  have hW' := hW
  obtain ⟨p, q, hA0, hV, rfl, hfz, hnd⟩ := hW
  have hA1 : DataW.TrodAll enc Try.prog W 0 (fun _ => true) true Try.f8.params.toList args.toList ds p := hA0
  have hA := hA1
  rw [Try.params8] at hA hval
  obtain ⟨v0, vs0, d0, ds0, p0, q0, hargs, rfl, rfl, h0, r0⟩ := trodAll_cons hA
  obtain ⟨v1, vs1, d1, ds1, p1, q1, rfl, rfl, rfl, h1, r1⟩ := trodAll_cons r0
  obtain ⟨rfl, rfl, rfl⟩ := trodAll_nil r1
  obtain rfl : args = #[v0, v1] := by cases args; simp_all
  obtain ⟨rfl, rfl⟩ := trodVars_none hV
  obtain ⟨v0_0, v0_1, v0_2, v0_3, v0_4, y0_0, y0_1, y0_2, y0_3, y0_4, m0, rfl, rfl, rfl, g0_0, g0_1, g0_2, g0_3, g0_4⟩ := open_agg5 Try.underlying68 (by kernel_rfl) (by kernel_rfl) (hval 0 68 v0 rfl rfl) h0
  obtain ⟨a0_0, e0_0, rfl, w0_0⟩ := DataW.trod_int Try.underlying2 g0_0
  simp only [List.cons.injEq, and_true] at e0_0
  subst e0_0
  obtain ⟨a0_1, e0_1, rfl, w0_1⟩ := DataW.trod_int Try.underlying2 g0_1
  simp only [List.cons.injEq, and_true] at e0_1
  subst e0_1
  obtain ⟨a0_2, e0_2, rfl, w0_2⟩ := DataW.trod_int Try.underlying2 g0_2
  simp only [List.cons.injEq, and_true] at e0_2
  subst e0_2
  obtain ⟨a0_3, e0_3, rfl, w0_3⟩ := DataW.trod_int Try.underlying2 g0_3
  simp only [List.cons.injEq, and_true] at e0_3
  subst e0_3
  obtain ⟨a0_4, e0_4, rfl, w0_4⟩ := DataW.trod_int Try.underlying2 g0_4
  simp only [List.cons.injEq, and_true] at e0_4
  subst e0_4
  obtain ⟨z1, hz1, wz1⟩ := open_RR Try.underlying26 Try.underlying36 Try.underlying2 (by kernel_rfl) (by kernel_rfl) (hval 1 26 v1 rfl rfl) h1
  clear hA0 hval0
  refine (Val.calls (walk a0_0 w0_0 a0_1 w0_1 a0_2 w0_2 a0_3 w0_3 a0_4 w0_4 v1 z1 W hz1 wz1)).mono fun e W' ⟨he, hg⟩ => ?_
  subst he
  exact ⟨_, rfl, law_post laidOut readable hW' hA1 Try.underlying4 rfl rfl rfl hg⟩

theorem proved : Rows.FnExactHullOfSaid :=
  OpenClaim.holds_of_wide 8 Try.f8 rfl rfl rfl rfl rfl rfl rfl ⟨rfl, rfl, rfl, rfl, rfl⟩ rfl rfl rfl rfl rfl (by kernel_rfl) Try.func8 (by kernel_rfl)
    (of_decide_eq_true (by kernel_rfl)) (by unfold Func.isWrapper; first | (rw [if_pos (by decide +kernel)]; kernel_rfl) | (rw [if_neg (by decide +kernel)]; exact ⟨rfl, rfl⟩))
    (fun os started H enc _ => lifted os started H enc)

end Go.Proofs.Ytccekkkiaebnmaa.lawHullOf
