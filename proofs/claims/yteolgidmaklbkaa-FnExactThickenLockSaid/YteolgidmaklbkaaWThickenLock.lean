/- The law FnExactThickenLock: the program's function answers as the reference's, for all arguments. No condition. -/
import Derived.Test.YteolgidmaklbkaaL05c
set_option linter.unusedVariables false
namespace Go.Proofs
open Go.Sx Go.RowKit
abbrev laws_FnExactThickenLock_k0 (Post : Value → World → Prop) (x1223 : Int) (x1224 : Int) (w1339 : World) : Prop :=
  (((x1224 ≠ x1223) → Post (Value.bool false) w1339) ∧ (¬ (x1224 ≠ x1223) → Post (Value.bool true) w1339))
abbrev laws_FnExactThickenLock_k1 (w : World) (Post : Value → World → Prop) (x1096 : Int) (x1206 : Value) (w1208 : World) : Prop :=
  Calls Try.prog 51 #[(Value.agg #[x1206]), (Value.int .i64 1)] w1208 (fun e1209 w1210 => ∃ n1211 : Int, e1209 = .returned (Value.int .i64 n1211) ∧ Keeps w.heap.size [48, 51, 53, 53, 53, 53] w1208 w1210 ∧ (((n1211 < (0 : Int)) → Post (Value.bool false) w1210) ∧ (¬ (n1211 < (0 : Int)) → (laws_FnExactThickenLock_k0 Post x1096 n1211 w1210))))
abbrev laws_FnExactThickenLock_k2 (w : World) (Post : Value → World → Prop) (x725 : Int) (n833 : Int) (x972 : Int) (x1082 : Value) (w1084 : World) : Prop :=
  (((n833 ≠ x725) → Post (Value.bool false) w1084) ∧ (¬ (n833 ≠ x725) → (laws_FnExactThickenLock_k1 w Post x972 x1082 w1084)))
abbrev laws_FnExactThickenLock_k3 (w : World) (Post : Value → World → Prop) (x723 : Int) (x725 : Int) (x728 : Int) (x804 : Int) (x805 : Int) (x806 : Int) (x807 : Int) (x808 : Int) (x809 : Value) (x810 : Value) (x812 : Value) (w813 : World) : Prop :=
  ∀ w814 : World, Ext w813 w814 → ∀ w815 : World, Ext w814 w815 → ∀ w816 : World, Ext w815 w816 → ∀ w817 : World, Ext w816 w817 → Calls Try.prog 46 #[(Value.agg #[(Value.int .i64 x804), (Value.int .i64 x805), (Value.int .i64 x806), (Value.int .i64 x807), (Value.int .i64 x808)])] w817 (fun e818 w819 => ∃ n820 : Int, ∃ n821 : Int, ∃ n822 : Int, ∃ n823 : Int, ∃ n824 : Int, e818 = .returned (Value.agg #[(Value.int .i64 n820), (Value.int .i64 n821), (Value.int .i64 n822), (Value.int .i64 n823), (Value.int .i64 n824)]) ∧ Keeps w.heap.size [53, 48, 51, 53, 53, 53] w817 w819 ∧ Ext w816 w819 ∧ ∀ w825 : World, Ext w819 w825 → Calls Try.prog 47 #[(Value.agg #[x809])] w825 (fun e826 w827 => ∃ u828 : Value, e826 = .returned (Value.agg #[u828]) ∧ Keeps w.heap.size [53, 48, 51, 53, 53, 53] w825 w827 ∧ Ext w816 w827 ∧ ∀ w829 : World, Ext w827 w829 → Calls Try.prog 48 #[(Value.agg #[(Value.int .i64 n820), (Value.int .i64 n821), (Value.int .i64 n822), (Value.int .i64 n823), (Value.int .i64 n824)]), (Value.agg #[u828]), (Value.int .i64 x723)] w829 (fun e830 w831 => ∃ u832 : Value, ∃ n833 : Int, e830 = .returned (Value.tuple #[(Value.agg #[u832]), (Value.int .i64 n833)]) ∧ Keeps w.heap.size [53, 48, 51, 53, 53, 53] w829 w831 ∧ Ext w816 w831 ∧ ∀ w834 : World, Ext w831 w834 → oneC u832 (∀ w835 : World, BxS w.heap.size 53 w834 w835 → Calls Try.prog 49 #[(Value.agg #[u832]), (Value.agg #[x810])] w835 (fun e836 w837 => ∃ b838 : Bool, e836 = .returned (Value.bool b838) ∧ Keeps w.heap.size [48, 51, 53, 53, 53, 53] w835 w837 ∧ (((!b838) = true → Post (Value.bool false) w837) ∧ ((!b838) = false → (laws_FnExactThickenLock_k2 w Post x725 n833 x728 x812 w837))))))))
abbrev laws_FnExactThickenLock_k4 (w : World) (Post : Value → World → Prop) (x628 : Int) (x630 : Int) (x633 : Int) (x634 : Int) (x707 : Int) (x708 : Int) (x709 : Int) (x710 : Int) (x711 : Int) (x712 : Value) (x713 : Value) (x715 : Value) (w716 : World) : Prop :=
  (((x634 ≠ x633) → Post (Value.bool false) w716) ∧ (¬ (x634 ≠ x633) → (laws_FnExactThickenLock_k3 w Post x628 x630 x633 x707 x708 x709 x710 x711 x712 x713 x715 w716)))
abbrev laws_FnExactThickenLock_k5 (w : World) (Post : Value → World → Prop) (x536 : Int) (x538 : Int) (x606 : Int) (x607 : Int) (x608 : Int) (x609 : Int) (x610 : Int) (x611 : Value) (x612 : Value) (x614 : Value) (w615 : World) : Prop :=
  Calls Try.prog 50 #[(Value.agg #[x614]), (Value.int .i64 1)] w615 (fun e616 w617 => ∃ n618 : Int, e616 = .returned (Value.int .i64 n618) ∧ Keeps w.heap.size [48, 51, 53, 53, 53] w615 w617 ∧ Calls Try.prog 51 #[(Value.agg #[x614]), (Value.int .i64 1)] w617 (fun e619 w620 => ∃ n621 : Int, e619 = .returned (Value.int .i64 n621) ∧ Keeps w.heap.size [48, 51, 53, 53, 53] w617 w620 ∧ (((n621 < (0 : Int)) → Post (Value.bool false) w620) ∧ (¬ (n621 < (0 : Int)) → (laws_FnExactThickenLock_k4 w Post x536 x538 n618 n621 x606 x607 x608 x609 x610 x611 x612 x614 w620)))))
abbrev laws_FnExactThickenLock_k6 (w : World) (Post : Value → World → Prop) (x293 : Int) (x294 : Int) (x450 : Int) (x452 : Int) (x520 : Int) (x521 : Int) (x522 : Int) (x523 : Int) (x524 : Int) (x525 : Value) (x526 : Value) (x528 : Value) (w529 : World) : Prop :=
  (((x294 ≠ x293) → Post (Value.bool false) w529) ∧ (¬ (x294 ≠ x293) → (laws_FnExactThickenLock_k5 w Post x450 x452 x520 x521 x522 x523 x524 x525 x526 x528 w529)))
abbrev laws_FnExactThickenLock_k7 (w : World) (Post : Value → World → Prop) (x291 : Int) (x293 : Int) (x294 : Int) (x349 : Int) (x350 : Int) (x351 : Int) (x352 : Int) (x353 : Int) (x354 : Value) (x355 : Value) (x356 : Value) (x357 : Value) (w358 : World) : Prop :=
  Calls Try.prog 50 #[(Value.agg #[x356]), (Value.int .i64 1)] w358 (fun e359 w360 => ∃ n361 : Int, e359 = .returned (Value.int .i64 n361) ∧ Keeps w.heap.size [48, 51, 53, 53, 53] w358 w360 ∧ (((n361 < (0 : Int)) → Post (Value.bool false) w360) ∧ (¬ (n361 < (0 : Int)) → Calls Try.prog 49 #[(Value.agg #[x357]), (Value.agg #[x355])] w360 (fun e441 w442 => ∃ b443 : Bool, e441 = .returned (Value.bool b443) ∧ Keeps w.heap.size [48, 51, 53, 53, 53] w360 w442 ∧ (((!b443) = true → Post (Value.bool false) w442) ∧ ((!b443) = false → (laws_FnExactThickenLock_k6 w Post x293 x294 x291 x293 x349 x350 x351 x352 x353 x354 x355 x357 w442)))))))
abbrev laws_FnExactThickenLock_k8 (w : World) (Post : Value → World → Prop) (x215 : Int) (x217 : Int) (x218 : Int) (x268 : Int) (x269 : Int) (x270 : Int) (x271 : Int) (x272 : Int) (x273 : Value) (x274 : Value) (x275 : Value) (x276 : Value) (w277 : World) : Prop :=
  ∀ w278 : World, Ext w277 w278 → Calls Try.prog 47 #[(Value.agg #[x273])] w278 (fun e279 w280 => ∃ u281 : Value, e279 = .returned (Value.agg #[u281]) ∧ Keeps w.heap.size [48, 51, 53, 53, 53] w278 w280 ∧ Keeps w.heap.size [53] w278 w280 ∧ Calls Try.prog 49 #[(Value.agg #[x275]), (Value.agg #[u281])] w280 (fun e282 w283 => ∃ b284 : Bool, e282 = .returned (Value.bool b284) ∧ Keeps w.heap.size [48, 51, 53, 53, 53] w280 w283 ∧ Keeps w.heap.size [53] w278 w283 ∧ (((!b284) = true → Post (Value.bool false) w283) ∧ ((!b284) = false → (laws_FnExactThickenLock_k7 w Post x215 x217 x218 x268 x269 x270 x271 x272 x273 x274 x275 x276 w283)))))
abbrev laws_FnExactThickenLock_k9 (w : World) (Post : Value → World → Prop) (n44 : Int) (n67 : Int) (x146 : Int) (x148 : Int) (x149 : Int) (x199 : Int) (x200 : Int) (x201 : Int) (x202 : Int) (x203 : Int) (x204 : Value) (x205 : Value) (x206 : Value) (x207 : Value) (w208 : World) : Prop :=
  (((n67 ≠ n44) → Post (Value.bool false) w208) ∧ (¬ (n67 ≠ n44) → (laws_FnExactThickenLock_k8 w Post x146 x148 x149 x199 x200 x201 x202 x203 x204 x205 x206 x207 w208)))
abbrev laws_FnExactThickenLock_k10 (w : World) (Post : Value → World → Prop) (x12 : Int) (x18 : Int) (x19 : Int) (x20 : Int) (x21 : Int) (x22 : Int) (x23 : Value) (w24 : World) : Prop :=
  ∀ w25 : World, Ext w24 w25 → ∀ w26 : World, Ext w25 w26 → ∀ w27 : World, Ext w26 w27 → ∀ w28 : World, Ext w27 w28 → Calls Try.prog 46 #[(Value.agg #[(Value.int .i64 x18), (Value.int .i64 x19), (Value.int .i64 x20), (Value.int .i64 x21), (Value.int .i64 x22)])] w28 (fun e29 w30 => ∃ n31 : Int, ∃ n32 : Int, ∃ n33 : Int, ∃ n34 : Int, ∃ n35 : Int, e29 = .returned (Value.agg #[(Value.int .i64 n31), (Value.int .i64 n32), (Value.int .i64 n33), (Value.int .i64 n34), (Value.int .i64 n35)]) ∧ Keeps w.heap.size [53, 48, 51] w28 w30 ∧ Ext w27 w30 ∧ ∀ w36 : World, Ext w30 w36 → Calls Try.prog 47 #[(Value.agg #[x23])] w36 (fun e37 w38 => ∃ u39 : Value, e37 = .returned (Value.agg #[u39]) ∧ Keeps w.heap.size [53, 48, 51] w36 w38 ∧ Ext w27 w38 ∧ ∀ w40 : World, Ext w38 w40 → Calls Try.prog 45 #[(Value.agg #[(Value.int .i64 n31), (Value.int .i64 n32), (Value.int .i64 n33), (Value.int .i64 n34), (Value.int .i64 n35)]), (Value.agg #[u39]), (Value.int .i64 x12)] w40 (fun e41 w42 => ∃ u43 : Value, ∃ n44 : Int, e41 = .returned (Value.tuple #[(Value.agg #[u43]), (Value.int .i64 n44)]) ∧ Keeps w.heap.size [53, 48, 51] w40 w42 ∧ Ext w27 w42 ∧ ∀ w45 : World, Ext w42 w45 → oneC u43 (∀ w46 : World, BxS w.heap.size 53 w45 w46 → Calls Try.prog 47 #[(Value.agg #[x23])] w46 (fun e47 w48 => ∃ u49 : Value, e47 = .returned (Value.agg #[u49]) ∧ Keeps w.heap.size [48, 51, 53] w46 w48 ∧ ∀ w50 : World, Ext w48 w50 → oneC u49 (∀ w51 : World, BxS w.heap.size 53 w50 w51 → ∀ w52 : World, Ext w51 w52 → ∀ w53 : World, Ext w52 w53 → ∀ w54 : World, Ext w53 w54 → ∀ w55 : World, Ext w54 w55 → Calls Try.prog 46 #[(Value.agg #[(Value.int .i64 x18), (Value.int .i64 x19), (Value.int .i64 x20), (Value.int .i64 x21), (Value.int .i64 x22)])] w55 (fun e56 w57 => ∃ n58 : Int, ∃ n59 : Int, ∃ n60 : Int, ∃ n61 : Int, ∃ n62 : Int, e56 = .returned (Value.agg #[(Value.int .i64 n58), (Value.int .i64 n59), (Value.int .i64 n60), (Value.int .i64 n61), (Value.int .i64 n62)]) ∧ Keeps w.heap.size [53, 48, 51, 53, 53] w55 w57 ∧ Ext w54 w57 ∧ ∀ w63 : World, Ext w57 w63 → Calls Try.prog 48 #[(Value.agg #[(Value.int .i64 n58), (Value.int .i64 n59), (Value.int .i64 n60), (Value.int .i64 n61), (Value.int .i64 n62)]), (Value.agg #[u49]), (Value.int .i64 x12)] w63 (fun e64 w65 => ∃ u66 : Value, ∃ n67 : Int, e64 = .returned (Value.tuple #[(Value.agg #[u66]), (Value.int .i64 n67)]) ∧ Keeps w.heap.size [53, 48, 51, 53, 53] w63 w65 ∧ Ext w54 w65 ∧ ∀ w68 : World, Ext w65 w68 → oneC u66 (∀ w69 : World, BxS w.heap.size 53 w68 w69 → Calls Try.prog 49 #[(Value.agg #[u66]), (Value.agg #[u43])] w69 (fun e70 w71 => ∃ b72 : Bool, e70 = .returned (Value.bool b72) ∧ Keeps w.heap.size [48, 51, 53, 53, 53] w69 w71 ∧ (((!b72) = true → Post (Value.bool false) w71) ∧ ((!b72) = false → (laws_FnExactThickenLock_k9 w Post n44 n67 x12 n44 n67 x18 x19 x20 x21 x22 x23 u43 u49 u66 w71)))))))))))))
def laws_FnExactThickenLock_vc (m_Chambers : Int) (m_Depths : Int) (m_Step : Int) (m_Same : Int) (m_Least : Int) (v0_Sets : Value) (n : Int) (w : World) (Post : Value → World → Prop) : Prop :=
  ∀ w1 : World, Ext w w1 → oneC v0_Sets (∀ w2 : World, Ext w1 w2 → Calls Try.prog 44 #[(Value.agg #[v0_Sets]), (Value.int .i64 1048576)] w2 (fun e3 w4 => ∃ n5 : Int, e3 = .returned (Value.int .i64 n5) ∧ Keeps w.heap.size [48, 51] w2 w4 ∧ (((n5 < (0 : Int)) → Post (Value.bool true) w4) ∧ (¬ (n5 < (0 : Int)) → (laws_FnExactThickenLock_k10 w Post n m_Chambers m_Depths m_Step m_Same m_Least v0_Sets w4)))))
theorem laws_FnExactThickenLock_eq (m_Chambers : Int) (m_Depths : Int) (m_Step : Int) (m_Same : Int) (m_Least : Int) (v0_Sets : Value) (n : Int) (w : World) (Post : Value → World → Prop) : denF Try.prog [1000047, 1000048, 9400000, 9600000, 9800000] noAnn 7 [(Value.agg #[(Value.int .i64 m_Chambers), (Value.int .i64 m_Depths), (Value.int .i64 m_Step), (Value.int .i64 m_Same), (Value.int .i64 m_Least)]), (Value.agg #[v0_Sets]), (Value.int .i64 n)] w Post = laws_FnExactThickenLock_vc m_Chambers m_Depths m_Step m_Same m_Least v0_Sets n w Post := by kernel_rfl
set_option maxRecDepth 100000 in
theorem laws_FnExactThickenLock_calls (m_Chambers : Int) (m_Depths : Int) (m_Step : Int) (m_Same : Int) (m_Least : Int) (v0_Sets : Value) (n : Int) (w : World) (Post : Value → World → Prop) (hvc : laws_FnExactThickenLock_vc m_Chambers m_Depths m_Step m_Same m_Least v0_Sets n w Post) : Ret Try.prog 7 #[(Value.agg #[(Value.int .i64 m_Chambers), (Value.int .i64 m_Depths), (Value.int .i64 m_Step), (Value.int .i64 m_Same), (Value.int .i64 m_Least)]), (Value.agg #[v0_Sets]), (Value.int .i64 n)] w Post :=
  Ret.of (denF_sound mixed (Eq.mpr (laws_FnExactThickenLock_eq m_Chambers m_Depths m_Step m_Same m_Least v0_Sets n w Post) hvc))

end Go.Proofs
namespace Go.Proofs.Yteolgidmaklbkaa.lawThickenLock
open Go.Proofs Go.Sx Go.RowKit Go.ChangeShapes Go.WideShapes Go.ChangeAt Go.Joins
theorem walk (c : Int) (_ : (Lit.int .i64 c).wf = true) (d : Int) (_ : (Lit.int .i64 d).wf = true) (s : Int) (_ : (Lit.int .i64 s).wf = true) (m : Int) (_ : (Lit.int .i64 m).wf = true) (l : Int) (_ : (Lit.int .i64 l).wf = true) (v0 : Value) (zv0 : List (List Int)) (n : Int) (hn : (Lit.int .i64 n).wf = true) (w : World) (hv0 : RR w v0 zv0) (_ : ∀ z ∈ zv0, ∀ n ∈ z, (Lit.int .i64 n).wf = true) : Val Try.prog 7 #[mkV c d s m l, lkV v0, .int .i64 n] w (.bool true) :=
  Ret.val (laws_FnExactThickenLock_calls c d s m l v0 n w _ (by
    unfold laws_FnExactThickenLock_vc
    have hR := thickR_total ⟨c, d, s, m, l⟩ zv0 n
    intro w1 h1
    have k1 := h1
    have z1 := h1.size
    refine hv0.oneC fun w2 h2 => ?_
    have k2 := k1.trans h2
    have z2 := h2.size
    refine (laws_szLock_ret v0 1048576 zv0 w2 (hv0.ext k2) (by omega) (by omega)).call ?_
    rintro _ w3 ⟨h3, nz0, rfl, hnz0, hsz0⟩
    have k3 := k2.trans h3
    have z3 := h3.size
    refine ⟨nz0, rfl, h3.keeps, fun _ => ⟨rfl, k3⟩, fun hp0 => ?_⟩
    obtain ⟨hlv0, hzv0⟩ := hsz0 (by omega)
    have hl1v0 : zv0.length ≤ 1048576 := by omega
    have hz1v0 : ∀ z ∈ zv0, z.length ≤ 1048576 := fun z hh => by have := hzv0 z hh; omega
    have hTv0 := Nat.le_trans (total_max hz1v0) (Nat.mul_le_mul_right 1048576 hl1v0)
    have hl2v0 : zv0.length ≤ 4398046511104 := by omega
    have hz2v0 : ∀ z ∈ zv0, z.length ≤ 4398046511104 := fun z hh => by have := hz1v0 z hh; omega
    intro w4 h4
    have k4 := k3.trans h4
    have z4 := h4.size
    intro w5 h5
    have k5 := k4.trans h5
    have z5 := h5.size
    intro w6 h6
    have k6 := k5.trans h6
    have z6 := h6.size
    intro w7 h7
    have k7 := k6.trans h7
    have z7 := h7.size
    have x7 := h7
    refine (laws_toMaker_val ..).call fun w8 h8 => ⟨_, _, _, _, _, rfl, h8.keeps, (x7.trans h8), ?_⟩
    have k8 := k7.trans h8
    have z8 := h8.size
    have x8 := x7.trans h8
    intro w9 h9
    have k9 := k8.trans h9
    have z9 := h9.size
    have x9 := x8.trans h9
    refine (laws_toLock_ret v0 zv0 w9 (hv0.ext k9) hl2v0 hz2v0).call ?_
    rintro _ w10 ⟨v0s, rfl, qv0s, h10⟩
    refine ⟨v0s, rfl, h10.keeps, (x9.trans h10), ?_⟩
    have k10 := k9.trans h10
    have z10 := h10.size
    have x10 := x9.trans h10
    have ov0s10 := qv0s.m
    intro w11 h11
    have k11 := k10.trans h11
    have z11 := h11.size
    have ov0s11 := ov0s10.ext h11
    have x11 := x10.trans h11
    refine (spec_ThickenLock_ret ⟨c, d, s, m, l⟩ v0s zv0 n w11 ov0s11.rr).call ?_
    rintro _ w12 ⟨a, rfl, qa, h12⟩
    refine ⟨a, _, rfl, h12.keeps, (x11.trans h12), ?_⟩
    have k12 := k11.trans h12
    have z12 := h12.size
    have ov0s12 := ov0s11.ext h12
    have x12 := x11.trans h12
    have oa12 := qa.m
    intro w13 h13
    have k13 := k12.trans h13
    have z13 := h13.size
    have oa13 := oa12.ext h13
    refine oa13.rr.oneC fun w14 b14 => ?_
    have k14 := k13.bxs b14
    have z14 := b14.size
    have oa14 := oa13.bxs b14 (by decide) (by decide)
    refine (laws_toLock_ret v0 zv0 w14 (hv0.ext k14) hl2v0 hz2v0).call ?_
    rintro _ w15 ⟨v0x, rfl, qv0x, h15⟩
    refine ⟨v0x, rfl, h15.keeps, ?_⟩
    have k15 := k14.trans h15
    have z15 := h15.size
    have oa15 := oa14.ext h15
    have ov0x15 := qv0x.m
    intro w16 h16
    have k16 := k15.trans h16
    have z16 := h16.size
    have oa16 := oa15.ext h16
    have ov0x16 := ov0x15.ext h16
    refine ov0x16.rr.oneC fun w17 b17 => ?_
    have k17 := k16.bxs b17
    have z17 := b17.size
    have oa17 := oa16.bxs b17 (by decide) (by decide)
    have ov0x17 := ov0x16.bxs b17 (by decide) (by decide)
    intro w18 h18
    have k18 := k17.trans h18
    have z18 := h18.size
    have oa18 := oa17.ext h18
    have ov0x18 := ov0x17.ext h18
    intro w19 h19
    have k19 := k18.trans h19
    have z19 := h19.size
    have oa19 := oa18.ext h19
    have ov0x19 := ov0x18.ext h19
    intro w20 h20
    have k20 := k19.trans h20
    have z20 := h20.size
    have oa20 := oa19.ext h20
    have ov0x20 := ov0x19.ext h20
    intro w21 h21
    have k21 := k20.trans h21
    have z21 := h21.size
    have oa21 := oa20.ext h21
    have ov0x21 := ov0x20.ext h21
    have x21 := h21
    refine (laws_toMaker_val ..).call fun w22 h22 => ⟨_, _, _, _, _, rfl, h22.keeps, (x21.trans h22), ?_⟩
    have k22 := k21.trans h22
    have z22 := h22.size
    have oa22 := oa21.ext h22
    have ov0x22 := ov0x21.ext h22
    have x22 := x21.trans h22
    intro w23 h23
    have k23 := k22.trans h23
    have z23 := h23.size
    have oa23 := oa22.ext h23
    have ov0x23 := ov0x22.ext h23
    have x23 := x22.trans h23
    refine (impl_ThickenLock_ret ⟨c, d, s, m, l⟩ v0x zv0 n w23 ov0x23.rr).call ?_
    rintro _ w24 ⟨b, rfl, qb, h24⟩
    refine ⟨b, _, rfl, h24.keeps, (x23.trans h24), ?_⟩
    have k24 := k23.trans h24
    have z24 := h24.size
    have oa24 := oa23.ext h24
    have ov0x24 := ov0x23.ext h24
    have x24 := x23.trans h24
    have ob24 := qb.m
    intro w25 h25
    have k25 := k24.trans h25
    have z25 := h25.size
    have oa25 := oa24.ext h25
    have ov0x25 := ov0x24.ext h25
    have ob25 := ob24.ext h25
    refine ob25.rr.oneC fun w26 b26 => ?_
    have k26 := k25.bxs b26
    have z26 := b26.size
    have oa26 := oa25.bxs b26 (by decide) (by decide)
    have ov0x26 := ov0x25.bxs b26 (by decide) (by decide)
    have ob26 := ob25.bxs b26 (by decide) (by decide)
    refine (laws_eqLock_val b a _ w26 ob26.rr oa26.rr).call fun w27 h27 => ⟨true, rfl, h27.keeps, fun hh => (by cases hh), fun _ => ?_⟩
    have k27 := k26.trans h27
    have z27 := h27.size
    have oa27 := oa26.ext h27
    have ov0x27 := ov0x26.ext h27
    have ob27 := ob26.ext h27
    refine ⟨fun hne => absurd rfl hne, fun _ => ?_⟩
    intro w28 h28
    have k28 := k27.trans h28
    have z28 := h28.size
    have oa28 := oa27.ext h28
    have ov0x28 := ov0x27.ext h28
    have ob28 := ob27.ext h28
    refine (laws_toLock_ret v0 zv0 w28 (hv0.ext k28) hl2v0 hz2v0).call ?_
    rintro _ w29 ⟨v0c, rfl, qv0c, h29⟩
    refine ⟨v0c, rfl, h29.keeps, h29.keeps, ?_⟩
    have k29 := k28.trans h29
    have z29 := h29.size
    have oa29 := oa28.ext h29
    have ov0x29 := ov0x28.ext h29
    have ob29 := ob28.ext h29
    have x29 := h29
    have ov0c29 := qv0c.m
    refine (laws_eqLock_val v0x v0c zv0 w29 ov0x29.rr ov0c29.rr).call fun w30 h30 => ⟨true, rfl, h30.keeps, (x29.trans h30).keeps, fun hh => (by cases hh), fun _ => ?_⟩
    have k30 := k29.trans h30
    have z30 := h30.size
    have oa30 := oa29.ext h30
    have ov0x30 := ov0x29.ext h30
    have ob30 := ob29.ext h30
    have ov0c30 := ov0c29.ext h30
    have x30 := x29.trans h30
    refine (laws_markLock_ret v0x (1) _ _ zv0 w30 ov0x30 (by omega) (by omega)).call ?_
    rintro _ w31 ⟨rfl, _, m31⟩
    refine ⟨_, rfl, m31.2 _ _ (by decide), ?_⟩
    have k31 := m31.ext k30 (by omega)
    have z31 := m31.size
    have oa31 := oa30.rest m31 (by omega)
    have ob31 := ob30.rest m31 (by omega)
    refine ⟨fun hneg => absurd hneg (by omega), fun _ => ?_⟩
    refine (laws_eqLock_val b a _ w31 ob31.rr oa31.rr).call fun w32 h32 => ⟨true, rfl, h32.keeps, fun hh => (by cases hh), fun _ => ?_⟩
    have k32 := k31.trans h32
    have z32 := h32.size
    have oa32 := oa31.ext h32
    have ob32 := ob31.ext h32
    refine ⟨fun hne => absurd rfl hne, fun _ => ?_⟩
    refine (laws_markLock_ret b 1 _ _ _ w32 ob32 (by decide) (by omega)).call ?_
    rintro _ w33 ⟨rfl, mb33, m33⟩
    refine ⟨_, rfl, m33.2 _ _ (by decide), ?_⟩
    have k33 := m33.ext k32 (by omega)
    have z33 := m33.size
    have oa33 := oa32.rest m33 (by omega)
    refine (laws_heldLock_val b 1 _ w33 mb33.rr (by decide) (by omega)).call fun w34 h34 => ⟨_, rfl, h34.keeps, fun hneg => absurd hneg (by omega), fun _ => ?_⟩
    have k34 := k33.trans h34
    have z34 := h34.size
    have oa34 := oa33.ext h34
    have ob34 := mb33.ext h34
    refine ⟨fun hne => absurd rfl hne, fun _ => ?_⟩
    intro w35 h35
    have k35 := k34.trans h35
    have z35 := h35.size
    have oa35 := oa34.ext h35
    have ob35 := ob34.ext h35
    intro w36 h36
    have k36 := k35.trans h36
    have z36 := h36.size
    have oa36 := oa35.ext h36
    have ob36 := ob35.ext h36
    intro w37 h37
    have k37 := k36.trans h37
    have z37 := h37.size
    have oa37 := oa36.ext h37
    have ob37 := ob36.ext h37
    intro w38 h38
    have k38 := k37.trans h38
    have z38 := h38.size
    have oa38 := oa37.ext h38
    have ob38 := ob37.ext h38
    have x38 := h38
    refine (laws_toMaker_val ..).call fun w39 h39 => ⟨_, _, _, _, _, rfl, h39.keeps, (x38.trans h39), ?_⟩
    have k39 := k38.trans h39
    have z39 := h39.size
    have oa39 := oa38.ext h39
    have ob39 := ob38.ext h39
    have x39 := x38.trans h39
    intro w40 h40
    have k40 := k39.trans h40
    have z40 := h40.size
    have oa40 := oa39.ext h40
    have ob40 := ob39.ext h40
    have x40 := x39.trans h40
    refine (laws_toLock_ret v0 zv0 w40 (hv0.ext k40) hl2v0 hz2v0).call ?_
    rintro _ w41 ⟨v0h, rfl, qv0h, h41⟩
    refine ⟨v0h, rfl, h41.keeps, (x40.trans h41), ?_⟩
    have k41 := k40.trans h41
    have z41 := h41.size
    have oa41 := oa40.ext h41
    have ob41 := ob40.ext h41
    have x41 := x40.trans h41
    have ov0h41 := qv0h.m
    intro w42 h42
    have k42 := k41.trans h42
    have z42 := h42.size
    have oa42 := oa41.ext h42
    have ob42 := ob41.ext h42
    have ov0h42 := ov0h41.ext h42
    have x42 := x41.trans h42
    refine (impl_ThickenLock_ret ⟨c, d, s, m, l⟩ v0h zv0 n w42 ov0h42.rr).call ?_
    rintro _ w43 ⟨e, rfl, qe, h43⟩
    refine ⟨e, _, rfl, h43.keeps, (x42.trans h43), ?_⟩
    have k43 := k42.trans h43
    have z43 := h43.size
    have oa43 := oa42.ext h43
    have ob43 := ob42.ext h43
    have ov0h43 := ov0h42.ext h43
    have x43 := x42.trans h43
    have oe43 := qe.m
    intro w44 h44
    have k44 := k43.trans h44
    have z44 := h44.size
    have oa44 := oa43.ext h44
    have ob44 := ob43.ext h44
    have oe44 := oe43.ext h44
    refine oe44.rr.oneC fun w45 b45 => ?_
    have k45 := k44.bxs b45
    have z45 := b45.size
    have oa45 := oa44.bxs b45 (by decide) (by decide)
    have ob45 := ob44.bxs b45 (by decide) (by decide)
    have oe45 := oe44.bxs b45 (by decide) (by decide)
    refine (laws_eqLock_val e a _ w45 oe45.rr oa45.rr).call fun w46 h46 => ⟨true, rfl, h46.keeps, fun hh => (by cases hh), fun _ => ?_⟩
    have k46 := k45.trans h46
    have z46 := h46.size
    have oa46 := oa45.ext h46
    have ob46 := ob45.ext h46
    have oe46 := oe45.ext h46
    refine ⟨fun hne => absurd rfl hne, fun _ => ?_⟩
    refine (laws_heldLock_val b 1 _ w46 ob46.rr (by decide) (by omega)).call fun w47 h47 => ⟨_, rfl, h47.keeps, fun hneg => absurd hneg (by omega), fun _ => ?_⟩
    have k47 := k46.trans h47
    have z47 := h47.size
    have ob47 := ob46.ext h47
    exact ⟨fun hne => absurd rfl hne, fun _ => ⟨rfl, k47⟩⟩))
set_option linter.unusedSimpArgs false in
theorem readable : ∀ t ∈ Try.f7.params.toList, Try.prog.readableRec t = true ∧ t < Try.prog.types.size := by
  rw [Try.params7]
  simp only [List.mem_cons, List.not_mem_nil, or_false, forall_eq_or_imp, forall_eq]
  exact ⟨⟨by kernel_rfl, of_decide_eq_true (by kernel_rfl)⟩, ⟨by kernel_rfl, of_decide_eq_true (by kernel_rfl)⟩, ⟨by kernel_rfl, of_decide_eq_true (by kernel_rfl)⟩⟩

set_option maxRecDepth 100000 in
theorem lifted (os : Os) (started : os.Started) (H : Type) (enc : TypeId × Value → H) :
    ReturnsInHanded {} Try.checked os 7 .any (Rows.fnExactThickenLockSpec.pre6 enc Try.prog Try.f7 Rows.fnExactThickenLockRow.domain false) (Rows.fnExactThickenLockSpec.post enc Try.prog Try.f7 false true false false) := by
  refine returnsInHanded_of_change (C := Try.checked) ownKnobNone started (by kernel_rfl) Try.func7
    (ChangeSpec.witness6 (enc := enc) (C := Try.checked) false ⟨#[], #[.agg #[.int .i64 0, .int .i64 0, .int .i64 0, .int .i64 0, .int .i64 0], .agg #[.slice none 0 0], .int .i64 0], []⟩ 8 (by kernel_rfl) (by kernel_rfl) (by kernel_rfl) (by kernel_rfl)) ?_
  intro W base args ds gs before hval0 hW hcnd _
  have hval : ∀ (j : Nat) t v, Try.f7.params[j]? = some t → args[j]? = some v → Value.okWide Try.prog W .any base t v := hval0
  have hW' := hW
  obtain ⟨p, q, hA0, hV, rfl, hfz, hnd⟩ := hW
  have hA1 : DataW.TrodAll enc Try.prog W 0 (fun _ => true) true Try.f7.params.toList args.toList ds p := hA0
  have hA := hA1
  rw [Try.params7] at hA hval
  obtain ⟨v0, vs0, d0, ds0, p0, q0, hargs, rfl, rfl, h0, r0⟩ := trodAll_cons hA
  obtain ⟨v1, vs1, d1, ds1, p1, q1, rfl, rfl, rfl, h1, r1⟩ := trodAll_cons r0
  obtain ⟨v2, vs2, d2, ds2, p2, q2, rfl, rfl, rfl, h2, r2⟩ := trodAll_cons r1
  obtain ⟨rfl, rfl, rfl⟩ := trodAll_nil r2
  obtain rfl : args = #[v0, v1, v2] := by cases args; simp_all
  obtain ⟨rfl, rfl⟩ := trodVars_none hV
  obtain ⟨v0_0, v0_1, v0_2, v0_3, v0_4, y0_0, y0_1, y0_2, y0_3, y0_4, m0, rfl, rfl, rfl, g0_0, g0_1, g0_2, g0_3, g0_4⟩ := open_agg5 Try.underlying48 (by kernel_rfl) (by kernel_rfl) (hval 0 48 v0 rfl rfl) h0
  obtain ⟨a0_0, e0_0, rfl, w0_0⟩ := DataW.trod_int Try.underlying2 g0_0
  simp only [List.cons.injEq, and_true] at e0_0
  subst e0_0
  obtain ⟨a0_1, e0_1, rfl, w0_1⟩ := DataW.trod_int Try.underlying2 g0_1
  simp only [List.cons.injEq, and_true] at e0_1
  subst e0_1
  obtain ⟨a0_2, e0_2, rfl, w0_2⟩ := DataW.trod_int Try.underlying2 g0_2
  simp only [List.cons.injEq, and_true] at e0_2
  subst e0_2
  obtain ⟨a0_3, e0_3, rfl, w0_3⟩ := DataW.trod_int Try.underlying2 g0_3
  simp only [List.cons.injEq, and_true] at e0_3
  subst e0_3
  obtain ⟨a0_4, e0_4, rfl, w0_4⟩ := DataW.trod_int Try.underlying2 g0_4
  simp only [List.cons.injEq, and_true] at e0_4
  subst e0_4
  obtain ⟨x1, z1, rfl, hz1, wz1⟩ := open_lock Try.underlying51 rfl rfl (by kernel_rfl) (by kernel_rfl) Try.underlying49 Try.underlying22 Try.underlying2 (by kernel_rfl) (by kernel_rfl) (hval 1 51 v1 rfl rfl) h1
  obtain ⟨a2, rfl, rfl, rfl, w2⟩ := open_int Try.underlying2 (hval 2 2 v2 rfl rfl) h2
  clear hA0 hval0
  refine (Val.calls (walk a0_0 w0_0 a0_1 w0_1 a0_2 w0_2 a0_3 w0_3 a0_4 w0_4 x1 z1 a2 w2 W hz1 wz1)).mono fun e W' ⟨he, hg⟩ => ?_
  subst he
  exact ⟨_, rfl, law_post laidOut readable hW' hA1 Try.underlying4 rfl rfl rfl hg⟩

theorem proved : Rows.FnExactThickenLockSaid :=
  OpenClaim.holds_of_wide 7 Try.f7 rfl rfl rfl rfl rfl rfl rfl ⟨rfl, rfl, rfl, rfl, rfl⟩ rfl rfl rfl rfl rfl (by kernel_rfl) Try.func7 (by kernel_rfl)
    (of_decide_eq_true (by kernel_rfl)) (by unfold Func.isWrapper; first | (rw [if_pos (by decide +kernel)]; kernel_rfl) | (rw [if_neg (by decide +kernel)]; exact ⟨rfl, rfl⟩))
    (fun os started H enc _ => lifted os started H enc)

end Go.Proofs.Yteolgidmaklbkaa.lawThickenLock
