/- The law FnExactReverseKey: the program's function answers as the reference's, for all arguments. No condition. -/
import Derived.Test.YthcmeplidekndaaL03r
set_option linter.unusedVariables false
namespace Go.Proofs
open Go.Sx Go.RowKit
abbrev laws_FnExactReverseKey_k0 (Post : Value → World → Prop) (x1103 : Int) (x1104 : Int) (w1210 : World) : Prop :=
  (((x1104 ≠ x1103) → Post (Value.bool false) w1210) ∧ (¬ (x1104 ≠ x1103) → Post (Value.bool true) w1210))
abbrev laws_FnExactReverseKey_k1 (w : World) (Post : Value → World → Prop) (x981 : Value) (x984 : Int) (w1087 : World) : Prop :=
  Calls Try.prog 23 #[x981, (Value.int .i64 1)] w1087 (fun e1088 w1089 => ∃ n1090 : Int, e1088 = .returned (Value.int .i64 n1090) ∧ Keeps w.heap.size [23] w1087 w1089 ∧ (((n1090 < (0 : Int)) → Post (Value.bool false) w1089) ∧ (¬ (n1090 < (0 : Int)) → (laws_FnExactReverseKey_k0 Post x984 n1090 w1089))))
abbrev laws_FnExactReverseKey_k2 (w : World) (Post : Value → World → Prop) (x642 : Int) (n738 : Int) (x865 : Value) (x868 : Int) (w971 : World) : Prop :=
  (((n738 ≠ x642) → Post (Value.bool false) w971) ∧ (¬ (n738 ≠ x642) → (laws_FnExactReverseKey_k1 w Post x865 x868 w971)))
abbrev laws_FnExactReverseKey_k3 (w : World) (Post : Value → World → Prop) (x640 : Value) (x641 : Value) (x642 : Int) (x644 : Value) (x647 : Int) (x719 : Int) (x720 : Int) (x721 : Int) (x722 : Int) (x723 : Int) (w724 : World) : Prop :=
  Calls Try.prog 16 #[(Value.agg #[(Value.int .i64 x719), (Value.int .i64 x720), (Value.int .i64 x721), (Value.int .i64 x722), (Value.int .i64 x723)])] w724 (fun e725 w726 => ∃ n727 : Int, ∃ n728 : Int, ∃ n729 : Int, ∃ n730 : Int, ∃ n731 : Int, e725 = .returned (Value.agg #[(Value.int .i64 n727), (Value.int .i64 n728), (Value.int .i64 n729), (Value.int .i64 n730), (Value.int .i64 n731)]) ∧ Keeps w.heap.size [23] w724 w726 ∧ Calls Try.prog 17 #[x640] w726 (fun e732 w733 => ∃ u734 : Value, e732 = .returned u734 ∧ Keeps w.heap.size [23] w726 w733 ∧ Calls Try.prog 36 #[(Value.agg #[(Value.int .i64 n727), (Value.int .i64 n728), (Value.int .i64 n729), (Value.int .i64 n730), (Value.int .i64 n731)]), u734] w733 (fun e735 w736 => ∃ u737 : Value, ∃ n738 : Int, e735 = .returned (Value.tuple #[u737, (Value.int .i64 n738)]) ∧ Keeps w.heap.size [23] w733 w736 ∧ Calls Try.prog 19 #[u737, x641] w736 (fun e739 w740 => ∃ b741 : Bool, e739 = .returned (Value.bool b741) ∧ Keeps w.heap.size [23] w736 w740 ∧ (((!b741) = true → Post (Value.bool false) w740) ∧ ((!b741) = false → (laws_FnExactReverseKey_k2 w Post x642 n738 x644 x647 w740)))))))
abbrev laws_FnExactReverseKey_k4 (w : World) (Post : Value → World → Prop) (x552 : Value) (x553 : Value) (x554 : Int) (x556 : Value) (x559 : Int) (x560 : Int) (x629 : Int) (x630 : Int) (x631 : Int) (x632 : Int) (x633 : Int) (w634 : World) : Prop :=
  (((x560 ≠ x559) → Post (Value.bool false) w634) ∧ (¬ (x560 ≠ x559) → (laws_FnExactReverseKey_k3 w Post x552 x553 x554 x556 x559 x629 x630 x631 x632 x633 w634)))
abbrev laws_FnExactReverseKey_k5 (w : World) (Post : Value → World → Prop) (x467 : Value) (x468 : Value) (x469 : Int) (x471 : Value) (x535 : Int) (x536 : Int) (x537 : Int) (x538 : Int) (x539 : Int) (w540 : World) : Prop :=
  Calls Try.prog 22 #[x471, (Value.int .i64 1)] w540 (fun e541 w542 => ∃ n543 : Int, e541 = .returned (Value.int .i64 n543) ∧ Keeps w.heap.size [23] w540 w542 ∧ Calls Try.prog 23 #[x471, (Value.int .i64 1)] w542 (fun e544 w545 => ∃ n546 : Int, e544 = .returned (Value.int .i64 n546) ∧ Keeps w.heap.size [23] w542 w545 ∧ (((n546 < (0 : Int)) → Post (Value.bool false) w545) ∧ (¬ (n546 < (0 : Int)) → (laws_FnExactReverseKey_k4 w Post x467 x468 x469 x471 n543 n546 x535 x536 x537 x538 x539 w545)))))
abbrev laws_FnExactReverseKey_k6 (w : World) (Post : Value → World → Prop) (x245 : Int) (x248 : Int) (x388 : Value) (x389 : Value) (x390 : Int) (x392 : Value) (x456 : Int) (x457 : Int) (x458 : Int) (x459 : Int) (x460 : Int) (w461 : World) : Prop :=
  (((x248 ≠ x245) → Post (Value.bool false) w461) ∧ (¬ (x248 ≠ x245) → (laws_FnExactReverseKey_k5 w Post x388 x389 x390 x392 x456 x457 x458 x459 x460 w461)))
abbrev laws_FnExactReverseKey_k7 (w : World) (Post : Value → World → Prop) (x243 : Value) (x244 : Value) (x245 : Int) (x246 : Value) (x247 : Value) (x248 : Int) (x299 : Int) (x300 : Int) (x301 : Int) (x302 : Int) (x303 : Int) (w304 : World) : Prop :=
  Calls Try.prog 22 #[x246, (Value.int .i64 1)] w304 (fun e305 w306 => ∃ n307 : Int, e305 = .returned (Value.int .i64 n307) ∧ Keeps w.heap.size [23] w304 w306 ∧ (((n307 < (0 : Int)) → Post (Value.bool false) w306) ∧ (¬ (n307 < (0 : Int)) → Calls Try.prog 19 #[x247, x244] w306 (fun e380 w381 => ∃ b382 : Bool, e380 = .returned (Value.bool b382) ∧ Keeps w.heap.size [23] w306 w381 ∧ (((!b382) = true → Post (Value.bool false) w381) ∧ ((!b382) = false → (laws_FnExactReverseKey_k6 w Post x245 x248 x243 x244 x245 x247 x299 x300 x301 x302 x303 w381)))))))
abbrev laws_FnExactReverseKey_k8 (w : World) (Post : Value → World → Prop) (x175 : Value) (x176 : Value) (x177 : Int) (x178 : Value) (x179 : Value) (x180 : Int) (x226 : Int) (x227 : Int) (x228 : Int) (x229 : Int) (x230 : Int) (w231 : World) : Prop :=
  Calls Try.prog 17 #[x175] w231 (fun e232 w233 => ∃ u234 : Value, e232 = .returned u234 ∧ Keeps w.heap.size [23] w231 w233 ∧ Calls Try.prog 19 #[x178, u234] w233 (fun e235 w236 => ∃ b237 : Bool, e235 = .returned (Value.bool b237) ∧ Keeps w.heap.size [23] w233 w236 ∧ (((!b237) = true → Post (Value.bool false) w236) ∧ ((!b237) = false → (laws_FnExactReverseKey_k7 w Post x175 x176 x177 x178 x179 x180 x226 x227 x228 x229 x230 w236)))))
abbrev laws_FnExactReverseKey_k9 (w : World) (Post : Value → World → Prop) (n30 : Int) (n44 : Int) (x113 : Value) (x114 : Value) (x115 : Int) (x116 : Value) (x117 : Value) (x118 : Int) (x164 : Int) (x165 : Int) (x166 : Int) (x167 : Int) (x168 : Int) (w169 : World) : Prop :=
  (((n44 ≠ n30) → Post (Value.bool false) w169) ∧ (¬ (n44 ≠ n30) → (laws_FnExactReverseKey_k8 w Post x113 x114 x115 x116 x117 x118 x164 x165 x166 x167 x168 w169)))
abbrev laws_FnExactReverseKey_k10 (w : World) (Post : Value → World → Prop) (x8 : Value) (x11 : Int) (x12 : Int) (x13 : Int) (x14 : Int) (x15 : Int) (w16 : World) : Prop :=
  Calls Try.prog 16 #[(Value.agg #[(Value.int .i64 x11), (Value.int .i64 x12), (Value.int .i64 x13), (Value.int .i64 x14), (Value.int .i64 x15)])] w16 (fun e17 w18 => ∃ n19 : Int, ∃ n20 : Int, ∃ n21 : Int, ∃ n22 : Int, ∃ n23 : Int, e17 = .returned (Value.agg #[(Value.int .i64 n19), (Value.int .i64 n20), (Value.int .i64 n21), (Value.int .i64 n22), (Value.int .i64 n23)]) ∧ Keeps w.heap.size [23] w16 w18 ∧ Calls Try.prog 17 #[x8] w18 (fun e24 w25 => ∃ u26 : Value, e24 = .returned u26 ∧ Keeps w.heap.size [23] w18 w25 ∧ Calls Try.prog 35 #[(Value.agg #[(Value.int .i64 n19), (Value.int .i64 n20), (Value.int .i64 n21), (Value.int .i64 n22), (Value.int .i64 n23)]), u26] w25 (fun e27 w28 => ∃ u29 : Value, ∃ n30 : Int, e27 = .returned (Value.tuple #[u29, (Value.int .i64 n30)]) ∧ Keeps w.heap.size [23] w25 w28 ∧ Calls Try.prog 17 #[x8] w28 (fun e31 w32 => ∃ u33 : Value, e31 = .returned u33 ∧ Keeps w.heap.size [23] w28 w32 ∧ Calls Try.prog 16 #[(Value.agg #[(Value.int .i64 x11), (Value.int .i64 x12), (Value.int .i64 x13), (Value.int .i64 x14), (Value.int .i64 x15)])] w32 (fun e34 w35 => ∃ n36 : Int, ∃ n37 : Int, ∃ n38 : Int, ∃ n39 : Int, ∃ n40 : Int, e34 = .returned (Value.agg #[(Value.int .i64 n36), (Value.int .i64 n37), (Value.int .i64 n38), (Value.int .i64 n39), (Value.int .i64 n40)]) ∧ Keeps w.heap.size [23] w32 w35 ∧ Calls Try.prog 36 #[(Value.agg #[(Value.int .i64 n36), (Value.int .i64 n37), (Value.int .i64 n38), (Value.int .i64 n39), (Value.int .i64 n40)]), u33] w35 (fun e41 w42 => ∃ u43 : Value, ∃ n44 : Int, e41 = .returned (Value.tuple #[u43, (Value.int .i64 n44)]) ∧ Keeps w.heap.size [23] w35 w42 ∧ Calls Try.prog 19 #[u43, u29] w42 (fun e45 w46 => ∃ b47 : Bool, e45 = .returned (Value.bool b47) ∧ Keeps w.heap.size [23] w42 w46 ∧ (((!b47) = true → Post (Value.bool false) w46) ∧ ((!b47) = false → (laws_FnExactReverseKey_k9 w Post n30 n44 x8 u29 n30 u33 u43 n44 x11 x12 x13 x14 x15 w46))))))))))
def laws_FnExactReverseKey_vc (m_Chambers : Int) (m_Depths : Int) (m_Step : Int) (m_Same : Int) (m_Least : Int) (v : Value) (w : World) (Post : Value → World → Prop) : Prop :=
  ∀ w1 : World, Ext w w1 → LenV v (fun n2 => ((((1048576 : Int) < n2) → Post (Value.bool true) w1) ∧ (¬ ((1048576 : Int) < n2) → (laws_FnExactReverseKey_k10 w Post v m_Chambers m_Depths m_Step m_Same m_Least w1))))
theorem laws_FnExactReverseKey_eq (m_Chambers : Int) (m_Depths : Int) (m_Step : Int) (m_Same : Int) (m_Least : Int) (v : Value) (w : World) (Post : Value → World → Prop) : denF Try.prog [1000017] noAnn 7 [(Value.agg #[(Value.int .i64 m_Chambers), (Value.int .i64 m_Depths), (Value.int .i64 m_Step), (Value.int .i64 m_Same), (Value.int .i64 m_Least)]), v] w Post = laws_FnExactReverseKey_vc m_Chambers m_Depths m_Step m_Same m_Least v w Post := by kernel_rfl
set_option maxRecDepth 100000 in
theorem laws_FnExactReverseKey_calls (m_Chambers : Int) (m_Depths : Int) (m_Step : Int) (m_Same : Int) (m_Least : Int) (v : Value) (w : World) (Post : Value → World → Prop) (hvc : laws_FnExactReverseKey_vc m_Chambers m_Depths m_Step m_Same m_Least v w Post) : Ret Try.prog 7 #[(Value.agg #[(Value.int .i64 m_Chambers), (Value.int .i64 m_Depths), (Value.int .i64 m_Step), (Value.int .i64 m_Same), (Value.int .i64 m_Least)]), v] w Post :=
  Ret.of (denF_sound mixed (Eq.mpr (laws_FnExactReverseKey_eq m_Chambers m_Depths m_Step m_Same m_Least v w Post) hvc))

end Go.Proofs
namespace Go.Proofs.Ythcmeplidekndaa.lawReverseKey
open Go.Proofs Go.Sx Go.RowKit Go.ChangeShapes Go.WideShapes Go.ChangeAt Go.Joins
theorem walk (c : Int) (_ : (Lit.int .i64 c).wf = true) (d : Int) (_ : (Lit.int .i64 d).wf = true) (s : Int) (_ : (Lit.int .i64 s).wf = true) (m : Int) (_ : (Lit.int .i64 m).wf = true) (l : Int) (_ : (Lit.int .i64 l).wf = true) (v : Value) (zv : List Int) (w : World) (hv : RI w v zv) (_ : ∀ z ∈ zv, (Lit.int .i64 z).wf = true) : Val Try.prog 7 #[mkV c d s m l, v] w (.bool true) :=
  Ret.val (laws_FnExactReverseKey_calls c d s m l v w _ (by
    unfold laws_FnExactReverseKey_vc
    have hz := revR_len ⟨c, d, s, m, l⟩ zv
    intro w1 k1
    refine (hv.ext k1).len ⟨fun h => ⟨rfl, k1⟩, fun hlv => ?_⟩
    refine (laws_toMaker_val ..).call fun w2 h2 => ⟨_, _, _, _, _, rfl, h2.keeps, ?_⟩
    have k2 := k1.trans h2
    refine cp (hv.ext k2) hlv fun vs w3 ovs3 h3 _ => ⟨_, rfl, h3.keeps, ?_⟩
    have k3 := k2.trans h3
    refine (spec_ReverseKey_ret ⟨c, d, s, m, l⟩ vs zv w3 ovs3.rd).call ?_
    rintro _ w4 ⟨a, rfl, oa4, h4⟩
    refine ⟨a, _, rfl, h4.keeps, ?_⟩
    have k4 := k3.trans h4
    have ap_vs_a := Apart.new ovs3 oa4
    have ovs4 := ovs3.ext h4
    have b_a : w.heap.size ≤ w3.heap.size := k3.size
    refine cp (hv.ext k4) hlv fun vx w5 ovx5 h5 _ => ⟨_, rfl, h5.keeps, ?_⟩
    have k5 := k4.trans h5
    have ap_a_vx := Apart.new oa4 ovx5
    have oa5 := oa4.ext h5
    have b_vx : w.heap.size ≤ w4.heap.size := k4.size
    refine (laws_toMaker_val ..).call fun w6 h6 => ⟨_, _, _, _, _, rfl, h6.keeps, ?_⟩
    have k6 := k5.trans h6
    have oa6 := oa5.ext h6
    have ovx6 := ovx5.ext h6
    refine (impl_ReverseKey_ret ⟨c, d, s, m, l⟩ vx zv w6 ovx6.rd).call ?_
    rintro _ w7 ⟨b, rfl, ob7, h7⟩
    refine ⟨b, _, rfl, h7.keeps, ?_⟩
    have k7 := k6.trans h7
    have ap_a_b := Apart.new oa6 ob7
    have ap_vx_b := Apart.new ovx6 ob7
    have oa7 := oa6.ext h7
    have ovx7 := ovx6.ext h7
    have b_b : w.heap.size ≤ w6.heap.size := k6.size
    refine eq_same ob7.rd oa7.rd fun w8 h8 => ⟨true, rfl, h8.keeps, fun h => (by cases h), fun _ => ?_⟩
    have k8 := k7.trans h8
    have oa8 := oa7.ext h8
    have ovx8 := ovx7.ext h8
    have ob8 := ob7.ext h8
    refine ⟨fun h => absurd rfl h, fun _ => ?_⟩
    refine cp (hv.ext k8) hlv fun vc w9 ovc9 h9 _ => ⟨_, rfl, h9.keeps, ?_⟩
    have k9 := k8.trans h9
    have ap_a_vc := Apart.new oa8 ovc9
    have ap_vx_vc := Apart.new ovx8 ovc9
    have ap_b_vc := Apart.new ob8 ovc9
    have oa9 := oa8.ext h9
    have ovx9 := ovx8.ext h9
    have ob9 := ob8.ext h9
    refine eq_same ovx9.rd ovc9.rd fun w10 h10 => ⟨true, rfl, h10.keeps, fun h => (by cases h), fun _ => ?_⟩
    have k10 := k9.trans h10
    have oa10 := oa9.ext h10
    have ovx10 := ovx9.ext h10
    have ob10 := ob9.ext h10
    have ovc10 := ovc9.ext h10
    refine (laws_markInt64S_ret vx 1 _ _ w10 ovx10 (by decide) (by simp; omega)).call ?_
    rintro _ w11 ⟨rfl, mvx11, g11⟩
    refine ⟨_, rfl, ovx10.keepsG g11 (by decide), ?_⟩
    have k11 := k10.grown ovx10 b_vx g11
    have oa11 := oa10.grown g11 ap_a_vx
    have ob11 := ob10.grown g11 ap_vx_b.symm
    refine ⟨fun h => absurd h (by omega), fun _ => ?_⟩
    refine eq_same ob11.rd oa11.rd fun w12 h12 => ⟨true, rfl, h12.keeps, fun h => (by cases h), fun _ => ?_⟩
    have k12 := k11.trans h12
    have oa12 := oa11.ext h12
    have ob12 := ob11.ext h12
    refine ⟨fun h => absurd rfl h, fun _ => ?_⟩
    refine (laws_markInt64S_ret b 1 _ _ w12 ob12 (by decide) (by simp; omega)).call ?_
    rintro _ w13 ⟨rfl, mb13, g13⟩
    refine ⟨_, rfl, ob12.keepsG g13 (by decide), ?_⟩
    have k13 := k12.grown ob12 b_b g13
    have oa13 := oa12.grown g13 ap_a_b
    refine (laws_heldInt64S_val b 1 _ w13 mb13.rd (by decide) (by simp; omega)).call fun w14 h14 => ⟨_, rfl, h14.keeps, fun h => absurd h (by omega), fun _ => ⟨fun h => absurd rfl h, fun _ => ?_⟩⟩
    have k14 := k13.trans h14
    have oa14 := oa13.ext h14
    have ob14 := mb13.ext h14
    refine (laws_toMaker_val ..).call fun w15 h15 => ⟨_, _, _, _, _, rfl, h15.keeps, ?_⟩
    have k15 := k14.trans h15
    have oa15 := oa14.ext h15
    have ob15 := ob14.ext h15
    refine cp (hv.ext k15) hlv fun vh w16 ovh16 h16 _ => ⟨_, rfl, h16.keeps, ?_⟩
    have k16 := k15.trans h16
    have ap_a_vh := Apart.new oa15 ovh16
    have ap_b_vh := Apart.new ob15 ovh16
    have oa16 := oa15.ext h16
    have ob16 := ob15.ext h16
    refine (impl_ReverseKey_ret ⟨c, d, s, m, l⟩ vh zv w16 ovh16.rd).call ?_
    rintro _ w17 ⟨e, rfl, oe17, h17⟩
    refine ⟨e, _, rfl, h17.keeps, ?_⟩
    have k17 := k16.trans h17
    have ap_a_e := Apart.new oa16 oe17
    have ap_b_e := Apart.new ob16 oe17
    have ap_vh_e := Apart.new ovh16 oe17
    have oa17 := oa16.ext h17
    have ob17 := ob16.ext h17
    have ovh17 := ovh16.ext h17
    have b_e : w.heap.size ≤ w16.heap.size := k16.size
    refine eq_same oe17.rd oa17.rd fun w18 h18 => ⟨true, rfl, h18.keeps, fun h => (by cases h), fun _ => ?_⟩
    have k18 := k17.trans h18
    have oa18 := oa17.ext h18
    have ob18 := ob17.ext h18
    have oe18 := oe17.ext h18
    refine ⟨fun h => absurd rfl h, fun _ => ?_⟩
    refine (laws_heldInt64S_val b 1 _ w18 ob18.rd (by decide) (by simp; omega)).call fun w19 h19 => ⟨_, rfl, h19.keeps, fun h => absurd h (by omega), fun _ => ⟨fun h => absurd rfl h, fun _ => ?_⟩⟩
    have k19 := k18.trans h19
    have ob19 := ob18.ext h19
    exact ⟨rfl, k19⟩))
set_option linter.unusedSimpArgs false in
theorem readable : ∀ t ∈ Try.f7.params.toList, Try.prog.readableRec t = true ∧ t < Try.prog.types.size := by
  rw [Try.params7]
  simp only [List.mem_cons, List.not_mem_nil, or_false, forall_eq_or_imp, forall_eq]
  exact ⟨⟨by kernel_rfl, of_decide_eq_true (by kernel_rfl)⟩, ⟨by kernel_rfl, of_decide_eq_true (by kernel_rfl)⟩⟩

set_option maxRecDepth 100000 in
theorem lifted (os : Os) (started : os.Started) (H : Type) (enc : TypeId × Value → H) :
    ReturnsInHanded {} Try.checked os 7 .any (Rows.fnExactReverseKeySpec.pre6 enc Try.prog Try.f7 Rows.fnExactReverseKeyRow.domain false) (Rows.fnExactReverseKeySpec.post enc Try.prog Try.f7 false true false false) := by
  refine returnsInHanded_of_change (C := Try.checked) ownKnobNone started (by kernel_rfl) Try.func7
    (ChangeSpec.witness6 (enc := enc) (C := Try.checked) false ⟨#[], #[.agg #[.int .i64 0, .int .i64 0, .int .i64 0, .int .i64 0, .int .i64 0], .slice none 0 0], []⟩ 8 (by kernel_rfl) (by kernel_rfl) (by kernel_rfl) (by kernel_rfl)) ?_
  intro W base args ds gs before hval0 hW hcnd _
  have hval : ∀ (j : Nat) t v, Try.f7.params[j]? = some t → args[j]? = some v → Value.okWide Try.prog W .any base t v := hval0
  have hW' := hW
  obtain ⟨p, q, hA0, hV, rfl, hfz, hnd⟩ := hW
  have hA1 : DataW.TrodAll enc Try.prog W 0 (fun _ => true) true Try.f7.params.toList args.toList ds p := hA0
  have hA := hA1
  rw [Try.params7] at hA hval
  obtain ⟨v0, vs0, d0, ds0, p0, q0, hargs, rfl, rfl, h0, r0⟩ := trodAll_cons hA
  obtain ⟨v1, vs1, d1, ds1, p1, q1, rfl, rfl, rfl, h1, r1⟩ := trodAll_cons r0
  obtain ⟨rfl, rfl, rfl⟩ := trodAll_nil r1
  obtain rfl : args = #[v0, v1] := by cases args; simp_all
  obtain ⟨rfl, rfl⟩ := trodVars_none hV
  obtain ⟨v0_0, v0_1, v0_2, v0_3, v0_4, y0_0, y0_1, y0_2, y0_3, y0_4, m0, rfl, rfl, rfl, g0_0, g0_1, g0_2, g0_3, g0_4⟩ := open_agg5 Try.underlying23 (by kernel_rfl) (by kernel_rfl) (hval 0 23 v0 rfl rfl) h0
  obtain ⟨a0_0, e0_0, rfl, w0_0⟩ := DataW.trod_int Try.underlying2 g0_0
  simp only [List.cons.injEq, and_true] at e0_0
  subst e0_0
  obtain ⟨a0_1, e0_1, rfl, w0_1⟩ := DataW.trod_int Try.underlying2 g0_1
  simp only [List.cons.injEq, and_true] at e0_1
  subst e0_1
  obtain ⟨a0_2, e0_2, rfl, w0_2⟩ := DataW.trod_int Try.underlying2 g0_2
  simp only [List.cons.injEq, and_true] at e0_2
  subst e0_2
  obtain ⟨a0_3, e0_3, rfl, w0_3⟩ := DataW.trod_int Try.underlying2 g0_3
  simp only [List.cons.injEq, and_true] at e0_3
  subst e0_3
  obtain ⟨a0_4, e0_4, rfl, w0_4⟩ := DataW.trod_int Try.underlying2 g0_4
  simp only [List.cons.injEq, and_true] at e0_4
  subst e0_4
  obtain ⟨z1, hz1, wz1⟩ := open_RI Try.underlying24 Try.underlying2 (by kernel_rfl) (hval 1 24 v1 rfl rfl) h1
  clear hA0 hval0
  refine (Val.calls (walk a0_0 w0_0 a0_1 w0_1 a0_2 w0_2 a0_3 w0_3 a0_4 w0_4 v1 z1 W hz1 wz1)).mono fun e W' ⟨he, hg⟩ => ?_
  subst he
  exact ⟨_, rfl, law_post laidOut readable hW' hA1 Try.underlying4 rfl rfl rfl hg⟩

theorem proved : Rows.FnExactReverseKeySaid :=
  OpenClaim.holds_of_wide 7 Try.f7 rfl rfl rfl rfl rfl rfl rfl ⟨rfl, rfl, rfl, rfl, rfl⟩ rfl rfl rfl rfl rfl (by kernel_rfl) Try.func7 (by kernel_rfl)
    (of_decide_eq_true (by kernel_rfl)) (by unfold Func.isWrapper; first | (rw [if_pos (by decide +kernel)]; kernel_rfl) | (rw [if_neg (by decide +kernel)]; exact ⟨rfl, rfl⟩))
    (fun os started H enc _ => lifted os started H enc)

end Go.Proofs.Ythcmeplidekndaa.lawReverseKey
