/- The law FnExactDigitsOf: the program's function answers as the reference's, for all arguments. No condition. -/
import Derived.Test.YteolgidmaklbkaaL14
import Derived.Test.YteolgidmaklbkaaL02f
set_option linter.unusedVariables false
namespace Go.Proofs
open Go.Sx Go.RowKit
abbrev laws_FnExactDigitsOf_k0 (Post : Value → World → Prop) (x717 : Int) (x718 : Int) (w792 : World) : Prop :=
  (((x718 ≠ x717) → Post (Value.bool false) w792) ∧ (¬ (x718 ≠ x717) → Post (Value.bool true) w792))
abbrev laws_FnExactDigitsOf_k1 (w : World) (Post : Value → World → Prop) (x631 : Value) (x634 : Int) (w705 : World) : Prop :=
  Calls Try.prog 20 #[x631, (Value.int .i64 1)] w705 (fun e706 w707 => ∃ n708 : Int, e706 = .returned (Value.int .i64 n708) ∧ Keeps w.heap.size [] w705 w707 ∧ (((n708 < (0 : Int)) → Post (Value.bool false) w707) ∧ (¬ (n708 < (0 : Int)) → (laws_FnExactDigitsOf_k0 Post x634 n708 w707))))
abbrev laws_FnExactDigitsOf_k2 (w : World) (Post : Value → World → Prop) (x398 : Int) (n464 : Int) (x551 : Value) (x554 : Int) (w625 : World) : Prop :=
  (((n464 ≠ x398) → Post (Value.bool false) w625) ∧ (¬ (n464 ≠ x398) → (laws_FnExactDigitsOf_k1 w Post x551 x554 w625)))
abbrev laws_FnExactDigitsOf_k3 (w : World) (Post : Value → World → Prop) (x395 : Int) (x396 : Value) (x397 : Value) (x398 : Int) (x400 : Value) (x403 : Int) (w457 : World) : Prop :=
  Calls Try.prog 16 #[x396] w457 (fun e458 w459 => ∃ u460 : Value, e458 = .returned u460 ∧ Keeps w.heap.size [] w457 w459 ∧ Calls Try.prog 17 #[(Value.int .i64 x395), u460] w459 (fun e461 w462 => ∃ u463 : Value, ∃ n464 : Int, e461 = .returned (Value.tuple #[u463, (Value.int .i64 n464)]) ∧ Keeps w.heap.size [] w459 w462 ∧ Calls Try.prog 18 #[u463, x397] w462 (fun e465 w466 => ∃ b467 : Bool, e465 = .returned (Value.bool b467) ∧ Keeps w.heap.size [] w462 w466 ∧ (((!b467) = true → Post (Value.bool false) w466) ∧ ((!b467) = false → (laws_FnExactDigitsOf_k2 w Post x398 n464 x400 x403 w466))))))
abbrev laws_FnExactDigitsOf_k4 (w : World) (Post : Value → World → Prop) (x334 : Int) (x335 : Value) (x336 : Value) (x337 : Int) (x339 : Value) (x342 : Int) (x343 : Int) (w394 : World) : Prop :=
  (((x343 ≠ x342) → Post (Value.bool false) w394) ∧ (¬ (x343 ≠ x342) → (laws_FnExactDigitsOf_k3 w Post x334 x335 x336 x337 x339 x342 w394)))
abbrev laws_FnExactDigitsOf_k5 (w : World) (Post : Value → World → Prop) (x276 : Int) (x277 : Value) (x278 : Value) (x279 : Int) (x281 : Value) (w327 : World) : Prop :=
  Calls Try.prog 19 #[x281, (Value.int .i64 1)] w327 (fun e328 w329 => ∃ n330 : Int, e328 = .returned (Value.int .i64 n330) ∧ Keeps w.heap.size [] w327 w329 ∧ Calls Try.prog 20 #[x281, (Value.int .i64 1)] w329 (fun e331 w332 => ∃ n333 : Int, e331 = .returned (Value.int .i64 n333) ∧ Keeps w.heap.size [] w329 w332 ∧ (((n333 < (0 : Int)) → Post (Value.bool false) w332) ∧ (¬ (n333 < (0 : Int)) → (laws_FnExactDigitsOf_k4 w Post x276 x277 x278 x279 x281 n330 n333 w332)))))
abbrev laws_FnExactDigitsOf_k6 (w : World) (Post : Value → World → Prop) (x136 : Int) (x139 : Int) (x224 : Int) (x225 : Value) (x226 : Value) (x227 : Int) (x229 : Value) (w275 : World) : Prop :=
  (((x139 ≠ x136) → Post (Value.bool false) w275) ∧ (¬ (x139 ≠ x136) → (laws_FnExactDigitsOf_k5 w Post x224 x225 x226 x227 x229 w275)))
abbrev laws_FnExactDigitsOf_k7 (w : World) (Post : Value → World → Prop) (x133 : Int) (x134 : Value) (x135 : Value) (x136 : Int) (x137 : Value) (x138 : Value) (x139 : Int) (w172 : World) : Prop :=
  Calls Try.prog 19 #[x137, (Value.int .i64 1)] w172 (fun e173 w174 => ∃ n175 : Int, e173 = .returned (Value.int .i64 n175) ∧ Keeps w.heap.size [] w172 w174 ∧ (((n175 < (0 : Int)) → Post (Value.bool false) w174) ∧ (¬ (n175 < (0 : Int)) → Calls Try.prog 18 #[x138, x135] w174 (fun e221 w222 => ∃ b223 : Bool, e221 = .returned (Value.bool b223) ∧ Keeps w.heap.size [] w174 w222 ∧ (((!b223) = true → Post (Value.bool false) w222) ∧ ((!b223) = false → (laws_FnExactDigitsOf_k6 w Post x136 x139 x133 x134 x135 x136 x138 w222)))))))
abbrev laws_FnExactDigitsOf_k8 (w : World) (Post : Value → World → Prop) (x92 : Int) (x93 : Value) (x94 : Value) (x95 : Int) (x96 : Value) (x97 : Value) (x98 : Int) (w126 : World) : Prop :=
  Calls Try.prog 16 #[x93] w126 (fun e127 w128 => ∃ u129 : Value, e127 = .returned u129 ∧ Keeps w.heap.size [] w126 w128 ∧ Calls Try.prog 18 #[x96, u129] w128 (fun e130 w131 => ∃ b132 : Bool, e130 = .returned (Value.bool b132) ∧ Keeps w.heap.size [] w128 w131 ∧ (((!b132) = true → Post (Value.bool false) w131) ∧ ((!b132) = false → (laws_FnExactDigitsOf_k7 w Post x92 x93 x94 x95 x96 x97 x98 w131)))))
abbrev laws_FnExactDigitsOf_k9 (w : World) (Post : Value → World → Prop) (n13 : Int) (n20 : Int) (x57 : Int) (x58 : Value) (x59 : Value) (x60 : Int) (x61 : Value) (x62 : Value) (x63 : Int) (w91 : World) : Prop :=
  (((n20 ≠ n13) → Post (Value.bool false) w91) ∧ (¬ (n20 ≠ n13) → (laws_FnExactDigitsOf_k8 w Post x57 x58 x59 x60 x61 x62 x63 w91)))
abbrev laws_FnExactDigitsOf_k10 (w : World) (Post : Value → World → Prop) (x2 : Int) (x3 : Value) (w6 : World) : Prop :=
  Calls Try.prog 16 #[x3] w6 (fun e7 w8 => ∃ u9 : Value, e7 = .returned u9 ∧ Keeps w.heap.size [] w6 w8 ∧ Calls Try.prog 15 #[(Value.int .i64 x2), u9] w8 (fun e10 w11 => ∃ u12 : Value, ∃ n13 : Int, e10 = .returned (Value.tuple #[u12, (Value.int .i64 n13)]) ∧ Keeps w.heap.size [] w8 w11 ∧ Calls Try.prog 16 #[x3] w11 (fun e14 w15 => ∃ u16 : Value, e14 = .returned u16 ∧ Keeps w.heap.size [] w11 w15 ∧ Calls Try.prog 17 #[(Value.int .i64 x2), u16] w15 (fun e17 w18 => ∃ u19 : Value, ∃ n20 : Int, e17 = .returned (Value.tuple #[u19, (Value.int .i64 n20)]) ∧ Keeps w.heap.size [] w15 w18 ∧ Calls Try.prog 18 #[u19, u12] w18 (fun e21 w22 => ∃ b23 : Bool, e21 = .returned (Value.bool b23) ∧ Keeps w.heap.size [] w18 w22 ∧ (((!b23) = true → Post (Value.bool false) w22) ∧ ((!b23) = false → (laws_FnExactDigitsOf_k9 w Post n13 n20 x2 x3 u12 n13 u16 u19 n20 w22))))))))
def laws_FnExactDigitsOf_vc (n : Int) (v : Value) (w : World) (Post : Value → World → Prop) : Prop :=
  LenV v (fun n1 => ((((1048576 : Int) < n1) → Post (Value.bool true) w) ∧ (¬ ((1048576 : Int) < n1) → (laws_FnExactDigitsOf_k10 w Post n v w))))
theorem laws_FnExactDigitsOf_eq (n : Int) (v : Value) (w : World) (Post : Value → World → Prop) : denF Try.prog [1000016] noAnn 3 [(Value.int .i64 n), v] w Post = laws_FnExactDigitsOf_vc n v w Post := by kernel_rfl
set_option maxRecDepth 100000 in
theorem laws_FnExactDigitsOf_calls (n : Int) (v : Value) (w : World) (Post : Value → World → Prop) (hvc : laws_FnExactDigitsOf_vc n v w Post) : Ret Try.prog 3 #[(Value.int .i64 n), v] w Post :=
  Ret.of (denF_sound mixed (Eq.mpr (laws_FnExactDigitsOf_eq n v w Post) hvc))

end Go.Proofs
namespace Go.Proofs.Yteolgidmaklbkaa.lawDigitsOf
open Go.Proofs Go.Sx Go.RowKit Go.ChangeShapes Go.WideShapes Go.ChangeAt Go.Joins
theorem walk (n : Int) (hn : (Lit.int .i64 n).wf = true) (v : Value) (zv : List Int) (w : World) (hv : RI w v zv) (_ : ∀ z ∈ zv, (Lit.int .i64 z).wf = true) : Val Try.prog 3 #[.int .i64 n, v] w (.bool true) :=
  Ret.val (laws_FnExactDigitsOf_calls n v w _ (by
    unfold laws_FnExactDigitsOf_vc
    have hz := digL_len n zv
    have k1 : Ext w w := .refl w
    refine (hv.ext k1).len ⟨fun h => ⟨rfl, k1⟩, fun hlv => ?_⟩
    refine cp (hv.ext k1) hlv fun vs w2 ovs2 h2 _ => ⟨_, rfl, h2.keeps, ?_⟩
    have k2 := k1.trans h2
    refine (spec_DigitsOf_ret n vs zv w2 ovs2.rd (wf_i64 hn)).call ?_
    rintro _ w3 ⟨a, rfl, oa3, h3⟩
    refine ⟨a, _, rfl, h3.keeps, ?_⟩
    have k3 := k2.trans h3
    have ap_vs_a := Apart.new ovs2 oa3
    have ovs3 := ovs2.ext h3
    have b_a : w.heap.size ≤ w2.heap.size := k2.size
    refine cp (hv.ext k3) hlv fun vx w4 ovx4 h4 _ => ⟨_, rfl, h4.keeps, ?_⟩
    have k4 := k3.trans h4
    have ap_a_vx := Apart.new oa3 ovx4
    have oa4 := oa3.ext h4
    have b_vx : w.heap.size ≤ w3.heap.size := k3.size
    refine (impl_DigitsOf_ret n vx zv w4 ovx4.rd (wf_i64 hn)).call ?_
    rintro _ w5 ⟨b, rfl, ob5, h5⟩
    refine ⟨b, _, rfl, h5.keeps, ?_⟩
    have k5 := k4.trans h5
    have ap_a_b := Apart.new oa4 ob5
    have ap_vx_b := Apart.new ovx4 ob5
    have oa5 := oa4.ext h5
    have ovx5 := ovx4.ext h5
    have b_b : w.heap.size ≤ w4.heap.size := k4.size
    refine eq_same ob5.rd oa5.rd fun w6 h6 => ⟨true, rfl, h6.keeps, fun h => (by cases h), fun _ => ?_⟩
    have k6 := k5.trans h6
    have oa6 := oa5.ext h6
    have ovx6 := ovx5.ext h6
    have ob6 := ob5.ext h6
    refine ⟨fun h => absurd rfl h, fun _ => ?_⟩
    refine cp (hv.ext k6) hlv fun vc w7 ovc7 h7 _ => ⟨_, rfl, h7.keeps, ?_⟩
    have k7 := k6.trans h7
    have ap_a_vc := Apart.new oa6 ovc7
    have ap_vx_vc := Apart.new ovx6 ovc7
    have ap_b_vc := Apart.new ob6 ovc7
    have oa7 := oa6.ext h7
    have ovx7 := ovx6.ext h7
    have ob7 := ob6.ext h7
    refine eq_same ovx7.rd ovc7.rd fun w8 h8 => ⟨true, rfl, h8.keeps, fun h => (by cases h), fun _ => ?_⟩
    have k8 := k7.trans h8
    have oa8 := oa7.ext h8
    have ovx8 := ovx7.ext h8
    have ob8 := ob7.ext h8
    have ovc8 := ovc7.ext h8
    refine (laws_markInt64S_ret vx 1 _ _ w8 ovx8 (by decide) (by simp; omega)).call ?_
    rintro _ w9 ⟨rfl, mvx9, g9⟩
    refine ⟨_, rfl, ovx8.keepsG g9 (by decide), ?_⟩
    have k9 := k8.grown ovx8 b_vx g9
    have oa9 := oa8.grown g9 ap_a_vx
    have ob9 := ob8.grown g9 ap_vx_b.symm
    refine ⟨fun h => absurd h (by omega), fun _ => ?_⟩
    refine eq_same ob9.rd oa9.rd fun w10 h10 => ⟨true, rfl, h10.keeps, fun h => (by cases h), fun _ => ?_⟩
    have k10 := k9.trans h10
    have oa10 := oa9.ext h10
    have ob10 := ob9.ext h10
    refine ⟨fun h => absurd rfl h, fun _ => ?_⟩
    refine (laws_markInt64S_ret b 1 _ _ w10 ob10 (by decide) (by simp; omega)).call ?_
    rintro _ w11 ⟨rfl, mb11, g11⟩
    refine ⟨_, rfl, ob10.keepsG g11 (by decide), ?_⟩
    have k11 := k10.grown ob10 b_b g11
    have oa11 := oa10.grown g11 ap_a_b
    refine (laws_heldInt64S_val b 1 _ w11 mb11.rd (by decide) (by simp; omega)).call fun w12 h12 => ⟨_, rfl, h12.keeps, fun h => absurd h (by omega), fun _ => ⟨fun h => absurd rfl h, fun _ => ?_⟩⟩
    have k12 := k11.trans h12
    have oa12 := oa11.ext h12
    have ob12 := mb11.ext h12
    refine cp (hv.ext k12) hlv fun vh w13 ovh13 h13 _ => ⟨_, rfl, h13.keeps, ?_⟩
    have k13 := k12.trans h13
    have ap_a_vh := Apart.new oa12 ovh13
    have ap_b_vh := Apart.new ob12 ovh13
    have oa13 := oa12.ext h13
    have ob13 := ob12.ext h13
    refine (impl_DigitsOf_ret n vh zv w13 ovh13.rd (wf_i64 hn)).call ?_
    rintro _ w14 ⟨e, rfl, oe14, h14⟩
    refine ⟨e, _, rfl, h14.keeps, ?_⟩
    have k14 := k13.trans h14
    have ap_a_e := Apart.new oa13 oe14
    have ap_b_e := Apart.new ob13 oe14
    have ap_vh_e := Apart.new ovh13 oe14
    have oa14 := oa13.ext h14
    have ob14 := ob13.ext h14
    have ovh14 := ovh13.ext h14
    have b_e : w.heap.size ≤ w13.heap.size := k13.size
    refine eq_same oe14.rd oa14.rd fun w15 h15 => ⟨true, rfl, h15.keeps, fun h => (by cases h), fun _ => ?_⟩
    have k15 := k14.trans h15
    have oa15 := oa14.ext h15
    have ob15 := ob14.ext h15
    have oe15 := oe14.ext h15
    refine ⟨fun h => absurd rfl h, fun _ => ?_⟩
    refine (laws_heldInt64S_val b 1 _ w15 ob15.rd (by decide) (by simp; omega)).call fun w16 h16 => ⟨_, rfl, h16.keeps, fun h => absurd h (by omega), fun _ => ⟨fun h => absurd rfl h, fun _ => ?_⟩⟩
    have k16 := k15.trans h16
    have ob16 := ob15.ext h16
    exact ⟨rfl, k16⟩))
set_option linter.unusedSimpArgs false in
theorem readable : ∀ t ∈ Try.f3.params.toList, Try.prog.readableRec t = true ∧ t < Try.prog.types.size := by
  rw [Try.params3]
  simp only [List.mem_cons, List.not_mem_nil, or_false, forall_eq_or_imp, forall_eq]
  exact ⟨⟨by kernel_rfl, of_decide_eq_true (by kernel_rfl)⟩, ⟨by kernel_rfl, of_decide_eq_true (by kernel_rfl)⟩⟩

set_option maxRecDepth 100000 in
theorem lifted (os : Os) (started : os.Started) (H : Type) (enc : TypeId × Value → H) :
    ReturnsInHanded {} Try.checked os 3 .any (Rows.fnExactDigitsOfSpec.pre6 enc Try.prog Try.f3 Rows.fnExactDigitsOfRow.domain false) (Rows.fnExactDigitsOfSpec.post enc Try.prog Try.f3 false true false false) := by
  refine returnsInHanded_of_change (C := Try.checked) ownKnobNone started (by kernel_rfl) Try.func3
    (ChangeSpec.witness6 (enc := enc) (C := Try.checked) false ⟨#[], #[.int .i64 0, .slice none 0 0], []⟩ 8 (by kernel_rfl) (by kernel_rfl) (by kernel_rfl) (by kernel_rfl)) ?_
  intro W base args ds gs before hval0 hW hcnd _
  have hval : ∀ (j : Nat) t v, Try.f3.params[j]? = some t → args[j]? = some v → Value.okWide Try.prog W .any base t v := hval0
  have hW' := hW
  obtain ⟨p, q, hA0, hV, rfl, hfz, hnd⟩ := hW
  have hA1 : DataW.TrodAll enc Try.prog W 0 (fun _ => true) true Try.f3.params.toList args.toList ds p := hA0
  have hA := hA1
  rw [Try.params3] at hA hval
  obtain ⟨v0, vs0, d0, ds0, p0, q0, hargs, rfl, rfl, h0, r0⟩ := trodAll_cons hA
  obtain ⟨v1, vs1, d1, ds1, p1, q1, rfl, rfl, rfl, h1, r1⟩ := trodAll_cons r0
  obtain ⟨rfl, rfl, rfl⟩ := trodAll_nil r1
  obtain rfl : args = #[v0, v1] := by cases args; simp_all
  obtain ⟨rfl, rfl⟩ := trodVars_none hV
  obtain ⟨a0, rfl, rfl, rfl, w0⟩ := open_int Try.underlying2 (hval 0 2 v0 rfl rfl) h0
  obtain ⟨z1, hz1, wz1⟩ := open_RI Try.underlying22 Try.underlying2 (by kernel_rfl) (hval 1 22 v1 rfl rfl) h1
  clear hA0 hval0
  refine (Val.calls (walk a0 w0 v1 z1 W hz1 wz1)).mono fun e W' ⟨he, hg⟩ => ?_
  subst he
  exact ⟨_, rfl, law_post laidOut readable hW' hA1 Try.underlying4 rfl rfl rfl hg⟩

theorem proved : Rows.FnExactDigitsOfSaid :=
  OpenClaim.holds_of_wide 3 Try.f3 rfl rfl rfl rfl rfl rfl rfl ⟨rfl, rfl, rfl, rfl, rfl⟩ rfl rfl rfl rfl rfl (by kernel_rfl) Try.func3 (by kernel_rfl)
    (of_decide_eq_true (by kernel_rfl)) (by unfold Func.isWrapper; first | (rw [if_pos (by decide +kernel)]; kernel_rfl) | (rw [if_neg (by decide +kernel)]; exact ⟨rfl, rfl⟩))
    (fun os started H enc _ => lifted os started H enc)

end Go.Proofs.Yteolgidmaklbkaa.lawDigitsOf
