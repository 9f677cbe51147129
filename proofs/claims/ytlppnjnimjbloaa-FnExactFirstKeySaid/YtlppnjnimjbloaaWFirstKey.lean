/- The law FnExactFirstKey: the program's function answers as the reference's, for all arguments. No condition. -/
import Derived.Test.YtlppnjnimjbloaaL02d
set_option linter.unusedVariables false
namespace Go.Proofs
open Go.Sx Go.RowKit
abbrev laws_FnExactFirstKey_k0 (Post : Value → World → Prop) (x604 : Int) (x605 : Int) (w686 : World) : Prop :=
  (((x605 ≠ x604) → Post (Value.bool false) w686) ∧ (¬ (x605 ≠ x604) → Post (Value.bool true) w686))
abbrev laws_FnExactFirstKey_k1 (w : World) (Post : Value → World → Prop) (x511 : Value) (x513 : Int) (w591 : World) : Prop :=
  Calls Try.prog 40 #[x511, (Value.int .i64 1)] w591 (fun e592 w593 => ∃ n594 : Int, e592 = .returned (Value.int .i64 n594) ∧ Keeps w.heap.size [23] w591 w593 ∧ (((n594 < (0 : Int)) → Post (Value.bool false) w593) ∧ (¬ (n594 < (0 : Int)) → (laws_FnExactFirstKey_k0 Post x513 n594 w593))))
abbrev laws_FnExactFirstKey_k2 (w : World) (Post : Value → World → Prop) (x258 : Int) (n326 : Int) (x423 : Value) (x425 : Int) (w503 : World) : Prop :=
  (((n326 ≠ x258) → Post (Value.bool false) w503) ∧ (¬ (n326 ≠ x258) → (laws_FnExactFirstKey_k1 w Post x423 x425 w503)))
abbrev laws_FnExactFirstKey_k3 (w : World) (Post : Value → World → Prop) (x257 : Value) (x258 : Int) (x259 : Value) (x261 : Int) (x310 : Int) (x311 : Int) (x312 : Int) (x313 : Int) (x314 : Int) (w315 : World) : Prop :=
  Calls Try.prog 14 #[(Value.agg #[(Value.int .i64 x310), (Value.int .i64 x311), (Value.int .i64 x312), (Value.int .i64 x313), (Value.int .i64 x314)])] w315 (fun e316 w317 => ∃ n318 : Int, ∃ n319 : Int, ∃ n320 : Int, ∃ n321 : Int, ∃ n322 : Int, e316 = .returned (Value.agg #[(Value.int .i64 n318), (Value.int .i64 n319), (Value.int .i64 n320), (Value.int .i64 n321), (Value.int .i64 n322)]) ∧ Keeps w.heap.size [23] w315 w317 ∧ Calls Try.prog 38 #[(Value.agg #[(Value.int .i64 n318), (Value.int .i64 n319), (Value.int .i64 n320), (Value.int .i64 n321), (Value.int .i64 n322)])] w317 (fun e323 w324 => ∃ u325 : Value, ∃ n326 : Int, e323 = .returned (Value.tuple #[u325, (Value.int .i64 n326)]) ∧ Keeps w.heap.size [23] w317 w324 ∧ Calls Try.prog 19 #[u325, x257] w324 (fun e327 w328 => ∃ b329 : Bool, e327 = .returned (Value.bool b329) ∧ Keeps w.heap.size [23] w324 w328 ∧ (((!b329) = true → Post (Value.bool false) w328) ∧ ((!b329) = false → (laws_FnExactFirstKey_k2 w Post x258 n326 x259 x261 w328))))))
abbrev laws_FnExactFirstKey_k4 (w : World) (Post : Value → World → Prop) (x195 : Value) (x196 : Int) (x197 : Value) (x199 : Int) (x200 : Int) (x246 : Int) (x247 : Int) (x248 : Int) (x249 : Int) (x250 : Int) (w251 : World) : Prop :=
  (((x200 ≠ x199) → Post (Value.bool false) w251) ∧ (¬ (x200 ≠ x199) → (laws_FnExactFirstKey_k3 w Post x195 x196 x197 x199 x246 x247 x248 x249 x250 w251)))
abbrev laws_FnExactFirstKey_k5 (w : World) (Post : Value → World → Prop) (x136 : Value) (x137 : Int) (x138 : Value) (x178 : Int) (x179 : Int) (x180 : Int) (x181 : Int) (x182 : Int) (w183 : World) : Prop :=
  Calls Try.prog 39 #[x138, (Value.int .i64 1)] w183 (fun e184 w185 => ∃ n186 : Int, e184 = .returned (Value.int .i64 n186) ∧ Keeps w.heap.size [23] w183 w185 ∧ Calls Try.prog 40 #[x138, (Value.int .i64 1)] w185 (fun e187 w188 => ∃ n189 : Int, e187 = .returned (Value.int .i64 n189) ∧ Keeps w.heap.size [23] w185 w188 ∧ (((n189 < (0 : Int)) → Post (Value.bool false) w188) ∧ (¬ (n189 < (0 : Int)) → (laws_FnExactFirstKey_k4 w Post x136 x137 x138 n186 n189 x178 x179 x180 x181 x182 w188)))))
abbrev laws_FnExactFirstKey_k6 (w : World) (Post : Value → World → Prop) (n12 : Int) (n23 : Int) (x83 : Value) (x84 : Int) (x85 : Value) (x125 : Int) (x126 : Int) (x127 : Int) (x128 : Int) (x129 : Int) (w130 : World) : Prop :=
  (((n23 ≠ n12) → Post (Value.bool false) w130) ∧ (¬ (n23 ≠ n12) → (laws_FnExactFirstKey_k5 w Post x83 x84 x85 x125 x126 x127 x128 x129 w130)))
def laws_FnExactFirstKey_vc (m_Chambers : Int) (m_Depths : Int) (m_Step : Int) (m_Same : Int) (m_Least : Int) (w : World) (Post : Value → World → Prop) : Prop :=
  ∀ w1 : World, Ext w w1 → Calls Try.prog 14 #[(Value.agg #[(Value.int .i64 m_Chambers), (Value.int .i64 m_Depths), (Value.int .i64 m_Step), (Value.int .i64 m_Same), (Value.int .i64 m_Least)])] w1 (fun e2 w3 => ∃ n4 : Int, ∃ n5 : Int, ∃ n6 : Int, ∃ n7 : Int, ∃ n8 : Int, e2 = .returned (Value.agg #[(Value.int .i64 n4), (Value.int .i64 n5), (Value.int .i64 n6), (Value.int .i64 n7), (Value.int .i64 n8)]) ∧ Keeps w.heap.size [23] w1 w3 ∧ Calls Try.prog 37 #[(Value.agg #[(Value.int .i64 n4), (Value.int .i64 n5), (Value.int .i64 n6), (Value.int .i64 n7), (Value.int .i64 n8)])] w3 (fun e9 w10 => ∃ u11 : Value, ∃ n12 : Int, e9 = .returned (Value.tuple #[u11, (Value.int .i64 n12)]) ∧ Keeps w.heap.size [23] w3 w10 ∧ Calls Try.prog 14 #[(Value.agg #[(Value.int .i64 m_Chambers), (Value.int .i64 m_Depths), (Value.int .i64 m_Step), (Value.int .i64 m_Same), (Value.int .i64 m_Least)])] w10 (fun e13 w14 => ∃ n15 : Int, ∃ n16 : Int, ∃ n17 : Int, ∃ n18 : Int, ∃ n19 : Int, e13 = .returned (Value.agg #[(Value.int .i64 n15), (Value.int .i64 n16), (Value.int .i64 n17), (Value.int .i64 n18), (Value.int .i64 n19)]) ∧ Keeps w.heap.size [23] w10 w14 ∧ Calls Try.prog 38 #[(Value.agg #[(Value.int .i64 n15), (Value.int .i64 n16), (Value.int .i64 n17), (Value.int .i64 n18), (Value.int .i64 n19)])] w14 (fun e20 w21 => ∃ u22 : Value, ∃ n23 : Int, e20 = .returned (Value.tuple #[u22, (Value.int .i64 n23)]) ∧ Keeps w.heap.size [23] w14 w21 ∧ Calls Try.prog 19 #[u22, u11] w21 (fun e24 w25 => ∃ b26 : Bool, e24 = .returned (Value.bool b26) ∧ Keeps w.heap.size [23] w21 w25 ∧ (((!b26) = true → Post (Value.bool false) w25) ∧ ((!b26) = false → (laws_FnExactFirstKey_k6 w Post n12 n23 u11 n12 u22 m_Chambers m_Depths m_Step m_Same m_Least w25))))))))
theorem laws_FnExactFirstKey_eq (m_Chambers : Int) (m_Depths : Int) (m_Step : Int) (m_Same : Int) (m_Least : Int) (w : World) (Post : Value → World → Prop) : denF Try.prog [] noAnn 9 [(Value.agg #[(Value.int .i64 m_Chambers), (Value.int .i64 m_Depths), (Value.int .i64 m_Step), (Value.int .i64 m_Same), (Value.int .i64 m_Least)])] w Post = laws_FnExactFirstKey_vc m_Chambers m_Depths m_Step m_Same m_Least w Post := by kernel_rfl
set_option maxRecDepth 100000 in
theorem laws_FnExactFirstKey_calls (m_Chambers : Int) (m_Depths : Int) (m_Step : Int) (m_Same : Int) (m_Least : Int) (w : World) (Post : Value → World → Prop) (hvc : laws_FnExactFirstKey_vc m_Chambers m_Depths m_Step m_Same m_Least w Post) : Ret Try.prog 9 #[(Value.agg #[(Value.int .i64 m_Chambers), (Value.int .i64 m_Depths), (Value.int .i64 m_Step), (Value.int .i64 m_Same), (Value.int .i64 m_Least)])] w Post :=
  Ret.of (denF_sound mixed (Eq.mpr (laws_FnExactFirstKey_eq m_Chambers m_Depths m_Step m_Same m_Least w Post) hvc))

end Go.Proofs
namespace Go.Proofs.Ytlppnjnimjbloaa.lawFirstKey
open Go.Proofs Go.Sx Go.RowKit Go.ChangeShapes Go.WideShapes Go.ChangeAt Go.Joins
theorem walk (c : Int) (_ : (Lit.int .i64 c).wf = true) (d : Int) (_ : (Lit.int .i64 d).wf = true) (s : Int) (_ : (Lit.int .i64 s).wf = true) (m : Int) (_ : (Lit.int .i64 m).wf = true) (l : Int) (_ : (Lit.int .i64 l).wf = true) (w : World)  : Val Try.prog 9 #[mkV c d s m l] w (.bool true) :=
  Ret.val (laws_FnExactFirstKey_calls c d s m l w _ (by
    unfold laws_FnExactFirstKey_vc
    have hz := firstKey_len ⟨c, d, s, m, l⟩
    intro w1 k1
    refine (laws_toMaker_val ..).call fun w2 h2 => ⟨_, _, _, _, _, rfl, h2.keeps, ?_⟩
    have k2 := k1.trans h2
    refine (spec_FirstKey_ret ⟨c, d, s, m, l⟩ w2).call ?_
    rintro _ w3 ⟨a, rfl, oa3, h3⟩
    refine ⟨a, _, rfl, h3.keeps, ?_⟩
    have k3 := k2.trans h3
    have b_a : w.heap.size ≤ w2.heap.size := k2.size
    refine (laws_toMaker_val ..).call fun w4 h4 => ⟨_, _, _, _, _, rfl, h4.keeps, ?_⟩
    have k4 := k3.trans h4
    have oa4 := oa3.ext h4
    refine (impl_FirstKey_ret ⟨c, d, s, m, l⟩ w4).call ?_
    rintro _ w5 ⟨b, rfl, ob5, h5⟩
    refine ⟨b, _, rfl, h5.keeps, ?_⟩
    have k5 := k4.trans h5
    have ap_a_b := Apart.new oa4 ob5
    have oa5 := oa4.ext h5
    have b_b : w.heap.size ≤ w4.heap.size := k4.size
    refine eq_same ob5.rd oa5.rd fun w6 h6 => ⟨true, rfl, h6.keeps, fun h => (by cases h), fun _ => ?_⟩
    have k6 := k5.trans h6
    have oa6 := oa5.ext h6
    have ob6 := ob5.ext h6
    refine ⟨fun h => absurd rfl h, fun _ => ?_⟩
    refine (laws_markInt64S_ret b 1 _ _ w6 ob6 (by decide) (by simp; omega)).call ?_
    rintro _ w7 ⟨rfl, mb7, g7⟩
    refine ⟨_, rfl, ob6.keepsG g7 (by decide), ?_⟩
    have k7 := k6.grown ob6 b_b g7
    have oa7 := oa6.grown g7 ap_a_b
    refine (laws_heldInt64S_val b 1 _ w7 mb7.rd (by decide) (by simp; omega)).call fun w8 h8 => ⟨_, rfl, h8.keeps, fun h => absurd h (by omega), fun _ => ⟨fun h => absurd rfl h, fun _ => ?_⟩⟩
    have k8 := k7.trans h8
    have oa8 := oa7.ext h8
    have ob8 := mb7.ext h8
    refine (laws_toMaker_val ..).call fun w9 h9 => ⟨_, _, _, _, _, rfl, h9.keeps, ?_⟩
    have k9 := k8.trans h9
    have oa9 := oa8.ext h9
    have ob9 := ob8.ext h9
    refine (impl_FirstKey_ret ⟨c, d, s, m, l⟩ w9).call ?_
    rintro _ w10 ⟨e, rfl, oe10, h10⟩
    refine ⟨e, _, rfl, h10.keeps, ?_⟩
    have k10 := k9.trans h10
    have ap_a_e := Apart.new oa9 oe10
    have ap_b_e := Apart.new ob9 oe10
    have oa10 := oa9.ext h10
    have ob10 := ob9.ext h10
    have b_e : w.heap.size ≤ w9.heap.size := k9.size
    refine eq_same oe10.rd oa10.rd fun w11 h11 => ⟨true, rfl, h11.keeps, fun h => (by cases h), fun _ => ?_⟩
    have k11 := k10.trans h11
    have oa11 := oa10.ext h11
    have ob11 := ob10.ext h11
    have oe11 := oe10.ext h11
    refine ⟨fun h => absurd rfl h, fun _ => ?_⟩
    refine (laws_heldInt64S_val b 1 _ w11 ob11.rd (by decide) (by simp; omega)).call fun w12 h12 => ⟨_, rfl, h12.keeps, fun h => absurd h (by omega), fun _ => ⟨fun h => absurd rfl h, fun _ => ?_⟩⟩
    have k12 := k11.trans h12
    have ob12 := ob11.ext h12
    exact ⟨rfl, k12⟩))
set_option linter.unusedSimpArgs false in
theorem readable : ∀ t ∈ Try.f9.params.toList, Try.prog.readableRec t = true ∧ t < Try.prog.types.size := by
  rw [Try.params9]
  simp only [List.mem_cons, List.not_mem_nil, or_false, forall_eq_or_imp, forall_eq]
  exact ⟨by kernel_rfl, of_decide_eq_true (by kernel_rfl)⟩

set_option maxRecDepth 100000 in
theorem lifted (os : Os) (started : os.Started) (H : Type) (enc : TypeId × Value → H) :
    ReturnsInHanded {} Try.checked os 9 .any (Rows.fnExactFirstKeySpec.pre6 enc Try.prog Try.f9 Rows.fnExactFirstKeyRow.domain false) (Rows.fnExactFirstKeySpec.post enc Try.prog Try.f9 false true false false) := by
  refine returnsInHanded_of_change (C := Try.checked) ownKnobNone started (by kernel_rfl) Try.func9
    (ChangeSpec.witness6 (enc := enc) (C := Try.checked) false ⟨#[], #[.agg #[.int .i64 0, .int .i64 0, .int .i64 0, .int .i64 0, .int .i64 0]], []⟩ 8 (by kernel_rfl) (by kernel_rfl) (by kernel_rfl) (by kernel_rfl)) ?_
  intro W base args ds gs before hval0 hW hcnd _
  have hval : ∀ (j : Nat) t v, Try.f9.params[j]? = some t → args[j]? = some v → Value.okWide Try.prog W .any base t v := hval0
  have hW' := hW
  obtain ⟨p, q, hA0, hV, rfl, hfz, hnd⟩ := hW
  have hA1 : DataW.TrodAll enc Try.prog W 0 (fun _ => true) true Try.f9.params.toList args.toList ds p := hA0
  have hA := hA1
  rw [Try.params9] at hA hval
  obtain ⟨v0, vs0, d0, ds0, p0, q0, hargs, rfl, rfl, h0, r0⟩ := trodAll_cons hA
  obtain ⟨rfl, rfl, rfl⟩ := trodAll_nil r0
  obtain rfl : args = #[v0] := by cases args; simp_all
  obtain ⟨rfl, rfl⟩ := trodVars_none hV
  obtain ⟨v0_0, v0_1, v0_2, v0_3, v0_4, y0_0, y0_1, y0_2, y0_3, y0_4, m0, rfl, rfl, rfl, g0_0, g0_1, g0_2, g0_3, g0_4⟩ := open_agg5 Try.underlying23 (by kernel_rfl) (by kernel_rfl) (hval 0 23 v0 rfl rfl) h0
  obtain ⟨a0_0, e0_0, rfl, w0_0⟩ := DataW.trod_int Try.underlying2 g0_0
  simp only [List.cons.injEq, and_true] at e0_0
  subst e0_0
  obtain ⟨a0_1, e0_1, rfl, w0_1⟩ := DataW.trod_int Try.underlying2 g0_1
  simp only [List.cons.injEq, and_true] at e0_1
  subst e0_1
  obtain ⟨a0_2, e0_2, rfl, w0_2⟩ := DataW.trod_int Try.underlying2 g0_2
  simp only [List.cons.injEq, and_true] at e0_2
  subst e0_2
  obtain ⟨a0_3, e0_3, rfl, w0_3⟩ := DataW.trod_int Try.underlying2 g0_3
  simp only [List.cons.injEq, and_true] at e0_3
  subst e0_3
  obtain ⟨a0_4, e0_4, rfl, w0_4⟩ := DataW.trod_int Try.underlying2 g0_4
  simp only [List.cons.injEq, and_true] at e0_4
  subst e0_4
  clear hA0 hval0
  refine (Val.calls (walk a0_0 w0_0 a0_1 w0_1 a0_2 w0_2 a0_3 w0_3 a0_4 w0_4 W )).mono fun e W' ⟨he, hg⟩ => ?_
  subst he
  exact ⟨_, rfl, law_post laidOut readable hW' hA1 Try.underlying4 rfl rfl rfl hg⟩

theorem proved : Rows.FnExactFirstKeySaid :=
  OpenClaim.holds_of_wide 9 Try.f9 rfl rfl rfl rfl rfl rfl rfl ⟨rfl, rfl, rfl, rfl, rfl⟩ rfl rfl rfl rfl rfl (by kernel_rfl) Try.func9 (by kernel_rfl)
    (of_decide_eq_true (by kernel_rfl)) (by unfold Func.isWrapper; first | (rw [if_pos (by decide +kernel)]; kernel_rfl) | (rw [if_neg (by decide +kernel)]; exact ⟨rfl, rfl⟩))
    (fun os started H enc _ => lifted os started H enc)

end Go.Proofs.Ytlppnjnimjbloaa.lawFirstKey
