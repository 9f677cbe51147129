/- The law FnExactFirstKeys: the program's function answers as the reference's, for all arguments. No condition. -/
import Derived.Test.YthcmeplidekndaaL03b
set_option linter.unusedVariables false
namespace Go.Proofs
open Go.Sx Go.RowKit
abbrev laws_FnExactFirstKeys_k0 (Post : Value → World → Prop) (x632 : Int) (x633 : Int) (w717 : World) : Prop :=
  (((x633 ≠ x632) → Post (Value.bool false) w717) ∧ (¬ (x633 ≠ x632) → Post (Value.bool true) w717))
abbrev laws_FnExactFirstKeys_k1 (w : World) (Post : Value → World → Prop) (x535 : Value) (x537 : Int) (w618 : World) : Prop :=
  Calls Try.prog 34 #[x535, (Value.int .i64 1)] w618 (fun e619 w620 => ∃ n621 : Int, e619 = .returned (Value.int .i64 n621) ∧ Keeps w.heap.size [23] w618 w620 ∧ (((n621 < (0 : Int)) → Post (Value.bool false) w620) ∧ (¬ (n621 < (0 : Int)) → (laws_FnExactFirstKeys_k0 Post x537 n621 w620))))
abbrev laws_FnExactFirstKeys_k2 (w : World) (Post : Value → World → Prop) (x271 : Int) (n341 : Int) (x443 : Value) (x445 : Int) (w526 : World) : Prop :=
  (((n341 ≠ x271) → Post (Value.bool false) w526) ∧ (¬ (n341 ≠ x271) → (laws_FnExactFirstKeys_k1 w Post x443 x445 w526)))
abbrev laws_FnExactFirstKeys_k3 (w : World) (Post : Value → World → Prop) (x269 : Int) (x270 : Value) (x271 : Int) (x272 : Value) (x274 : Int) (x325 : Int) (x326 : Int) (x327 : Int) (x328 : Int) (x329 : Int) (w330 : World) : Prop :=
  Calls Try.prog 16 #[(Value.agg #[(Value.int .i64 x325), (Value.int .i64 x326), (Value.int .i64 x327), (Value.int .i64 x328), (Value.int .i64 x329)])] w330 (fun e331 w332 => ∃ n333 : Int, ∃ n334 : Int, ∃ n335 : Int, ∃ n336 : Int, ∃ n337 : Int, e331 = .returned (Value.agg #[(Value.int .i64 n333), (Value.int .i64 n334), (Value.int .i64 n335), (Value.int .i64 n336), (Value.int .i64 n337)]) ∧ Keeps w.heap.size [23] w330 w332 ∧ Calls Try.prog 38 #[(Value.agg #[(Value.int .i64 n333), (Value.int .i64 n334), (Value.int .i64 n335), (Value.int .i64 n336), (Value.int .i64 n337)]), (Value.int .i64 x269)] w332 (fun e338 w339 => ∃ u340 : Value, ∃ n341 : Int, e338 = .returned (Value.tuple #[u340, (Value.int .i64 n341)]) ∧ Keeps w.heap.size [23] w332 w339 ∧ Calls Try.prog 30 #[u340, x270] w339 (fun e342 w343 => ∃ b344 : Bool, e342 = .returned (Value.bool b344) ∧ Keeps w.heap.size [23] w339 w343 ∧ (((!b344) = true → Post (Value.bool false) w343) ∧ ((!b344) = false → (laws_FnExactFirstKeys_k2 w Post x271 n341 x272 x274 w343))))))
abbrev laws_FnExactFirstKeys_k4 (w : World) (Post : Value → World → Prop) (x204 : Int) (x205 : Value) (x206 : Int) (x207 : Value) (x209 : Int) (x210 : Int) (x258 : Int) (x259 : Int) (x260 : Int) (x261 : Int) (x262 : Int) (w263 : World) : Prop :=
  (((x210 ≠ x209) → Post (Value.bool false) w263) ∧ (¬ (x210 ≠ x209) → (laws_FnExactFirstKeys_k3 w Post x204 x205 x206 x207 x209 x258 x259 x260 x261 x262 w263)))
abbrev laws_FnExactFirstKeys_k5 (w : World) (Post : Value → World → Prop) (x142 : Int) (x143 : Value) (x144 : Int) (x145 : Value) (x187 : Int) (x188 : Int) (x189 : Int) (x190 : Int) (x191 : Int) (w192 : World) : Prop :=
  Calls Try.prog 33 #[x145, (Value.int .i64 1)] w192 (fun e193 w194 => ∃ n195 : Int, e193 = .returned (Value.int .i64 n195) ∧ Keeps w.heap.size [23] w192 w194 ∧ Calls Try.prog 34 #[x145, (Value.int .i64 1)] w194 (fun e196 w197 => ∃ n198 : Int, e196 = .returned (Value.int .i64 n198) ∧ Keeps w.heap.size [23] w194 w197 ∧ (((n198 < (0 : Int)) → Post (Value.bool false) w197) ∧ (¬ (n198 < (0 : Int)) → (laws_FnExactFirstKeys_k4 w Post x142 x143 x144 x145 n195 n198 x187 x188 x189 x190 x191 w197)))))
abbrev laws_FnExactFirstKeys_k6 (w : World) (Post : Value → World → Prop) (n12 : Int) (n23 : Int) (x86 : Int) (x87 : Value) (x88 : Int) (x89 : Value) (x131 : Int) (x132 : Int) (x133 : Int) (x134 : Int) (x135 : Int) (w136 : World) : Prop :=
  (((n23 ≠ n12) → Post (Value.bool false) w136) ∧ (¬ (n23 ≠ n12) → (laws_FnExactFirstKeys_k5 w Post x86 x87 x88 x89 x131 x132 x133 x134 x135 w136)))
def laws_FnExactFirstKeys_vc (m_Chambers : Int) (m_Depths : Int) (m_Step : Int) (m_Same : Int) (m_Least : Int) (n : Int) (w : World) (Post : Value → World → Prop) : Prop :=
  ∀ w1 : World, Ext w w1 → Calls Try.prog 16 #[(Value.agg #[(Value.int .i64 m_Chambers), (Value.int .i64 m_Depths), (Value.int .i64 m_Step), (Value.int .i64 m_Same), (Value.int .i64 m_Least)])] w1 (fun e2 w3 => ∃ n4 : Int, ∃ n5 : Int, ∃ n6 : Int, ∃ n7 : Int, ∃ n8 : Int, e2 = .returned (Value.agg #[(Value.int .i64 n4), (Value.int .i64 n5), (Value.int .i64 n6), (Value.int .i64 n7), (Value.int .i64 n8)]) ∧ Keeps w.heap.size [23] w1 w3 ∧ Calls Try.prog 37 #[(Value.agg #[(Value.int .i64 n4), (Value.int .i64 n5), (Value.int .i64 n6), (Value.int .i64 n7), (Value.int .i64 n8)]), (Value.int .i64 n)] w3 (fun e9 w10 => ∃ u11 : Value, ∃ n12 : Int, e9 = .returned (Value.tuple #[u11, (Value.int .i64 n12)]) ∧ Keeps w.heap.size [23] w3 w10 ∧ Calls Try.prog 16 #[(Value.agg #[(Value.int .i64 m_Chambers), (Value.int .i64 m_Depths), (Value.int .i64 m_Step), (Value.int .i64 m_Same), (Value.int .i64 m_Least)])] w10 (fun e13 w14 => ∃ n15 : Int, ∃ n16 : Int, ∃ n17 : Int, ∃ n18 : Int, ∃ n19 : Int, e13 = .returned (Value.agg #[(Value.int .i64 n15), (Value.int .i64 n16), (Value.int .i64 n17), (Value.int .i64 n18), (Value.int .i64 n19)]) ∧ Keeps w.heap.size [23] w10 w14 ∧ Calls Try.prog 38 #[(Value.agg #[(Value.int .i64 n15), (Value.int .i64 n16), (Value.int .i64 n17), (Value.int .i64 n18), (Value.int .i64 n19)]), (Value.int .i64 n)] w14 (fun e20 w21 => ∃ u22 : Value, ∃ n23 : Int, e20 = .returned (Value.tuple #[u22, (Value.int .i64 n23)]) ∧ Keeps w.heap.size [23] w14 w21 ∧ Calls Try.prog 30 #[u22, u11] w21 (fun e24 w25 => ∃ b26 : Bool, e24 = .returned (Value.bool b26) ∧ Keeps w.heap.size [23] w21 w25 ∧ (((!b26) = true → Post (Value.bool false) w25) ∧ ((!b26) = false → (laws_FnExactFirstKeys_k6 w Post n12 n23 n u11 n12 u22 m_Chambers m_Depths m_Step m_Same m_Least w25))))))))
theorem laws_FnExactFirstKeys_eq (m_Chambers : Int) (m_Depths : Int) (m_Step : Int) (m_Same : Int) (m_Least : Int) (n : Int) (w : World) (Post : Value → World → Prop) : denF Try.prog [] noAnn 8 [(Value.agg #[(Value.int .i64 m_Chambers), (Value.int .i64 m_Depths), (Value.int .i64 m_Step), (Value.int .i64 m_Same), (Value.int .i64 m_Least)]), (Value.int .i64 n)] w Post = laws_FnExactFirstKeys_vc m_Chambers m_Depths m_Step m_Same m_Least n w Post := by kernel_rfl
set_option maxRecDepth 100000 in
theorem laws_FnExactFirstKeys_calls (m_Chambers : Int) (m_Depths : Int) (m_Step : Int) (m_Same : Int) (m_Least : Int) (n : Int) (w : World) (Post : Value → World → Prop) (hvc : laws_FnExactFirstKeys_vc m_Chambers m_Depths m_Step m_Same m_Least n w Post) : Ret Try.prog 8 #[(Value.agg #[(Value.int .i64 m_Chambers), (Value.int .i64 m_Depths), (Value.int .i64 m_Step), (Value.int .i64 m_Same), (Value.int .i64 m_Least)]), (Value.int .i64 n)] w Post :=
  Ret.of (denF_sound mixed (Eq.mpr (laws_FnExactFirstKeys_eq m_Chambers m_Depths m_Step m_Same m_Least n w Post) hvc))

end Go.Proofs
namespace Go.Proofs.Ythcmeplidekndaa.lawFirstKeys
open Go.Proofs Go.Sx Go.RowKit Go.ChangeShapes Go.WideShapes Go.ChangeAt Go.Joins
theorem walk (c : Int) (_ : (Lit.int .i64 c).wf = true) (d : Int) (_ : (Lit.int .i64 d).wf = true) (s : Int) (_ : (Lit.int .i64 s).wf = true) (m : Int) (_ : (Lit.int .i64 m).wf = true) (l : Int) (_ : (Lit.int .i64 l).wf = true) (n : Int) (hn : (Lit.int .i64 n).wf = true) (w : World)  : Val Try.prog 8 #[mkV c d s m l, .int .i64 n] w (.bool true) :=
  Ret.val (laws_FnExactFirstKeys_calls c d s m l n w _ (by
    unfold laws_FnExactFirstKeys_vc
    have hR := fkR_total ⟨c, d, s, m, l⟩ n
    intro w1 h1
    have k1 := h1
    have z1 := h1.size
    refine (laws_toMaker_val ..).call fun w2 h2 => ⟨_, _, _, _, _, rfl, h2.keeps, ?_⟩
    have k2 := k1.trans h2
    have z2 := h2.size
    refine (spec_FirstKeys_ret ⟨c, d, s, m, l⟩ n w2).call ?_
    rintro _ w3 ⟨a, rfl, qa, h3⟩
    refine ⟨a, _, rfl, h3.keeps, ?_⟩
    have k3 := k2.trans h3
    have z3 := h3.size
    have oa3 := qa.m
    refine (laws_toMaker_val ..).call fun w4 h4 => ⟨_, _, _, _, _, rfl, h4.keeps, ?_⟩
    have k4 := k3.trans h4
    have z4 := h4.size
    have oa4 := oa3.ext h4
    refine (impl_FirstKeys_ret ⟨c, d, s, m, l⟩ n w4).call ?_
    rintro _ w5 ⟨b, rfl, qb, h5⟩
    refine ⟨b, _, rfl, h5.keeps, ?_⟩
    have k5 := k4.trans h5
    have z5 := h5.size
    have oa5 := oa4.ext h5
    have ob5 := qb.m
    refine (laws_eqInt64SS_val b a _ w5 ob5.rr oa5.rr).call fun w6 h6 => ⟨true, rfl, h6.keeps, fun hh => (by cases hh), fun _ => ?_⟩
    have k6 := k5.trans h6
    have z6 := h6.size
    have oa6 := oa5.ext h6
    have ob6 := ob5.ext h6
    refine ⟨fun hne => absurd rfl hne, fun _ => ?_⟩
    refine (laws_markInt64SS_ret b 1 _ _ _ w6 ob6 (by decide) (by omega)).call ?_
    rintro _ w7 ⟨rfl, mb7, m7⟩
    refine ⟨_, rfl, m7.2 _ _ (by decide), ?_⟩
    have k7 := m7.ext k6 (by omega)
    have z7 := m7.size
    have oa7 := oa6.rest m7 (by omega)
    refine (laws_heldInt64SS_val b 1 _ w7 mb7.rr (by decide) (by omega)).call fun w8 h8 => ⟨_, rfl, h8.keeps, fun hneg => absurd hneg (by omega), fun _ => ?_⟩
    have k8 := k7.trans h8
    have z8 := h8.size
    have oa8 := oa7.ext h8
    have ob8 := mb7.ext h8
    refine ⟨fun hne => absurd rfl hne, fun _ => ?_⟩
    refine (laws_toMaker_val ..).call fun w9 h9 => ⟨_, _, _, _, _, rfl, h9.keeps, ?_⟩
    have k9 := k8.trans h9
    have z9 := h9.size
    have oa9 := oa8.ext h9
    have ob9 := ob8.ext h9
    refine (impl_FirstKeys_ret ⟨c, d, s, m, l⟩ n w9).call ?_
    rintro _ w10 ⟨e, rfl, qe, h10⟩
    refine ⟨e, _, rfl, h10.keeps, ?_⟩
    have k10 := k9.trans h10
    have z10 := h10.size
    have oa10 := oa9.ext h10
    have ob10 := ob9.ext h10
    have oe10 := qe.m
    refine (laws_eqInt64SS_val e a _ w10 oe10.rr oa10.rr).call fun w11 h11 => ⟨true, rfl, h11.keeps, fun hh => (by cases hh), fun _ => ?_⟩
    have k11 := k10.trans h11
    have z11 := h11.size
    have oa11 := oa10.ext h11
    have ob11 := ob10.ext h11
    have oe11 := oe10.ext h11
    refine ⟨fun hne => absurd rfl hne, fun _ => ?_⟩
    refine (laws_heldInt64SS_val b 1 _ w11 ob11.rr (by decide) (by omega)).call fun w12 h12 => ⟨_, rfl, h12.keeps, fun hneg => absurd hneg (by omega), fun _ => ?_⟩
    have k12 := k11.trans h12
    have z12 := h12.size
    have ob12 := ob11.ext h12
    exact ⟨fun hne => absurd rfl hne, fun _ => ⟨rfl, k12⟩⟩))
set_option linter.unusedSimpArgs false in
theorem readable : ∀ t ∈ Try.f8.params.toList, Try.prog.readableRec t = true ∧ t < Try.prog.types.size := by
  rw [Try.params8]
  simp only [List.mem_cons, List.not_mem_nil, or_false, forall_eq_or_imp, forall_eq]
  exact ⟨⟨by kernel_rfl, of_decide_eq_true (by kernel_rfl)⟩, ⟨by kernel_rfl, of_decide_eq_true (by kernel_rfl)⟩⟩

set_option maxRecDepth 100000 in
theorem lifted (os : Os) (started : os.Started) (H : Type) (enc : TypeId × Value → H) :
    ReturnsInHanded {} Try.checked os 8 .any (Rows.fnExactFirstKeysSpec.pre6 enc Try.prog Try.f8 Rows.fnExactFirstKeysRow.domain false) (Rows.fnExactFirstKeysSpec.post enc Try.prog Try.f8 false true false false) := by
  refine returnsInHanded_of_change (C := Try.checked) ownKnobNone started (by kernel_rfl) Try.func8
    (ChangeSpec.witness6 (enc := enc) (C := Try.checked) false ⟨#[], #[.agg #[.int .i64 0, .int .i64 0, .int .i64 0, .int .i64 0, .int .i64 0], .int .i64 0], []⟩ 8 (by kernel_rfl) (by kernel_rfl) (by kernel_rfl) (by kernel_rfl)) ?_
  intro W base args ds gs before hval0 hW hcnd _
  have hval : ∀ (j : Nat) t v, Try.f8.params[j]? = some t → args[j]? = some v → Value.okWide Try.prog W .any base t v := hval0
  have hW' := hW
  obtain ⟨p, q, hA0, hV, rfl, hfz, hnd⟩ := hW
  have hA1 : DataW.TrodAll enc Try.prog W 0 (fun _ => true) true Try.f8.params.toList args.toList ds p := hA0
  have hA := hA1
  rw [Try.params8] at hA hval
  obtain ⟨v0, vs0, d0, ds0, p0, q0, hargs, rfl, rfl, h0, r0⟩ := trodAll_cons hA
  obtain ⟨v1, vs1, d1, ds1, p1, q1, rfl, rfl, rfl, h1, r1⟩ := trodAll_cons r0
  obtain ⟨rfl, rfl, rfl⟩ := trodAll_nil r1
  obtain rfl : args = #[v0, v1] := by cases args; simp_all
  obtain ⟨rfl, rfl⟩ := trodVars_none hV
  obtain ⟨v0_0, v0_1, v0_2, v0_3, v0_4, y0_0, y0_1, y0_2, y0_3, y0_4, m0, rfl, rfl, rfl, g0_0, g0_1, g0_2, g0_3, g0_4⟩ := open_agg5 Try.underlying23 (by kernel_rfl) (by kernel_rfl) (hval 0 23 v0 rfl rfl) h0
  obtain ⟨a0_0, e0_0, rfl, w0_0⟩ := DataW.trod_int Try.underlying2 g0_0
  simp only [List.cons.injEq, and_true] at e0_0
  subst e0_0
  obtain ⟨a0_1, e0_1, rfl, w0_1⟩ := DataW.trod_int Try.underlying2 g0_1
  simp only [List.cons.injEq, and_true] at e0_1
  subst e0_1
  obtain ⟨a0_2, e0_2, rfl, w0_2⟩ := DataW.trod_int Try.underlying2 g0_2
  simp only [List.cons.injEq, and_true] at e0_2
  subst e0_2
  obtain ⟨a0_3, e0_3, rfl, w0_3⟩ := DataW.trod_int Try.underlying2 g0_3
  simp only [List.cons.injEq, and_true] at e0_3
  subst e0_3
  obtain ⟨a0_4, e0_4, rfl, w0_4⟩ := DataW.trod_int Try.underlying2 g0_4
  simp only [List.cons.injEq, and_true] at e0_4
  subst e0_4
  obtain ⟨a1, rfl, rfl, rfl, w1⟩ := open_int Try.underlying2 (hval 1 2 v1 rfl rfl) h1
  clear hA0 hval0
  refine (Val.calls (walk a0_0 w0_0 a0_1 w0_1 a0_2 w0_2 a0_3 w0_3 a0_4 w0_4 a1 w1 W )).mono fun e W' ⟨he, hg⟩ => ?_
  subst he
  exact ⟨_, rfl, law_post laidOut readable hW' hA1 Try.underlying4 rfl rfl rfl hg⟩

theorem proved : Rows.FnExactFirstKeysSaid :=
  OpenClaim.holds_of_wide 8 Try.f8 rfl rfl rfl rfl rfl rfl rfl ⟨rfl, rfl, rfl, rfl, rfl⟩ rfl rfl rfl rfl rfl (by kernel_rfl) Try.func8 (by kernel_rfl)
    (of_decide_eq_true (by kernel_rfl)) (by unfold Func.isWrapper; first | (rw [if_pos (by decide +kernel)]; kernel_rfl) | (rw [if_neg (by decide +kernel)]; exact ⟨rfl, rfl⟩))
    (fun os started H enc _ => lifted os started H enc)

end Go.Proofs.Ythcmeplidekndaa.lawFirstKeys
