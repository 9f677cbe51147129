/- The law FnExactCountKeys: the program's function answers as the reference's, for all arguments. No condition. -/
import Derived.Test.YtlppnjnimjbloaaL02c
set_option linter.unusedVariables false
namespace Go.Proofs
open Go.Sx Go.RowKit
abbrev laws_FnExactCountKeys_k0 (Post : Value → World → Prop) (n12 : Int) (n23 : Int) (w123 : World) : Prop :=
  (((n23 ≠ n12) → Post (Value.bool false) w123) ∧ (¬ (n23 ≠ n12) → Post (Value.bool true) w123))
def laws_FnExactCountKeys_vc (m_Chambers : Int) (m_Depths : Int) (m_Step : Int) (m_Same : Int) (m_Least : Int) (w : World) (Post : Value → World → Prop) : Prop :=
  ∀ w1 : World, Ext w w1 → Calls Try.prog 14 #[(Value.agg #[(Value.int .i64 m_Chambers), (Value.int .i64 m_Depths), (Value.int .i64 m_Step), (Value.int .i64 m_Same), (Value.int .i64 m_Least)])] w1 (fun e2 w3 => ∃ n4 : Int, ∃ n5 : Int, ∃ n6 : Int, ∃ n7 : Int, ∃ n8 : Int, e2 = .returned (Value.agg #[(Value.int .i64 n4), (Value.int .i64 n5), (Value.int .i64 n6), (Value.int .i64 n7), (Value.int .i64 n8)]) ∧ Keeps w.heap.size [23] w1 w3 ∧ Calls Try.prog 13 #[(Value.agg #[(Value.int .i64 n4), (Value.int .i64 n5), (Value.int .i64 n6), (Value.int .i64 n7), (Value.int .i64 n8)])] w3 (fun e9 w10 => ∃ n11 : Int, ∃ n12 : Int, e9 = .returned (Value.tuple #[(Value.int .i64 n11), (Value.int .i64 n12)]) ∧ Keeps w.heap.size [23] w3 w10 ∧ Calls Try.prog 14 #[(Value.agg #[(Value.int .i64 m_Chambers), (Value.int .i64 m_Depths), (Value.int .i64 m_Step), (Value.int .i64 m_Same), (Value.int .i64 m_Least)])] w10 (fun e13 w14 => ∃ n15 : Int, ∃ n16 : Int, ∃ n17 : Int, ∃ n18 : Int, ∃ n19 : Int, e13 = .returned (Value.agg #[(Value.int .i64 n15), (Value.int .i64 n16), (Value.int .i64 n17), (Value.int .i64 n18), (Value.int .i64 n19)]) ∧ Keeps w.heap.size [23] w10 w14 ∧ Calls Try.prog 15 #[(Value.agg #[(Value.int .i64 n15), (Value.int .i64 n16), (Value.int .i64 n17), (Value.int .i64 n18), (Value.int .i64 n19)])] w14 (fun e20 w21 => ∃ n22 : Int, ∃ n23 : Int, e20 = .returned (Value.tuple #[(Value.int .i64 n22), (Value.int .i64 n23)]) ∧ Keeps w.heap.size [23] w14 w21 ∧ (((n22 ≠ n11) → Post (Value.bool false) w21) ∧ (¬ (n22 ≠ n11) → (laws_FnExactCountKeys_k0 Post n12 n23 w21)))))))
theorem laws_FnExactCountKeys_eq (m_Chambers : Int) (m_Depths : Int) (m_Step : Int) (m_Same : Int) (m_Least : Int) (w : World) (Post : Value → World → Prop) : denF Try.prog [] noAnn 3 [(Value.agg #[(Value.int .i64 m_Chambers), (Value.int .i64 m_Depths), (Value.int .i64 m_Step), (Value.int .i64 m_Same), (Value.int .i64 m_Least)])] w Post = laws_FnExactCountKeys_vc m_Chambers m_Depths m_Step m_Same m_Least w Post := by kernel_rfl
set_option maxRecDepth 100000 in
theorem laws_FnExactCountKeys_calls (m_Chambers : Int) (m_Depths : Int) (m_Step : Int) (m_Same : Int) (m_Least : Int) (w : World) (Post : Value → World → Prop) (hvc : laws_FnExactCountKeys_vc m_Chambers m_Depths m_Step m_Same m_Least w Post) : Ret Try.prog 3 #[(Value.agg #[(Value.int .i64 m_Chambers), (Value.int .i64 m_Depths), (Value.int .i64 m_Step), (Value.int .i64 m_Same), (Value.int .i64 m_Least)])] w Post :=
  Ret.of (denF_sound mixed (Eq.mpr (laws_FnExactCountKeys_eq m_Chambers m_Depths m_Step m_Same m_Least w Post) hvc))

end Go.Proofs
namespace Go.Proofs.Ytlppnjnimjbloaa.lawCountKeys
open Go.Proofs Go.Sx Go.RowKit Go.ChangeShapes Go.WideShapes Go.ChangeAt Go.Joins
theorem walk (c : Int) (_ : (Lit.int .i64 c).wf = true) (d : Int) (_ : (Lit.int .i64 d).wf = true) (s : Int) (_ : (Lit.int .i64 s).wf = true) (m : Int) (_ : (Lit.int .i64 m).wf = true) (l : Int) (_ : (Lit.int .i64 l).wf = true) (w : World) : Val Try.prog 3 #[mkV c d s m l] w (.bool true) :=
  Ret.val (laws_FnExactCountKeys_calls c d s m l w _ (by
    unfold laws_FnExactCountKeys_vc
    obtain ⟨x, y, e⟩ := countR_pair ⟨c, d, s, m, l⟩
    intro w1 h1
    refine (laws_toMaker_val ..).call fun w2 h2 => ⟨_, _, _, _, _, rfl, h2.keeps, ?_⟩
    have k2 := h1.trans h2
    refine (spec_CountKeys_val c d s m l w2).call fun w3 h3 => ⟨x, y, by rw [e], h3.keeps, ?_⟩
    have k3 := k2.trans h3
    refine (laws_toMaker_val ..).call fun w4 h4 => ⟨_, _, _, _, _, rfl, h4.keeps, ?_⟩
    have k4 := k3.trans h4
    exact (impl_CountKeys_val c d s m l w4).call fun w5 h5 => ⟨x, y, by rw [e], h5.keeps, fun h => absurd rfl h, fun _ => ⟨fun h => absurd rfl h, fun _ => ⟨rfl, k4.trans h5⟩⟩⟩))
set_option linter.unusedSimpArgs false in
theorem readable : ∀ t ∈ Try.f3.params.toList, Try.prog.readableRec t = true ∧ t < Try.prog.types.size := by
  rw [Try.params3]
  simp only [List.mem_cons, List.not_mem_nil, or_false, forall_eq_or_imp, forall_eq]
  exact ⟨by kernel_rfl, of_decide_eq_true (by kernel_rfl)⟩

set_option maxRecDepth 100000 in
theorem lifted (os : Os) (started : os.Started) (H : Type) (enc : TypeId × Value → H) :
    ReturnsInHanded {} Try.checked os 3 .any (Rows.fnExactCountKeysSpec.pre6 enc Try.prog Try.f3 Rows.fnExactCountKeysRow.domain false) (Rows.fnExactCountKeysSpec.post enc Try.prog Try.f3 false true false false) := by
  refine returnsInHanded_of_change (C := Try.checked) ownKnobNone started (by kernel_rfl) Try.func3
    (ChangeSpec.witness6 (enc := enc) (C := Try.checked) false ⟨#[], #[.agg #[.int .i64 0, .int .i64 0, .int .i64 0, .int .i64 0, .int .i64 0]], []⟩ 8 (by kernel_rfl) (by kernel_rfl) (by kernel_rfl) (by kernel_rfl)) ?_
  intro W base args ds gs before hval0 hW hcnd _
  have hval : ∀ (j : Nat) t v, Try.f3.params[j]? = some t → args[j]? = some v → Value.okWide Try.prog W .any base t v := hval0
  have hW' := hW
  obtain ⟨p, q, hA0, hV, rfl, hfz, hnd⟩ := hW
  have hA1 : DataW.TrodAll enc Try.prog W 0 (fun _ => true) true Try.f3.params.toList args.toList ds p := hA0
  have hA := hA1
  rw [Try.params3] at hA hval
  obtain ⟨v0, vs0, d0, ds0, p0, q0, hargs, rfl, rfl, h0, r0⟩ := trodAll_cons hA
  obtain ⟨rfl, rfl, rfl⟩ := trodAll_nil r0
  obtain rfl : args = #[v0] := by cases args; simp_all
  obtain ⟨rfl, rfl⟩ := trodVars_none hV
  obtain ⟨v0_0, v0_1, v0_2, v0_3, v0_4, y0_0, y0_1, y0_2, y0_3, y0_4, m0, rfl, rfl, rfl, g0_0, g0_1, g0_2, g0_3, g0_4⟩ := open_agg5 Try.underlying23 (by kernel_rfl) (by kernel_rfl) (hval 0 23 v0 rfl rfl) h0
  obtain ⟨a0_0, e0_0, rfl, w0_0⟩ := DataW.trod_int Try.underlying2 g0_0
  simp only [List.cons.injEq, and_true] at e0_0
  subst e0_0
  obtain ⟨a0_1, e0_1, rfl, w0_1⟩ := DataW.trod_int Try.underlying2 g0_1
  simp only [List.cons.injEq, and_true] at e0_1
  subst e0_1
  obtain ⟨a0_2, e0_2, rfl, w0_2⟩ := DataW.trod_int Try.underlying2 g0_2
  simp only [List.cons.injEq, and_true] at e0_2
  subst e0_2
  obtain ⟨a0_3, e0_3, rfl, w0_3⟩ := DataW.trod_int Try.underlying2 g0_3
  simp only [List.cons.injEq, and_true] at e0_3
  subst e0_3
  obtain ⟨a0_4, e0_4, rfl, w0_4⟩ := DataW.trod_int Try.underlying2 g0_4
  simp only [List.cons.injEq, and_true] at e0_4
  subst e0_4
  clear hA0 hval0
  refine (Val.calls (walk a0_0 w0_0 a0_1 w0_1 a0_2 w0_2 a0_3 w0_3 a0_4 w0_4 W )).mono fun e W' ⟨he, hg⟩ => ?_
  subst he
  exact ⟨_, rfl, law_post laidOut readable hW' hA1 Try.underlying4 rfl rfl rfl hg⟩

theorem proved : Rows.FnExactCountKeysSaid :=
  OpenClaim.holds_of_wide 3 Try.f3 rfl rfl rfl rfl rfl rfl rfl ⟨rfl, rfl, rfl, rfl, rfl⟩ rfl rfl rfl rfl rfl (by kernel_rfl) Try.func3 (by kernel_rfl)
    (of_decide_eq_true (by kernel_rfl)) (by unfold Func.isWrapper; first | (rw [if_pos (by decide +kernel)]; kernel_rfl) | (rw [if_neg (by decide +kernel)]; exact ⟨rfl, rfl⟩))
    (fun os started H enc _ => lifted os started H enc)

end Go.Proofs.Ytlppnjnimjbloaa.lawCountKeys
