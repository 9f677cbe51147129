/- The law FnExactChooseOf: the program's function answers as the reference's, for all arguments. No condition. -/
import Derived.Test.YtkkppckmjlobaaaL01c
set_option linter.unusedVariables false
namespace Go.Proofs
open Go.Sx Go.RowKit
def laws_FnExactChooseOf_vc (a : Int) (b : Int) (w : World) (Post : Value → World → Prop) : Prop :=
  Calls Try.prog 21 #[(Value.int .i64 a), (Value.int .i64 b)] w (fun e1 w2 => ∃ n3 : Int, ∃ n4 : Int, e1 = .returned (Value.tuple #[(Value.int .i64 n3), (Value.int .i64 n4)]) ∧ Keeps w.heap.size [] w w2 ∧ Calls Try.prog 22 #[(Value.int .i64 a), (Value.int .i64 b)] w2 (fun e5 w6 => ∃ n7 : Int, ∃ n8 : Int, e5 = .returned (Value.tuple #[(Value.int .i64 n7), (Value.int .i64 n8)]) ∧ Keeps w.heap.size [] w2 w6 ∧ (((n7 ≠ n3) → Post (Value.bool false) w6) ∧ (¬ (n7 ≠ n3) → (((n8 ≠ n4) → Post (Value.bool false) w6) ∧ (¬ (n8 ≠ n4) → Post (Value.bool true) w6))))))
theorem laws_FnExactChooseOf_eq (a : Int) (b : Int) (w : World) (Post : Value → World → Prop) : denF Try.prog [] noAnn 6 [(Value.int .i64 a), (Value.int .i64 b)] w Post = laws_FnExactChooseOf_vc a b w Post := by kernel_rfl
theorem laws_FnExactChooseOf_calls (a : Int) (b : Int) (w : World) (Post : Value → World → Prop) (hvc : laws_FnExactChooseOf_vc a b w Post) : Ret Try.prog 6 #[(Value.int .i64 a), (Value.int .i64 b)] w Post :=
  Ret.of (denF_sound mixed ((laws_FnExactChooseOf_eq a b w Post).symm ▸ hvc))

end Go.Proofs
namespace Go.Proofs.Ytkkppckmjlobaaa.lawChooseOf
open Go.Proofs Go.Sx Go.RowKit Go.ChangeShapes Go.WideShapes Go.ChangeAt Go.Joins
theorem walk (a : Int) (_ : (Lit.int .i64 a).wf = true) (b : Int) (_ : (Lit.int .i64 b).wf = true) (w : World) : Val Try.prog 6 #[.int .i64 a, .int .i64 b] w (.bool true) :=
  Ret.val (laws_FnExactChooseOf_calls a b w _ (by
    unfold laws_FnExactChooseOf_vc
    obtain ⟨x, y, e⟩ := chooseR_pair a b
    refine (spec_ChooseOf_val a b w).call fun w2 h2 => ⟨x, y, by rw [e], h2.keeps, ?_⟩
    exact (impl_ChooseOf_val a b w2).call fun w4 h4 => ⟨x, y, by rw [e], h4.keeps, fun h => absurd rfl h, fun _ => ⟨fun h => absurd rfl h, fun _ => ⟨rfl, h2.trans h4⟩⟩⟩))
set_option linter.unusedSimpArgs false in
theorem readable : ∀ t ∈ Try.f6.params.toList, Try.prog.readableRec t = true ∧ t < Try.prog.types.size := by
  rw [Try.params6]
  simp only [List.mem_cons, List.not_mem_nil, or_false, forall_eq_or_imp, forall_eq]
  exact ⟨⟨by kernel_rfl, of_decide_eq_true (by kernel_rfl)⟩, ⟨by kernel_rfl, of_decide_eq_true (by kernel_rfl)⟩⟩

set_option maxRecDepth 100000 in
theorem lifted (os : Os) (started : os.Started) (H : Type) (enc : TypeId × Value → H) :
    ReturnsInHanded {} Try.checked os 6 .any (Rows.fnExactChooseOfSpec.pre6 enc Try.prog Try.f6 Rows.fnExactChooseOfRow.domain false) (Rows.fnExactChooseOfSpec.post enc Try.prog Try.f6 false true false false) := by
  refine returnsInHanded_of_change (C := Try.checked) ownKnobNone started (by kernel_rfl) Try.func6
    (ChangeSpec.witness6 (enc := enc) (C := Try.checked) false ⟨#[], #[.int .i64 0, .int .i64 0], []⟩ 8 (by kernel_rfl) (by kernel_rfl) (by kernel_rfl) (by kernel_rfl)) ?_
  intro W base args ds gs before hval0 hW hcnd _
  have hval : ∀ (j : Nat) t v, Try.f6.params[j]? = some t → args[j]? = some v → Value.okWide Try.prog W .any base t v := hval0
  have hW' := hW
  obtain ⟨p, q, hA0, hV, rfl, hfz, hnd⟩ := hW
  have hA1 : DataW.TrodAll enc Try.prog W 0 (fun _ => true) true Try.f6.params.toList args.toList ds p := hA0
  have hA := hA1
  rw [Try.params6] at hA hval
  obtain ⟨v0, vs0, d0, ds0, p0, q0, hargs, rfl, rfl, h0, r0⟩ := trodAll_cons hA
  obtain ⟨v1, vs1, d1, ds1, p1, q1, rfl, rfl, rfl, h1, r1⟩ := trodAll_cons r0
  obtain ⟨rfl, rfl, rfl⟩ := trodAll_nil r1
  obtain rfl : args = #[v0, v1] := by cases args; simp_all
  obtain ⟨rfl, rfl⟩ := trodVars_none hV
  obtain ⟨a0, rfl, rfl, rfl, w0⟩ := open_int Try.underlying2 (hval 0 2 v0 rfl rfl) h0
  obtain ⟨a1, rfl, rfl, rfl, w1⟩ := open_int Try.underlying2 (hval 1 2 v1 rfl rfl) h1
  clear hA0 hval0
  refine (Val.calls (walk a0 w0 a1 w1 W )).mono fun e W' ⟨he, hg⟩ => ?_
  subst he
  exact ⟨_, rfl, law_post laidOut readable hW' hA1 Try.underlying4 rfl rfl rfl hg⟩

theorem proved : Rows.FnExactChooseOfSaid :=
  OpenClaim.holds_of_wide 6 Try.f6 rfl rfl rfl rfl rfl rfl rfl ⟨rfl, rfl, rfl, rfl, rfl⟩ rfl rfl rfl rfl rfl (by kernel_rfl) Try.func6 (by kernel_rfl)
    (of_decide_eq_true (by kernel_rfl)) (by unfold Func.isWrapper; first | (rw [if_pos (by decide +kernel)]; kernel_rfl) | (rw [if_neg (by decide +kernel)]; exact ⟨rfl, rfl⟩))
    (fun os started H enc _ => lifted os started H enc)

end Go.Proofs.Ytkkppckmjlobaaa.lawChooseOf
