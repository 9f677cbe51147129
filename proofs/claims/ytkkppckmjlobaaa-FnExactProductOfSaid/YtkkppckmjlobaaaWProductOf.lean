/- The law FnExactProductOf: the program's function answers as the reference's, for all arguments. No condition. -/
import Derived.Test.YtkkppckmjlobaaaLaws
set_option linter.unusedVariables false
namespace Go.Proofs
open Go.Sx Go.RowKit
def laws_FnExactProductOf_vc (v : Value) (zs : List Int) (w : World) (Post : Value → World → Prop) : Prop :=
  LenV v (fun n1 => ((((1048576 : Int) < n1) → Post (Value.bool true) w) ∧ (¬ ((1048576 : Int) < n1) → Calls Try.prog 18 #[v] w (fun e2 w3 => ∃ u4 : Value, e2 = .returned u4 ∧ Keeps w.heap.size [] w w3 ∧ Calls Try.prog 36 #[u4] w3 (fun e5 w6 => ∃ n7 : Int, ∃ n8 : Int, e5 = .returned (Value.tuple #[(Value.int .i64 n7), (Value.int .i64 n8)]) ∧ Keeps w.heap.size [] w3 w6 ∧ Calls Try.prog 18 #[v] w6 (fun e9 w10 => ∃ u11 : Value, e9 = .returned u11 ∧ Keeps w.heap.size [] w6 w10 ∧ Calls Try.prog 37 #[u11] w10 (fun e12 w13 => ∃ n14 : Int, ∃ n15 : Int, e12 = .returned (Value.tuple #[(Value.int .i64 n14), (Value.int .i64 n15)]) ∧ Keeps w.heap.size [] w10 w13 ∧ (((n14 ≠ n7) → Post (Value.bool false) w13) ∧ (¬ (n14 ≠ n7) → (((n15 ≠ n8) → Post (Value.bool false) w13) ∧ (¬ (n15 ≠ n8) → Calls Try.prog 18 #[v] w13 (fun e16 w17 => ∃ u18 : Value, e16 = .returned u18 ∧ Keeps w.heap.size [] w13 w17 ∧ Calls Try.prog 20 #[u11, u18] w17 (fun e19 w20 => ∃ b21 : Bool, e19 = .returned (Value.bool b21) ∧ Keeps w.heap.size [] w17 w20 ∧ (((!b21) = true → Post (Value.bool false) w20) ∧ ((!b21) = false → Post (Value.bool true) w20)))))))))))))))
theorem laws_FnExactProductOf_eq (v : Value) (zs : List Int) (w : World) (Post : Value → World → Prop) : denF Try.prog [] noAnn 12 [v] w Post = laws_FnExactProductOf_vc v zs w Post := by kernel_rfl
theorem laws_FnExactProductOf_calls (v : Value) (zs : List Int) (w : World) (Post : Value → World → Prop) (hvc : laws_FnExactProductOf_vc v zs w Post) : Ret Try.prog 12 #[v] w Post :=
  Ret.of (denF_sound mixed ((laws_FnExactProductOf_eq v zs w Post).symm ▸ hvc))

end Go.Proofs
namespace Go.Proofs.Ytkkppckmjlobaaa.lawProductOf
open Go.Proofs Go.Sx Go.RowKit Go.ChangeShapes Go.WideShapes Go.ChangeAt Go.Joins
theorem walk (v : Value) (zs : List Int) (w : World) (hv : RI w v zs) (_ : ∀ z ∈ zs, (Lit.int .i64 z).wf = true) : Val Try.prog 12 #[v] w (.bool true) :=
  Ret.val (laws_FnExactProductOf_calls v zs w _ (by
    unfold laws_FnExactProductOf_vc
    refine hv.len ⟨fun h => ⟨rfl, .refl w⟩, fun hl => ?_⟩
    obtain ⟨x, y, e⟩ := prodR_pair zs
    refine cp hv hl fun u1 w1 _ h1 r1 => ⟨_, rfl, h1.keeps, ?_⟩
    refine (spec_ProductOf_val u1 zs w1 r1).call fun w2 h2 => ⟨x, y, by rw [e], h2.keeps, ?_⟩
    refine cp ((hv.ext h1).ext h2) hl fun u3 w3 _ h3 r3 => ⟨_, rfl, h3.keeps, ?_⟩
    refine (impl_ProductOf_val u3 zs w3 r3).call fun w4 h4 => ⟨x, y, by rw [e], h4.keeps, fun h => absurd rfl h, fun _ => ⟨fun h => absurd rfl h, fun _ => ?_⟩⟩
    refine cp ((((hv.ext h1).ext h2).ext h3).ext h4) hl fun u5 w5 _ h5 r5 => ⟨_, rfl, h5.keeps, ?_⟩
    refine eq_same ((r3.ext h4).ext h5) r5 fun w6 h6 => ⟨true, rfl, h6.keeps, fun h => (by cases h), fun _ => ⟨rfl, ((((h1.trans h2).trans h3).trans h4).trans h5).trans h6⟩⟩))
set_option linter.unusedSimpArgs false in
theorem readable : ∀ t ∈ Try.f12.params.toList, Try.prog.readableRec t = true ∧ t < Try.prog.types.size := by
  rw [Try.params12]
  simp only [List.mem_cons, List.not_mem_nil, or_false, forall_eq_or_imp, forall_eq]
  exact ⟨by kernel_rfl, of_decide_eq_true (by kernel_rfl)⟩

set_option maxRecDepth 100000 in
theorem lifted (os : Os) (started : os.Started) (H : Type) (enc : TypeId × Value → H) :
    ReturnsInHanded {} Try.checked os 12 .any (Rows.fnExactProductOfSpec.pre6 enc Try.prog Try.f12 Rows.fnExactProductOfRow.domain false) (Rows.fnExactProductOfSpec.post enc Try.prog Try.f12 false true false false) := by
  refine returnsInHanded_of_change (C := Try.checked) ownKnobNone started (by kernel_rfl) Try.func12
    (ChangeSpec.witness6 (enc := enc) (C := Try.checked) false ⟨#[], #[.slice none 0 0], []⟩ 8 (by kernel_rfl) (by kernel_rfl) (by kernel_rfl) (by kernel_rfl)) ?_
  intro W base args ds gs before hval0 hW hcnd _
  have hval : ∀ (j : Nat) t v, Try.f12.params[j]? = some t → args[j]? = some v → Value.okWide Try.prog W .any base t v := hval0
  have hW' := hW
  obtain ⟨p, q, hA0, hV, rfl, hfz, hnd⟩ := hW
  have hA1 : DataW.TrodAll enc Try.prog W 0 (fun _ => true) true Try.f12.params.toList args.toList ds p := hA0
  have hA := hA1
  rw [Try.params12] at hA hval
  obtain ⟨v0, vs0, d0, ds0, p0, q0, hargs, rfl, rfl, h0, r0⟩ := trodAll_cons hA
  obtain ⟨rfl, rfl, rfl⟩ := trodAll_nil r0
  obtain rfl : args = #[v0] := by cases args; simp_all
  obtain ⟨rfl, rfl⟩ := trodVars_none hV
  obtain ⟨z0, hz0, wz0⟩ := open_RI Try.underlying29 Try.underlying2 (by kernel_rfl) (hval 0 29 v0 rfl rfl) h0
  clear hA0 hval0
  refine (Val.calls (walk v0 z0 W hz0 wz0)).mono fun e W' ⟨he, hg⟩ => ?_
  subst he
  exact ⟨_, rfl, law_post laidOut readable hW' hA1 Try.underlying4 rfl rfl rfl hg⟩

theorem proved : Rows.FnExactProductOfSaid :=
  OpenClaim.holds_of_wide 12 Try.f12 rfl rfl rfl rfl rfl rfl rfl ⟨rfl, rfl, rfl, rfl, rfl⟩ rfl rfl rfl rfl rfl (by kernel_rfl) Try.func12 (by kernel_rfl)
    (of_decide_eq_true (by kernel_rfl)) (by unfold Func.isWrapper; first | (rw [if_pos (by decide +kernel)]; kernel_rfl) | (rw [if_neg (by decide +kernel)]; exact ⟨rfl, rfl⟩))
    (fun os started H enc _ => lifted os started H enc)

end Go.Proofs.Ytkkppckmjlobaaa.lawProductOf
