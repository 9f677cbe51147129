/- The law FnExactIsRising: the program's function answers as the reference's, for all arguments. No condition. -/
import Derived.Test.YtkkppckmjlobaaaLaws
set_option linter.unusedVariables false
namespace Go.Proofs
open Go.Sx Go.RowKit
def laws_FnExactIsRising_vc (v : Value) (n : Int) (zs : List Int) (w : World) (Post : Value → World → Prop) : Prop :=
  LenV v (fun n1 => ((((1048576 : Int) < n1) → Post (Value.bool true) w) ∧ (¬ ((1048576 : Int) < n1) → Calls Try.prog 18 #[v] w (fun e2 w3 => ∃ u4 : Value, e2 = .returned u4 ∧ Keeps w.heap.size [] w w3 ∧ Calls Try.prog 17 #[u4, (Value.int .i64 n)] w3 (fun e5 w6 => ∃ b7 : Bool, e5 = .returned (Value.bool b7) ∧ Keeps w.heap.size [] w3 w6 ∧ Calls Try.prog 18 #[v] w6 (fun e8 w9 => ∃ u10 : Value, e8 = .returned u10 ∧ Keeps w.heap.size [] w6 w9 ∧ Calls Try.prog 19 #[u10, (Value.int .i64 n)] w9 (fun e11 w12 => ∃ b13 : Bool, e11 = .returned (Value.bool b13) ∧ Keeps w.heap.size [] w9 w12 ∧ (((b13 ≠ b7) → Post (Value.bool false) w12) ∧ (¬ (b13 ≠ b7) → Calls Try.prog 18 #[v] w12 (fun e14 w15 => ∃ u16 : Value, e14 = .returned u16 ∧ Keeps w.heap.size [] w12 w15 ∧ Calls Try.prog 20 #[u10, u16] w15 (fun e17 w18 => ∃ b19 : Bool, e17 = .returned (Value.bool b19) ∧ Keeps w.heap.size [] w15 w18 ∧ (((!b19) = true → Post (Value.bool false) w18) ∧ ((!b19) = false → Post (Value.bool true) w18)))))))))))))
theorem laws_FnExactIsRising_eq (v : Value) (n : Int) (zs : List Int) (w : World) (Post : Value → World → Prop) : denF Try.prog [] noAnn 5 [v, (Value.int .i64 n)] w Post = laws_FnExactIsRising_vc v n zs w Post := by kernel_rfl
theorem laws_FnExactIsRising_calls (v : Value) (n : Int) (zs : List Int) (w : World) (Post : Value → World → Prop) (hvc : laws_FnExactIsRising_vc v n zs w Post) : Ret Try.prog 5 #[v, (Value.int .i64 n)] w Post :=
  Ret.of (denF_sound mixed ((laws_FnExactIsRising_eq v n zs w Post).symm ▸ hvc))

end Go.Proofs
namespace Go.Proofs.Ytkkppckmjlobaaa.lawIsRising
open Go.Proofs Go.Sx Go.RowKit Go.ChangeShapes Go.WideShapes Go.ChangeAt Go.Joins
theorem walk (v : Value) (zs : List Int) (n : Int) (_ : (Lit.int .i64 n).wf = true) (w : World) (hv : RI w v zs) (_ : ∀ z ∈ zs, (Lit.int .i64 z).wf = true) : Val Try.prog 5 #[v, .int .i64 n] w (.bool true) :=
  Ret.val (laws_FnExactIsRising_calls v n zs w _ (by
    unfold laws_FnExactIsRising_vc
    refine hv.len ⟨fun h => ⟨rfl, .refl w⟩, fun hl => ?_⟩
    refine cp hv hl fun u1 w1 _ h1 r1 => ⟨_, rfl, h1.keeps, ?_⟩
    refine (spec_IsRising_val u1 n zs w1 r1).call fun w2 h2 => ⟨_, rfl, h2.keeps, ?_⟩
    refine cp ((hv.ext h1).ext h2) hl fun u3 w3 _ h3 r3 => ⟨_, rfl, h3.keeps, ?_⟩
    refine (impl_IsRising_val u3 n zs w3 r3).call fun w4 h4 => ⟨_, rfl, h4.keeps, fun h => absurd rfl h, fun _ => ?_⟩
    refine cp ((((hv.ext h1).ext h2).ext h3).ext h4) hl fun u5 w5 _ h5 r5 => ⟨_, rfl, h5.keeps, ?_⟩
    refine eq_same ((r3.ext h4).ext h5) r5 fun w6 h6 => ⟨true, rfl, h6.keeps, fun h => (by cases h), fun _ => ⟨rfl, ((((h1.trans h2).trans h3).trans h4).trans h5).trans h6⟩⟩))
set_option linter.unusedSimpArgs false in
theorem readable : ∀ t ∈ Try.f5.params.toList, Try.prog.readableRec t = true ∧ t < Try.prog.types.size := by
  rw [Try.params5]
  simp only [List.mem_cons, List.not_mem_nil, or_false, forall_eq_or_imp, forall_eq]
  exact ⟨⟨by kernel_rfl, of_decide_eq_true (by kernel_rfl)⟩, ⟨by kernel_rfl, of_decide_eq_true (by kernel_rfl)⟩⟩

set_option maxRecDepth 100000 in
theorem lifted (os : Os) (started : os.Started) (H : Type) (enc : TypeId × Value → H) :
    ReturnsInHanded {} Try.checked os 5 .any (Rows.fnExactIsRisingSpec.pre6 enc Try.prog Try.f5 Rows.fnExactIsRisingRow.domain false) (Rows.fnExactIsRisingSpec.post enc Try.prog Try.f5 false true false false) := by
  refine returnsInHanded_of_change (C := Try.checked) ownKnobNone started (by kernel_rfl) Try.func5
    (ChangeSpec.witness6 (enc := enc) (C := Try.checked) false ⟨#[], #[.slice none 0 0, .int .i64 0], []⟩ 8 (by kernel_rfl) (by kernel_rfl) (by kernel_rfl) (by kernel_rfl)) ?_
  intro W base args ds gs before hval0 hW hcnd _
  have hval : ∀ (j : Nat) t v, Try.f5.params[j]? = some t → args[j]? = some v → Value.okWide Try.prog W .any base t v := hval0
  have hW' := hW
  obtain ⟨p, q, hA0, hV, rfl, hfz, hnd⟩ := hW
  have hA1 : DataW.TrodAll enc Try.prog W 0 (fun _ => true) true Try.f5.params.toList args.toList ds p := hA0
  have hA := hA1
  rw [Try.params5] at hA hval
  obtain ⟨v0, vs0, d0, ds0, p0, q0, hargs, rfl, rfl, h0, r0⟩ := trodAll_cons hA
  obtain ⟨v1, vs1, d1, ds1, p1, q1, rfl, rfl, rfl, h1, r1⟩ := trodAll_cons r0
  obtain ⟨rfl, rfl, rfl⟩ := trodAll_nil r1
  obtain rfl : args = #[v0, v1] := by cases args; simp_all
  obtain ⟨rfl, rfl⟩ := trodVars_none hV
  obtain ⟨z0, hz0, wz0⟩ := open_RI Try.underlying29 Try.underlying2 (by kernel_rfl) (hval 0 29 v0 rfl rfl) h0
  obtain ⟨a1, rfl, rfl, rfl, w1⟩ := open_int Try.underlying2 (hval 1 2 v1 rfl rfl) h1
  clear hA0 hval0
  refine (Val.calls (walk v0 z0 a1 w1 W hz0 wz0)).mono fun e W' ⟨he, hg⟩ => ?_
  subst he
  exact ⟨_, rfl, law_post laidOut readable hW' hA1 Try.underlying4 rfl rfl rfl hg⟩

theorem proved : Rows.FnExactIsRisingSaid :=
  OpenClaim.holds_of_wide 5 Try.f5 rfl rfl rfl rfl rfl rfl rfl ⟨rfl, rfl, rfl, rfl, rfl⟩ rfl rfl rfl rfl rfl (by kernel_rfl) Try.func5 (by kernel_rfl)
    (of_decide_eq_true (by kernel_rfl)) (by unfold Func.isWrapper; first | (rw [if_pos (by decide +kernel)]; kernel_rfl) | (rw [if_neg (by decide +kernel)]; exact ⟨rfl, rfl⟩))
    (fun os started H enc _ => lifted os started H enc)

end Go.Proofs.Ytkkppckmjlobaaa.lawIsRising
