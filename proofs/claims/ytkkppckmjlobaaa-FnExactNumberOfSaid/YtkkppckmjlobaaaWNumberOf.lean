/- The law FnExactNumberOf: the program's function answers as the reference's, for all arguments. No condition. -/
import Derived.Test.YtkkppckmjlobaaaLaws
set_option linter.unusedVariables false
namespace Go.Proofs
open Go.Sx Go.RowKit
def laws_FnExactNumberOf_vc (v : Value) (u : Value) (zs bs : List Int) (w : World) (Post : Value → World → Prop) : Prop :=
  LenV v (fun n1 => ((((1048576 : Int) < n1) → Post (Value.bool true) w) ∧ (¬ ((1048576 : Int) < n1) → LenV u (fun n2 => ((((1048576 : Int) < n2) → Post (Value.bool true) w) ∧ (¬ ((1048576 : Int) < n2) → Calls Try.prog 18 #[v] w (fun e3 w4 => ∃ u5 : Value, e3 = .returned u5 ∧ Keeps w.heap.size [] w w4 ∧ Calls Try.prog 18 #[u] w4 (fun e6 w7 => ∃ u8 : Value, e6 = .returned u8 ∧ Keeps w.heap.size [] w4 w7 ∧ Calls Try.prog 27 #[u5, u8] w7 (fun e9 w10 => ∃ n11 : Int, ∃ n12 : Int, e9 = .returned (Value.tuple #[(Value.int .i64 n11), (Value.int .i64 n12)]) ∧ Keeps w.heap.size [] w7 w10 ∧ Calls Try.prog 18 #[v] w10 (fun e13 w14 => ∃ u15 : Value, e13 = .returned u15 ∧ Keeps w.heap.size [] w10 w14 ∧ Calls Try.prog 18 #[u] w14 (fun e16 w17 => ∃ u18 : Value, e16 = .returned u18 ∧ Keeps w.heap.size [] w14 w17 ∧ Calls Try.prog 28 #[u15, u18] w17 (fun e19 w20 => ∃ n21 : Int, ∃ n22 : Int, e19 = .returned (Value.tuple #[(Value.int .i64 n21), (Value.int .i64 n22)]) ∧ Keeps w.heap.size [] w17 w20 ∧ (((n21 ≠ n11) → Post (Value.bool false) w20) ∧ (¬ (n21 ≠ n11) → (((n22 ≠ n12) → Post (Value.bool false) w20) ∧ (¬ (n22 ≠ n12) → Calls Try.prog 18 #[v] w20 (fun e23 w24 => ∃ u25 : Value, e23 = .returned u25 ∧ Keeps w.heap.size [] w20 w24 ∧ Calls Try.prog 20 #[u15, u25] w24 (fun e26 w27 => ∃ b28 : Bool, e26 = .returned (Value.bool b28) ∧ Keeps w.heap.size [] w24 w27 ∧ (((!b28) = true → Post (Value.bool false) w27) ∧ ((!b28) = false → Calls Try.prog 18 #[u] w27 (fun e29 w30 => ∃ u31 : Value, e29 = .returned u31 ∧ Keeps w.heap.size [] w27 w30 ∧ Calls Try.prog 20 #[u18, u31] w30 (fun e32 w33 => ∃ b34 : Bool, e32 = .returned (Value.bool b34) ∧ Keeps w.heap.size [] w30 w33 ∧ (((!b34) = true → Post (Value.bool false) w33) ∧ ((!b34) = false → Post (Value.bool true) w33))))))))))))))))))))))))
theorem laws_FnExactNumberOf_eq (v : Value) (u : Value) (zs bs : List Int) (w : World) (Post : Value → World → Prop) : denF Try.prog [] noAnn 9 [v, u] w Post = laws_FnExactNumberOf_vc v u zs bs w Post := by kernel_rfl
theorem laws_FnExactNumberOf_calls (v : Value) (u : Value) (zs bs : List Int) (w : World) (Post : Value → World → Prop) (hvc : laws_FnExactNumberOf_vc v u zs bs w Post) : Ret Try.prog 9 #[v, u] w Post :=
  Ret.of (denF_sound mixed ((laws_FnExactNumberOf_eq v u zs bs w Post).symm ▸ hvc))

end Go.Proofs
namespace Go.Proofs.Ytkkppckmjlobaaa.lawNumberOf
open Go.Proofs Go.Sx Go.RowKit Go.ChangeShapes Go.WideShapes Go.ChangeAt Go.Joins
theorem walk (v : Value) (zs : List Int) (u : Value) (bs : List Int) (w : World) (hv : RI w v zs) (_ : ∀ z ∈ zs, (Lit.int .i64 z).wf = true) (hu : RI w u bs) (_ : ∀ z ∈ bs, (Lit.int .i64 z).wf = true) : Val Try.prog 9 #[v, u] w (.bool true) :=
  Ret.val (laws_FnExactNumberOf_calls v u zs bs w _ (by
    unfold laws_FnExactNumberOf_vc
    refine hv.len ⟨fun h => ⟨rfl, .refl w⟩, fun hl => ?_⟩
    refine hu.len ⟨fun h => ⟨rfl, .refl w⟩, fun hb => ?_⟩
    obtain ⟨x, y, e⟩ := numR_pair zs bs
    refine cp hv hl fun u1 w1 _ h1 r1 => ⟨_, rfl, h1.keeps, ?_⟩
    refine cp (hu.ext h1) hb fun u2 w2 _ h2 r2 => ⟨_, rfl, h2.keeps, ?_⟩
    refine (spec_NumberOf_val u1 u2 zs bs w2 (r1.ext h2) r2).call fun w3 h3 => ⟨x, y, by rw [e], h3.keeps, ?_⟩
    have k3 := (h1.trans h2).trans h3
    refine cp (hv.ext k3) hl fun u4 w4 _ h4 r4 => ⟨_, rfl, h4.keeps, ?_⟩
    refine cp (hu.ext (k3.trans h4)) hb fun u5 w5 _ h5 r5 => ⟨_, rfl, h5.keeps, ?_⟩
    refine (impl_NumberOf_val u4 u5 zs bs w5 (r4.ext h5) r5).call fun w6 h6 => ⟨x, y, by rw [e], h6.keeps, fun h => absurd rfl h, fun _ => ⟨fun h => absurd rfl h, fun _ => ?_⟩⟩
    have k6 := ((k3.trans h4).trans h5).trans h6
    refine cp (hv.ext k6) hl fun u7 w7 _ h7 r7 => ⟨_, rfl, h7.keeps, ?_⟩
    refine eq_same (((r4.ext h5).ext h6).ext h7) r7 fun w8 h8 => ⟨true, rfl, h8.keeps, fun h => (by cases h), fun _ => ?_⟩
    have k8 := (k6.trans h7).trans h8
    refine cp (hu.ext k8) hb fun u9 w9 _ h9 r9 => ⟨_, rfl, h9.keeps, ?_⟩
    refine eq_same ((((r5.ext h6).ext h7).ext h8).ext h9) r9 fun w10 h10 => ⟨true, rfl, h10.keeps, fun h => (by cases h), fun _ => ⟨rfl, (k8.trans h9).trans h10⟩⟩))
set_option linter.unusedSimpArgs false in
theorem readable : ∀ t ∈ Try.f9.params.toList, Try.prog.readableRec t = true ∧ t < Try.prog.types.size := by
  rw [Try.params9]
  simp only [List.mem_cons, List.not_mem_nil, or_false, forall_eq_or_imp, forall_eq]
  exact ⟨⟨by kernel_rfl, of_decide_eq_true (by kernel_rfl)⟩, ⟨by kernel_rfl, of_decide_eq_true (by kernel_rfl)⟩⟩

set_option maxRecDepth 100000 in
theorem lifted (os : Os) (started : os.Started) (H : Type) (enc : TypeId × Value → H) :
    ReturnsInHanded {} Try.checked os 9 .any (Rows.fnExactNumberOfSpec.pre6 enc Try.prog Try.f9 Rows.fnExactNumberOfRow.domain false) (Rows.fnExactNumberOfSpec.post enc Try.prog Try.f9 false true false false) := by
  refine returnsInHanded_of_change (C := Try.checked) ownKnobNone started (by kernel_rfl) Try.func9
    (ChangeSpec.witness6 (enc := enc) (C := Try.checked) false ⟨#[], #[.slice none 0 0, .slice none 0 0], []⟩ 8 (by kernel_rfl) (by kernel_rfl) (by kernel_rfl) (by kernel_rfl)) ?_
  intro W base args ds gs before hval0 hW hcnd _
  have hval : ∀ (j : Nat) t v, Try.f9.params[j]? = some t → args[j]? = some v → Value.okWide Try.prog W .any base t v := hval0
  have hW' := hW
  obtain ⟨p, q, hA0, hV, rfl, hfz, hnd⟩ := hW
  have hA1 : DataW.TrodAll enc Try.prog W 0 (fun _ => true) true Try.f9.params.toList args.toList ds p := hA0
  have hA := hA1
  rw [Try.params9] at hA hval
  obtain ⟨v0, vs0, d0, ds0, p0, q0, hargs, rfl, rfl, h0, r0⟩ := trodAll_cons hA
  obtain ⟨v1, vs1, d1, ds1, p1, q1, rfl, rfl, rfl, h1, r1⟩ := trodAll_cons r0
  obtain ⟨rfl, rfl, rfl⟩ := trodAll_nil r1
  obtain rfl : args = #[v0, v1] := by cases args; simp_all
  obtain ⟨rfl, rfl⟩ := trodVars_none hV
  obtain ⟨z0, hz0, wz0⟩ := open_RI Try.underlying29 Try.underlying2 (by kernel_rfl) (hval 0 29 v0 rfl rfl) h0
  obtain ⟨z1, hz1, wz1⟩ := open_RI Try.underlying29 Try.underlying2 (by kernel_rfl) (hval 1 29 v1 rfl rfl) h1
  clear hA0 hval0
  refine (Val.calls (walk v0 z0 v1 z1 W hz0 wz0 hz1 wz1)).mono fun e W' ⟨he, hg⟩ => ?_
  subst he
  exact ⟨_, rfl, law_post laidOut readable hW' hA1 Try.underlying4 rfl rfl rfl hg⟩

theorem proved : Rows.FnExactNumberOfSaid :=
  OpenClaim.holds_of_wide 9 Try.f9 rfl rfl rfl rfl rfl rfl rfl ⟨rfl, rfl, rfl, rfl, rfl⟩ rfl rfl rfl rfl rfl (by kernel_rfl) Try.func9 (by kernel_rfl)
    (of_decide_eq_true (by kernel_rfl)) (by unfold Func.isWrapper; first | (rw [if_pos (by decide +kernel)]; kernel_rfl) | (rw [if_neg (by decide +kernel)]; exact ⟨rfl, rfl⟩))
    (fun os started H enc _ => lifted os started H enc)

end Go.Proofs.Ytkkppckmjlobaaa.lawNumberOf
