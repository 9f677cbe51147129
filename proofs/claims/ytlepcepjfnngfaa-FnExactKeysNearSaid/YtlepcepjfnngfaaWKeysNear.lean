/- The law FnExactKeysNear: the program's function answers as the reference's, for all arguments. No condition. -/
import Derived.Test.YtlepcepjfnngfaaL03e
set_option linter.unusedVariables false
namespace Go.Proofs
open Go.Sx Go.RowKit
abbrev laws_FnExactKeysNear_k0 (w : World) (Post : Value → World → Prop) (x175 : Value) (x179 : Value) (w232 : World) : Prop :=
  Calls Try.prog 16 #[x175] w232 (fun e233 w234 => ∃ u235 : Value, e233 = .returned u235 ∧ Keeps w.heap.size [23] w232 w234 ∧ Calls Try.prog 18 #[x179, u235] w234 (fun e236 w237 => ∃ b238 : Bool, e236 = .returned (Value.bool b238) ∧ Keeps w.heap.size [23] w234 w237 ∧ (((!b238) = true → Post (Value.bool false) w237) ∧ ((!b238) = false → Post (Value.bool true) w237))))
abbrev laws_FnExactKeysNear_k1 (w : World) (Post : Value → World → Prop) (n31 : Int) (n45 : Int) (x112 : Value) (x116 : Value) (w169 : World) : Prop :=
  (((n45 ≠ n31) → Post (Value.bool false) w169) ∧ (¬ (n45 ≠ n31) → (laws_FnExactKeysNear_k0 w Post x112 x116 w169)))
abbrev laws_FnExactKeysNear_k2 (w : World) (Post : Value → World → Prop) (x8 : Value) (x9 : Int) (x12 : Int) (x13 : Int) (x14 : Int) (x15 : Int) (x16 : Int) (w17 : World) : Prop :=
  Calls Try.prog 15 #[(Value.agg #[(Value.int .i64 x12), (Value.int .i64 x13), (Value.int .i64 x14), (Value.int .i64 x15), (Value.int .i64 x16)])] w17 (fun e18 w19 => ∃ n20 : Int, ∃ n21 : Int, ∃ n22 : Int, ∃ n23 : Int, ∃ n24 : Int, e18 = .returned (Value.agg #[(Value.int .i64 n20), (Value.int .i64 n21), (Value.int .i64 n22), (Value.int .i64 n23), (Value.int .i64 n24)]) ∧ Keeps w.heap.size [23] w17 w19 ∧ Calls Try.prog 16 #[x8] w19 (fun e25 w26 => ∃ u27 : Value, e25 = .returned u27 ∧ Keeps w.heap.size [23] w19 w26 ∧ Calls Try.prog 14 #[(Value.agg #[(Value.int .i64 n20), (Value.int .i64 n21), (Value.int .i64 n22), (Value.int .i64 n23), (Value.int .i64 n24)]), u27, (Value.int .i64 x9)] w26 (fun e28 w29 => ∃ n30 : Int, ∃ n31 : Int, e28 = .returned (Value.tuple #[(Value.int .i64 n30), (Value.int .i64 n31)]) ∧ Keeps w.heap.size [23] w26 w29 ∧ Calls Try.prog 16 #[x8] w29 (fun e32 w33 => ∃ u34 : Value, e32 = .returned u34 ∧ Keeps w.heap.size [23] w29 w33 ∧ Calls Try.prog 15 #[(Value.agg #[(Value.int .i64 x12), (Value.int .i64 x13), (Value.int .i64 x14), (Value.int .i64 x15), (Value.int .i64 x16)])] w33 (fun e35 w36 => ∃ n37 : Int, ∃ n38 : Int, ∃ n39 : Int, ∃ n40 : Int, ∃ n41 : Int, e35 = .returned (Value.agg #[(Value.int .i64 n37), (Value.int .i64 n38), (Value.int .i64 n39), (Value.int .i64 n40), (Value.int .i64 n41)]) ∧ Keeps w.heap.size [23] w33 w36 ∧ Calls Try.prog 17 #[(Value.agg #[(Value.int .i64 n37), (Value.int .i64 n38), (Value.int .i64 n39), (Value.int .i64 n40), (Value.int .i64 n41)]), u34, (Value.int .i64 x9)] w36 (fun e42 w43 => ∃ n44 : Int, ∃ n45 : Int, e42 = .returned (Value.tuple #[(Value.int .i64 n44), (Value.int .i64 n45)]) ∧ Keeps w.heap.size [23] w36 w43 ∧ (((n44 ≠ n30) → Post (Value.bool false) w43) ∧ (¬ (n44 ≠ n30) → (laws_FnExactKeysNear_k1 w Post n31 n45 x8 u34 w43)))))))))
def laws_FnExactKeysNear_vc (m_Chambers : Int) (m_Depths : Int) (m_Step : Int) (m_Same : Int) (m_Least : Int) (v : Value) (n : Int) (w : World) (Post : Value → World → Prop) : Prop :=
  ∀ w1 : World, Ext w w1 → LenV v (fun n2 => ((((1048576 : Int) < n2) → Post (Value.bool true) w1) ∧ (¬ ((1048576 : Int) < n2) → (laws_FnExactKeysNear_k2 w Post v n m_Chambers m_Depths m_Step m_Same m_Least w1))))
theorem laws_FnExactKeysNear_eq (m_Chambers : Int) (m_Depths : Int) (m_Step : Int) (m_Same : Int) (m_Least : Int) (v : Value) (n : Int) (w : World) (Post : Value → World → Prop) : denF Try.prog [1000016] noAnn 3 [(Value.agg #[(Value.int .i64 m_Chambers), (Value.int .i64 m_Depths), (Value.int .i64 m_Step), (Value.int .i64 m_Same), (Value.int .i64 m_Least)]), v, (Value.int .i64 n)] w Post = laws_FnExactKeysNear_vc m_Chambers m_Depths m_Step m_Same m_Least v n w Post := by kernel_rfl
set_option maxRecDepth 100000 in
theorem laws_FnExactKeysNear_calls (m_Chambers : Int) (m_Depths : Int) (m_Step : Int) (m_Same : Int) (m_Least : Int) (v : Value) (n : Int) (w : World) (Post : Value → World → Prop) (hvc : laws_FnExactKeysNear_vc m_Chambers m_Depths m_Step m_Same m_Least v n w Post) : Ret Try.prog 3 #[(Value.agg #[(Value.int .i64 m_Chambers), (Value.int .i64 m_Depths), (Value.int .i64 m_Step), (Value.int .i64 m_Same), (Value.int .i64 m_Least)]), v, (Value.int .i64 n)] w Post :=
  Ret.of (denF_sound mixed (Eq.mpr (laws_FnExactKeysNear_eq m_Chambers m_Depths m_Step m_Same m_Least v n w Post) hvc))

end Go.Proofs
namespace Go.Proofs.Ytlepcepjfnngfaa.lawKeysNear
open Go.Proofs Go.Sx Go.RowKit Go.ChangeShapes Go.WideShapes Go.ChangeAt Go.Joins
theorem walk (c : Int) (_ : (Lit.int .i64 c).wf = true) (d : Int) (_ : (Lit.int .i64 d).wf = true) (s : Int) (_ : (Lit.int .i64 s).wf = true) (m : Int) (_ : (Lit.int .i64 m).wf = true) (l : Int) (_ : (Lit.int .i64 l).wf = true) (v : Value) (zv : List Int) (n : Int) (hn : (Lit.int .i64 n).wf = true) (w : World) (hv : RI w v zv) (_ : ∀ z ∈ zv, (Lit.int .i64 z).wf = true) : Val Try.prog 3 #[mkV c d s m l, v, .int .i64 n] w (.bool true) :=
  Ret.val (laws_FnExactKeysNear_calls c d s m l v n w _ (by
    unfold laws_FnExactKeysNear_vc
    obtain ⟨x, y, e⟩ := nearR_pair ⟨c, d, s, m, l⟩ zv n
    intro w1 k1
    refine (hv.ext k1).len ⟨fun h => ⟨rfl, k1⟩, fun hlv => ?_⟩
    refine (laws_toMaker_val ..).call fun w2 h2 => ⟨_, _, _, _, _, rfl, h2.keeps, ?_⟩
    have k2 := k1.trans h2
    refine cp (hv.ext k2) hlv fun vs w3 ovs3 h3 _ => ⟨_, rfl, h3.keeps, ?_⟩
    have k3 := k2.trans h3
    refine (spec_KeysNear_val ⟨c, d, s, m, l⟩ vs zv n w3 ovs3.rd).call fun w4 h4 => ⟨x, y, by rw [e], h4.keeps, ?_⟩
    have k4 := k3.trans h4
    have ovs4 := ovs3.ext h4
    refine cp (hv.ext k4) hlv fun vx w5 ovx5 h5 _ => ⟨_, rfl, h5.keeps, ?_⟩
    have k5 := k4.trans h5
    have b_vx : w.heap.size ≤ w4.heap.size := k4.size
    refine (laws_toMaker_val ..).call fun w6 h6 => ⟨_, _, _, _, _, rfl, h6.keeps, ?_⟩
    have k6 := k5.trans h6
    have ovx6 := ovx5.ext h6
    refine (impl_KeysNear_val ⟨c, d, s, m, l⟩ vx zv n w6 ovx6.rd).call fun w7 h7 => ⟨x, y, by rw [e], h7.keeps, ?_⟩
    have k7 := k6.trans h7
    have ovx7 := ovx6.ext h7
    refine ⟨fun h => absurd rfl h, fun _ => ?_⟩
    refine ⟨fun h => absurd rfl h, fun _ => ?_⟩
    refine cp (hv.ext k7) hlv fun vc w8 ovc8 h8 _ => ⟨_, rfl, h8.keeps, ?_⟩
    have k8 := k7.trans h8
    have ap_vx_vc := Apart.new ovx7 ovc8
    have ovx8 := ovx7.ext h8
    refine eq_same ovx8.rd ovc8.rd fun w9 h9 => ⟨true, rfl, h9.keeps, fun h => (by cases h), fun _ => ?_⟩
    have k9 := k8.trans h9
    have ovx9 := ovx8.ext h9
    have ovc9 := ovc8.ext h9
    exact ⟨rfl, k9⟩))
set_option linter.unusedSimpArgs false in
theorem readable : ∀ t ∈ Try.f3.params.toList, Try.prog.readableRec t = true ∧ t < Try.prog.types.size := by
  rw [Try.params3]
  simp only [List.mem_cons, List.not_mem_nil, or_false, forall_eq_or_imp, forall_eq]
  exact ⟨⟨by kernel_rfl, of_decide_eq_true (by kernel_rfl)⟩, ⟨by kernel_rfl, of_decide_eq_true (by kernel_rfl)⟩, ⟨by kernel_rfl, of_decide_eq_true (by kernel_rfl)⟩⟩

set_option maxRecDepth 100000 in
theorem lifted (os : Os) (started : os.Started) (H : Type) (enc : TypeId × Value → H) :
    ReturnsInHanded {} Try.checked os 3 .any (Rows.fnExactKeysNearSpec.pre6 enc Try.prog Try.f3 Rows.fnExactKeysNearRow.domain false) (Rows.fnExactKeysNearSpec.post enc Try.prog Try.f3 false true false false) := by
  refine returnsInHanded_of_change (C := Try.checked) ownKnobNone started (by kernel_rfl) Try.func3
    (ChangeSpec.witness6 (enc := enc) (C := Try.checked) false ⟨#[], #[.agg #[.int .i64 0, .int .i64 0, .int .i64 0, .int .i64 0, .int .i64 0], .slice none 0 0, .int .i64 0], []⟩ 8 (by kernel_rfl) (by kernel_rfl) (by kernel_rfl) (by kernel_rfl)) ?_
  intro W base args ds gs before hval0 hW hcnd _
  have hval : ∀ (j : Nat) t v, Try.f3.params[j]? = some t → args[j]? = some v → Value.okWide Try.prog W .any base t v := hval0
  have hW' := hW
  obtain ⟨p, q, hA0, hV, rfl, hfz, hnd⟩ := hW
  have hA1 : DataW.TrodAll enc Try.prog W 0 (fun _ => true) true Try.f3.params.toList args.toList ds p := hA0
  have hA := hA1
  rw [Try.params3] at hA hval
  obtain ⟨v0, vs0, d0, ds0, p0, q0, hargs, rfl, rfl, h0, r0⟩ := trodAll_cons hA
  obtain ⟨v1, vs1, d1, ds1, p1, q1, rfl, rfl, rfl, h1, r1⟩ := trodAll_cons r0
  obtain ⟨v2, vs2, d2, ds2, p2, q2, rfl, rfl, rfl, h2, r2⟩ := trodAll_cons r1
  obtain ⟨rfl, rfl, rfl⟩ := trodAll_nil r2
  obtain rfl : args = #[v0, v1, v2] := by cases args; simp_all
  obtain ⟨rfl, rfl⟩ := trodVars_none hV
  obtain ⟨v0_0, v0_1, v0_2, v0_3, v0_4, y0_0, y0_1, y0_2, y0_3, y0_4, m0, rfl, rfl, rfl, g0_0, g0_1, g0_2, g0_3, g0_4⟩ := open_agg5 Try.underlying23 (by kernel_rfl) (by kernel_rfl) (hval 0 23 v0 rfl rfl) h0
  obtain ⟨a0_0, e0_0, rfl, w0_0⟩ := DataW.trod_int Try.underlying2 g0_0
  simp only [List.cons.injEq, and_true] at e0_0
  subst e0_0
  obtain ⟨a0_1, e0_1, rfl, w0_1⟩ := DataW.trod_int Try.underlying2 g0_1
  simp only [List.cons.injEq, and_true] at e0_1
  subst e0_1
  obtain ⟨a0_2, e0_2, rfl, w0_2⟩ := DataW.trod_int Try.underlying2 g0_2
  simp only [List.cons.injEq, and_true] at e0_2
  subst e0_2
  obtain ⟨a0_3, e0_3, rfl, w0_3⟩ := DataW.trod_int Try.underlying2 g0_3
  simp only [List.cons.injEq, and_true] at e0_3
  subst e0_3
  obtain ⟨a0_4, e0_4, rfl, w0_4⟩ := DataW.trod_int Try.underlying2 g0_4
  simp only [List.cons.injEq, and_true] at e0_4
  subst e0_4
  obtain ⟨z1, hz1, wz1⟩ := open_RI Try.underlying24 Try.underlying2 (by kernel_rfl) (hval 1 24 v1 rfl rfl) h1
  obtain ⟨a2, rfl, rfl, rfl, w2⟩ := open_int Try.underlying2 (hval 2 2 v2 rfl rfl) h2
  clear hA0 hval0
  refine (Val.calls (walk a0_0 w0_0 a0_1 w0_1 a0_2 w0_2 a0_3 w0_3 a0_4 w0_4 v1 z1 a2 w2 W hz1 wz1)).mono fun e W' ⟨he, hg⟩ => ?_
  subst he
  exact ⟨_, rfl, law_post laidOut readable hW' hA1 Try.underlying4 rfl rfl rfl hg⟩

theorem proved : Rows.FnExactKeysNearSaid :=
  OpenClaim.holds_of_wide 3 Try.f3 rfl rfl rfl rfl rfl rfl rfl ⟨rfl, rfl, rfl, rfl, rfl⟩ rfl rfl rfl rfl rfl (by kernel_rfl) Try.func3 (by kernel_rfl)
    (of_decide_eq_true (by kernel_rfl)) (by unfold Func.isWrapper; first | (rw [if_pos (by decide +kernel)]; kernel_rfl) | (rw [if_neg (by decide +kernel)]; exact ⟨rfl, rfl⟩))
    (fun os started H enc _ => lifted os started H enc)

end Go.Proofs.Ytlepcepjfnngfaa.lawKeysNear
