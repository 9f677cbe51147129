/- The law FnExactDistanceOf: the program's function answers as the reference's, for all arguments. No condition. -/
import Derived.Test.YthcmeplidekndaaL03a
set_option linter.unusedVariables false
namespace Go.Proofs
open Go.Sx Go.RowKit
abbrev laws_FnExactDistanceOf_k0 (w : World) (Post : Value → World → Prop) (x287 : Value) (x291 : Value) (w354 : World) : Prop :=
  Calls Try.prog 17 #[x287] w354 (fun e355 w356 => ∃ u357 : Value, e355 = .returned u357 ∧ Keeps w.heap.size [23] w354 w356 ∧ Calls Try.prog 19 #[x291, u357] w356 (fun e358 w359 => ∃ b360 : Bool, e358 = .returned (Value.bool b360) ∧ Keeps w.heap.size [23] w356 w359 ∧ (((!b360) = true → Post (Value.bool false) w359) ∧ ((!b360) = false → Post (Value.bool true) w359))))
abbrev laws_FnExactDistanceOf_k1 (w : World) (Post : Value → World → Prop) (x211 : Value) (x212 : Value) (x215 : Value) (x216 : Value) (w274 : World) : Prop :=
  Calls Try.prog 17 #[x211] w274 (fun e275 w276 => ∃ u277 : Value, e275 = .returned u277 ∧ Keeps w.heap.size [23] w274 w276 ∧ Calls Try.prog 19 #[x215, u277] w276 (fun e278 w279 => ∃ b280 : Bool, e278 = .returned (Value.bool b280) ∧ Keeps w.heap.size [23] w276 w279 ∧ (((!b280) = true → Post (Value.bool false) w279) ∧ ((!b280) = false → (laws_FnExactDistanceOf_k0 w Post x212 x216 w279)))))
abbrev laws_FnExactDistanceOf_k2 (w : World) (Post : Value → World → Prop) (n52 : Int) (n69 : Int) (x142 : Value) (x143 : Value) (x146 : Value) (x147 : Value) (w205 : World) : Prop :=
  (((n69 ≠ n52) → Post (Value.bool false) w205) ∧ (¬ (n69 ≠ n52) → (laws_FnExactDistanceOf_k1 w Post x142 x143 x146 x147 w205)))
abbrev laws_FnExactDistanceOf_k3 (w : World) (Post : Value → World → Prop) (x24 : Value) (x25 : Value) (x30 : Int) (x31 : Int) (x32 : Int) (x33 : Int) (x34 : Int) (w35 : World) : Prop :=
  Calls Try.prog 16 #[(Value.agg #[(Value.int .i64 x30), (Value.int .i64 x31), (Value.int .i64 x32), (Value.int .i64 x33), (Value.int .i64 x34)])] w35 (fun e36 w37 => ∃ n38 : Int, ∃ n39 : Int, ∃ n40 : Int, ∃ n41 : Int, ∃ n42 : Int, e36 = .returned (Value.agg #[(Value.int .i64 n38), (Value.int .i64 n39), (Value.int .i64 n40), (Value.int .i64 n41), (Value.int .i64 n42)]) ∧ Keeps w.heap.size [23] w35 w37 ∧ Calls Try.prog 17 #[x24] w37 (fun e43 w44 => ∃ u45 : Value, e43 = .returned u45 ∧ Keeps w.heap.size [23] w37 w44 ∧ Calls Try.prog 17 #[x25] w44 (fun e46 w47 => ∃ u48 : Value, e46 = .returned u48 ∧ Keeps w.heap.size [23] w44 w47 ∧ Calls Try.prog 15 #[(Value.agg #[(Value.int .i64 n38), (Value.int .i64 n39), (Value.int .i64 n40), (Value.int .i64 n41), (Value.int .i64 n42)]), u45, u48] w47 (fun e49 w50 => ∃ n51 : Int, ∃ n52 : Int, e49 = .returned (Value.tuple #[(Value.int .i64 n51), (Value.int .i64 n52)]) ∧ Keeps w.heap.size [23] w47 w50 ∧ Calls Try.prog 17 #[x24] w50 (fun e53 w54 => ∃ u55 : Value, e53 = .returned u55 ∧ Keeps w.heap.size [23] w50 w54 ∧ Calls Try.prog 17 #[x25] w54 (fun e56 w57 => ∃ u58 : Value, e56 = .returned u58 ∧ Keeps w.heap.size [23] w54 w57 ∧ Calls Try.prog 16 #[(Value.agg #[(Value.int .i64 x30), (Value.int .i64 x31), (Value.int .i64 x32), (Value.int .i64 x33), (Value.int .i64 x34)])] w57 (fun e59 w60 => ∃ n61 : Int, ∃ n62 : Int, ∃ n63 : Int, ∃ n64 : Int, ∃ n65 : Int, e59 = .returned (Value.agg #[(Value.int .i64 n61), (Value.int .i64 n62), (Value.int .i64 n63), (Value.int .i64 n64), (Value.int .i64 n65)]) ∧ Keeps w.heap.size [23] w57 w60 ∧ Calls Try.prog 18 #[(Value.agg #[(Value.int .i64 n61), (Value.int .i64 n62), (Value.int .i64 n63), (Value.int .i64 n64), (Value.int .i64 n65)]), u55, u58] w60 (fun e66 w67 => ∃ n68 : Int, ∃ n69 : Int, e66 = .returned (Value.tuple #[(Value.int .i64 n68), (Value.int .i64 n69)]) ∧ Keeps w.heap.size [23] w60 w67 ∧ (((n68 ≠ n51) → Post (Value.bool false) w67) ∧ (¬ (n68 ≠ n51) → (laws_FnExactDistanceOf_k2 w Post n52 n69 x24 x25 u55 u58 w67)))))))))))
abbrev laws_FnExactDistanceOf_k4 (w : World) (Post : Value → World → Prop) (x8 : Value) (x9 : Value) (x12 : Int) (x13 : Int) (x14 : Int) (x15 : Int) (x16 : Int) (w17 : World) : Prop :=
  LenV x9 (fun n18 => ((((1048576 : Int) < n18) → Post (Value.bool true) w17) ∧ (¬ ((1048576 : Int) < n18) → (laws_FnExactDistanceOf_k3 w Post x8 x9 x12 x13 x14 x15 x16 w17))))
def laws_FnExactDistanceOf_vc (m_Chambers : Int) (m_Depths : Int) (m_Step : Int) (m_Same : Int) (m_Least : Int) (v : Value) (v2 : Value) (w : World) (Post : Value → World → Prop) : Prop :=
  ∀ w1 : World, Ext w w1 → LenV v (fun n2 => ((((1048576 : Int) < n2) → Post (Value.bool true) w1) ∧ (¬ ((1048576 : Int) < n2) → (laws_FnExactDistanceOf_k4 w Post v v2 m_Chambers m_Depths m_Step m_Same m_Least w1))))
theorem laws_FnExactDistanceOf_eq (m_Chambers : Int) (m_Depths : Int) (m_Step : Int) (m_Same : Int) (m_Least : Int) (v : Value) (v2 : Value) (w : World) (Post : Value → World → Prop) : denF Try.prog [1000017] noAnn 3 [(Value.agg #[(Value.int .i64 m_Chambers), (Value.int .i64 m_Depths), (Value.int .i64 m_Step), (Value.int .i64 m_Same), (Value.int .i64 m_Least)]), v, v2] w Post = laws_FnExactDistanceOf_vc m_Chambers m_Depths m_Step m_Same m_Least v v2 w Post := by kernel_rfl
set_option maxRecDepth 100000 in
theorem laws_FnExactDistanceOf_calls (m_Chambers : Int) (m_Depths : Int) (m_Step : Int) (m_Same : Int) (m_Least : Int) (v : Value) (v2 : Value) (w : World) (Post : Value → World → Prop) (hvc : laws_FnExactDistanceOf_vc m_Chambers m_Depths m_Step m_Same m_Least v v2 w Post) : Ret Try.prog 3 #[(Value.agg #[(Value.int .i64 m_Chambers), (Value.int .i64 m_Depths), (Value.int .i64 m_Step), (Value.int .i64 m_Same), (Value.int .i64 m_Least)]), v, v2] w Post :=
  Ret.of (denF_sound mixed (Eq.mpr (laws_FnExactDistanceOf_eq m_Chambers m_Depths m_Step m_Same m_Least v v2 w Post) hvc))

end Go.Proofs
namespace Go.Proofs.Ythcmeplidekndaa.lawDistanceOf
open Go.Proofs Go.Sx Go.RowKit Go.ChangeShapes Go.WideShapes Go.ChangeAt Go.Joins
theorem walk (c : Int) (_ : (Lit.int .i64 c).wf = true) (d : Int) (_ : (Lit.int .i64 d).wf = true) (s : Int) (_ : (Lit.int .i64 s).wf = true) (m : Int) (_ : (Lit.int .i64 m).wf = true) (l : Int) (_ : (Lit.int .i64 l).wf = true) (v : Value) (zv : List Int) (v2 : Value) (zv2 : List Int) (w : World) (hv : RI w v zv) (_ : ∀ z ∈ zv, (Lit.int .i64 z).wf = true) (hv2 : RI w v2 zv2) (_ : ∀ z ∈ zv2, (Lit.int .i64 z).wf = true) : Val Try.prog 3 #[mkV c d s m l, v, v2] w (.bool true) :=
  Ret.val (laws_FnExactDistanceOf_calls c d s m l v v2 w _ (by
    unfold laws_FnExactDistanceOf_vc
    obtain ⟨x, y, e⟩ := twoR_pair ⟨c, d, s, m, l⟩ zv zv2 (farTo zv zv2 zv.length)
    intro w1 k1
    refine (hv.ext k1).len ⟨fun h => ⟨rfl, k1⟩, fun hlv => ?_⟩
    refine (hv2.ext k1).len ⟨fun h => ⟨rfl, k1⟩, fun hlv2 => ?_⟩
    refine (laws_toMaker_val ..).call fun w2 h2 => ⟨_, _, _, _, _, rfl, h2.keeps, ?_⟩
    have k2 := k1.trans h2
    refine cp (hv.ext k2) hlv fun vs w3 ovs3 h3 _ => ⟨_, rfl, h3.keeps, ?_⟩
    have k3 := k2.trans h3
    refine cp (hv2.ext k3) hlv2 fun v2s w4 ov2s4 h4 _ => ⟨_, rfl, h4.keeps, ?_⟩
    have k4 := k3.trans h4
    have ap_vs_v2s := Apart.new ovs3 ov2s4
    have ovs4 := ovs3.ext h4
    refine (spec_DistanceOf_val ⟨c, d, s, m, l⟩ vs v2s zv zv2 w4 ovs4.rd ov2s4.rd).call fun w5 h5 => ⟨x, y, by rw [e], h5.keeps, ?_⟩
    have k5 := k4.trans h5
    have ovs5 := ovs4.ext h5
    have ov2s5 := ov2s4.ext h5
    refine cp (hv.ext k5) hlv fun vx w6 ovx6 h6 _ => ⟨_, rfl, h6.keeps, ?_⟩
    have k6 := k5.trans h6
    have b_vx : w.heap.size ≤ w5.heap.size := k5.size
    refine cp (hv2.ext k6) hlv2 fun v2x w7 ov2x7 h7 _ => ⟨_, rfl, h7.keeps, ?_⟩
    have k7 := k6.trans h7
    have ap_vx_v2x := Apart.new ovx6 ov2x7
    have ovx7 := ovx6.ext h7
    have b_v2x : w.heap.size ≤ w6.heap.size := k6.size
    refine (laws_toMaker_val ..).call fun w8 h8 => ⟨_, _, _, _, _, rfl, h8.keeps, ?_⟩
    have k8 := k7.trans h8
    have ovx8 := ovx7.ext h8
    have ov2x8 := ov2x7.ext h8
    refine (impl_DistanceOf_val ⟨c, d, s, m, l⟩ vx v2x zv zv2 w8 ovx8.rd ov2x8.rd).call fun w9 h9 => ⟨x, y, by rw [e], h9.keeps, ?_⟩
    have k9 := k8.trans h9
    have ovx9 := ovx8.ext h9
    have ov2x9 := ov2x8.ext h9
    refine ⟨fun h => absurd rfl h, fun _ => ?_⟩
    refine ⟨fun h => absurd rfl h, fun _ => ?_⟩
    refine cp (hv.ext k9) hlv fun vc w10 ovc10 h10 _ => ⟨_, rfl, h10.keeps, ?_⟩
    have k10 := k9.trans h10
    have ap_vx_vc := Apart.new ovx9 ovc10
    have ap_v2x_vc := Apart.new ov2x9 ovc10
    have ovx10 := ovx9.ext h10
    have ov2x10 := ov2x9.ext h10
    refine eq_same ovx10.rd ovc10.rd fun w11 h11 => ⟨true, rfl, h11.keeps, fun h => (by cases h), fun _ => ?_⟩
    have k11 := k10.trans h11
    have ovx11 := ovx10.ext h11
    have ov2x11 := ov2x10.ext h11
    have ovc11 := ovc10.ext h11
    refine cp (hv2.ext k11) hlv2 fun v2c w12 ov2c12 h12 _ => ⟨_, rfl, h12.keeps, ?_⟩
    have k12 := k11.trans h12
    have ap_vx_v2c := Apart.new ovx11 ov2c12
    have ap_v2x_v2c := Apart.new ov2x11 ov2c12
    have ovx12 := ovx11.ext h12
    have ov2x12 := ov2x11.ext h12
    refine eq_same ov2x12.rd ov2c12.rd fun w13 h13 => ⟨true, rfl, h13.keeps, fun h => (by cases h), fun _ => ?_⟩
    have k13 := k12.trans h13
    have ovx13 := ovx12.ext h13
    have ov2x13 := ov2x12.ext h13
    have ov2c13 := ov2c12.ext h13
    exact ⟨rfl, k13⟩))
set_option linter.unusedSimpArgs false in
theorem readable : ∀ t ∈ Try.f3.params.toList, Try.prog.readableRec t = true ∧ t < Try.prog.types.size := by
  rw [Try.params3]
  simp only [List.mem_cons, List.not_mem_nil, or_false, forall_eq_or_imp, forall_eq]
  exact ⟨⟨by kernel_rfl, of_decide_eq_true (by kernel_rfl)⟩, ⟨by kernel_rfl, of_decide_eq_true (by kernel_rfl)⟩, ⟨by kernel_rfl, of_decide_eq_true (by kernel_rfl)⟩⟩

set_option maxRecDepth 100000 in
theorem lifted (os : Os) (started : os.Started) (H : Type) (enc : TypeId × Value → H) :
    ReturnsInHanded {} Try.checked os 3 .any (Rows.fnExactDistanceOfSpec.pre6 enc Try.prog Try.f3 Rows.fnExactDistanceOfRow.domain false) (Rows.fnExactDistanceOfSpec.post enc Try.prog Try.f3 false true false false) := by
  refine returnsInHanded_of_change (C := Try.checked) ownKnobNone started (by kernel_rfl) Try.func3
    (ChangeSpec.witness6 (enc := enc) (C := Try.checked) false ⟨#[], #[.agg #[.int .i64 0, .int .i64 0, .int .i64 0, .int .i64 0, .int .i64 0], .slice none 0 0, .slice none 0 0], []⟩ 8 (by kernel_rfl) (by kernel_rfl) (by kernel_rfl) (by kernel_rfl)) ?_
  intro W base args ds gs before hval0 hW hcnd _
  have hval : ∀ (j : Nat) t v, Try.f3.params[j]? = some t → args[j]? = some v → Value.okWide Try.prog W .any base t v := hval0
  have hW' := hW
  obtain ⟨p, q, hA0, hV, rfl, hfz, hnd⟩ := hW
  have hA1 : DataW.TrodAll enc Try.prog W 0 (fun _ => true) true Try.f3.params.toList args.toList ds p := hA0
  have hA := hA1
  rw [Try.params3] at hA hval
  obtain ⟨v0, vs0, d0, ds0, p0, q0, hargs, rfl, rfl, h0, r0⟩ := trodAll_cons hA
  obtain ⟨v1, vs1, d1, ds1, p1, q1, rfl, rfl, rfl, h1, r1⟩ := trodAll_cons r0
  obtain ⟨v2, vs2, d2, ds2, p2, q2, rfl, rfl, rfl, h2, r2⟩ := trodAll_cons r1
  obtain ⟨rfl, rfl, rfl⟩ := trodAll_nil r2
  obtain rfl : args = #[v0, v1, v2] := by cases args; simp_all
  obtain ⟨rfl, rfl⟩ := trodVars_none hV
  obtain ⟨v0_0, v0_1, v0_2, v0_3, v0_4, y0_0, y0_1, y0_2, y0_3, y0_4, m0, rfl, rfl, rfl, g0_0, g0_1, g0_2, g0_3, g0_4⟩ := open_agg5 Try.underlying23 (by kernel_rfl) (by kernel_rfl) (hval 0 23 v0 rfl rfl) h0
  obtain ⟨a0_0, e0_0, rfl, w0_0⟩ := DataW.trod_int Try.underlying2 g0_0
  simp only [List.cons.injEq, and_true] at e0_0
  subst e0_0
  obtain ⟨a0_1, e0_1, rfl, w0_1⟩ := DataW.trod_int Try.underlying2 g0_1
  simp only [List.cons.injEq, and_true] at e0_1
  subst e0_1
  obtain ⟨a0_2, e0_2, rfl, w0_2⟩ := DataW.trod_int Try.underlying2 g0_2
  simp only [List.cons.injEq, and_true] at e0_2
  subst e0_2
  obtain ⟨a0_3, e0_3, rfl, w0_3⟩ := DataW.trod_int Try.underlying2 g0_3
  simp only [List.cons.injEq, and_true] at e0_3
  subst e0_3
  obtain ⟨a0_4, e0_4, rfl, w0_4⟩ := DataW.trod_int Try.underlying2 g0_4
  simp only [List.cons.injEq, and_true] at e0_4
  subst e0_4
  obtain ⟨z1, hz1, wz1⟩ := open_RI Try.underlying24 Try.underlying2 (by kernel_rfl) (hval 1 24 v1 rfl rfl) h1
  obtain ⟨z2, hz2, wz2⟩ := open_RI Try.underlying24 Try.underlying2 (by kernel_rfl) (hval 2 24 v2 rfl rfl) h2
  clear hA0 hval0
  refine (Val.calls (walk a0_0 w0_0 a0_1 w0_1 a0_2 w0_2 a0_3 w0_3 a0_4 w0_4 v1 z1 v2 z2 W hz1 wz1 hz2 wz2)).mono fun e W' ⟨he, hg⟩ => ?_
  subst he
  exact ⟨_, rfl, law_post laidOut readable hW' hA1 Try.underlying4 rfl rfl rfl hg⟩

theorem proved : Rows.FnExactDistanceOfSaid :=
  OpenClaim.holds_of_wide 3 Try.f3 rfl rfl rfl rfl rfl rfl rfl ⟨rfl, rfl, rfl, rfl, rfl⟩ rfl rfl rfl rfl rfl (by kernel_rfl) Try.func3 (by kernel_rfl)
    (of_decide_eq_true (by kernel_rfl)) (by unfold Func.isWrapper; first | (rw [if_pos (by decide +kernel)]; kernel_rfl) | (rw [if_neg (by decide +kernel)]; exact ⟨rfl, rfl⟩))
    (fun os started H enc _ => lifted os started H enc)

end Go.Proofs.Ythcmeplidekndaa.lawDistanceOf
