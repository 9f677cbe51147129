/- The law FnExactReadKey: the program's function answers as the reference's, for all arguments. No condition. -/
import Derived.Test.YtlppnjnimjbloaaL02f
import Derived.ChangeMaps5
set_option linter.unusedVariables false
namespace Go.Proofs
open Go.Sx Go.RowKit
abbrev laws_FnExactReadKey_k0 (Post : Value → World → Prop) (x662 : Int) (x663 : Int) (w749 : World) : Prop :=
  (((x663 ≠ x662) → Post (Value.bool false) w749) ∧ (¬ (x663 ≠ x662) → Post (Value.bool true) w749))
abbrev laws_FnExactReadKey_k1 (w : World) (Post : Value → World → Prop) (x563 : Value) (x565 : Int) (w648 : World) : Prop :=
  Calls Try.prog 40 #[x563, (Value.int .i64 1)] w648 (fun e649 w650 => ∃ n651 : Int, e649 = .returned (Value.int .i64 n651) ∧ Keeps w.heap.size [23] w648 w650 ∧ (((n651 < (0 : Int)) → Post (Value.bool false) w650) ∧ (¬ (n651 < (0 : Int)) → (laws_FnExactReadKey_k0 Post x565 n651 w650))))
abbrev laws_FnExactReadKey_k2 (w : World) (Post : Value → World → Prop) (x293 : Int) (n365 : Int) (x469 : Value) (x471 : Int) (w554 : World) : Prop :=
  (((n365 ≠ x293) → Post (Value.bool false) w554) ∧ (¬ (n365 ≠ x293) → (laws_FnExactReadKey_k1 w Post x469 x471 w554)))
abbrev laws_FnExactReadKey_k3 (w : World) (Post : Value → World → Prop) (x291 : ByteArray) (x292 : Value) (x293 : Int) (x294 : Value) (x296 : Int) (x349 : Int) (x350 : Int) (x351 : Int) (x352 : Int) (x353 : Int) (w354 : World) : Prop :=
  Calls Try.prog 14 #[(Value.agg #[(Value.int .i64 x349), (Value.int .i64 x350), (Value.int .i64 x351), (Value.int .i64 x352), (Value.int .i64 x353)])] w354 (fun e355 w356 => ∃ n357 : Int, ∃ n358 : Int, ∃ n359 : Int, ∃ n360 : Int, ∃ n361 : Int, e355 = .returned (Value.agg #[(Value.int .i64 n357), (Value.int .i64 n358), (Value.int .i64 n359), (Value.int .i64 n360), (Value.int .i64 n361)]) ∧ Keeps w.heap.size [23] w354 w356 ∧ Calls Try.prog 44 #[(Value.agg #[(Value.int .i64 n357), (Value.int .i64 n358), (Value.int .i64 n359), (Value.int .i64 n360), (Value.int .i64 n361)]), (Value.string x291)] w356 (fun e362 w363 => ∃ u364 : Value, ∃ n365 : Int, e362 = .returned (Value.tuple #[u364, (Value.int .i64 n365)]) ∧ Keeps w.heap.size [23] w356 w363 ∧ Calls Try.prog 19 #[u364, x292] w363 (fun e366 w367 => ∃ b368 : Bool, e366 = .returned (Value.bool b368) ∧ Keeps w.heap.size [23] w363 w367 ∧ (((!b368) = true → Post (Value.bool false) w367) ∧ ((!b368) = false → (laws_FnExactReadKey_k2 w Post x293 n365 x294 x296 w367))))))
abbrev laws_FnExactReadKey_k4 (w : World) (Post : Value → World → Prop) (x224 : ByteArray) (x225 : Value) (x226 : Int) (x227 : Value) (x229 : Int) (x230 : Int) (x280 : Int) (x281 : Int) (x282 : Int) (x283 : Int) (x284 : Int) (w285 : World) : Prop :=
  (((x230 ≠ x229) → Post (Value.bool false) w285) ∧ (¬ (x230 ≠ x229) → (laws_FnExactReadKey_k3 w Post x224 x225 x226 x227 x229 x280 x281 x282 x283 x284 w285)))
abbrev laws_FnExactReadKey_k5 (w : World) (Post : Value → World → Prop) (x160 : ByteArray) (x161 : Value) (x162 : Int) (x163 : Value) (x207 : Int) (x208 : Int) (x209 : Int) (x210 : Int) (x211 : Int) (w212 : World) : Prop :=
  Calls Try.prog 39 #[x163, (Value.int .i64 1)] w212 (fun e213 w214 => ∃ n215 : Int, e213 = .returned (Value.int .i64 n215) ∧ Keeps w.heap.size [23] w212 w214 ∧ Calls Try.prog 40 #[x163, (Value.int .i64 1)] w214 (fun e216 w217 => ∃ n218 : Int, e216 = .returned (Value.int .i64 n218) ∧ Keeps w.heap.size [23] w214 w217 ∧ (((n218 < (0 : Int)) → Post (Value.bool false) w217) ∧ (¬ (n218 < (0 : Int)) → (laws_FnExactReadKey_k4 w Post x160 x161 x162 x163 n215 n218 x207 x208 x209 x210 x211 w217)))))
abbrev laws_FnExactReadKey_k6 (w : World) (Post : Value → World → Prop) (n26 : Int) (n37 : Int) (x102 : ByteArray) (x103 : Value) (x104 : Int) (x105 : Value) (x149 : Int) (x150 : Int) (x151 : Int) (x152 : Int) (x153 : Int) (w154 : World) : Prop :=
  (((n37 ≠ n26) → Post (Value.bool false) w154) ∧ (¬ (n37 ≠ n26) → (laws_FnExactReadKey_k5 w Post x102 x103 x104 x105 x149 x150 x151 x152 x153 w154)))
abbrev laws_FnExactReadKey_k7 (w : World) (Post : Value → World → Prop) (x7 : ByteArray) (x10 : Int) (x11 : Int) (x12 : Int) (x13 : Int) (x14 : Int) (w15 : World) : Prop :=
  Calls Try.prog 14 #[(Value.agg #[(Value.int .i64 x10), (Value.int .i64 x11), (Value.int .i64 x12), (Value.int .i64 x13), (Value.int .i64 x14)])] w15 (fun e16 w17 => ∃ n18 : Int, ∃ n19 : Int, ∃ n20 : Int, ∃ n21 : Int, ∃ n22 : Int, e16 = .returned (Value.agg #[(Value.int .i64 n18), (Value.int .i64 n19), (Value.int .i64 n20), (Value.int .i64 n21), (Value.int .i64 n22)]) ∧ Keeps w.heap.size [23] w15 w17 ∧ Calls Try.prog 43 #[(Value.agg #[(Value.int .i64 n18), (Value.int .i64 n19), (Value.int .i64 n20), (Value.int .i64 n21), (Value.int .i64 n22)]), (Value.string x7)] w17 (fun e23 w24 => ∃ u25 : Value, ∃ n26 : Int, e23 = .returned (Value.tuple #[u25, (Value.int .i64 n26)]) ∧ Keeps w.heap.size [23] w17 w24 ∧ Calls Try.prog 14 #[(Value.agg #[(Value.int .i64 x10), (Value.int .i64 x11), (Value.int .i64 x12), (Value.int .i64 x13), (Value.int .i64 x14)])] w24 (fun e27 w28 => ∃ n29 : Int, ∃ n30 : Int, ∃ n31 : Int, ∃ n32 : Int, ∃ n33 : Int, e27 = .returned (Value.agg #[(Value.int .i64 n29), (Value.int .i64 n30), (Value.int .i64 n31), (Value.int .i64 n32), (Value.int .i64 n33)]) ∧ Keeps w.heap.size [23] w24 w28 ∧ Calls Try.prog 44 #[(Value.agg #[(Value.int .i64 n29), (Value.int .i64 n30), (Value.int .i64 n31), (Value.int .i64 n32), (Value.int .i64 n33)]), (Value.string x7)] w28 (fun e34 w35 => ∃ u36 : Value, ∃ n37 : Int, e34 = .returned (Value.tuple #[u36, (Value.int .i64 n37)]) ∧ Keeps w.heap.size [23] w28 w35 ∧ Calls Try.prog 19 #[u36, u25] w35 (fun e38 w39 => ∃ b40 : Bool, e38 = .returned (Value.bool b40) ∧ Keeps w.heap.size [23] w35 w39 ∧ (((!b40) = true → Post (Value.bool false) w39) ∧ ((!b40) = false → (laws_FnExactReadKey_k6 w Post n26 n37 x7 u25 n26 u36 x10 x11 x12 x13 x14 w39))))))))
def laws_FnExactReadKey_vc (m_Chambers : Int) (m_Depths : Int) (m_Step : Int) (m_Same : Int) (m_Least : Int) (t : ByteArray) (w : World) (Post : Value → World → Prop) : Prop :=
  ∀ w1 : World, Ext w w1 → ((((1048576 : Int) < (t.size : Int)) → Post (Value.bool true) w1) ∧ (¬ ((1048576 : Int) < (t.size : Int)) → (laws_FnExactReadKey_k7 w Post t m_Chambers m_Depths m_Step m_Same m_Least w1)))
theorem laws_FnExactReadKey_eq (m_Chambers : Int) (m_Depths : Int) (m_Step : Int) (m_Same : Int) (m_Least : Int) (t : ByteArray) (w : World) (Post : Value → World → Prop) : denF Try.prog [] noAnn 11 [(Value.agg #[(Value.int .i64 m_Chambers), (Value.int .i64 m_Depths), (Value.int .i64 m_Step), (Value.int .i64 m_Same), (Value.int .i64 m_Least)]), (Value.string t)] w Post = laws_FnExactReadKey_vc m_Chambers m_Depths m_Step m_Same m_Least t w Post := by kernel_rfl
set_option maxRecDepth 100000 in
theorem laws_FnExactReadKey_calls (m_Chambers : Int) (m_Depths : Int) (m_Step : Int) (m_Same : Int) (m_Least : Int) (t : ByteArray) (w : World) (Post : Value → World → Prop) (hvc : laws_FnExactReadKey_vc m_Chambers m_Depths m_Step m_Same m_Least t w Post) : Ret Try.prog 11 #[(Value.agg #[(Value.int .i64 m_Chambers), (Value.int .i64 m_Depths), (Value.int .i64 m_Step), (Value.int .i64 m_Same), (Value.int .i64 m_Least)]), (Value.string t)] w Post :=
  Ret.of (denF_sound mixed (Eq.mpr (laws_FnExactReadKey_eq m_Chambers m_Depths m_Step m_Same m_Least t w Post) hvc))

end Go.Proofs
namespace Go.Proofs.Ytlppnjnimjbloaa.lawReadKey
open Go.Proofs Go.Sx Go.RowKit Go.ChangeShapes Go.WideShapes Go.ChangeAt Go.Joins
theorem walk (c : Int) (_ : (Lit.int .i64 c).wf = true) (d : Int) (_ : (Lit.int .i64 d).wf = true) (s : Int) (_ : (Lit.int .i64 s).wf = true) (m : Int) (_ : (Lit.int .i64 m).wf = true) (l : Int) (_ : (Lit.int .i64 l).wf = true) (t : ByteArray) (w : World)  : Val Try.prog 11 #[mkV c d s m l, .string t] w (.bool true) :=
  Ret.val (laws_FnExactReadKey_calls c d s m l t w _ (by
    unfold laws_FnExactReadKey_vc
    have hz := readKey_len ⟨c, d, s, m, l⟩ t
    intro w1 k1
    refine ⟨fun h => ⟨rfl, k1⟩, fun hlt => ?_⟩
    refine (laws_toMaker_val ..).call fun w2 h2 => ⟨_, _, _, _, _, rfl, h2.keeps, ?_⟩
    have k2 := k1.trans h2
    refine (spec_ReadKey_ret ⟨c, d, s, m, l⟩ t w2 (by omega)).call ?_
    rintro _ w3 ⟨a, rfl, oa3, h3⟩
    refine ⟨a, _, rfl, h3.keeps, ?_⟩
    have k3 := k2.trans h3
    have b_a : w.heap.size ≤ w2.heap.size := k2.size
    refine (laws_toMaker_val ..).call fun w4 h4 => ⟨_, _, _, _, _, rfl, h4.keeps, ?_⟩
    have k4 := k3.trans h4
    have oa4 := oa3.ext h4
    refine (impl_ReadKey_ret ⟨c, d, s, m, l⟩ t w4 (by omega)).call ?_
    rintro _ w5 ⟨b, rfl, ob5, h5⟩
    refine ⟨b, _, rfl, h5.keeps, ?_⟩
    have k5 := k4.trans h5
    have ap_a_b := Apart.new oa4 ob5
    have oa5 := oa4.ext h5
    have b_b : w.heap.size ≤ w4.heap.size := k4.size
    refine eq_same ob5.rd oa5.rd fun w6 h6 => ⟨true, rfl, h6.keeps, fun h => (by cases h), fun _ => ?_⟩
    have k6 := k5.trans h6
    have oa6 := oa5.ext h6
    have ob6 := ob5.ext h6
    refine ⟨fun h => absurd rfl h, fun _ => ?_⟩
    refine (laws_markInt64S_ret b 1 _ _ w6 ob6 (by decide) (by simp; omega)).call ?_
    rintro _ w7 ⟨rfl, mb7, g7⟩
    refine ⟨_, rfl, ob6.keepsG g7 (by decide), ?_⟩
    have k7 := k6.grown ob6 b_b g7
    have oa7 := oa6.grown g7 ap_a_b
    refine (laws_heldInt64S_val b 1 _ w7 mb7.rd (by decide) (by simp; omega)).call fun w8 h8 => ⟨_, rfl, h8.keeps, fun h => absurd h (by omega), fun _ => ⟨fun h => absurd rfl h, fun _ => ?_⟩⟩
    have k8 := k7.trans h8
    have oa8 := oa7.ext h8
    have ob8 := mb7.ext h8
    refine (laws_toMaker_val ..).call fun w9 h9 => ⟨_, _, _, _, _, rfl, h9.keeps, ?_⟩
    have k9 := k8.trans h9
    have oa9 := oa8.ext h9
    have ob9 := ob8.ext h9
    refine (impl_ReadKey_ret ⟨c, d, s, m, l⟩ t w9 (by omega)).call ?_
    rintro _ w10 ⟨e, rfl, oe10, h10⟩
    refine ⟨e, _, rfl, h10.keeps, ?_⟩
    have k10 := k9.trans h10
    have ap_a_e := Apart.new oa9 oe10
    have ap_b_e := Apart.new ob9 oe10
    have oa10 := oa9.ext h10
    have ob10 := ob9.ext h10
    have b_e : w.heap.size ≤ w9.heap.size := k9.size
    refine eq_same oe10.rd oa10.rd fun w11 h11 => ⟨true, rfl, h11.keeps, fun h => (by cases h), fun _ => ?_⟩
    have k11 := k10.trans h11
    have oa11 := oa10.ext h11
    have ob11 := ob10.ext h11
    have oe11 := oe10.ext h11
    refine ⟨fun h => absurd rfl h, fun _ => ?_⟩
    refine (laws_heldInt64S_val b 1 _ w11 ob11.rd (by decide) (by simp; omega)).call fun w12 h12 => ⟨_, rfl, h12.keeps, fun h => absurd h (by omega), fun _ => ⟨fun h => absurd rfl h, fun _ => ?_⟩⟩
    have k12 := k11.trans h12
    have ob12 := ob11.ext h12
    exact ⟨rfl, k12⟩))
set_option linter.unusedSimpArgs false in
theorem readable : ∀ t ∈ Try.f11.params.toList, Try.prog.readableRec t = true ∧ t < Try.prog.types.size := by
  rw [Try.params11]
  simp only [List.mem_cons, List.not_mem_nil, or_false, forall_eq_or_imp, forall_eq]
  exact ⟨⟨by kernel_rfl, of_decide_eq_true (by kernel_rfl)⟩, ⟨by kernel_rfl, of_decide_eq_true (by kernel_rfl)⟩⟩

set_option maxRecDepth 100000 in
theorem lifted (os : Os) (started : os.Started) (H : Type) (enc : TypeId × Value → H) :
    ReturnsInHanded {} Try.checked os 11 .any (Rows.fnExactReadKeySpec.pre6 enc Try.prog Try.f11 Rows.fnExactReadKeyRow.domain false) (Rows.fnExactReadKeySpec.post enc Try.prog Try.f11 false true false false) := by
  refine returnsInHanded_of_change (C := Try.checked) ownKnobNone started (by kernel_rfl) Try.func11
    (ChangeSpec.witness6 (enc := enc) (C := Try.checked) false ⟨#[], #[.agg #[.int .i64 0, .int .i64 0, .int .i64 0, .int .i64 0, .int .i64 0], .string ByteArray.empty], []⟩ 8 (by kernel_rfl) (by kernel_rfl) (by kernel_rfl) (by kernel_rfl)) ?_
  intro W base args ds gs before hval0 hW hcnd _
  have hval : ∀ (j : Nat) t v, Try.f11.params[j]? = some t → args[j]? = some v → Value.okWide Try.prog W .any base t v := hval0
  have hW' := hW
  obtain ⟨p, q, hA0, hV, rfl, hfz, hnd⟩ := hW
  have hA1 : DataW.TrodAll enc Try.prog W 0 (fun _ => true) true Try.f11.params.toList args.toList ds p := hA0
  have hA := hA1
  rw [Try.params11] at hA hval
  obtain ⟨v0, vs0, d0, ds0, p0, q0, hargs, rfl, rfl, h0, r0⟩ := trodAll_cons hA
  obtain ⟨v1, vs1, d1, ds1, p1, q1, rfl, rfl, rfl, h1, r1⟩ := trodAll_cons r0
  obtain ⟨rfl, rfl, rfl⟩ := trodAll_nil r1
  obtain rfl : args = #[v0, v1] := by cases args; simp_all
  obtain ⟨rfl, rfl⟩ := trodVars_none hV
  obtain ⟨v0_0, v0_1, v0_2, v0_3, v0_4, y0_0, y0_1, y0_2, y0_3, y0_4, m0, rfl, rfl, rfl, g0_0, g0_1, g0_2, g0_3, g0_4⟩ := open_agg5 Try.underlying23 (by kernel_rfl) (by kernel_rfl) (hval 0 23 v0 rfl rfl) h0
  obtain ⟨a0_0, e0_0, rfl, w0_0⟩ := DataW.trod_int Try.underlying2 g0_0
  simp only [List.cons.injEq, and_true] at e0_0
  subst e0_0
  obtain ⟨a0_1, e0_1, rfl, w0_1⟩ := DataW.trod_int Try.underlying2 g0_1
  simp only [List.cons.injEq, and_true] at e0_1
  subst e0_1
  obtain ⟨a0_2, e0_2, rfl, w0_2⟩ := DataW.trod_int Try.underlying2 g0_2
  simp only [List.cons.injEq, and_true] at e0_2
  subst e0_2
  obtain ⟨a0_3, e0_3, rfl, w0_3⟩ := DataW.trod_int Try.underlying2 g0_3
  simp only [List.cons.injEq, and_true] at e0_3
  subst e0_3
  obtain ⟨a0_4, e0_4, rfl, w0_4⟩ := DataW.trod_int Try.underlying2 g0_4
  simp only [List.cons.injEq, and_true] at e0_4
  subst e0_4
  obtain ⟨t1, rfl, rfl, rfl, hs1⟩ := Go.ChangeMaps.open_string Try.underlying9 (hval 1 9 v1 rfl rfl) h1
  clear hA0 hval0
  refine (Val.calls (walk a0_0 w0_0 a0_1 w0_1 a0_2 w0_2 a0_3 w0_3 a0_4 w0_4 t1 W )).mono fun e W' ⟨he, hg⟩ => ?_
  subst he
  exact ⟨_, rfl, law_post laidOut readable hW' hA1 Try.underlying4 rfl rfl rfl hg⟩

theorem proved : Rows.FnExactReadKeySaid :=
  OpenClaim.holds_of_wide 11 Try.f11 rfl rfl rfl rfl rfl rfl rfl ⟨rfl, rfl, rfl, rfl, rfl⟩ rfl rfl rfl rfl rfl (by kernel_rfl) Try.func11 (by kernel_rfl)
    (of_decide_eq_true (by kernel_rfl)) (by unfold Func.isWrapper; first | (rw [if_pos (by decide +kernel)]; kernel_rfl) | (rw [if_neg (by decide +kernel)]; exact ⟨rfl, rfl⟩))
    (fun os started H enc _ => lifted os started H enc)

end Go.Proofs.Ytlppnjnimjbloaa.lawReadKey
