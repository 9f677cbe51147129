/- The law FnDigits: a number is recovered from its digits. No condition. -/
import Derived.Test.YteolgidmaklbkaaLawsB
import Derived.Test.YteolgidmaklbkaaDraw9
import Derived.Test.YteolgidmaklbkaaL14
import Derived.Test.YteolgidmaklbkaaL01c
set_option linter.unusedVariables false
namespace Go.Proofs
open Go.Sx Go.RowKit
theorem numR_two (zs bs : List Int) : ∃ x y, numR zs bs = .tuple #[.int .i64 x, .int .i64 y] := by
  unfold numR
  split
  · exact lim_pair _
  · exact ⟨_, _, rfl⟩
theorem numb_from (bs : List Int) : ∀ (ds : List Int) (a : Int), ds.length = bs.length → DigOk (ds.zip bs) → dgs bs ((ds.zip bs).foldl (fun n p => n * p.2 + p.1) a) = (ds, a) := by
  induction bs with
  | nil =>
    intro ds a hl _
    obtain rfl : ds = [] := List.length_eq_zero_iff.1 hl
    rfl
  | cons b bs ih =>
    intro ds a hl hd
    match ds with
    | [] => simp at hl
    | d :: ds =>
      have h1 := hd (d, b) (by simp)
      have e := ih ds (a * b + d) (by simpa using hl) (fun p hp => hd p (by simp [hp]))
      simp only [List.zip_cons_cons, List.foldl_cons, dgs, e, Prod.mk.injEq, List.cons.injEq, and_true]
      have hb : 0 < b := by omega
      refine ⟨?_, ?_⟩
      · rw [Int.add_comm, Int.add_mul_emod_self_right]
        exact Int.emod_eq_of_lt (by omega) (by omega)
      · rw [Int.add_comm, Int.add_mul_ediv_right _ _ (by omega), Int.ediv_eq_zero_of_lt (by omega) (by omega)]
        omega
theorem numb_back (bs : List Int) (n : Int) : ((dgs bs n).1.zip bs).foldl (fun n p => n * p.2 + p.1) (dgs bs n).2 = n := by
  induction bs with
  | nil => rfl
  | cons b bs ih =>
    simp only [dgs, List.zip_cons_cons, List.foldl_cons]
    rw [show (dgs bs n).2 / b * b + (dgs bs n).2 % b = (dgs bs n).2 by rw [Int.mul_comm]; exact Int.mul_ediv_add_emod ..]
    exact ih
theorem dgs_digOk (bs : List Int) (n : Int) (hb : ∀ b ∈ bs, 1 ≤ b) : DigOk ((dgs bs n).1.zip bs) := by
  induction bs with
  | nil => intro p hp; simp [dgs] at hp
  | cons b bs ih =>
    intro p hp
    simp only [dgs, List.zip_cons_cons, List.mem_cons] at hp
    have h1 := hb b (List.mem_cons_self ..)
    rcases hp with rfl | hp
    · have := Int.emod_nonneg (dgs bs n).2 (show b ≠ 0 by omega)
      have := Int.emod_lt_of_pos (dgs bs n).2 (show 0 < b by omega)
      exact ⟨by assumption, by simp only; omega⟩
    · exact ih (fun x hx => hb x (List.mem_cons_of_mem _ hx)) p hp
theorem numb_pos (ps : List (Int × Int)) : ∀ a : Int, 0 ≤ a → DigOk ps → 0 ≤ ps.foldl (fun n p => n * p.2 + p.1) a := by
  induction ps with
  | nil => intro a h _; exact h
  | cons p ps ih =>
    intro a h hd
    have h1 := hd p (List.mem_cons_self ..)
    refine ih _ ?_ fun q hq => hd q (List.mem_cons_of_mem _ hq)
    have := Int.mul_nonneg h (show 0 ≤ p.2 by omega)
    show 0 ≤ a * p.2 + p.1
    omega
/-- a number of digits has them for digits -/
theorem num_digits {zs bs : List Int} {x : Int} (h : numR zs bs = .tuple #[.int .i64 x, .int .i64 0]) : digL x bs = zs ∧ digC x bs = 0 ∧ I64 x := by
  unfold numR at h
  split at h
  · rename_i hc
    unfold lim at h
    split at h
    · simp at h
    · rename_i hm
      simp only [Value.tuple.injEq, Array.mk.injEq, List.cons.injEq, Value.int.injEq, true_and, and_true] at h
      have hx : numb (zs.zip bs) = x := by simpa using h
      have e := numb_from bs zs 0 hc.2.1 hc.2.2
      have hp := numb_pos (zs.zip bs) 0 (Int.le_refl _) hc.2.2
      have e' : dgs bs x = (zs, 0) := by rw [← hx]; exact e
      have hd : DigD x bs := ⟨⟨by rw [← hx]; exact hp, by omega⟩, hc.1, by rw [e']; exact Int.le_refl _⟩
      refine ⟨?_, ?_, ?_⟩
      · rw [show digL x bs = _ from if_pos hd, e']
      · exact if_pos hd
      · have := hd.1
        unfold I64
        simp only [Mx] at this
        omega
  · simp [errR] at h
/-- the digits of a number have it for number -/
theorem digits_num {n : Int} {bs : List Int} (h : digC n bs = 0) : numR (digL n bs) bs = .tuple #[.int .i64 n, .int .i64 0] := by
  by_cases hd : DigD n bs
  · rw [show digL n bs = _ from if_pos hd]
    have hpos : ∀ b ∈ bs, 1 ≤ b := fun b hb => (hd.2.1.2 b hb).1
    have h0 := dgs_range bs hpos hd.1.1
    have e := numb_back bs n
    rw [show (dgs bs n).2 = 0 by have := hd.2.2; omega] at e
    unfold numR
    rw [if_pos ⟨hd.2.1, dgs_length _ _, dgs_digOk bs n hpos⟩]
    unfold lim numb
    rw [e, if_neg (by have := hd.1.2; omega)]
  · unfold digC at h
    rw [if_neg hd] at h
    omega
abbrev laws_FnDigits_k0 (w : World) (Post : Value → World → Prop) (x518 : Int) (x519 : Value) (x520 : Value) (w607 : World) : Prop :=
  Calls Try.prog 30 #[x520, x519] w607 (fun e608 w609 => ∃ n610 : Int, ∃ n611 : Int, e608 = .returned (Value.tuple #[(Value.int .i64 n610), (Value.int .i64 n611)]) ∧ Keeps w.heap.size [] w607 w609 ∧ (((n611 = (0 : Int)) → Post (Value.bool (decide (n610 = x518))) w609) ∧ (¬ (n611 = (0 : Int)) → Post (Value.bool false) w609)))
abbrev laws_FnDigits_k1 (w : World) (Post : Value → World → Prop) (x428 : Int) (x429 : Value) (x430 : Value) (x431 : Int) (w516 : World) : Prop :=
  (((x431 ≠ (0 : Int)) → Post (Value.bool true) w516) ∧ (¬ (x431 ≠ (0 : Int)) → (laws_FnDigits_k0 w Post x428 x429 x430 w516)))
abbrev laws_FnDigits_k2 (w : World) (Post : Value → World → Prop) (x338 : Int) (x339 : Value) (x340 : Value) (x341 : Int) (x425 : Bool) (w426 : World) : Prop :=
  ((x425 = true → Post (Value.bool false) w426) ∧ (x425 = false → (laws_FnDigits_k1 w Post x338 x339 x340 x341 w426)))
abbrev laws_FnDigits_k3 (w : World) (Post : Value → World → Prop) (x173 : Int) (x174 : Value) (x175 : Value) (x176 : Int) (x179 : Value) (x180 : Value) (x181 : Int) (x182 : Int) (w244 : World) : Prop :=
  (((x182 = (0 : Int)) → Calls Try.prog 17 #[(Value.int .i64 x181), x180] w244 (fun e245 w246 => ∃ u247 : Value, ∃ n248 : Int, e245 = .returned (Value.tuple #[u247, (Value.int .i64 n248)]) ∧ Keeps w.heap.size [] w244 w246 ∧ (((n248 ≠ (0 : Int)) → Post (Value.bool false) w246) ∧ (¬ (n248 ≠ (0 : Int)) → Calls Try.prog 32 #[u247, x179] w246 (fun e334 w335 => ∃ b336 : Bool, e334 = .returned (Value.bool b336) ∧ Keeps w.heap.size [] w246 w335 ∧ (laws_FnDigits_k2 w Post x173 x174 x175 x176 (!b336) w335)))))) ∧ (¬ (x182 = (0 : Int)) → (laws_FnDigits_k1 w Post x173 x174 x175 x176 w244)))
abbrev laws_FnDigits_k4 (w : World) (Post : Value → World → Prop) (n26 : Int) (n30 : Int) (x100 : Int) (x101 : Value) (x102 : Value) (x103 : Int) (x106 : Value) (x107 : Value) (x108 : Int) (x109 : Int) (w171 : World) : Prop :=
  (((n26 ≠ n30) → Post (Value.bool false) w171) ∧ (¬ (n26 ≠ n30) → (laws_FnDigits_k3 w Post x100 x101 x102 x103 x106 x107 x108 x109 w171)))
abbrev laws_FnDigits_k5 (w : World) (Post : Value → World → Prop) (x4 : Value) (w7 : World) : Prop :=
  Calls Try.prog 28 #[x4] w7 (fun e8 w9 => ∃ n10 : Int, ∃ u11 : Value, e8 = .returned (Value.tuple #[(Value.int .i64 n10), u11]) ∧ Keeps w.heap.size [] w7 w9 ∧ Calls Try.prog 17 #[(Value.int .i64 n10), u11] w9 (fun e12 w13 => ∃ u14 : Value, ∃ n15 : Int, e12 = .returned (Value.tuple #[u14, (Value.int .i64 n15)]) ∧ Keeps w.heap.size [] w9 w13 ∧ Calls Try.prog 15 #[(Value.int .i64 n10), u11] w13 (fun e16 w17 => ∃ u18 : Value, ∃ n19 : Int, e16 = .returned (Value.tuple #[u18, (Value.int .i64 n19)]) ∧ Keeps w.heap.size [] w13 w17 ∧ Calls Try.prog 29 #[x4] w17 (fun e20 w21 => ∃ u22 : Value, ∃ u23 : Value, e20 = .returned (Value.tuple #[u22, u23]) ∧ Keeps w.heap.size [] w17 w21 ∧ Calls Try.prog 30 #[u22, u23] w21 (fun e24 w25 => ∃ n26 : Int, ∃ n27 : Int, e24 = .returned (Value.tuple #[(Value.int .i64 n26), (Value.int .i64 n27)]) ∧ Keeps w.heap.size [] w21 w25 ∧ Calls Try.prog 31 #[u22, u23] w25 (fun e28 w29 => ∃ n30 : Int, ∃ n31 : Int, e28 = .returned (Value.tuple #[(Value.int .i64 n30), (Value.int .i64 n31)]) ∧ Keeps w.heap.size [] w25 w29 ∧ (((n15 ≠ n19) → Post (Value.bool false) w29) ∧ (¬ (n15 ≠ n19) → Calls Try.prog 32 #[u14, u18] w29 (fun e96 w97 => ∃ b98 : Bool, e96 = .returned (Value.bool b98) ∧ Keeps w.heap.size [] w29 w97 ∧ (((!b98) = true → Post (Value.bool false) w97) ∧ ((!b98) = false → (((n27 ≠ n31) → Post (Value.bool false) w97) ∧ (¬ (n27 ≠ n31) → (laws_FnDigits_k4 w Post n26 n30 n10 u11 u14 n15 u22 u23 n26 n27 w97))))))))))))))
def laws_FnDigits_vc (v : Value) (w : World) (Post : Value → World → Prop) : Prop :=
  Calls Try.prog 21 #[v] w (fun e1 w2 => ∃ b3 : Bool, e1 = .returned (Value.bool b3) ∧ Keeps w.heap.size [] w w2 ∧ ((b3 = true → Post (Value.bool true) w2) ∧ (b3 = false → (laws_FnDigits_k5 w Post v w2))))
theorem laws_FnDigits_eq (v : Value) (w : World) (Post : Value → World → Prop) : denF Try.prog [9400000, 9700000, 9800000] noAnn 5 [v] w Post = laws_FnDigits_vc v w Post := by kernel_rfl
set_option maxRecDepth 100000 in
theorem laws_FnDigits_calls (v : Value) (w : World) (Post : Value → World → Prop) (hvc : laws_FnDigits_vc v w Post) : Ret Try.prog 5 #[v] w Post :=
  Ret.of (denF_sound mixed (Eq.mpr (laws_FnDigits_eq v w Post) hvc))

end Go.Proofs
namespace Go.Proofs.Yteolgidmaklbkaa.lawFnDigits
open Go.Proofs Go.Sx Go.RowKit Go.ChangeShapes Go.WideShapes Go.ChangeAt Go.Joins
theorem walk (v : Value) (zs : List Int) (w : World) (h : RB w v zs) : Val Try.prog 5 #[v] w (.bool true) :=
  Ret.val (laws_FnDigits_calls v w _ (by
    unfold laws_FnDigits_vc
    refine (laws_big_ret v zs w h).call ?_
    rintro _ w1 ⟨⟨b, rfl⟩, h1⟩
    refine ⟨b, rfl, h1.keeps, fun _ => ⟨rfl, h1⟩, fun _ => ?_⟩
    refine (spec_DrawDigitsOf_ret v zs w1 (h.ext h1)).call ?_
    rintro _ w2 ⟨u, bs, n, rfl, hn, ru, h2⟩
    refine ⟨n, u, rfl, h2.keeps, ?_⟩
    have k2 := h1.trans h2
    refine (impl_DigitsOf_ret n u bs w2 ru hn).call ?_
    rintro _ w3 ⟨d, rfl, od, h3⟩
    refine ⟨d, _, rfl, h3.keeps, ?_⟩
    refine (spec_DigitsOf_ret n u bs w3 (ru.ext h3) hn).call ?_
    rintro _ w4 ⟨f, rfl, of, h4⟩
    refine ⟨f, _, rfl, h4.keeps, ?_⟩
    have k4 := (k2.trans h3).trans h4
    have ru4 := (ru.ext h3).ext h4
    have rd4 := od.rd.ext h4
    refine (spec_DrawNumberOf_ret v zs w4 (h.ext k4)).call ?_
    rintro _ w5 ⟨g, t, xs, ys, rfl, rg, rt, h5⟩
    refine ⟨g, t, rfl, h5.keeps, ?_⟩
    obtain ⟨x, y, e⟩ := numR_two xs ys
    refine (impl_NumberOf_val g t xs ys w5 rg rt).call fun w6 h6 => ⟨x, y, by rw [e], h6.keeps, ?_⟩
    refine (spec_NumberOf_val g t xs ys w6 (rg.ext h6) (rt.ext h6)).call fun w7 h7 => ⟨x, y, by rw [e], h7.keeps, fun hne => absurd rfl hne, fun _ => ?_⟩
    have h57 := (h5.trans h6).trans h7
    refine (laws_likeInts_val d f _ _ w7 (rd4.ext h57) (of.rd.ext h57)).call fun w8 h8 => ⟨true, by simp, h8.keeps, fun hf => (by cases hf), fun _ => ⟨fun hne => absurd rfl hne, fun _ => ⟨fun hne => absurd rfl hne, fun _ => ?_⟩⟩⟩
    have h58 := h57.trans h8
    have h68 := (h6.trans h7).trans h8
    have k8 := k4.trans h58
    have tail : ∀ W, Ext w8 W → laws_FnDigits_k1 w (fun u w' => u = .bool true ∧ Ext w w') n u d (digC n bs) W := by
      intro W hW
      have kW := k8.trans hW
      refine ⟨fun _ => ⟨rfl, kW⟩, fun hz => ?_⟩
      have hz : digC n bs = 0 := Classical.not_not.1 hz
      refine (impl_NumberOf_val d u _ bs W ((rd4.ext h58).ext hW) ((ru4.ext h58).ext hW)).call fun W2 hW2 => ⟨n, 0, by rw [digits_num hz], hW2.keeps, fun _ => ⟨by simp, kW.trans hW2⟩, fun hne => absurd rfl hne⟩
    refine ⟨fun hy => ?_, fun _ => tail w8 (.refl _)⟩
    subst hy
    obtain ⟨e1, e2, e3⟩ := num_digits e
    refine (impl_DigitsOf_ret x t ys w8 (rt.ext h68) e3).call ?_
    rintro _ w9 ⟨q, rfl, oq, h9⟩
    refine ⟨q, _, rfl, h9.keeps, fun hne => absurd e2 hne, fun _ => ?_⟩
    rw [e1] at oq
    refine (laws_likeInts_val q g _ _ w9 oq.rd ((rg.ext h68).ext h9)).call fun w10 h10 => ⟨true, by simp, h10.keeps, fun hf => (by cases hf), fun _ => tail w10 (h9.trans h10)⟩))
set_option linter.unusedSimpArgs false in
theorem readable : ∀ t ∈ Try.f5.params.toList, Try.prog.readableRec t = true ∧ t < Try.prog.types.size := by
  rw [Try.params5]
  simp only [List.mem_cons, List.not_mem_nil, or_false, forall_eq_or_imp, forall_eq]
  exact ⟨by kernel_rfl, of_decide_eq_true (by kernel_rfl)⟩

set_option maxRecDepth 100000 in
theorem lifted (os : Os) (started : os.Started) (H : Type) (enc : TypeId × Value → H) :
    ReturnsInHanded {} Try.checked os 5 .any (Rows.fnDigitsSpec.pre6 enc Try.prog Try.f5 Rows.fnDigitsRow.domain false) (Rows.fnDigitsSpec.post enc Try.prog Try.f5 false true false false) := by
  refine returnsInHanded_of_change (C := Try.checked) ownKnobNone started (by kernel_rfl) Try.func5
    (ChangeSpec.witness6 (enc := enc) (C := Try.checked) false ⟨#[], #[.slice none 0 0], []⟩ 8 (by kernel_rfl) (by kernel_rfl) (by kernel_rfl) (by kernel_rfl)) ?_
  intro W base args ds gs before hval0 hW hcnd _
  have hval : ∀ (j : Nat) t v, Try.f5.params[j]? = some t → args[j]? = some v → Value.okWide Try.prog W .any base t v := hval0
  have hW' := hW
  obtain ⟨p, q, hA0, hV, rfl, hfz, hnd⟩ := hW
  have hA1 : DataW.TrodAll enc Try.prog W 0 (fun _ => true) true Try.f5.params.toList args.toList ds p := hA0
  have hA := hA1
  rw [Try.params5] at hA hval
  obtain ⟨v0, vs0, d0, ds0, p0, q0, hargs, rfl, rfl, h0, r0⟩ := trodAll_cons hA
  obtain ⟨rfl, rfl, rfl⟩ := trodAll_nil r0
  obtain rfl : args = #[v0] := by cases args; simp_all
  obtain ⟨rfl, rfl⟩ := trodVars_none hV
  obtain ⟨z0, hz0⟩ := open_RB Try.underlying29 Try.underlying5 (by kernel_rfl) (hval 0 29 v0 rfl rfl) h0
  clear hA0 hval0
  refine (Val.calls (walk v0 z0 W hz0)).mono fun e W' ⟨he, hg⟩ => ?_
  subst he
  exact ⟨_, rfl, law_post laidOut readable hW' hA1 Try.underlying4 rfl rfl rfl hg⟩

theorem proved : Rows.FnDigitsSaid :=
  OpenClaim.holds_of_wide 5 Try.f5 rfl rfl rfl rfl rfl rfl rfl ⟨rfl, rfl, rfl, rfl, rfl⟩ rfl rfl rfl rfl rfl (by kernel_rfl) Try.func5 (by kernel_rfl)
    (of_decide_eq_true (by kernel_rfl)) (by unfold Func.isWrapper; first | (rw [if_pos (by decide +kernel)]; kernel_rfl) | (rw [if_neg (by decide +kernel)]; exact ⟨rfl, rfl⟩))
    (fun os started H enc _ => lifted os started H enc)

end Go.Proofs.Yteolgidmaklbkaa.lawFnDigits
