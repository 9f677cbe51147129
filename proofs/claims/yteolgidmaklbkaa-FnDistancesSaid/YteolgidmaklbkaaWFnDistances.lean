/- The law FnDistances: differences and distances are symmetric, and mirroring does not change them. No condition. -/
import Derived.Test.YteolgidmaklbkaaLawsB
import Derived.Test.YteolgidmaklbkaaDraw5
import Derived.Test.YteolgidmaklbkaaP03
set_option linter.unusedVariables false
namespace Go.Proofs
open Go.Sx Go.RowKit
abbrev laws_FnDistances_k0 (w : World) (Post : Value → World → Prop) (x552 : Value) (x553 : Value) (x554 : Int) (x558 : Int) (x713 : Int) (x714 : Int) (x715 : Int) (x716 : Int) (x717 : Int) (w723 : World) : Prop :=
  Calls Try.prog 89 #[(Value.agg #[(Value.int .i64 x713), (Value.int .i64 x714), (Value.int .i64 x715), (Value.int .i64 x716), (Value.int .i64 x717)]), x553, x552] w723 (fun e724 w725 => ∃ n726 : Int, ∃ n727 : Int, e724 = .returned (Value.tuple #[(Value.int .i64 n726), (Value.int .i64 n727)]) ∧ Keeps w.heap.size [56, 56] w723 w725 ∧ Calls Try.prog 92 #[(Value.agg #[(Value.int .i64 x713), (Value.int .i64 x714), (Value.int .i64 x715), (Value.int .i64 x716), (Value.int .i64 x717)]), x552] w725 (fun e728 w729 => ∃ u730 : Value, ∃ n731 : Int, e728 = .returned (Value.tuple #[u730, (Value.int .i64 n731)]) ∧ Keeps w.heap.size [56, 56] w725 w729 ∧ Calls Try.prog 92 #[(Value.agg #[(Value.int .i64 x713), (Value.int .i64 x714), (Value.int .i64 x715), (Value.int .i64 x716), (Value.int .i64 x717)]), x553] w729 (fun e732 w733 => ∃ u734 : Value, ∃ n735 : Int, e732 = .returned (Value.tuple #[u734, (Value.int .i64 n735)]) ∧ Keeps w.heap.size [56, 56] w729 w733 ∧ Calls Try.prog 89 #[(Value.agg #[(Value.int .i64 x713), (Value.int .i64 x714), (Value.int .i64 x715), (Value.int .i64 x716), (Value.int .i64 x717)]), u730, u734] w733 (fun e736 w737 => ∃ n738 : Int, ∃ n739 : Int, e736 = .returned (Value.tuple #[(Value.int .i64 n738), (Value.int .i64 n739)]) ∧ Keeps w.heap.size [56, 56] w733 w737 ∧ (((n727 = (0 : Int)) → (((n726 = x558) → (((n731 = (0 : Int)) → (((n735 = (0 : Int)) → (((n739 = (0 : Int)) → (((n738 = x558) → (((x554 ≤ x558) → Calls Try.prog 32 #[x552, x553] w737 (fun e740 w741 => ∃ b742 : Bool, e740 = .returned (Value.bool b742) ∧ Keeps w.heap.size [56, 56] w737 w741 ∧ Post (Value.bool (decide ((decide (x554 = (0 : Int))) = b742))) w741)) ∧ (¬ (x554 ≤ x558) → Post (Value.bool false) w737))) ∧ (¬ (n738 = x558) → Post (Value.bool false) w737))) ∧ (¬ (n739 = (0 : Int)) → Post (Value.bool false) w737))) ∧ (¬ (n735 = (0 : Int)) → Post (Value.bool false) w737))) ∧ (¬ (n731 = (0 : Int)) → Post (Value.bool false) w737))) ∧ (¬ (n726 = x558) → Post (Value.bool false) w737))) ∧ (¬ (n727 = (0 : Int)) → Post (Value.bool false) w737))))))
abbrev laws_FnDistances_k1 (w : World) (Post : Value → World → Prop) (x380 : Value) (x381 : Value) (x382 : Int) (x383 : Int) (x386 : Int) (x540 : Int) (x541 : Int) (x542 : Int) (x543 : Int) (x544 : Int) (w550 : World) : Prop :=
  (((x383 ≠ (0 : Int)) → Post (Value.bool true) w550) ∧ (¬ (x383 ≠ (0 : Int)) → (laws_FnDistances_k0 w Post x380 x381 x382 x386 x540 x541 x542 x543 x544 w550)))
abbrev laws_FnDistances_k2 (w : World) (Post : Value → World → Prop) (x208 : Value) (x209 : Value) (x210 : Int) (x211 : Int) (x214 : Int) (x367 : Bool) (x368 : Int) (x369 : Int) (x370 : Int) (x371 : Int) (x372 : Int) (w378 : World) : Prop :=
  ((x367 = true → Post (Value.bool false) w378) ∧ (x367 = false → (laws_FnDistances_k1 w Post x208 x209 x210 x211 x214 x368 x369 x370 x371 x372 w378)))
abbrev laws_FnDistances_k3 (w : World) (Post : Value → World → Prop) (x4 : Value) (w7 : World) : Prop :=
  Calls Try.prog 86 #[x4] w7 (fun e8 w9 => ∃ n10 : Int, ∃ n11 : Int, ∃ n12 : Int, ∃ n13 : Int, ∃ n14 : Int, ∃ u15 : Value, ∃ u16 : Value, e8 = .returned (Value.tuple #[(Value.agg #[(Value.int .i64 n10), (Value.int .i64 n11), (Value.int .i64 n12), (Value.int .i64 n13), (Value.int .i64 n14)]), u15, u16]) ∧ Keeps w.heap.size [] w7 w9 ∧ ∀ w17 : World, Ext w9 w17 → ∀ w18 : World, BxS w.heap.size 56 w17 w18 → Calls Try.prog 87 #[(Value.agg #[(Value.int .i64 n10), (Value.int .i64 n11), (Value.int .i64 n12), (Value.int .i64 n13), (Value.int .i64 n14)]), u15, u16] w18 (fun e19 w20 => ∃ n21 : Int, ∃ n22 : Int, e19 = .returned (Value.tuple #[(Value.int .i64 n21), (Value.int .i64 n22)]) ∧ Keeps w.heap.size [56] w18 w20 ∧ Calls Try.prog 88 #[(Value.agg #[(Value.int .i64 n10), (Value.int .i64 n11), (Value.int .i64 n12), (Value.int .i64 n13), (Value.int .i64 n14)]), u15, u16] w20 (fun e23 w24 => ∃ n25 : Int, ∃ n26 : Int, e23 = .returned (Value.tuple #[(Value.int .i64 n25), (Value.int .i64 n26)]) ∧ Keeps w.heap.size [56] w20 w24 ∧ Calls Try.prog 89 #[(Value.agg #[(Value.int .i64 n10), (Value.int .i64 n11), (Value.int .i64 n12), (Value.int .i64 n13), (Value.int .i64 n14)]), u15, u16] w24 (fun e27 w28 => ∃ n29 : Int, ∃ n30 : Int, e27 = .returned (Value.tuple #[(Value.int .i64 n29), (Value.int .i64 n30)]) ∧ Keeps w.heap.size [56] w24 w28 ∧ Calls Try.prog 90 #[(Value.agg #[(Value.int .i64 n10), (Value.int .i64 n11), (Value.int .i64 n12), (Value.int .i64 n13), (Value.int .i64 n14)]), u15, u16] w28 (fun e31 w32 => ∃ n33 : Int, ∃ n34 : Int, e31 = .returned (Value.tuple #[(Value.int .i64 n33), (Value.int .i64 n34)]) ∧ Keeps w.heap.size [56] w28 w32 ∧ Calls Try.prog 91 #[x4] w32 (fun e35 w36 => ∃ n37 : Int, ∃ n38 : Int, ∃ n39 : Int, ∃ n40 : Int, ∃ n41 : Int, ∃ u42 : Value, e35 = .returned (Value.tuple #[(Value.agg #[(Value.int .i64 n37), (Value.int .i64 n38), (Value.int .i64 n39), (Value.int .i64 n40), (Value.int .i64 n41)]), u42]) ∧ Keeps w.heap.size [56] w32 w36 ∧ ∀ w43 : World, Ext w36 w43 → ∀ w44 : World, BxS w.heap.size 56 w43 w44 → Calls Try.prog 92 #[(Value.agg #[(Value.int .i64 n37), (Value.int .i64 n38), (Value.int .i64 n39), (Value.int .i64 n40), (Value.int .i64 n41)]), u42] w44 (fun e45 w46 => ∃ u47 : Value, ∃ n48 : Int, e45 = .returned (Value.tuple #[u47, (Value.int .i64 n48)]) ∧ Keeps w.heap.size [56, 56] w44 w46 ∧ Calls Try.prog 93 #[(Value.agg #[(Value.int .i64 n37), (Value.int .i64 n38), (Value.int .i64 n39), (Value.int .i64 n40), (Value.int .i64 n41)]), u42] w46 (fun e49 w50 => ∃ u51 : Value, ∃ n52 : Int, e49 = .returned (Value.tuple #[u51, (Value.int .i64 n52)]) ∧ Keeps w.heap.size [56, 56] w46 w50 ∧ (((n22 ≠ n26) → Post (Value.bool false) w50) ∧ (¬ (n22 ≠ n26) → (((n21 ≠ n25) → Post (Value.bool false) w50) ∧ (¬ (n21 ≠ n25) → (((n30 ≠ n34) → Post (Value.bool false) w50) ∧ (¬ (n30 ≠ n34) → (((n29 ≠ n33) → Post (Value.bool false) w50) ∧ (¬ (n29 ≠ n33) → (((n48 ≠ n52) → Post (Value.bool false) w50) ∧ (¬ (n48 ≠ n52) → Calls Try.prog 32 #[u47, u51] w50 (fun e201 w202 => ∃ b203 : Bool, e201 = .returned (Value.bool b203) ∧ Keeps w.heap.size [56, 56] w50 w202 ∧ (((!b203) = true → Post (Value.bool false) w202) ∧ ((!b203) = false → (((n48 = (0 : Int)) → Calls Try.prog 75 #[(Value.agg #[(Value.int .i64 n37), (Value.int .i64 n38), (Value.int .i64 n39), (Value.int .i64 n40), (Value.int .i64 n41)]), u47] w202 (fun e204 w205 => ∃ b206 : Bool, e204 = .returned (Value.bool b206) ∧ Keeps w.heap.size [56, 56] w202 w205 ∧ (laws_FnDistances_k2 w Post u15 u16 n21 n22 n29 (!b206) n10 n11 n12 n13 n14 w205))) ∧ (¬ (n48 = (0 : Int)) → (laws_FnDistances_k1 w Post u15 u16 n21 n22 n29 n10 n11 n12 n13 n14 w202))))))))))))))))))))))))
def laws_FnDistances_vc (v : Value) (w : World) (Post : Value → World → Prop) : Prop :=
  Calls Try.prog 21 #[v] w (fun e1 w2 => ∃ b3 : Bool, e1 = .returned (Value.bool b3) ∧ Keeps w.heap.size [] w w2 ∧ ((b3 = true → Post (Value.bool true) w2) ∧ (b3 = false → (laws_FnDistances_k3 w Post v w2))))
theorem laws_FnDistances_eq (v : Value) (w : World) (Post : Value → World → Prop) : denF Try.prog [] noAnn 14 [v] w Post = laws_FnDistances_vc v w Post := by kernel_rfl
set_option maxRecDepth 100000 in
theorem laws_FnDistances_calls (v : Value) (w : World) (Post : Value → World → Prop) (hvc : laws_FnDistances_vc v w Post) : Ret Try.prog 14 #[v] w Post :=
  Ret.of (denF_sound mixed (Eq.mpr (laws_FnDistances_eq v w Post) hvc))

end Go.Proofs
namespace Go.Proofs.Yteolgidmaklbkaa.lawFnDistances
open Go.Proofs Go.Sx Go.RowKit Go.ChangeShapes Go.WideShapes Go.ChangeAt Go.Joins
theorem walk (v : Value) (zs : List Int) (w : World) (h : RB w v zs) : Val Try.prog 14 #[v] w (.bool true) :=
  Ret.val (laws_FnDistances_calls v w _ (by
    unfold laws_FnDistances_vc
    refine (laws_big_ret v zs w h).call ?_
    rintro _ w1 ⟨⟨b, rfl⟩, h1⟩
    refine ⟨b, rfl, h1.keeps, fun _ => ⟨rfl, h1⟩, fun _ => ?_⟩
    refine (spec_DrawDifferenceOf_ret v zs w1 (h.ext h1)).call ?_
    rintro _ w2 ⟨M, p, q, a, b, rfl, oa, ob, h2⟩
    refine ⟨M.c, M.d, M.s, M.m, M.l, p, q, rfl, h2.keeps, fun w3 h3 w4 b4 => ?_⟩
    have k4 := ((h1.trans h2).trans h3).bxs b4
    have oa := (oa.ext h3).bxs b4 (by decide)
    have ob := (ob.ext h3).bxs b4 (by decide)
    obtain ⟨x, y, e⟩ := twoR_pair M a b (diffTo a b a.length)
    obtain ⟨x2, y2, e2⟩ := twoR_pair M a b (farTo a b a.length)
    refine (impl_DifferenceOf_val M p q a b w4 oa.rd ob.rd).call fun w5 h5 => ⟨x, y, by rw [e], h5.keeps, ?_⟩
    have oa := oa.ext h5
    have ob := ob.ext h5
    refine (spec_DifferenceOf_val M p q a b w5 oa.rd ob.rd).call fun w6 h6 => ⟨x, y, by rw [e], h6.keeps, ?_⟩
    have oa := oa.ext h6
    have ob := ob.ext h6
    refine (impl_DistanceOf_val M p q a b w6 oa.rd ob.rd).call fun w7 h7 => ⟨x2, y2, by rw [e2], h7.keeps, ?_⟩
    have oa := oa.ext h7
    have ob := ob.ext h7
    refine (spec_DistanceOf_val M p q a b w7 oa.rd ob.rd).call fun w8 h8 => ⟨x2, y2, by rw [e2], h8.keeps, ?_⟩
    have oa := oa.ext h8
    have ob := ob.ext h8
    have k8 := (((k4.trans h5).trans h6).trans h7).trans h8
    refine (spec_DrawMirrorKey_ret v zs w8 (h.ext k8)).call ?_
    rintro _ w9 ⟨N, r, c, rfl, oc, h9⟩
    refine ⟨N.c, N.d, N.s, N.m, N.l, r, rfl, h9.keeps, fun w10 h10 w11 b11 => ?_⟩
    have k11 := ((k8.trans h9).trans h10).bxs b11
    have oa := ((oa.ext h9).ext h10).bxs b11 (by decide)
    have ob := ((ob.ext h9).ext h10).bxs b11 (by decide)
    have oc := (oc.ext h10).bxs b11 (by decide)
    refine (impl_MirrorKey_ret N r c w11 oc.rd).call ?_
    rintro _ w12 ⟨k, rfl, ok, h12⟩
    refine ⟨k, _, rfl, h12.keeps, ?_⟩
    refine (spec_MirrorKey_ret N r c w12 (oc.ext h12).rd).call ?_
    rintro _ w13 ⟨k', rfl, ok', h13⟩
    refine ⟨k', _, rfl, h13.keeps, ?_⟩
    have k13 := (k11.trans h12).trans h13
    refine ⟨fun hne => absurd rfl hne, fun _ => ⟨fun hne => absurd rfl hne, fun _ => ⟨fun hne => absurd rfl hne, fun _ => ⟨fun hne => absurd rfl hne, fun _ => ⟨fun hne => absurd rfl hne, fun _ => ?_⟩⟩⟩⟩⟩
    refine (laws_likeInts_val k k' _ _ w13 (ok.ext h13).rd ok'.rd).call fun w14 h14 => ⟨_, rfl, h14.keeps, fun hb => ?_, fun _ => ?_⟩
    · simp at hb
    have k14 := k13.trans h14
    have ra := (((oa.ext h12).ext h13).ext h14).rd
    have rb := (((ob.ext h12).ext h13).ext h14).rd
    have last : ∀ (W : World), Ext w14 W → laws_FnDistances_k1 w (fun u w' => u = .bool true ∧ Ext w w') p q x y x2 M.c M.d M.s M.m M.l W := by
      intro W hW
      have kW := k14.trans hW
      refine ⟨fun _ => ⟨rfl, kW⟩, fun hy => ?_⟩
      have hy0 : y = 0 := Classical.not_not.1 hy
      subst hy0
      have hk : kCode M [a, b] = 0 := by
        unfold twoR at e
        split at e
        · assumption
        · rename_i hn
          simp only [Value.tuple.injEq, Array.mk.injEq, List.cons.injEq, Value.int.injEq, and_true, true_and] at e
          exact e.2
      have ex : ∀ n : Int, twoR M a b n = .tuple #[.int .i64 n, .int .i64 0] := fun n => by unfold twoR; rw [if_pos hk]
      rw [ex] at e e2
      simp only [Value.tuple.injEq, Array.mk.injEq, List.cons.injEq, Value.int.injEq, and_true, true_and] at e e2
      obtain ⟨e2, e3⟩ := e2
      subst e e2 e3
      obtain ⟨ka, kb⟩ := kCode_both hk
      have hll := (two_small hk).1
      have em : ∀ {z : List Int}, kCode M [z] = 0 → mirrorR M z = mirror M.d z := fun hz => by unfold mirrorR; rw [if_pos hz]
      have ra := RI.ext ra hW
      have rb := RI.ext rb hW
      refine (impl_DistanceOf_val M q p b a W rb ra).call fun w15 h15 => ⟨farTo b a b.length, 0, by unfold twoR; rw [if_pos (kCode_swap M a b hk)], h15.keeps, ?_⟩
      refine (impl_MirrorKey_ret M p a w15 (ra.ext h15)).call ?_
      rintro _ w16 ⟨c1, rfl, o1, h16⟩
      refine ⟨c1, _, rfl, h16.keeps, ?_⟩
      refine (impl_MirrorKey_ret M q b w16 ((rb.ext h15).ext h16)).call ?_
      rintro _ w17 ⟨c2, rfl, o2, h17⟩
      refine ⟨c2, _, rfl, h17.keeps, ?_⟩
      rw [em ka] at o1
      rw [em kb] at o2
      refine (impl_DistanceOf_val M c1 c2 _ _ w17 (o1.ext h17).rd o2.rd).call fun w18 h18 => ⟨farTo (mirror M.d a) (mirror M.d b) (mirror M.d a).length, 0, by unfold twoR; rw [if_pos (kCode_mirror hk)], h18.keeps, ?_⟩
      have x1 : Ext W w18 := ((h15.trans h16).trans h17).trans h18
      have e5 : farTo b a b.length = farTo a b a.length := by rw [← hll, farTo_symm]
      have e6 : farTo (mirror M.d a) (mirror M.d b) (mirror M.d a).length = farTo a b a.length := by rw [mirror_length, farTo_mirror _ _ _ _ (Nat.le_refl _) (by omega)]
      refine ⟨fun _ => ⟨fun _ => ⟨fun _ => ⟨fun _ => ⟨fun _ => ⟨fun _ => ⟨fun _ => ?_, fun hn => absurd (diff_le_far a b _) hn⟩, fun hn => absurd e6 hn⟩, fun hn => absurd rfl hn⟩, fun hn => absurd kb hn⟩, fun hn => absurd ka hn⟩, fun hn => absurd e5 hn⟩, fun hn => absurd rfl hn⟩
      refine (laws_likeInts_val p q a b w18 (ra.ext x1) (rb.ext x1)).call fun w19 h19 => ⟨_, rfl, h19.keeps, ?_, (kW.trans x1).trans h19⟩
      have := diff_same hll
      by_cases hab : a = b
      · subst hab
        have := this.2 rfl
        simp [this]
      · have hne : diffTo a b a.length ≠ 0 := fun h => hab (this.1 h)
        simp [hab, hne]
    refine ⟨fun h0 => ?_, fun _ => last w14 (.refl _)⟩
    obtain ⟨hNm, hNk⟩ := kCode_zero h0
    have eN : mirrorR N c = mirror N.d c := by unfold mirrorR; rw [if_pos h0]
    rw [eN] at ok
    refine (impl_IsKey_val N.c N.d N.s N.m N.l k _ w14 ((ok.ext h13).ext h14).rd).call fun w15 h15 => ⟨_, rfl, h15.keeps, ?_⟩
    refine ⟨fun hb => ?_, fun hb => last w15 h15⟩
    exfalso
    have hI : MkOk N.c N.d N.s N.m N.l ∧ IsK ⟨N.c, N.d, N.s, N.m, N.l⟩ (mirror N.d c) := ⟨hNm, mirror_isK (hNk c (by simp))⟩
    simp [hI] at hb))
set_option linter.unusedSimpArgs false in
theorem readable : ∀ t ∈ Try.f14.params.toList, Try.prog.readableRec t = true ∧ t < Try.prog.types.size := by
  rw [Try.params14]
  simp only [List.mem_cons, List.not_mem_nil, or_false, forall_eq_or_imp, forall_eq]
  exact ⟨by kernel_rfl, of_decide_eq_true (by kernel_rfl)⟩

set_option maxRecDepth 100000 in
theorem lifted (os : Os) (started : os.Started) (H : Type) (enc : TypeId × Value → H) :
    ReturnsInHanded {} Try.checked os 14 .any (Rows.fnDistancesSpec.pre6 enc Try.prog Try.f14 Rows.fnDistancesRow.domain false) (Rows.fnDistancesSpec.post enc Try.prog Try.f14 false true false false) := by
  refine returnsInHanded_of_change (C := Try.checked) ownKnobNone started (by kernel_rfl) Try.func14
    (ChangeSpec.witness6 (enc := enc) (C := Try.checked) false ⟨#[], #[.slice none 0 0], []⟩ 8 (by kernel_rfl) (by kernel_rfl) (by kernel_rfl) (by kernel_rfl)) ?_
  intro W base args ds gs before hval0 hW hcnd _
  have hval : ∀ (j : Nat) t v, Try.f14.params[j]? = some t → args[j]? = some v → Value.okWide Try.prog W .any base t v := hval0
  have hW' := hW
  obtain ⟨p, q, hA0, hV, rfl, hfz, hnd⟩ := hW
  have hA1 : DataW.TrodAll enc Try.prog W 0 (fun _ => true) true Try.f14.params.toList args.toList ds p := hA0
  have hA := hA1
  rw [Try.params14] at hA hval
  obtain ⟨v0, vs0, d0, ds0, p0, q0, hargs, rfl, rfl, h0, r0⟩ := trodAll_cons hA
  obtain ⟨rfl, rfl, rfl⟩ := trodAll_nil r0
  obtain rfl : args = #[v0] := by cases args; simp_all
  obtain ⟨rfl, rfl⟩ := trodVars_none hV
  obtain ⟨z0, hz0⟩ := open_RB Try.underlying29 Try.underlying5 (by kernel_rfl) (hval 0 29 v0 rfl rfl) h0
  clear hA0 hval0
  refine (Val.calls (walk v0 z0 W hz0)).mono fun e W' ⟨he, hg⟩ => ?_
  subst he
  exact ⟨_, rfl, law_post laidOut readable hW' hA1 Try.underlying4 rfl rfl rfl hg⟩

theorem proved : Rows.FnDistancesSaid :=
  OpenClaim.holds_of_wide 14 Try.f14 rfl rfl rfl rfl rfl rfl rfl ⟨rfl, rfl, rfl, rfl, rfl⟩ rfl rfl rfl rfl rfl (by kernel_rfl) Try.func14 (by kernel_rfl)
    (of_decide_eq_true (by kernel_rfl)) (by unfold Func.isWrapper; first | (rw [if_pos (by decide +kernel)]; kernel_rfl) | (rw [if_neg (by decide +kernel)]; exact ⟨rfl, rfl⟩))
    (fun os started H enc _ => lifted os started H enc)

end Go.Proofs.Yteolgidmaklbkaa.lawFnDistances
