/- The law FnRanks: ranks and keys determine each other, and the next key has the next rank. No condition. -/
import Derived.Test.YtccekkkiaebnmaaLawsB
import Derived.Test.YtccekkkiaebnmaaDraw5
import Derived.Test.YtccekkkiaebnmaaP02
import Derived.Test.YtccekkkiaebnmaaL02f
set_option linter.unusedVariables false
namespace Go.Proofs
open Go.Sx Go.RowKit
abbrev laws_FnRanks_k0 (w : World) (Post : Value → World → Prop) (x969 : Value) (x981 : Value) (x982 : Int) (x984 : Int) (w1136 : World) : Prop :=
  (((x982 = (0 : Int)) → Calls Try.prog 24 #[x981, x969] w1136 (fun e1137 w1138 => ∃ b1139 : Bool, e1137 = .returned (Value.bool b1139) ∧ Keeps w.heap.size [25, 25] w1136 w1138 ∧ ((b1139 = true → Post (Value.bool (decide (x984 = (4 : Int)))) w1138) ∧ (b1139 = false → Post (Value.bool false) w1138)))) ∧ (¬ (x982 = (0 : Int)) → Post (Value.bool false) w1136))
abbrev laws_FnRanks_k1 (w : World) (Post : Value → World → Prop) (x1323 : Int) (x1336 : Value) (x1485 : Int) (x1486 : Int) (x1487 : Int) (x1488 : Int) (x1489 : Int) (w1495 : World) : Prop :=
  Calls Try.prog 19 #[(Value.agg #[(Value.int .i64 x1485), (Value.int .i64 x1486), (Value.int .i64 x1487), (Value.int .i64 x1488), (Value.int .i64 x1489)]), x1336] w1495 (fun e1496 w1497 => ∃ n1498 : Int, ∃ n1499 : Int, e1496 = .returned (Value.tuple #[(Value.int .i64 n1498), (Value.int .i64 n1499)]) ∧ Keeps w.heap.size [25, 25] w1495 w1497 ∧ (((n1499 = (0 : Int)) → I64 (x1323 + 1) ∧ Post (Value.bool (decide (n1498 = (x1323 + 1)))) w1497) ∧ (¬ (n1499 = (0 : Int)) → Post (Value.bool false) w1497)))
abbrev laws_FnRanks_k2 (w : World) (Post : Value → World → Prop) (n967 : Int) (x1144 : Value) (x1145 : Int) (x1156 : Value) (x1157 : Int) (x1158 : Value) (x1159 : Int) (x1307 : Int) (x1308 : Int) (x1309 : Int) (x1310 : Int) (x1311 : Int) (w1317 : World) : Prop :=
  (((n967 ≠ (0 : Int)) → (((x1157 = (0 : Int)) → Calls Try.prog 24 #[x1156, x1144] w1317 (fun e1318 w1319 => ∃ b1320 : Bool, e1318 = .returned (Value.bool b1320) ∧ Keeps w.heap.size [25, 25] w1317 w1319 ∧ ((b1320 = true → Post (Value.bool (decide (x1159 = (4 : Int)))) w1319) ∧ (b1320 = false → Post (Value.bool false) w1319)))) ∧ (¬ (x1157 = (0 : Int)) → Post (Value.bool false) w1317))) ∧ (¬ (n967 ≠ (0 : Int)) → (laws_FnRanks_k1 w Post x1145 x1158 x1307 x1308 x1309 x1310 x1311 w1317)))
abbrev laws_FnRanks_k3 (w : World) (Post : Value → World → Prop) (x821 : Value) (x822 : Int) (x949 : Int) (x950 : Int) (x951 : Int) (x952 : Int) (x953 : Int) (w959 : World) : Prop :=
  Calls Try.prog 22 #[(Value.agg #[(Value.int .i64 x949), (Value.int .i64 x950), (Value.int .i64 x951), (Value.int .i64 x952), (Value.int .i64 x953)]), (Value.int .i64 x822)] w959 (fun e960 w961 => ∃ u962 : Value, ∃ n963 : Int, e960 = .returned (Value.tuple #[u962, (Value.int .i64 n963)]) ∧ Keeps w.heap.size [25, 25] w959 w961 ∧ Calls Try.prog 25 #[(Value.agg #[(Value.int .i64 x949), (Value.int .i64 x950), (Value.int .i64 x951), (Value.int .i64 x952), (Value.int .i64 x953)]), x821] w961 (fun e964 w965 => ∃ u966 : Value, ∃ n967 : Int, e964 = .returned (Value.tuple #[u966, (Value.int .i64 n967)]) ∧ Keeps w.heap.size [25, 25] w961 w965 ∧ (((n963 ≠ (0 : Int)) → (laws_FnRanks_k0 w Post x821 u962 n963 n967 w965)) ∧ (¬ (n963 ≠ (0 : Int)) → Calls Try.prog 24 #[u962, x821] w965 (fun e1140 w1141 => ∃ b1142 : Bool, e1140 = .returned (Value.bool b1142) ∧ Keeps w.heap.size [25, 25] w965 w1141 ∧ (((!b1142) = true → (laws_FnRanks_k0 w Post x821 u962 n963 n967 w1141)) ∧ ((!b1142) = false → (laws_FnRanks_k2 w Post n967 x821 x822 u962 n963 u966 n967 x949 x950 x951 x952 x953 w1141))))))))
abbrev laws_FnRanks_k4 (w : World) (Post : Value → World → Prop) (x682 : Value) (x683 : Int) (x684 : Int) (x809 : Int) (x810 : Int) (x811 : Int) (x812 : Int) (x813 : Int) (w819 : World) : Prop :=
  (((x684 ≠ (0 : Int)) → Post (Value.bool true) w819) ∧ (¬ (x684 ≠ (0 : Int)) → (laws_FnRanks_k3 w Post x682 x683 x809 x810 x811 x812 x813 w819)))
abbrev laws_FnRanks_k5 (w : World) (Post : Value → World → Prop) (x286 : Int) (n403 : Int) (x543 : Value) (x544 : Int) (x545 : Int) (x670 : Int) (x671 : Int) (x672 : Int) (x673 : Int) (x674 : Int) (w680 : World) : Prop :=
  (((n403 ≠ x286) → Post (Value.bool false) w680) ∧ (¬ (n403 ≠ x286) → (laws_FnRanks_k4 w Post x543 x544 x545 x670 x671 x672 x673 x674 w680)))
abbrev laws_FnRanks_k6 (w : World) (Post : Value → World → Prop) (x281 : Value) (x282 : Int) (x283 : Int) (x286 : Int) (x287 : Value) (x288 : Int) (x390 : Int) (x391 : Int) (x392 : Int) (x393 : Int) (x394 : Int) (x395 : Int) (x396 : Int) (x397 : Int) (x398 : Int) (x399 : Int) (w400 : World) : Prop :=
  (((x288 = (0 : Int)) → Calls Try.prog 19 #[(Value.agg #[(Value.int .i64 x395), (Value.int .i64 x396), (Value.int .i64 x397), (Value.int .i64 x398), (Value.int .i64 x399)]), x287] w400 (fun e401 w402 => ∃ n403 : Int, ∃ n404 : Int, e401 = .returned (Value.tuple #[(Value.int .i64 n403), (Value.int .i64 n404)]) ∧ Keeps w.heap.size [25, 25] w400 w402 ∧ (((n404 ≠ (0 : Int)) → Post (Value.bool false) w402) ∧ (¬ (n404 ≠ (0 : Int)) → (laws_FnRanks_k5 w Post x286 n403 x281 x282 x283 x390 x391 x392 x393 x394 w402))))) ∧ (¬ (x288 = (0 : Int)) → (laws_FnRanks_k4 w Post x281 x282 x283 x390 x391 x392 x393 x394 w400)))
abbrev laws_FnRanks_k7 (w : World) (Post : Value → World → Prop) (x160 : Value) (x161 : Int) (x162 : Int) (x165 : Int) (x166 : Value) (x167 : Int) (x268 : Bool) (x269 : Int) (x270 : Int) (x271 : Int) (x272 : Int) (x273 : Int) (x274 : Int) (x275 : Int) (x276 : Int) (x277 : Int) (x278 : Int) (w279 : World) : Prop :=
  ((x268 = true → Post (Value.bool false) w279) ∧ (x268 = false → (laws_FnRanks_k6 w Post x160 x161 x162 x165 x166 x167 x269 x270 x271 x272 x273 x274 x275 x276 x277 x278 w279)))
abbrev laws_FnRanks_k8 (w : World) (Post : Value → World → Prop) (x4 : Value) (w7 : World) : Prop :=
  Calls Try.prog 18 #[x4] w7 (fun e8 w9 => ∃ n10 : Int, ∃ n11 : Int, ∃ n12 : Int, ∃ n13 : Int, ∃ n14 : Int, ∃ u15 : Value, e8 = .returned (Value.tuple #[(Value.agg #[(Value.int .i64 n10), (Value.int .i64 n11), (Value.int .i64 n12), (Value.int .i64 n13), (Value.int .i64 n14)]), u15]) ∧ Keeps w.heap.size [] w7 w9 ∧ ∀ w16 : World, Ext w9 w16 → ∀ w17 : World, BxS w.heap.size 25 w16 w17 → Calls Try.prog 19 #[(Value.agg #[(Value.int .i64 n10), (Value.int .i64 n11), (Value.int .i64 n12), (Value.int .i64 n13), (Value.int .i64 n14)]), u15] w17 (fun e18 w19 => ∃ n20 : Int, ∃ n21 : Int, e18 = .returned (Value.tuple #[(Value.int .i64 n20), (Value.int .i64 n21)]) ∧ Keeps w.heap.size [25] w17 w19 ∧ Calls Try.prog 20 #[(Value.agg #[(Value.int .i64 n10), (Value.int .i64 n11), (Value.int .i64 n12), (Value.int .i64 n13), (Value.int .i64 n14)]), u15] w19 (fun e22 w23 => ∃ n24 : Int, ∃ n25 : Int, e22 = .returned (Value.tuple #[(Value.int .i64 n24), (Value.int .i64 n25)]) ∧ Keeps w.heap.size [25] w19 w23 ∧ Calls Try.prog 21 #[x4] w23 (fun e26 w27 => ∃ n28 : Int, ∃ n29 : Int, ∃ n30 : Int, ∃ n31 : Int, ∃ n32 : Int, ∃ n33 : Int, e26 = .returned (Value.tuple #[(Value.agg #[(Value.int .i64 n28), (Value.int .i64 n29), (Value.int .i64 n30), (Value.int .i64 n31), (Value.int .i64 n32)]), (Value.int .i64 n33)]) ∧ Keeps w.heap.size [25] w23 w27 ∧ ∀ w34 : World, Ext w27 w34 → ∀ w35 : World, BxS w.heap.size 25 w34 w35 → Calls Try.prog 22 #[(Value.agg #[(Value.int .i64 n28), (Value.int .i64 n29), (Value.int .i64 n30), (Value.int .i64 n31), (Value.int .i64 n32)]), (Value.int .i64 n33)] w35 (fun e36 w37 => ∃ u38 : Value, ∃ n39 : Int, e36 = .returned (Value.tuple #[u38, (Value.int .i64 n39)]) ∧ Keeps w.heap.size [25, 25] w35 w37 ∧ Calls Try.prog 23 #[(Value.agg #[(Value.int .i64 n28), (Value.int .i64 n29), (Value.int .i64 n30), (Value.int .i64 n31), (Value.int .i64 n32)]), (Value.int .i64 n33)] w37 (fun e40 w41 => ∃ u42 : Value, ∃ n43 : Int, e40 = .returned (Value.tuple #[u42, (Value.int .i64 n43)]) ∧ Keeps w.heap.size [25, 25] w37 w41 ∧ (((n21 ≠ n25) → Post (Value.bool false) w41) ∧ (¬ (n21 ≠ n25) → (((n20 ≠ n24) → Post (Value.bool false) w41) ∧ (¬ (n20 ≠ n24) → (((n39 ≠ n43) → Post (Value.bool false) w41) ∧ (¬ (n39 ≠ n43) → Calls Try.prog 24 #[u38, u42] w41 (fun e156 w157 => ∃ b158 : Bool, e156 = .returned (Value.bool b158) ∧ Keeps w.heap.size [25, 25] w41 w157 ∧ (laws_FnRanks_k7 w Post u15 n20 n21 n33 u38 n39 (!b158) n10 n11 n12 n13 n14 n28 n29 n30 n31 n32 w157))))))))))))))
def laws_FnRanks_vc (v : Value) (w : World) (Post : Value → World → Prop) : Prop :=
  Calls Try.prog 10 #[v] w (fun e1 w2 => ∃ b3 : Bool, e1 = .returned (Value.bool b3) ∧ Keeps w.heap.size [] w w2 ∧ ((b3 = true → Post (Value.bool true) w2) ∧ (b3 = false → (laws_FnRanks_k8 w Post v w2))))
theorem laws_FnRanks_eq (v : Value) (w : World) (Post : Value → World → Prop) : denF Try.prog [] noAnn 4 [v] w Post = laws_FnRanks_vc v w Post := by kernel_rfl
set_option maxRecDepth 100000 in
theorem laws_FnRanks_calls (v : Value) (w : World) (Post : Value → World → Prop) (hvc : laws_FnRanks_vc v w Post) : Ret Try.prog 4 #[v] w Post :=
  Ret.of (denF_sound mixed (Eq.mpr (laws_FnRanks_eq v w Post) hvc))

end Go.Proofs
namespace Go.Proofs.Ytccekkkiaebnmaa.lawFnRanks
open Go.Proofs Go.Sx Go.RowKit Go.ChangeShapes Go.WideShapes Go.ChangeAt Go.Joins
theorem walk (v : Value) (zs : List Int) (w : World) (h : RB w v zs) : Val Try.prog 4 #[v] w (.bool true) :=
  Ret.val (laws_FnRanks_calls v w _ (by
    unfold laws_FnRanks_vc
    refine (laws_big_ret v zs w h).call ?_
    rintro _ w1 ⟨⟨b, rfl⟩, h1⟩
    refine ⟨b, rfl, h1.keeps, fun _ => ⟨rfl, h1⟩, fun _ => ?_⟩
    refine (spec_DrawRankOf_ret v zs w1 (h.ext h1)).call ?_
    rintro _ w2 ⟨M, p, a, rfl, oa, h2⟩
    refine ⟨M.c, M.d, M.s, M.m, M.l, p, rfl, h2.keeps, fun w3 h3 w4 b4 => ?_⟩
    have k4 := ((h1.trans h2).trans h3).bxs b4
    have oa := (oa.ext h3).bxs b4 (by decide)
    obtain ⟨x, y, e⟩ := rankR_pair M a
    refine (impl_RankOf_val M p a w4 oa.rd).call fun w5 h5 => ⟨x, y, by rw [e], h5.keeps, ?_⟩
    refine (spec_RankOf_val M p a w5 (oa.ext h5).rd).call fun w6 h6 => ⟨x, y, by rw [e], h6.keeps, ?_⟩
    have k6 := (k4.trans h5).trans h6
    have oa := (oa.ext h5).ext h6
    refine (spec_DrawKeyAt_ret v zs w6 (h.ext k6)).call ?_
    rintro _ w7 ⟨N, n, rfl, hn, h7⟩
    refine ⟨N.c, N.d, N.s, N.m, N.l, n, rfl, h7.keeps, fun w8 h8 w9 b9 => ?_⟩
    have k9 := ((k6.trans h7).trans h8).bxs b9
    have oa := ((oa.ext h7).ext h8).bxs b9 (by decide)
    refine (impl_KeyAt_ret N n w9 hn).call ?_
    rintro _ w10 ⟨q, rfl, oq, h10⟩
    refine ⟨q, _, rfl, h10.keeps, ?_⟩
    refine (spec_KeyAt_ret N n w10).call ?_
    rintro _ w11 ⟨q', rfl, oq', h11⟩
    refine ⟨q', _, rfl, h11.keeps, fun hne => absurd rfl hne, fun _ => ⟨fun hne => absurd rfl hne, fun _ => ⟨fun hne => absurd rfl hne, fun _ => ?_⟩⟩⟩
    refine (laws_likeInts_val q q' _ _ w11 (oq.ext h11).rd oq'.rd).call fun w12 h12 => ⟨_, rfl, h12.keeps, fun hb => (by simp at hb), fun _ => ?_⟩
    have k12 := ((k9.trans h10).trans h11).trans h12
    have ra : RI w12 p a := (((oa.ext h10).ext h11).ext h12).rd
    have rq : RI w12 q _ := ((oq.ext h11).ext h12).rd
    have tail : ∀ (W : World), Ext w12 W → laws_FnRanks_k4 w (fun u w' => u = .bool true ∧ Ext w w') p x y M.c M.d M.s M.m M.l W := by
      intro W hW
      have kW := k12.trans hW
      refine ⟨fun _ => ⟨rfl, kW⟩, fun hy => ?_⟩
      have hy0 : y = 0 := Classical.not_not.1 hy
      subst hy0
      have hk : kCode M [a] = 0 := by
        unfold rankR at e
        split at e
        · assumption
        · simp only [Value.tuple.injEq, Array.mk.injEq, List.cons.injEq, Value.int.injEq, and_true, true_and] at e
          exact e.2
      obtain ⟨hm, hK⟩ := kCode_zero hk
      have hc := hm.1
      obtain ⟨j, hj, rfl⟩ := List.getElem_of_mem ((mem_keys (M := M) (by omega)).2 (hK a (by simp)))
      rw [rankR_at hm hj] at e
      simp only [Value.tuple.injEq, Array.mk.injEq, List.cons.injEq, Value.int.injEq, and_true, true_and] at e
      subst e
      have hmax := keys_max (M := M) hm
      obtain ⟨e1, e2⟩ := keyAt_at hm hj
      have ra := RI.ext ra hW
      refine (impl_KeyAt_ret M j W (by unfold I64; omega)).call ?_
      rintro _ w13 ⟨s, rfl, os, h13⟩
      rw [e1] at os
      refine ⟨s, _, rfl, h13.keeps, ?_⟩
      refine (impl_NextKey_ret M p _ w13 (ra.ext h13)).call ?_
      rintro _ w14 ⟨r, rfl, or, h14⟩
      refine ⟨r, _, rfl, h14.keeps, fun hne => absurd e2 hne, fun _ => ?_⟩
      have x14 := h13.trans h14
      refine (laws_likeInts_val s p _ _ w14 (os.ext h14).rd (ra.ext x14)).call fun w15 h15 => ⟨_, rfl, h15.keeps, fun hb => (by simp at hb), fun _ => ?_⟩
      have x15 := x14.trans h15
      rcases Nat.lt_or_ge (j + 1) (keys M).length with hlt | hge
      · obtain ⟨n1, n2⟩ := knext_more hm hlt
        refine ⟨fun hne => absurd n2 hne, fun _ => ?_⟩
        rw [n1] at or
        refine (impl_RankOf_val M r _ w15 (or.ext h15).rd).call fun w16 h16 => ⟨_, _, by rw [rankR_at hm hlt], h16.keeps, fun _ => ⟨by unfold I64; omega, beq_val (decide_eq_true (by omega)), (kW.trans x15).trans h16⟩, fun hn => absurd rfl hn⟩
      · have n2 := knext_last hm hj hge
        refine ⟨fun _ => ⟨fun _ => ?_, fun hn => absurd e2 hn⟩, fun hz => ?_⟩
        · refine (laws_likeInts_val s p _ _ w15 ((os.ext h14).ext h15).rd (ra.ext x15)).call fun w16 h16 => ⟨_, rfl, h16.keeps, fun _ => ⟨beq_val (decide_eq_true n2), (kW.trans x15).trans h16⟩, fun hb => (by simp at hb)⟩
        · rw [n2] at hz
          exact absurd (by decide) hz
    refine ⟨fun h0 => ?_, fun _ => tail w12 (.refl _)⟩
    obtain ⟨hN, j, rfl, hj⟩ := keyAt_ok h0
    rw [(keyAt_at hN hj).1] at rq
    refine (impl_RankOf_val N q _ w12 rq).call fun w13 h13 => ⟨_, _, by rw [rankR_at hN hj], h13.keeps, fun hn => absurd rfl hn, fun _ => ⟨fun hn => absurd rfl hn, fun _ => tail w13 h13⟩⟩))
set_option linter.unusedSimpArgs false in
theorem readable : ∀ t ∈ Try.f4.params.toList, Try.prog.readableRec t = true ∧ t < Try.prog.types.size := by
  rw [Try.params4]
  simp only [List.mem_cons, List.not_mem_nil, or_false, forall_eq_or_imp, forall_eq]
  exact ⟨by kernel_rfl, of_decide_eq_true (by kernel_rfl)⟩

set_option maxRecDepth 100000 in
theorem lifted (os : Os) (started : os.Started) (H : Type) (enc : TypeId × Value → H) :
    ReturnsInHanded {} Try.checked os 4 .any (Rows.fnRanksSpec.pre6 enc Try.prog Try.f4 Rows.fnRanksRow.domain false) (Rows.fnRanksSpec.post enc Try.prog Try.f4 false true false false) := by
  refine returnsInHanded_of_change (C := Try.checked) ownKnobNone started (by kernel_rfl) Try.func4
    (ChangeSpec.witness6 (enc := enc) (C := Try.checked) false ⟨#[], #[.slice none 0 0], []⟩ 8 (by kernel_rfl) (by kernel_rfl) (by kernel_rfl) (by kernel_rfl)) ?_
  intro W base args ds gs before hval0 hW hcnd _
  have hval : ∀ (j : Nat) t v, Try.f4.params[j]? = some t → args[j]? = some v → Value.okWide Try.prog W .any base t v := hval0
  have hW' := hW
  obtain ⟨p, q, hA0, hV, rfl, hfz, hnd⟩ := hW
  have hA1 : DataW.TrodAll enc Try.prog W 0 (fun _ => true) true Try.f4.params.toList args.toList ds p := hA0
  have hA := hA1
  rw [Try.params4] at hA hval
  obtain ⟨v0, vs0, d0, ds0, p0, q0, hargs, rfl, rfl, h0, r0⟩ := trodAll_cons hA
  obtain ⟨rfl, rfl, rfl⟩ := trodAll_nil r0
  obtain rfl : args = #[v0] := by cases args; simp_all
  obtain ⟨rfl, rfl⟩ := trodVars_none hV
  obtain ⟨z0, hz0⟩ := open_RB Try.underlying22 Try.underlying5 (by kernel_rfl) (hval 0 22 v0 rfl rfl) h0
  clear hA0 hval0
  refine (Val.calls (walk v0 z0 W hz0)).mono fun e W' ⟨he, hg⟩ => ?_
  subst he
  exact ⟨_, rfl, law_post laidOut readable hW' hA1 Try.underlying4 rfl rfl rfl hg⟩

theorem proved : Rows.FnRanksSaid :=
  OpenClaim.holds_of_wide 4 Try.f4 rfl rfl rfl rfl rfl rfl rfl ⟨rfl, rfl, rfl, rfl, rfl⟩ rfl rfl rfl rfl rfl (by kernel_rfl) Try.func4 (by kernel_rfl)
    (of_decide_eq_true (by kernel_rfl)) (by unfold Func.isWrapper; first | (rw [if_pos (by decide +kernel)]; kernel_rfl) | (rw [if_neg (by decide +kernel)]; exact ⟨rfl, rfl⟩))
    (fun os started H enc _ => lifted os started H enc)

end Go.Proofs.Ytccekkkiaebnmaa.lawFnRanks
