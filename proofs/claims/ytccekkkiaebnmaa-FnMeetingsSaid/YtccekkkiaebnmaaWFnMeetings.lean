/- The law FnMeetings: keys open the common lock exactly if they open both, and the joined lock if they open one. No condition. -/
import Derived.Test.YtccekkkiaebnmaaLawsC
set_option linter.unusedVariables false
namespace Go.Proofs
open Go.Sx Go.RowKit
abbrev laws_FnMeetings_k0 (Post : Value → World → Prop) (x1118 : Int) (x1120 : Int) (x1122 : Int) (x1124 : Int) (w1283 : World) : Prop :=
  I64 (x1120 + x1122) ∧ I64 ((x1120 + x1122) - x1124) ∧ (((((x1120 + x1122) - x1124) ≤ x1118) → Post (Value.bool (decide (x1124 ≤ (min x1120 x1122)))) w1283) ∧ (¬ (((x1120 + x1122) - x1124) ≤ x1118) → Post (Value.bool false) w1283))
abbrev laws_FnMeetings_k1 (w : World) (Post : Value → World → Prop) (x787 : Int) (x791 : Int) (x793 : Int) (x795 : Int) (x927 : Int) (x928 : Int) (x929 : Int) (x930 : Int) (x931 : Int) (x934 : Value) (w938 : World) : Prop :=
  (((x787 = (0 : Int)) → Calls Try.prog 17 #[(Value.agg #[(Value.int .i64 x927), (Value.int .i64 x928), (Value.int .i64 x929), (Value.int .i64 x930), (Value.int .i64 x931)]), (Value.agg #[x934])] w938 (fun e939 w940 => ∃ n941 : Int, ∃ n942 : Int, e939 = .returned (Value.tuple #[(Value.int .i64 n941), (Value.int .i64 n942)]) ∧ Keeps w.heap.size [25, 28, 28, 28, 28, 28, 28] w938 w940 ∧ (((n942 ≠ (0 : Int)) → Post (Value.bool false) w940) ∧ (¬ (n942 ≠ (0 : Int)) → (laws_FnMeetings_k0 Post x791 x793 x795 n941 w940))))) ∧ (¬ (x787 = (0 : Int)) → (laws_FnMeetings_k0 Post x791 x793 x795 0 w938)))
abbrev laws_FnMeetings_k2 (w : World) (Post : Value → World → Prop) (n481 : Int) (x634 : Int) (x638 : Int) (x640 : Int) (x642 : Int) (x774 : Int) (x775 : Int) (x776 : Int) (x777 : Int) (x778 : Int) (x781 : Value) (w785 : World) : Prop :=
  (((n481 ≠ (0 : Int)) → Post (Value.bool false) w785) ∧ (¬ (n481 ≠ (0 : Int)) → (laws_FnMeetings_k1 w Post x634 x638 x640 x642 x774 x775 x776 x777 x778 x781 w785)))
abbrev laws_FnMeetings_k3 (w : World) (Post : Value → World → Prop) (x363 : Int) (x458 : Int) (x459 : Int) (x460 : Int) (x461 : Int) (x462 : Int) (x463 : Value) (x464 : Value) (x465 : Value) (x467 : Value) (w469 : World) : Prop :=
  Calls Try.prog 17 #[(Value.agg #[(Value.int .i64 x458), (Value.int .i64 x459), (Value.int .i64 x460), (Value.int .i64 x461), (Value.int .i64 x462)]), (Value.agg #[x467])] w469 (fun e470 w471 => ∃ n472 : Int, ∃ n473 : Int, e470 = .returned (Value.tuple #[(Value.int .i64 n472), (Value.int .i64 n473)]) ∧ Keeps w.heap.size [25, 28, 28, 28, 28, 28, 28] w469 w471 ∧ Calls Try.prog 17 #[(Value.agg #[(Value.int .i64 x458), (Value.int .i64 x459), (Value.int .i64 x460), (Value.int .i64 x461), (Value.int .i64 x462)]), (Value.agg #[x463])] w471 (fun e474 w475 => ∃ n476 : Int, ∃ n477 : Int, e474 = .returned (Value.tuple #[(Value.int .i64 n476), (Value.int .i64 n477)]) ∧ Keeps w.heap.size [25, 28, 28, 28, 28, 28, 28] w471 w475 ∧ Calls Try.prog 17 #[(Value.agg #[(Value.int .i64 x458), (Value.int .i64 x459), (Value.int .i64 x460), (Value.int .i64 x461), (Value.int .i64 x462)]), (Value.agg #[x464])] w475 (fun e478 w479 => ∃ n480 : Int, ∃ n481 : Int, e478 = .returned (Value.tuple #[(Value.int .i64 n480), (Value.int .i64 n481)]) ∧ Keeps w.heap.size [25, 28, 28, 28, 28, 28, 28] w475 w479 ∧ (((n473 ≠ (0 : Int)) → Post (Value.bool false) w479) ∧ (¬ (n473 ≠ (0 : Int)) → (((n477 ≠ (0 : Int)) → Post (Value.bool false) w479) ∧ (¬ (n477 ≠ (0 : Int)) → (laws_FnMeetings_k2 w Post n481 x363 n472 n476 n480 x458 x459 x460 x461 x462 x465 w479))))))))
abbrev laws_FnMeetings_k4 (w : World) (Post : Value → World → Prop) (x256 : Int) (x258 : Int) (x350 : Int) (x351 : Int) (x352 : Int) (x353 : Int) (x354 : Int) (x355 : Value) (x356 : Value) (x357 : Value) (x359 : Value) (w361 : World) : Prop :=
  (((x258 ≠ (0 : Int)) → Post (Value.bool true) w361) ∧ (¬ (x258 ≠ (0 : Int)) → (laws_FnMeetings_k3 w Post x256 x350 x351 x352 x353 x354 x355 x356 x357 x359 w361)))
abbrev laws_FnMeetings_k5 (w : World) (Post : Value → World → Prop) (x149 : Int) (x151 : Int) (x242 : Bool) (x243 : Int) (x244 : Int) (x245 : Int) (x246 : Int) (x247 : Int) (x248 : Value) (x249 : Value) (x250 : Value) (x252 : Value) (w254 : World) : Prop :=
  ((x242 = true → Post (Value.bool false) w254) ∧ (x242 = false → (laws_FnMeetings_k4 w Post x149 x151 x243 x244 x245 x246 x247 x248 x249 x250 x252 w254)))
abbrev laws_FnMeetings_k6 (w : World) (Post : Value → World → Prop) (x4 : Value) (w7 : World) : Prop :=
  Calls Try.prog 11 #[x4] w7 (fun e8 w9 => ∃ n10 : Int, ∃ n11 : Int, ∃ n12 : Int, ∃ n13 : Int, ∃ n14 : Int, ∃ u15 : Value, ∃ u16 : Value, e8 = .returned (Value.tuple #[(Value.agg #[(Value.int .i64 n10), (Value.int .i64 n11), (Value.int .i64 n12), (Value.int .i64 n13), (Value.int .i64 n14)]), (Value.agg #[u15]), (Value.agg #[u16])]) ∧ Keeps w.heap.size [] w7 w9 ∧ ∀ w17 : World, Ext w9 w17 → ∀ w18 : World, Ext w17 w18 → ∀ w19 : World, Ext w18 w19 → ∀ w20 : World, BxS w.heap.size 25 w19 w20 → oneC u15 (∀ w21 : World, BxS w.heap.size 28 w20 w21 → oneC u16 (∀ w22 : World, BxS w.heap.size 28 w21 w22 → Calls Try.prog 12 #[(Value.agg #[(Value.int .i64 n10), (Value.int .i64 n11), (Value.int .i64 n12), (Value.int .i64 n13), (Value.int .i64 n14)]), (Value.agg #[u15]), (Value.agg #[u16])] w22 (fun e23 w24 => ∃ u25 : Value, ∃ n26 : Int, e23 = .returned (Value.tuple #[(Value.agg #[u25]), (Value.int .i64 n26)]) ∧ Keeps w.heap.size [25, 28, 28] w22 w24 ∧ ∀ w27 : World, Ext w24 w27 → oneC u25 (∀ w28 : World, BxS w.heap.size 28 w27 w28 → Calls Try.prog 13 #[(Value.agg #[(Value.int .i64 n10), (Value.int .i64 n11), (Value.int .i64 n12), (Value.int .i64 n13), (Value.int .i64 n14)]), (Value.agg #[u15]), (Value.agg #[u16])] w28 (fun e29 w30 => ∃ u31 : Value, ∃ n32 : Int, e29 = .returned (Value.tuple #[(Value.agg #[u31]), (Value.int .i64 n32)]) ∧ Keeps w.heap.size [25, 28, 28, 28] w28 w30 ∧ ∀ w33 : World, Ext w30 w33 → oneC u31 (∀ w34 : World, BxS w.heap.size 28 w33 w34 → Calls Try.prog 14 #[(Value.agg #[(Value.int .i64 n10), (Value.int .i64 n11), (Value.int .i64 n12), (Value.int .i64 n13), (Value.int .i64 n14)]), (Value.agg #[u15]), (Value.agg #[u16])] w34 (fun e35 w36 => ∃ u37 : Value, ∃ n38 : Int, e35 = .returned (Value.tuple #[(Value.agg #[u37]), (Value.int .i64 n38)]) ∧ Keeps w.heap.size [25, 28, 28, 28, 28] w34 w36 ∧ ∀ w39 : World, Ext w36 w39 → oneC u37 (∀ w40 : World, BxS w.heap.size 28 w39 w40 → Calls Try.prog 15 #[(Value.agg #[(Value.int .i64 n10), (Value.int .i64 n11), (Value.int .i64 n12), (Value.int .i64 n13), (Value.int .i64 n14)]), (Value.agg #[u15]), (Value.agg #[u16])] w40 (fun e41 w42 => ∃ u43 : Value, ∃ n44 : Int, e41 = .returned (Value.tuple #[(Value.agg #[u43]), (Value.int .i64 n44)]) ∧ Keeps w.heap.size [25, 28, 28, 28, 28, 28] w40 w42 ∧ ∀ w45 : World, Ext w42 w45 → oneC u43 (∀ w46 : World, BxS w.heap.size 28 w45 w46 → (((n26 ≠ n32) → Post (Value.bool false) w46) ∧ (¬ (n26 ≠ n32) → Calls Try.prog 16 #[(Value.agg #[u25]), (Value.agg #[u31])] w46 (fun e142 w143 => ∃ b144 : Bool, e142 = .returned (Value.bool b144) ∧ Keeps w.heap.size [25, 28, 28, 28, 28, 28, 28] w46 w143 ∧ (((!b144) = true → Post (Value.bool false) w143) ∧ ((!b144) = false → (((n38 ≠ n44) → Post (Value.bool false) w143) ∧ (¬ (n38 ≠ n44) → Calls Try.prog 16 #[(Value.agg #[u37]), (Value.agg #[u43])] w143 (fun e145 w146 => ∃ b147 : Bool, e145 = .returned (Value.bool b147) ∧ Keeps w.heap.size [25, 28, 28, 28, 28, 28, 28] w143 w146 ∧ (laws_FnMeetings_k5 w Post n26 n38 (!b147) n10 n11 n12 n13 n14 u15 u16 u25 u37 w146))))))))))))))))))))
def laws_FnMeetings_vc (v : Value) (w : World) (Post : Value → World → Prop) : Prop :=
  Calls Try.prog 10 #[v] w (fun e1 w2 => ∃ b3 : Bool, e1 = .returned (Value.bool b3) ∧ Keeps w.heap.size [] w w2 ∧ ((b3 = true → Post (Value.bool true) w2) ∧ (b3 = false → (laws_FnMeetings_k6 w Post v w2))))
theorem laws_FnMeetings_eq (v : Value) (w : World) (Post : Value → World → Prop) : denF Try.prog [] noAnn 3 [v] w Post = laws_FnMeetings_vc v w Post := by kernel_rfl
set_option maxRecDepth 100000 in
theorem laws_FnMeetings_calls (v : Value) (w : World) (Post : Value → World → Prop) (hvc : laws_FnMeetings_vc v w Post) : Ret Try.prog 3 #[v] w Post :=
  Ret.of (denF_sound mixed (Eq.mpr (laws_FnMeetings_eq v w Post) hvc))

end Go.Proofs
namespace Go.Proofs.Ytccekkkiaebnmaa.lawFnMeetings
open Go.Proofs Go.Sx Go.RowKit Go.ChangeShapes Go.WideShapes Go.ChangeAt Go.Joins
theorem walk (v : Value) (zs : List Int) (w : World) (h : RB w v zs) : Val Try.prog 3 #[v] w (.bool true) :=
  Ret.val (laws_FnMeetings_calls v w _ (by
    unfold laws_FnMeetings_vc
    refine (laws_big_ret v zs w h).call ?_
    rintro _ w1 ⟨⟨b, rfl⟩, h1⟩
    refine ⟨b, rfl, h1.keeps, fun _ => ⟨rfl, h1⟩, fun _ => ?_⟩
    refine (spec_DrawMeetLocks_ret v zs w1 (h.ext h1)).call ?_
    rintro _ w2 ⟨M, p, q, za, zb, rfl, va, vb, h2⟩
    have f2 := ((Fx.start (h1.trans h2)).addV va).addV vb
    refine ⟨M.c, M.d, M.s, M.m, M.l, p, q, rfl, h2.keeps, fun w17 h17 w18 h18 w19 h19 w20 b20 => va.rr.oneC fun w21 b21 => vb.rr.oneC fun w22 b22 => ?_⟩
    have f22 := (((((f2.ext h17).ext h18).ext h19).bm b20).bl b21).bl b22
    refine (impl_MeetLocks_ret M p q za zb w22 (f22.rr (by simp)) (f22.rr (by simp))).call ?_
    rintro _ w24 ⟨x, rfl, ox, h24⟩
    refine ⟨x, _, rfl, h24.keeps, fun w27 h27 => ox.rr.oneC fun w28 b28 => ?_⟩
    have f28 := (((f22.ext h24).addR ox).ext h27).bl b28
    refine (spec_MeetLocks_ret M p q za zb w28 (f28.rr (by simp)) (f28.rr (by simp))).call ?_
    rintro _ w30 ⟨x', rfl, ox', h30⟩
    refine ⟨x', _, rfl, h30.keeps, fun w33 h33 => ox'.rr.oneC fun w34 b34 => ?_⟩
    have f34 := (((f28.ext h30).addR ox').ext h33).bl b34
    refine (impl_JoinLocks_ret M p q za zb w34 (f34.rr (by simp)) (f34.rr (by simp))).call ?_
    rintro _ w36 ⟨j, rfl, oj, h36⟩
    refine ⟨j, _, rfl, h36.keeps, fun w39 h39 => oj.rr.oneC fun w40 b40 => ?_⟩
    have f40 := (((f34.ext h36).addR oj).ext h39).bl b40
    refine (spec_JoinLocks_ret M p q za zb w40 (f40.rr (by simp)) (f40.rr (by simp))).call ?_
    rintro _ w42 ⟨j', rfl, oj', h42⟩
    refine ⟨j', _, rfl, h42.keeps, fun w45 h45 => oj'.rr.oneC fun w46 b46 => ?_⟩
    have f46 := (((f40.ext h42).addR oj').ext h45).bl b46
    refine ⟨fun hne => absurd rfl hne, fun _ => ?_⟩
    refine (laws_likeLocks_val x x' _ _ w46 (f46.rr (z := meetR M za zb) (by simp)) (f46.rr (z := meetR M za zb) (by simp))).call fun w143 h143 => ⟨_, rfl, h143.keeps, fun hb => (by simp at hb), fun _ => ⟨fun hne => absurd rfl hne, fun _ => ?_⟩⟩
    have f143 := f46.ext h143
    refine (laws_likeLocks_val j j' _ _ w143 (f143.rr (z := joinR M za zb) (by simp)) (f143.rr (z := joinR M za zb) (by simp))).call fun w146 h146 => ⟨_, rfl, h146.keeps, fun hb => (by simp at hb), fun _ => ?_⟩
    have f146 := f143.ext h146
    refine ⟨fun _ => ⟨rfl, f146.1⟩, fun hone => ?_⟩
    have hL : Lk2 M za zb := by
      apply Classical.not_not.1
      intro hn
      exact hone (by rw [(joinR_no hn).2]; decide)
    obtain ⟨e1, e2⟩ := joinR_yes hL
    have hc : 0 ≤ M.c := by have := hL.1.1.1; omega
    have rj : RR w146 j (rowsOf (pJ za zb) M.d M.c.toNat) := by have := f146.rr (u := j) (z := joinR M za zb) (by simp); rwa [e1] at this
    refine (impl_CountOpeners_val M.c M.d M.s M.m M.l j _ w146 rj).call fun w471 h471 => ⟨_, _, by rw [coR_yes (join_lk hL)], h471.keeps, ?_⟩
    have f471 := f146.ext h471
    refine (impl_CountOpeners_val M.c M.d M.s M.m M.l p za w471 (f471.rr (by simp))).call fun w475 h475 => ⟨_, _, by rw [coR_yes hL.1], h475.keeps, ?_⟩
    have f475 := f471.ext h475
    refine (impl_CountOpeners_val M.c M.d M.s M.m M.l q zb w475 (f475.rr (by simp))).call fun w479 h479 => ⟨_, _, by rw [coR_yes hL.2], h479.keeps, ?_⟩
    have f479 := f475.ext h479
    refine ⟨fun hne => absurd rfl hne, fun _ => ⟨fun hne => absurd rfl hne, fun _ => ⟨fun hne => absurd rfl hne, fun _ => ?_⟩⟩⟩
    obtain ⟨l1, l2, l3⟩ := meet_law hc za zb
    have m1 := openers_max (M := M) hL.1.1 za
    have m2 := openers_max (M := M) hL.1.1 zb
    have last : ∀ (n : Nat) (W : World), n = ((keys M).filter fun k => qO M.c.toNat za k && qO M.c.toNat zb k).length → Ext w W → laws_FnMeetings_k0 (fun u w' => u = .bool true ∧ Ext w w') ((openersOf M (rowsOf (pJ za zb) M.d M.c.toNat)).length : Int) ((openersOf M za).length : Int) ((openersOf M zb).length : Int) (n : Int) W := by
      intro n W hn hW
      subst hn
      refine ⟨by unfold I64; omega, by unfold I64; omega, fun _ => ⟨beq_val (decide_eq_true (by omega)), hW⟩, fun hno => absurd (by omega) hno⟩
    refine ⟨fun h0 => ?_, fun h0 => ?_⟩
    · have hM : meetOk M za zb := by
        apply Classical.not_not.1
        intro hn
        rw [(meetR_none hL hn).2] at h0
        cases h0
      have rx : RR w479 x (rowsOf (pM za zb) M.d M.c.toNat) := by have := f479.rr (u := x) (z := meetR M za zb) (by simp); rwa [(meetR_yes hL hM).1] at this
      refine (impl_CountOpeners_val M.c M.d M.s M.m M.l x _ w479 rx).call fun w940 h940 => ⟨_, _, by rw [coR_yes (meet_lk hL hM)], h940.keeps, fun hne => absurd rfl hne, fun _ => ?_⟩
      exact last _ w940 (by rw [meet_count hc]) (f479.ext h940).1
    · have hM : ¬ meetOk M za zb := fun hM => h0 (meetR_yes hL hM).2
      exact last 0 w479 (by rw [meet_none hc hM]; rfl) f479.1))
set_option linter.unusedSimpArgs false in
theorem readable : ∀ t ∈ Try.f3.params.toList, Try.prog.readableRec t = true ∧ t < Try.prog.types.size := by
  rw [Try.params3]
  simp only [List.mem_cons, List.not_mem_nil, or_false, forall_eq_or_imp, forall_eq]
  exact ⟨by kernel_rfl, of_decide_eq_true (by kernel_rfl)⟩

set_option maxRecDepth 100000 in
theorem lifted (os : Os) (started : os.Started) (H : Type) (enc : TypeId × Value → H) :
    ReturnsInHanded {} Try.checked os 3 .any (Rows.fnMeetingsSpec.pre6 enc Try.prog Try.f3 Rows.fnMeetingsRow.domain false) (Rows.fnMeetingsSpec.post enc Try.prog Try.f3 false true false false) := by
  refine returnsInHanded_of_change (C := Try.checked) ownKnobNone started (by kernel_rfl) Try.func3
    (ChangeSpec.witness6 (enc := enc) (C := Try.checked) false ⟨#[], #[.slice none 0 0], []⟩ 8 (by kernel_rfl) (by kernel_rfl) (by kernel_rfl) (by kernel_rfl)) ?_
  intro W base args ds gs before hval0 hW hcnd _
  have hval : ∀ (j : Nat) t v, Try.f3.params[j]? = some t → args[j]? = some v → Value.okWide Try.prog W .any base t v := hval0
  have hW' := hW
  obtain ⟨p, q, hA0, hV, rfl, hfz, hnd⟩ := hW
  have hA1 : DataW.TrodAll enc Try.prog W 0 (fun _ => true) true Try.f3.params.toList args.toList ds p := hA0
  have hA := hA1
  rw [Try.params3] at hA hval
  obtain ⟨v0, vs0, d0, ds0, p0, q0, hargs, rfl, rfl, h0, r0⟩ := trodAll_cons hA
  obtain ⟨rfl, rfl, rfl⟩ := trodAll_nil r0
  obtain rfl : args = #[v0] := by cases args; simp_all
  obtain ⟨rfl, rfl⟩ := trodVars_none hV
  obtain ⟨z0, hz0⟩ := open_RB Try.underlying22 Try.underlying5 (by kernel_rfl) (hval 0 22 v0 rfl rfl) h0
  clear hA0 hval0
  refine (Val.calls (walk v0 z0 W hz0)).mono fun e W' ⟨he, hg⟩ => ?_
  subst he
  exact ⟨_, rfl, law_post laidOut readable hW' hA1 Try.underlying4 rfl rfl rfl hg⟩

theorem proved : Rows.FnMeetingsSaid :=
  OpenClaim.holds_of_wide 3 Try.f3 rfl rfl rfl rfl rfl rfl rfl ⟨rfl, rfl, rfl, rfl, rfl⟩ rfl rfl rfl rfl rfl (by kernel_rfl) Try.func3 (by kernel_rfl)
    (of_decide_eq_true (by kernel_rfl)) (by unfold Func.isWrapper; first | (rw [if_pos (by decide +kernel)]; kernel_rfl) | (rw [if_neg (by decide +kernel)]; exact ⟨rfl, rfl⟩))
    (fun os started H enc _ => lifted os started H enc)

end Go.Proofs.Ytccekkkiaebnmaa.lawFnMeetings
