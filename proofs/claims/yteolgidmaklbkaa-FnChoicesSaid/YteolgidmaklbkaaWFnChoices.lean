/- The law FnChoices: the number of sets is the sum of those with and without the last thing. No condition. -/
import Derived.Test.YteolgidmaklbkaaLawsB
import Derived.Test.YteolgidmaklbkaaL01c
set_option linter.unusedVariables false
namespace Go.Proofs
open Go.Sx Go.RowKit
abbrev laws_FnChoices_k0 (Post : Value → World → Prop) (x181 : Int) (x182 : Int) (w230 : World) : Prop :=
  (((x182 ≠ (0 : Int)) → Post (Value.bool true) w230) ∧ (¬ (x182 ≠ (0 : Int)) → Post (Value.bool (decide (x181 = (1 : Int)))) w230))
abbrev laws_FnChoices_k1 (w : World) (Post : Value → World → Prop) (x288 : Int) (x289 : Int) (x290 : Int) (w342 : World) : Prop :=
  I64 (x288 - 1) ∧ I64 (x289 - 1) ∧ Calls Try.prog 23 #[(Value.int .i64 (x288 - 1)), (Value.int .i64 (x289 - 1))] w342 (fun e343 w344 => ∃ n345 : Int, ∃ n346 : Int, e343 = .returned (Value.tuple #[(Value.int .i64 n345), (Value.int .i64 n346)]) ∧ Keeps w.heap.size [] w342 w344 ∧ I64 (x288 - 1) ∧ Calls Try.prog 23 #[(Value.int .i64 (x288 - 1)), (Value.int .i64 x289)] w344 (fun e347 w348 => ∃ n349 : Int, ∃ n350 : Int, e347 = .returned (Value.tuple #[(Value.int .i64 n349), (Value.int .i64 n350)]) ∧ Keeps w.heap.size [] w344 w348 ∧ I64 (x288 - x289) ∧ Calls Try.prog 23 #[(Value.int .i64 x288), (Value.int .i64 (x288 - x289))] w348 (fun e351 w352 => ∃ n353 : Int, ∃ n354 : Int, e351 = .returned (Value.tuple #[(Value.int .i64 n353), (Value.int .i64 n354)]) ∧ Keeps w.heap.size [] w348 w352 ∧ (((n346 = (0 : Int)) → (((n350 = (0 : Int)) → I64 (n345 + n349) ∧ (((x290 = (n345 + n349)) → (((n354 = (0 : Int)) → Post (Value.bool (decide (n353 = x290))) w352) ∧ (¬ (n354 = (0 : Int)) → Post (Value.bool false) w352))) ∧ (¬ (x290 = (n345 + n349)) → Post (Value.bool false) w352))) ∧ (¬ (n350 = (0 : Int)) → Post (Value.bool false) w352))) ∧ (¬ (n346 = (0 : Int)) → Post (Value.bool false) w352)))))
abbrev laws_FnChoices_k2 (w : World) (Post : Value → World → Prop) (x127 : Int) (x128 : Int) (x232 : Int) (x233 : Int) (x234 : Int) (x235 : Int) (w286 : World) : Prop :=
  (((x128 = x127) → (((x235 ≠ (0 : Int)) → Post (Value.bool true) w286) ∧ (¬ (x235 ≠ (0 : Int)) → Post (Value.bool (decide (x234 = (1 : Int)))) w286))) ∧ (¬ (x128 = x127) → (laws_FnChoices_k1 w Post x232 x233 x234 w286)))
abbrev laws_FnChoices_k3 (w : World) (Post : Value → World → Prop) (x127 : Int) (x128 : Int) (x129 : Int) (x130 : Int) (w177 : World) : Prop :=
  (((x130 ≠ (0 : Int)) → (laws_FnChoices_k0 Post x129 x130 w177)) ∧ (¬ (x130 ≠ (0 : Int)) → (((x128 = (0 : Int)) → (laws_FnChoices_k0 Post x129 x130 w177)) ∧ (¬ (x128 = (0 : Int)) → (laws_FnChoices_k2 w Post x127 x128 x127 x128 x129 x130 w177)))))
abbrev laws_FnChoices_k4 (w : World) (Post : Value → World → Prop) (b70 : Bool) (b73 : Bool) (x75 : Int) (x76 : Int) (x77 : Int) (x78 : Int) (w125 : World) : Prop :=
  (((b70 ≠ b73) → Post (Value.bool false) w125) ∧ (¬ (b70 ≠ b73) → (laws_FnChoices_k3 w Post x75 x76 x77 x78 w125)))
abbrev laws_FnChoices_k5 (w : World) (Post : Value → World → Prop) (x4 : Value) (w7 : World) : Prop :=
  Calls Try.prog 22 #[x4] w7 (fun e8 w9 => ∃ n10 : Int, ∃ n11 : Int, e8 = .returned (Value.tuple #[(Value.int .i64 n10), (Value.int .i64 n11)]) ∧ Keeps w.heap.size [] w7 w9 ∧ Calls Try.prog 23 #[(Value.int .i64 n10), (Value.int .i64 n11)] w9 (fun e12 w13 => ∃ n14 : Int, ∃ n15 : Int, e12 = .returned (Value.tuple #[(Value.int .i64 n14), (Value.int .i64 n15)]) ∧ Keeps w.heap.size [] w9 w13 ∧ Calls Try.prog 24 #[(Value.int .i64 n10), (Value.int .i64 n11)] w13 (fun e16 w17 => ∃ n18 : Int, ∃ n19 : Int, e16 = .returned (Value.tuple #[(Value.int .i64 n18), (Value.int .i64 n19)]) ∧ Keeps w.heap.size [] w13 w17 ∧ Calls Try.prog 25 #[x4] w17 (fun e20 w21 => ∃ u22 : Value, ∃ n23 : Int, e20 = .returned (Value.tuple #[u22, (Value.int .i64 n23)]) ∧ Keeps w.heap.size [] w17 w21 ∧ (((n15 ≠ n19) → Post (Value.bool false) w21) ∧ (¬ (n15 ≠ n19) → (((n14 ≠ n18) → Post (Value.bool false) w21) ∧ (¬ (n14 ≠ n18) → Calls Try.prog 26 #[u22, (Value.int .i64 n23)] w21 (fun e68 w69 => ∃ b70 : Bool, e68 = .returned (Value.bool b70) ∧ Keeps w.heap.size [] w21 w69 ∧ Calls Try.prog 27 #[u22, (Value.int .i64 n23)] w69 (fun e71 w72 => ∃ b73 : Bool, e71 = .returned (Value.bool b73) ∧ Keeps w.heap.size [] w69 w72 ∧ (laws_FnChoices_k4 w Post b70 b73 n10 n11 n14 n15 w72)))))))))))
def laws_FnChoices_vc (v : Value) (w : World) (Post : Value → World → Prop) : Prop :=
  Calls Try.prog 21 #[v] w (fun e1 w2 => ∃ b3 : Bool, e1 = .returned (Value.bool b3) ∧ Keeps w.heap.size [] w w2 ∧ ((b3 = true → Post (Value.bool true) w2) ∧ (b3 = false → (laws_FnChoices_k5 w Post v w2))))
theorem laws_FnChoices_eq (v : Value) (w : World) (Post : Value → World → Prop) : denF Try.prog [] noAnn 4 [v] w Post = laws_FnChoices_vc v w Post := by kernel_rfl
set_option maxRecDepth 100000 in
theorem laws_FnChoices_calls (v : Value) (w : World) (Post : Value → World → Prop) (hvc : laws_FnChoices_vc v w Post) : Ret Try.prog 4 #[v] w Post :=
  Ret.of (denF_sound mixed (Eq.mpr (laws_FnChoices_eq v w Post) hvc))

end Go.Proofs
namespace Go.Proofs.Yteolgidmaklbkaa.lawFnChoices
open Go.Proofs Go.Sx Go.RowKit Go.ChangeShapes Go.WideShapes Go.ChangeAt Go.Joins
theorem lim_ok {n : Int} (h : ¬ Mx < n) : lim n = .tuple #[.int .i64 n, .int .i64 0] := by unfold lim; rw [if_neg h]
theorem walk (v : Value) (zs : List Int) (w : World) (h : RB w v zs) : Val Try.prog 4 #[v] w (.bool true) :=
  Ret.val (laws_FnChoices_calls v w _ (by
    unfold laws_FnChoices_vc
    refine (laws_big_ret v zs w h).call ?_
    rintro _ w1 ⟨⟨b, rfl⟩, h1⟩
    refine ⟨b, rfl, h1.keeps, fun _ => ⟨rfl, h1⟩, fun _ => ?_⟩
    refine (spec_DrawChooseOf_ret v zs w1 (h.ext h1)).call ?_
    rintro _ w2 ⟨n, k, rfl, h2⟩
    refine ⟨n, k, rfl, h2.keeps, ?_⟩
    obtain ⟨x, y, e⟩ := chooseR_pair n k
    refine (impl_ChooseOf_val n k w2).call fun w3 h3 => ⟨x, y, by rw [e], h3.keeps, ?_⟩
    refine (spec_ChooseOf_val n k w3).call fun w4 h4 => ⟨x, y, by rw [e], h4.keeps, ?_⟩
    have k4 := ((h1.trans h2).trans h3).trans h4
    refine (spec_DrawIsRising_ret v zs w4 (h.ext k4)).call ?_
    rintro _ w5 ⟨u, xs, q, rfl, hu, h5⟩
    refine ⟨u, q, rfl, h5.keeps, fun hne => absurd rfl hne, fun _ => ⟨fun hne => absurd rfl hne, fun _ => ?_⟩⟩
    have k5 := k4.trans h5
    refine (impl_IsRising_val u q xs w5 hu).call fun w6 h6 => ⟨_, rfl, h6.keeps, ?_⟩
    refine (spec_IsRising_val u q xs w6 (hu.ext h6)).call fun w7 h7 => ⟨_, rfl, h7.keeps, ?_⟩
    have k7 := (k5.trans h6).trans h7
    refine ⟨fun hne => absurd rfl hne, fun _ => ?_⟩
    refine ⟨fun hy => ⟨fun _ => ⟨rfl, k7⟩, fun hn => absurd hy hn⟩, fun hy => ?_⟩
    have hy0 : y = 0 := Classical.not_not.1 hy
    subst hy0
    unfold chooseR at e
    split at e
    case isFalse => simp [errR] at e
    rename_i hr
    obtain ⟨⟨n0, n1⟩, k0, k1⟩ := hr
    by_cases hlim : Mx < ((binom n.toNat k.toNat : Nat) : Int)
    · unfold lim at e; rw [if_pos hlim] at e; simp at e
    rw [lim_ok hlim] at e
    simp only [Value.tuple.injEq, Array.mk.injEq, List.cons.injEq, Value.int.injEq, and_true, true_and] at e
    subst e
    refine ⟨fun hk => ⟨fun hn => absurd rfl hn, fun _ => ⟨?_, k7⟩⟩, fun hk => ⟨fun hkn => ⟨fun hn => absurd rfl hn, fun _ => ⟨?_, k7⟩⟩, fun hkn => ?_⟩⟩
    · subst hk
      simp [binom_zero]
    · subst hkn
      simp [binom_self]
    obtain ⟨a, ha⟩ : ∃ a, n.toNat = a + 1 := ⟨n.toNat - 1, by omega⟩
    obtain ⟨c, hc⟩ : ∃ c, k.toNat = c + 1 := ⟨k.toNat - 1, by omega⟩
    have hb : binom n.toNat k.toNat = binom a c + binom a (c + 1) := by rw [ha, hc]; rfl
    have e1 : chooseR (n - 1) (k - 1) = .tuple #[.int .i64 (binom a c : Nat), .int .i64 0] := by
      unfold chooseR
      rw [if_pos (by omega), show (n - 1).toNat = a by omega, show (k - 1).toNat = c by omega]
      exact lim_ok (by omega)
    have e2 : chooseR (n - 1) k = .tuple #[.int .i64 (binom a (c + 1) : Nat), .int .i64 0] := by
      unfold chooseR
      rw [if_pos (by omega), show (n - 1).toNat = a by omega, hc]
      exact lim_ok (by omega)
    have e3 : chooseR n (n - k) = .tuple #[.int .i64 (binom n.toNat k.toNat : Nat), .int .i64 0] := by
      unfold chooseR
      rw [if_pos (by omega), show (n - k).toNat = n.toNat - k.toNat by omega, binom_symm _ _ (by omega)]
      exact lim_ok hlim
    refine ⟨by unfold I64; omega, by unfold I64; omega, ?_⟩
    refine (impl_ChooseOf_val (n - 1) (k - 1) w7).call fun w8 h8 => ⟨_, _, by rw [e1], h8.keeps, by unfold I64; omega, ?_⟩
    refine (impl_ChooseOf_val (n - 1) k w8).call fun w9 h9 => ⟨_, _, by rw [e2], h9.keeps, by unfold I64; omega, ?_⟩
    refine (impl_ChooseOf_val n (n - k) w9).call fun w10 h10 => ⟨_, _, by rw [e3], h10.keeps, ?_⟩
    have k10 := ((k7.trans h8).trans h9).trans h10
    refine ⟨fun _ => ⟨fun _ => ⟨by unfold I64; simp only [Mx] at hlim; omega, fun _ => ⟨fun _ => ⟨by simp, k10⟩, fun hn => absurd rfl hn⟩, fun hn => absurd (by omega) hn⟩, fun hn => absurd rfl hn⟩, fun hn => absurd rfl hn⟩))
set_option linter.unusedSimpArgs false in
theorem readable : ∀ t ∈ Try.f4.params.toList, Try.prog.readableRec t = true ∧ t < Try.prog.types.size := by
  rw [Try.params4]
  simp only [List.mem_cons, List.not_mem_nil, or_false, forall_eq_or_imp, forall_eq]
  exact ⟨by kernel_rfl, of_decide_eq_true (by kernel_rfl)⟩

set_option maxRecDepth 100000 in
theorem lifted (os : Os) (started : os.Started) (H : Type) (enc : TypeId × Value → H) :
    ReturnsInHanded {} Try.checked os 4 .any (Rows.fnChoicesSpec.pre6 enc Try.prog Try.f4 Rows.fnChoicesRow.domain false) (Rows.fnChoicesSpec.post enc Try.prog Try.f4 false true false false) := by
  refine returnsInHanded_of_change (C := Try.checked) ownKnobNone started (by kernel_rfl) Try.func4
    (ChangeSpec.witness6 (enc := enc) (C := Try.checked) false ⟨#[], #[.slice none 0 0], []⟩ 8 (by kernel_rfl) (by kernel_rfl) (by kernel_rfl) (by kernel_rfl)) ?_
  intro W base args ds gs before hval0 hW hcnd _
  have hval : ∀ (j : Nat) t v, Try.f4.params[j]? = some t → args[j]? = some v → Value.okWide Try.prog W .any base t v := hval0
  have hW' := hW
  obtain ⟨p, q, hA0, hV, rfl, hfz, hnd⟩ := hW
  have hA1 : DataW.TrodAll enc Try.prog W 0 (fun _ => true) true Try.f4.params.toList args.toList ds p := hA0
  have hA := hA1
  rw [Try.params4] at hA hval
  obtain ⟨v0, vs0, d0, ds0, p0, q0, hargs, rfl, rfl, h0, r0⟩ := trodAll_cons hA
  obtain ⟨rfl, rfl, rfl⟩ := trodAll_nil r0
  obtain rfl : args = #[v0] := by cases args; simp_all
  obtain ⟨rfl, rfl⟩ := trodVars_none hV
  obtain ⟨z0, hz0⟩ := open_RB Try.underlying29 Try.underlying5 (by kernel_rfl) (hval 0 29 v0 rfl rfl) h0
  clear hA0 hval0
  refine (Val.calls (walk v0 z0 W hz0)).mono fun e W' ⟨he, hg⟩ => ?_
  subst he
  exact ⟨_, rfl, law_post laidOut readable hW' hA1 Try.underlying4 rfl rfl rfl hg⟩

theorem proved : Rows.FnChoicesSaid :=
  OpenClaim.holds_of_wide 4 Try.f4 rfl rfl rfl rfl rfl rfl rfl ⟨rfl, rfl, rfl, rfl, rfl⟩ rfl rfl rfl rfl rfl (by kernel_rfl) Try.func4 (by kernel_rfl)
    (of_decide_eq_true (by kernel_rfl)) (by unfold Func.isWrapper; first | (rw [if_pos (by decide +kernel)]; kernel_rfl) | (rw [if_neg (by decide +kernel)]; exact ⟨rfl, rfl⟩))
    (fun os started H enc _ => lifted os started H enc)

end Go.Proofs.Yteolgidmaklbkaa.lawFnChoices
