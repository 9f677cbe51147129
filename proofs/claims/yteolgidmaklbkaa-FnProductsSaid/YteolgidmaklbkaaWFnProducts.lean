/- The law FnProducts: a product does not depend on the order, a power is a product of equal factors. No condition. -/
import Derived.Test.YteolgidmaklbkaaLawsB
import Derived.Test.YteolgidmaklbkaaDraw4
import Derived.Test.YteolgidmaklbkaaDice
import Derived.Test.YteolgidmaklbkaaP01
import Derived.Test.YteolgidmaklbkaaL01s
set_option linter.unusedVariables false
namespace Go.Proofs
open Go.Sx Go.RowKit
theorem prodR_two (zs : List Int) : ∃ x y, prodR zs = .tuple #[.int .i64 x, .int .i64 y] := by
  unfold prodR
  split
  · split
    · exact ⟨_, _, rfl⟩
    · exact lim_pair _
  · exact ⟨_, _, rfl⟩
theorem sumR_two (zs : List Int) : ∃ x y, sumR zs = .tuple #[.int .i64 x, .int .i64 y] := by
  unfold sumR
  split
  · exact lim_pair _
  · exact ⟨_, _, rfl⟩
theorem powR_two (a b : Int) : ∃ x y, powR a b = .tuple #[.int .i64 x, .int .i64 y] := by
  unfold powR
  split
  · exact lim_pair _
  · exact ⟨_, _, rfl⟩
abbrev laws_FnProducts_k0 (w : World) (Post : Value → World → Prop) (x918 : Value) (x919 : Value) (x920 : Int) (w1026 : World) : Prop :=
  Calls Try.prog 42 #[x918, (Value.int .u64 101)] w1026 (fun e1027 w1028 => ∃ p1029 : Addr, e1027 = .returned (Value.pointer (some p1029)) ∧ Keeps w.heap.size [] w1026 w1028 ∧ LenV x919 (fun n1030 => Calls Try.prog 43 #[(Value.pointer (some p1029)), (Value.int .i64 n1030)] w1028 (fun e1031 w1032 => ∃ n1033 : Int, e1031 = .returned (Value.int .i64 n1033) ∧ Keeps w.heap.size [] w1028 w1032 ∧ ∀ w1034 : World, Ext w1032 w1034 → SlV 1 x919 (some n1033) none none (fun u1035 => SlV 1 x919 none (some n1033) none (fun u1036 => ∀ (v1037 : Value) (w1038 : World), Own w1034.heap.size w1038 2 v1037 [] → Ext w1034 w1038 → AppV w1038 2 v1037 u1035 (fun v1039 w1040 => AppV w1040 2 v1039 u1036 (fun v1041 w1042 => Calls Try.prog 34 #[v1041] w1042 (fun e1043 w1044 => ∃ n1045 : Int, ∃ n1046 : Int, e1043 = .returned (Value.tuple #[(Value.int .i64 n1045), (Value.int .i64 n1046)]) ∧ Keeps w.heap.size [] w1042 w1044 ∧ (((n1046 = (0 : Int)) → Post (Value.bool (decide (n1045 = x920))) w1044) ∧ (¬ (n1046 = (0 : Int)) → Post (Value.bool false) w1044))))))))))
abbrev laws_FnProducts_k1 (w : World) (Post : Value → World → Prop) (n808 : Int) (x809 : Value) (x810 : Value) (x811 : Int) (w917 : World) : Prop :=
  (((n808 = (0 : Int)) → Post (Value.bool true) w917) ∧ (¬ (n808 = (0 : Int)) → (laws_FnProducts_k0 w Post x809 x810 x811 w917)))
abbrev laws_FnProducts_k2 (w : World) (Post : Value → World → Prop) (x595 : Value) (x596 : Value) (x597 : Int) (x598 : Int) (w700 : World) : Prop :=
  (((x598 ≠ (0 : Int)) → Post (Value.bool true) w700) ∧ (¬ (x598 ≠ (0 : Int)) → LenV x596 (fun n808 => (laws_FnProducts_k1 w Post n808 x595 x596 x597 w700))))
abbrev laws_FnProducts_k3 (w : World) (Post : Value → World → Prop) (x299 : Int) (x301 : Int) (n385 : Int) (x489 : Value) (x490 : Value) (x491 : Int) (x492 : Int) (w594 : World) : Prop :=
  ((((n385 * x299) ≠ x301) → Post (Value.bool false) w594) ∧ (¬ ((n385 * x299) ≠ x301) → (laws_FnProducts_k2 w Post x489 x490 x491 x492 w594)))
abbrev laws_FnProducts_k4 (w : World) (Post : Value → World → Prop) (x212 : Int) (x293 : Value) (x294 : Value) (x295 : Int) (x296 : Int) (x299 : Int) (x300 : Int) (x301 : Int) (w382 : World) : Prop :=
  ((((0 : Int) < x212) → I64 (x300 - 1) ∧ Calls Try.prog 37 #[(Value.int .i64 x299), (Value.int .i64 (x300 - 1))] w382 (fun e383 w384 => ∃ n385 : Int, ∃ n386 : Int, e383 = .returned (Value.tuple #[(Value.int .i64 n385), (Value.int .i64 n386)]) ∧ Keeps w.heap.size [] w382 w384 ∧ (((n386 ≠ (0 : Int)) → Post (Value.bool false) w384) ∧ (¬ (n386 ≠ (0 : Int)) → I64 (n385 * x299) ∧ (laws_FnProducts_k3 w Post x299 x301 n385 x293 x294 x295 x296 w384))))) ∧ (¬ ((0 : Int) < x212) → (laws_FnProducts_k2 w Post x293 x294 x295 x296 w382)))
abbrev laws_FnProducts_k5 (w : World) (Post : Value → World → Prop) (x206 : Value) (x207 : Value) (x208 : Int) (x209 : Int) (x212 : Int) (x213 : Int) (x214 : Int) (x215 : Int) (w292 : World) : Prop :=
  (((x215 = (0 : Int)) → ((((0 : Int) < x213) → (laws_FnProducts_k4 w Post x212 x206 x207 x208 x209 x212 x213 x214 w292)) ∧ (¬ ((0 : Int) < x213) → (laws_FnProducts_k2 w Post x206 x207 x208 x209 w292)))) ∧ (¬ (x215 = (0 : Int)) → (laws_FnProducts_k2 w Post x206 x207 x208 x209 w292)))
abbrev laws_FnProducts_k6 (w : World) (Post : Value → World → Prop) (n36 : Int) (n40 : Int) (x119 : Value) (x120 : Value) (x121 : Int) (x122 : Int) (x125 : Int) (x126 : Int) (x127 : Int) (x128 : Int) (w205 : World) : Prop :=
  (((n36 ≠ n40) → Post (Value.bool false) w205) ∧ (¬ (n36 ≠ n40) → (laws_FnProducts_k5 w Post x119 x120 x121 x122 x125 x126 x127 x128 w205)))
abbrev laws_FnProducts_k7 (w : World) (Post : Value → World → Prop) (x4 : Value) (w7 : World) : Prop :=
  Calls Try.prog 33 #[x4] w7 (fun e8 w9 => ∃ u10 : Value, e8 = .returned u10 ∧ Keeps w.heap.size [] w7 w9 ∧ Calls Try.prog 34 #[u10] w9 (fun e11 w12 => ∃ n13 : Int, ∃ n14 : Int, e11 = .returned (Value.tuple #[(Value.int .i64 n13), (Value.int .i64 n14)]) ∧ Keeps w.heap.size [] w9 w12 ∧ Calls Try.prog 35 #[u10] w12 (fun e15 w16 => ∃ n17 : Int, ∃ n18 : Int, e15 = .returned (Value.tuple #[(Value.int .i64 n17), (Value.int .i64 n18)]) ∧ Keeps w.heap.size [] w12 w16 ∧ Calls Try.prog 36 #[x4] w16 (fun e19 w20 => ∃ n21 : Int, ∃ n22 : Int, e19 = .returned (Value.tuple #[(Value.int .i64 n21), (Value.int .i64 n22)]) ∧ Keeps w.heap.size [] w16 w20 ∧ Calls Try.prog 37 #[(Value.int .i64 n21), (Value.int .i64 n22)] w20 (fun e23 w24 => ∃ n25 : Int, ∃ n26 : Int, e23 = .returned (Value.tuple #[(Value.int .i64 n25), (Value.int .i64 n26)]) ∧ Keeps w.heap.size [] w20 w24 ∧ Calls Try.prog 38 #[(Value.int .i64 n21), (Value.int .i64 n22)] w24 (fun e27 w28 => ∃ n29 : Int, ∃ n30 : Int, e27 = .returned (Value.tuple #[(Value.int .i64 n29), (Value.int .i64 n30)]) ∧ Keeps w.heap.size [] w24 w28 ∧ Calls Try.prog 39 #[x4] w28 (fun e31 w32 => ∃ u33 : Value, e31 = .returned u33 ∧ Keeps w.heap.size [] w28 w32 ∧ Calls Try.prog 40 #[u33] w32 (fun e34 w35 => ∃ n36 : Int, ∃ n37 : Int, e34 = .returned (Value.tuple #[(Value.int .i64 n36), (Value.int .i64 n37)]) ∧ Keeps w.heap.size [] w32 w35 ∧ Calls Try.prog 41 #[u33] w35 (fun e38 w39 => ∃ n40 : Int, ∃ n41 : Int, e38 = .returned (Value.tuple #[(Value.int .i64 n40), (Value.int .i64 n41)]) ∧ Keeps w.heap.size [] w35 w39 ∧ (((n14 ≠ n18) → Post (Value.bool false) w39) ∧ (¬ (n14 ≠ n18) → (((n13 ≠ n17) → Post (Value.bool false) w39) ∧ (¬ (n13 ≠ n17) → (((n26 ≠ n30) → Post (Value.bool false) w39) ∧ (¬ (n26 ≠ n30) → (((n25 ≠ n29) → Post (Value.bool false) w39) ∧ (¬ (n25 ≠ n29) → (((n37 ≠ n41) → Post (Value.bool false) w39) ∧ (¬ (n37 ≠ n41) → (laws_FnProducts_k6 w Post n36 n40 x4 u10 n13 n14 n21 n22 n25 n26 w39))))))))))))))))))))
def laws_FnProducts_vc (v : Value) (w : World) (Post : Value → World → Prop) : Prop :=
  Calls Try.prog 21 #[v] w (fun e1 w2 => ∃ b3 : Bool, e1 = .returned (Value.bool b3) ∧ Keeps w.heap.size [] w w2 ∧ ((b3 = true → Post (Value.bool true) w2) ∧ (b3 = false → (laws_FnProducts_k7 w Post v w2))))
theorem laws_FnProducts_eq (v : Value) (w : World) (Post : Value → World → Prop) : denF Try.prog [9400000, 9700000, 9800000] noAnn 6 [v] w Post = laws_FnProducts_vc v w Post := by kernel_rfl
set_option maxRecDepth 100000 in
theorem laws_FnProducts_calls (v : Value) (w : World) (Post : Value → World → Prop) (hvc : laws_FnProducts_vc v w Post) : Ret Try.prog 6 #[v] w Post :=
  Ret.of (denF_sound mixed (Eq.mpr (laws_FnProducts_eq v w Post) hvc))

end Go.Proofs
namespace Go.Proofs.Yteolgidmaklbkaa.lawFnProducts
open Go.Proofs Go.Sx Go.RowKit Go.ChangeShapes Go.WideShapes Go.ChangeAt Go.Joins
theorem walk (v : Value) (zs : List Int) (w : World) (h : RB w v zs) : Val Try.prog 6 #[v] w (.bool true) :=
  Ret.val (laws_FnProducts_calls v w _ (by
    unfold laws_FnProducts_vc
    refine (laws_big_ret v zs w h).call ?_
    rintro _ w1 ⟨⟨b, rfl⟩, h1⟩
    refine ⟨b, rfl, h1.keeps, fun _ => ⟨rfl, h1⟩, fun _ => ?_⟩
    refine (spec_DrawProductOf_ret v zs w1 (h.ext h1)).call ?_
    rintro u w2 ⟨xs, ru, h2⟩
    refine ⟨u, rfl, h2.keeps, ?_⟩
    obtain ⟨x, y, e⟩ := prodR_two xs
    refine (impl_ProductOf_val u xs w2 ru).call fun w3 h3 => ⟨x, y, by rw [e], h3.keeps, ?_⟩
    refine (spec_ProductOf_val u xs w3 (ru.ext h3)).call fun w4 h4 => ⟨x, y, by rw [e], h4.keeps, ?_⟩
    have k4 := ((h1.trans h2).trans h3).trans h4
    have ru := (RI.ext ru h3).ext h4
    refine (spec_DrawPowerOf_ret v zs w4 (h.ext k4)).call ?_
    rintro _ w5 ⟨a, b, rfl, h5⟩
    refine ⟨a, b, rfl, h5.keeps, ?_⟩
    obtain ⟨p, q, e2⟩ := powR_two a b
    refine (impl_PowerOf_val a b w5).call fun w6 h6 => ⟨p, q, by rw [e2], h6.keeps, ?_⟩
    refine (spec_PowerOf_val a b w6).call fun w7 h7 => ⟨p, q, by rw [e2], h7.keeps, ?_⟩
    have k7 := ((k4.trans h5).trans h6).trans h7
    have ru := ((RI.ext ru h5).ext h6).ext h7
    refine (spec_DrawSumOf_ret v zs w7 (h.ext k7)).call ?_
    rintro t w8 ⟨ys, rt, h8⟩
    refine ⟨t, rfl, h8.keeps, ?_⟩
    obtain ⟨f, g, e3⟩ := sumR_two ys
    refine (impl_SumOf_val t ys w8 rt).call fun w9 h9 => ⟨f, g, by rw [e3], h9.keeps, ?_⟩
    refine (spec_SumOf_val t ys w9 (rt.ext h9)).call fun w10 h10 => ⟨f, g, by rw [e3], h10.keeps, fun hn => absurd rfl hn, fun _ => ⟨fun hn => absurd rfl hn, fun _ => ⟨fun hn => absurd rfl hn, fun _ => ⟨fun hn => absurd rfl hn, fun _ => ⟨fun hn => absurd rfl hn, fun _ => ⟨fun hn => absurd rfl hn, fun _ => ?_⟩⟩⟩⟩⟩⟩
    have k10 := ((k7.trans h8).trans h9).trans h10
    have ru := ((RI.ext ru h8).ext h9).ext h10
    have tail : ∀ W, Ext w10 W → laws_FnProducts_k2 w (fun u w' => u = .bool true ∧ Ext w w') v u x y W := by
      intro W hW
      have kW := k10.trans hW
      have rW := RI.ext ru hW
      refine ⟨fun _ => ⟨rfl, kW⟩, fun hy => rW.len ⟨fun _ => ⟨rfl, kW⟩, fun hpos => ?_⟩⟩
      have hy0 : y = 0 := Classical.not_not.1 hy
      subst hy0
      refine (laws_roll_ret v zs 101 W (h.ext kW)).call ?_
      rintro _ w11 ⟨d, rfl, hd⟩
      have h11 : Ext W w11 := hd.1
      refine ⟨_, rfl, h11.keeps, (RI.ext rW h11).len ?_⟩
      refine (laws_below_ret W d v zs xs.length (by omega) w11 hd).call ?_
      rintro _ w12 ⟨i, rfl, i0, i1, h12, p12⟩
      refine ⟨i, rfl, p12.keeps (fun k cs T fz hk hh hT => by simp at hT), fun w13 h13 => ?_⟩
      have x13 := h12.trans h13
      have r13 := RI.ext rW x13
      refine r13.sl i.toNat xs.length (by simp; omega) (by simp) (by omega) (Nat.le_refl _) fun s1 r1 => r13.sl 0 i.toNat rfl (by simp; omega) (Nat.zero_le _) (by omega) fun s2 r2 => ?_
      rw [List.take_of_length_le (Nat.le_refl _)] at r1
      rw [List.drop_zero] at r2
      intro o w14 o14 h14
      have hb := rW.bound
      have one : ∀ (l : List Int), ∀ z ∈ ints l, z.oneCell' = true := fun l z hz => by obtain ⟨_, _, rfl⟩ := List.mem_map.1 hz; rfl
      by_cases hbig : Nums xs
      · have hx100 := hbig.1
        refine o14.app (RI.ext r1 h14) (one _) (by simp; omega) h14.size fun s3 w15 o15 g15 _ => ?_
        have h15 : Ext w13 w15 := h14.grown o14 (Nat.le_refl _) g15
        refine o15.app (RI.ext r2 h15) (one _) (by simp; omega) h15.size fun s4 w16 o16 g16 _ => ?_
        have h16 : Ext w13 w16 := h15.grown o15 (Nat.le_refl _) g16
        have r16 : RI w16 s4 (xs.drop i.toNat ++ xs.take i.toNat) := by
          have := o16.rd
          rw [List.nil_append, ← ints_append] at this
          exact this
        refine (impl_ProductOf_val s4 _ w16 r16).call fun w17 h17 => ⟨x, 0, by rw [prodR_turn, e], h17.keeps, fun _ => ⟨beq_val (decide_eq_true rfl), ((kW.trans x13).trans h16).trans h17⟩, fun hn => absurd rfl hn⟩
      · unfold prodR at e
        rw [if_neg hbig] at e
        simp [errR] at e
    refine ⟨fun hq => ⟨fun hb => ⟨fun ha => ?_, fun _ => tail w10 (.refl _)⟩, fun _ => tail w10 (.refl _)⟩, fun _ => tail w10 (.refl _)⟩
    subst hq
    unfold powR at e2
    split at e2
    · rename_i hab
      obtain ⟨k, hk⟩ : ∃ k : Nat, b.toNat = k + 1 := ⟨b.toNat - 1, by omega⟩
      rw [hk] at e2
      obtain ⟨s1, s2, s3, s4⟩ := pow_step ha e2
      refine ⟨by unfold I64; omega, (impl_PowerOf_val a (b - 1) w10).call fun w11 h11 => ⟨pow a k, 0, ?_, h11.keeps, fun hn => absurd rfl hn, fun _ => ⟨by unfold I64; rw [s2]; unfold Mx at s4; omega, fun hn => absurd s2 hn, fun _ => tail w11 h11⟩⟩⟩
      unfold powR
      rw [if_pos ⟨hab.1, by omega, by omega⟩, show (b - 1).toNat = k by omega, s1]
    · simp [errR] at e2))
set_option linter.unusedSimpArgs false in
theorem readable : ∀ t ∈ Try.f6.params.toList, Try.prog.readableRec t = true ∧ t < Try.prog.types.size := by
  rw [Try.params6]
  simp only [List.mem_cons, List.not_mem_nil, or_false, forall_eq_or_imp, forall_eq]
  exact ⟨by kernel_rfl, of_decide_eq_true (by kernel_rfl)⟩

set_option maxRecDepth 100000 in
theorem lifted (os : Os) (started : os.Started) (H : Type) (enc : TypeId × Value → H) :
    ReturnsInHanded {} Try.checked os 6 .any (Rows.fnProductsSpec.pre6 enc Try.prog Try.f6 Rows.fnProductsRow.domain false) (Rows.fnProductsSpec.post enc Try.prog Try.f6 false true false false) := by
  refine returnsInHanded_of_change (C := Try.checked) ownKnobNone started (by kernel_rfl) Try.func6
    (ChangeSpec.witness6 (enc := enc) (C := Try.checked) false ⟨#[], #[.slice none 0 0], []⟩ 8 (by kernel_rfl) (by kernel_rfl) (by kernel_rfl) (by kernel_rfl)) ?_
  intro W base args ds gs before hval0 hW hcnd _
  have hval : ∀ (j : Nat) t v, Try.f6.params[j]? = some t → args[j]? = some v → Value.okWide Try.prog W .any base t v := hval0
  have hW' := hW
  obtain ⟨p, q, hA0, hV, rfl, hfz, hnd⟩ := hW
  have hA1 : DataW.TrodAll enc Try.prog W 0 (fun _ => true) true Try.f6.params.toList args.toList ds p := hA0
  have hA := hA1
  rw [Try.params6] at hA hval
  obtain ⟨v0, vs0, d0, ds0, p0, q0, hargs, rfl, rfl, h0, r0⟩ := trodAll_cons hA
  obtain ⟨rfl, rfl, rfl⟩ := trodAll_nil r0
  obtain rfl : args = #[v0] := by cases args; simp_all
  obtain ⟨rfl, rfl⟩ := trodVars_none hV
  obtain ⟨z0, hz0⟩ := open_RB Try.underlying29 Try.underlying5 (by kernel_rfl) (hval 0 29 v0 rfl rfl) h0
  clear hA0 hval0
  refine (Val.calls (walk v0 z0 W hz0)).mono fun e W' ⟨he, hg⟩ => ?_
  subst he
  exact ⟨_, rfl, law_post laidOut readable hW' hA1 Try.underlying4 rfl rfl rfl hg⟩

theorem proved : Rows.FnProductsSaid :=
  OpenClaim.holds_of_wide 6 Try.f6 rfl rfl rfl rfl rfl rfl rfl ⟨rfl, rfl, rfl, rfl, rfl⟩ rfl rfl rfl rfl rfl (by kernel_rfl) Try.func6 (by kernel_rfl)
    (of_decide_eq_true (by kernel_rfl)) (by unfold Func.isWrapper; first | (rw [if_pos (by decide +kernel)]; kernel_rfl) | (rw [if_neg (by decide +kernel)]; exact ⟨rfl, rfl⟩))
    (fun os started H enc _ => lifted os started H enc)

end Go.Proofs.Yteolgidmaklbkaa.lawFnProducts
