/- The law FnExactRankOf: the program's function answers as the reference's, for all arguments. No condition. -/
import Derived.Test.YtlepcepjfnngfaaL03d
set_option linter.unusedVariables false
namespace Go.Proofs
open Go.Sx Go.RowKit
abbrev laws_FnExactRankOf_k0 (w : World) (Post : Value → World → Prop) (x168 : Value) (x171 : Value) (w222 : World) : Prop :=
  Calls Try.prog 16 #[x168] w222 (fun e223 w224 => ∃ u225 : Value, e223 = .returned u225 ∧ Keeps w.heap.size [23] w222 w224 ∧ Calls Try.prog 18 #[x171, u225] w224 (fun e226 w227 => ∃ b228 : Bool, e226 = .returned (Value.bool b228) ∧ Keeps w.heap.size [23] w224 w227 ∧ (((!b228) = true → Post (Value.bool false) w227) ∧ ((!b228) = false → Post (Value.bool true) w227))))
abbrev laws_FnExactRankOf_k1 (w : World) (Post : Value → World → Prop) (n30 : Int) (n44 : Int) (x108 : Value) (x111 : Value) (w162 : World) : Prop :=
  (((n44 ≠ n30) → Post (Value.bool false) w162) ∧ (¬ (n44 ≠ n30) → (laws_FnExactRankOf_k0 w Post x108 x111 w162)))
abbrev laws_FnExactRankOf_k2 (w : World) (Post : Value → World → Prop) (x8 : Value) (x11 : Int) (x12 : Int) (x13 : Int) (x14 : Int) (x15 : Int) (w16 : World) : Prop :=
  Calls Try.prog 15 #[(Value.agg #[(Value.int .i64 x11), (Value.int .i64 x12), (Value.int .i64 x13), (Value.int .i64 x14), (Value.int .i64 x15)])] w16 (fun e17 w18 => ∃ n19 : Int, ∃ n20 : Int, ∃ n21 : Int, ∃ n22 : Int, ∃ n23 : Int, e17 = .returned (Value.agg #[(Value.int .i64 n19), (Value.int .i64 n20), (Value.int .i64 n21), (Value.int .i64 n22), (Value.int .i64 n23)]) ∧ Keeps w.heap.size [23] w16 w18 ∧ Calls Try.prog 16 #[x8] w18 (fun e24 w25 => ∃ u26 : Value, e24 = .returned u26 ∧ Keeps w.heap.size [23] w18 w25 ∧ Calls Try.prog 19 #[(Value.agg #[(Value.int .i64 n19), (Value.int .i64 n20), (Value.int .i64 n21), (Value.int .i64 n22), (Value.int .i64 n23)]), u26] w25 (fun e27 w28 => ∃ n29 : Int, ∃ n30 : Int, e27 = .returned (Value.tuple #[(Value.int .i64 n29), (Value.int .i64 n30)]) ∧ Keeps w.heap.size [23] w25 w28 ∧ Calls Try.prog 16 #[x8] w28 (fun e31 w32 => ∃ u33 : Value, e31 = .returned u33 ∧ Keeps w.heap.size [23] w28 w32 ∧ Calls Try.prog 15 #[(Value.agg #[(Value.int .i64 x11), (Value.int .i64 x12), (Value.int .i64 x13), (Value.int .i64 x14), (Value.int .i64 x15)])] w32 (fun e34 w35 => ∃ n36 : Int, ∃ n37 : Int, ∃ n38 : Int, ∃ n39 : Int, ∃ n40 : Int, e34 = .returned (Value.agg #[(Value.int .i64 n36), (Value.int .i64 n37), (Value.int .i64 n38), (Value.int .i64 n39), (Value.int .i64 n40)]) ∧ Keeps w.heap.size [23] w32 w35 ∧ Calls Try.prog 20 #[(Value.agg #[(Value.int .i64 n36), (Value.int .i64 n37), (Value.int .i64 n38), (Value.int .i64 n39), (Value.int .i64 n40)]), u33] w35 (fun e41 w42 => ∃ n43 : Int, ∃ n44 : Int, e41 = .returned (Value.tuple #[(Value.int .i64 n43), (Value.int .i64 n44)]) ∧ Keeps w.heap.size [23] w35 w42 ∧ (((n43 ≠ n29) → Post (Value.bool false) w42) ∧ (¬ (n43 ≠ n29) → (laws_FnExactRankOf_k1 w Post n30 n44 x8 u33 w42)))))))))
def laws_FnExactRankOf_vc (m_Chambers : Int) (m_Depths : Int) (m_Step : Int) (m_Same : Int) (m_Least : Int) (v : Value) (w : World) (Post : Value → World → Prop) : Prop :=
  ∀ w1 : World, Ext w w1 → LenV v (fun n2 => ((((1048576 : Int) < n2) → Post (Value.bool true) w1) ∧ (¬ ((1048576 : Int) < n2) → (laws_FnExactRankOf_k2 w Post v m_Chambers m_Depths m_Step m_Same m_Least w1))))
theorem laws_FnExactRankOf_eq (m_Chambers : Int) (m_Depths : Int) (m_Step : Int) (m_Same : Int) (m_Least : Int) (v : Value) (w : World) (Post : Value → World → Prop) : denF Try.prog [1000016] noAnn 4 [(Value.agg #[(Value.int .i64 m_Chambers), (Value.int .i64 m_Depths), (Value.int .i64 m_Step), (Value.int .i64 m_Same), (Value.int .i64 m_Least)]), v] w Post = laws_FnExactRankOf_vc m_Chambers m_Depths m_Step m_Same m_Least v w Post := by kernel_rfl
set_option maxRecDepth 100000 in
theorem laws_FnExactRankOf_calls (m_Chambers : Int) (m_Depths : Int) (m_Step : Int) (m_Same : Int) (m_Least : Int) (v : Value) (w : World) (Post : Value → World → Prop) (hvc : laws_FnExactRankOf_vc m_Chambers m_Depths m_Step m_Same m_Least v w Post) : Ret Try.prog 4 #[(Value.agg #[(Value.int .i64 m_Chambers), (Value.int .i64 m_Depths), (Value.int .i64 m_Step), (Value.int .i64 m_Same), (Value.int .i64 m_Least)]), v] w Post :=
  Ret.of (denF_sound mixed (Eq.mpr (laws_FnExactRankOf_eq m_Chambers m_Depths m_Step m_Same m_Least v w Post) hvc))

end Go.Proofs
namespace Go.Proofs.Ytlepcepjfnngfaa.lawRankOf
open Go.Proofs Go.Sx Go.RowKit Go.ChangeShapes Go.WideShapes Go.ChangeAt Go.Joins
theorem walk (c : Int) (_ : (Lit.int .i64 c).wf = true) (d : Int) (_ : (Lit.int .i64 d).wf = true) (s : Int) (_ : (Lit.int .i64 s).wf = true) (m : Int) (_ : (Lit.int .i64 m).wf = true) (l : Int) (_ : (Lit.int .i64 l).wf = true) (v : Value) (zv : List Int) (w : World) (hv : RI w v zv) (_ : ∀ z ∈ zv, (Lit.int .i64 z).wf = true) : Val Try.prog 4 #[mkV c d s m l, v] w (.bool true) :=
  Ret.val (laws_FnExactRankOf_calls c d s m l v w _ (by
    unfold laws_FnExactRankOf_vc
    obtain ⟨x, y, e⟩ := rankR_pair ⟨c, d, s, m, l⟩ zv
    intro w1 k1
    refine (hv.ext k1).len ⟨fun h => ⟨rfl, k1⟩, fun hlv => ?_⟩
    refine (laws_toMaker_val ..).call fun w2 h2 => ⟨_, _, _, _, _, rfl, h2.keeps, ?_⟩
    have k2 := k1.trans h2
    refine cp (hv.ext k2) hlv fun vs w3 ovs3 h3 _ => ⟨_, rfl, h3.keeps, ?_⟩
    have k3 := k2.trans h3
    refine (spec_RankOf_val ⟨c, d, s, m, l⟩ vs zv w3 ovs3.rd).call fun w4 h4 => ⟨x, y, by rw [e], h4.keeps, ?_⟩
    have k4 := k3.trans h4
    have ovs4 := ovs3.ext h4
    refine cp (hv.ext k4) hlv fun vx w5 ovx5 h5 _ => ⟨_, rfl, h5.keeps, ?_⟩
    have k5 := k4.trans h5
    have b_vx : w.heap.size ≤ w4.heap.size := k4.size
    refine (laws_toMaker_val ..).call fun w6 h6 => ⟨_, _, _, _, _, rfl, h6.keeps, ?_⟩
    have k6 := k5.trans h6
    have ovx6 := ovx5.ext h6
    refine (impl_RankOf_val ⟨c, d, s, m, l⟩ vx zv w6 ovx6.rd).call fun w7 h7 => ⟨x, y, by rw [e], h7.keeps, ?_⟩
    have k7 := k6.trans h7
    have ovx7 := ovx6.ext h7
    refine ⟨fun h => absurd rfl h, fun _ => ?_⟩
    refine ⟨fun h => absurd rfl h, fun _ => ?_⟩
    refine cp (hv.ext k7) hlv fun vc w8 ovc8 h8 _ => ⟨_, rfl, h8.keeps, ?_⟩
    have k8 := k7.trans h8
    have ap_vx_vc := Apart.new ovx7 ovc8
    have ovx8 := ovx7.ext h8
    refine eq_same ovx8.rd ovc8.rd fun w9 h9 => ⟨true, rfl, h9.keeps, fun h => (by cases h), fun _ => ?_⟩
    have k9 := k8.trans h9
    have ovx9 := ovx8.ext h9
    have ovc9 := ovc8.ext h9
    exact ⟨rfl, k9⟩))
set_option linter.unusedSimpArgs false in
theorem readable : ∀ t ∈ Try.f4.params.toList, Try.prog.readableRec t = true ∧ t < Try.prog.types.size := by
  rw [Try.params4]
  simp only [List.mem_cons, List.not_mem_nil, or_false, forall_eq_or_imp, forall_eq]
  exact ⟨⟨by kernel_rfl, of_decide_eq_true (by kernel_rfl)⟩, ⟨by kernel_rfl, of_decide_eq_true (by kernel_rfl)⟩⟩

set_option maxRecDepth 100000 in
theorem lifted (os : Os) (started : os.Started) (H : Type) (enc : TypeId × Value → H) :
    ReturnsInHanded {} Try.checked os 4 .any (Rows.fnExactRankOfSpec.pre6 enc Try.prog Try.f4 Rows.fnExactRankOfRow.domain false) (Rows.fnExactRankOfSpec.post enc Try.prog Try.f4 false true false false) := by
  refine returnsInHanded_of_change (C := Try.checked) ownKnobNone started (by kernel_rfl) Try.func4
    (ChangeSpec.witness6 (enc := enc) (C := Try.checked) false ⟨#[], #[.agg #[.int .i64 0, .int .i64 0, .int .i64 0, .int .i64 0, .int .i64 0], .slice none 0 0], []⟩ 8 (by kernel_rfl) (by kernel_rfl) (by kernel_rfl) (by kernel_rfl)) ?_
  intro W base args ds gs before hval0 hW hcnd _
  have hval : ∀ (j : Nat) t v, Try.f4.params[j]? = some t → args[j]? = some v → Value.okWide Try.prog W .any base t v := hval0
  have hW' := hW
  obtain ⟨p, q, hA0, hV, rfl, hfz, hnd⟩ := hW
  have hA1 : DataW.TrodAll enc Try.prog W 0 (fun _ => true) true Try.f4.params.toList args.toList ds p := hA0
  have hA := hA1
  rw [Try.params4] at hA hval
  obtain ⟨v0, vs0, d0, ds0, p0, q0, hargs, rfl, rfl, h0, r0⟩ := trodAll_cons hA
  obtain ⟨v1, vs1, d1, ds1, p1, q1, rfl, rfl, rfl, h1, r1⟩ := trodAll_cons r0
  obtain ⟨rfl, rfl, rfl⟩ := trodAll_nil r1
  obtain rfl : args = #[v0, v1] := by cases args; simp_all
  obtain ⟨rfl, rfl⟩ := trodVars_none hV
  obtain ⟨v0_0, v0_1, v0_2, v0_3, v0_4, y0_0, y0_1, y0_2, y0_3, y0_4, m0, rfl, rfl, rfl, g0_0, g0_1, g0_2, g0_3, g0_4⟩ := open_agg5 Try.underlying23 (by kernel_rfl) (by kernel_rfl) (hval 0 23 v0 rfl rfl) h0
  obtain ⟨a0_0, e0_0, rfl, w0_0⟩ := DataW.trod_int Try.underlying2 g0_0
  simp only [List.cons.injEq, and_true] at e0_0
  subst e0_0
  obtain ⟨a0_1, e0_1, rfl, w0_1⟩ := DataW.trod_int Try.underlying2 g0_1
  simp only [List.cons.injEq, and_true] at e0_1
  subst e0_1
  obtain ⟨a0_2, e0_2, rfl, w0_2⟩ := DataW.trod_int Try.underlying2 g0_2
  simp only [List.cons.injEq, and_true] at e0_2
  subst e0_2
  obtain ⟨a0_3, e0_3, rfl, w0_3⟩ := DataW.trod_int Try.underlying2 g0_3
  simp only [List.cons.injEq, and_true] at e0_3
  subst e0_3
  obtain ⟨a0_4, e0_4, rfl, w0_4⟩ := DataW.trod_int Try.underlying2 g0_4
  simp only [List.cons.injEq, and_true] at e0_4
  subst e0_4
  obtain ⟨z1, hz1, wz1⟩ := open_RI Try.underlying24 Try.underlying2 (by kernel_rfl) (hval 1 24 v1 rfl rfl) h1
  clear hA0 hval0
  refine (Val.calls (walk a0_0 w0_0 a0_1 w0_1 a0_2 w0_2 a0_3 w0_3 a0_4 w0_4 v1 z1 W hz1 wz1)).mono fun e W' ⟨he, hg⟩ => ?_
  subst he
  exact ⟨_, rfl, law_post laidOut readable hW' hA1 Try.underlying4 rfl rfl rfl hg⟩

theorem proved : Rows.FnExactRankOfSaid :=
  OpenClaim.holds_of_wide 4 Try.f4 rfl rfl rfl rfl rfl rfl rfl ⟨rfl, rfl, rfl, rfl, rfl⟩ rfl rfl rfl rfl rfl (by kernel_rfl) Try.func4 (by kernel_rfl)
    (of_decide_eq_true (by kernel_rfl)) (by unfold Func.isWrapper; first | (rw [if_pos (by decide +kernel)]; kernel_rfl) | (rw [if_neg (by decide +kernel)]; exact ⟨rfl, rfl⟩))
    (fun os started H enc _ => lifted os started H enc)

end Go.Proofs.Ytlepcepjfnngfaa.lawRankOf
