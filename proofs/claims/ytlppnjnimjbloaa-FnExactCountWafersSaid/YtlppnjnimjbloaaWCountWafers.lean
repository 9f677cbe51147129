/- The law FnExactCountWafers: the program's function answers as the reference's, for all arguments. No condition. -/
import Derived.Test.YtlppnjnimjbloaaL04b
set_option linter.unusedVariables false
namespace Go.Proofs
open Go.Sx Go.RowKit
abbrev laws_FnExactCountWafers_k0 (w : World) (Post : Value → World → Prop) (x245 : Value) (x246 : Value) (w247 : World) : Prop :=
  ∀ w248 : World, Ext w247 w248 → Calls Try.prog 22 #[(Value.agg #[x245])] w248 (fun e249 w250 => ∃ u251 : Value, e249 = .returned (Value.agg #[u251]) ∧ Keeps w.heap.size [23, 36, 39] w248 w250 ∧ Ext w248 w250 ∧ Calls Try.prog 24 #[(Value.agg #[x246]), (Value.agg #[u251])] w250 (fun e252 w253 => ∃ b254 : Bool, e252 = .returned (Value.bool b254) ∧ Keeps w.heap.size [23, 36, 39] w250 w253 ∧ Ext w248 w253 ∧ (((!b254) = true → Post (Value.bool false) w253) ∧ ((!b254) = false → Post (Value.bool true) w253))))
abbrev laws_FnExactCountWafers_k1 (w : World) (Post : Value → World → Prop) (n38 : Int) (n56 : Int) (x181 : Value) (x182 : Value) (w183 : World) : Prop :=
  (((n56 ≠ n38) → Post (Value.bool false) w183) ∧ (¬ (n56 ≠ n38) → (laws_FnExactCountWafers_k0 w Post x181 x182 w183)))
abbrev laws_FnExactCountWafers_k2 (w : World) (Post : Value → World → Prop) (x17 : Int) (x18 : Int) (x19 : Int) (x20 : Int) (x21 : Int) (x22 : Value) (w23 : World) : Prop :=
  ∀ w24 : World, Ext w23 w24 → Calls Try.prog 14 #[(Value.agg #[(Value.int .i64 x17), (Value.int .i64 x18), (Value.int .i64 x19), (Value.int .i64 x20), (Value.int .i64 x21)])] w24 (fun e25 w26 => ∃ n27 : Int, ∃ n28 : Int, ∃ n29 : Int, ∃ n30 : Int, ∃ n31 : Int, e25 = .returned (Value.agg #[(Value.int .i64 n27), (Value.int .i64 n28), (Value.int .i64 n29), (Value.int .i64 n30), (Value.int .i64 n31)]) ∧ Keeps w.heap.size [23, 36] w24 w26 ∧ Ext w24 w26 ∧ Calls Try.prog 22 #[(Value.agg #[x22])] w26 (fun e32 w33 => ∃ u34 : Value, e32 = .returned (Value.agg #[u34]) ∧ Keeps w.heap.size [23, 36] w26 w33 ∧ Ext w24 w33 ∧ Calls Try.prog 27 #[(Value.agg #[(Value.int .i64 n27), (Value.int .i64 n28), (Value.int .i64 n29), (Value.int .i64 n30), (Value.int .i64 n31)]), (Value.agg #[u34])] w33 (fun e35 w36 => ∃ n37 : Int, ∃ n38 : Int, e35 = .returned (Value.tuple #[(Value.int .i64 n37), (Value.int .i64 n38)]) ∧ Keeps w.heap.size [23, 36] w33 w36 ∧ Ext w24 w36 ∧ Calls Try.prog 22 #[(Value.agg #[x22])] w36 (fun e39 w40 => ∃ u41 : Value, e39 = .returned (Value.agg #[u41]) ∧ Keeps w.heap.size [23, 36] w36 w40 ∧ ∀ w42 : World, Ext w40 w42 → oneC u41 (∀ w43 : World, BxS w.heap.size 39 w42 w43 → ∃ n47 : Int, ∃ n48 : Int, ∃ n49 : Int, ∃ n50 : Int, ∃ n51 : Int, (∀ w44 : World, Ext w43 w44 → Calls Try.prog 14 #[(Value.agg #[(Value.int .i64 x17), (Value.int .i64 x18), (Value.int .i64 x19), (Value.int .i64 x20), (Value.int .i64 x21)])] w44 (fun e45 w46 => e45 = .returned (Value.agg #[(Value.int .i64 n47), (Value.int .i64 n48), (Value.int .i64 n49), (Value.int .i64 n50), (Value.int .i64 n51)]) ∧ Ext w44 w46)) ∧ ∃ n55 : Int, ∃ n56 : Int, (∀ w52 : World, Ext w43 w52 → Calls Try.prog 28 #[(Value.agg #[(Value.int .i64 n47), (Value.int .i64 n48), (Value.int .i64 n49), (Value.int .i64 n50), (Value.int .i64 n51)]), (Value.agg #[u41])] w52 (fun e53 w54 => e53 = .returned (Value.tuple #[(Value.int .i64 n55), (Value.int .i64 n56)]) ∧ Ext w52 w54)) ∧ ∀ w57 : World, Ext w43 w57 → (((n55 ≠ n37) → Post (Value.bool false) w57) ∧ (¬ (n55 ≠ n37) → (laws_FnExactCountWafers_k1 w Post n38 n56 x22 u41 w57))))))))
def laws_FnExactCountWafers_vc (m_Chambers : Int) (m_Depths : Int) (m_Step : Int) (m_Same : Int) (m_Least : Int) (l_Sets : Value) (w : World) (Post : Value → World → Prop) : Prop :=
  ∀ w1 : World, Ext w w1 → oneC l_Sets (∀ w2 : World, Ext w1 w2 → Calls Try.prog 20 #[(Value.agg #[l_Sets]), (Value.int .i64 1048576)] w2 (fun e3 w4 => ∃ n5 : Int, e3 = .returned (Value.int .i64 n5) ∧ Keeps w.heap.size [23, 36] w2 w4 ∧ (((n5 < (0 : Int)) → Post (Value.bool true) w4) ∧ (¬ (n5 < (0 : Int)) → (laws_FnExactCountWafers_k2 w Post m_Chambers m_Depths m_Step m_Same m_Least l_Sets w4)))))
theorem laws_FnExactCountWafers_eq (m_Chambers : Int) (m_Depths : Int) (m_Step : Int) (m_Same : Int) (m_Least : Int) (l_Sets : Value) (w : World) (Post : Value → World → Prop) : denF Try.prog [1000022] noAnn 7 [(Value.agg #[(Value.int .i64 m_Chambers), (Value.int .i64 m_Depths), (Value.int .i64 m_Step), (Value.int .i64 m_Same), (Value.int .i64 m_Least)]), (Value.agg #[l_Sets])] w Post = laws_FnExactCountWafers_vc m_Chambers m_Depths m_Step m_Same m_Least l_Sets w Post := by kernel_rfl
set_option maxRecDepth 100000 in
theorem laws_FnExactCountWafers_calls (m_Chambers : Int) (m_Depths : Int) (m_Step : Int) (m_Same : Int) (m_Least : Int) (l_Sets : Value) (w : World) (Post : Value → World → Prop) (hvc : laws_FnExactCountWafers_vc m_Chambers m_Depths m_Step m_Same m_Least l_Sets w Post) : Ret Try.prog 7 #[(Value.agg #[(Value.int .i64 m_Chambers), (Value.int .i64 m_Depths), (Value.int .i64 m_Step), (Value.int .i64 m_Same), (Value.int .i64 m_Least)]), (Value.agg #[l_Sets])] w Post :=
  Ret.of (denF_sound mixed (Eq.mpr (laws_FnExactCountWafers_eq m_Chambers m_Depths m_Step m_Same m_Least l_Sets w Post) hvc))

end Go.Proofs
namespace Go.Proofs.Ytlppnjnimjbloaa.lawCountWafers
open Go.Proofs Go.Sx Go.RowKit Go.ChangeShapes Go.WideShapes Go.ChangeAt Go.Joins
theorem walk (c : Int) (_ : (Lit.int .i64 c).wf = true) (d : Int) (_ : (Lit.int .i64 d).wf = true) (s : Int) (_ : (Lit.int .i64 s).wf = true) (m : Int) (_ : (Lit.int .i64 m).wf = true) (l : Int) (_ : (Lit.int .i64 l).wf = true)
    (v : Value) (zss : List (List Int)) (w : World) (h : RR w v zss) (_ : ∀ z ∈ zss, ∀ n ∈ z, (Lit.int .i64 n).wf = true) : Val Try.prog 7 #[mkV c d s m l, lkV v] w (.bool true) :=
  Ret.val (laws_FnExactCountWafers_calls c d s m l v w _ (by
    unfold laws_FnExactCountWafers_vc
    obtain ⟨X, Y, e⟩ := wafR_pair c d s m l zss
    intro w1 h1
    refine h.oneC fun w2 h2 => ?_
    have h0 := h1.trans h2
    refine (laws_szLock_ret v 1048576 zss w2 (h.ext h0) (by decide) (by decide)).call ?_
    rintro r w4 ⟨h4, n, rfl, hn, hsz⟩
    have h4' := h0.trans h4
    refine ⟨n, rfl, h4.keeps, fun _ => ⟨rfl, h4'⟩, fun hp => ?_⟩
    obtain ⟨hl, hz⟩ := hsz (by omega)
    have hl : zss.length ≤ 4398046511104 := by omega
    have hz : ∀ z ∈ zss, z.length ≤ 4398046511104 := fun z hh => by have := hz z hh; omega
    intro w6 h6
    refine (laws_toMaker_val ..).call fun w8 h8 => ⟨_, _, _, _, _, rfl, h8.keeps, h8, ?_⟩
    have k8 := (h4'.trans h6).trans h8
    refine (laws_toLock_ret v zss w8 (h.ext k8) hl hz).call ?_
    rintro _ w15 ⟨x, rfl, ox, h15⟩
    refine ⟨x, rfl, h15.keeps, h8.trans h15, ?_⟩
    refine (spec_CountWafers_val c d s m l x zss w15 ox.rr).call fun w18 h18 => ⟨X, Y, by rw [e], h18.keeps, (h8.trans h15).trans h18, ?_⟩
    have k18 := (k8.trans h15).trans h18
    refine (laws_toLock_ret v zss w18 (h.ext k18) hl hz).call ?_
    rintro _ w21 ⟨y, rfl, oy, h21⟩
    refine ⟨y, rfl, h21.keeps, fun w23 h23 => oy.rr.oneC fun w24 b24 => ?_⟩
    have oy := ((oy.mono k18.size).ext h23).bxs b24 (by decide) (by decide)
    have k24 := ((k18.trans h21).trans h23).bxs b24
    refine ⟨c, d, s, m, l, fun w25 h25 => (laws_toMaker_val ..).call fun _ hx => ⟨rfl, hx⟩, X, Y, fun w33 h33 => (impl_CountWafers_val c d s m l y zss w33 (oy.rr.ext h33)).call fun _ hx => ⟨by rw [e], hx⟩, fun w37 h37 => ⟨fun hne => absurd rfl hne, fun _ => ⟨fun hne => absurd rfl hne, fun _ w38 h38 => ?_⟩⟩⟩
    have k38 := (k24.trans h37).trans h38
    refine (laws_toLock_ret v zss w38 (h.ext k38) hl hz).call ?_
    rintro _ w40 ⟨z, rfl, oz, h40⟩
    refine ⟨z, rfl, h40.keeps, h40, ?_⟩
    exact (laws_eqLock_val y z zss w40 (((oy.rr.ext h37).ext h38).ext h40) oz.rr).call fun w43 h43 => ⟨true, rfl, h43.keeps, h40.trans h43, fun hh => (by cases hh), fun _ => ⟨rfl, (k38.trans h40).trans h43⟩⟩))
set_option linter.unusedSimpArgs false in
theorem readable : ∀ t ∈ Try.f7.params.toList, Try.prog.readableRec t = true ∧ t < Try.prog.types.size := by
  rw [Try.params7]
  simp only [List.mem_cons, List.not_mem_nil, or_false, forall_eq_or_imp, forall_eq]
  exact ⟨⟨by kernel_rfl, of_decide_eq_true (by kernel_rfl)⟩, ⟨by kernel_rfl, of_decide_eq_true (by kernel_rfl)⟩⟩

set_option maxRecDepth 100000 in
theorem lifted (os : Os) (started : os.Started) (H : Type) (enc : TypeId × Value → H) :
    ReturnsInHanded {} Try.checked os 7 .any (Rows.fnExactCountWafersSpec.pre6 enc Try.prog Try.f7 Rows.fnExactCountWafersRow.domain false) (Rows.fnExactCountWafersSpec.post enc Try.prog Try.f7 false true false false) := by
  refine returnsInHanded_of_change (C := Try.checked) ownKnobNone started (by kernel_rfl) Try.func7
    (ChangeSpec.witness6 (enc := enc) (C := Try.checked) false ⟨#[], #[.agg #[.int .i64 0, .int .i64 0, .int .i64 0, .int .i64 0, .int .i64 0], .agg #[.slice none 0 0]], []⟩ 8 (by kernel_rfl) (by kernel_rfl) (by kernel_rfl) (by kernel_rfl)) ?_
  intro W base args ds gs before hval0 hW hcnd _
  have hval : ∀ (j : Nat) t v, Try.f7.params[j]? = some t → args[j]? = some v → Value.okWide Try.prog W .any base t v := hval0
  have hW' := hW
  obtain ⟨p, q, hA0, hV, rfl, hfz, hnd⟩ := hW
  have hA1 : DataW.TrodAll enc Try.prog W 0 (fun _ => true) true Try.f7.params.toList args.toList ds p := hA0
  have hA := hA1
  rw [Try.params7] at hA hval
  obtain ⟨v0, vs0, d0, ds0, p0, q0, hargs, rfl, rfl, h0, r0⟩ := trodAll_cons hA
  obtain ⟨v1, vs1, d1, ds1, p1, q1, rfl, rfl, rfl, h1, r1⟩ := trodAll_cons r0
  obtain ⟨rfl, rfl, rfl⟩ := trodAll_nil r1
  obtain rfl : args = #[v0, v1] := by cases args; simp_all
  obtain ⟨rfl, rfl⟩ := trodVars_none hV
  obtain ⟨v0_0, v0_1, v0_2, v0_3, v0_4, y0_0, y0_1, y0_2, y0_3, y0_4, m0, rfl, rfl, rfl, g0_0, g0_1, g0_2, g0_3, g0_4⟩ := open_agg5 Try.underlying23 (by kernel_rfl) (by kernel_rfl) (hval 0 23 v0 rfl rfl) h0
  obtain ⟨a0_0, e0_0, rfl, w0_0⟩ := DataW.trod_int Try.underlying2 g0_0
  simp only [List.cons.injEq, and_true] at e0_0
  subst e0_0
  obtain ⟨a0_1, e0_1, rfl, w0_1⟩ := DataW.trod_int Try.underlying2 g0_1
  simp only [List.cons.injEq, and_true] at e0_1
  subst e0_1
  obtain ⟨a0_2, e0_2, rfl, w0_2⟩ := DataW.trod_int Try.underlying2 g0_2
  simp only [List.cons.injEq, and_true] at e0_2
  subst e0_2
  obtain ⟨a0_3, e0_3, rfl, w0_3⟩ := DataW.trod_int Try.underlying2 g0_3
  simp only [List.cons.injEq, and_true] at e0_3
  subst e0_3
  obtain ⟨a0_4, e0_4, rfl, w0_4⟩ := DataW.trod_int Try.underlying2 g0_4
  simp only [List.cons.injEq, and_true] at e0_4
  subst e0_4
  obtain ⟨x1, z1, rfl, hz1, wz1⟩ := open_lock Try.underlying36 rfl rfl (by kernel_rfl) (by kernel_rfl) Try.underlying34 Try.underlying29 Try.underlying2 (by kernel_rfl) (by kernel_rfl) (hval 1 36 v1 rfl rfl) h1
  clear hA0 hval0
  refine (Val.calls (walk a0_0 w0_0 a0_1 w0_1 a0_2 w0_2 a0_3 w0_3 a0_4 w0_4 x1 z1 W hz1 wz1)).mono fun e W' ⟨he, hg⟩ => ?_
  subst he
  exact ⟨_, rfl, law_post laidOut readable hW' hA1 Try.underlying4 rfl rfl rfl hg⟩

theorem proved : Rows.FnExactCountWafersSaid :=
  OpenClaim.holds_of_wide 7 Try.f7 rfl rfl rfl rfl rfl rfl rfl ⟨rfl, rfl, rfl, rfl, rfl⟩ rfl rfl rfl rfl rfl (by kernel_rfl) Try.func7 (by kernel_rfl)
    (of_decide_eq_true (by kernel_rfl)) (by unfold Func.isWrapper; first | (rw [if_pos (by decide +kernel)]; kernel_rfl) | (rw [if_neg (by decide +kernel)]; exact ⟨rfl, rfl⟩))
    (fun os started H enc _ => lifted os started H enc)

end Go.Proofs.Ytlppnjnimjbloaa.lawCountWafers
