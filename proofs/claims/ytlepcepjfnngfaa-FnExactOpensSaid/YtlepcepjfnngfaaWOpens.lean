/- The law FnExactOpens: the program's function answers as the reference's, for all arguments. No condition. -/
import Derived.Test.YtlepcepjfnngfaaL04c
set_option linter.unusedVariables false
namespace Go.Proofs
open Go.Sx Go.RowKit
abbrev laws_FnExactOpens_k0 (w : World) (Post : Value → World → Prop) (x312 : Value) (x316 : Value) (w383 : World) : Prop :=
  Calls Try.prog 16 #[x312] w383 (fun e384 w385 => ∃ u386 : Value, e384 = .returned u386 ∧ Keeps w.heap.size [23, 55, 37] w383 w385 ∧ Calls Try.prog 18 #[x316, u386] w385 (fun e387 w388 => ∃ b389 : Bool, e387 = .returned (Value.bool b389) ∧ Keeps w.heap.size [23, 55, 37] w385 w388 ∧ (((!b389) = true → Post (Value.bool false) w388) ∧ ((!b389) = false → Post (Value.bool true) w388))))
abbrev laws_FnExactOpens_k1 (w : World) (Post : Value → World → Prop) (x232 : Value) (x236 : Value) (x296 : Value) (x297 : Value) (w298 : World) : Prop :=
  ∀ w299 : World, Ext w298 w299 → Calls Try.prog 40 #[(Value.agg #[x296])] w299 (fun e300 w301 => ∃ u302 : Value, e300 = .returned (Value.agg #[u302]) ∧ Keeps w.heap.size [23, 55, 37] w299 w301 ∧ Ext w299 w301 ∧ Calls Try.prog 25 #[(Value.agg #[x297]), (Value.agg #[u302])] w301 (fun e303 w304 => ∃ b305 : Bool, e303 = .returned (Value.bool b305) ∧ Keeps w.heap.size [23, 55, 37] w301 w304 ∧ Ext w299 w304 ∧ (((!b305) = true → Post (Value.bool false) w304) ∧ ((!b305) = false → (laws_FnExactOpens_k0 w Post x232 x236 w304)))))
abbrev laws_FnExactOpens_k2 (w : World) (Post : Value → World → Prop) (n61 : Int) (n81 : Int) (x159 : Value) (x163 : Value) (x223 : Value) (x224 : Value) (w225 : World) : Prop :=
  (((n81 ≠ n61) → Post (Value.bool false) w225) ∧ (¬ (n81 ≠ n61) → (laws_FnExactOpens_k1 w Post x159 x163 x223 x224 w225)))
abbrev laws_FnExactOpens_k3 (w : World) (Post : Value → World → Prop) (x29 : Value) (x37 : Int) (x38 : Int) (x39 : Int) (x40 : Int) (x41 : Int) (x42 : Value) (w43 : World) : Prop :=
  ∀ w44 : World, Ext w43 w44 → Calls Try.prog 15 #[(Value.agg #[(Value.int .i64 x37), (Value.int .i64 x38), (Value.int .i64 x39), (Value.int .i64 x40), (Value.int .i64 x41)])] w44 (fun e45 w46 => ∃ n47 : Int, ∃ n48 : Int, ∃ n49 : Int, ∃ n50 : Int, ∃ n51 : Int, e45 = .returned (Value.agg #[(Value.int .i64 n47), (Value.int .i64 n48), (Value.int .i64 n49), (Value.int .i64 n50), (Value.int .i64 n51)]) ∧ Keeps w.heap.size [23, 55] w44 w46 ∧ Ext w44 w46 ∧ Calls Try.prog 40 #[(Value.agg #[x42])] w46 (fun e52 w53 => ∃ u54 : Value, e52 = .returned (Value.agg #[u54]) ∧ Keeps w.heap.size [23, 55] w46 w53 ∧ Ext w44 w53 ∧ Calls Try.prog 16 #[x29] w53 (fun e55 w56 => ∃ u57 : Value, e55 = .returned u57 ∧ Keeps w.heap.size [23, 55] w53 w56 ∧ Ext w44 w56 ∧ Calls Try.prog 39 #[(Value.agg #[(Value.int .i64 n47), (Value.int .i64 n48), (Value.int .i64 n49), (Value.int .i64 n50), (Value.int .i64 n51)]), (Value.agg #[u54]), u57] w56 (fun e58 w59 => ∃ b60 : Bool, ∃ n61 : Int, e58 = .returned (Value.tuple #[(Value.bool b60), (Value.int .i64 n61)]) ∧ Keeps w.heap.size [23, 55] w56 w59 ∧ Ext w44 w59 ∧ Calls Try.prog 40 #[(Value.agg #[x42])] w59 (fun e62 w63 => ∃ u64 : Value, e62 = .returned (Value.agg #[u64]) ∧ Keeps w.heap.size [23, 55] w59 w63 ∧ ∀ w65 : World, Ext w63 w65 → oneC u64 (∀ w66 : World, BxS w.heap.size 37 w65 w66 → Calls Try.prog 16 #[x29] w66 (fun e67 w68 => ∃ u69 : Value, e67 = .returned u69 ∧ Keeps w.heap.size [23, 55, 37] w66 w68 ∧ ∀ w70 : World, Ext w68 w70 → Calls Try.prog 15 #[(Value.agg #[(Value.int .i64 x37), (Value.int .i64 x38), (Value.int .i64 x39), (Value.int .i64 x40), (Value.int .i64 x41)])] w70 (fun e71 w72 => ∃ n73 : Int, ∃ n74 : Int, ∃ n75 : Int, ∃ n76 : Int, ∃ n77 : Int, e71 = .returned (Value.agg #[(Value.int .i64 n73), (Value.int .i64 n74), (Value.int .i64 n75), (Value.int .i64 n76), (Value.int .i64 n77)]) ∧ Keeps w.heap.size [23, 55, 37] w70 w72 ∧ Ext w70 w72 ∧ Calls Try.prog 41 #[(Value.agg #[(Value.int .i64 n73), (Value.int .i64 n74), (Value.int .i64 n75), (Value.int .i64 n76), (Value.int .i64 n77)]), (Value.agg #[u64]), u69] w72 (fun e78 w79 => ∃ b80 : Bool, ∃ n81 : Int, e78 = .returned (Value.tuple #[(Value.bool b80), (Value.int .i64 n81)]) ∧ Keeps w.heap.size [23, 55, 37] w72 w79 ∧ Ext w70 w79 ∧ (((b80 ≠ b60) → Post (Value.bool false) w79) ∧ (¬ (b80 ≠ b60) → (laws_FnExactOpens_k2 w Post n61 n81 x29 u69 x42 u64 w79))))))))))))
abbrev laws_FnExactOpens_k4 (w : World) (Post : Value → World → Prop) (x10 : Value) (x13 : Int) (x14 : Int) (x15 : Int) (x16 : Int) (x17 : Int) (x18 : Value) (w19 : World) : Prop :=
  Calls Try.prog 38 #[(Value.agg #[x18]), (Value.int .i64 1048576)] w19 (fun e20 w21 => ∃ n22 : Int, e20 = .returned (Value.int .i64 n22) ∧ Keeps w.heap.size [23, 55] w19 w21 ∧ (((n22 < (0 : Int)) → Post (Value.bool true) w21) ∧ (¬ (n22 < (0 : Int)) → (laws_FnExactOpens_k3 w Post x10 x13 x14 x15 x16 x17 x18 w21))))
def laws_FnExactOpens_vc (m_Chambers : Int) (m_Depths : Int) (m_Step : Int) (m_Same : Int) (m_Least : Int) (l_Sets : Value) (u : Value) (w : World) (Post : Value → World → Prop) : Prop :=
  ∀ w1 : World, Ext w w1 → oneC l_Sets (∀ w2 : World, Ext w1 w2 → LenV u (fun n3 => ((((1048576 : Int) < n3) → Post (Value.bool true) w2) ∧ (¬ ((1048576 : Int) < n3) → (laws_FnExactOpens_k4 w Post u m_Chambers m_Depths m_Step m_Same m_Least l_Sets w2)))))
theorem laws_FnExactOpens_eq (m_Chambers : Int) (m_Depths : Int) (m_Step : Int) (m_Same : Int) (m_Least : Int) (l_Sets : Value) (u : Value) (w : World) (Post : Value → World → Prop) : denF Try.prog [1000016, 1000040, 1000041] noAnn 7 [(Value.agg #[(Value.int .i64 m_Chambers), (Value.int .i64 m_Depths), (Value.int .i64 m_Step), (Value.int .i64 m_Same), (Value.int .i64 m_Least)]), (Value.agg #[l_Sets]), u] w Post = laws_FnExactOpens_vc m_Chambers m_Depths m_Step m_Same m_Least l_Sets u w Post := by kernel_rfl
set_option maxRecDepth 100000 in
theorem laws_FnExactOpens_calls (m_Chambers : Int) (m_Depths : Int) (m_Step : Int) (m_Same : Int) (m_Least : Int) (l_Sets : Value) (u : Value) (w : World) (Post : Value → World → Prop) (hvc : laws_FnExactOpens_vc m_Chambers m_Depths m_Step m_Same m_Least l_Sets u w Post) : Ret Try.prog 7 #[(Value.agg #[(Value.int .i64 m_Chambers), (Value.int .i64 m_Depths), (Value.int .i64 m_Step), (Value.int .i64 m_Same), (Value.int .i64 m_Least)]), (Value.agg #[l_Sets]), u] w Post :=
  Ret.of (denF_sound mixed (Eq.mpr (laws_FnExactOpens_eq m_Chambers m_Depths m_Step m_Same m_Least l_Sets u w Post) hvc))

end Go.Proofs
namespace Go.Proofs.Ytlepcepjfnngfaa.lawOpens
open Go.Proofs Go.Sx Go.RowKit Go.ChangeShapes Go.WideShapes Go.ChangeAt Go.Joins
theorem walk (c : Int) (_ : (Lit.int .i64 c).wf = true) (d : Int) (_ : (Lit.int .i64 d).wf = true) (s : Int) (_ : (Lit.int .i64 s).wf = true) (m : Int) (_ : (Lit.int .i64 m).wf = true) (l : Int) (_ : (Lit.int .i64 l).wf = true) (v : Value) (zv : List (List Int)) (u : Value) (zu : List Int) (w : World) (h : RR w v zv) (_ : ∀ z ∈ zv, ∀ n ∈ z, (Lit.int .i64 n).wf = true) (hu : RI w u zu) (_ : ∀ n ∈ zu, (Lit.int .i64 n).wf = true) : Val Try.prog 7 #[mkV c d s m l, lkV v, u] w (.bool true) :=
  Ret.val (laws_FnExactOpens_calls c d s m l v u w _ (by
    unfold laws_FnExactOpens_vc
    obtain ⟨X, Y, e⟩ := opensR_pair c d s m l zv zu
    intro w1 h1
    have k1 := h1
    have z1 := h1.size
    refine h.oneC fun w2 h2 => ?_
    have k2 := k1.trans h2
    have z2 := h2.size
    refine (hu.ext k2).len ⟨fun hh => ⟨rfl, k2⟩, fun hlu => ?_⟩
    refine (laws_szLock_ret v 1048576 zv w2 (h.ext k2) (by decide) (by decide)).call ?_
    rintro _ w3 ⟨h3, nz, rfl, hnz, hsz⟩
    have k3 := k2.trans h3
    have z3 := h3.size
    refine ⟨nz, rfl, h3.keeps, fun _ => ⟨rfl, k3⟩, fun hp => ?_⟩
    obtain ⟨hl, hz⟩ := hsz (by omega)
    have hl1 : zv.length ≤ 1048576 := by omega
    have hz1 : ∀ z ∈ zv, z.length ≤ 1048576 := fun z hh => by have := hz z hh; omega
    have hT := Nat.le_trans (total_max hz1) (Nat.mul_le_mul_right 1048576 hl1)
    have hl2 : zv.length ≤ 4398046511104 := by omega
    have hz2 : ∀ z ∈ zv, z.length ≤ 4398046511104 := fun z hh => by have := hz1 z hh; omega
    intro w4 h4
    have k4 := k3.trans h4
    have z4 := h4.size
    refine (laws_toMaker_val ..).call fun w5 h5 => ⟨_, _, _, _, _, rfl, h5.keeps, h5, ?_⟩
    have k5 := k4.trans h5
    have z5 := h5.size
    have x5 := h5
    refine (laws_toLock_ret v zv w5 (h.ext k5) hl2 hz2).call ?_
    rintro _ w6 ⟨p, rfl, qp, h6⟩
    refine ⟨p, rfl, h6.keeps, (x5.trans h6), ?_⟩
    have k6 := k5.trans h6
    have z6 := h6.size
    have x6 := x5.trans h6
    have op6 := qp.m
    refine cp (hu.ext k6) hlu fun ps w7 qps h7 _ => ⟨_, rfl, h7.keeps, (x6.trans h7), ?_⟩
    have k7 := k6.trans h7
    have z7 := h7.size
    have op7 := op6.ext h7
    have x7 := x6.trans h7
    have ops7 := qps.i
    refine (spec_Opens_val c d s m l p ps zv zu w7 op7.rr ops7.1.rd).call fun w8 h8 => ⟨X, Y, by rw [e], h8.keeps, (x7.trans h8), ?_⟩
    have k8 := k7.trans h8
    have z8 := h8.size
    have op8 := op7.ext h8
    have ops8 := ops7.ext h8
    have x8 := x7.trans h8
    refine (laws_toLock_ret v zv w8 (h.ext k8) hl2 hz2).call ?_
    rintro _ w9 ⟨x, rfl, qx, h9⟩
    refine ⟨x, rfl, h9.keeps, ?_⟩
    have k9 := k8.trans h9
    have z9 := h9.size
    have ox9 := qx.m
    intro w10 h10
    have k10 := k9.trans h10
    have z10 := h10.size
    have ox10 := ox9.ext h10
    refine ox10.rr.oneC fun w11 b11 => ?_
    have k11 := k10.bxs b11
    have z11 := b11.size
    have ox11 := ox10.bxs b11 (by decide) (by decide)
    refine cp (hu.ext k11) hlu fun xs w12 qxs h12 _ => ⟨_, rfl, h12.keeps, ?_⟩
    have k12 := k11.trans h12
    have z12 := h12.size
    have ox12 := ox11.ext h12
    have oxs12 := qxs.i
    intro w13 h13
    have k13 := k12.trans h13
    have z13 := h13.size
    have ox13 := ox12.ext h13
    have oxs13 := oxs12.ext h13
    refine (laws_toMaker_val ..).call fun w14 h14 => ⟨_, _, _, _, _, rfl, h14.keeps, h14, ?_⟩
    have k14 := k13.trans h14
    have z14 := h14.size
    have ox14 := ox13.ext h14
    have oxs14 := oxs13.ext h14
    have x14 := h14
    refine (impl_Opens_val c d s m l x xs zv zu w14 ox14.rr oxs14.1.rd).call fun w15 h15 => ⟨X, Y, by rw [e], h15.keeps, (x14.trans h15), ?_⟩
    have k15 := k14.trans h15
    have z15 := h15.size
    have ox15 := ox14.ext h15
    have oxs15 := oxs14.ext h15
    have x15 := x14.trans h15
    refine ⟨fun hne => absurd rfl hne, fun _ => ?_⟩
    refine ⟨fun hne => absurd rfl hne, fun _ => ?_⟩
    intro w16 h16
    have k16 := k15.trans h16
    have z16 := h16.size
    have ox16 := ox15.ext h16
    have oxs16 := oxs15.ext h16
    refine (laws_toLock_ret v zv w16 (h.ext k16) hl2 hz2).call ?_
    rintro _ w17 ⟨cc, rfl, qcc, h17⟩
    refine ⟨cc, rfl, h17.keeps, h17, ?_⟩
    have k17 := k16.trans h17
    have z17 := h17.size
    have ox17 := ox16.ext h17
    have oxs17 := oxs16.ext h17
    have x17 := h17
    have occ17 := qcc.m
    refine (laws_eqLock_val x cc zv w17 ox17.rr occ17.rr).call fun w18 h18 => ⟨true, rfl, h18.keeps, (x17.trans h18), fun hh => (by cases hh), fun _ => ?_⟩
    have k18 := k17.trans h18
    have z18 := h18.size
    have ox18 := ox17.ext h18
    have oxs18 := oxs17.ext h18
    have occ18 := occ17.ext h18
    have x18 := x17.trans h18
    refine cp (hu.ext k18) hlu fun cs w19 qcs h19 _ => ⟨_, rfl, h19.keeps, ?_⟩
    have k19 := k18.trans h19
    have z19 := h19.size
    have ox19 := ox18.ext h19
    have oxs19 := oxs18.ext h19
    have ocs19 := qcs.i
    refine eq_same oxs19.1.rd ocs19.1.rd fun w20 h20 => ⟨true, rfl, h20.keeps, fun hh => (by cases hh), fun _ => ?_⟩
    have k20 := k19.trans h20
    have z20 := h20.size
    have ox20 := ox19.ext h20
    have oxs20 := oxs19.ext h20
    have ocs20 := ocs19.ext h20
    exact ⟨rfl, k20⟩))
set_option linter.unusedSimpArgs false in
theorem readable : ∀ t ∈ Try.f7.params.toList, Try.prog.readableRec t = true ∧ t < Try.prog.types.size := by
  rw [Try.params7]
  simp only [List.mem_cons, List.not_mem_nil, or_false, forall_eq_or_imp, forall_eq]
  exact ⟨⟨by kernel_rfl, of_decide_eq_true (by kernel_rfl)⟩, ⟨by kernel_rfl, of_decide_eq_true (by kernel_rfl)⟩, ⟨by kernel_rfl, of_decide_eq_true (by kernel_rfl)⟩⟩

set_option maxRecDepth 100000 in
theorem lifted (os : Os) (started : os.Started) (H : Type) (enc : TypeId × Value → H) :
    ReturnsInHanded {} Try.checked os 7 .any (Rows.fnExactOpensSpec.pre6 enc Try.prog Try.f7 Rows.fnExactOpensRow.domain false) (Rows.fnExactOpensSpec.post enc Try.prog Try.f7 false true false false) := by
  refine returnsInHanded_of_change (C := Try.checked) ownKnobNone started (by kernel_rfl) Try.func7
    (ChangeSpec.witness6 (enc := enc) (C := Try.checked) false ⟨#[], #[.agg #[.int .i64 0, .int .i64 0, .int .i64 0, .int .i64 0, .int .i64 0], .agg #[.slice none 0 0], .slice none 0 0], []⟩ 8 (by kernel_rfl) (by kernel_rfl) (by kernel_rfl) (by kernel_rfl)) ?_
  intro W base args ds gs before hval0 hW hcnd _
  have hval : ∀ (j : Nat) t v, Try.f7.params[j]? = some t → args[j]? = some v → Value.okWide Try.prog W .any base t v := hval0
  have hW' := hW
  obtain ⟨p, q, hA0, hV, rfl, hfz, hnd⟩ := hW
  have hA1 : DataW.TrodAll enc Try.prog W 0 (fun _ => true) true Try.f7.params.toList args.toList ds p := hA0
  have hA := hA1
  rw [Try.params7] at hA hval
  obtain ⟨v0, vs0, d0, ds0, p0, q0, hargs, rfl, rfl, h0, r0⟩ := trodAll_cons hA
  obtain ⟨v1, vs1, d1, ds1, p1, q1, rfl, rfl, rfl, h1, r1⟩ := trodAll_cons r0
  obtain ⟨v2, vs2, d2, ds2, p2, q2, rfl, rfl, rfl, h2, r2⟩ := trodAll_cons r1
  obtain ⟨rfl, rfl, rfl⟩ := trodAll_nil r2
  obtain rfl : args = #[v0, v1, v2] := by cases args; simp_all
  obtain ⟨rfl, rfl⟩ := trodVars_none hV
  obtain ⟨v0_0, v0_1, v0_2, v0_3, v0_4, y0_0, y0_1, y0_2, y0_3, y0_4, m0, rfl, rfl, rfl, g0_0, g0_1, g0_2, g0_3, g0_4⟩ := open_agg5 Try.underlying23 (by kernel_rfl) (by kernel_rfl) (hval 0 23 v0 rfl rfl) h0
  obtain ⟨a0_0, e0_0, rfl, w0_0⟩ := DataW.trod_int Try.underlying2 g0_0
  simp only [List.cons.injEq, and_true] at e0_0
  subst e0_0
  obtain ⟨a0_1, e0_1, rfl, w0_1⟩ := DataW.trod_int Try.underlying2 g0_1
  simp only [List.cons.injEq, and_true] at e0_1
  subst e0_1
  obtain ⟨a0_2, e0_2, rfl, w0_2⟩ := DataW.trod_int Try.underlying2 g0_2
  simp only [List.cons.injEq, and_true] at e0_2
  subst e0_2
  obtain ⟨a0_3, e0_3, rfl, w0_3⟩ := DataW.trod_int Try.underlying2 g0_3
  simp only [List.cons.injEq, and_true] at e0_3
  subst e0_3
  obtain ⟨a0_4, e0_4, rfl, w0_4⟩ := DataW.trod_int Try.underlying2 g0_4
  simp only [List.cons.injEq, and_true] at e0_4
  subst e0_4
  obtain ⟨x1, z1, rfl, hz1, wz1⟩ := open_lock Try.underlying55 rfl rfl (by kernel_rfl) (by kernel_rfl) Try.underlying34 Try.underlying24 Try.underlying2 (by kernel_rfl) (by kernel_rfl) (hval 1 55 v1 rfl rfl) h1
  obtain ⟨z2, hz2, wz2⟩ := open_RI Try.underlying24 Try.underlying2 (by kernel_rfl) (hval 2 24 v2 rfl rfl) h2
  clear hA0 hval0
  refine (Val.calls (walk a0_0 w0_0 a0_1 w0_1 a0_2 w0_2 a0_3 w0_3 a0_4 w0_4 x1 z1 v2 z2 W hz1 wz1 hz2 wz2)).mono fun e W' ⟨he, hg⟩ => ?_
  subst he
  exact ⟨_, rfl, law_post laidOut readable hW' hA1 Try.underlying4 rfl rfl rfl hg⟩

theorem proved : Rows.FnExactOpensSaid :=
  OpenClaim.holds_of_wide 7 Try.f7 rfl rfl rfl rfl rfl rfl rfl ⟨rfl, rfl, rfl, rfl, rfl⟩ rfl rfl rfl rfl rfl (by kernel_rfl) Try.func7 (by kernel_rfl)
    (of_decide_eq_true (by kernel_rfl)) (by unfold Func.isWrapper; first | (rw [if_pos (by decide +kernel)]; kernel_rfl) | (rw [if_neg (by decide +kernel)]; exact ⟨rfl, rfl⟩))
    (fun os started H enc _ => lifted os started H enc)

end Go.Proofs.Ytlepcepjfnngfaa.lawOpens
