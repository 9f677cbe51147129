/- The law FnExactCountOpeners: the program's function answers as the reference's, for all arguments. No condition. -/
import Derived.Test.YthcmeplidekndaaL04d
set_option linter.unusedVariables false
namespace Go.Proofs
open Go.Sx Go.RowKit
abbrev laws_FnExactCountOpeners_k0 (w : World) (Post : Value → World → Prop) (x243 : Value) (x244 : Value) (w245 : World) : Prop :=
  ∀ w246 : World, Ext w245 w246 → Calls Try.prog 28 #[(Value.agg #[x243])] w246 (fun e247 w248 => ∃ u249 : Value, e247 = .returned (Value.agg #[u249]) ∧ Keeps w.heap.size [23, 38, 42] w246 w248 ∧ Ext w246 w248 ∧ Calls Try.prog 31 #[(Value.agg #[x244]), (Value.agg #[u249])] w248 (fun e250 w251 => ∃ b252 : Bool, e250 = .returned (Value.bool b252) ∧ Keeps w.heap.size [23, 38, 42] w248 w251 ∧ Ext w246 w251 ∧ (((!b252) = true → Post (Value.bool false) w251) ∧ ((!b252) = false → Post (Value.bool true) w251))))
abbrev laws_FnExactCountOpeners_k1 (w : World) (Post : Value → World → Prop) (n38 : Int) (n55 : Int) (x179 : Value) (x180 : Value) (w181 : World) : Prop :=
  (((n55 ≠ n38) → Post (Value.bool false) w181) ∧ (¬ (n55 ≠ n38) → (laws_FnExactCountOpeners_k0 w Post x179 x180 w181)))
abbrev laws_FnExactCountOpeners_k2 (w : World) (Post : Value → World → Prop) (x17 : Int) (x18 : Int) (x19 : Int) (x20 : Int) (x21 : Int) (x22 : Value) (w23 : World) : Prop :=
  ∀ w24 : World, Ext w23 w24 → Calls Try.prog 16 #[(Value.agg #[(Value.int .i64 x17), (Value.int .i64 x18), (Value.int .i64 x19), (Value.int .i64 x20), (Value.int .i64 x21)])] w24 (fun e25 w26 => ∃ n27 : Int, ∃ n28 : Int, ∃ n29 : Int, ∃ n30 : Int, ∃ n31 : Int, e25 = .returned (Value.agg #[(Value.int .i64 n27), (Value.int .i64 n28), (Value.int .i64 n29), (Value.int .i64 n30), (Value.int .i64 n31)]) ∧ Keeps w.heap.size [23, 38] w24 w26 ∧ Ext w24 w26 ∧ Calls Try.prog 28 #[(Value.agg #[x22])] w26 (fun e32 w33 => ∃ u34 : Value, e32 = .returned (Value.agg #[u34]) ∧ Keeps w.heap.size [23, 38] w26 w33 ∧ Ext w24 w33 ∧ Calls Try.prog 50 #[(Value.agg #[(Value.int .i64 n27), (Value.int .i64 n28), (Value.int .i64 n29), (Value.int .i64 n30), (Value.int .i64 n31)]), (Value.agg #[u34])] w33 (fun e35 w36 => ∃ n37 : Int, ∃ n38 : Int, e35 = .returned (Value.tuple #[(Value.int .i64 n37), (Value.int .i64 n38)]) ∧ Keeps w.heap.size [23, 38] w33 w36 ∧ Ext w24 w36 ∧ Calls Try.prog 28 #[(Value.agg #[x22])] w36 (fun e39 w40 => ∃ u41 : Value, e39 = .returned (Value.agg #[u41]) ∧ Keeps w.heap.size [23, 38] w36 w40 ∧ ∀ w42 : World, Ext w40 w42 → oneC u41 (∀ w43 : World, BxS w.heap.size 42 w42 w43 → ∀ w44 : World, Ext w43 w44 → Calls Try.prog 16 #[(Value.agg #[(Value.int .i64 x17), (Value.int .i64 x18), (Value.int .i64 x19), (Value.int .i64 x20), (Value.int .i64 x21)])] w44 (fun e45 w46 => ∃ n47 : Int, ∃ n48 : Int, ∃ n49 : Int, ∃ n50 : Int, ∃ n51 : Int, e45 = .returned (Value.agg #[(Value.int .i64 n47), (Value.int .i64 n48), (Value.int .i64 n49), (Value.int .i64 n50), (Value.int .i64 n51)]) ∧ Keeps w.heap.size [23, 38, 42] w44 w46 ∧ Ext w44 w46 ∧ Calls Try.prog 51 #[(Value.agg #[(Value.int .i64 n47), (Value.int .i64 n48), (Value.int .i64 n49), (Value.int .i64 n50), (Value.int .i64 n51)]), (Value.agg #[u41])] w46 (fun e52 w53 => ∃ n54 : Int, ∃ n55 : Int, e52 = .returned (Value.tuple #[(Value.int .i64 n54), (Value.int .i64 n55)]) ∧ Keeps w.heap.size [23, 38, 42] w46 w53 ∧ Ext w44 w53 ∧ (((n54 ≠ n37) → Post (Value.bool false) w53) ∧ (¬ (n54 ≠ n37) → (laws_FnExactCountOpeners_k1 w Post n38 n55 x22 u41 w53))))))))))
def laws_FnExactCountOpeners_vc (m_Chambers : Int) (m_Depths : Int) (m_Step : Int) (m_Same : Int) (m_Least : Int) (l_Sets : Value) (w : World) (Post : Value → World → Prop) : Prop :=
  ∀ w1 : World, Ext w w1 → oneC l_Sets (∀ w2 : World, Ext w1 w2 → Calls Try.prog 26 #[(Value.agg #[l_Sets]), (Value.int .i64 1048576)] w2 (fun e3 w4 => ∃ n5 : Int, e3 = .returned (Value.int .i64 n5) ∧ Keeps w.heap.size [23, 38] w2 w4 ∧ (((n5 < (0 : Int)) → Post (Value.bool true) w4) ∧ (¬ (n5 < (0 : Int)) → (laws_FnExactCountOpeners_k2 w Post m_Chambers m_Depths m_Step m_Same m_Least l_Sets w4)))))
theorem laws_FnExactCountOpeners_eq (m_Chambers : Int) (m_Depths : Int) (m_Step : Int) (m_Same : Int) (m_Least : Int) (l_Sets : Value) (w : World) (Post : Value → World → Prop) : denF Try.prog [1000028, 1000051] noAnn 14 [(Value.agg #[(Value.int .i64 m_Chambers), (Value.int .i64 m_Depths), (Value.int .i64 m_Step), (Value.int .i64 m_Same), (Value.int .i64 m_Least)]), (Value.agg #[l_Sets])] w Post = laws_FnExactCountOpeners_vc m_Chambers m_Depths m_Step m_Same m_Least l_Sets w Post := by kernel_rfl
set_option maxRecDepth 100000 in
theorem laws_FnExactCountOpeners_calls (m_Chambers : Int) (m_Depths : Int) (m_Step : Int) (m_Same : Int) (m_Least : Int) (l_Sets : Value) (w : World) (Post : Value → World → Prop) (hvc : laws_FnExactCountOpeners_vc m_Chambers m_Depths m_Step m_Same m_Least l_Sets w Post) : Ret Try.prog 14 #[(Value.agg #[(Value.int .i64 m_Chambers), (Value.int .i64 m_Depths), (Value.int .i64 m_Step), (Value.int .i64 m_Same), (Value.int .i64 m_Least)]), (Value.agg #[l_Sets])] w Post :=
  Ret.of (denF_sound mixed (Eq.mpr (laws_FnExactCountOpeners_eq m_Chambers m_Depths m_Step m_Same m_Least l_Sets w Post) hvc))

end Go.Proofs
namespace Go.Proofs.Ythcmeplidekndaa.lawCountOpeners
open Go.Proofs Go.Sx Go.RowKit Go.ChangeShapes Go.WideShapes Go.ChangeAt Go.Joins
theorem walk (c : Int) (_ : (Lit.int .i64 c).wf = true) (d : Int) (_ : (Lit.int .i64 d).wf = true) (s : Int) (_ : (Lit.int .i64 s).wf = true) (m : Int) (_ : (Lit.int .i64 m).wf = true) (l : Int) (_ : (Lit.int .i64 l).wf = true) (v : Value) (zv : List (List Int)) (w : World) (h : RR w v zv) (_ : ∀ z ∈ zv, ∀ n ∈ z, (Lit.int .i64 n).wf = true) : Val Try.prog 14 #[mkV c d s m l, lkV v] w (.bool true) :=
  Ret.val (laws_FnExactCountOpeners_calls c d s m l v w _ (by
    unfold laws_FnExactCountOpeners_vc
    obtain ⟨X, Y, e⟩ := coR_pair c d s m l zv
    intro w1 h1
    have k1 := h1
    have z1 := h1.size
    refine h.oneC fun w2 h2 => ?_
    have k2 := k1.trans h2
    have z2 := h2.size
    refine (laws_szLock_ret v 1048576 zv w2 (h.ext k2) (by decide) (by decide)).call ?_
    rintro _ w3 ⟨h3, nz, rfl, hnz, hsz⟩
    have k3 := k2.trans h3
    have z3 := h3.size
    refine ⟨nz, rfl, h3.keeps, fun _ => ⟨rfl, k3⟩, fun hp => ?_⟩
    obtain ⟨hl, hz⟩ := hsz (by omega)
    have hl1 : zv.length ≤ 1048576 := by omega
    have hz1 : ∀ z ∈ zv, z.length ≤ 1048576 := fun z hh => by have := hz z hh; omega
    have hT := Nat.le_trans (total_max hz1) (Nat.mul_le_mul_right 1048576 hl1)
    have hl2 : zv.length ≤ 4398046511104 := by omega
    have hz2 : ∀ z ∈ zv, z.length ≤ 4398046511104 := fun z hh => by have := hz1 z hh; omega
    intro w4 h4
    have k4 := k3.trans h4
    have z4 := h4.size
    refine (laws_toMaker_val ..).call fun w5 h5 => ⟨_, _, _, _, _, rfl, h5.keeps, h5, ?_⟩
    have k5 := k4.trans h5
    have z5 := h5.size
    have x5 := h5
    refine (laws_toLock_ret v zv w5 (h.ext k5) hl2 hz2).call ?_
    rintro _ w6 ⟨p, rfl, qp, h6⟩
    refine ⟨p, rfl, h6.keeps, (x5.trans h6), ?_⟩
    have k6 := k5.trans h6
    have z6 := h6.size
    have x6 := x5.trans h6
    have op6 := qp.m
    refine (spec_CountOpeners_val c d s m l p zv w6 op6.rr).call fun w7 h7 => ⟨X, Y, by rw [e], h7.keeps, (x6.trans h7), ?_⟩
    have k7 := k6.trans h7
    have z7 := h7.size
    have op7 := op6.ext h7
    have x7 := x6.trans h7
    refine (laws_toLock_ret v zv w7 (h.ext k7) hl2 hz2).call ?_
    rintro _ w8 ⟨x, rfl, qx, h8⟩
    refine ⟨x, rfl, h8.keeps, ?_⟩
    have k8 := k7.trans h8
    have z8 := h8.size
    have ox8 := qx.m
    intro w9 h9
    have k9 := k8.trans h9
    have z9 := h9.size
    have ox9 := ox8.ext h9
    refine ox9.rr.oneC fun w10 b10 => ?_
    have k10 := k9.bxs b10
    have z10 := b10.size
    have ox10 := ox9.bxs b10 (by decide) (by decide)
    intro w11 h11
    have k11 := k10.trans h11
    have z11 := h11.size
    have ox11 := ox10.ext h11
    refine (laws_toMaker_val ..).call fun w12 h12 => ⟨_, _, _, _, _, rfl, h12.keeps, h12, ?_⟩
    have k12 := k11.trans h12
    have z12 := h12.size
    have ox12 := ox11.ext h12
    have x12 := h12
    refine (impl_CountOpeners_val c d s m l x zv w12 ox12.rr).call fun w13 h13 => ⟨X, Y, by rw [e], h13.keeps, (x12.trans h13), ?_⟩
    have k13 := k12.trans h13
    have z13 := h13.size
    have ox13 := ox12.ext h13
    have x13 := x12.trans h13
    refine ⟨fun hne => absurd rfl hne, fun _ => ?_⟩
    refine ⟨fun hne => absurd rfl hne, fun _ => ?_⟩
    intro w14 h14
    have k14 := k13.trans h14
    have z14 := h14.size
    have ox14 := ox13.ext h14
    refine (laws_toLock_ret v zv w14 (h.ext k14) hl2 hz2).call ?_
    rintro _ w15 ⟨cc, rfl, qcc, h15⟩
    refine ⟨cc, rfl, h15.keeps, h15, ?_⟩
    have k15 := k14.trans h15
    have z15 := h15.size
    have ox15 := ox14.ext h15
    have x15 := h15
    have occ15 := qcc.m
    refine (laws_eqLock_val x cc zv w15 ox15.rr occ15.rr).call fun w16 h16 => ⟨true, rfl, h16.keeps, (x15.trans h16), fun hh => (by cases hh), fun _ => ?_⟩
    have k16 := k15.trans h16
    have z16 := h16.size
    have ox16 := ox15.ext h16
    have occ16 := occ15.ext h16
    have x16 := x15.trans h16
    exact ⟨rfl, k16⟩))
set_option linter.unusedSimpArgs false in
theorem readable : ∀ t ∈ Try.f14.params.toList, Try.prog.readableRec t = true ∧ t < Try.prog.types.size := by
  rw [Try.params14]
  simp only [List.mem_cons, List.not_mem_nil, or_false, forall_eq_or_imp, forall_eq]
  exact ⟨⟨by kernel_rfl, of_decide_eq_true (by kernel_rfl)⟩, ⟨by kernel_rfl, of_decide_eq_true (by kernel_rfl)⟩⟩

set_option maxRecDepth 100000 in
theorem lifted (os : Os) (started : os.Started) (H : Type) (enc : TypeId × Value → H) :
    ReturnsInHanded {} Try.checked os 14 .any (Rows.fnExactCountOpenersSpec.pre6 enc Try.prog Try.f14 Rows.fnExactCountOpenersRow.domain false) (Rows.fnExactCountOpenersSpec.post enc Try.prog Try.f14 false true false false) := by
  refine returnsInHanded_of_change (C := Try.checked) ownKnobNone started (by kernel_rfl) Try.func14
    (ChangeSpec.witness6 (enc := enc) (C := Try.checked) false ⟨#[], #[.agg #[.int .i64 0, .int .i64 0, .int .i64 0, .int .i64 0, .int .i64 0], .agg #[.slice none 0 0]], []⟩ 8 (by kernel_rfl) (by kernel_rfl) (by kernel_rfl) (by kernel_rfl)) ?_
  intro W base args ds gs before hval0 hW hcnd _
  have hval : ∀ (j : Nat) t v, Try.f14.params[j]? = some t → args[j]? = some v → Value.okWide Try.prog W .any base t v := hval0
  have hW' := hW
  obtain ⟨p, q, hA0, hV, rfl, hfz, hnd⟩ := hW
  have hA1 : DataW.TrodAll enc Try.prog W 0 (fun _ => true) true Try.f14.params.toList args.toList ds p := hA0
  have hA := hA1
  rw [Try.params14] at hA hval
  obtain ⟨v0, vs0, d0, ds0, p0, q0, hargs, rfl, rfl, h0, r0⟩ := trodAll_cons hA
  obtain ⟨v1, vs1, d1, ds1, p1, q1, rfl, rfl, rfl, h1, r1⟩ := trodAll_cons r0
  obtain ⟨rfl, rfl, rfl⟩ := trodAll_nil r1
  obtain rfl : args = #[v0, v1] := by cases args; simp_all
  obtain ⟨rfl, rfl⟩ := trodVars_none hV
  obtain ⟨v0_0, v0_1, v0_2, v0_3, v0_4, y0_0, y0_1, y0_2, y0_3, y0_4, m0, rfl, rfl, rfl, g0_0, g0_1, g0_2, g0_3, g0_4⟩ := open_agg5 Try.underlying23 (by kernel_rfl) (by kernel_rfl) (hval 0 23 v0 rfl rfl) h0
  obtain ⟨a0_0, e0_0, rfl, w0_0⟩ := DataW.trod_int Try.underlying2 g0_0
  simp only [List.cons.injEq, and_true] at e0_0
  subst e0_0
  obtain ⟨a0_1, e0_1, rfl, w0_1⟩ := DataW.trod_int Try.underlying2 g0_1
  simp only [List.cons.injEq, and_true] at e0_1
  subst e0_1
  obtain ⟨a0_2, e0_2, rfl, w0_2⟩ := DataW.trod_int Try.underlying2 g0_2
  simp only [List.cons.injEq, and_true] at e0_2
  subst e0_2
  obtain ⟨a0_3, e0_3, rfl, w0_3⟩ := DataW.trod_int Try.underlying2 g0_3
  simp only [List.cons.injEq, and_true] at e0_3
  subst e0_3
  obtain ⟨a0_4, e0_4, rfl, w0_4⟩ := DataW.trod_int Try.underlying2 g0_4
  simp only [List.cons.injEq, and_true] at e0_4
  subst e0_4
  obtain ⟨x1, z1, rfl, hz1, wz1⟩ := open_lock Try.underlying38 rfl rfl (by kernel_rfl) (by kernel_rfl) Try.underlying36 Try.underlying24 Try.underlying2 (by kernel_rfl) (by kernel_rfl) (hval 1 38 v1 rfl rfl) h1
  clear hA0 hval0
  refine (Val.calls (walk a0_0 w0_0 a0_1 w0_1 a0_2 w0_2 a0_3 w0_3 a0_4 w0_4 x1 z1 W hz1 wz1)).mono fun e W' ⟨he, hg⟩ => ?_
  subst he
  exact ⟨_, rfl, law_post laidOut readable hW' hA1 Try.underlying4 rfl rfl rfl hg⟩

theorem proved : Rows.FnExactCountOpenersSaid :=
  OpenClaim.holds_of_wide 14 Try.f14 rfl rfl rfl rfl rfl rfl rfl ⟨rfl, rfl, rfl, rfl, rfl⟩ rfl rfl rfl rfl rfl (by kernel_rfl) Try.func14 (by kernel_rfl)
    (of_decide_eq_true (by kernel_rfl)) (by unfold Func.isWrapper; first | (rw [if_pos (by decide +kernel)]; kernel_rfl) | (rw [if_neg (by decide +kernel)]; exact ⟨rfl, rfl⟩))
    (fun os started H enc _ => lifted os started H enc)

end Go.Proofs.Ythcmeplidekndaa.lawCountOpeners
