/- The law FnExactIsLock: the program's function answers as the reference's, for all arguments. No condition. -/
import Derived.Test.YtkkppckmjlobaaaL04a
set_option linter.unusedVariables false
namespace Go.Proofs
open Go.Sx Go.RowKit
def laws_FnExactIsLock_vc (m_Chambers : Int) (m_Depths : Int) (m_Step : Int) (m_Same : Int) (m_Least : Int) (l_Sets : Value) (zss : List (List Int)) (w : World) (Post : Value → World → Prop) : Prop :=
  ∀ w1 : World, Ext w w1 → oneC l_Sets (∀ w2 : World, Ext w1 w2 → Calls Try.prog 38 #[(Value.agg #[l_Sets]), (Value.int .i64 1048576)] w2 (fun e3 w4 => ∃ n5 : Int, e3 = .returned (Value.int .i64 n5) ∧ Keeps w.heap.size [24, 49] w2 w4 ∧ (((n5 < (0 : Int)) → Post (Value.bool true) w4) ∧ (¬ (n5 < (0 : Int)) → ∀ w6 : World, Ext w4 w6 → Calls Try.prog 15 #[(Value.agg #[(Value.int .i64 m_Chambers), (Value.int .i64 m_Depths), (Value.int .i64 m_Step), (Value.int .i64 m_Same), (Value.int .i64 m_Least)])] w6 (fun e7 w8 => ∃ n9 : Int, ∃ n10 : Int, ∃ n11 : Int, ∃ n12 : Int, ∃ n13 : Int, e7 = .returned (Value.agg #[(Value.int .i64 n9), (Value.int .i64 n10), (Value.int .i64 n11), (Value.int .i64 n12), (Value.int .i64 n13)]) ∧ Keeps w.heap.size [24, 49] w6 w8 ∧ Ext w6 w8 ∧ Calls Try.prog 40 #[(Value.agg #[l_Sets])] w8 (fun e14 w15 => ∃ u16 : Value, e14 = .returned (Value.agg #[u16]) ∧ Keeps w.heap.size [24, 49] w8 w15 ∧ Ext w8 w15 ∧ Calls Try.prog 39 #[(Value.agg #[(Value.int .i64 n9), (Value.int .i64 n10), (Value.int .i64 n11), (Value.int .i64 n12), (Value.int .i64 n13)]), (Value.agg #[u16])] w15 (fun e17 w18 => ∃ b19 : Bool, e17 = .returned (Value.bool b19) ∧ Keeps w.heap.size [24, 49] w15 w18 ∧ Ext w15 w18 ∧ Calls Try.prog 40 #[(Value.agg #[l_Sets])] w18 (fun e20 w21 => ∃ u22 : Value, e20 = .returned (Value.agg #[u22]) ∧ Keeps w.heap.size [24, 49] w18 w21 ∧ ∀ w23 : World, Ext w21 w23 → oneC u22 (∀ w24 : World, BxS w.heap.size 52 w23 w24 → ∃ n28 : Int, ∃ n29 : Int, ∃ n30 : Int, ∃ n31 : Int, ∃ n32 : Int, (∀ w25 : World, Ext w24 w25 → Calls Try.prog 15 #[(Value.agg #[(Value.int .i64 m_Chambers), (Value.int .i64 m_Depths), (Value.int .i64 m_Step), (Value.int .i64 m_Same), (Value.int .i64 m_Least)])] w25 (fun e26 w27 => e26 = .returned (Value.agg #[(Value.int .i64 n28), (Value.int .i64 n29), (Value.int .i64 n30), (Value.int .i64 n31), (Value.int .i64 n32)]) ∧ Ext w25 w27)) ∧ ∃ b36 : Bool, (∀ w33 : World, Ext w24 w33 → Calls Try.prog 41 #[(Value.agg #[(Value.int .i64 n28), (Value.int .i64 n29), (Value.int .i64 n30), (Value.int .i64 n31), (Value.int .i64 n32)]), (Value.agg #[u22])] w33 (fun e34 w35 => e34 = .returned (Value.bool b36) ∧ Ext w33 w35)) ∧ ∀ w37 : World, Ext w24 w37 → (((b36 ≠ b19) → Post (Value.bool false) w37) ∧ (¬ (b36 ≠ b19) → ∀ w38 : World, Ext w37 w38 → Calls Try.prog 40 #[(Value.agg #[l_Sets])] w38 (fun e39 w40 => ∃ u41 : Value, e39 = .returned (Value.agg #[u41]) ∧ Keeps w.heap.size [24, 49, 52] w38 w40 ∧ Ext w38 w40 ∧ Calls Try.prog 42 #[(Value.agg #[u22]), (Value.agg #[u41])] w40 (fun e42 w43 => ∃ b44 : Bool, e42 = .returned (Value.bool b44) ∧ Keeps w.heap.size [24, 49, 52] w40 w43 ∧ Ext w40 w43 ∧ (((!b44) = true → Post (Value.bool false) w43) ∧ ((!b44) = false → Post (Value.bool true) w43)))))))))))))))
theorem laws_FnExactIsLock_eq (m_Chambers : Int) (m_Depths : Int) (m_Step : Int) (m_Same : Int) (m_Least : Int) (l_Sets : Value) (zss : List (List Int)) (w : World) (Post : Value → World → Prop) : denF Try.prog [1000040] noAnn 13 [(Value.agg #[(Value.int .i64 m_Chambers), (Value.int .i64 m_Depths), (Value.int .i64 m_Step), (Value.int .i64 m_Same), (Value.int .i64 m_Least)]), (Value.agg #[l_Sets])] w Post = laws_FnExactIsLock_vc m_Chambers m_Depths m_Step m_Same m_Least l_Sets zss w Post := by kernel_rfl
theorem laws_FnExactIsLock_calls (m_Chambers : Int) (m_Depths : Int) (m_Step : Int) (m_Same : Int) (m_Least : Int) (l_Sets : Value) (zss : List (List Int)) (w : World) (Post : Value → World → Prop) (hvc : laws_FnExactIsLock_vc m_Chambers m_Depths m_Step m_Same m_Least l_Sets zss w Post) : Ret Try.prog 13 #[(Value.agg #[(Value.int .i64 m_Chambers), (Value.int .i64 m_Depths), (Value.int .i64 m_Step), (Value.int .i64 m_Same), (Value.int .i64 m_Least)]), (Value.agg #[l_Sets])] w Post :=
  Ret.of (denF_sound mixed ((laws_FnExactIsLock_eq m_Chambers m_Depths m_Step m_Same m_Least l_Sets zss w Post).symm ▸ hvc))

end Go.Proofs
namespace Go.Proofs.Ytkkppckmjlobaaa.lawIsLock
open Go.Proofs Go.Sx Go.RowKit Go.ChangeShapes Go.WideShapes Go.ChangeAt Go.Joins
theorem walk (c : Int) (_ : (Lit.int .i64 c).wf = true) (d : Int) (_ : (Lit.int .i64 d).wf = true) (s : Int) (_ : (Lit.int .i64 s).wf = true) (m : Int) (_ : (Lit.int .i64 m).wf = true) (l : Int) (_ : (Lit.int .i64 l).wf = true)
    (v : Value) (zss : List (List Int)) (w : World) (h : RR w v zss) (_ : ∀ z ∈ zss, ∀ n ∈ z, (Lit.int .i64 n).wf = true) : Val Try.prog 13 #[mkV c d s m l, lkV v] w (.bool true) :=
  Ret.val (laws_FnExactIsLock_calls c d s m l v zss w _ (by
    unfold laws_FnExactIsLock_vc
    intro w1 h1
    refine h.oneC fun w2 h2 => ?_
    have h0 := h1.trans h2
    refine (laws_szLock_ret v 1048576 zss w2 (h.ext h0) (by decide) (by decide)).call ?_
    rintro r w4 ⟨h4, n, rfl, hn, hsz⟩
    have h4' := h0.trans h4
    refine ⟨n, rfl, h4.keeps, fun _ => ⟨rfl, h4'⟩, fun hp => ?_⟩
    obtain ⟨hl, hz⟩ := hsz (by omega)
    have hl : zss.length ≤ 4398046511104 := by omega
    have hz : ∀ z ∈ zss, z.length ≤ 4398046511104 := fun z hh => by have := hz z hh; omega
    intro w6 h6
    refine (laws_toMaker_val ..).call fun w8 h8 => ⟨_, _, _, _, _, rfl, h8.keeps, h8, ?_⟩
    have k8 := (h4'.trans h6).trans h8
    refine (laws_toLock_ret v zss w8 (h.ext k8) hl hz).call ?_
    rintro _ w15 ⟨x, rfl, ox, h15⟩
    refine ⟨x, rfl, h15.keeps, h15, ?_⟩
    refine (spec_IsLock_val c d s m l x zss w15 ox.rr).call fun w18 h18 => ⟨_, rfl, h18.keeps, h18, ?_⟩
    have k18 := (k8.trans h15).trans h18
    refine (laws_toLock_ret v zss w18 (h.ext k18) hl hz).call ?_
    rintro _ w21 ⟨y, rfl, oy, h21⟩
    refine ⟨y, rfl, h21.keeps, fun w23 h23 => oy.rr.oneC fun w24 b24 => ?_⟩
    have oy := ((oy.mono k18.size).ext h23).bxs b24 (by decide) (by decide)
    have k24 := ((k18.trans h21).trans h23).bxs b24
    refine ⟨c, d, s, m, l, fun w25 h25 => (laws_toMaker_val ..).call fun _ hx => ⟨rfl, hx⟩, _, fun w33 h33 => (impl_IsLock_val c d s m l y zss w33 (oy.rr.ext h33)).call fun _ hx => ⟨rfl, hx⟩, fun w37 h37 => ⟨fun hne => absurd rfl hne, fun _ w38 h38 => ?_⟩⟩
    have k38 := (k24.trans h37).trans h38
    refine (laws_toLock_ret v zss w38 (h.ext k38) hl hz).call ?_
    rintro _ w40 ⟨z, rfl, oz, h40⟩
    refine ⟨z, rfl, h40.keeps, h40, ?_⟩
    exact (laws_eqLock_val y z zss w40 (((oy.rr.ext h37).ext h38).ext h40) oz.rr).call fun w43 h43 => ⟨true, rfl, h43.keeps, h43, fun hh => (by cases hh), fun _ => ⟨rfl, (k38.trans h40).trans h43⟩⟩))
set_option linter.unusedSimpArgs false in
theorem readable : ∀ t ∈ Try.f13.params.toList, Try.prog.readableRec t = true ∧ t < Try.prog.types.size := by
  rw [Try.params13]
  simp only [List.mem_cons, List.not_mem_nil, or_false, forall_eq_or_imp, forall_eq]
  exact ⟨⟨by kernel_rfl, of_decide_eq_true (by kernel_rfl)⟩, ⟨by kernel_rfl, of_decide_eq_true (by kernel_rfl)⟩⟩

set_option maxRecDepth 100000 in
theorem lifted (os : Os) (started : os.Started) (H : Type) (enc : TypeId × Value → H) :
    ReturnsInHanded {} Try.checked os 13 .any (Rows.fnExactIsLockSpec.pre6 enc Try.prog Try.f13 Rows.fnExactIsLockRow.domain false) (Rows.fnExactIsLockSpec.post enc Try.prog Try.f13 false true false false) := by
  refine returnsInHanded_of_change (C := Try.checked) ownKnobNone started (by kernel_rfl) Try.func13
    (ChangeSpec.witness6 (enc := enc) (C := Try.checked) false ⟨#[], #[.agg #[.int .i64 0, .int .i64 0, .int .i64 0, .int .i64 0, .int .i64 0], .agg #[.slice none 0 0]], []⟩ 8 (by kernel_rfl) (by kernel_rfl) (by kernel_rfl) (by kernel_rfl)) ?_
  intro W base args ds gs before hval0 hW hcnd _
  have hval : ∀ (j : Nat) t v, Try.f13.params[j]? = some t → args[j]? = some v → Value.okWide Try.prog W .any base t v := hval0
  have hW' := hW
  obtain ⟨p, q, hA0, hV, rfl, hfz, hnd⟩ := hW
  have hA1 : DataW.TrodAll enc Try.prog W 0 (fun _ => true) true Try.f13.params.toList args.toList ds p := hA0
  have hA := hA1
  rw [Try.params13] at hA hval
  obtain ⟨v0, vs0, d0, ds0, p0, q0, hargs, rfl, rfl, h0, r0⟩ := trodAll_cons hA
  obtain ⟨v1, vs1, d1, ds1, p1, q1, rfl, rfl, rfl, h1, r1⟩ := trodAll_cons r0
  obtain ⟨rfl, rfl, rfl⟩ := trodAll_nil r1
  obtain rfl : args = #[v0, v1] := by cases args; simp_all
  obtain ⟨rfl, rfl⟩ := trodVars_none hV
  obtain ⟨v0_0, v0_1, v0_2, v0_3, v0_4, y0_0, y0_1, y0_2, y0_3, y0_4, m0, rfl, rfl, rfl, g0_0, g0_1, g0_2, g0_3, g0_4⟩ := open_agg5 Try.underlying24 (by kernel_rfl) (by kernel_rfl) (hval 0 24 v0 rfl rfl) h0
  obtain ⟨a0_0, e0_0, rfl, w0_0⟩ := DataW.trod_int Try.underlying2 g0_0
  simp only [List.cons.injEq, and_true] at e0_0
  subst e0_0
  obtain ⟨a0_1, e0_1, rfl, w0_1⟩ := DataW.trod_int Try.underlying2 g0_1
  simp only [List.cons.injEq, and_true] at e0_1
  subst e0_1
  obtain ⟨a0_2, e0_2, rfl, w0_2⟩ := DataW.trod_int Try.underlying2 g0_2
  simp only [List.cons.injEq, and_true] at e0_2
  subst e0_2
  obtain ⟨a0_3, e0_3, rfl, w0_3⟩ := DataW.trod_int Try.underlying2 g0_3
  simp only [List.cons.injEq, and_true] at e0_3
  subst e0_3
  obtain ⟨a0_4, e0_4, rfl, w0_4⟩ := DataW.trod_int Try.underlying2 g0_4
  simp only [List.cons.injEq, and_true] at e0_4
  subst e0_4
  obtain ⟨x1, z1, rfl, hz1, wz1⟩ := open_lock Try.underlying49 rfl rfl (by kernel_rfl) (by kernel_rfl) Try.underlying47 Try.underlying29 Try.underlying2 (by kernel_rfl) (by kernel_rfl) (hval 1 49 v1 rfl rfl) h1
  clear hA0 hval0
  refine (Val.calls (walk a0_0 w0_0 a0_1 w0_1 a0_2 w0_2 a0_3 w0_3 a0_4 w0_4 x1 z1 W hz1 wz1)).mono fun e W' ⟨he, hg⟩ => ?_
  subst he
  exact ⟨_, rfl, law_post laidOut readable hW' hA1 Try.underlying4 rfl rfl rfl hg⟩

theorem proved : Rows.FnExactIsLockSaid :=
  OpenClaim.holds_of_wide 13 Try.f13 rfl rfl rfl rfl rfl rfl rfl ⟨rfl, rfl, rfl, rfl, rfl⟩ rfl rfl rfl rfl rfl (by kernel_rfl) Try.func13 (by kernel_rfl)
    (of_decide_eq_true (by kernel_rfl)) (by unfold Func.isWrapper; first | (rw [if_pos (by decide +kernel)]; kernel_rfl) | (rw [if_neg (by decide +kernel)]; exact ⟨rfl, rfl⟩))
    (fun os started H enc _ => lifted os started H enc)

end Go.Proofs.Ytkkppckmjlobaaa.lawIsLock
