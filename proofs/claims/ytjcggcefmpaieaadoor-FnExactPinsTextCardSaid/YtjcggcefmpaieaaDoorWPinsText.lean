/- The law FnExactPinsText: the program's function answers as the reference's, for all arguments; the tied card. No condition. -/
import Derived.Test.YtjcggcefmpaieaaDoorS10
import Derived.Test.YtjcggcefmpaieaaDoorD01
import Derived.Test.YtjcggcefmpaieaaDoorLaws
import Derived.SevenTiedAt
import Derived.Test.YtjcggcefmpaieaaDoorCards
import Derived.Test.YtjcggcefmpaieaaDoorTie
set_option linter.unusedVariables false
namespace Go.Proofs
open Go.Sx Go.RowKit Go.Tx
abbrev laws_FnExactPinsText_k0 (w : World) (Post : Value → World → Prop) (x248 : Value) (x249 : Value) (w250 : World) : Prop :=
  ∀ w251 : World, Ext w250 w251 → Calls Tryd.prog 30 #[(Value.agg #[x248])] w251 (fun e252 w253 => ∃ u254 : Value, e252 = .returned (Value.agg #[u254]) ∧ Keeps w.heap.size [33, 48, 36] w251 w253 ∧ Ext w251 w253 ∧ Calls Tryd.prog 21 #[(Value.agg #[x249]), (Value.agg #[u254])] w253 (fun e255 w256 => ∃ b257 : Bool, e255 = .returned (Value.bool b257) ∧ Keeps w.heap.size [33, 48, 36] w253 w256 ∧ Ext w251 w256 ∧ (((!b257) = true → Post (Value.bool false) w256) ∧ ((!b257) = false → Post (Value.bool true) w256))))
abbrev laws_FnExactPinsText_k1 (w : World) (Post : Value → World → Prop) (n38 : Int) (n56 : Int) (x183 : Value) (x184 : Value) (w185 : World) : Prop :=
  (((n56 ≠ n38) → Post (Value.bool false) w185) ∧ (¬ (n56 ≠ n38) → (laws_FnExactPinsText_k0 w Post x183 x184 w185)))
abbrev laws_FnExactPinsText_k2 (w : World) (Post : Value → World → Prop) (x17 : Int) (x18 : Int) (x19 : Int) (x20 : Int) (x21 : Int) (x22 : Value) (w23 : World) : Prop :=
  ∀ w24 : World, Ext w23 w24 → Calls Tryd.prog 19 #[(Value.agg #[(Value.int .i64 x17), (Value.int .i64 x18), (Value.int .i64 x19), (Value.int .i64 x20), (Value.int .i64 x21)])] w24 (fun e25 w26 => ∃ n27 : Int, ∃ n28 : Int, ∃ n29 : Int, ∃ n30 : Int, ∃ n31 : Int, e25 = .returned (Value.agg #[(Value.int .i64 n27), (Value.int .i64 n28), (Value.int .i64 n29), (Value.int .i64 n30), (Value.int .i64 n31)]) ∧ Keeps w.heap.size [33, 48] w24 w26 ∧ Ext w24 w26 ∧ Calls Tryd.prog 30 #[(Value.agg #[x22])] w26 (fun e32 w33 => ∃ u34 : Value, e32 = .returned (Value.agg #[u34]) ∧ Keeps w.heap.size [33, 48] w26 w33 ∧ Ext w24 w33 ∧ Calls Tryd.prog 29 #[(Value.agg #[(Value.int .i64 n27), (Value.int .i64 n28), (Value.int .i64 n29), (Value.int .i64 n30), (Value.int .i64 n31)]), (Value.agg #[u34])] w33 (fun e35 w36 => ∃ s37 : ByteArray, ∃ n38 : Int, e35 = .returned (Value.tuple #[(Value.string s37), (Value.int .i64 n38)]) ∧ Keeps w.heap.size [33, 48] w33 w36 ∧ Ext w24 w36 ∧ Calls Tryd.prog 30 #[(Value.agg #[x22])] w36 (fun e39 w40 => ∃ u41 : Value, e39 = .returned (Value.agg #[u41]) ∧ Keeps w.heap.size [33, 48] w36 w40 ∧ ∀ w42 : World, Ext w40 w42 → oneC u41 (∀ w43 : World, BxS w.heap.size 36 w42 w43 → ∃ n47 : Int, ∃ n48 : Int, ∃ n49 : Int, ∃ n50 : Int, ∃ n51 : Int, (∀ w44 : World, Ext w43 w44 → Calls Tryd.prog 19 #[(Value.agg #[(Value.int .i64 x17), (Value.int .i64 x18), (Value.int .i64 x19), (Value.int .i64 x20), (Value.int .i64 x21)])] w44 (fun e45 w46 => e45 = .returned (Value.agg #[(Value.int .i64 n47), (Value.int .i64 n48), (Value.int .i64 n49), (Value.int .i64 n50), (Value.int .i64 n51)]) ∧ Ext w44 w46)) ∧ ∃ s55 : ByteArray, ∃ n56 : Int, (∀ w52 : World, Ext w43 w52 → Calls Tryd.prog 31 #[(Value.agg #[(Value.int .i64 n47), (Value.int .i64 n48), (Value.int .i64 n49), (Value.int .i64 n50), (Value.int .i64 n51)]), (Value.agg #[u41])] w52 (fun e53 w54 => e53 = .returned (Value.tuple #[(Value.string s55), (Value.int .i64 n56)]) ∧ Ext w52 w54)) ∧ ∀ w57 : World, Ext w43 w57 → (((!(s55.toList == s37.toList)) = true → Post (Value.bool false) w57) ∧ ((!(s55.toList == s37.toList)) = false → (laws_FnExactPinsText_k1 w Post n38 n56 x22 u41 w57))))))))
def laws_FnExactPinsText_vc (m_Chambers : Int) (m_Depths : Int) (m_Step : Int) (m_Same : Int) (m_Least : Int) (l_Sets : Value) (w : World) (Post : Value → World → Prop) : Prop :=
  ∀ w1 : World, Ext w w1 → oneC l_Sets (∀ w2 : World, Ext w1 w2 → Calls Tryd.prog 28 #[(Value.agg #[l_Sets]), (Value.int .i64 1048576)] w2 (fun e3 w4 => ∃ n5 : Int, e3 = .returned (Value.int .i64 n5) ∧ Keeps w.heap.size [33, 48] w2 w4 ∧ (((n5 < (0 : Int)) → Post (Value.bool true) w4) ∧ (¬ (n5 < (0 : Int)) → (laws_FnExactPinsText_k2 w Post m_Chambers m_Depths m_Step m_Same m_Least l_Sets w4)))))
theorem laws_FnExactPinsText_eq (m_Chambers : Int) (m_Depths : Int) (m_Step : Int) (m_Same : Int) (m_Least : Int) (l_Sets : Value) (w : World) (Post : Value → World → Prop) : denF Tryd.prog [1000030] noAnn 7 [(Value.agg #[(Value.int .i64 m_Chambers), (Value.int .i64 m_Depths), (Value.int .i64 m_Step), (Value.int .i64 m_Same), (Value.int .i64 m_Least)]), (Value.agg #[l_Sets])] w Post = laws_FnExactPinsText_vc m_Chambers m_Depths m_Step m_Same m_Least l_Sets w Post := by kernel_rfl
set_option maxRecDepth 100000 in
theorem laws_FnExactPinsText_calls (m_Chambers : Int) (m_Depths : Int) (m_Step : Int) (m_Same : Int) (m_Least : Int) (l_Sets : Value) (w : World) (Post : Value → World → Prop) (hvc : laws_FnExactPinsText_vc m_Chambers m_Depths m_Step m_Same m_Least l_Sets w Post) : Ret Tryd.prog 7 #[(Value.agg #[(Value.int .i64 m_Chambers), (Value.int .i64 m_Depths), (Value.int .i64 m_Step), (Value.int .i64 m_Same), (Value.int .i64 m_Least)]), (Value.agg #[l_Sets])] w Post :=
  Ret.of (denF_sound mixed (Eq.mpr (laws_FnExactPinsText_eq m_Chambers m_Depths m_Step m_Same m_Least l_Sets w Post) hvc))

end Go.Proofs
namespace Go.Proofs.YtjcggcefmpaieaaDoor.lawPinsText
open Go.Proofs Go.Sx Go.RowKit Go.ChangeShapes Go.WideShapes Go.ChangeAt Go.Joins Go.WideMaps Go.WideElems Go.Tx Go.Proofs.YtjcggcefmpaieaaDoor
theorem walk (c : Int) (_ : (Lit.int .i64 c).wf = true) (d : Int) (_ : (Lit.int .i64 d).wf = true) (s : Int) (_ : (Lit.int .i64 s).wf = true) (m : Int) (_ : (Lit.int .i64 m).wf = true) (l : Int) (_ : (Lit.int .i64 l).wf = true) (v : Value) (zv : List (List Int)) (w : World) (h : RR w v zv) (_ : ∀ z ∈ zv, ∀ n ∈ z, (Lit.int .i64 n).wf = true) (hg : Gl w) : Val Tryd.prog 7 #[mkV c d s m l, lkV v] w (.bool true) :=
  Ret.val (laws_FnExactPinsText_calls c d s m l v w _ (by
    unfold laws_FnExactPinsText_vc
    intro w1 h1
    refine h.oneC fun w2 h2 => ?_
    have k2 := h1.trans h2
    refine (laws_szLock_ret v 1048576 zv w2 (h.ext k2) (by decide) (by decide)).call ?_
    rintro _ w3 ⟨h3, nz, rfl, hnz, hsz⟩
    have k3 := k2.trans h3
    refine ⟨nz, rfl, h3.keeps, fun _ => ⟨rfl, k3⟩, fun hp => ?_⟩
    obtain ⟨hl, hz⟩ := hsz (by omega)
    have hl1 : zv.length ≤ 1048576 := by omega
    have hz1 : ∀ z ∈ zv, z.length ≤ 1048576 := fun z hh => by have := hz z hh; omega
    have hl2 : zv.length ≤ 4398046511104 := by omega
    have hz2 : ∀ z ∈ zv, z.length ≤ 4398046511104 := fun z hh => by have := hz1 z hh; omega
    unfold laws_FnExactPinsText_k2
    intro w4 h4
    have k4 := k3.trans h4
    refine (laws_toMaker_val ..).call fun w5 h5 => ⟨_, _, _, _, _, rfl, h5.keeps, h5, ?_⟩
    have k5 := k4.trans h5
    have x5 := h5
    refine (laws_toLock_ret v zv w5 (h.ext k5) hl2 hz2).call ?_
    rintro _ w6 ⟨p, rfl, qp, h6⟩
    have k6 := k5.trans h6
    have x6 := x5.trans h6
    refine ⟨p, rfl, h6.keeps, x6, ?_⟩
    have op6 := qp.m
    refine (spec_PinsText_val c d s m l p zv w6 op6.rr).call fun w7 h7 => ⟨_, _, rfl, h7.keeps, x6.trans h7, ?_⟩
    have k7 := k6.trans h7
    refine (laws_toLock_ret v zv w7 (h.ext k7) hl2 hz2).call ?_
    rintro _ w8 ⟨x, rfl, qx, h8⟩
    refine ⟨x, rfl, h8.keeps, fun w9 h9 => ?_⟩
    have k9 := (k7.trans h8).trans h9
    have ox9 := qx.m.ext h9
    refine ox9.rr.oneC fun w10 b10 => ⟨_, _, _, _, _, fun W hW => (laws_toMaker_val ..).calls, ?_⟩
    have k10 := k9.bxs b10
    have ox10 := ox9.bxs b10 (by decide) (by decide)
    refine ⟨_, _, fun W hW => (impl_PinsText_val c d s m l x zv W (ox10.ext hW).rr (hg.ext (k10.trans hW))).calls, fun w11 h11 => ⟨fun hf => absurd hf (by simp), fun _ => ?_⟩⟩
    unfold laws_FnExactPinsText_k1
    refine ⟨fun hne => absurd rfl hne, fun _ => ?_⟩
    unfold laws_FnExactPinsText_k0
    intro w12 h12
    have k12 := (k10.trans h11).trans h12
    have ox12 := (ox10.ext h11).ext h12
    refine (laws_toLock_ret v zv w12 (h.ext k12) hl2 hz2).call ?_
    rintro _ w13 ⟨y, rfl, qy, h13⟩
    refine ⟨y, rfl, h13.keeps, h13, ?_⟩
    have ox13 := ox12.ext h13
    refine (laws_eqLock_val x y zv w13 ox13.rr qy.m.rr).call fun w14 h14 => ⟨true, rfl, h14.keeps, h13.trans h14, fun hh => (by cases hh), fun _ => ⟨rfl, (k12.trans h13).trans h14⟩⟩))
set_option linter.unusedSimpArgs false in
theorem readable : ∀ t ∈ Tryd.f7.params.toList, Tryd.prog.readableRec t = true ∧ t < Tryd.prog.types.size := by
  rw [Tryd.params7]
  simp only [List.mem_cons, List.not_mem_nil, or_false, forall_eq_or_imp, forall_eq]
  exact ⟨⟨by kernel_rfl, of_decide_eq_true (by kernel_rfl)⟩, ⟨by kernel_rfl, of_decide_eq_true (by kernel_rfl)⟩⟩

set_option maxRecDepth 100000 in
theorem lifted (os : Os) (started : os.Started) (H : Type) (enc : TypeId × Value → H) :
    ReturnsInHanded {} Tryd.checked os 7 .any (fun w args => (Rows.fnExactPinsTextSpec.pre enc Tryd.prog Tryd.f7 [] false w args ∧ laidMetH Tryd.prog tabs3 w) ∧ sizedMet enc Tryd.prog Tryd.f7 (OpenSpec.ofChange Rows.fnExactPinsTextSpec) false w args)
      (Rows.fnExactPinsTextSpec.post enc Tryd.prog Tryd.f7 false true false false) := by
  refine returnsInHanded_both (C := Tryd.checked) (X := fun w _ => laidMetH Tryd.prog tabs3 w) (fun _ _ _ hh h => h.of_heap hh) ownKnobNone started (by kernel_rfl) Tryd.func7
    (ChangeSpec.witness_shaped (enc := enc) (C := Tryd.checked) (os := os) (X := fun w _ => laidMetH Tryd.prog tabs3 w) false (World.doorLaid Tryd.prog 72 os) #[.agg #[.int .i64 0, .int .i64 0, .int .i64 0, .int .i64 0, .int .i64 0], .agg #[.slice none 0 0]] 8 rfl (World.shaped_of_RefB (by kernel_rfl) (by kernel_rfl)) (by kernel_rfl) (by kernel_rfl) (by kernel_rfl) (door_met3 os _)) ?_
  intro W base args ds gs before hval0 hW hL hsh
  have hval : ∀ (j : Nat) t v, Tryd.f7.params[j]? = some t → args[j]? = some v → Value.okWide Tryd.prog W .any base t v := hval0
  have hW' := hW
  obtain ⟨p, q, hA0, hV, rfl, hfz, hnd⟩ := hW
  have hA1 : DataW.TrodAll enc Tryd.prog W 0 (fun _ => true) true Tryd.f7.params.toList args.toList ds p := hA0
  have hA := hA1
  rw [Tryd.params7] at hA hval
  obtain ⟨v0, vs0, d0, ds0, p0, q0, hargs, rfl, rfl, h0, r0⟩ := trodAll_cons hA
  obtain ⟨v1, vs1, d1, ds1, p1, q1, rfl, rfl, rfl, h1, r1⟩ := trodAll_cons r0
  obtain ⟨rfl, rfl, rfl⟩ := trodAll_nil r1
  obtain rfl : args = #[v0, v1] := by cases args; simp_all
  obtain ⟨rfl, rfl⟩ := trodVars_none hV
  obtain ⟨v0_0, v0_1, v0_2, v0_3, v0_4, y0_0, y0_1, y0_2, y0_3, y0_4, m0, rfl, rfl, rfl, g0_0, g0_1, g0_2, g0_3, g0_4⟩ := open_agg5 Tryd.underlying33 (by kernel_rfl) (by kernel_rfl) (hval 0 33 v0 rfl rfl) h0
  obtain ⟨a0_0, e0_0, rfl, w0_0⟩ := DataW.trod_int Tryd.underlying2 g0_0
  simp only [List.cons.injEq, and_true] at e0_0
  subst e0_0
  obtain ⟨a0_1, e0_1, rfl, w0_1⟩ := DataW.trod_int Tryd.underlying2 g0_1
  simp only [List.cons.injEq, and_true] at e0_1
  subst e0_1
  obtain ⟨a0_2, e0_2, rfl, w0_2⟩ := DataW.trod_int Tryd.underlying2 g0_2
  simp only [List.cons.injEq, and_true] at e0_2
  subst e0_2
  obtain ⟨a0_3, e0_3, rfl, w0_3⟩ := DataW.trod_int Tryd.underlying2 g0_3
  simp only [List.cons.injEq, and_true] at e0_3
  subst e0_3
  obtain ⟨a0_4, e0_4, rfl, w0_4⟩ := DataW.trod_int Tryd.underlying2 g0_4
  simp only [List.cons.injEq, and_true] at e0_4
  subst e0_4
  obtain ⟨x1, z1, rfl, hz1, wz1⟩ := open_lock Tryd.underlying48 rfl rfl (by kernel_rfl) (by kernel_rfl) Tryd.underlying34 Tryd.underlying24 Tryd.underlying2 (by kernel_rfl) (by kernel_rfl) (hval 1 48 v1 rfl rfl) h1
  clear hA0 hval0
  have hgl := gl_of_laid3 hL
  refine (Val.calls (walk a0_0 w0_0 a0_1 w0_1 a0_2 w0_2 a0_3 w0_3 a0_4 w0_4 x1 z1 W hz1 wz1 hgl)).mono fun e W' ⟨he, hg⟩ => ?_
  subst he
  exact ⟨_, rfl, law_post laidOut readable hW' hA1 Tryd.underlying4 rfl rfl rfl hg⟩

/-- the row's statement -/
theorem row : Rows.FnExactPinsTextSaid :=
  OpenClaim.holds_of_wide 7 Tryd.f7 rfl rfl rfl rfl rfl rfl rfl ⟨rfl, rfl, rfl, rfl, rfl⟩ rfl rfl rfl rfl rfl (by kernel_rfl) Tryd.func7 (by kernel_rfl)
    (of_decide_eq_true (by kernel_rfl)) (by unfold Func.isWrapper; first | (rw [if_pos (by decide +kernel)]; kernel_rfl) | (rw [if_neg (by decide +kernel)]; exact ⟨rfl, rfl⟩))
    (fun os started H enc _ => lifted os started H enc)

theorem proved : Rows.FnExactPinsTextCardSaid :=
  Claim7.holds_tied_plain_at .later [] [.data, .data, .data] true (true, "5656281482df4c57e3eb81375a1872ce469613685fa4d7162dd797169a2d4b30") true
    row (fun _ h => by cases h) (by kernel_rfl) (fun _ h => by cases h) fnExactPinsText_row_tie rfl ⟨rfl, rfl⟩ (by kernel_rfl) rfl
    (fun f fn hf hfn => by
      obtain rfl : f = 7 := Option.some.inj ((show Tryd.prog.funcNamed "loop.example/g00947/laws.FnExactPinsText" = some 7 by kernel_rfl).symm.trans hf) |>.symm
      obtain rfl : fn = Tryd.f7 := (Option.some.inj (Tryd.func7.symm.trans hfn)).symm
      exact ⟨by kernel_rfl, fun j t ht => by
        rw [Tryd.params7] at ht
        have hm : t ∈ [33, 48] := by simpa using Array.mem_of_getElem? ht
        have hall : ([33, 48].all fun u => !Tryd.prog.wantsStandIn u) = true := by kernel_rfl
        exact (show Tryd.prog.wantsStandIn t = false by simpa using List.all_eq_true.1 hall t hm)⟩)
    (by kernel_rfl)

end Go.Proofs.YtjcggcefmpaieaaDoor.lawPinsText
