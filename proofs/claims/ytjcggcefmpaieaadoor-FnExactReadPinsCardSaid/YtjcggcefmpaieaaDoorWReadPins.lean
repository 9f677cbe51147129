/- The law FnExactReadPins: the program's function answers as the reference's, for all arguments; the tied card. No condition. -/
import Derived.Test.YtjcggcefmpaieaaDoorS11
import Derived.Test.YtjcggcefmpaieaaDoorD02
import Derived.Test.YtjcggcefmpaieaaDoorLaws
import Derived.ChangeMaps5
import Derived.SevenTiedAt
import Derived.Test.YtjcggcefmpaieaaDoorCards
import Derived.Test.YtjcggcefmpaieaaDoorTie
set_option linter.unusedVariables false
namespace Go.Proofs
open Go.Sx Go.RowKit Go.Tx
abbrev laws_FnExactReadPins_k0 (Post : Value → World → Prop) (x666 : Int) (x667 : Int) (w755 : World) : Prop :=
  (((x667 ≠ x666) → Post (Value.bool false) w755) ∧ (¬ (x667 ≠ x666) → Post (Value.bool true) w755))
abbrev laws_FnExactReadPins_k1 (w : World) (Post : Value → World → Prop) (x569 : Int) (x652 : Value) (w654 : World) : Prop :=
  Calls Tryd.prog 23 #[(Value.agg #[x652]), (Value.int .i64 1)] w654 (fun e655 w656 => ∃ n657 : Int, e655 = .returned (Value.int .i64 n657) ∧ Keeps w.heap.size [33, 36, 36, 36] w654 w656 ∧ (((n657 < (0 : Int)) → Post (Value.bool false) w656) ∧ (¬ (n657 < (0 : Int)) → (laws_FnExactReadPins_k0 Post x569 n657 w656))))
abbrev laws_FnExactReadPins_k2 (w : World) (Post : Value → World → Prop) (x296 : Int) (n369 : Int) (x475 : Int) (x558 : Value) (w560 : World) : Prop :=
  (((n369 ≠ x296) → Post (Value.bool false) w560) ∧ (¬ (n369 ≠ x296) → (laws_FnExactReadPins_k1 w Post x475 x558 w560)))
abbrev laws_FnExactReadPins_k3 (w : World) (Post : Value → World → Prop) (x295 : ByteArray) (x296 : Int) (x298 : Int) (x351 : Int) (x352 : Int) (x353 : Int) (x354 : Int) (x355 : Int) (x356 : Value) (x357 : Value) (w358 : World) : Prop :=
  Calls Tryd.prog 19 #[(Value.agg #[(Value.int .i64 x351), (Value.int .i64 x352), (Value.int .i64 x353), (Value.int .i64 x354), (Value.int .i64 x355)])] w358 (fun e359 w360 => ∃ n361 : Int, ∃ n362 : Int, ∃ n363 : Int, ∃ n364 : Int, ∃ n365 : Int, e359 = .returned (Value.agg #[(Value.int .i64 n361), (Value.int .i64 n362), (Value.int .i64 n363), (Value.int .i64 n364), (Value.int .i64 n365)]) ∧ Keeps w.heap.size [33, 36, 36] w358 w360 ∧ Calls Tryd.prog 20 #[(Value.agg #[(Value.int .i64 n361), (Value.int .i64 n362), (Value.int .i64 n363), (Value.int .i64 n364), (Value.int .i64 n365)]), (Value.string x295)] w360 (fun e366 w367 => ∃ u368 : Value, ∃ n369 : Int, e366 = .returned (Value.tuple #[(Value.agg #[u368]), (Value.int .i64 n369)]) ∧ Keeps w.heap.size [33, 36, 36] w360 w367 ∧ ∀ w370 : World, Ext w367 w370 → oneC u368 (∀ w371 : World, BxS w.heap.size 36 w370 w371 → Calls Tryd.prog 21 #[(Value.agg #[u368]), (Value.agg #[x356])] w371 (fun e372 w373 => ∃ b374 : Bool, e372 = .returned (Value.bool b374) ∧ Keeps w.heap.size [33, 36, 36, 36] w371 w373 ∧ (((!b374) = true → Post (Value.bool false) w373) ∧ ((!b374) = false → (laws_FnExactReadPins_k2 w Post x296 n369 x298 x357 w373)))))))
abbrev laws_FnExactReadPins_k4 (w : World) (Post : Value → World → Prop) (x228 : ByteArray) (x229 : Int) (x231 : Int) (x232 : Int) (x282 : Int) (x283 : Int) (x284 : Int) (x285 : Int) (x286 : Int) (x287 : Value) (x288 : Value) (w289 : World) : Prop :=
  (((x232 ≠ x231) → Post (Value.bool false) w289) ∧ (¬ (x232 ≠ x231) → (laws_FnExactReadPins_k3 w Post x228 x229 x231 x282 x283 x284 x285 x286 x287 x288 w289)))
abbrev laws_FnExactReadPins_k5 (w : World) (Post : Value → World → Prop) (x164 : ByteArray) (x165 : Int) (x209 : Int) (x210 : Int) (x211 : Int) (x212 : Int) (x213 : Int) (x214 : Value) (x215 : Value) (w216 : World) : Prop :=
  Calls Tryd.prog 22 #[(Value.agg #[x215]), (Value.int .i64 1)] w216 (fun e217 w218 => ∃ n219 : Int, e217 = .returned (Value.int .i64 n219) ∧ Keeps w.heap.size [33, 36, 36] w216 w218 ∧ Calls Tryd.prog 23 #[(Value.agg #[x215]), (Value.int .i64 1)] w218 (fun e220 w221 => ∃ n222 : Int, e220 = .returned (Value.int .i64 n222) ∧ Keeps w.heap.size [33, 36, 36] w218 w221 ∧ (((n222 < (0 : Int)) → Post (Value.bool false) w221) ∧ (¬ (n222 < (0 : Int)) → (laws_FnExactReadPins_k4 w Post x164 x165 n219 n222 x209 x210 x211 x212 x213 x214 x215 w221)))))
abbrev laws_FnExactReadPins_k6 (w : World) (Post : Value → World → Prop) (n26 : Int) (n39 : Int) (x106 : ByteArray) (x107 : Int) (x151 : Int) (x152 : Int) (x153 : Int) (x154 : Int) (x155 : Int) (x156 : Value) (x157 : Value) (w158 : World) : Prop :=
  (((n39 ≠ n26) → Post (Value.bool false) w158) ∧ (¬ (n39 ≠ n26) → (laws_FnExactReadPins_k5 w Post x106 x107 x151 x152 x153 x154 x155 x156 x157 w158)))
abbrev laws_FnExactReadPins_k7 (w : World) (Post : Value → World → Prop) (x7 : ByteArray) (x10 : Int) (x11 : Int) (x12 : Int) (x13 : Int) (x14 : Int) (w15 : World) : Prop :=
  Calls Tryd.prog 19 #[(Value.agg #[(Value.int .i64 x10), (Value.int .i64 x11), (Value.int .i64 x12), (Value.int .i64 x13), (Value.int .i64 x14)])] w15 (fun e16 w17 => ∃ n18 : Int, ∃ n19 : Int, ∃ n20 : Int, ∃ n21 : Int, ∃ n22 : Int, e16 = .returned (Value.agg #[(Value.int .i64 n18), (Value.int .i64 n19), (Value.int .i64 n20), (Value.int .i64 n21), (Value.int .i64 n22)]) ∧ Keeps w.heap.size [33] w15 w17 ∧ Calls Tryd.prog 18 #[(Value.agg #[(Value.int .i64 n18), (Value.int .i64 n19), (Value.int .i64 n20), (Value.int .i64 n21), (Value.int .i64 n22)]), (Value.string x7)] w17 (fun e23 w24 => ∃ u25 : Value, ∃ n26 : Int, e23 = .returned (Value.tuple #[(Value.agg #[u25]), (Value.int .i64 n26)]) ∧ Keeps w.heap.size [33] w17 w24 ∧ ∀ w27 : World, Ext w24 w27 → oneC u25 (∀ w28 : World, BxS w.heap.size 36 w27 w28 → Calls Tryd.prog 19 #[(Value.agg #[(Value.int .i64 x10), (Value.int .i64 x11), (Value.int .i64 x12), (Value.int .i64 x13), (Value.int .i64 x14)])] w28 (fun e29 w30 => ∃ n31 : Int, ∃ n32 : Int, ∃ n33 : Int, ∃ n34 : Int, ∃ n35 : Int, e29 = .returned (Value.agg #[(Value.int .i64 n31), (Value.int .i64 n32), (Value.int .i64 n33), (Value.int .i64 n34), (Value.int .i64 n35)]) ∧ Keeps w.heap.size [33, 36] w28 w30 ∧ Calls Tryd.prog 20 #[(Value.agg #[(Value.int .i64 n31), (Value.int .i64 n32), (Value.int .i64 n33), (Value.int .i64 n34), (Value.int .i64 n35)]), (Value.string x7)] w30 (fun e36 w37 => ∃ u38 : Value, ∃ n39 : Int, e36 = .returned (Value.tuple #[(Value.agg #[u38]), (Value.int .i64 n39)]) ∧ Keeps w.heap.size [33, 36] w30 w37 ∧ ∀ w40 : World, Ext w37 w40 → oneC u38 (∀ w41 : World, BxS w.heap.size 36 w40 w41 → Calls Tryd.prog 21 #[(Value.agg #[u38]), (Value.agg #[u25])] w41 (fun e42 w43 => ∃ b44 : Bool, e42 = .returned (Value.bool b44) ∧ Keeps w.heap.size [33, 36, 36] w41 w43 ∧ (((!b44) = true → Post (Value.bool false) w43) ∧ ((!b44) = false → (laws_FnExactReadPins_k6 w Post n26 n39 x7 n26 x10 x11 x12 x13 x14 u25 u38 w43))))))))))
def laws_FnExactReadPins_vc (m_Chambers : Int) (m_Depths : Int) (m_Step : Int) (m_Same : Int) (m_Least : Int) (t : ByteArray) (w : World) (Post : Value → World → Prop) : Prop :=
  ∀ w1 : World, Ext w w1 → ((((1048576 : Int) < (t.size : Int)) → Post (Value.bool true) w1) ∧ (¬ ((1048576 : Int) < (t.size : Int)) → (laws_FnExactReadPins_k7 w Post t m_Chambers m_Depths m_Step m_Same m_Least w1)))
theorem laws_FnExactReadPins_eq (m_Chambers : Int) (m_Depths : Int) (m_Step : Int) (m_Same : Int) (m_Least : Int) (t : ByteArray) (w : World) (Post : Value → World → Prop) : denF Tryd.prog [] noAnn 4 [(Value.agg #[(Value.int .i64 m_Chambers), (Value.int .i64 m_Depths), (Value.int .i64 m_Step), (Value.int .i64 m_Same), (Value.int .i64 m_Least)]), (Value.string t)] w Post = laws_FnExactReadPins_vc m_Chambers m_Depths m_Step m_Same m_Least t w Post := by kernel_rfl
set_option maxRecDepth 100000 in
theorem laws_FnExactReadPins_calls (m_Chambers : Int) (m_Depths : Int) (m_Step : Int) (m_Same : Int) (m_Least : Int) (t : ByteArray) (w : World) (Post : Value → World → Prop) (hvc : laws_FnExactReadPins_vc m_Chambers m_Depths m_Step m_Same m_Least t w Post) : Ret Tryd.prog 4 #[(Value.agg #[(Value.int .i64 m_Chambers), (Value.int .i64 m_Depths), (Value.int .i64 m_Step), (Value.int .i64 m_Same), (Value.int .i64 m_Least)]), (Value.string t)] w Post :=
  Ret.of (denF_sound mixed (Eq.mpr (laws_FnExactReadPins_eq m_Chambers m_Depths m_Step m_Same m_Least t w Post) hvc))

end Go.Proofs
namespace Go.Proofs.YtjcggcefmpaieaaDoor.lawReadPins
open Go.Proofs Go.Sx Go.RowKit Go.ChangeShapes Go.WideShapes Go.ChangeAt Go.Joins Go.Tx Go.Proofs.YtjcggcefmpaieaaDoor
theorem walk (c : Int) (_ : (Lit.int .i64 c).wf = true) (d : Int) (_ : (Lit.int .i64 d).wf = true) (s : Int) (_ : (Lit.int .i64 s).wf = true) (m : Int) (_ : (Lit.int .i64 m).wf = true) (l : Int) (_ : (Lit.int .i64 l).wf = true) (t : ByteArray) (w : World) (hg : Gs w) : Val Tryd.prog 4 #[mkV c d s m l, .string t] w (.bool true) := by
  obtain ⟨q, rfl⟩ : ∃ q : List UInt8, t = ⟨q.toArray⟩ := ⟨t.data.toList, (ba_eta t).symm⟩
  have hqs := ba_size q
  exact Ret.val (laws_FnExactReadPins_calls c d s m l ⟨q.toArray⟩ w _ (by
    unfold laws_FnExactReadPins_vc
    have hR := rpR_total ⟨c, d, s, m, l⟩ q
    intro w1 h1
    refine ⟨fun h => ⟨rfl, h1⟩, fun hlt => ?_⟩
    have hq : q.length ≤ 1048576 := by omega
    have k1 := h1
    have z1 := h1.size
    refine (laws_toMaker_val ..).call fun w3 h3 => ⟨_, _, _, _, _, rfl, h3.keeps, ?_⟩
    have k4 := k1.trans h3
    have z3 := h3.size
    refine (spec_ReadPins_ret ⟨c, d, s, m, l⟩ q w3 hq).call ?_
    rintro _ w5 ⟨a, rfl, qa, h5⟩
    refine ⟨a, _, rfl, h5.keeps, ?_⟩
    have k5 := k4.trans h5
    have z5 := h5.size
    have oa5 := qa.m
    intro w6 h6
    have k6 := k5.trans h6
    have z6 := h6.size
    have oa6 := oa5.ext h6
    refine oa6.rr.oneC fun w7 b7 => ?_
    have k8 := k6.bxs b7
    have z7 := b7.size
    have oa8 := oa6.bxs b7 (by decide) (by decide)
    refine (laws_toMaker_val ..).call fun w9 h9 => ⟨_, _, _, _, _, rfl, h9.keeps, ?_⟩
    have k9 := k8.trans h9
    have z9 := h9.size
    have oa9 := oa8.ext h9
    refine (impl_ReadPins_ret ⟨c, d, s, m, l⟩ q w9 hq (hg.ext k9)).call ?_
    rintro _ w10 ⟨b, rfl, qb, h10⟩
    refine ⟨b, _, rfl, h10.keeps, ?_⟩
    have k10 := k9.trans h10
    have z10 := h10.size
    have oa10 := oa9.ext h10
    have ob10 := qb.m
    intro w11 h11
    have k11 := k10.trans h11
    have z11 := h11.size
    have oa11 := oa10.ext h11
    have ob11 := ob10.ext h11
    refine ob11.rr.oneC fun w12 b12 => ?_
    have k12 := k11.bxs b12
    have z12 := b12.size
    have oa12 := oa11.bxs b12 (by decide) (by decide)
    have ob12 := ob11.bxs b12 (by decide) (by decide)
    refine (laws_eqLock_val b a _ w12 ob12.rr oa12.rr).call fun w13 h13 => ⟨true, rfl, h13.keeps, fun hh => (by cases hh), fun _ => ?_⟩
    have k17 := k12.trans h13
    have z13 := h13.size
    have oa17 := oa12.ext h13
    have ob17 := ob12.ext h13
    refine ⟨fun hne => absurd rfl hne, fun _ => ?_⟩
    refine (laws_markLock_ret b 1 _ _ _ w13 ob17 (by decide) (by omega)).call ?_
    rintro _ w18 ⟨rfl, mb18, m18⟩
    refine ⟨_, rfl, m18.2 _ _ (by decide), ?_⟩
    have k18 := m18.ext k17 (by omega)
    have z18 := m18.size
    have oa18 := oa17.rest m18 (by omega)
    refine (laws_heldLock_val b 1 _ w18 mb18.rr (by decide) (by omega)).call fun w19 h19 => ⟨_, rfl, h19.keeps, fun hneg => absurd hneg (by omega), fun _ => ?_⟩
    have k19 := k18.trans h19
    have z19 := h19.size
    have oa19 := oa18.ext h19
    have ob19 := mb18.ext h19
    refine ⟨fun hne => absurd rfl hne, fun _ => ?_⟩
    refine (laws_toMaker_val ..).call fun w20 h20 => ⟨_, _, _, _, _, rfl, h20.keeps, ?_⟩
    have k21 := k19.trans h20
    have z20 := h20.size
    have oa21 := oa19.ext h20
    have ob21 := ob19.ext h20
    refine (impl_ReadPins_ret ⟨c, d, s, m, l⟩ q w20 hq (hg.ext k21)).call ?_
    rintro _ w22 ⟨e, rfl, qe, h22⟩
    refine ⟨e, _, rfl, h22.keeps, ?_⟩
    have k22 := k21.trans h22
    have z22 := h22.size
    have oa22 := oa21.ext h22
    have ob22 := ob21.ext h22
    have oe22 := qe.m
    intro w23 h23
    have k23 := k22.trans h23
    have z23 := h23.size
    have oa23 := oa22.ext h23
    have ob23 := ob22.ext h23
    have oe23 := oe22.ext h23
    refine oe23.rr.oneC fun w24 b24 => ?_
    have k24 := k23.bxs b24
    have z24 := b24.size
    have oa24 := oa23.bxs b24 (by decide) (by decide)
    have ob24 := ob23.bxs b24 (by decide) (by decide)
    have oe24 := oe23.bxs b24 (by decide) (by decide)
    refine (laws_eqLock_val e a _ w24 oe24.rr oa24.rr).call fun w25 h25 => ⟨true, rfl, h25.keeps, fun hh => (by cases hh), fun _ => ?_⟩
    have k25 := k24.trans h25
    have z25 := h25.size
    have ob25 := ob24.ext h25
    refine ⟨fun hne => absurd rfl hne, fun _ => ?_⟩
    refine (laws_heldLock_val b 1 _ w25 ob25.rr (by decide) (by omega)).call fun w26 h26 => ⟨_, rfl, h26.keeps, fun hneg => absurd hneg (by omega), fun _ => ?_⟩
    have k26 := k25.trans h26
    exact ⟨fun hne => absurd rfl hne, fun _ => ⟨rfl, k26⟩⟩))
set_option linter.unusedSimpArgs false in
theorem readable : ∀ t ∈ Tryd.f4.params.toList, Tryd.prog.readableRec t = true ∧ t < Tryd.prog.types.size := by
  rw [Tryd.params4]
  simp only [List.mem_cons, List.not_mem_nil, or_false, forall_eq_or_imp, forall_eq]
  exact ⟨⟨by kernel_rfl, of_decide_eq_true (by kernel_rfl)⟩, ⟨by kernel_rfl, of_decide_eq_true (by kernel_rfl)⟩⟩

set_option maxRecDepth 100000 in
theorem lifted (os : Os) (started : os.Started) (H : Type) (enc : TypeId × Value → H) :
    ReturnsInHanded {} Tryd.checked os 4 .any (fun w args => (Rows.fnExactReadPinsSpec.pre enc Tryd.prog Tryd.f4 [] false w args ∧ laidMetH Tryd.prog tabs7 w) ∧ sizedMet enc Tryd.prog Tryd.f4 (OpenSpec.ofChange Rows.fnExactReadPinsSpec) false w args)
      (Rows.fnExactReadPinsSpec.post enc Tryd.prog Tryd.f4 false true false false) := by
  refine returnsInHanded_both (C := Tryd.checked) (X := fun w _ => laidMetH Tryd.prog tabs7 w) (fun _ _ _ hh h => h.of_heap hh) ownKnobNone started (by kernel_rfl) Tryd.func4
    (ChangeSpec.witness_shaped (enc := enc) (C := Tryd.checked) (os := os) (X := fun w _ => laidMetH Tryd.prog tabs7 w) false (World.laidAll Tryd.prog os tabs7) #[.agg #[.int .i64 0, .int .i64 0, .int .i64 0, .int .i64 0, .int .i64 0], .string ByteArray.empty] 8 (World.laidAll_os _ _ _) (door_shaped7 os) (by kernel_rfl) (by kernel_rfl) (by kernel_rfl) (door_met7 os _)) ?_
  intro W base args ds gs before hval0 hW hL hsh
  have hval : ∀ (j : Nat) t v, Tryd.f4.params[j]? = some t → args[j]? = some v → Value.okWide Tryd.prog W .any base t v := hval0
  have hW' := hW
  obtain ⟨p, q, hA0, hV, rfl, hfz, hnd⟩ := hW
  have hA1 : DataW.TrodAll enc Tryd.prog W 0 (fun _ => true) true Tryd.f4.params.toList args.toList ds p := hA0
  have hA := hA1
  rw [Tryd.params4] at hA hval
  obtain ⟨v0, vs0, d0, ds0, p0, q0, hargs, rfl, rfl, h0, r0⟩ := trodAll_cons hA
  obtain ⟨v1, vs1, d1, ds1, p1, q1, rfl, rfl, rfl, h1, r1⟩ := trodAll_cons r0
  obtain ⟨rfl, rfl, rfl⟩ := trodAll_nil r1
  obtain rfl : args = #[v0, v1] := by cases args; simp_all
  obtain ⟨rfl, rfl⟩ := trodVars_none hV
  obtain ⟨v0_0, v0_1, v0_2, v0_3, v0_4, y0_0, y0_1, y0_2, y0_3, y0_4, m0, rfl, rfl, rfl, g0_0, g0_1, g0_2, g0_3, g0_4⟩ := open_agg5 Tryd.underlying33 (by kernel_rfl) (by kernel_rfl) (hval 0 33 v0 rfl rfl) h0
  obtain ⟨a0_0, e0_0, rfl, w0_0⟩ := DataW.trod_int Tryd.underlying2 g0_0
  simp only [List.cons.injEq, and_true] at e0_0
  subst e0_0
  obtain ⟨a0_1, e0_1, rfl, w0_1⟩ := DataW.trod_int Tryd.underlying2 g0_1
  simp only [List.cons.injEq, and_true] at e0_1
  subst e0_1
  obtain ⟨a0_2, e0_2, rfl, w0_2⟩ := DataW.trod_int Tryd.underlying2 g0_2
  simp only [List.cons.injEq, and_true] at e0_2
  subst e0_2
  obtain ⟨a0_3, e0_3, rfl, w0_3⟩ := DataW.trod_int Tryd.underlying2 g0_3
  simp only [List.cons.injEq, and_true] at e0_3
  subst e0_3
  obtain ⟨a0_4, e0_4, rfl, w0_4⟩ := DataW.trod_int Tryd.underlying2 g0_4
  simp only [List.cons.injEq, and_true] at e0_4
  subst e0_4
  obtain ⟨t1, rfl, rfl, rfl, hs1⟩ := Go.ChangeMaps.open_string Tryd.underlying9 (hval 1 9 v1 rfl rfl) h1
  clear hA0 hval0
  have hgl := gs_of_laid hL hsh
  refine (Val.calls (walk a0_0 w0_0 a0_1 w0_1 a0_2 w0_2 a0_3 w0_3 a0_4 w0_4 t1 W  hgl)).mono fun e W' ⟨he, hg⟩ => ?_
  subst he
  exact ⟨_, rfl, law_post laidOut readable hW' hA1 Tryd.underlying4 rfl rfl rfl hg⟩

/-- the row's statement -/
theorem row : Rows.FnExactReadPinsSaid :=
  OpenClaim.holds_of_wide 4 Tryd.f4 rfl rfl rfl rfl rfl rfl rfl ⟨rfl, rfl, rfl, rfl, rfl⟩ rfl rfl rfl rfl rfl (by kernel_rfl) Tryd.func4 (by kernel_rfl)
    (of_decide_eq_true (by kernel_rfl)) (by unfold Func.isWrapper; first | (rw [if_pos (by decide +kernel)]; kernel_rfl) | (rw [if_neg (by decide +kernel)]; exact ⟨rfl, rfl⟩))
    (fun os started H enc _ => lifted os started H enc)

theorem proved : Rows.FnExactReadPinsCardSaid :=
  Claim7.holds_tied_plain_at .later [] [.data, .data, .data, .data, .sentinel, .sentinel, .pinned] true (true, "5656281482df4c57e3eb81375a1872ce469613685fa4d7162dd797169a2d4b30") true
    row (fun _ h => by cases h) (by kernel_rfl) (fun _ h => by cases h) fnExactReadPins_row_tie rfl ⟨rfl, rfl⟩ (by kernel_rfl) rfl
    (fun f fn hf hfn => by
      obtain rfl : f = 4 := Option.some.inj ((show Tryd.prog.funcNamed "loop.example/g00947/laws.FnExactReadPins" = some 4 by kernel_rfl).symm.trans hf) |>.symm
      obtain rfl : fn = Tryd.f4 := (Option.some.inj (Tryd.func4.symm.trans hfn)).symm
      exact ⟨by kernel_rfl, fun j t ht => by
        rw [Tryd.params4] at ht
        have hm : t ∈ [33, 9] := by simpa using Array.mem_of_getElem? ht
        have hall : ([33, 9].all fun u => !Tryd.prog.wantsStandIn u) = true := by kernel_rfl
        exact (show Tryd.prog.wantsStandIn t = false by simpa using List.all_eq_true.1 hall t hm)⟩)
    (by kernel_rfl)

end Go.Proofs.YtjcggcefmpaieaaDoor.lawReadPins
