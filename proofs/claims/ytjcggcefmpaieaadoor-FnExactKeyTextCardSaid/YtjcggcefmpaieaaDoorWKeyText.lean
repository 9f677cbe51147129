/- The law FnExactKeyText: the program's function answers as the reference's, for all arguments; the tied card. No condition. -/
import Derived.Test.YtjcggcefmpaieaaDoorS06
import Derived.Test.YtjcggcefmpaieaaDoorD01
import Derived.Test.YtjcggcefmpaieaaDoorLaws
import Derived.SevenTiedAt
import Derived.Test.YtjcggcefmpaieaaDoorCards
import Derived.Test.YtjcggcefmpaieaaDoorTie
set_option linter.unusedVariables false
namespace Go.Proofs
open Go.Sx Go.RowKit Go.Tx
abbrev laws_FnExactKeyText_k0 (w : World) (Post : Value → World → Prop) (x170 : Value) (x173 : Value) (w225 : World) : Prop :=
  Calls Tryd.prog 24 #[x170] w225 (fun e226 w227 => ∃ u228 : Value, e226 = .returned u228 ∧ Keeps w.heap.size [33] w225 w227 ∧ Calls Tryd.prog 25 #[x173, u228] w227 (fun e229 w230 => ∃ b231 : Bool, e229 = .returned (Value.bool b231) ∧ Keeps w.heap.size [33] w227 w230 ∧ (((!b231) = true → Post (Value.bool false) w230) ∧ ((!b231) = false → Post (Value.bool true) w230))))
abbrev laws_FnExactKeyText_k1 (w : World) (Post : Value → World → Prop) (n30 : Int) (n44 : Int) (x109 : Value) (x112 : Value) (w164 : World) : Prop :=
  (((n44 ≠ n30) → Post (Value.bool false) w164) ∧ (¬ (n44 ≠ n30) → (laws_FnExactKeyText_k0 w Post x109 x112 w164)))
abbrev laws_FnExactKeyText_k2 (w : World) (Post : Value → World → Prop) (x8 : Value) (x11 : Int) (x12 : Int) (x13 : Int) (x14 : Int) (x15 : Int) (w16 : World) : Prop :=
  Calls Tryd.prog 19 #[(Value.agg #[(Value.int .i64 x11), (Value.int .i64 x12), (Value.int .i64 x13), (Value.int .i64 x14), (Value.int .i64 x15)])] w16 (fun e17 w18 => ∃ n19 : Int, ∃ n20 : Int, ∃ n21 : Int, ∃ n22 : Int, ∃ n23 : Int, e17 = .returned (Value.agg #[(Value.int .i64 n19), (Value.int .i64 n20), (Value.int .i64 n21), (Value.int .i64 n22), (Value.int .i64 n23)]) ∧ Keeps w.heap.size [33] w16 w18 ∧ Calls Tryd.prog 24 #[x8] w18 (fun e24 w25 => ∃ u26 : Value, e24 = .returned u26 ∧ Keeps w.heap.size [33] w18 w25 ∧ Calls Tryd.prog 26 #[(Value.agg #[(Value.int .i64 n19), (Value.int .i64 n20), (Value.int .i64 n21), (Value.int .i64 n22), (Value.int .i64 n23)]), u26] w25 (fun e27 w28 => ∃ s29 : ByteArray, ∃ n30 : Int, e27 = .returned (Value.tuple #[(Value.string s29), (Value.int .i64 n30)]) ∧ Keeps w.heap.size [33] w25 w28 ∧ Calls Tryd.prog 24 #[x8] w28 (fun e31 w32 => ∃ u33 : Value, e31 = .returned u33 ∧ Keeps w.heap.size [33] w28 w32 ∧ Calls Tryd.prog 19 #[(Value.agg #[(Value.int .i64 x11), (Value.int .i64 x12), (Value.int .i64 x13), (Value.int .i64 x14), (Value.int .i64 x15)])] w32 (fun e34 w35 => ∃ n36 : Int, ∃ n37 : Int, ∃ n38 : Int, ∃ n39 : Int, ∃ n40 : Int, e34 = .returned (Value.agg #[(Value.int .i64 n36), (Value.int .i64 n37), (Value.int .i64 n38), (Value.int .i64 n39), (Value.int .i64 n40)]) ∧ Keeps w.heap.size [33] w32 w35 ∧ Calls Tryd.prog 27 #[(Value.agg #[(Value.int .i64 n36), (Value.int .i64 n37), (Value.int .i64 n38), (Value.int .i64 n39), (Value.int .i64 n40)]), u33] w35 (fun e41 w42 => ∃ s43 : ByteArray, ∃ n44 : Int, e41 = .returned (Value.tuple #[(Value.string s43), (Value.int .i64 n44)]) ∧ Keeps w.heap.size [33] w35 w42 ∧ (((!(s43.toList == s29.toList)) = true → Post (Value.bool false) w42) ∧ ((!(s43.toList == s29.toList)) = false → (laws_FnExactKeyText_k1 w Post n30 n44 x8 u33 w42)))))))))
def laws_FnExactKeyText_vc (m_Chambers : Int) (m_Depths : Int) (m_Step : Int) (m_Same : Int) (m_Least : Int) (v : Value) (w : World) (Post : Value → World → Prop) : Prop :=
  ∀ w1 : World, Ext w w1 → LenV v (fun n2 => ((((1048576 : Int) < n2) → Post (Value.bool true) w1) ∧ (¬ ((1048576 : Int) < n2) → (laws_FnExactKeyText_k2 w Post v m_Chambers m_Depths m_Step m_Same m_Least w1))))
theorem laws_FnExactKeyText_eq (m_Chambers : Int) (m_Depths : Int) (m_Step : Int) (m_Same : Int) (m_Least : Int) (v : Value) (w : World) (Post : Value → World → Prop) : denF Tryd.prog [1000024] noAnn 6 [(Value.agg #[(Value.int .i64 m_Chambers), (Value.int .i64 m_Depths), (Value.int .i64 m_Step), (Value.int .i64 m_Same), (Value.int .i64 m_Least)]), v] w Post = laws_FnExactKeyText_vc m_Chambers m_Depths m_Step m_Same m_Least v w Post := by kernel_rfl
set_option maxRecDepth 100000 in
theorem laws_FnExactKeyText_calls (m_Chambers : Int) (m_Depths : Int) (m_Step : Int) (m_Same : Int) (m_Least : Int) (v : Value) (w : World) (Post : Value → World → Prop) (hvc : laws_FnExactKeyText_vc m_Chambers m_Depths m_Step m_Same m_Least v w Post) : Ret Tryd.prog 6 #[(Value.agg #[(Value.int .i64 m_Chambers), (Value.int .i64 m_Depths), (Value.int .i64 m_Step), (Value.int .i64 m_Same), (Value.int .i64 m_Least)]), v] w Post :=
  Ret.of (denF_sound mixed (Eq.mpr (laws_FnExactKeyText_eq m_Chambers m_Depths m_Step m_Same m_Least v w Post) hvc))

end Go.Proofs
namespace Go.Proofs.YtjcggcefmpaieaaDoor.lawKeyText
open Go.Proofs Go.Sx Go.RowKit Go.ChangeShapes Go.WideShapes Go.ChangeAt Go.Joins Go.WideMaps Go.WideElems Go.Proofs.YtjcggcefmpaieaaDoor
theorem walk (c : Int) (_ : (Lit.int .i64 c).wf = true) (d : Int) (_ : (Lit.int .i64 d).wf = true) (s : Int) (_ : (Lit.int .i64 s).wf = true) (m : Int) (_ : (Lit.int .i64 m).wf = true) (l : Int) (_ : (Lit.int .i64 l).wf = true) (v : Value) (zv : List Int) (w : World) (hv : RI w v zv) (_ : ∀ z ∈ zv, (Lit.int .i64 z).wf = true) (hg : Gl w) : Val Tryd.prog 6 #[mkV c d s m l, v] w (.bool true) :=
  Ret.val (laws_FnExactKeyText_calls c d s m l v w _ (by
    unfold laws_FnExactKeyText_vc
    intro w0 h0
    refine (hv.ext h0).len ⟨fun h => ⟨rfl, h0⟩, fun hlv => ?_⟩
    refine (laws_toMaker_val ..).call fun w1 h1 => ⟨_, _, _, _, _, rfl, h1.keeps, ?_⟩
    have k1 := h0.trans h1
    refine cp (hv.ext k1) hlv fun a w2 oa h2 _ => ⟨_, rfl, h2.keeps, ?_⟩
    have k2 := k1.trans h2
    refine (spec_KeyText_val ⟨c, d, s, m, l⟩ a zv w2 oa.rd).call fun w3 h3 => ⟨_, _, rfl, h3.keeps, ?_⟩
    have k3 := k2.trans h3
    refine cp (hv.ext k3) hlv fun b w4 ob h4 _ => ⟨_, rfl, h4.keeps, ?_⟩
    have k4 := k3.trans h4
    refine (laws_toMaker_val ..).call fun w5 h5 => ⟨_, _, _, _, _, rfl, h5.keeps, ?_⟩
    have k5 := k4.trans h5
    refine (impl_KeyText_val ⟨c, d, s, m, l⟩ b zv w5 (ob.rd.ext h5) (hg.ext k5)).call fun w6 h6 => ⟨_, _, rfl, h6.keeps, fun hf => absurd hf (by simp), fun _ => ⟨fun hn => absurd rfl hn, fun _ => ?_⟩⟩
    have k6 := k5.trans h6
    refine cp (hv.ext k6) hlv fun e w7 oe h7 _ => ⟨_, rfl, h7.keeps, ?_⟩
    have k7 := k6.trans h7
    refine eq_same (((ob.rd.ext h5).ext h6).ext h7) oe.rd fun w8 h8 => ⟨true, rfl, h8.keeps, fun h => (by cases h), fun _ => ⟨rfl, k7.trans h8⟩⟩))
set_option linter.unusedSimpArgs false in
theorem readable : ∀ t ∈ Tryd.f6.params.toList, Tryd.prog.readableRec t = true ∧ t < Tryd.prog.types.size := by
  rw [Tryd.params6]
  simp only [List.mem_cons, List.not_mem_nil, or_false, forall_eq_or_imp, forall_eq]
  exact ⟨⟨by kernel_rfl, of_decide_eq_true (by kernel_rfl)⟩, ⟨by kernel_rfl, of_decide_eq_true (by kernel_rfl)⟩⟩

set_option maxRecDepth 100000 in
theorem lifted (os : Os) (started : os.Started) (H : Type) (enc : TypeId × Value → H) :
    ReturnsInHanded {} Tryd.checked os 6 .any (fun w args => (Rows.fnExactKeyTextSpec.pre enc Tryd.prog Tryd.f6 [] false w args ∧ laidMetH Tryd.prog tabs3 w) ∧ sizedMet enc Tryd.prog Tryd.f6 (OpenSpec.ofChange Rows.fnExactKeyTextSpec) false w args)
      (Rows.fnExactKeyTextSpec.post enc Tryd.prog Tryd.f6 false true false false) := by
  refine returnsInHanded_both (C := Tryd.checked) (X := fun w _ => laidMetH Tryd.prog tabs3 w) (fun _ _ _ hh h => h.of_heap hh) ownKnobNone started (by kernel_rfl) Tryd.func6
    (ChangeSpec.witness_shaped (enc := enc) (C := Tryd.checked) (os := os) (X := fun w _ => laidMetH Tryd.prog tabs3 w) false (World.doorLaid Tryd.prog 72 os) #[.agg #[.int .i64 0, .int .i64 0, .int .i64 0, .int .i64 0, .int .i64 0], .slice none 0 0] 8 rfl (World.shaped_of_RefB (by kernel_rfl) (by kernel_rfl)) (by kernel_rfl) (by kernel_rfl) (by kernel_rfl) (door_met3 os _)) ?_
  intro W base args ds gs before hval0 hW hL hsh
  have hval : ∀ (j : Nat) t v, Tryd.f6.params[j]? = some t → args[j]? = some v → Value.okWide Tryd.prog W .any base t v := hval0
  have hW' := hW
  obtain ⟨p, q, hA0, hV, rfl, hfz, hnd⟩ := hW
  have hA1 : DataW.TrodAll enc Tryd.prog W 0 (fun _ => true) true Tryd.f6.params.toList args.toList ds p := hA0
  have hA := hA1
  rw [Tryd.params6] at hA hval
  obtain ⟨v0, vs0, d0, ds0, p0, q0, hargs, rfl, rfl, h0, r0⟩ := trodAll_cons hA
  obtain ⟨v1, vs1, d1, ds1, p1, q1, rfl, rfl, rfl, h1, r1⟩ := trodAll_cons r0
  obtain ⟨rfl, rfl, rfl⟩ := trodAll_nil r1
  obtain rfl : args = #[v0, v1] := by cases args; simp_all
  obtain ⟨rfl, rfl⟩ := trodVars_none hV
  obtain ⟨v0_0, v0_1, v0_2, v0_3, v0_4, y0_0, y0_1, y0_2, y0_3, y0_4, m0, rfl, rfl, rfl, g0_0, g0_1, g0_2, g0_3, g0_4⟩ := open_agg5 Tryd.underlying33 (by kernel_rfl) (by kernel_rfl) (hval 0 33 v0 rfl rfl) h0
  obtain ⟨a0_0, e0_0, rfl, w0_0⟩ := DataW.trod_int Tryd.underlying2 g0_0
  simp only [List.cons.injEq, and_true] at e0_0
  subst e0_0
  obtain ⟨a0_1, e0_1, rfl, w0_1⟩ := DataW.trod_int Tryd.underlying2 g0_1
  simp only [List.cons.injEq, and_true] at e0_1
  subst e0_1
  obtain ⟨a0_2, e0_2, rfl, w0_2⟩ := DataW.trod_int Tryd.underlying2 g0_2
  simp only [List.cons.injEq, and_true] at e0_2
  subst e0_2
  obtain ⟨a0_3, e0_3, rfl, w0_3⟩ := DataW.trod_int Tryd.underlying2 g0_3
  simp only [List.cons.injEq, and_true] at e0_3
  subst e0_3
  obtain ⟨a0_4, e0_4, rfl, w0_4⟩ := DataW.trod_int Tryd.underlying2 g0_4
  simp only [List.cons.injEq, and_true] at e0_4
  subst e0_4
  obtain ⟨z1, hz1, wz1⟩ := open_RI Tryd.underlying24 Tryd.underlying2 (by kernel_rfl) (hval 1 24 v1 rfl rfl) h1
  clear hA0 hval0
  have hgl := gl_of_laid3 hL
  refine (Val.calls (walk a0_0 w0_0 a0_1 w0_1 a0_2 w0_2 a0_3 w0_3 a0_4 w0_4 v1 z1 W hz1 wz1 hgl)).mono fun e W' ⟨he, hg⟩ => ?_
  subst he
  exact ⟨_, rfl, law_post laidOut readable hW' hA1 Tryd.underlying4 rfl rfl rfl hg⟩

/-- the row's statement -/
theorem row : Rows.FnExactKeyTextSaid :=
  OpenClaim.holds_of_wide 6 Tryd.f6 rfl rfl rfl rfl rfl rfl rfl ⟨rfl, rfl, rfl, rfl, rfl⟩ rfl rfl rfl rfl rfl (by kernel_rfl) Tryd.func6 (by kernel_rfl)
    (of_decide_eq_true (by kernel_rfl)) (by unfold Func.isWrapper; first | (rw [if_pos (by decide +kernel)]; kernel_rfl) | (rw [if_neg (by decide +kernel)]; exact ⟨rfl, rfl⟩))
    (fun os started H enc _ => lifted os started H enc)

theorem proved : Rows.FnExactKeyTextCardSaid :=
  Claim7.holds_tied_plain_at .later [] [.data, .data, .data] true (true, "5656281482df4c57e3eb81375a1872ce469613685fa4d7162dd797169a2d4b30") true
    row (fun _ h => by cases h) (by kernel_rfl) (fun _ h => by cases h) fnExactKeyText_row_tie rfl ⟨rfl, rfl⟩ (by kernel_rfl) rfl
    (fun f fn hf hfn => by
      obtain rfl : f = 6 := Option.some.inj ((show Tryd.prog.funcNamed "loop.example/g00947/laws.FnExactKeyText" = some 6 by kernel_rfl).symm.trans hf) |>.symm
      obtain rfl : fn = Tryd.f6 := (Option.some.inj (Tryd.func6.symm.trans hfn)).symm
      exact ⟨by kernel_rfl, fun j t ht => by
        rw [Tryd.params6] at ht
        have hm : t ∈ [33, 24] := by simpa using Array.mem_of_getElem? ht
        have hall : ([33, 24].all fun u => !Tryd.prog.wantsStandIn u) = true := by kernel_rfl
        exact (show Tryd.prog.wantsStandIn t = false by simpa using List.all_eq_true.1 hall t hm)⟩)
    (by kernel_rfl)

end Go.Proofs.YtjcggcefmpaieaaDoor.lawKeyText
