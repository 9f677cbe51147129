/- The law FnExactListText: the program's function answers as the reference's, for all arguments; the tied card. No condition. -/
import Derived.Test.YtjcggcefmpaieaaDoorS05
import Derived.Test.YtjcggcefmpaieaaDoorD01
import Derived.Test.YtjcggcefmpaieaaDoorLaws
import Derived.SevenTiedAt
import Derived.Test.YtjcggcefmpaieaaDoorCards
import Derived.Test.YtjcggcefmpaieaaDoorTie
set_option linter.unusedVariables false
namespace Go.Proofs
open Go.Sx Go.RowKit Go.Tx
abbrev laws_FnExactListText_k0 (w : World) (Post : Value → World → Prop) (x80 : Value) (x83 : Value) (w110 : World) : Prop :=
  Calls Tryd.prog 24 #[x80] w110 (fun e111 w112 => ∃ u113 : Value, e111 = .returned u113 ∧ Keeps w.heap.size [] w110 w112 ∧ Calls Tryd.prog 25 #[x83, u113] w112 (fun e114 w115 => ∃ b116 : Bool, e114 = .returned (Value.bool b116) ∧ Keeps w.heap.size [] w112 w115 ∧ (((!b116) = true → Post (Value.bool false) w115) ∧ ((!b116) = false → Post (Value.bool true) w115))))
abbrev laws_FnExactListText_k1 (w : World) (Post : Value → World → Prop) (n12 : Int) (n19 : Int) (x49 : Value) (x52 : Value) (w79 : World) : Prop :=
  (((n19 ≠ n12) → Post (Value.bool false) w79) ∧ (¬ (n19 ≠ n12) → (laws_FnExactListText_k0 w Post x49 x52 w79)))
abbrev laws_FnExactListText_k2 (w : World) (Post : Value → World → Prop) (x2 : Value) (w5 : World) : Prop :=
  Calls Tryd.prog 24 #[x2] w5 (fun e6 w7 => ∃ u8 : Value, e6 = .returned u8 ∧ Keeps w.heap.size [] w5 w7 ∧ Calls Tryd.prog 13 #[u8] w7 (fun e9 w10 => ∃ s11 : ByteArray, ∃ n12 : Int, e9 = .returned (Value.tuple #[(Value.string s11), (Value.int .i64 n12)]) ∧ Keeps w.heap.size [] w7 w10 ∧ Calls Tryd.prog 24 #[x2] w10 (fun e13 w14 => ∃ u15 : Value, e13 = .returned u15 ∧ Keeps w.heap.size [] w10 w14 ∧ Calls Tryd.prog 12 #[u15] w14 (fun e16 w17 => ∃ s18 : ByteArray, ∃ n19 : Int, e16 = .returned (Value.tuple #[(Value.string s18), (Value.int .i64 n19)]) ∧ Keeps w.heap.size [] w14 w17 ∧ (((!(s18.toList == s11.toList)) = true → Post (Value.bool false) w17) ∧ ((!(s18.toList == s11.toList)) = false → (laws_FnExactListText_k1 w Post n12 n19 x2 u15 w17)))))))
def laws_FnExactListText_vc (v : Value) (w : World) (Post : Value → World → Prop) : Prop :=
  LenV v (fun n1 => ((((1048576 : Int) < n1) → Post (Value.bool true) w) ∧ (¬ ((1048576 : Int) < n1) → (laws_FnExactListText_k2 w Post v w))))
theorem laws_FnExactListText_eq (v : Value) (w : World) (Post : Value → World → Prop) : denF Tryd.prog [1000024] noAnn 5 [v] w Post = laws_FnExactListText_vc v w Post := by kernel_rfl
set_option maxRecDepth 100000 in
theorem laws_FnExactListText_calls (v : Value) (w : World) (Post : Value → World → Prop) (hvc : laws_FnExactListText_vc v w Post) : Ret Tryd.prog 5 #[v] w Post :=
  Ret.of (denF_sound mixed (Eq.mpr (laws_FnExactListText_eq v w Post) hvc))

end Go.Proofs
namespace Go.Proofs.YtjcggcefmpaieaaDoor.lawListText
open Go.Proofs Go.Sx Go.RowKit Go.ChangeShapes Go.WideShapes Go.ChangeAt Go.Joins Go.WideMaps Go.WideElems Go.Proofs.YtjcggcefmpaieaaDoor
theorem walk (v : Value) (zv : List Int) (w : World) (hv : RI w v zv) (_ : ∀ z ∈ zv, (Lit.int .i64 z).wf = true) (hg : Gl w) : Val Tryd.prog 5 #[v] w (.bool true) :=
  Ret.val (laws_FnExactListText_calls v w _ (by
    unfold laws_FnExactListText_vc
    refine hv.len ⟨fun h => ⟨rfl, .refl w⟩, fun hlv => ?_⟩
    refine cp hv hlv fun a w1 oa h1 _ => ⟨_, rfl, h1.keeps, ?_⟩
    refine (spec_ListText_val a zv w1 oa.rd).call fun w2 h2 => ⟨_, _, rfl, h2.keeps, ?_⟩
    have k2 := h1.trans h2
    refine cp (hv.ext k2) hlv fun b w3 ob h3 _ => ⟨_, rfl, h3.keeps, ?_⟩
    have k3 := k2.trans h3
    refine (impl_ListText_val b zv w3 ob.rd (hg.ext k3)).call fun w4 h4 => ⟨_, _, rfl, h4.keeps, fun hf => absurd hf (by simp), fun _ => ⟨fun hn => absurd rfl hn, fun _ => ?_⟩⟩
    have k4 := k3.trans h4
    refine cp (hv.ext k4) hlv fun c w5 oc h5 _ => ⟨_, rfl, h5.keeps, ?_⟩
    have k5 := k4.trans h5
    refine eq_same ((ob.rd.ext h4).ext h5) oc.rd fun w6 h6 => ⟨true, rfl, h6.keeps, fun h => (by cases h), fun _ => ⟨rfl, k5.trans h6⟩⟩))
set_option linter.unusedSimpArgs false in
theorem readable : ∀ t ∈ Tryd.f5.params.toList, Tryd.prog.readableRec t = true ∧ t < Tryd.prog.types.size := by
  rw [Tryd.params5]
  simp only [List.mem_cons, List.not_mem_nil, or_false, forall_eq_or_imp, forall_eq]
  exact ⟨by kernel_rfl, of_decide_eq_true (by kernel_rfl)⟩

set_option maxRecDepth 100000 in
theorem lifted (os : Os) (started : os.Started) (H : Type) (enc : TypeId × Value → H) :
    ReturnsInHanded {} Tryd.checked os 5 .any (fun w args => (Rows.fnExactListTextSpec.pre enc Tryd.prog Tryd.f5 [] false w args ∧ laidMetH Tryd.prog tabs3 w) ∧ sizedMet enc Tryd.prog Tryd.f5 (OpenSpec.ofChange Rows.fnExactListTextSpec) false w args)
      (Rows.fnExactListTextSpec.post enc Tryd.prog Tryd.f5 false true false false) := by
  refine returnsInHanded_both (C := Tryd.checked) (X := fun w _ => laidMetH Tryd.prog tabs3 w) (fun _ _ _ hh h => h.of_heap hh) ownKnobNone started (by kernel_rfl) Tryd.func5
    (ChangeSpec.witness_shaped (enc := enc) (C := Tryd.checked) (os := os) (X := fun w _ => laidMetH Tryd.prog tabs3 w) false (World.doorLaid Tryd.prog 72 os) #[.slice none 0 0] 8 rfl (World.shaped_of_RefB (by kernel_rfl) (by kernel_rfl)) (by kernel_rfl) (by kernel_rfl) (by kernel_rfl) (door_met3 os _)) ?_
  intro W base args ds gs before hval0 hW hL hsh
  have hval : ∀ (j : Nat) t v, Tryd.f5.params[j]? = some t → args[j]? = some v → Value.okWide Tryd.prog W .any base t v := hval0
  have hW' := hW
  obtain ⟨p, q, hA0, hV, rfl, hfz, hnd⟩ := hW
  have hA1 : DataW.TrodAll enc Tryd.prog W 0 (fun _ => true) true Tryd.f5.params.toList args.toList ds p := hA0
  have hA := hA1
  rw [Tryd.params5] at hA hval
  obtain ⟨v0, vs0, d0, ds0, p0, q0, hargs, rfl, rfl, h0, r0⟩ := trodAll_cons hA
  obtain ⟨rfl, rfl, rfl⟩ := trodAll_nil r0
  obtain rfl : args = #[v0] := by cases args; simp_all
  obtain ⟨rfl, rfl⟩ := trodVars_none hV
  obtain ⟨z0, hz0, wz0⟩ := open_RI Tryd.underlying24 Tryd.underlying2 (by kernel_rfl) (hval 0 24 v0 rfl rfl) h0
  clear hA0 hval0
  have hgl := gl_of_laid3 hL
  refine (Val.calls (walk v0 z0 W hz0 wz0 hgl)).mono fun e W' ⟨he, hg⟩ => ?_
  subst he
  exact ⟨_, rfl, law_post laidOut readable hW' hA1 Tryd.underlying4 rfl rfl rfl hg⟩

/-- the row's statement -/
theorem row : Rows.FnExactListTextSaid :=
  OpenClaim.holds_of_wide 5 Tryd.f5 rfl rfl rfl rfl rfl rfl rfl ⟨rfl, rfl, rfl, rfl, rfl⟩ rfl rfl rfl rfl rfl (by kernel_rfl) Tryd.func5 (by kernel_rfl)
    (of_decide_eq_true (by kernel_rfl)) (by unfold Func.isWrapper; first | (rw [if_pos (by decide +kernel)]; kernel_rfl) | (rw [if_neg (by decide +kernel)]; exact ⟨rfl, rfl⟩))
    (fun os started H enc _ => lifted os started H enc)

theorem proved : Rows.FnExactListTextCardSaid :=
  Claim7.holds_tied_plain_at .later [] [.data, .data, .data] true (true, "5656281482df4c57e3eb81375a1872ce469613685fa4d7162dd797169a2d4b30") true
    row (fun _ h => by cases h) (by kernel_rfl) (fun _ h => by cases h) fnExactListText_row_tie rfl ⟨rfl, rfl⟩ (by kernel_rfl) rfl
    (fun f fn hf hfn => by
      obtain rfl : f = 5 := Option.some.inj ((show Tryd.prog.funcNamed "loop.example/g00947/laws.FnExactListText" = some 5 by kernel_rfl).symm.trans hf) |>.symm
      obtain rfl : fn = Tryd.f5 := (Option.some.inj (Tryd.func5.symm.trans hfn)).symm
      exact ⟨by kernel_rfl, fun j t ht => by
        rw [Tryd.params5] at ht
        have hm : t ∈ [24] := by simpa using Array.mem_of_getElem? ht
        have hall : ([24].all fun u => !Tryd.prog.wantsStandIn u) = true := by kernel_rfl
        exact (show Tryd.prog.wantsStandIn t = false by simpa using List.all_eq_true.1 hall t hm)⟩)
    (by kernel_rfl)

end Go.Proofs.YtjcggcefmpaieaaDoor.lawListText
