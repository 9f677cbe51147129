/- The law FnExactReadList: the program's function answers as the reference's, for all arguments; the tied card. No condition. -/
import Derived.Test.YtjcggcefmpaieaaDoorS09
import Derived.Test.YtjcggcefmpaieaaDoorD02
import Derived.Test.YtjcggcefmpaieaaDoorLaws
import Derived.ChangeMaps5
import Derived.SevenTiedAt
import Derived.Test.YtjcggcefmpaieaaDoorCards
import Derived.Test.YtjcggcefmpaieaaDoorTie
set_option linter.unusedVariables false
namespace Go.Proofs
open Go.Sx Go.RowKit Go.Tx
abbrev laws_FnExactReadList_k0 (Post : Value → World → Prop) (x355 : Int) (x356 : Int) (w407 : World) : Prop :=
  (((x356 ≠ x355) → Post (Value.bool false) w407) ∧ (¬ (x356 ≠ x355) → Post (Value.bool true) w407))
abbrev laws_FnExactReadList_k1 (w : World) (Post : Value → World → Prop) (x296 : Value) (x298 : Int) (w346 : World) : Prop :=
  Calls Tryd.prog 37 #[x296, (Value.int .i64 1)] w346 (fun e347 w348 => ∃ n349 : Int, e347 = .returned (Value.int .i64 n349) ∧ Keeps w.heap.size [] w346 w348 ∧ (((n349 < (0 : Int)) → Post (Value.bool false) w348) ∧ (¬ (n349 < (0 : Int)) → (laws_FnExactReadList_k0 Post x298 n349 w348))))
abbrev laws_FnExactReadList_k2 (w : World) (Post : Value → World → Prop) (x143 : Int) (n183 : Int) (x242 : Value) (x244 : Int) (w292 : World) : Prop :=
  (((n183 ≠ x143) → Post (Value.bool false) w292) ∧ (¬ (n183 ≠ x143) → (laws_FnExactReadList_k1 w Post x242 x244 w292)))
abbrev laws_FnExactReadList_k3 (w : World) (Post : Value → World → Prop) (x141 : ByteArray) (x142 : Value) (x143 : Int) (x144 : Value) (x146 : Int) (w179 : World) : Prop :=
  Calls Tryd.prog 15 #[(Value.string x141)] w179 (fun e180 w181 => ∃ u182 : Value, ∃ n183 : Int, e180 = .returned (Value.tuple #[u182, (Value.int .i64 n183)]) ∧ Keeps w.heap.size [] w179 w181 ∧ Calls Tryd.prog 25 #[u182, x142] w181 (fun e184 w185 => ∃ b186 : Bool, e184 = .returned (Value.bool b186) ∧ Keeps w.heap.size [] w181 w185 ∧ (((!b186) = true → Post (Value.bool false) w185) ∧ ((!b186) = false → (laws_FnExactReadList_k2 w Post x143 n183 x144 x146 w185)))))
abbrev laws_FnExactReadList_k4 (w : World) (Post : Value → World → Prop) (x104 : ByteArray) (x105 : Value) (x106 : Int) (x107 : Value) (x109 : Int) (x110 : Int) (w140 : World) : Prop :=
  (((x110 ≠ x109) → Post (Value.bool false) w140) ∧ (¬ (x110 ≠ x109) → (laws_FnExactReadList_k3 w Post x104 x105 x106 x107 x109 w140)))
abbrev laws_FnExactReadList_k5 (w : World) (Post : Value → World → Prop) (x70 : ByteArray) (x71 : Value) (x72 : Int) (x73 : Value) (w97 : World) : Prop :=
  Calls Tryd.prog 36 #[x73, (Value.int .i64 1)] w97 (fun e98 w99 => ∃ n100 : Int, e98 = .returned (Value.int .i64 n100) ∧ Keeps w.heap.size [] w97 w99 ∧ Calls Tryd.prog 37 #[x73, (Value.int .i64 1)] w99 (fun e101 w102 => ∃ n103 : Int, e101 = .returned (Value.int .i64 n103) ∧ Keeps w.heap.size [] w99 w102 ∧ (((n103 < (0 : Int)) → Post (Value.bool false) w102) ∧ (¬ (n103 < (0 : Int)) → (laws_FnExactReadList_k4 w Post x70 x71 x72 x73 n100 n103 w102)))))
abbrev laws_FnExactReadList_k6 (w : World) (Post : Value → World → Prop) (n8 : Int) (n12 : Int) (x42 : ByteArray) (x43 : Value) (x44 : Int) (x45 : Value) (w69 : World) : Prop :=
  (((n12 ≠ n8) → Post (Value.bool false) w69) ∧ (¬ (n12 ≠ n8) → (laws_FnExactReadList_k5 w Post x42 x43 x44 x45 w69)))
abbrev laws_FnExactReadList_k7 (w : World) (Post : Value → World → Prop) (x1 : ByteArray) (w4 : World) : Prop :=
  Calls Tryd.prog 16 #[(Value.string x1)] w4 (fun e5 w6 => ∃ u7 : Value, ∃ n8 : Int, e5 = .returned (Value.tuple #[u7, (Value.int .i64 n8)]) ∧ Keeps w.heap.size [] w4 w6 ∧ Calls Tryd.prog 15 #[(Value.string x1)] w6 (fun e9 w10 => ∃ u11 : Value, ∃ n12 : Int, e9 = .returned (Value.tuple #[u11, (Value.int .i64 n12)]) ∧ Keeps w.heap.size [] w6 w10 ∧ Calls Tryd.prog 25 #[u11, u7] w10 (fun e13 w14 => ∃ b15 : Bool, e13 = .returned (Value.bool b15) ∧ Keeps w.heap.size [] w10 w14 ∧ (((!b15) = true → Post (Value.bool false) w14) ∧ ((!b15) = false → (laws_FnExactReadList_k6 w Post n8 n12 x1 u7 n8 u11 w14))))))
def laws_FnExactReadList_vc (t : ByteArray) (w : World) (Post : Value → World → Prop) : Prop :=
  ((((1048576 : Int) < (t.size : Int)) → Post (Value.bool true) w) ∧ (¬ ((1048576 : Int) < (t.size : Int)) → (laws_FnExactReadList_k7 w Post t w)))
theorem laws_FnExactReadList_eq (t : ByteArray) (w : World) (Post : Value → World → Prop) : denF Tryd.prog [] noAnn 9 [(Value.string t)] w Post = laws_FnExactReadList_vc t w Post := by kernel_rfl
set_option maxRecDepth 100000 in
theorem laws_FnExactReadList_calls (t : ByteArray) (w : World) (Post : Value → World → Prop) (hvc : laws_FnExactReadList_vc t w Post) : Ret Tryd.prog 9 #[(Value.string t)] w Post :=
  Ret.of (denF_sound mixed (Eq.mpr (laws_FnExactReadList_eq t w Post) hvc))

end Go.Proofs
namespace Go.Proofs.YtjcggcefmpaieaaDoor.lawReadList
open Go.Proofs Go.Sx Go.RowKit Go.ChangeShapes Go.WideShapes Go.ChangeAt Go.Joins Go.Tx Go.Proofs.YtjcggcefmpaieaaDoor
theorem walk (t : ByteArray) (w : World) (hg : Gs w) : Val Tryd.prog 9 #[.string t] w (.bool true) := by
  obtain ⟨q, rfl⟩ : ∃ q : List UInt8, t = ⟨q.toArray⟩ := ⟨t.data.toList, (ba_eta t).symm⟩
  have hqs := ba_size q
  exact Ret.val (laws_FnExactReadList_calls ⟨q.toArray⟩ w _ (by
    unfold laws_FnExactReadList_vc
    have hz := readL_len q
    refine ⟨fun h => ⟨rfl, .refl w⟩, fun hlt => ?_⟩
    have hq : q.length ≤ 1048576 := by omega
    refine (spec_ReadList_ret q w hq).call ?_
    rintro _ w3 ⟨a, rfl, oa3, h3⟩
    refine ⟨a, _, rfl, h3.keeps, ?_⟩
    have k3 := h3
    refine (impl_ReadList_ret q w3 hq (hg.ext k3)).call ?_
    rintro _ w5 ⟨b, rfl, ob5, h5⟩
    refine ⟨b, _, rfl, h5.keeps, ?_⟩
    have k5 := k3.trans h5
    have ap_a_b := Apart.new oa3 ob5
    have oa5 := oa3.ext h5
    have b_b : w.heap.size ≤ w3.heap.size := k3.size
    refine eq_same ob5.rd oa5.rd fun w6 h6 => ⟨true, rfl, h6.keeps, fun h => (by cases h), fun _ => ?_⟩
    have k6 := k5.trans h6
    have oa6 := oa5.ext h6
    have ob6 := ob5.ext h6
    refine ⟨fun h => absurd rfl h, fun _ => ?_⟩
    refine (laws_markInt64S_ret b 1 _ _ w6 ob6 (by decide) (by simp; omega)).call ?_
    rintro _ w7 ⟨rfl, mb7, g7⟩
    refine ⟨_, rfl, ob6.keepsG g7 (by decide), ?_⟩
    have k7 := k6.grown ob6 b_b g7
    have oa7 := oa6.grown g7 ap_a_b
    refine (laws_heldInt64S_val b 1 _ w7 mb7.rd (by decide) (by simp; omega)).call fun w8 h8 => ⟨_, rfl, h8.keeps, fun h => absurd h (by omega), fun _ => ⟨fun h => absurd rfl h, fun _ => ?_⟩⟩
    have k8 := k7.trans h8
    have oa8 := oa7.ext h8
    have ob8 := mb7.ext h8
    refine (impl_ReadList_ret q w8 hq (hg.ext k8)).call ?_
    rintro _ w10 ⟨e, rfl, oe10, h10⟩
    refine ⟨e, _, rfl, h10.keeps, ?_⟩
    have k10 := k8.trans h10
    have oa10 := oa8.ext h10
    have ob10 := ob8.ext h10
    refine eq_same oe10.rd oa10.rd fun w11 h11 => ⟨true, rfl, h11.keeps, fun h => (by cases h), fun _ => ?_⟩
    have k11 := k10.trans h11
    have ob11 := ob10.ext h11
    refine ⟨fun h => absurd rfl h, fun _ => ?_⟩
    refine (laws_heldInt64S_val b 1 _ w11 ob11.rd (by decide) (by simp; omega)).call fun w12 h12 => ⟨_, rfl, h12.keeps, fun h => absurd h (by omega), fun _ => ⟨fun h => absurd rfl h, fun _ => ?_⟩⟩
    have k12 := k11.trans h12
    exact ⟨rfl, k12⟩))
set_option linter.unusedSimpArgs false in
theorem readable : ∀ t ∈ Tryd.f9.params.toList, Tryd.prog.readableRec t = true ∧ t < Tryd.prog.types.size := by
  rw [Tryd.params9]
  simp only [List.mem_cons, List.not_mem_nil, or_false, forall_eq_or_imp, forall_eq]
  exact ⟨by kernel_rfl, of_decide_eq_true (by kernel_rfl)⟩

set_option maxRecDepth 100000 in
theorem lifted (os : Os) (started : os.Started) (H : Type) (enc : TypeId × Value → H) :
    ReturnsInHanded {} Tryd.checked os 9 .any (fun w args => (Rows.fnExactReadListSpec.pre enc Tryd.prog Tryd.f9 [] false w args ∧ laidMetH Tryd.prog tabs7 w) ∧ sizedMet enc Tryd.prog Tryd.f9 (OpenSpec.ofChange Rows.fnExactReadListSpec) false w args)
      (Rows.fnExactReadListSpec.post enc Tryd.prog Tryd.f9 false true false false) := by
  refine returnsInHanded_both (C := Tryd.checked) (X := fun w _ => laidMetH Tryd.prog tabs7 w) (fun _ _ _ hh h => h.of_heap hh) ownKnobNone started (by kernel_rfl) Tryd.func9
    (ChangeSpec.witness_shaped (enc := enc) (C := Tryd.checked) (os := os) (X := fun w _ => laidMetH Tryd.prog tabs7 w) false (World.laidAll Tryd.prog os tabs7) #[.string ByteArray.empty] 8 (World.laidAll_os _ _ _) (door_shaped7 os) (by kernel_rfl) (by kernel_rfl) (by kernel_rfl) (door_met7 os _)) ?_
  intro W base args ds gs before hval0 hW hL hsh
  have hval : ∀ (j : Nat) t v, Tryd.f9.params[j]? = some t → args[j]? = some v → Value.okWide Tryd.prog W .any base t v := hval0
  have hW' := hW
  obtain ⟨p, q, hA0, hV, rfl, hfz, hnd⟩ := hW
  have hA1 : DataW.TrodAll enc Tryd.prog W 0 (fun _ => true) true Tryd.f9.params.toList args.toList ds p := hA0
  have hA := hA1
  rw [Tryd.params9] at hA hval
  obtain ⟨v0, vs0, d0, ds0, p0, q0, hargs, rfl, rfl, h0, r0⟩ := trodAll_cons hA
  obtain ⟨rfl, rfl, rfl⟩ := trodAll_nil r0
  obtain rfl : args = #[v0] := by cases args; simp_all
  obtain ⟨rfl, rfl⟩ := trodVars_none hV
  obtain ⟨t0, rfl, rfl, rfl, hs0⟩ := Go.ChangeMaps.open_string Tryd.underlying9 (hval 0 9 v0 rfl rfl) h0
  clear hA0 hval0
  have hgl := gs_of_laid hL hsh
  refine (Val.calls (walk t0 W  hgl)).mono fun e W' ⟨he, hg⟩ => ?_
  subst he
  exact ⟨_, rfl, law_post laidOut readable hW' hA1 Tryd.underlying4 rfl rfl rfl hg⟩

/-- the row's statement -/
theorem row : Rows.FnExactReadListSaid :=
  OpenClaim.holds_of_wide 9 Tryd.f9 rfl rfl rfl rfl rfl rfl rfl ⟨rfl, rfl, rfl, rfl, rfl⟩ rfl rfl rfl rfl rfl (by kernel_rfl) Tryd.func9 (by kernel_rfl)
    (of_decide_eq_true (by kernel_rfl)) (by unfold Func.isWrapper; first | (rw [if_pos (by decide +kernel)]; kernel_rfl) | (rw [if_neg (by decide +kernel)]; exact ⟨rfl, rfl⟩))
    (fun os started H enc _ => lifted os started H enc)

theorem proved : Rows.FnExactReadListCardSaid :=
  Claim7.holds_tied_plain_at .later [] [.data, .data, .data, .data, .sentinel, .sentinel, .pinned] true (true, "5656281482df4c57e3eb81375a1872ce469613685fa4d7162dd797169a2d4b30") true
    row (fun _ h => by cases h) (by kernel_rfl) (fun _ h => by cases h) fnExactReadList_row_tie rfl ⟨rfl, rfl⟩ (by kernel_rfl) rfl
    (fun f fn hf hfn => by
      obtain rfl : f = 9 := Option.some.inj ((show Tryd.prog.funcNamed "loop.example/g00947/laws.FnExactReadList" = some 9 by kernel_rfl).symm.trans hf) |>.symm
      obtain rfl : fn = Tryd.f9 := (Option.some.inj (Tryd.func9.symm.trans hfn)).symm
      exact ⟨by kernel_rfl, fun j t ht => by
        rw [Tryd.params9] at ht
        have hm : t ∈ [9] := by simpa using Array.mem_of_getElem? ht
        have hall : ([9].all fun u => !Tryd.prog.wantsStandIn u) = true := by kernel_rfl
        exact (show Tryd.prog.wantsStandIn t = false by simpa using List.all_eq_true.1 hall t hm)⟩)
    (by kernel_rfl)

end Go.Proofs.YtjcggcefmpaieaaDoor.lawReadList
