/- The law FnLists: a list is recovered from its text, and a text from its list; the tied card. No condition. -/
import Derived.Test.YtjcggcefmpaieaaDoorS12
import Derived.Test.YtjcggcefmpaieaaDoorD02
import Derived.Test.YtjcggcefmpaieaaDoorLawsB
import Derived.SevenTiedAt
import Derived.Test.YtjcggcefmpaieaaDoorCards
import Derived.Test.YtjcggcefmpaieaaDoorTie
set_option linter.unusedVariables false
namespace Go.Proofs
open Go.Sx Go.RowKit Go.Tx
theorem itoa_no44 (z : Int) : (44 : UInt8) ∉ Lib.itoa z := by
  intro h
  rcases itoa_chars z 44 h with h | h
  · exact absurd h (by decide)
  · exact absurd h.1 (by decide)
/-- the text of a list that was read is the text -/
theorem read_text {l : List UInt8} (h : readC l = 0) : listC (readL l) = 0 ∧ listT (readL l) = l := by
  unfold readC at h
  cases ho : listO l with
  | none => rw [ho] at h; simp at h
  | some zs =>
    have hn := listO_nums ho
    have e : readL l = zs := by unfold readL; rw [ho]; rfl
    rw [e]
    unfold listC listT
    rw [if_pos hn, if_pos hn]
    refine ⟨rfl, ?_⟩
    unfold listO at ho
    split at ho
    · rename_i h45
      injection ho with ho
      subst ho
      rw [h45]
      rfl
    · split at ho
      · rename_i ys hy
        split at ho
        · injection ho with ho
          subst ho
          have hc := (rds_some hy).1
          have hne : ys ≠ [] := fun e => cutAt_ne 44 l (by rw [hc, e]; rfl)
          unfold textL
          rw [if_neg hne, ← hc]
          exact join_cut 44 l
        · cases ho
      · cases ho
/-- the list of a text is the list -/
theorem text_read {zs : List Int} (h : listC zs = 0) : readC (listT zs) = 0 ∧ readL (listT zs) = zs := by
  have hn : Nums zs := Classical.byContradiction fun hn => by
    unfold listC at h
    rw [if_neg hn] at h
    exact absurd h (by decide)
  have key : listO (listT zs) = some zs := by
    unfold listT
    rw [if_pos hn]
    by_cases hz : zs = []
    · subst hz
      unfold textL listO
      rw [if_pos rfl, if_pos rfl]
    · unfold textL
      rw [if_neg hz]
      have hj : Lib.join (zs.map Lib.itoa) [44] ≠ [45] := by
        match zs, hz with
        | z :: r, _ =>
          have h0 := (hn.2 z (by simp)).1
          have hd := dd_digits z.toNat
          have hne := dd_ne z.toNat
          rw [List.map_cons, Lib.join_cons, itoa_pos h0]
          match hdd : Lib.decDigits z.toNat, hne with
          | c :: cs, _ =>
            have hc := hd c (by rw [hdd]; simp)
            intro he
            rw [List.cons_append] at he
            have := (List.cons.inj he).1
            subst this
            exact absurd hc.1 (by decide)
      unfold listO
      rw [if_neg hj, cut_join (by simpa using hz) (fun x hx => by
        obtain ⟨z, _, rfl⟩ := List.mem_map.1 hx
        exact itoa_no44 z), rds_map (fun z hz => by
        have := hn.2 z hz
        simp only [Mx] at this
        unfold I64
        omega)]
      simp only
      rw [if_pos hn]
  unfold readC readL
  rw [key]
  exact ⟨rfl, rfl⟩
abbrev laws_FnLists_k0 (w : World) (Post : Value → World → Prop) (x422 : Value) (x423 : ByteArray) (w495 : World) : Prop :=
  Calls Tryd.prog 15 #[(Value.string x423)] w495 (fun e496 w497 => ∃ u498 : Value, ∃ n499 : Int, e496 = .returned (Value.tuple #[u498, (Value.int .i64 n499)]) ∧ Keeps w.heap.size [] w495 w497 ∧ (((n499 = (0 : Int)) → Calls Tryd.prog 17 #[u498, x422] w497 (fun e500 w501 => ∃ b502 : Bool, e500 = .returned (Value.bool b502) ∧ Keeps w.heap.size [] w497 w501 ∧ Post (Value.bool b502) w501)) ∧ (¬ (n499 = (0 : Int)) → Post (Value.bool false) w497)))
abbrev laws_FnLists_k1 (w : World) (Post : Value → World → Prop) (x348 : Value) (x349 : ByteArray) (x350 : Int) (w420 : World) : Prop :=
  (((x350 ≠ (0 : Int)) → Post (Value.bool true) w420) ∧ (¬ (x350 ≠ (0 : Int)) → (laws_FnLists_k0 w Post x348 x349 w420)))
abbrev laws_FnLists_k2 (w : World) (Post : Value → World → Prop) (x274 : Value) (x275 : ByteArray) (x276 : Int) (x345 : Bool) (w346 : World) : Prop :=
  ((x345 = true → Post (Value.bool false) w346) ∧ (x345 = false → (laws_FnLists_k1 w Post x274 x275 x276 w346)))
abbrev laws_FnLists_k3 (w : World) (Post : Value → World → Prop) (x141 : Value) (x142 : ByteArray) (x143 : Int) (x146 : ByteArray) (x147 : Value) (x148 : Int) (w198 : World) : Prop :=
  (((x148 = (0 : Int)) → Calls Tryd.prog 12 #[x147] w198 (fun e199 w200 => ∃ s201 : ByteArray, ∃ n202 : Int, e199 = .returned (Value.tuple #[(Value.string s201), (Value.int .i64 n202)]) ∧ Keeps w.heap.size [] w198 w200 ∧ (((n202 ≠ (0 : Int)) → Post (Value.bool false) w200) ∧ (¬ (n202 ≠ (0 : Int)) → (laws_FnLists_k2 w Post x141 x142 x143 (!(s201.toList == x146.toList)) w200))))) ∧ (¬ (x148 = (0 : Int)) → (laws_FnLists_k1 w Post x141 x142 x143 w198)))
abbrev laws_FnLists_k4 (w : World) (Post : Value → World → Prop) (x82 : Value) (x83 : ByteArray) (x84 : Int) (x87 : ByteArray) (x88 : Value) (x89 : Int) (x138 : Bool) (w139 : World) : Prop :=
  ((x138 = true → Post (Value.bool false) w139) ∧ (x138 = false → (laws_FnLists_k3 w Post x82 x83 x84 x87 x88 x89 w139)))
abbrev laws_FnLists_k5 (w : World) (Post : Value → World → Prop) (x4 : Value) (w7 : World) : Prop :=
  Calls Tryd.prog 11 #[x4] w7 (fun e8 w9 => ∃ u10 : Value, e8 = .returned u10 ∧ Keeps w.heap.size [] w7 w9 ∧ Calls Tryd.prog 12 #[u10] w9 (fun e11 w12 => ∃ s13 : ByteArray, ∃ n14 : Int, e11 = .returned (Value.tuple #[(Value.string s13), (Value.int .i64 n14)]) ∧ Keeps w.heap.size [] w9 w12 ∧ Calls Tryd.prog 13 #[u10] w12 (fun e15 w16 => ∃ s17 : ByteArray, ∃ n18 : Int, e15 = .returned (Value.tuple #[(Value.string s17), (Value.int .i64 n18)]) ∧ Keeps w.heap.size [] w12 w16 ∧ Calls Tryd.prog 14 #[x4] w16 (fun e19 w20 => ∃ s21 : ByteArray, e19 = .returned (Value.string s21) ∧ Keeps w.heap.size [] w16 w20 ∧ Calls Tryd.prog 15 #[(Value.string s21)] w20 (fun e22 w23 => ∃ u24 : Value, ∃ n25 : Int, e22 = .returned (Value.tuple #[u24, (Value.int .i64 n25)]) ∧ Keeps w.heap.size [] w20 w23 ∧ Calls Tryd.prog 16 #[(Value.string s21)] w23 (fun e26 w27 => ∃ u28 : Value, ∃ n29 : Int, e26 = .returned (Value.tuple #[u28, (Value.int .i64 n29)]) ∧ Keeps w.heap.size [] w23 w27 ∧ (((n14 ≠ n18) → Post (Value.bool false) w27) ∧ (¬ (n14 ≠ n18) → (((!(s13.toList == s17.toList)) = true → Post (Value.bool false) w27) ∧ ((!(s13.toList == s17.toList)) = false → (((n25 ≠ n29) → Post (Value.bool false) w27) ∧ (¬ (n25 ≠ n29) → Calls Tryd.prog 17 #[u24, u28] w27 (fun e78 w79 => ∃ b80 : Bool, e78 = .returned (Value.bool b80) ∧ Keeps w.heap.size [] w27 w79 ∧ (laws_FnLists_k4 w Post u10 s13 n14 s21 u24 n25 (!b80) w79))))))))))))))
def laws_FnLists_vc (v : Value) (w : World) (Post : Value → World → Prop) : Prop :=
  Calls Tryd.prog 10 #[v] w (fun e1 w2 => ∃ b3 : Bool, e1 = .returned (Value.bool b3) ∧ Keeps w.heap.size [] w w2 ∧ ((b3 = true → Post (Value.bool true) w2) ∧ (b3 = false → (laws_FnLists_k5 w Post v w2))))
theorem laws_FnLists_eq (v : Value) (w : World) (Post : Value → World → Prop) : denF Tryd.prog [9400000, 9700000, 9800000] noAnn 3 [v] w Post = laws_FnLists_vc v w Post := by kernel_rfl
set_option maxRecDepth 100000 in
theorem laws_FnLists_calls (v : Value) (w : World) (Post : Value → World → Prop) (hvc : laws_FnLists_vc v w Post) : Ret Tryd.prog 3 #[v] w Post :=
  Ret.of (denF_sound mixed (Eq.mpr (laws_FnLists_eq v w Post) hvc))

end Go.Proofs
namespace Go.Proofs.YtjcggcefmpaieaaDoor.lawFnLists
open Go.Proofs Go.Sx Go.RowKit Go.ChangeShapes Go.WideShapes Go.ChangeAt Go.Joins Go.WideMaps Go.WideElems Go.Tx Go.Proofs.YtjcggcefmpaieaaDoor
theorem walk (v : Value) (zs : List Int) (w : World) (h : RB w v zs) (hg : Gs w) : Val Tryd.prog 3 #[v] w (.bool true) :=
  Ret.val (laws_FnLists_calls v w _ (by
    unfold laws_FnLists_vc
    refine (laws_big_ret v zs w h).call ?_
    rintro _ w1 ⟨⟨b, rfl⟩, h1⟩
    refine ⟨b, rfl, h1.keeps, fun _ => ⟨rfl, h1⟩, fun _ => ?_⟩
    unfold laws_FnLists_k5
    refine (spec_DrawListText_ret v zs w1 (h.ext h1)).call ?_
    rintro u w2 ⟨xs, ou, hxl, h2⟩
    refine ⟨u, rfl, h2.keeps, ?_⟩
    have k2 := h1.trans h2
    refine (impl_ListText_val u xs w2 ou.rd (hg.1.ext k2)).call fun w3 h3 => ⟨_, _, rfl, h3.keeps, ?_⟩
    have k3 := k2.trans h3
    refine (spec_ListText_val u xs w3 (ou.rd.ext h3)).call fun w4 h4 => ⟨_, _, rfl, h4.keeps, ?_⟩
    have k4 := k3.trans h4
    have u4 := (ou.ext h3).ext h4
    refine (spec_DrawReadList_ret v zs w4 (h.ext k4)).call ?_
    rintro _ w5 ⟨l, rfl, hl, h5⟩
    refine ⟨_, rfl, h5.keeps, ?_⟩
    have k5 := k4.trans h5
    refine (impl_ReadList_ret l w5 (by omega) (hg.ext k5)).call ?_
    rintro _ w6 ⟨p, rfl, op, h6⟩
    refine ⟨p, _, rfl, h6.keeps, ?_⟩
    have k6 := k5.trans h6
    refine (spec_ReadList_ret l w6 (by omega)).call ?_
    rintro _ w7 ⟨q, rfl, oq, h7⟩
    have k7 := k6.trans h7
    refine ⟨q, _, rfl, h7.keeps, fun hne => absurd rfl hne, fun _ => ⟨fun hf => absurd hf (by simp), fun _ => ⟨fun hne => absurd rfl hne, fun _ => ?_⟩⟩⟩
    refine (laws_likeInts_val p q _ _ w7 (op.rd.ext h7) oq.rd).call fun w8 h8 => ⟨true, by simp, h8.keeps, fun hf => (by cases hf), fun _ => ?_⟩
    have k8 := k7.trans h8
    have u8 := (((u4.ext h5).ext h6).ext h7).ext h8
    have p8 := (op.ext h7).ext h8
    have tail : ∀ W, Ext w8 W → laws_FnLists_k1 w (fun u w' => u = .bool true ∧ Ext w w') u ⟨(listT xs).toArray⟩ (listC xs) W := by
      intro W hW
      have kW := k8.trans hW
      refine ⟨fun _ => ⟨rfl, kW⟩, fun hz => ?_⟩
      have hz : listC xs = 0 := Classical.not_not.1 hz
      obtain ⟨e1, e2⟩ := text_read hz
      have hlt := listT_len xs
      unfold laws_FnLists_k0
      refine (impl_ReadList_ret (listT xs) W (by omega) (hg.ext kW)).call ?_
      rintro _ w9 ⟨y, rfl, oy, h9⟩
      refine ⟨y, _, rfl, h9.keeps, fun _ => ?_, fun hne => absurd e1 hne⟩
      refine (laws_likeInts_val y u _ _ w9 oy.rd ((u8.ext hW).rd.ext h9)).call fun w10 h10 => ⟨true, by rw [e2]; simp, h10.keeps, rfl, (kW.trans h9).trans h10⟩
    unfold laws_FnLists_k3
    refine ⟨fun hz => ?_, fun _ => tail w8 (.refl _)⟩
    obtain ⟨e1, e2⟩ := read_text hz
    refine (impl_ListText_val p (readL l) w8 p8.rd (hg.1.ext k8)).call fun w9 h9 => ⟨_, _, rfl, h9.keeps, fun hne => absurd e1 hne, fun _ => ?_⟩
    rw [e2]
    exact ⟨fun hf => absurd hf (by simp), fun _ => tail w9 h9⟩))
set_option linter.unusedSimpArgs false in
theorem readable : ∀ t ∈ Tryd.f3.params.toList, Tryd.prog.readableRec t = true ∧ t < Tryd.prog.types.size := by
  rw [Tryd.params3]
  simp only [List.mem_cons, List.not_mem_nil, or_false, forall_eq_or_imp, forall_eq]
  exact ⟨by kernel_rfl, of_decide_eq_true (by kernel_rfl)⟩

set_option maxRecDepth 100000 in
theorem lifted (os : Os) (started : os.Started) (H : Type) (enc : TypeId × Value → H) :
    ReturnsInHanded {} Tryd.checked os 3 .any (fun w args => (Rows.fnListsSpec.pre enc Tryd.prog Tryd.f3 [] false w args ∧ laidMetH Tryd.prog tabs7 w) ∧ sizedMet enc Tryd.prog Tryd.f3 (OpenSpec.ofChange Rows.fnListsSpec) false w args)
      (Rows.fnListsSpec.post enc Tryd.prog Tryd.f3 false true false false) := by
  refine returnsInHanded_both (C := Tryd.checked) (X := fun w _ => laidMetH Tryd.prog tabs7 w) (fun _ _ _ hh h => h.of_heap hh) ownKnobNone started (by kernel_rfl) Tryd.func3
    (ChangeSpec.witness_shaped (enc := enc) (C := Tryd.checked) (os := os) (X := fun w _ => laidMetH Tryd.prog tabs7 w) false (World.laidAll Tryd.prog os tabs7) #[.slice none 0 0] 8 (World.laidAll_os _ _ _) (door_shaped7 os) (by kernel_rfl) (by kernel_rfl) (by kernel_rfl) (door_met7 os _)) ?_
  intro W base args ds gs before hval0 hW hL hsh
  have hval : ∀ (j : Nat) t v, Tryd.f3.params[j]? = some t → args[j]? = some v → Value.okWide Tryd.prog W .any base t v := hval0
  have hW' := hW
  obtain ⟨p, q, hA0, hV, rfl, hfz, hnd⟩ := hW
  have hA1 : DataW.TrodAll enc Tryd.prog W 0 (fun _ => true) true Tryd.f3.params.toList args.toList ds p := hA0
  have hA := hA1
  rw [Tryd.params3] at hA hval
  obtain ⟨v0, vs0, d0, ds0, p0, q0, hargs, rfl, rfl, h0, r0⟩ := trodAll_cons hA
  obtain ⟨rfl, rfl, rfl⟩ := trodAll_nil r0
  obtain rfl : args = #[v0] := by cases args; simp_all
  obtain ⟨rfl, rfl⟩ := trodVars_none hV
  obtain ⟨z0, hz0⟩ := open_RB Tryd.underlying22 Tryd.underlying5 (by kernel_rfl) (hval 0 22 v0 rfl rfl) h0
  clear hA0 hval0
  have hgl := gs_of_laid hL hsh
  refine (Val.calls (walk v0 z0 W hz0 hgl)).mono fun e W' ⟨he, hg⟩ => ?_
  subst he
  exact ⟨_, rfl, law_post laidOut readable hW' hA1 Tryd.underlying4 rfl rfl rfl hg⟩

/-- the row's statement -/
theorem row : Rows.FnListsSaid :=
  OpenClaim.holds_of_wide 3 Tryd.f3 rfl rfl rfl rfl rfl rfl rfl ⟨rfl, rfl, rfl, rfl, rfl⟩ rfl rfl rfl rfl rfl (by kernel_rfl) Tryd.func3 (by kernel_rfl)
    (of_decide_eq_true (by kernel_rfl)) (by unfold Func.isWrapper; first | (rw [if_pos (by decide +kernel)]; kernel_rfl) | (rw [if_neg (by decide +kernel)]; exact ⟨rfl, rfl⟩))
    (fun os started H enc _ => lifted os started H enc)

theorem proved : Rows.FnListsCardSaid :=
  Claim7.holds_tied_plain_at .later [] [.data, .data, .data, .data, .sentinel, .sentinel, .pinned] true (true, "5656281482df4c57e3eb81375a1872ce469613685fa4d7162dd797169a2d4b30") true
    row (fun _ h => by cases h) (by kernel_rfl) (fun _ h => by cases h) fnLists_row_tie rfl ⟨rfl, rfl⟩ (by kernel_rfl) rfl
    (fun f fn hf hfn => by
      obtain rfl : f = 3 := Option.some.inj ((show Tryd.prog.funcNamed "loop.example/g00947/laws.FnLists" = some 3 by kernel_rfl).symm.trans hf) |>.symm
      obtain rfl : fn = Tryd.f3 := (Option.some.inj (Tryd.func3.symm.trans hfn)).symm
      exact ⟨by kernel_rfl, fun j t ht => by
        rw [Tryd.params3] at ht
        have hm : t ∈ [22] := by simpa using Array.mem_of_getElem? ht
        have hall : ([22].all fun u => !Tryd.prog.wantsStandIn u) = true := by kernel_rfl
        exact (show Tryd.prog.wantsStandIn t = false by simpa using List.all_eq_true.1 hall t hm)⟩)
    (by kernel_rfl)

end Go.Proofs.YtjcggcefmpaieaaDoor.lawFnLists
