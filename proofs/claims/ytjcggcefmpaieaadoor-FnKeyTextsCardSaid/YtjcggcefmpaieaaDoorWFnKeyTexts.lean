/- The law FnKeyTexts: a key is recovered from its text, and a text from its key; the tied card. No condition. -/
import Derived.Test.YtjcggcefmpaieaaDoorS12
import Derived.Test.YtjcggcefmpaieaaDoorD01
import Derived.Test.YtjcggcefmpaieaaDoorLawsB
import Derived.SevenTiedAt
import Derived.Test.YtjcggcefmpaieaaDoorCards
import Derived.Test.YtjcggcefmpaieaaDoorTie
set_option linter.unusedVariables false
namespace Go.Proofs
open Go.Sx Go.RowKit Go.Tx
theorem digs_ba (l : List UInt8) : digs ⟨l.toArray⟩ (⟨l.toArray⟩ : ByteArray).size = l.map fun c => (c.toNat : Int) - 48 := by
  apply List.ext_getElem
  · rw [digs_length, ba_size, List.length_map]
  · intro i h1 h2
    rw [List.length_map] at h2
    simp only [digs, List.getElem_map, List.getElem_range]
    unfold byteAt
    rw [ba_get h2]
    rfl
theorem dig_toNat {z : Int} (h : 0 ≤ z ∧ z < 10) : ((dig z).toNat : Int) = 48 + z := by
  unfold dig
  rw [digit_nat _ (by omega)]
  omega
theorem map_fix {α : Type} {f : α → α} : ∀ {l : List α}, (∀ x ∈ l, f x = x) → l.map f = l
  | [], _ => rfl
  | x :: l, h => by
    rw [List.map_cons, h x (by simp), map_fix fun y hy => h y (List.mem_cons_of_mem _ hy)]
/-- the text of a key that was read is the text -/
theorem read_keyT {M : Mk} {l : List UInt8} (h : readKeyCode M ⟨l.toArray⟩ = 0) : kCode M [readKey M ⟨l.toArray⟩] = 0 ∧ keyT M (readKey M ⟨l.toArray⟩) = l := by
  unfold readKeyCode at h
  split at h
  · rename_i hm
    split at h
    · rename_i hk
      have e : readKey M ⟨l.toArray⟩ = l.map fun c => (c.toNat : Int) - 48 := by
        unfold readKey
        rw [if_pos hm, if_pos hk, digs_ba]
      rw [digs_ba] at hk
      rw [e]
      have hc : kCode M [l.map fun c => (c.toNat : Int) - 48] = 0 := kCode_ok hm (by simpa using hk)
      refine ⟨hc, ?_⟩
      have hd := (key_digs hc).1
      unfold keyT
      rw [if_pos hc, List.map_map]
      refine map_fix fun c hcm => ?_
      have := hd _ (List.mem_map.2 ⟨c, hcm, rfl⟩)
      apply UInt8.toNat_inj.1
      have h2 := dig_toNat this
      simp only [Function.comp]
      omega
    · exact absurd h (by decide)
  · exact absurd h (by decide)
/-- the key of a text is the key -/
theorem keyT_read {M : Mk} {zs : List Int} (h : kCode M [zs] = 0) : readKeyCode M ⟨(keyT M zs).toArray⟩ = 0 ∧ readKey M ⟨(keyT M zs).toArray⟩ = zs := by
  obtain ⟨hm, hk⟩ := kCode_zero h
  have hk := hk zs (by simp)
  have hm : MkOk M.c M.d M.s M.m M.l := hm
  have hd := (key_digs h).1
  have e : (keyT M zs).map (fun c => (c.toNat : Int) - 48) = zs := by
    unfold keyT
    rw [if_pos h, List.map_map]
    refine map_fix fun z hz => ?_
    have := dig_toNat (hd z hz)
    simp only [Function.comp]
    omega
  unfold readKeyCode readKey
  rw [digs_ba, e, if_pos hm, if_pos hm, if_pos hk, if_pos hk]
  exact ⟨rfl, rfl⟩
abbrev laws_FnKeyTexts_k0 (w : World) (Post : Value → World → Prop) (x835 : Value) (x836 : ByteArray) (x967 : Int) (x968 : Int) (x969 : Int) (x970 : Int) (x971 : Int) (w977 : World) : Prop :=
  Calls Tryd.prog 34 #[(Value.agg #[(Value.int .i64 x967), (Value.int .i64 x968), (Value.int .i64 x969), (Value.int .i64 x970), (Value.int .i64 x971)]), (Value.string x836)] w977 (fun e978 w979 => ∃ u980 : Value, ∃ n981 : Int, e978 = .returned (Value.tuple #[u980, (Value.int .i64 n981)]) ∧ Keeps w.heap.size [39, 39] w977 w979 ∧ (((n981 = (0 : Int)) → Calls Tryd.prog 17 #[u980, x835] w979 (fun e982 w983 => ∃ b984 : Bool, e982 = .returned (Value.bool b984) ∧ Keeps w.heap.size [39, 39] w979 w983 ∧ Post (Value.bool b984) w983)) ∧ (¬ (n981 = (0 : Int)) → Post (Value.bool false) w979)))
abbrev laws_FnKeyTexts_k1 (w : World) (Post : Value → World → Prop) (x692 : Value) (x693 : ByteArray) (x694 : Int) (x823 : Int) (x824 : Int) (x825 : Int) (x826 : Int) (x827 : Int) (w833 : World) : Prop :=
  (((x694 ≠ (0 : Int)) → Post (Value.bool true) w833) ∧ (¬ (x694 ≠ (0 : Int)) → (laws_FnKeyTexts_k0 w Post x692 x693 x823 x824 x825 x826 x827 w833)))
abbrev laws_FnKeyTexts_k2 (w : World) (Post : Value → World → Prop) (x549 : Value) (x550 : ByteArray) (x551 : Int) (x679 : Bool) (x680 : Int) (x681 : Int) (x682 : Int) (x683 : Int) (x684 : Int) (w690 : World) : Prop :=
  ((x679 = true → Post (Value.bool false) w690) ∧ (x679 = false → (laws_FnKeyTexts_k1 w Post x549 x550 x551 x680 x681 x682 x683 x684 w690)))
abbrev laws_FnKeyTexts_k3 (w : World) (Post : Value → World → Prop) (x283 : Value) (x284 : ByteArray) (x285 : Int) (x288 : ByteArray) (x289 : Value) (x290 : Int) (x394 : Int) (x395 : Int) (x396 : Int) (x397 : Int) (x398 : Int) (x399 : Int) (x400 : Int) (x401 : Int) (x402 : Int) (x403 : Int) (w404 : World) : Prop :=
  (((x290 = (0 : Int)) → Calls Tryd.prog 27 #[(Value.agg #[(Value.int .i64 x399), (Value.int .i64 x400), (Value.int .i64 x401), (Value.int .i64 x402), (Value.int .i64 x403)]), x289] w404 (fun e405 w406 => ∃ s407 : ByteArray, ∃ n408 : Int, e405 = .returned (Value.tuple #[(Value.string s407), (Value.int .i64 n408)]) ∧ Keeps w.heap.size [39, 39] w404 w406 ∧ (((n408 ≠ (0 : Int)) → Post (Value.bool false) w406) ∧ (¬ (n408 ≠ (0 : Int)) → (laws_FnKeyTexts_k2 w Post x283 x284 x285 (!(s407.toList == x288.toList)) x394 x395 x396 x397 x398 w406))))) ∧ (¬ (x290 = (0 : Int)) → (laws_FnKeyTexts_k1 w Post x283 x284 x285 x394 x395 x396 x397 x398 w404)))
abbrev laws_FnKeyTexts_k4 (w : World) (Post : Value → World → Prop) (x160 : Value) (x161 : ByteArray) (x162 : Int) (x165 : ByteArray) (x166 : Value) (x167 : Int) (x270 : Bool) (x271 : Int) (x272 : Int) (x273 : Int) (x274 : Int) (x275 : Int) (x276 : Int) (x277 : Int) (x278 : Int) (x279 : Int) (x280 : Int) (w281 : World) : Prop :=
  ((x270 = true → Post (Value.bool false) w281) ∧ (x270 = false → (laws_FnKeyTexts_k3 w Post x160 x161 x162 x165 x166 x167 x271 x272 x273 x274 x275 x276 x277 x278 x279 x280 w281)))
abbrev laws_FnKeyTexts_k5 (w : World) (Post : Value → World → Prop) (x4 : Value) (w7 : World) : Prop :=
  Calls Tryd.prog 32 #[x4] w7 (fun e8 w9 => ∃ n10 : Int, ∃ n11 : Int, ∃ n12 : Int, ∃ n13 : Int, ∃ n14 : Int, ∃ u15 : Value, e8 = .returned (Value.tuple #[(Value.agg #[(Value.int .i64 n10), (Value.int .i64 n11), (Value.int .i64 n12), (Value.int .i64 n13), (Value.int .i64 n14)]), u15]) ∧ Keeps w.heap.size [] w7 w9 ∧ ∀ w16 : World, Ext w9 w16 → ∀ w17 : World, BxS w.heap.size 39 w16 w17 → Calls Tryd.prog 27 #[(Value.agg #[(Value.int .i64 n10), (Value.int .i64 n11), (Value.int .i64 n12), (Value.int .i64 n13), (Value.int .i64 n14)]), u15] w17 (fun e18 w19 => ∃ s20 : ByteArray, ∃ n21 : Int, e18 = .returned (Value.tuple #[(Value.string s20), (Value.int .i64 n21)]) ∧ Keeps w.heap.size [39] w17 w19 ∧ Calls Tryd.prog 26 #[(Value.agg #[(Value.int .i64 n10), (Value.int .i64 n11), (Value.int .i64 n12), (Value.int .i64 n13), (Value.int .i64 n14)]), u15] w19 (fun e22 w23 => ∃ s24 : ByteArray, ∃ n25 : Int, e22 = .returned (Value.tuple #[(Value.string s24), (Value.int .i64 n25)]) ∧ Keeps w.heap.size [39] w19 w23 ∧ Calls Tryd.prog 33 #[x4] w23 (fun e26 w27 => ∃ n28 : Int, ∃ n29 : Int, ∃ n30 : Int, ∃ n31 : Int, ∃ n32 : Int, ∃ s33 : ByteArray, e26 = .returned (Value.tuple #[(Value.agg #[(Value.int .i64 n28), (Value.int .i64 n29), (Value.int .i64 n30), (Value.int .i64 n31), (Value.int .i64 n32)]), (Value.string s33)]) ∧ Keeps w.heap.size [39] w23 w27 ∧ ∀ w34 : World, Ext w27 w34 → ∀ w35 : World, BxS w.heap.size 39 w34 w35 → Calls Tryd.prog 34 #[(Value.agg #[(Value.int .i64 n28), (Value.int .i64 n29), (Value.int .i64 n30), (Value.int .i64 n31), (Value.int .i64 n32)]), (Value.string s33)] w35 (fun e36 w37 => ∃ u38 : Value, ∃ n39 : Int, e36 = .returned (Value.tuple #[u38, (Value.int .i64 n39)]) ∧ Keeps w.heap.size [39, 39] w35 w37 ∧ Calls Tryd.prog 35 #[(Value.agg #[(Value.int .i64 n28), (Value.int .i64 n29), (Value.int .i64 n30), (Value.int .i64 n31), (Value.int .i64 n32)]), (Value.string s33)] w37 (fun e40 w41 => ∃ u42 : Value, ∃ n43 : Int, e40 = .returned (Value.tuple #[u42, (Value.int .i64 n43)]) ∧ Keeps w.heap.size [39, 39] w37 w41 ∧ (((n21 ≠ n25) → Post (Value.bool false) w41) ∧ (¬ (n21 ≠ n25) → (((!(s20.toList == s24.toList)) = true → Post (Value.bool false) w41) ∧ ((!(s20.toList == s24.toList)) = false → (((n39 ≠ n43) → Post (Value.bool false) w41) ∧ (¬ (n39 ≠ n43) → Calls Tryd.prog 17 #[u38, u42] w41 (fun e156 w157 => ∃ b158 : Bool, e156 = .returned (Value.bool b158) ∧ Keeps w.heap.size [39, 39] w41 w157 ∧ (laws_FnKeyTexts_k4 w Post u15 s20 n21 s33 u38 n39 (!b158) n10 n11 n12 n13 n14 n28 n29 n30 n31 n32 w157))))))))))))))
def laws_FnKeyTexts_vc (v : Value) (w : World) (Post : Value → World → Prop) : Prop :=
  Calls Tryd.prog 10 #[v] w (fun e1 w2 => ∃ b3 : Bool, e1 = .returned (Value.bool b3) ∧ Keeps w.heap.size [] w w2 ∧ ((b3 = true → Post (Value.bool true) w2) ∧ (b3 = false → (laws_FnKeyTexts_k5 w Post v w2))))
theorem laws_FnKeyTexts_eq (v : Value) (w : World) (Post : Value → World → Prop) : denF Tryd.prog [9400000, 9700000, 9800000] noAnn 8 [v] w Post = laws_FnKeyTexts_vc v w Post := by kernel_rfl
set_option maxRecDepth 100000 in
theorem laws_FnKeyTexts_calls (v : Value) (w : World) (Post : Value → World → Prop) (hvc : laws_FnKeyTexts_vc v w Post) : Ret Tryd.prog 8 #[v] w Post :=
  Ret.of (denF_sound mixed (Eq.mpr (laws_FnKeyTexts_eq v w Post) hvc))

end Go.Proofs
namespace Go.Proofs.YtjcggcefmpaieaaDoor.lawFnKeyTexts
open Go.Proofs Go.Sx Go.RowKit Go.ChangeShapes Go.WideShapes Go.ChangeAt Go.Joins Go.WideMaps Go.WideElems Go.Tx Go.Proofs.YtjcggcefmpaieaaDoor
theorem walk (v : Value) (zs : List Int) (w : World) (h : RB w v zs) (hg : Gl w) : Val Tryd.prog 8 #[v] w (.bool true) :=
  Ret.val (laws_FnKeyTexts_calls v w _ (by
    unfold laws_FnKeyTexts_vc
    refine (laws_big_ret v zs w h).call ?_
    rintro _ w1 ⟨⟨b, rfl⟩, h1⟩
    refine ⟨b, rfl, h1.keeps, fun _ => ⟨rfl, h1⟩, fun _ => ?_⟩
    unfold laws_FnKeyTexts_k5
    refine (spec_DrawKeyText_ret v zs w1 (h.ext h1)).call ?_
    rintro _ w2 ⟨M, u, xs, rfl, ou, h2⟩
    refine ⟨M.c, M.d, M.s, M.m, M.l, u, rfl, h2.keeps, fun w3 h3 w4 b4 => ?_⟩
    have k4 := ((h1.trans h2).trans h3).bxs b4
    have u4 := (ou.ext h3).bxs b4 (by decide)
    refine (impl_KeyText_val M u xs w4 u4.rd (hg.ext k4)).call fun w5 h5 => ⟨_, _, rfl, h5.keeps, ?_⟩
    have k5 := k4.trans h5
    refine (spec_KeyText_val M u xs w5 (u4.rd.ext h5)).call fun w6 h6 => ⟨_, _, rfl, h6.keeps, ?_⟩
    have k6 := k5.trans h6
    have u6 := (u4.ext h5).ext h6
    refine (spec_DrawReadKey_ret v zs w6 (h.ext k6)).call ?_
    rintro _ w7 ⟨N, l, rfl, hl, h7⟩
    refine ⟨N.c, N.d, N.s, N.m, N.l, _, rfl, h7.keeps, fun w8 h8 w9 b9 => ?_⟩
    have k9 := ((k6.trans h7).trans h8).bxs b9
    have u9 := ((u6.ext h7).ext h8).bxs b9 (by decide)
    have hs := ba_size l
    refine (impl_ReadKey_ret N ⟨l.toArray⟩ w9 (by omega)).call ?_
    rintro _ w10 ⟨p, rfl, op, h10⟩
    refine ⟨p, _, rfl, h10.keeps, ?_⟩
    have k10 := k9.trans h10
    refine (spec_ReadKey_ret N ⟨l.toArray⟩ w10 (by omega)).call ?_
    rintro _ w11 ⟨q, rfl, oq, h11⟩
    have k11 := k10.trans h11
    refine ⟨q, _, rfl, h11.keeps, fun hne => absurd rfl hne, fun _ => ⟨fun hf => absurd hf (by simp), fun _ => ⟨fun hne => absurd rfl hne, fun _ => ?_⟩⟩⟩
    refine (laws_likeInts_val p q _ _ w11 (op.rd.ext h11) oq.rd).call fun w12 h12 => ⟨true, by simp, h12.keeps, fun hf => (by cases hf), fun _ => ?_⟩
    have k12 := k11.trans h12
    have u12 := ((u9.ext h10).ext h11).ext h12
    have p12 := (op.ext h11).ext h12
    have tail : ∀ W, Ext w12 W → laws_FnKeyTexts_k1 w (fun u w' => u = .bool true ∧ Ext w w') u ⟨(keyT M xs).toArray⟩ (kCode M [xs]) M.c M.d M.s M.m M.l W := by
      intro W hW
      have kW := k12.trans hW
      refine ⟨fun _ => ⟨rfl, kW⟩, fun hz => ?_⟩
      have hz : kCode M [xs] = 0 := Classical.not_not.1 hz
      obtain ⟨e1, e2⟩ := keyT_read hz
      have hlt := keyT_len M xs
      have hks := ba_size (keyT M xs)
      unfold laws_FnKeyTexts_k0
      refine (impl_ReadKey_ret M ⟨(keyT M xs).toArray⟩ W (by omega)).call ?_
      rintro _ w13 ⟨y, rfl, oy, h13⟩
      refine ⟨y, _, rfl, h13.keeps, fun _ => ?_, fun hne => absurd e1 hne⟩
      refine (laws_likeInts_val y u _ _ w13 oy.rd ((u12.ext hW).rd.ext h13)).call fun w14 h14 => ⟨true, by rw [e2]; simp, h14.keeps, rfl, (kW.trans h13).trans h14⟩
    unfold laws_FnKeyTexts_k3
    refine ⟨fun hz => ?_, fun _ => tail w12 (.refl _)⟩
    obtain ⟨e1, e2⟩ := read_keyT hz
    refine (impl_KeyText_val N p (readKey N ⟨l.toArray⟩) w12 p12.rd (hg.ext k12)).call fun w13 h13 => ⟨_, _, rfl, h13.keeps, fun hne => absurd e1 hne, fun _ => ?_⟩
    rw [e2]
    exact ⟨fun hf => absurd hf (by simp), fun _ => tail w13 h13⟩))
set_option linter.unusedSimpArgs false in
theorem readable : ∀ t ∈ Tryd.f8.params.toList, Tryd.prog.readableRec t = true ∧ t < Tryd.prog.types.size := by
  rw [Tryd.params8]
  simp only [List.mem_cons, List.not_mem_nil, or_false, forall_eq_or_imp, forall_eq]
  exact ⟨by kernel_rfl, of_decide_eq_true (by kernel_rfl)⟩

set_option maxRecDepth 100000 in
theorem lifted (os : Os) (started : os.Started) (H : Type) (enc : TypeId × Value → H) :
    ReturnsInHanded {} Tryd.checked os 8 .any (fun w args => (Rows.fnKeyTextsSpec.pre enc Tryd.prog Tryd.f8 [] false w args ∧ laidMetH Tryd.prog tabs3 w) ∧ sizedMet enc Tryd.prog Tryd.f8 (OpenSpec.ofChange Rows.fnKeyTextsSpec) false w args)
      (Rows.fnKeyTextsSpec.post enc Tryd.prog Tryd.f8 false true false false) := by
  refine returnsInHanded_both (C := Tryd.checked) (X := fun w _ => laidMetH Tryd.prog tabs3 w) (fun _ _ _ hh h => h.of_heap hh) ownKnobNone started (by kernel_rfl) Tryd.func8
    (ChangeSpec.witness_shaped (enc := enc) (C := Tryd.checked) (os := os) (X := fun w _ => laidMetH Tryd.prog tabs3 w) false (World.doorLaid Tryd.prog 72 os) #[.slice none 0 0] 8 rfl (World.shaped_of_RefB (by kernel_rfl) (by kernel_rfl)) (by kernel_rfl) (by kernel_rfl) (by kernel_rfl) (door_met3 os _)) ?_
  intro W base args ds gs before hval0 hW hL hsh
  have hval : ∀ (j : Nat) t v, Tryd.f8.params[j]? = some t → args[j]? = some v → Value.okWide Tryd.prog W .any base t v := hval0
  have hW' := hW
  obtain ⟨p, q, hA0, hV, rfl, hfz, hnd⟩ := hW
  have hA1 : DataW.TrodAll enc Tryd.prog W 0 (fun _ => true) true Tryd.f8.params.toList args.toList ds p := hA0
  have hA := hA1
  rw [Tryd.params8] at hA hval
  obtain ⟨v0, vs0, d0, ds0, p0, q0, hargs, rfl, rfl, h0, r0⟩ := trodAll_cons hA
  obtain ⟨rfl, rfl, rfl⟩ := trodAll_nil r0
  obtain rfl : args = #[v0] := by cases args; simp_all
  obtain ⟨rfl, rfl⟩ := trodVars_none hV
  obtain ⟨z0, hz0⟩ := open_RB Tryd.underlying22 Tryd.underlying5 (by kernel_rfl) (hval 0 22 v0 rfl rfl) h0
  clear hA0 hval0
  have hgl := gl_of_laid3 hL
  refine (Val.calls (walk v0 z0 W hz0 hgl)).mono fun e W' ⟨he, hg⟩ => ?_
  subst he
  exact ⟨_, rfl, law_post laidOut readable hW' hA1 Tryd.underlying4 rfl rfl rfl hg⟩

/-- the row's statement -/
theorem row : Rows.FnKeyTextsSaid :=
  OpenClaim.holds_of_wide 8 Tryd.f8 rfl rfl rfl rfl rfl rfl rfl ⟨rfl, rfl, rfl, rfl, rfl⟩ rfl rfl rfl rfl rfl (by kernel_rfl) Tryd.func8 (by kernel_rfl)
    (of_decide_eq_true (by kernel_rfl)) (by unfold Func.isWrapper; first | (rw [if_pos (by decide +kernel)]; kernel_rfl) | (rw [if_neg (by decide +kernel)]; exact ⟨rfl, rfl⟩))
    (fun os started H enc _ => lifted os started H enc)

theorem proved : Rows.FnKeyTextsCardSaid :=
  Claim7.holds_tied_plain_at .later [] [.data, .data, .data] true (true, "5656281482df4c57e3eb81375a1872ce469613685fa4d7162dd797169a2d4b30") true
    row (fun _ h => by cases h) (by kernel_rfl) (fun _ h => by cases h) fnKeyTexts_row_tie rfl ⟨rfl, rfl⟩ (by kernel_rfl) rfl
    (fun f fn hf hfn => by
      obtain rfl : f = 8 := Option.some.inj ((show Tryd.prog.funcNamed "loop.example/g00947/laws.FnKeyTexts" = some 8 by kernel_rfl).symm.trans hf) |>.symm
      obtain rfl : fn = Tryd.f8 := (Option.some.inj (Tryd.func8.symm.trans hfn)).symm
      exact ⟨by kernel_rfl, fun j t ht => by
        rw [Tryd.params8] at ht
        have hm : t ∈ [22] := by simpa using Array.mem_of_getElem? ht
        have hall : ([22].all fun u => !Tryd.prog.wantsStandIn u) = true := by kernel_rfl
        exact (show Tryd.prog.wantsStandIn t = false by simpa using List.all_eq_true.1 hall t hm)⟩)
    (by kernel_rfl)

end Go.Proofs.YtjcggcefmpaieaaDoor.lawFnKeyTexts
