/- The law FnKeys: going from the first key to the next one finds as many keys as there are, and all of them keep the rules. No condition. -/
import Derived.Test.YteolgidmaklbkaaLawsB
import Derived.Test.YteolgidmaklbkaaDraw5
import Derived.Test.YteolgidmaklbkaaL03c
set_option linter.unusedVariables false
namespace Go.Proofs
open Go.Sx Go.RowKit
def laws_FnKeys_A (v : Value) (w : World) : Nat → Ann := fun κ => match κ with
  | 0 => { σ := Int × Value × Nat, sli := [18, 19], slc := fun s => [SV.v (Value.int .i64 s.1), SV.v s.2.1], bxi := [], bxc := fun s => [], inv := fun s W => True, μ := fun s W => 0, free := true }
  | _ => { σ := Unit, sli := [], slc := fun _ => [], bxi := [], bxc := fun _ => [], inv := fun _ _ => False, μ := fun _ _ => 0 }
abbrev laws_FnKeys_k0 (Post : Value → World → Prop) (x497 : Int) (x498 : Int) (w646 : World) : Prop :=
  (((x498 ≠ (0 : Int)) → Post (Value.bool true) w646) ∧ (¬ (x498 ≠ (0 : Int)) → Post (Value.bool (decide ((0 : Int) < x497))) w646))
abbrev laws_FnKeys_k1 (s952 : Int × Value × Nat) (w953 : World) (J954 : (Int × Value × Nat) → World → Prop) (m955 : (Int × Value × Nat) → World → Nat) (x1000 : Int) (x1002 : Value) (w1029 : World) : Prop :=
  ∃ s1030 : (Int × Value × Nat), (Value.int .i64 x1000) = (Value.int .i64 s1030.1) ∧ x1002 = s1030.2.1 ∧ (J954 s1030 w1029) ∧ (m955 s1030 w1029) < (m955 s952 w953)
abbrev laws_FnKeys_k2 (w : World) (Post : Value → World → Prop) (x800 : Int) (x940 : Int) (x941 : Int) (x942 : Int) (x943 : Int) (x944 : Int) (s952 : Int × Value × Nat) (w953 : World) (J954 : (Int × Value × Nat) → World → Prop) (m955 : (Int × Value × Nat) → World → Nat) (x983 : Int) (x984 : Value) (w995 : World) : Prop :=
  I64 (x983 + 1) ∧ Calls Try.prog 76 #[(Value.agg #[(Value.int .i64 x940), (Value.int .i64 x941), (Value.int .i64 x942), (Value.int .i64 x943), (Value.int .i64 x944)]), x984] w995 (fun e996 w997 => ∃ u998 : Value, ∃ n999 : Int, e996 = .returned (Value.tuple #[u998, (Value.int .i64 n999)]) ∧ Keeps w.heap.size [56, 56] w995 w997 ∧ (((n999 ≠ (0 : Int)) → (((n999 = (4 : Int)) → Post (Value.bool (decide ((x983 + 1) = x800))) w997) ∧ (¬ (n999 = (4 : Int)) → Post (Value.bool false) w997))) ∧ (¬ (n999 ≠ (0 : Int)) → (laws_FnKeys_k1 s952 w953 J954 m955 (x983 + 1) u998 w997))))
abbrev laws_FnKeys_k3 (w : World) (Post : Value → World → Prop) (x800 : Int) (x940 : Int) (x941 : Int) (x942 : Int) (x943 : Int) (x944 : Int) (s952 : Int × Value × Nat) (w953 : World) (J954 : (Int × Value × Nat) → World → Prop) (m955 : (Int × Value × Nat) → World → Nat) (x970 : Int) (x971 : Value) (w982 : World) : Prop :=
  (((x800 < s952.1) → Post (Value.bool false) w982) ∧ (¬ (x800 < s952.1) → (laws_FnKeys_k2 w Post x800 x940 x941 x942 x943 x944 s952 w953 J954 m955 x970 x971 w982)))
abbrev laws_FnKeys_k4 (w : World) (Post : Value → World → Prop) (x800 : Int) (x809 : Value) (x940 : Int) (x941 : Int) (x942 : Int) (x943 : Int) (x944 : Int) (w950 : World) : Prop :=
  (∃ (J954 : (Int × Value × Nat) → World → Prop) (m955 : (Int × Value × Nat) → World → Nat), ((∃ s951 : (Int × Value × Nat), (Value.int .i64 0) = (Value.int .i64 s951.1) ∧ x809 = s951.2.1 ∧ (J954 s951 w950)) ∧ ∀ (s952 : (Int × Value × Nat)) (w953 : World), (J954 s952 w953) → Calls Try.prog 75 #[(Value.agg #[(Value.int .i64 x940), (Value.int .i64 x941), (Value.int .i64 x942), (Value.int .i64 x943), (Value.int .i64 x944)]), s952.2.1] w953 (fun e956 w957 => ∃ b958 : Bool, e956 = .returned (Value.bool b958) ∧ Keeps w.heap.size [56, 56] w953 w957 ∧ (((!b958) = true → Post (Value.bool false) w957) ∧ ((!b958) = false → (laws_FnKeys_k3 w Post x800 x940 x941 x942 x943 x944 s952 w953 J954 m955 s952.1 s952.2.1 w957))))))
abbrev laws_FnKeys_k5 (w : World) (Post : Value → World → Prop) (x347 : Int) (x648 : Int) (x649 : Int) (x657 : Value) (x788 : Int) (x789 : Int) (x790 : Int) (x791 : Int) (x792 : Int) (w798 : World) : Prop :=
  ((((1500 : Int) < x347) → (((x649 ≠ (0 : Int)) → Post (Value.bool true) w798) ∧ (¬ (x649 ≠ (0 : Int)) → Post (Value.bool (decide ((0 : Int) < x648))) w798))) ∧ (¬ ((1500 : Int) < x347) → (laws_FnKeys_k4 w Post x648 x657 x788 x789 x790 x791 x792 w798)))
abbrev laws_FnKeys_k6 (w : World) (Post : Value → World → Prop) (x347 : Int) (x348 : Int) (x356 : Value) (x485 : Int) (x486 : Int) (x487 : Int) (x488 : Int) (x489 : Int) (w495 : World) : Prop :=
  (((x348 ≠ (0 : Int)) → (laws_FnKeys_k0 Post x347 x348 w495)) ∧ (¬ (x348 ≠ (0 : Int)) → (laws_FnKeys_k5 w Post x347 x347 x348 x356 x485 x486 x487 x488 x489 w495)))
abbrev laws_FnKeys_k7 (w : World) (Post : Value → World → Prop) (b190 : Bool) (b194 : Bool) (x197 : Int) (x198 : Int) (x206 : Value) (x335 : Int) (x336 : Int) (x337 : Int) (x338 : Int) (x339 : Int) (w345 : World) : Prop :=
  (((b190 ≠ b194) → Post (Value.bool false) w345) ∧ (¬ (b190 ≠ b194) → (laws_FnKeys_k6 w Post x197 x198 x206 x335 x336 x337 x338 x339 w345)))
abbrev laws_FnKeys_k8 (w : World) (Post : Value → World → Prop) (x4 : Value) (w7 : World) : Prop :=
  Calls Try.prog 77 #[x4] w7 (fun e8 w9 => ∃ n10 : Int, ∃ n11 : Int, ∃ n12 : Int, ∃ n13 : Int, ∃ n14 : Int, e8 = .returned (Value.agg #[(Value.int .i64 n10), (Value.int .i64 n11), (Value.int .i64 n12), (Value.int .i64 n13), (Value.int .i64 n14)]) ∧ Keeps w.heap.size [] w7 w9 ∧ ∀ w15 : World, Ext w9 w15 → ∀ w16 : World, BxS w.heap.size 56 w15 w16 → Calls Try.prog 78 #[(Value.agg #[(Value.int .i64 n10), (Value.int .i64 n11), (Value.int .i64 n12), (Value.int .i64 n13), (Value.int .i64 n14)])] w16 (fun e17 w18 => ∃ n19 : Int, ∃ n20 : Int, e17 = .returned (Value.tuple #[(Value.int .i64 n19), (Value.int .i64 n20)]) ∧ Keeps w.heap.size [56] w16 w18 ∧ Calls Try.prog 79 #[(Value.agg #[(Value.int .i64 n10), (Value.int .i64 n11), (Value.int .i64 n12), (Value.int .i64 n13), (Value.int .i64 n14)])] w18 (fun e21 w22 => ∃ n23 : Int, ∃ n24 : Int, e21 = .returned (Value.tuple #[(Value.int .i64 n23), (Value.int .i64 n24)]) ∧ Keeps w.heap.size [56] w18 w22 ∧ Calls Try.prog 80 #[x4] w22 (fun e25 w26 => ∃ n27 : Int, ∃ n28 : Int, ∃ n29 : Int, ∃ n30 : Int, ∃ n31 : Int, ∃ u32 : Value, e25 = .returned (Value.tuple #[(Value.agg #[(Value.int .i64 n27), (Value.int .i64 n28), (Value.int .i64 n29), (Value.int .i64 n30), (Value.int .i64 n31)]), u32]) ∧ Keeps w.heap.size [56] w22 w26 ∧ ∀ w33 : World, Ext w26 w33 → ∀ w34 : World, BxS w.heap.size 56 w33 w34 → Calls Try.prog 76 #[(Value.agg #[(Value.int .i64 n27), (Value.int .i64 n28), (Value.int .i64 n29), (Value.int .i64 n30), (Value.int .i64 n31)]), u32] w34 (fun e35 w36 => ∃ u37 : Value, ∃ n38 : Int, e35 = .returned (Value.tuple #[u37, (Value.int .i64 n38)]) ∧ Keeps w.heap.size [56, 56] w34 w36 ∧ Calls Try.prog 81 #[(Value.agg #[(Value.int .i64 n27), (Value.int .i64 n28), (Value.int .i64 n29), (Value.int .i64 n30), (Value.int .i64 n31)]), u32] w36 (fun e39 w40 => ∃ u41 : Value, ∃ n42 : Int, e39 = .returned (Value.tuple #[u41, (Value.int .i64 n42)]) ∧ Keeps w.heap.size [56, 56] w36 w40 ∧ Calls Try.prog 82 #[(Value.agg #[(Value.int .i64 n10), (Value.int .i64 n11), (Value.int .i64 n12), (Value.int .i64 n13), (Value.int .i64 n14)])] w40 (fun e43 w44 => ∃ u45 : Value, ∃ n46 : Int, e43 = .returned (Value.tuple #[u45, (Value.int .i64 n46)]) ∧ Keeps w.heap.size [56, 56] w40 w44 ∧ Calls Try.prog 83 #[(Value.agg #[(Value.int .i64 n10), (Value.int .i64 n11), (Value.int .i64 n12), (Value.int .i64 n13), (Value.int .i64 n14)])] w44 (fun e47 w48 => ∃ u49 : Value, ∃ n50 : Int, e47 = .returned (Value.tuple #[u49, (Value.int .i64 n50)]) ∧ Keeps w.heap.size [56, 56] w44 w48 ∧ (((n20 ≠ n24) → ∀ w51 : World, Ext w48 w51 → Post (Value.bool false) w51) ∧ (¬ (n20 ≠ n24) → (((n19 ≠ n23) → ∀ w174 : World, Ext w48 w174 → Post (Value.bool false) w174) ∧ (¬ (n19 ≠ n23) → (((n38 ≠ n42) → ∀ w175 : World, Ext w48 w175 → Post (Value.bool false) w175) ∧ (¬ (n38 ≠ n42) → ∃ b179 : Bool, (∀ w176 : World, Ext w48 w176 → Calls Try.prog 32 #[u37, u41] w176 (fun e177 w178 => e177 = .returned (Value.bool b179) ∧ Ext w176 w178)) ∧ (((!b179) = true → ∀ w180 : World, Ext w48 w180 → Post (Value.bool false) w180) ∧ ((!b179) = false → (((n46 ≠ n50) → ∀ w181 : World, Ext w48 w181 → Post (Value.bool false) w181) ∧ (¬ (n46 ≠ n50) → ∃ b185 : Bool, (∀ w182 : World, Ext w48 w182 → Calls Try.prog 32 #[u45, u49] w182 (fun e183 w184 => e183 = .returned (Value.bool b185) ∧ Ext w182 w184)) ∧ (((!b185) = true → ∀ w186 : World, Ext w48 w186 → Post (Value.bool false) w186) ∧ ((!b185) = false → ∃ b190 : Bool, (∀ w187 : World, Ext w48 w187 → Calls Try.prog 84 #[(Value.agg #[(Value.int .i64 n10), (Value.int .i64 n11), (Value.int .i64 n12), (Value.int .i64 n13), (Value.int .i64 n14)])] w187 (fun e188 w189 => e188 = .returned (Value.bool b190) ∧ Ext w187 w189)) ∧ ∃ b194 : Bool, (∀ w191 : World, Ext w48 w191 → Calls Try.prog 85 #[(Value.agg #[(Value.int .i64 n10), (Value.int .i64 n11), (Value.int .i64 n12), (Value.int .i64 n13), (Value.int .i64 n14)])] w191 (fun e192 w193 => e192 = .returned (Value.bool b194) ∧ Ext w191 w193)) ∧ ∀ w195 : World, Ext w48 w195 → (laws_FnKeys_k7 w Post b190 b194 n19 n20 u45 n10 n11 n12 n13 n14 w195)))))))))))))))))))))
def laws_FnKeys_vc (v : Value) (w : World) (Post : Value → World → Prop) : Prop :=
  Calls Try.prog 21 #[v] w (fun e1 w2 => ∃ b3 : Bool, e1 = .returned (Value.bool b3) ∧ Keeps w.heap.size [] w w2 ∧ ((b3 = true → Post (Value.bool true) w2) ∧ (b3 = false → (laws_FnKeys_k8 w Post v w2))))
theorem laws_FnKeys_eq (v : Value) (w : World) (Post : Value → World → Prop) : denF Try.prog [] (laws_FnKeys_A v w) 13 [v] w Post = laws_FnKeys_vc v w Post := by kernel_rfl
set_option maxRecDepth 100000 in
theorem laws_FnKeys_calls (v : Value) (w : World) (Post : Value → World → Prop) (hvc : laws_FnKeys_vc v w Post) : Ret Try.prog 13 #[v] w Post :=
  Ret.of (denF_sound mixed (Eq.mpr (laws_FnKeys_eq v w Post) hvc))

theorem next_last {M : Mk} (hm : MkOk M.c M.d M.s M.m M.l) {j : Nat} (hj : j < (keys M).length) (hl : (keys M).length ≤ j + 1) : nextCode M (keys M)[j] = 4 := by
  have hmem : (keys M)[j] ∈ keys M := List.getElem_mem _
  have hc := hm.1
  have hlen := keys_length (M := M) (by omega) hmem
  have hcut := keys_cuts (M := M) (by omega) hmem
  have e := keys_next (M := M) (j := j) (by omega) (by omega)
  rw [above_zero M _ hlen, List.drop_eq_nil_of_le hl] at e
  unfold nextCode
  rw [if_pos hm, if_pos ⟨hlen, hcut⟩, if_pos e]
theorem next_more {M : Mk} (hm : MkOk M.c M.d M.s M.m M.l) {j : Nat} (hj : j + 1 < (keys M).length) : nextR M (keys M)[j] = (keys M)[j + 1] ∧ nextCode M (keys M)[j] = 0 := by
  have hmem : (keys M)[j] ∈ keys M := List.getElem_mem _
  have hc := hm.1
  have hlen := keys_length (M := M) (by omega) hmem
  have hcut := keys_cuts (M := M) (by omega) hmem
  have e := keys_next (M := M) (j := j) (by omega) (by omega)
  rw [above_zero M _ hlen, List.drop_eq_getElem_cons hj] at e
  unfold nextR nextCode
  rw [if_pos hm, if_pos hm, if_pos ⟨hlen, hcut⟩, if_pos ⟨hlen, hcut⟩, e]
  exact ⟨rfl, if_neg (List.cons_ne_nil _ _)⟩
end Go.Proofs
namespace Go.Proofs.Yteolgidmaklbkaa.lawFnKeys
open Go.Proofs Go.Sx Go.RowKit Go.ChangeShapes Go.WideShapes Go.ChangeAt Go.Joins
theorem walk (v : Value) (zs : List Int) (w : World) (h : RB w v zs) : Val Try.prog 13 #[v] w (.bool true) :=
  Ret.val (laws_FnKeys_calls v w _ (by
    unfold laws_FnKeys_vc
    refine (laws_big_ret v zs w h).call ?_
    rintro _ w1 ⟨⟨b, rfl⟩, h1⟩
    refine ⟨b, rfl, h1.keeps, fun _ => ⟨rfl, h1⟩, fun _ => ?_⟩
    refine (spec_DrawCountKeys_ret v zs w1 (h.ext h1)).call ?_
    rintro _ w2 ⟨M, rfl, h2⟩
    refine ⟨M.c, M.d, M.s, M.m, M.l, rfl, h2.keeps, fun w3 h3 w4 b4 => ?_⟩
    have k4 := ((h1.trans h2).trans h3).bxs b4
    obtain ⟨x, y, e⟩ := countR_pair M
    refine (impl_CountKeys_val M.c M.d M.s M.m M.l w4).call fun w5 h5 => ⟨x, y, by rw [← e], h5.keeps, ?_⟩
    refine (spec_CountKeys_val M.c M.d M.s M.m M.l w5).call fun w6 h6 => ⟨x, y, by rw [← e], h6.keeps, ?_⟩
    have k6 := (k4.trans h5).trans h6
    refine (spec_DrawNextKey_ret v zs w6 (h.ext k6)).call ?_
    rintro _ w7 ⟨N, p, a, rfl, oa, h7⟩
    refine ⟨N.c, N.d, N.s, N.m, N.l, p, rfl, h7.keeps, fun w8 h8 w9 b9 => ?_⟩
    have k9 := ((k6.trans h7).trans h8).bxs b9
    have oa := (oa.ext h8).bxs b9 (by decide)
    refine (impl_NextKey_ret N p a w9 oa.rd).call ?_
    rintro _ w10 ⟨q, rfl, oq, h10⟩
    refine ⟨q, _, rfl, h10.keeps, ?_⟩
    refine (spec_NextKey_ret N p a w10 (oa.ext h10).rd).call ?_
    rintro _ w11 ⟨q', rfl, oq', h11⟩
    refine ⟨q', _, rfl, h11.keeps, ?_⟩
    refine (impl_FirstKey_ret M w11).call ?_
    rintro _ w12 ⟨f, rfl, of_, h12⟩
    refine ⟨f, _, rfl, h12.keeps, ?_⟩
    refine (spec_FirstKey_ret M w12).call ?_
    rintro _ w13 ⟨f', rfl, of', h13⟩
    refine ⟨f', _, rfl, h13.keeps, ?_⟩
    have k13 := (((k9.trans h10).trans h11).trans h12).trans h13
    have rq : RI w13 q _ := ((oq.ext h11).ext h12).ext h13 |>.rd
    have rq' : RI w13 q' _ := (oq'.ext h12).ext h13 |>.rd
    have rf : RI w13 f _ := (of_.ext h13).rd
    have rf' : RI w13 f' _ := of'.rd
    refine ⟨fun hne => absurd rfl hne, fun _ => ⟨fun hne => absurd rfl hne, fun _ => ⟨fun hne => absurd rfl hne, fun _ => ⟨decide (nextR N a = nextR N a), fun W hW => (laws_likeInts_val q q' _ _ W (rq.ext hW) (rq'.ext hW)).calls, fun hb => (by simp at hb), fun _ => ⟨fun hne => absurd rfl hne, fun _ => ⟨decide (firstKey M = firstKey M), fun W hW => (laws_likeInts_val f f' _ _ W (rf.ext hW) (rf'.ext hW)).calls, fun hb => (by simp at hb), fun _ => ⟨_, fun W hW => (impl_IsMaker_val M.c M.d M.s M.m M.l W).calls, _, fun W hW => (spec_IsMaker_val M.c M.d M.s M.m M.l W).calls, fun w14 h14 => ?_⟩⟩⟩⟩⟩⟩⟩
    have k14 := k13.trans h14
    refine ⟨fun hne => absurd rfl hne, fun _ => ?_⟩
    unfold countR at e
    split at e
    case isFalse =>
      simp only [Value.tuple.injEq, Array.mk.injEq, List.cons.injEq, Value.int.injEq, and_true, true_and] at e
      obtain ⟨rfl, rfl⟩ := e
      exact ⟨fun _ => ⟨fun _ => ⟨rfl, k14⟩, fun hn => absurd (by decide) hn⟩, fun hn => absurd (by decide) hn⟩
    rename_i hm
    simp only [Value.tuple.injEq, Array.mk.injEq, List.cons.injEq, Value.int.injEq, and_true, true_and] at e
    obtain ⟨rfl, rfl⟩ := e
    have hpos : 0 < (keys M).length := by
      have := keys_ne (M := M) hm
      cases hk : keys M with
      | nil => exact absurd hk this
      | cons _ _ => simp
    refine ⟨fun hn => absurd rfl hn, fun _ => ⟨fun _ => ⟨fun hn => absurd rfl hn, fun _ => ⟨beq_val (decide_eq_true (by omega)), k14⟩⟩, fun h1500 => ?_⟩⟩
    have ef : firstKey M = (keys M)[0] := by
      unfold firstKey
      rw [if_pos hm, List.headD_eq_head?_getD, List.head?_eq_getElem?, List.getElem?_eq_getElem hpos]
      rfl
    rw [ef] at rf
    refine ⟨fun s W => s.1 = (s.2.2 : Int) ∧ Ext w14 W ∧ ∃ hj : s.2.2 < (keys M).length, RI W s.2.1 (keys M)[s.2.2], fun s _ => (keys M).length - s.2.2, ⟨(0, f, 0), rfl, rfl, rfl, .refl _, hpos, rf.ext h14⟩, ?_⟩
    rintro ⟨n, u, j⟩ w15 ⟨hn, h15, hj, hu⟩
    simp only at hn hj hu
    have hmem : (keys M)[j] ∈ keys M := List.getElem_mem _
    have hK : IsK M (keys M)[j] := (mem_keys (by have := hm.1; omega)).1 hmem
    refine (impl_IsKey_val M.c M.d M.s M.m M.l u _ w15 hu).call fun w16 h16 => ⟨_, rfl, h16.keeps, fun hb => ?_, fun _ => ⟨fun hgt => ?_, fun _ => ?_⟩⟩
    · have hb := nd_t hb
      exact absurd ⟨hm, hK⟩ hb
    · simp only at hgt
      omega
    have k16 := (k14.trans h15).trans h16
    refine ⟨by unfold I64; simp only; omega, ?_⟩
    refine (impl_NextKey_ret M u _ w16 (hu.ext h16)).call ?_
    rintro _ w17 ⟨r, rfl, or, h17⟩
    refine ⟨r, _, rfl, h17.keeps, ?_⟩
    rcases Nat.lt_or_ge (j + 1) (keys M).length with hlt | hge
    · obtain ⟨e1, e2⟩ := next_more hm hlt
      refine ⟨fun hne => absurd e2 hne, fun _ => ⟨(n + 1, r, j + 1), rfl, rfl, ⟨by simp only; omega, (h15.trans h16).trans h17, hlt, ?_⟩, by simp only; omega⟩⟩
      rw [e1] at or
      exact or.rd
    · have e2 := next_last hm hj hge
      refine ⟨fun _ => ⟨fun _ => ⟨beq_val (decide_eq_true (by simp only; omega)), k16.trans h17⟩, fun hn4 => absurd e2 hn4⟩, fun hz => ?_⟩
      rw [e2] at hz
      exact absurd (by decide) hz))
set_option linter.unusedSimpArgs false in
theorem readable : ∀ t ∈ Try.f13.params.toList, Try.prog.readableRec t = true ∧ t < Try.prog.types.size := by
  rw [Try.params13]
  simp only [List.mem_cons, List.not_mem_nil, or_false, forall_eq_or_imp, forall_eq]
  exact ⟨by kernel_rfl, of_decide_eq_true (by kernel_rfl)⟩

set_option maxRecDepth 100000 in
theorem lifted (os : Os) (started : os.Started) (H : Type) (enc : TypeId × Value → H) :
    ReturnsInHanded {} Try.checked os 13 .any (Rows.fnKeysSpec.pre6 enc Try.prog Try.f13 Rows.fnKeysRow.domain false) (Rows.fnKeysSpec.post enc Try.prog Try.f13 false true false false) := by
  refine returnsInHanded_of_change (C := Try.checked) ownKnobNone started (by kernel_rfl) Try.func13
    (ChangeSpec.witness6 (enc := enc) (C := Try.checked) false ⟨#[], #[.slice none 0 0], []⟩ 8 (by kernel_rfl) (by kernel_rfl) (by kernel_rfl) (by kernel_rfl)) ?_
  intro W base args ds gs before hval0 hW hcnd _
  have hval : ∀ (j : Nat) t v, Try.f13.params[j]? = some t → args[j]? = some v → Value.okWide Try.prog W .any base t v := hval0
  have hW' := hW
  obtain ⟨p, q, hA0, hV, rfl, hfz, hnd⟩ := hW
  have hA1 : DataW.TrodAll enc Try.prog W 0 (fun _ => true) true Try.f13.params.toList args.toList ds p := hA0
  have hA := hA1
  rw [Try.params13] at hA hval
  obtain ⟨v0, vs0, d0, ds0, p0, q0, hargs, rfl, rfl, h0, r0⟩ := trodAll_cons hA
  obtain ⟨rfl, rfl, rfl⟩ := trodAll_nil r0
  obtain rfl : args = #[v0] := by cases args; simp_all
  obtain ⟨rfl, rfl⟩ := trodVars_none hV
  obtain ⟨z0, hz0⟩ := open_RB Try.underlying29 Try.underlying5 (by kernel_rfl) (hval 0 29 v0 rfl rfl) h0
  clear hA0 hval0
  refine (Val.calls (walk v0 z0 W hz0)).mono fun e W' ⟨he, hg⟩ => ?_
  subst he
  exact ⟨_, rfl, law_post laidOut readable hW' hA1 Try.underlying4 rfl rfl rfl hg⟩

theorem proved : Rows.FnKeysSaid :=
  OpenClaim.holds_of_wide 13 Try.f13 rfl rfl rfl rfl rfl rfl rfl ⟨rfl, rfl, rfl, rfl, rfl⟩ rfl rfl rfl rfl rfl (by kernel_rfl) Try.func13 (by kernel_rfl)
    (of_decide_eq_true (by kernel_rfl)) (by unfold Func.isWrapper; first | (rw [if_pos (by decide +kernel)]; kernel_rfl) | (rw [if_neg (by decide +kernel)]; exact ⟨rfl, rfl⟩))
    (fun os started H enc _ => lifted os started H enc)

end Go.Proofs.Yteolgidmaklbkaa.lawFnKeys
