/- Draws of locks, of keys beside them, and of pairs of locks: their contracts. No condition. -/
import Derived.Test.YtccekkkiaebnmaaDraw6
set_option linter.unusedVariables false
namespace Go.Proofs
open Go.Sx Go.RowKit
/-- of a maker, a lock and a list -/
def DrMLS (f : FuncId) (args : Array Value) (w : World) : Prop := Ret Try.prog f args w fun r w' => ∃ (M : Mk) (u k : Value) (zss : List (List Int)) (ks : List Int), r = .tuple #[M.v, lkV u, k] ∧ VwR w.heap.size w' u zss ∧ Vw w.heap.size w' 2 k (ints ks) ∧ Ext w w'
/-- of a maker and two locks -/
def DrMLL (f : FuncId) (args : Array Value) (w : World) : Prop := Ret Try.prog f args w fun r w' => ∃ (M : Mk) (u v : Value) (za zb : List (List Int)), r = .tuple #[M.v, lkV u, lkV v] ∧ VwR w.heap.size w' u za ∧ VwR w.heap.size w' v zb ∧ Ext w w'
abbrev spec_DrawOpens_k0 (w : World) (Post : Value → World → Prop) (x185 : Int) (x186 : Int) (x187 : Int) (x188 : Int) (x189 : Int) (x190 : Value) (x197 : Value) (w209 : World) : Prop :=
  ∀ w210 : World, BxS w.heap.size 25 w209 w210 → oneC x190 (∀ w211 : World, BxS w.heap.size 28 w210 w211 → Post (Value.tuple #[(Value.agg #[(Value.int .i64 x185), (Value.int .i64 x186), (Value.int .i64 x187), (Value.int .i64 x188), (Value.int .i64 x189)]), (Value.agg #[x190]), x197]) w211)
abbrev spec_DrawOpens_k1 (w : World) (Post : Value → World → Prop) (x327 : Value) (x334 : Value) (x335 : Int) (x336 : Int) (x337 : Int) (x338 : Int) (x339 : Int) (w346 : World) : Prop :=
  oneC x327 (∀ w347 : World, BxS w.heap.size 28 w346 w347 → Post (Value.tuple #[(Value.agg #[(Value.int .i64 x335), (Value.int .i64 x336), (Value.int .i64 x337), (Value.int .i64 x338), (Value.int .i64 x339)]), (Value.agg #[x327]), x334]) w347)
abbrev spec_DrawOpens_k2 (Post : Value → World → Prop) (x402 : Addr) (x403 : Int) (x404 : Int) (x405 : Int) (x406 : Int) (x407 : Int) (x408 : Value) (w415 : World) : Prop :=
  ∃ u416 : Value, LdV w415 (Value.pointer (some x402)) u416 ∧ Post (Value.tuple #[(Value.agg #[(Value.int .i64 x403), (Value.int .i64 x404), (Value.int .i64 x405), (Value.int .i64 x406), (Value.int .i64 x407)]), (Value.agg #[x408]), u416]) w415
abbrev spec_DrawOpens_k3 (w : World) (Post : Value → World → Prop) (x260 : Value) (x266 : Addr) (x267 : Int) (x268 : Int) (x269 : Int) (x270 : Int) (x271 : Int) (w278 : World) : Prop :=
  ((∃ u279 : Value, LdV w278 (Value.pointer (some x266)) u279 ∧ (spec_DrawOpens_k1 w Post x260 u279 x267 x268 x269 x270 x271 w278)) ∧ (oneC x260 (∀ w348 : World, BxS w.heap.size 28 w278 w348 → (spec_DrawOpens_k2 Post x266 x267 x268 x269 x270 x271 x260 w348))))
abbrev spec_DrawOpens_k4 (w : World) (Post : Value → World → Prop) (w72 : World) (x116 : Int) (x117 : Int) (x118 : Int) (x119 : Int) (x120 : Int) (x121 : Value) (x122 : Value) (x123 : Addr) (x125 : Int) (w137 : World) : Prop :=
  Calls Try.prog 74 #[(Value.pointer (some x123)), (Value.int .i64 x125)] w137 (fun e138 w139 => ∃ n140 : Int, e138 = .returned (Value.int .i64 n140) ∧ Keeps w.heap.size [25, 28, 25, 28] w137 w139 ∧ Keeps w.heap.size [25] w72 w139 ∧ IxV 1 x122 n140 (fun ad141 => ((∃ u142 : Value, LdV w139 (Value.pointer (some ad141)) u142 ∧ (spec_DrawOpens_k0 w Post x116 x117 x118 x119 x120 x121 u142 w139)) ∧ (∀ w212 : World, BxS w.heap.size 25 w139 w212 → (spec_DrawOpens_k3 w Post x121 ad141 x116 x117 x118 x119 x120 w212)))))
abbrev spec_DrawOpens_k5 (w : World) (Post : Value → World → Prop) (x527 : Int) (x528 : Int) (x529 : Int) (x530 : Int) (x531 : Int) (x532 : Value) (x538 : Addr) (w550 : World) : Prop :=
  ((∃ u551 : Value, LdV w550 (Value.pointer (some x538)) u551 ∧ (spec_DrawOpens_k0 w Post x527 x528 x529 x530 x531 x532 u551 w550)) ∧ (∀ w552 : World, BxS w.heap.size 25 w550 w552 → (spec_DrawOpens_k3 w Post x532 x538 x527 x528 x529 x530 x531 w552)))
abbrev spec_DrawOpens_k6 (w : World) (Post : Value → World → Prop) (x674 : Value) (x675 : Int) (x676 : Int) (x677 : Int) (x678 : Int) (x679 : Int) (x685 : Value) (w686 : World) : Prop :=
  oneC x685 (∀ w687 : World, BxS w.heap.size 28 w686 w687 → Post (Value.tuple #[(Value.agg #[(Value.int .i64 x675), (Value.int .i64 x676), (Value.int .i64 x677), (Value.int .i64 x678), (Value.int .i64 x679)]), (Value.agg #[x685]), x674]) w687)
abbrev spec_DrawOpens_k7 (w : World) (Post : Value → World → Prop) (x596 : Int) (x597 : Int) (x598 : Int) (x599 : Int) (x600 : Int) (x607 : Value) (x618 : Value) (w619 : World) : Prop :=
  ((spec_DrawOpens_k0 w Post x596 x597 x598 x599 x600 x618 x607 w619) ∧ (∀ w620 : World, BxS w.heap.size 25 w619 w620 → (spec_DrawOpens_k6 w Post x607 x596 x597 x598 x599 x600 x618 w620)))
abbrev spec_DrawOpens_k8 (w : World) (Post : Value → World → Prop) (x802 : Value) (x809 : Value) (x810 : Int) (x811 : Int) (x812 : Int) (x813 : Int) (x814 : Int) (w821 : World) : Prop :=
  oneC x802 (∀ w822 : World, BxS w.heap.size 28 w821 w822 → Post (Value.tuple #[(Value.agg #[(Value.int .i64 x810), (Value.int .i64 x811), (Value.int .i64 x812), (Value.int .i64 x813), (Value.int .i64 x814)]), (Value.agg #[x802]), x809]) w822)
abbrev spec_DrawOpens_k9 (w : World) (Post : Value → World → Prop) (x741 : Addr) (x742 : Int) (x743 : Int) (x744 : Int) (x745 : Int) (x746 : Int) (x752 : Value) (w753 : World) : Prop :=
  ((∃ u754 : Value, LdV w753 (Value.pointer (some x741)) u754 ∧ (spec_DrawOpens_k8 w Post x752 u754 x742 x743 x744 x745 x746 w753)) ∧ (oneC x752 (∀ w823 : World, BxS w.heap.size 28 w753 w823 → (spec_DrawOpens_k2 Post x741 x742 x743 x744 x745 x746 x752 w823))))
abbrev spec_DrawOpens_k10 (w : World) (Post : Value → World → Prop) (x462 : Int) (x463 : Int) (x464 : Int) (x465 : Int) (x466 : Int) (x467 : Value) (x471 : Int) (x482 : Value) (w483 : World) : Prop :=
  IxV 1 x467 x471 (fun ad484 => ((spec_DrawOpens_k5 w Post x462 x463 x464 x465 x466 x482 ad484 w483) ∧ (∃ u553 : Value, LdV w483 (Value.pointer (some ad484)) u553 ∧ (spec_DrawOpens_k7 w Post x462 x463 x464 x465 x466 u553 x482 w483)) ∧ (∀ w688 : World, BxS w.heap.size 25 w483 w688 → (spec_DrawOpens_k9 w Post ad484 x462 x463 x464 x465 x466 x482 w688))))
abbrev spec_DrawOpens_k11 (w : World) (Post : Value → World → Prop) (w878 : World) (x921 : Int) (x922 : Int) (x923 : Int) (x924 : Int) (x925 : Int) (x926 : Value) (x927 : Addr) (x928 : Int) (x929 : Int) (x930 : Int) (x931 : Int) (x932 : Int) (w944 : World) : Prop :=
  Calls Try.prog 84 #[(Value.pointer (some x927)), (Value.agg #[(Value.int .i64 x928), (Value.int .i64 x929), (Value.int .i64 x930), (Value.int .i64 x931), (Value.int .i64 x932)])] w944 (fun e945 w946 => ∃ u947 : Value, e945 = .returned u947 ∧ Keeps w.heap.size [25, 28, 25, 28] w944 w946 ∧ Keeps w.heap.size [25] w878 w946 ∧ Keeps w.heap.size [25] w878 w946 ∧ ∀ w948 : World, BxS w.heap.size 25 w946 w948 → oneC x926 (∀ w949 : World, BxS w.heap.size 28 w948 w949 → Post (Value.tuple #[(Value.agg #[(Value.int .i64 x921), (Value.int .i64 x922), (Value.int .i64 x923), (Value.int .i64 x924), (Value.int .i64 x925)]), (Value.agg #[x926]), u947]) w949))
abbrev spec_DrawOpens_k12 (w : World) (Post : Value → World → Prop) (x1061 : Int) (x1062 : Int) (x1063 : Int) (x1064 : Int) (x1065 : Int) (x1066 : Value) (x1073 : Value) (w1085 : World) : Prop :=
  ∀ w1086 : World, BxS w.heap.size 25 w1085 w1086 → oneC x1066 (∀ w1087 : World, BxS w.heap.size 28 w1086 w1087 → Post (Value.tuple #[(Value.agg #[(Value.int .i64 x1061), (Value.int .i64 x1062), (Value.int .i64 x1063), (Value.int .i64 x1064), (Value.int .i64 x1065)]), (Value.agg #[x1066]), x1073]) w1087)
abbrev spec_DrawOpens_k13 (w : World) (Post : Value → World → Prop) (x1142 : Value) (x1143 : Int) (x1144 : Int) (x1145 : Int) (x1146 : Int) (x1147 : Int) (x1153 : Value) (w1154 : World) : Prop :=
  oneC x1153 (∀ w1155 : World, BxS w.heap.size 28 w1154 w1155 → Post (Value.tuple #[(Value.agg #[(Value.int .i64 x1143), (Value.int .i64 x1144), (Value.int .i64 x1145), (Value.int .i64 x1146), (Value.int .i64 x1147)]), (Value.agg #[x1153]), x1142]) w1155)
abbrev spec_DrawOpens_k14 (w : World) (Post : Value → World → Prop) (x995 : Int) (x996 : Int) (x997 : Int) (x998 : Int) (x999 : Int) (x1006 : Value) (x1017 : Value) (w1018 : World) : Prop :=
  ((spec_DrawOpens_k12 w Post x995 x996 x997 x998 x999 x1017 x1006 w1018) ∧ (∀ w1088 : World, BxS w.heap.size 25 w1018 w1088 → (spec_DrawOpens_k13 w Post x1006 x995 x996 x997 x998 x999 x1017 w1088)))
abbrev spec_DrawOpens_k15 (w : World) (Post : Value → World → Prop) (x825 : Addr) (x871 : Int) (x872 : Int) (x873 : Int) (x874 : Int) (x875 : Int) (x876 : Value) (w877 : World) : Prop :=
  ∀ w878 : World, Ext w877 w878 → ((spec_DrawOpens_k11 w Post w878 x871 x872 x873 x874 x875 x876 x825 x871 x872 x873 x874 x875 w878) ∧ (Calls Try.prog 84 #[(Value.pointer (some x825)), (Value.agg #[(Value.int .i64 x871), (Value.int .i64 x872), (Value.int .i64 x873), (Value.int .i64 x874), (Value.int .i64 x875)])] w878 (fun e950 w951 => ∃ u952 : Value, e950 = .returned u952 ∧ Keeps w.heap.size [25, 28, 25, 28] w878 w951 ∧ Keeps w.heap.size [25] w878 w951 ∧ Keeps w.heap.size [25] w878 w951 ∧ (spec_DrawOpens_k14 w Post x871 x872 x873 x874 x875 u952 x876 w951))))
abbrev spec_DrawOpens_k16 (w : World) (Post : Value → World → Prop) (n23 : Int) (x25 : Addr) (x61 : Int) (x62 : Int) (x63 : Int) (x64 : Int) (x65 : Int) (x66 : Value) (w67 : World) : Prop :=
  (((n23 = (0 : Int)) → Calls Try.prog 119 #[(Value.agg #[(Value.int .i64 x61), (Value.int .i64 x62), (Value.int .i64 x63), (Value.int .i64 x64), (Value.int .i64 x65)]), (Value.agg #[x66]), (Value.slice none 0 0), (Value.int .i64 5)] w67 (fun e68 w69 => ∃ u70 : Value, e68 = .returned u70 ∧ Keeps w.heap.size [25, 28, 25, 28] w67 w69 ∧ LenV u70 (fun n71 => ((((0 : Int) < n71) → ∀ w72 : World, Ext w69 w72 → LenV u70 (fun n73 => ((spec_DrawOpens_k4 w Post w72 x61 x62 x63 x64 x65 x66 u70 x25 n73 w72) ∧ (Calls Try.prog 74 #[(Value.pointer (some x25)), (Value.int .i64 n73)] w72 (fun e417 w418 => ∃ n419 : Int, e417 = .returned (Value.int .i64 n419) ∧ Keeps w.heap.size [25, 28, 25, 28] w72 w418 ∧ Keeps w.heap.size [25] w72 w418 ∧ (spec_DrawOpens_k10 w Post x61 x62 x63 x64 x65 u70 n419 x66 w418)))))) ∧ (¬ ((0 : Int) < n71) → (spec_DrawOpens_k15 w Post x25 x61 x62 x63 x64 x65 x66 w69)))))) ∧ (¬ (n23 = (0 : Int)) → (spec_DrawOpens_k15 w Post x25 x61 x62 x63 x64 x65 x66 w67)))
def spec_DrawOpens_vc (v : Value) (w : World) (Post : Value → World → Prop) : Prop :=
  ∀ w1 : World, Ext w w1 → ∀ w2 : World, Ext w1 w2 → Calls Try.prog 70 #[v] w2 (fun e3 w4 => ∃ p5 : Addr, e3 = .returned (Value.pointer (some p5)) ∧ Keeps w.heap.size [25, 28] w2 w4 ∧ Calls Try.prog 71 #[(Value.pointer (some p5))] w4 (fun e6 w7 => ∃ n8 : Int, ∃ n9 : Int, ∃ n10 : Int, ∃ n11 : Int, ∃ n12 : Int, ∃ u13 : Value, e6 = .returned (Value.tuple #[(Value.agg #[(Value.int .i64 n8), (Value.int .i64 n9), (Value.int .i64 n10), (Value.int .i64 n11), (Value.int .i64 n12)]), (Value.agg #[u13])]) ∧ Keeps w.heap.size [25, 28] w4 w7 ∧ ∀ w14 : World, Ext w7 w14 → ∀ w15 : World, Ext w14 w15 → ∀ w16 : World, BxS w.heap.size 25 w15 w16 → oneC u13 (∀ w17 : World, BxS w.heap.size 28 w16 w17 → Calls Try.prog 69 #[(Value.agg #[(Value.int .i64 n8), (Value.int .i64 n9), (Value.int .i64 n10), (Value.int .i64 n11), (Value.int .i64 n12)]), (Value.agg #[u13])] w17 (fun e18 w19 => ∃ b20 : Bool, e18 = .returned (Value.bool b20) ∧ Keeps w.heap.size [25, 28, 25, 28] w17 w19 ∧ ((b20 = true → Calls Try.prog 74 #[(Value.pointer (some p5)), (Value.int .i64 3)] w19 (fun e21 w22 => ∃ n23 : Int, e21 = .returned (Value.int .i64 n23) ∧ Keeps w.heap.size [25, 28, 25, 28] w19 w22 ∧ (spec_DrawOpens_k16 w Post n23 p5 n8 n9 n10 n11 n12 u13 w22))) ∧ (b20 = false → (spec_DrawOpens_k15 w Post p5 n8 n9 n10 n11 n12 u13 w19)))))))
theorem spec_DrawOpens_eq (v : Value) (w : World) (Post : Value → World → Prop) : denF Try.prog [9400000, 9700000, 9800000] noAnn 52 [v] w Post = spec_DrawOpens_vc v w Post := by kernel_rfl
set_option maxRecDepth 100000 in
theorem spec_DrawOpens_calls (v : Value) (w : World) (Post : Value → World → Prop) (hvc : spec_DrawOpens_vc v w Post) : Ret Try.prog 52 #[v] w Post :=
  Ret.of (denF_sound mixed (Eq.mpr (spec_DrawOpens_eq v w Post) hvc))

theorem spec_DrawOpens_ret (cv : Value) (zs : List Int) (w : World) (h : RB w cv zs) : DrMLS 52 #[cv] w :=
  spec_DrawOpens_calls cv w _ (by
    unfold spec_DrawOpens_vc
    intro w1 h1 w2 h2
    refine from_q h (h1.trans h2) fun b w4 d4 => ?_
    have hb := d4.2.1
    refine d4.lock (by decide) fun M u zss w7 hM hv d7 p7 => fun w14 h14 w15 h15 w16 b16 => hv.rr.oneC fun w17 b17 => ?_
    have d17 := (((d7.ext h14).ext h15).bxs (Nat.le_refl _) b16 (by decide)).bxs (Nat.le_refl _) b17 (by decide)
    have v17 := (((hv.ext h14).ext h15).bxs b16 (by decide) (by decide)).bxs b17 (by decide) (by decide)
    have fin : ∀ (k : Value) (ks : List Int) (W : World), VwR w4.heap.size W u zss → Vw w4.heap.size W 2 k (ints ks) → Dq w b cv zs w4.heap.size W → ∃ (M' : Mk) (u' k' : Value) (zss : List (List Int)) (ks : List Int), Value.tuple #[.agg #[.int .i64 M.c, .int .i64 M.d, .int .i64 M.s, .int .i64 M.m, .int .i64 M.l], .agg #[u], k] = .tuple #[M'.v, lkV u', k'] ∧ VwR w.heap.size W u' zss ∧ Vw w.heap.size W 2 k' (ints ks) ∧ Ext w W :=
      fun k ks W hv hk hd => ⟨M, u, k, zss, ks, rfl, hv.mono d4.base.size, hk.mono d4.base.size, hd.base⟩
    have one : ∀ (k : Value) (ks : List Int) (W : World), VwR w4.heap.size W u zss → Vw w4.heap.size W 2 k (ints ks) → Dq w b cv zs w4.heap.size W → oneC u (∀ W', BxS w.heap.size 28 W W' → ∃ (M' : Mk) (u' k' : Value) (zss : List (List Int)) (ks : List Int), Value.tuple #[.agg #[.int .i64 M.c, .int .i64 M.d, .int .i64 M.s, .int .i64 M.m, .int .i64 M.l], .agg #[u], k] = .tuple #[M'.v, lkV u', k'] ∧ VwR w.heap.size W' u' zss ∧ Vw w.heap.size W' 2 k' (ints ks) ∧ Ext w W') :=
      fun k ks W hv hk hd => hv.rr.oneC fun W' b' => fin k ks W' (hv.bxs b' (by decide) (by decide)) (hk.bxs b' (by decide)) (hd.bxs (Nat.le_refl _) b' (by decide))
    have two : ∀ (k : Value) (ks : List Int) (W : World), VwR w4.heap.size W u zss → Vw w4.heap.size W 2 k (ints ks) → Dq w b cv zs w4.heap.size W → ∀ W', BxS w.heap.size 25 W W' → oneC u (∀ W'', BxS w.heap.size 28 W' W'' → ∃ (M' : Mk) (u' k' : Value) (zss : List (List Int)) (ks : List Int), Value.tuple #[.agg #[.int .i64 M.c, .int .i64 M.d, .int .i64 M.s, .int .i64 M.m, .int .i64 M.l], .agg #[u], k] = .tuple #[M'.v, lkV u', k'] ∧ VwR w.heap.size W'' u' zss ∧ Vw w.heap.size W'' 2 k' (ints ks) ∧ Ext w W'') :=
      fun k ks W hv hk hd W' b' => one k ks W' (hv.bxs b' (by decide) (by decide)) (hk.bxs b' (by decide)) (hd.bxs (Nat.le_refl _) b' (by decide))
    have last : ∀ W, VwR w4.heap.size W u zss → Dq w b cv zs w4.heap.size W → spec_DrawOpens_k15 w (fun r w' => ∃ (M : Mk) (u k : Value) (zss : List (List Int)) (ks : List Int), r = .tuple #[M.v, lkV u, k] ∧ VwR w.heap.size w' u zss ∧ Vw w.heap.size w' 2 k (ints ks) ∧ Ext w w') ⟨b, 0, none⟩ M.c M.d M.s M.m M.l u W := by
      intro W hW dW W1 e1
      have v1 := hW.ext e1
      have c1 := dW.ext e1
      refine ⟨?_, ?_⟩
      · refine c1.list (spec_l02DrawKey_ret w b cv zs W1 c1.1 M hM) (by simp) fun k ks W2 o2 d2 p2 => ?_
        exact ⟨c1.kp p2 (by simp), c1.kp p2 (by simp), two k ks W2 (v1.dr p2 hb) o2.vw d2⟩
      · refine c1.list (spec_l02DrawKey_ret w b cv zs W1 c1.1 M hM) (by simp) fun k ks W2 o2 d2 p2 => ?_
        exact ⟨c1.kp p2 (by simp), c1.kp p2 (by simp), two k ks W2 (v1.dr p2 hb) o2.vw d2, fun W3 b3 => one k ks W3 ((v1.dr p2 hb).bxs b3 (by decide) (by decide)) (o2.vw.bxs b3 (by decide)) (d2.bxs (Nat.le_refl _) b3 (by decide))⟩
    refine (spec_IsLock_val M.c M.d M.s M.m M.l u zss w17 v17.rr).call fun w19 h19 => ⟨_, rfl, h19.keeps, fun hyes => ?_, fun hno => last w19 (v17.ext h19) (d17.ext h19)⟩
    have hk : LkOk M.c M.d M.s M.m M.l zss := of_decide_eq_true hyes
    have d19 := d17.ext h19
    have v19 := v17.ext h19
    refine d19.next 3 (by simp) fun n w22 n0 n1 d22 p22 _ => ⟨fun _ => ?_, fun _ => last w22 (v19.dr p22 hb) d22⟩
    have v22 := v19.dr p22 hb
    have hc := hk.1.1
    refine (spec_l04Openers_ret (M := M) hk.1 u zss hk.2.2 hk.2.1 M.c.toNat [] (.slice none 0 0) 5 w22 w22.heap.size (by simp; omega) (by intro z hz; simp at hz) (RI.nil_ w22 0 (Nat.zero_le _)) v22.rr (by omega) (Nat.le_refl _) (fun h0 => by omega)).call ?_
    rintro L w69 ⟨o69, h69⟩
    have d69 := d22.ext h69
    have v69 := v22.ext h69
    refine ⟨L, rfl, h69.keeps, o69.rr.len ⟨fun hpos w72 h72 => (o69.rr.ext h72).len ?_, fun _ => last w69 v69 d69⟩⟩
    have d72 := d69.ext h72
    have v72 := v69.ext h72
    have l72 := (o69.ext h72).vw.mono d22.2.2
    have ix : ∀ (n : Int) (W : World), 0 ≤ n → n < ((((G M (Al zss) M.c.toNat []).take (5 : Int).toNat).length : Nat) : Int) → VwR w4.heap.size W L ((G M (Al zss) M.c.toNat []).take (5 : Int).toNat) → VwR w4.heap.size W u zss → Dq w b cv zs w4.heap.size W → ∀ {K : Addr → Prop},
        (∀ ad k ks, (∀ W', (Vw w4.heap.size W 2 k (ints ks) → Vw w4.heap.size W' 2 k (ints ks)) → VwR w4.heap.size W' L ((G M (Al zss) M.c.toNat []).take (5 : Int).toNat) → True) → (LdV W (.pointer (some ad)) k) → (∀ T W', BxS w.heap.size T W W' → 36 ≠ T → LdV W' (.pointer (some ad)) k) → (∀ T T' W' W'', BxS w.heap.size T W W' → BxS w.heap.size T' W' W'' → 36 ≠ T → 36 ≠ T' → LdV W'' (.pointer (some ad)) k) → Vw w4.heap.size W 2 k (ints ks) → K ad) → IxV 1 L n K := by
      intro n W n0 n1 hL hv hd K hK
      obtain ⟨us, g1, g2⟩ := hL
      have he := g2.1
      refine g1.ix n.toNat (by omega) (by omega) fun ad had => hK ad us[n.toNat] _ (fun _ _ _ => trivial) (had W g1) (fun T W' b' hT => had W' (g1.bxs b' hT)) (fun T T' W' W'' b' b'' hT hT' => had W'' ((g1.bxs b' hT).bxs b'' hT')) (g2.get (show n.toNat < _ by omega))
    refine ⟨?_, ?_⟩
    · refine d72.next _ (by simp) fun n w139 n0 n1 d139 p139 _ => ⟨d72.kp p139 (by simp), ?_⟩
      have v139 := v72.dr p139 hb
      refine ix n w139 n0 (by omega) (l72.dr p139 hb) v139 d139 fun ad k ks _ a1 a2 a3 hkv => ⟨⟨k, a1, two k ks w139 v139 hkv d139⟩, fun w212 b212 => ?_⟩
      have v212 := v139.bxs b212 (by decide) (by decide)
      have k212 := hkv.bxs b212 (by decide)
      have d212 := d139.bxs (Nat.le_refl _) b212 (by decide)
      exact ⟨⟨k, a2 _ _ b212 (by decide), one k ks w212 v212 k212 d212⟩, v212.rr.oneC fun w348 b348 => ⟨k, a3 _ _ _ _ b212 b348 (by decide) (by decide), fin k ks w348 (v212.bxs b348 (by decide) (by decide)) (k212.bxs b348 (by decide)) (d212.bxs (Nat.le_refl _) b348 (by decide))⟩⟩
    · refine d72.next _ (by simp) fun n w139 n0 n1 d139 p139 _ => ⟨d72.kp p139 (by simp), ?_⟩
      have v139 := v72.dr p139 hb
      refine ix n w139 n0 (by omega) (l72.dr p139 hb) v139 d139 fun ad k ks _ a1 a2 a3 hkv => ?_
      have rest : ∀ w212, BxS w.heap.size 25 w139 w212 → spec_DrawOpens_k3 w (fun r w' => ∃ (M : Mk) (u k : Value) (zss : List (List Int)) (ks : List Int), r = .tuple #[M.v, lkV u, k] ∧ VwR w.heap.size w' u zss ∧ Vw w.heap.size w' 2 k (ints ks) ∧ Ext w w') u ad M.c M.d M.s M.m M.l w212 := fun w212 b212 => by
        have v212 := v139.bxs b212 (by decide) (by decide)
        have k212 := hkv.bxs b212 (by decide)
        have d212 := d139.bxs (Nat.le_refl _) b212 (by decide)
        exact ⟨⟨k, a2 _ _ b212 (by decide), one k ks w212 v212 k212 d212⟩, v212.rr.oneC fun w348 b348 => ⟨k, a3 _ _ _ _ b212 b348 (by decide) (by decide), fin k ks w348 (v212.bxs b348 (by decide) (by decide)) (k212.bxs b348 (by decide)) (d212.bxs (Nat.le_refl _) b348 (by decide))⟩⟩
      exact ⟨⟨⟨k, a1, two k ks w139 v139 hkv d139⟩, rest⟩, ⟨k, a1, two k ks w139 v139 hkv d139, fun w3 b3 => one k ks w3 (v139.bxs b3 (by decide) (by decide)) (hkv.bxs b3 (by decide)) (d139.bxs (Nat.le_refl _) b3 (by decide))⟩, rest⟩)
abbrev spec_DrawMeetLocks_k0 (w : World) (Post : Value → World → Prop) (x101 : Int) (x102 : Int) (x103 : Int) (x104 : Int) (x105 : Int) (x106 : Value) (x107 : Value) (w119 : World) : Prop :=
  ∀ w120 : World, BxS w.heap.size 25 w119 w120 → oneC x106 (∀ w121 : World, BxS w.heap.size 28 w120 w121 → oneC x107 (∀ w122 : World, BxS w.heap.size 28 w121 w122 → Post (Value.tuple #[(Value.agg #[(Value.int .i64 x101), (Value.int .i64 x102), (Value.int .i64 x103), (Value.int .i64 x104), (Value.int .i64 x105)]), (Value.agg #[x106]), (Value.agg #[x107])]) w122))
abbrev spec_DrawMeetLocks_k1 (w : World) (Post : Value → World → Prop) (x207 : Value) (x208 : Value) (x209 : Int) (x210 : Int) (x211 : Int) (x212 : Int) (x213 : Int) (w220 : World) : Prop :=
  oneC x207 (∀ w221 : World, BxS w.heap.size 28 w220 w221 → oneC x208 (∀ w222 : World, BxS w.heap.size 28 w221 w222 → Post (Value.tuple #[(Value.agg #[(Value.int .i64 x209), (Value.int .i64 x210), (Value.int .i64 x211), (Value.int .i64 x212), (Value.int .i64 x213)]), (Value.agg #[x207]), (Value.agg #[x208])]) w222))
abbrev spec_DrawMeetLocks_k2 (w : World) (Post : Value → World → Prop) (x260 : Int) (x261 : Int) (x262 : Int) (x263 : Int) (x264 : Int) (x265 : Value) (x271 : Value) (w272 : World) : Prop :=
  oneC x271 (∀ w273 : World, BxS w.heap.size 28 w272 w273 → Post (Value.tuple #[(Value.agg #[(Value.int .i64 x260), (Value.int .i64 x261), (Value.int .i64 x262), (Value.int .i64 x263), (Value.int .i64 x264)]), (Value.agg #[x265]), (Value.agg #[x271])]) w273)
abbrev spec_DrawMeetLocks_k3 (w : World) (Post : Value → World → Prop) (x159 : Value) (x160 : Int) (x161 : Int) (x162 : Int) (x163 : Int) (x164 : Int) (x170 : Value) (w171 : World) : Prop :=
  ((spec_DrawMeetLocks_k1 w Post x159 x170 x160 x161 x162 x163 x164 w171) ∧ (oneC x159 (∀ w223 : World, BxS w.heap.size 28 w171 w223 → (spec_DrawMeetLocks_k2 w Post x160 x161 x162 x163 x164 x159 x170 w223))))
abbrev spec_DrawMeetLocks_k4 (w : World) (Post : Value → World → Prop) (x53 : Int) (x54 : Int) (x55 : Int) (x56 : Int) (x57 : Int) (x58 : Value) (x69 : Value) (w70 : World) : Prop :=
  ((spec_DrawMeetLocks_k0 w Post x53 x54 x55 x56 x57 x58 x69 w70) ∧ (∀ w123 : World, BxS w.heap.size 25 w70 w123 → (spec_DrawMeetLocks_k3 w Post x58 x53 x54 x55 x56 x57 x69 w123)))
abbrev spec_DrawMeetLocks_k5 (w : World) (Post : Value → World → Prop) (x358 : Value) (x359 : Int) (x360 : Int) (x361 : Int) (x362 : Int) (x363 : Int) (x369 : Value) (w370 : World) : Prop :=
  oneC x369 (∀ w371 : World, BxS w.heap.size 28 w370 w371 → oneC x358 (∀ w372 : World, BxS w.heap.size 28 w371 w372 → Post (Value.tuple #[(Value.agg #[(Value.int .i64 x359), (Value.int .i64 x360), (Value.int .i64 x361), (Value.int .i64 x362), (Value.int .i64 x363)]), (Value.agg #[x369]), (Value.agg #[x358])]) w372))
abbrev spec_DrawMeetLocks_k6 (w : World) (Post : Value → World → Prop) (x304 : Int) (x305 : Int) (x306 : Int) (x307 : Int) (x308 : Int) (x309 : Value) (x320 : Value) (w321 : World) : Prop :=
  ((spec_DrawMeetLocks_k0 w Post x304 x305 x306 x307 x308 x320 x309 w321) ∧ (∀ w322 : World, BxS w.heap.size 25 w321 w322 → (spec_DrawMeetLocks_k5 w Post x309 x304 x305 x306 x307 x308 x320 w322)))
abbrev spec_DrawMeetLocks_k7 (w : World) (Post : Value → World → Prop) (x456 : Value) (x457 : Value) (x458 : Int) (x459 : Int) (x460 : Int) (x461 : Int) (x462 : Int) (w469 : World) : Prop :=
  oneC x456 (∀ w470 : World, BxS w.heap.size 28 w469 w470 → oneC x457 (∀ w471 : World, BxS w.heap.size 28 w470 w471 → Post (Value.tuple #[(Value.agg #[(Value.int .i64 x458), (Value.int .i64 x459), (Value.int .i64 x460), (Value.int .i64 x461), (Value.int .i64 x462)]), (Value.agg #[x456]), (Value.agg #[x457])]) w471))
abbrev spec_DrawMeetLocks_k8 (w : World) (Post : Value → World → Prop) (x409 : Int) (x410 : Int) (x411 : Int) (x412 : Int) (x413 : Int) (x419 : Value) (w420 : World) : Prop :=
  ((spec_DrawMeetLocks_k7 w Post x419 x419 x409 x410 x411 x412 x413 w420) ∧ (oneC x419 (∀ w472 : World, BxS w.heap.size 28 w420 w472 → (spec_DrawMeetLocks_k2 w Post x409 x410 x411 x412 x413 x419 x419 w472))))
abbrev spec_DrawMeetLocks_k9 (w : World) (Post : Value → World → Prop) (x804 : Int) (x805 : Int) (x806 : Int) (x807 : Int) (x808 : Int) (x809 : Value) (x810 : Value) (w823 : World) : Prop :=
  ∀ w824 : World, BxS w.heap.size 25 w823 w824 → oneC x809 (∀ w825 : World, BxS w.heap.size 28 w824 w825 → oneC x810 (∀ w826 : World, BxS w.heap.size 28 w825 w826 → Post (Value.tuple #[(Value.agg #[(Value.int .i64 x804), (Value.int .i64 x805), (Value.int .i64 x806), (Value.int .i64 x807), (Value.int .i64 x808)]), (Value.agg #[x809]), (Value.agg #[x810])]) w826))
abbrev spec_DrawMeetLocks_k10 (w : World) (Post : Value → World → Prop) (x972 : Value) (x973 : Value) (x974 : Int) (x975 : Int) (x976 : Int) (x977 : Int) (x978 : Int) (w986 : World) : Prop :=
  oneC x972 (∀ w987 : World, BxS w.heap.size 28 w986 w987 → oneC x973 (∀ w988 : World, BxS w.heap.size 28 w987 w988 → Post (Value.tuple #[(Value.agg #[(Value.int .i64 x974), (Value.int .i64 x975), (Value.int .i64 x976), (Value.int .i64 x977), (Value.int .i64 x978)]), (Value.agg #[x972]), (Value.agg #[x973])]) w988))
abbrev spec_DrawMeetLocks_k11 (w : World) (Post : Value → World → Prop) (x1056 : Int) (x1057 : Int) (x1058 : Int) (x1059 : Int) (x1060 : Int) (x1061 : Value) (x1068 : Value) (w1069 : World) : Prop :=
  oneC x1068 (∀ w1070 : World, BxS w.heap.size 28 w1069 w1070 → Post (Value.tuple #[(Value.agg #[(Value.int .i64 x1056), (Value.int .i64 x1057), (Value.int .i64 x1058), (Value.int .i64 x1059), (Value.int .i64 x1060)]), (Value.agg #[x1061]), (Value.agg #[x1068])]) w1070)
abbrev spec_DrawMeetLocks_k12 (w : World) (Post : Value → World → Prop) (x893 : Value) (x894 : Int) (x895 : Int) (x896 : Int) (x897 : Int) (x898 : Int) (x905 : Value) (w906 : World) : Prop :=
  ((spec_DrawMeetLocks_k10 w Post x893 x905 x894 x895 x896 x897 x898 w906) ∧ (oneC x893 (∀ w989 : World, BxS w.heap.size 28 w906 w989 → (spec_DrawMeetLocks_k11 w Post x894 x895 x896 x897 x898 x893 x905 w989))))
abbrev spec_DrawMeetLocks_k13 (w : World) (Post : Value → World → Prop) (x725 : Int) (x726 : Int) (x727 : Int) (x728 : Int) (x729 : Int) (x730 : Value) (x742 : Value) (w743 : World) : Prop :=
  ((spec_DrawMeetLocks_k9 w Post x725 x726 x727 x728 x729 x730 x742 w743) ∧ (∀ w827 : World, BxS w.heap.size 25 w743 w827 → (spec_DrawMeetLocks_k12 w Post x730 x725 x726 x727 x728 x729 x742 w827)))
abbrev spec_DrawMeetLocks_k14 (w : World) (Post : Value → World → Prop) (x1216 : Value) (x1217 : Int) (x1218 : Int) (x1219 : Int) (x1220 : Int) (x1221 : Int) (x1227 : Value) (w1229 : World) : Prop :=
  oneC x1227 (∀ w1230 : World, BxS w.heap.size 28 w1229 w1230 → oneC x1216 (∀ w1231 : World, BxS w.heap.size 28 w1230 w1231 → Post (Value.tuple #[(Value.agg #[(Value.int .i64 x1217), (Value.int .i64 x1218), (Value.int .i64 x1219), (Value.int .i64 x1220), (Value.int .i64 x1221)]), (Value.agg #[x1227]), (Value.agg #[x1216])]) w1231))
abbrev spec_DrawMeetLocks_k15 (w : World) (Post : Value → World → Prop) (x1131 : Int) (x1132 : Int) (x1133 : Int) (x1134 : Int) (x1135 : Int) (x1136 : Value) (x1147 : Value) (w1149 : World) : Prop :=
  ((spec_DrawMeetLocks_k9 w Post x1131 x1132 x1133 x1134 x1135 x1147 x1136 w1149) ∧ (∀ w1150 : World, BxS w.heap.size 25 w1149 w1150 → (spec_DrawMeetLocks_k14 w Post x1136 x1131 x1132 x1133 x1134 x1135 x1147 w1150)))
abbrev spec_DrawMeetLocks_k16 (w : World) (Post : Value → World → Prop) (x1376 : Value) (x1377 : Value) (x1378 : Int) (x1379 : Int) (x1380 : Int) (x1381 : Int) (x1382 : Int) (w1390 : World) : Prop :=
  oneC x1376 (∀ w1391 : World, BxS w.heap.size 28 w1390 w1391 → oneC x1377 (∀ w1392 : World, BxS w.heap.size 28 w1391 w1392 → Post (Value.tuple #[(Value.agg #[(Value.int .i64 x1378), (Value.int .i64 x1379), (Value.int .i64 x1380), (Value.int .i64 x1381), (Value.int .i64 x1382)]), (Value.agg #[x1376]), (Value.agg #[x1377])]) w1392))
abbrev spec_DrawMeetLocks_k17 (w : World) (Post : Value → World → Prop) (x1298 : Int) (x1299 : Int) (x1300 : Int) (x1301 : Int) (x1302 : Int) (x1308 : Value) (x1309 : Value) (w1310 : World) : Prop :=
  ((spec_DrawMeetLocks_k16 w Post x1308 x1309 x1298 x1299 x1300 x1301 x1302 w1310) ∧ (oneC x1308 (∀ w1393 : World, BxS w.heap.size 28 w1310 w1393 → (spec_DrawMeetLocks_k11 w Post x1298 x1299 x1300 x1301 x1302 x1308 x1309 w1393))))
abbrev spec_DrawMeetLocks_k18 (w : World) (Post : Value → World → Prop) (x656 : Int) (x657 : Int) (x658 : Int) (x659 : Int) (x660 : Int) (x661 : Value) (x662 : Value) (w663 : World) : Prop :=
  ∀ w664 : World, Ext w663 w664 → ((spec_DrawMeetLocks_k13 w Post x656 x657 x658 x659 x660 x661 x662 w664) ∧ (spec_DrawMeetLocks_k15 w Post x656 x657 x658 x659 x660 x662 x661 w664) ∧ (∀ w1232 : World, BxS w.heap.size 25 w664 w1232 → (spec_DrawMeetLocks_k17 w Post x656 x657 x658 x659 x660 x661 x662 w1232)))
abbrev spec_DrawMeetLocks_k19 (w : World) (Post : Value → World → Prop) (x572 : Bool) (x578 : Int) (x579 : Int) (x580 : Int) (x581 : Int) (x582 : Int) (x583 : Value) (x584 : Value) (w585 : World) : Prop :=
  ((x572 = true → Calls Try.prog 15 #[(Value.agg #[(Value.int .i64 x578), (Value.int .i64 x579), (Value.int .i64 x580), (Value.int .i64 x581), (Value.int .i64 x582)]), (Value.agg #[x583]), (Value.agg #[x584])] w585 (fun e586 w587 => ∃ u588 : Value, ∃ n589 : Int, e586 = .returned (Value.tuple #[(Value.agg #[u588]), (Value.int .i64 n589)]) ∧ Keeps w.heap.size [25, 28, 28, 25, 28, 28] w585 w587 ∧ oneC u588 (∀ w590 : World, BxS w.heap.size 28 w587 w590 → (spec_DrawMeetLocks_k18 w Post x578 x579 x580 x581 x582 x583 u588 w590)))) ∧ (x572 = false → (spec_DrawMeetLocks_k18 w Post x578 x579 x580 x581 x582 x583 x584 w585)))
abbrev spec_DrawMeetLocks_k20 (w : World) (Post : Value → World → Prop) (x474 : Addr) (x508 : Int) (x509 : Int) (x510 : Int) (x511 : Int) (x512 : Int) (x513 : Value) (w514 : World) : Prop :=
  Calls Try.prog 73 #[(Value.pointer (some x474)), (Value.agg #[(Value.int .i64 x508), (Value.int .i64 x509), (Value.int .i64 x510), (Value.int .i64 x511), (Value.int .i64 x512)])] w514 (fun e515 w516 => ∃ u517 : Value, e515 = .returned (Value.agg #[u517]) ∧ Keeps w.heap.size [25, 28, 28, 25, 28] w514 w516 ∧ ∀ w518 : World, Ext w516 w518 → oneC u517 (∀ w519 : World, BxS w.heap.size 28 w518 w519 → Calls Try.prog 74 #[(Value.pointer (some x474)), (Value.int .i64 3)] w519 (fun e520 w521 => ∃ n522 : Int, e520 = .returned (Value.int .i64 n522) ∧ Keeps w.heap.size [25, 28, 28, 25, 28, 28] w519 w521 ∧ (((n522 = (0 : Int)) → Calls Try.prog 69 #[(Value.agg #[(Value.int .i64 x508), (Value.int .i64 x509), (Value.int .i64 x510), (Value.int .i64 x511), (Value.int .i64 x512)]), (Value.agg #[x513])] w521 (fun e523 w524 => ∃ b525 : Bool, e523 = .returned (Value.bool b525) ∧ Keeps w.heap.size [25, 28, 28, 25, 28, 28] w521 w524 ∧ (spec_DrawMeetLocks_k19 w Post b525 x508 x509 x510 x511 x512 x513 u517 w524))) ∧ (¬ (n522 = (0 : Int)) → (spec_DrawMeetLocks_k18 w Post x508 x509 x510 x511 x512 x513 u517 w521))))))
def spec_DrawMeetLocks_vc (v : Value) (w : World) (Post : Value → World → Prop) : Prop :=
  ∀ w1 : World, Ext w w1 → ∀ w2 : World, Ext w1 w2 → ∀ w3 : World, Ext w2 w3 → Calls Try.prog 70 #[v] w3 (fun e4 w5 => ∃ p6 : Addr, e4 = .returned (Value.pointer (some p6)) ∧ Keeps w.heap.size [25, 28, 28] w3 w5 ∧ Calls Try.prog 71 #[(Value.pointer (some p6))] w5 (fun e7 w8 => ∃ n9 : Int, ∃ n10 : Int, ∃ n11 : Int, ∃ n12 : Int, ∃ n13 : Int, ∃ u14 : Value, e7 = .returned (Value.tuple #[(Value.agg #[(Value.int .i64 n9), (Value.int .i64 n10), (Value.int .i64 n11), (Value.int .i64 n12), (Value.int .i64 n13)]), (Value.agg #[u14])]) ∧ Keeps w.heap.size [25, 28, 28] w5 w8 ∧ ∀ w15 : World, Ext w8 w15 → ∀ w16 : World, Ext w15 w16 → ∀ w17 : World, BxS w.heap.size 25 w16 w17 → oneC u14 (∀ w18 : World, BxS w.heap.size 28 w17 w18 → Calls Try.prog 72 #[(Value.agg #[(Value.int .i64 n9), (Value.int .i64 n10), (Value.int .i64 n11), (Value.int .i64 n12), (Value.int .i64 n13)])] w18 (fun e19 w20 => ∃ b21 : Bool, e19 = .returned (Value.bool b21) ∧ Keeps w.heap.size [25, 28, 28, 25, 28] w18 w20 ∧ (((!b21) = true → ∀ w22 : World, Ext w20 w22 → ((spec_DrawMeetLocks_k4 w Post n9 n10 n11 n12 n13 u14 u14 w22) ∧ (spec_DrawMeetLocks_k6 w Post n9 n10 n11 n12 n13 u14 u14 w22) ∧ (∀ w373 : World, BxS w.heap.size 25 w22 w373 → (spec_DrawMeetLocks_k8 w Post n9 n10 n11 n12 n13 u14 w373)))) ∧ ((!b21) = false → (spec_DrawMeetLocks_k20 w Post p6 n9 n10 n11 n12 n13 u14 w20)))))))
theorem spec_DrawMeetLocks_eq (v : Value) (w : World) (Post : Value → World → Prop) : denF Try.prog [9400000, 9700000, 9800000] noAnn 11 [v] w Post = spec_DrawMeetLocks_vc v w Post := by kernel_rfl
set_option maxRecDepth 100000 in
theorem spec_DrawMeetLocks_calls (v : Value) (w : World) (Post : Value → World → Prop) (hvc : spec_DrawMeetLocks_vc v w Post) : Ret Try.prog 11 #[v] w Post :=
  Ret.of (denF_sound mixed (Eq.mpr (spec_DrawMeetLocks_eq v w Post) hvc))

theorem spec_DrawMeetLocks_ret (cv : Value) (zs : List Int) (w : World) (h : RB w cv zs) : DrMLL 11 #[cv] w :=
  spec_DrawMeetLocks_calls cv w _ (by
    unfold spec_DrawMeetLocks_vc
    intro w1 h1 w2 h2 w3 h3
    refine from_q h ((h1.trans h2).trans h3) fun b w4 d4 => ?_
    have hb := d4.2.1
    refine d4.lock (by decide) fun M u za w7 hM hv d7 p7 => fun w14 h14 w15 h15 w16 b16 => hv.rr.oneC fun w17 b17 => ?_
    have d17 := (((d7.ext h14).ext h15).bxs (Nat.le_refl _) b16 (by decide)).bxs (Nat.le_refl _) b17 (by decide)
    have v17 := (((hv.ext h14).ext h15).bxs b16 (by decide) (by decide)).bxs b17 (by decide) (by decide)
    have E : ∀ (v : Value) (zb : List (List Int)) (W : World), (VwR w4.heap.size W u za ∧ VwR w4.heap.size W v zb ∧ Dq w b cv zs w4.heap.size W) → ∃ (M' : Mk) (u' v' : Value) (za zb : List (List Int)), Value.tuple #[.agg #[.int .i64 M.c, .int .i64 M.d, .int .i64 M.s, .int .i64 M.m, .int .i64 M.l], .agg #[u], .agg #[v]] = .tuple #[M'.v, lkV u', lkV v'] ∧ VwR w.heap.size W u' za ∧ VwR w.heap.size W v' zb ∧ Ext w W :=
      fun v zb W ⟨ha, hb', hd⟩ => ⟨M, u, v, za, zb, rfl, ha.mono d4.base.size, hb'.mono d4.base.size, hd.base⟩
    have X : ∀ {v : Value} {zb : List (List Int)} {W W' : World}, (VwR w4.heap.size W u za ∧ VwR w4.heap.size W v zb ∧ Dq w b cv zs w4.heap.size W) → Ext W W' → (VwR w4.heap.size W' u za ∧ VwR w4.heap.size W' v zb ∧ Dq w b cv zs w4.heap.size W') :=
      fun ⟨ha, hb', hd⟩ e => ⟨ha.ext e, hb'.ext e, hd.ext e⟩
    have B1 : ∀ {v : Value} {zb : List (List Int)} {W W' : World}, (VwR w4.heap.size W u za ∧ VwR w4.heap.size W v zb ∧ Dq w b cv zs w4.heap.size W) → BxS w.heap.size 25 W W' → (VwR w4.heap.size W' u za ∧ VwR w4.heap.size W' v zb ∧ Dq w b cv zs w4.heap.size W') :=
      fun ⟨ha, hb', hd⟩ e => ⟨ha.bxs e (by decide) (by decide), hb'.bxs e (by decide) (by decide), hd.bxs (Nat.le_refl _) e (by decide)⟩
    have B2 : ∀ {v : Value} {zb : List (List Int)} {W W' : World}, (VwR w4.heap.size W u za ∧ VwR w4.heap.size W v zb ∧ Dq w b cv zs w4.heap.size W) → BxS w.heap.size 28 W W' → (VwR w4.heap.size W' u za ∧ VwR w4.heap.size W' v zb ∧ Dq w b cv zs w4.heap.size W') :=
      fun ⟨ha, hb', hd⟩ e => ⟨ha.bxs e (by decide) (by decide), hb'.bxs e (by decide) (by decide), hd.bxs (Nat.le_refl _) e (by decide)⟩
    have hu1 : u.oneCell' = true := v17.one
    have last : ∀ (v : Value) (zb : List (List Int)) (W : World), (VwR w4.heap.size W u za ∧ VwR w4.heap.size W v zb ∧ Dq w b cv zs w4.heap.size W) → spec_DrawMeetLocks_k18 w (fun r w' => ∃ (M : Mk) (u v : Value) (za zb : List (List Int)), r = .tuple #[M.v, lkV u, lkV v] ∧ VwR w.heap.size w' u za ∧ VwR w.heap.size w' v zb ∧ Ext w w') M.c M.d M.s M.m M.l u v W := by
      intro v zb W q W1 e1
      have q1 := X q e1
      have hv1 : v.oneCell' = true := q.2.1.one
      clear q e1
      repeat' first
        | exact E _ _ _ (by assumption)
        | exact And.intro hu1 trivial
        | refine And.intro ?_ ?_
        | refine oneC_iff.2 (And.intro hu1 ?_)
        | refine oneC_iff.2 (And.intro hv1 ?_)
        | (intro W2 e2; first | replace q1 := B1 q1 e2 | replace q1 := B2 q1 e2)
    refine (spec_IsMaker_val M.c M.d M.s M.m M.l w17).call fun w20 h20 => ⟨_, rfl, h20.keeps, fun hno w22 h22 => ?_, fun hyes => ?_⟩
    · have q1 := X (X (v := u) (zb := za) ⟨v17, v17, d17⟩ h20) h22
      repeat' first
        | exact E _ _ _ (by assumption)
        | refine And.intro ?_ ?_
        | refine oneC_iff.2 (And.intro hu1 ?_)
        | (intro W2 e2; first | replace q1 := B1 q1 e2 | replace q1 := B2 q1 e2)
    have hok : MkOk M.c M.d M.s M.m M.l := nd_f hyes
    have d20 := d17.ext h20
    have v20 := v17.ext h20
    refine d20.valid (M := M) hok (by decide) fun v zb w49 hl o49 d49 p49 => fun w51 h51 => o49.rr.oneC fun w52 b52 => ?_
    have q52 := B2 (X ⟨v20.dr p49 hb, o49.vw, d49⟩ h51) b52
    refine q52.2.2.next 3 (by decide) fun n w54 n0 n1 d54 p54 _ => ?_
    have q54 : VwR w4.heap.size w54 u za ∧ VwR w4.heap.size w54 v zb ∧ Dq w b cv zs w4.heap.size w54 := ⟨q52.1.dr p54 hb, q52.2.1.dr p54 hb, d54⟩
    refine ⟨fun _ => ?_, fun _ => last v zb w54 q54⟩
    refine (spec_IsLock_val M.c M.d M.s M.m M.l u za w54 q54.1.rr).call fun w55 h55 => ⟨_, rfl, h55.keeps, fun hk => ?_, fun _ => last v zb w55 (X q54 h55)⟩
    have q55 := X q54 h55
    refine (spec_JoinLocks_ret M u v za zb w55 q55.1.rr q55.2.1.rr).call ?_
    rintro _ w56 ⟨x, rfl, o56, h56⟩
    have q56 : VwR w4.heap.size w56 u za ∧ VwR w4.heap.size w56 x (joinR M za zb) ∧ Dq w b cv zs w4.heap.size w56 := ⟨q55.1.ext h56, o56.vw.mono q55.2.2.2.2, q55.2.2.ext h56⟩
    exact ⟨x, _, rfl, h56.keeps, o56.rr.oneC fun w57 b57 => last x _ w57 (B2 q56 b57)⟩)
end Go.Proofs
