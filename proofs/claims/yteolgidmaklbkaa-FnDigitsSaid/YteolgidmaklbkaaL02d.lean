/- Contracts: the first key, the first keys, the key with a rank, the key with a text. No condition. -/
import Derived.Test.YteolgidmaklbkaaL02c
import Derived.Test.YteolgidmaklbkaaMat
set_option linter.unusedVariables false
namespace Go.Proofs
open Go.Sx Go.RowKit

/-- a call hands back a row of its own and a code -/
def SlR (f : FuncId) (args : Array Value) (w : World) (zs : List Int) (code : Int) : Prop :=
  Ret Try.prog f args w fun r w' => ∃ u, r = .tuple #[u, .int .i64 code] ∧ Own w.heap.size w' 2 u (ints zs) ∧ Ext w w'
/-- a call hands back a slice of rows of its own and a code -/
def SsR (f : FuncId) (args : Array Value) (w : World) (zss : List (List Int)) (code : Int) : Prop :=
  Ret Try.prog f args w fun r w' => ∃ u, r = .tuple #[u, .int .i64 code] ∧ OwnR w.heap.size w' u zss ∧ Ext w w'

/-! ### the first key -/
def spec_l02First_A (m_Chambers : Int) (m_Depths : Int) (m_Step : Int) (m_Same : Int) (m_Least : Int) (v : Value) (p : List Int) (w : World) : Nat → Ann := fun κ => match κ with
  | 0 => { σ := Int, sli := [6], slc := fun s => [SV.v (Value.int .i64 s)], bxi := [], bxc := fun s => [], inv := fun s W => True, μ := fun s W => 0, free := true }
  | _ => { σ := Unit, sli := [], slc := fun _ => [], bxi := [], bxc := fun _ => [], inv := fun _ _ => False, μ := fun _ _ => 0 }
abbrev spec_l02First_k0 (s55 : Int) (w56 : World) (J57 : Int → World → Prop) (m58 : Int → World → Nat) (x87 : Int) (w109 : World) : Prop :=
  I64 (x87 + 1) ∧ ∃ s110 : Int, (Value.int .i64 (x87 + 1)) = (Value.int .i64 s110) ∧ (J57 s110 w109) ∧ (m58 s110 w109) < (m58 s55 w56)
abbrev spec_l02First_k1 (w : World) (Post : Value → World → Prop) (s55 : Int) (w56 : World) (J57 : Int → World → Prop) (m58 : Int → World → Nat) (w63 : World) (x67 : Int) (x70 : Int) (x71 : Int) (x72 : Int) (x73 : Int) (x74 : Int) (x76 : Value) (x77 : Int) (w78 : World) : Prop :=
  ∀ (v79 : Value) (w80 : World), Own w78.heap.size w80 2 v79 [(Value.int .i64 x77)] → Ext w78 w80 → AppV w80 2 x76 v79 (fun v81 w82 => Ext w63 w82 ∧ Calls Try.prog 147 #[(Value.agg #[(Value.int .i64 x70), (Value.int .i64 x71), (Value.int .i64 x72), (Value.int .i64 x73), (Value.int .i64 x74)]), v81] w82 (fun e83 w84 => ∃ u85 : Value, ∃ b86 : Bool, e83 = .returned (Value.tuple #[u85, (Value.bool b86)]) ∧ Keeps w.heap.size [56] w82 w84 ∧ Ext w63 w84 ∧ ((b86 = true → Post (Value.tuple #[u85, (Value.bool true)]) w84) ∧ (b86 = false → (spec_l02First_k0 s55 w56 J57 m58 x67 w84)))))
abbrev spec_l02First_k2 (w : World) (Post : Value → World → Prop) (s55 : Int) (w56 : World) (J57 : Int → World → Prop) (m58 : Int → World → Nat) (w63 : World) (x113 : Int) (x116 : Int) (x117 : Int) (x118 : Int) (x119 : Int) (x120 : Int) (x121 : Value) (x123 : Value) (w124 : World) : Prop :=
  Calls Try.prog 173 #[x121] w124 (fun e125 w126 => ∃ u127 : Value, e125 = .returned u127 ∧ Keeps w.heap.size [56] w124 w126 ∧ Ext w63 w126 ∧ AppV w126 2 u127 x123 (fun v128 w129 => Ext w63 w129 ∧ Calls Try.prog 147 #[(Value.agg #[(Value.int .i64 x116), (Value.int .i64 x117), (Value.int .i64 x118), (Value.int .i64 x119), (Value.int .i64 x120)]), v128] w129 (fun e130 w131 => ∃ u132 : Value, ∃ b133 : Bool, e130 = .returned (Value.tuple #[u132, (Value.bool b133)]) ∧ Keeps w.heap.size [56] w129 w131 ∧ Ext w63 w131 ∧ ((b133 = true → Post (Value.tuple #[u132, (Value.bool true)]) w131) ∧ (b133 = false → (spec_l02First_k0 s55 w56 J57 m58 x113 w131))))))
abbrev spec_l02First_k3 (w : World) (Post : Value → World → Prop) (x36 : Value) (x48 : Int) (x49 : Int) (x50 : Int) (x51 : Int) (x52 : Int) (s55 : Int) (w56 : World) (J57 : Int → World → Prop) (m58 : Int → World → Nat) (x59 : Int) (w62 : World) : Prop :=
  ∀ w63 : World, Ext w62 w63 → ((Calls Try.prog 173 #[x36] w63 (fun e64 w65 => ∃ u66 : Value, e64 = .returned u66 ∧ Keeps w.heap.size [56] w63 w65 ∧ Ext w63 w65 ∧ (spec_l02First_k1 w Post s55 w56 J57 m58 w63 x59 x48 x49 x50 x51 x52 u66 x59 w65))) ∧ (∀ (v111 : Value) (w112 : World), Own w63.heap.size w112 2 v111 [(Value.int .i64 x59)] → Ext w63 w112 → (spec_l02First_k2 w Post s55 w56 J57 m58 w63 x59 x48 x49 x50 x51 x52 x36 v111 w112)))
abbrev spec_l02First_k4 (w : World) (Post : Value → World → Prop) (x36 : Value) (x48 : Int) (x49 : Int) (x50 : Int) (x51 : Int) (x52 : Int) (w53 : World) : Prop :=
  (∃ (J57 : Int → World → Prop) (m58 : Int → World → Nat), ((∃ s54 : Int, (Value.int .i64 0) = (Value.int .i64 s54) ∧ (J57 s54 w53)) ∧ ∀ (s55 : Int) (w56 : World), (J57 s55 w56) → (((s55 < x49) → (spec_l02First_k3 w Post x36 x48 x49 x50 x51 x52 s55 w56 J57 m58 s55 w56)) ∧ (¬ (s55 < x49) → Post (Value.tuple #[(Value.slice none 0 0), (Value.bool false)]) w56))))
abbrev spec_l02First_k5 (w : World) (Post : Value → World → Prop) (x10 : Value) (x19 : Int) (x20 : Int) (x21 : Int) (x22 : Int) (x23 : Int) (w24 : World) : Prop :=
  LenV x10 (fun n25 => (((n25 = x19) → ∃ n29 : Int, (∀ w26 : World, Ext w24 w26 → Calls Try.prog 167 #[x10] w26 (fun e27 w28 => e27 = .returned (Value.int .i64 n29) ∧ Ext w26 w28)) ∧ ∀ w30 : World, Ext w24 w30 → Post (Value.tuple #[x10, (Value.bool (decide (x23 ≤ n29)))]) w30) ∧ (¬ (n25 = x19) → (spec_l02First_k4 w Post x10 x19 x20 x21 x22 x23 w24))))
def spec_l02First_vc (m_Chambers : Int) (m_Depths : Int) (m_Step : Int) (m_Same : Int) (m_Least : Int) (v : Value) (p : List Int) (w : World) (Post : Value → World → Prop) : Prop :=
  ∀ w1 : World, Ext w w1 → Calls Try.prog 172 #[(Value.agg #[(Value.int .i64 m_Chambers), (Value.int .i64 m_Depths), (Value.int .i64 m_Step), (Value.int .i64 m_Same), (Value.int .i64 m_Least)]), v] w1 (fun e2 w3 => ∃ b4 : Bool, e2 = .returned (Value.bool b4) ∧ Keeps w.heap.size [56] w1 w3 ∧ (((!b4) = true → Post (Value.tuple #[(Value.slice none 0 0), (Value.bool false)]) w3) ∧ ((!b4) = false → (spec_l02First_k5 w Post v m_Chambers m_Depths m_Step m_Same m_Least w3))))
theorem spec_l02First_eq (m_Chambers : Int) (m_Depths : Int) (m_Step : Int) (m_Same : Int) (m_Least : Int) (v : Value) (p : List Int) (w : World) (Post : Value → World → Prop) : denF Try.prog [1000173, 9000001] (spec_l02First_A m_Chambers m_Depths m_Step m_Same m_Least v p w) 147 [(Value.agg #[(Value.int .i64 m_Chambers), (Value.int .i64 m_Depths), (Value.int .i64 m_Step), (Value.int .i64 m_Same), (Value.int .i64 m_Least)]), v] w Post = spec_l02First_vc m_Chambers m_Depths m_Step m_Same m_Least v p w Post := by kernel_rfl
set_option maxRecDepth 100000 in
theorem spec_l02First_calls (m_Chambers : Int) (m_Depths : Int) (m_Step : Int) (m_Same : Int) (m_Least : Int) (v : Value) (p : List Int) (w : World) (Post : Value → World → Prop) (hvc : spec_l02First_vc m_Chambers m_Depths m_Step m_Same m_Least v p w Post) : Ret Try.prog 147 #[(Value.agg #[(Value.int .i64 m_Chambers), (Value.int .i64 m_Depths), (Value.int .i64 m_Step), (Value.int .i64 m_Same), (Value.int .i64 m_Least)]), v] w Post :=
  Ret.of (denF_sound mixed (Eq.mpr (spec_l02First_eq m_Chambers m_Depths m_Step m_Same m_Least v p w Post) hvc))

theorem spec_l02First_ret {M : Mk} (hM : M.Ok) : ∀ (n : Nat) (p : List Int) (v : Value) (w : World), (p.length : Int) + n = M.c → CutsOk M.d p → RI w v p →
    Ret Try.prog 147 #[mkV M.c M.d M.s M.m M.l, v] w fun r w' => Ext w w' ∧ ∃ u ok, r = .tuple #[u, .bool ok] ∧ u.oneCell' = true ∧ ((ok = false ∧ GA M n p = []) ∨ ∃ k rest, ok = true ∧ GA M n p = k :: rest ∧ ((n = 0 ∧ u = v) ∨ Own w.heap.size w' 2 u (ints k))) := by
  have hM' := hM
  obtain ⟨hm1, hm2, hm3, hm4, hm5⟩ := hM
  intro n
  induction n with
  | zero =>
    intro p v w hp hc hv
    refine spec_l02First_calls M.c M.d M.s M.m M.l v p w _ ?_
    unfold spec_l02First_vc
    intro w1 h1
    refine (spec_l02Begins_val M.c M.d M.s M.m M.l v p w1 (hv.ext h1) (by omega) hc).call fun w2 h2 => ⟨_, rfl, h2.keeps, fun hb => ⟨h1.trans h2, _, false, rfl, rfl, .inl ⟨rfl, ?_⟩⟩, fun hb => ?_⟩
    · rw [GA, G_not (nd_t hb)]
    · have hv2 := (hv.ext h1).ext h2
      refine hv2.len ⟨fun _ => ⟨_, fun w3 h3 => (spec_l02Kinds_val v p w3 (hv2.ext h3)).call fun _ h => ⟨rfl, h⟩, fun w3 h3 => ⟨(h1.trans h2).trans h3, v, _, rfl, hv.one, ?_⟩⟩, fun hne => absurd (by omega) hne⟩
      by_cases hl : M.l ≤ (kinds p : Int)
      · refine .inr ⟨p, [], decide_eq_true hl, ?_, .inl ⟨rfl, rfl⟩⟩
        simp only [GA, G]; rw [if_pos ⟨nd_f hb, hl⟩]
      · refine .inl ⟨decide_eq_false hl, ?_⟩
        simp only [GA, G]; rw [if_neg fun h => hl h.2]
  | succ n ih =>
    intro p v w hp hc hv
    refine spec_l02First_calls M.c M.d M.s M.m M.l v p w _ ?_
    unfold spec_l02First_vc
    intro w1 h1
    refine (spec_l02Begins_val M.c M.d M.s M.m M.l v p w1 (hv.ext h1) (by omega) hc).call fun w2 h2 => ⟨_, rfl, h2.keeps, fun hb => ⟨h1.trans h2, _, false, rfl, rfl, .inl ⟨rfl, ?_⟩⟩, fun hb => ?_⟩
    · rw [GA, G_not (nd_t hb)]
    · have hv2 := (hv.ext h1).ext h2
      refine hv2.len ⟨fun he => absurd he (by omega), fun _ => ?_⟩
      refine ⟨fun x W => 0 ≤ x ∧ x ≤ M.d ∧ upto M n p x = [] ∧ Ext w W, fun x _ => (M.d - x).toNat, ⟨0, rfl, Int.le_refl _, by omega, rfl, h1.trans h2⟩, ?_⟩
      rintro x w3 ⟨hx0, hx, hk, h3⟩
      refine ⟨fun hlt => ?_, fun hge => ⟨h3, _, false, rfl, rfl, .inl ⟨rfl, ?_⟩⟩⟩
      · intro w4 h4
        refine own_snoc ((hv.ext h3).ext h4) (by omega) fun u w5 o5 h5 => ?_
        refine (ih (p ++ [x]) u w5 (by simp; omega) (hc.snoc hx0 hlt) o5.rd).call ?_
        rintro _ w6 ⟨h6, u6, ok, rfl, hone, hor⟩
        have k6 := ((h3.trans h4).trans h5).trans h6
        refine ⟨u6, ok, rfl, h6.keeps, h5.trans h6, fun hok => ⟨k6, u6, true, rfl, hone, .inr ?_⟩, fun hno => ?_⟩
        · rcases hor with ⟨h, _⟩ | ⟨k, rest, _, hg, ho⟩
          · rw [hok] at h; cases h
          · obtain ⟨r, hr⟩ := upto_pre (M := M) (n := n) (p := p) (x := x + 1) (by omega)
            rw [upto_succ hx0, hk, hg, List.nil_append] at hr
            refine ⟨k, rest ++ r, rfl, hr, .inr ?_⟩
            rcases ho with ⟨rfl, rfl⟩ | ho
            · have hkp : k = p ++ [x] := by
                have hmem : k ∈ GA M 0 (p ++ [x]) := by rw [hg]; exact List.mem_cons_self ..
                obtain ⟨t, ht, hl⟩ := G_pre hmem
                have : t = [] := List.eq_nil_of_length_eq_zero hl
                rw [ht, this, List.append_nil]
              rw [hkp]
              exact (o5.ext h6).mono ((h3.trans h4).size)
            · exact ho.mono (((h3.trans h4).trans h5).size)
        · rcases hor with ⟨_, hg⟩ | ⟨k, rest, h, _⟩
          · refine ⟨by unfold I64; omega, x + 1, rfl, ⟨by omega, by omega, ?_, k6⟩, by simp only; omega⟩
            rw [upto_succ hx0, hk, hg]
            rfl
          · rw [hno] at h; cases h
      · have : x = M.d := by omega
        rw [← upto_all, ← this, hk]
def firstKey (M : Mk) : List Int := if MkOk M.c M.d M.s M.m M.l then (keys M).headD [] else []
def makerCode (M : Mk) : Int := if MkOk M.c M.d M.s M.m M.l then 0 else 1
abbrev spec_FirstKey_k0 (w : World) (Post : Value → World → Prop) (x18 : Int) (x19 : Int) (x20 : Int) (x21 : Int) (x22 : Int) (w23 : World) : Prop :=
  Calls Try.prog 147 #[(Value.agg #[(Value.int .i64 x18), (Value.int .i64 x19), (Value.int .i64 x20), (Value.int .i64 x21), (Value.int .i64 x22)]), (Value.slice none 0 0)] w23 (fun e24 w25 => ∃ u26 : Value, ∃ b27 : Bool, e24 = .returned (Value.tuple #[u26, (Value.bool b27)]) ∧ Keeps w.heap.size [56] w23 w25 ∧ Post (Value.tuple #[u26, (Value.int .i64 0)]) w25)
def spec_FirstKey_vc (m_Chambers : Int) (m_Depths : Int) (m_Step : Int) (m_Same : Int) (m_Least : Int) (w : World) (Post : Value → World → Prop) : Prop :=
  ∀ w1 : World, Ext w w1 → Calls Try.prog 85 #[(Value.agg #[(Value.int .i64 m_Chambers), (Value.int .i64 m_Depths), (Value.int .i64 m_Step), (Value.int .i64 m_Same), (Value.int .i64 m_Least)])] w1 (fun e2 w3 => ∃ b4 : Bool, e2 = .returned (Value.bool b4) ∧ Keeps w.heap.size [56] w1 w3 ∧ (((!b4) = true → Post (Value.tuple #[(Value.slice none 0 0), (Value.int .i64 1)]) w3) ∧ ((!b4) = false → (spec_FirstKey_k0 w Post m_Chambers m_Depths m_Step m_Same m_Least w3))))
theorem spec_FirstKey_eq (m_Chambers : Int) (m_Depths : Int) (m_Step : Int) (m_Same : Int) (m_Least : Int) (w : World) (Post : Value → World → Prop) : denF Try.prog [] noAnn 83 [(Value.agg #[(Value.int .i64 m_Chambers), (Value.int .i64 m_Depths), (Value.int .i64 m_Step), (Value.int .i64 m_Same), (Value.int .i64 m_Least)])] w Post = spec_FirstKey_vc m_Chambers m_Depths m_Step m_Same m_Least w Post := by kernel_rfl
set_option maxRecDepth 100000 in
theorem spec_FirstKey_calls (m_Chambers : Int) (m_Depths : Int) (m_Step : Int) (m_Same : Int) (m_Least : Int) (w : World) (Post : Value → World → Prop) (hvc : spec_FirstKey_vc m_Chambers m_Depths m_Step m_Same m_Least w Post) : Ret Try.prog 83 #[(Value.agg #[(Value.int .i64 m_Chambers), (Value.int .i64 m_Depths), (Value.int .i64 m_Step), (Value.int .i64 m_Same), (Value.int .i64 m_Least)])] w Post :=
  Ret.of (denF_sound mixed (Eq.mpr (spec_FirstKey_eq m_Chambers m_Depths m_Step m_Same m_Least w Post) hvc))

theorem spec_FirstKey_ret (M : Mk) (w : World) : SlR 83 #[mkV M.c M.d M.s M.m M.l] w (firstKey M) (makerCode M) :=
  spec_FirstKey_calls M.c M.d M.s M.m M.l w _ (by
    unfold spec_FirstKey_vc
    intro w1 h1
    refine (spec_IsMaker_val ..).call fun w2 h2 => ⟨_, rfl, h2.keeps, fun hb => ?_, fun hb => ?_⟩
    · have hm := nd_t hb
      unfold firstKey makerCode
      rw [if_neg hm, if_neg hm]
      exact ⟨_, rfl, Own.nil_ _ _ _, h1.trans h2⟩
    · have hm' := nd_f hb
      have hm : M.Ok := hm'
      unfold firstKey makerCode
      rw [if_pos hm', if_pos hm']
      obtain ⟨m1, m2, _⟩ := id hm
      refine (spec_l02First_ret hm M.c.toNat [] (.slice none 0 0) w2 (by simp; omega) (by intro z hz; simp at hz) (RI.nil_ w2 0 (Nat.zero_le _))).call ?_
      rintro _ w3 ⟨h3, u, ok, rfl, _, ⟨_, hg⟩ | ⟨k, rest, rfl, hg, ⟨h0, _⟩ | ho⟩⟩
      · exact absurd hg (keys_ne hm)
      · omega
      · refine ⟨u, _, rfl, h3.keeps, u, rfl, ?_, (h1.trans h2).trans h3⟩
        show Own _ _ _ _ (ints ((GA M M.c.toNat []).headD []))
        rw [hg]
        exact ho.mono ((h1.trans h2).size))

/-! ### the first keys from some cuts on -/
def impl_firstKeys_1_vc (k : Value) (b0 : Nat) (b1 : Nat) (w : World) (Post : Value → World → Prop) : Prop :=
  ∀ w1 : World, Ext w w1 → ∃ u2 : Value, LdV w1 (Value.pointer (some (⟨b0, 0, none⟩))) u2 ∧ Calls Try.prog 170 #[k] w1 (fun e3 w4 => ∃ u5 : Value, e3 = .returned u5 ∧ Keeps w.heap.size [] w1 w4 ∧ Ext w1 w4 ∧ oneC u5 (∀ (v6 : Value) (w7 : World), Own w4.heap.size w7 22 v6 [u5] → Ext w4 w7 → AppV w7 22 u2 v6 (fun v8 w9 => StV w.heap.size [] w9 (Value.pointer (some (⟨b0, 0, none⟩))) v8 (fun w10 => ∃ u11 : Value, LdV w10 (Value.pointer (some (⟨b0, 0, none⟩))) u11 ∧ LenV u11 (fun n12 => ∃ n13 : Int, LdV w10 (Value.pointer (some (⟨b1, 0, none⟩))) (Value.int .i64 n13) ∧ Post (Value.bool (decide (n12 < n13))) w10)))))
theorem impl_firstKeys_1_eq (k : Value) (b0 : Nat) (b1 : Nat) (w : World) (Post : Value → World → Prop) : denF Try.prog [1000170] noAnn 169 [k, (Value.pointer (some (⟨b0, 0, none⟩))), (Value.pointer (some (⟨b1, 0, none⟩)))] w Post = impl_firstKeys_1_vc k b0 b1 w Post := by kernel_rfl
set_option maxRecDepth 100000 in
theorem impl_firstKeys_1_calls (k : Value) (b0 : Nat) (b1 : Nat) (w : World) (Post : Value → World → Prop) (hvc : impl_firstKeys_1_vc k b0 b1 w Post) : Ret Try.prog 169 #[k, (Value.pointer (some (⟨b0, 0, none⟩))), (Value.pointer (some (⟨b1, 0, none⟩)))] w Post :=
  Ret.of (denF_sound mixed (Eq.mpr (impl_firstKeys_1_eq k b0 b1 w Post) hvc))

/-- rows of the call's own, all in different blocks, none of them protected -/
def OwnK (B : Nat) (K : Nat → Prop) (w : World) (v : Value) (zss : List (List Int)) : Prop :=
  ∃ us, Own B w 22 v us ∧ (∀ g, v.ownBlock = some g → ¬ K g) ∧ Rows (fun u z => Own B w 2 u (ints z) ∧ ∀ g, u.ownBlock = some g → ¬ K g) us zss ∧ us.Pairwise Apart
theorem OwnK.ownR {B : Nat} {K : Nat → Prop} {w : World} {v : Value} {zss : List (List Int)} (h : OwnK B K w v zss) : OwnR B w v zss := by
  obtain ⟨us, h1, _, h3, h4⟩ := h
  exact ⟨us, h1, h3.map fun u z hz => hz.1, h4⟩
theorem OwnK.env {B : Nat} {K : Nat → Prop} {w w' : World} {v : Value} {zss : List (List Int)} (h : OwnK B K w v zss) (hp : Pres (fun b => ¬ K b) w w') : OwnK B (grow K w w') w' v zss := by
  obtain ⟨us, h1, h2, h3, h4⟩ := h
  have keep : ∀ {e : TypeId} {u : Value} {xs : List Value}, Own B w e u xs → (∀ g, u.ownBlock = some g → ¬ K g) → Own B w' e u xs ∧ ∀ g, u.ownBlock = some g → ¬ grow K w w' g := by
    intro e u xs ho hk
    refine ⟨ho.keep fun g hg => hp.block g (ho.lt hg).2 (hk g hg), fun g hg hgr => ?_⟩
    rcases hgr with hgr | hgr
    · exact hk g hg hgr
    · have := (ho.lt hg).2
      omega
  exact ⟨us, (keep h1 h2).1, (keep h1 h2).2, h3.map fun u z hz => keep hz.1 hz.2, h4⟩
/-- the visitor that collects the first keys -/
def firstJ (B b0 b1 : Nat) (most : Int) : (Nat → Prop) → List (List Int) → World → Prop := fun K done w =>
  ¬ K b0 ∧ ¬ K b1 ∧ w.heap[b1]? = some (.cells #[.int .i64 most] 2 (0, 0)) ∧ ∃ v, w.heap[b0]? = some (.cells #[v] 49 (0, 0)) ∧ OwnK B K w v done
theorem own_type_ne {B : Nat} {w : World} {e : TypeId} {u : Value} {xs : List Value} (h : Own B w e u xs) {b : Nat} {cs : Array Value} {T : TypeId} {fz : Nat × Nat} (hb : w.heap[b]? = some (.cells cs T fz)) (hT : T ≠ e) : u.ownBlock ≠ some b := by
  intro hu
  rcases h.2 with ⟨rfl, _⟩ | ⟨g, cap, cur, rfl, _, hh, _⟩
  · simp [Value.ownBlock] at hu
  · have : g = b := by simpa [Value.ownBlock] using hu
    subst this
    rw [hb] at hh
    injection hh with hh
    injection hh with _ he _
    exact hT he
theorem first_visitor (B b0 b1 : Nat) (hB : B ≤ b0) (hne : b0 ≠ b1) (most : Int) {L : List (List Int)} (hL : L.length ≤ 1000000) (hk : ∀ k ∈ L, k ≠ [] ∧ k.length ≤ 100) : Visitor Try.prog 169 [bp b0, bp b1] (firstJ B b0 b1 most) (fun done _ => decide (((done.length + 1 : Nat) : Int) < most)) L where
  ok := by kernel_rfl
  env := by
    rintro K done w w' ⟨h1, h2, h3, v, h4, h5⟩ hp
    refine ⟨fun hg => hg.elim h1 fun hg => absurd (heap_lt h4) (by omega), fun hg => hg.elim h2 fun hg => absurd (heap_lt h3) (by omega), (hp.block _ (heap_lt h3) h2).trans h3, v, (hp.block _ (heap_lt h4) h1).trans h4, h5.env hp⟩
  call := by
    rintro K done k w v ⟨h1, h2, h3, sv, h4, us, o1, o2, o3, o4⟩ hK hv ⟨r, hr⟩
    have hlen := congrArg List.length hr
    simp only [List.length_append, List.length_cons] at hlen
    obtain ⟨hk1, hk2⟩ := hk k (by rw [hr]; simp)
    have hus : us.length = done.length := o3.1
    refine (impl_firstKeys_1_calls v b0 b1 w (fun u w' => u = .bool (decide (((done.length + 1 : Nat) : Int) < most)) ∧ Pres K w w' ∧ firstJ B b0 b1 most K (done ++ [k]) w') ?_).call fun u w' h => ⟨by rw [h.1], h.2⟩
    unfold impl_firstKeys_1_vc
    intro w1 e1
    have c4 := (e1.block _ (heap_lt h4)).trans h4
    refine ⟨sv, ld_one c4, ?_⟩
    refine (slices_Clone_ret v k w1 (hv w1 (e1.pres _)) (by omega) hk1).call ?_
    rintro u w4 ⟨ou, e4⟩
    refine ⟨u, rfl, e4.keeps, e4, ou.rd.oneC fun rv w7 orv e7 => ?_⟩
    have e07 := e1.trans (e4.trans e7)
    have o1' := o1.ext e07
    have z0 := heap_lt h4
    have z1 := e1.size
    have z4 := e4.size
    have z7 := e7.size
    refine o1'.app1 orv ou.rd.one (by omega) (by omega) fun v' w9 o9 g9 hb9 => ?_
    have z9 := g9.size
    have keep9 : ∀ {b : Nat} {cs : Array Value} {T : TypeId}, w.heap[b]? = some (.cells cs T (0, 0)) → T ≠ 22 → w9.heap[b]? = some (.cells cs T (0, 0)) := by
      intro b cs T hb hT
      have h7 := (e07.block _ (heap_lt hb)).trans hb
      exact (g9.block b (heap_lt h7) fun e => own_type_ne o1' h7 hT e.symm).trans h7
    have c9 := keep9 h4 (by decide)
    have d9 := keep9 h3 (by decide)
    refine st_one c9 o9.rd.one (.inr (by simp)) fun w10 c10 p10 z10 => ?_
    have keep10 : ∀ {e : TypeId} {x : Value} {xs : List Value}, e ≠ 49 → Own B w9 e x xs → Own B w10 e x xs := fun he ho => ho.keep fun g hg => p10.block g (ho.lt hg).2 (by rintro rfl; exact own_type_ne ho c9 (Ne.symm he) hg)
    have o10 := keep10 (by decide) o9
    refine ⟨v', ld_one c10, o10.rd.len ⟨_, ld_one ((p10.block b1 (heap_lt d9) (Ne.symm hne)).trans d9), beq_val ?_, ?_, h1, h2, (p10.block b1 (heap_lt d9) (Ne.symm hne)).trans d9, v', c10, us ++ [u], o10, ?_, ?_, ?_⟩⟩
    · rw [List.length_append, List.length_singleton, hus]
    · refine ((e07.pres K).trans (grown_pres g9 o2)).trans (p10.mono fun b _ hb => ?_)
      rintro rfl
      exact h1 hb
    · intro g hg
      rcases hb9 with hb9 | hb9
      · rw [hb9] at hg
        exact o2 g hg
      · rw [hb9] at hg
        have : w7.heap.size = g := by simpa using hg
        intro hKg
        have := hK g hKg
        omega
    · refine Rows.snoc (o3.map fun x z hz => ⟨keep10 (by decide) ((hz.1.ext e07).grown g9 (Apart.types (hz.1.ext e07) o1' (by decide))), hz.2⟩) ⟨?_, fun g hg hKg => ?_⟩
      · have ou' := (ou.ext e7).mono (show B ≤ w1.heap.size by omega)
        exact keep10 (by decide) (ou'.grown g9 (Apart.types ou' o1' (by decide)))
      · have := (ou.lt hg).1
        have := hK g hKg
        omega
    · rw [List.pairwise_append]
      refine ⟨o4, by simp, fun x hx y hy => ?_⟩
      simp only [List.mem_singleton] at hy
      subst hy
      obtain ⟨i, hi, rfl⟩ := List.getElem_of_mem hx
      have hik : i < done.length := by omega
      exact Apart.new ((o3.get hik).1.ext e1) ou
abbrev impl_firstKeys_k0 (Post : Value → World → Prop) (x21 : Addr) (w36 : World) : Prop :=
  ∃ u37 : Value, LdV w36 (Value.pointer (some x21)) u37 ∧ Post u37 w36
def impl_firstKeys_vc (m_Chambers : Int) (m_Depths : Int) (m_Step : Int) (m_Same : Int) (m_Least : Int) (fr : Value) (al : Value) (most : Int) (w : World) (Post : Value → World → Prop) : Prop :=
  ∀ w1 : World, Ext w w1 → ∀ (b3 : Nat) (w2 : World), Ext w1 w2 → w1.heap.size ≤ b3 → w2.heap[b3]? = some (.cells #[(Value.int .i64 most)] 2 (0, 0)) → ∀ (v4 : Value) (w5 : World), Own w2.heap.size w5 22 v4 [] → Ext w2 w5 → ∀ (b7 : Nat) (w6 : World), Ext w5 w6 → w5.heap.size ≤ b7 → w6.heap[b7]? = some (.cells #[(Value.slice none 0 0)] 49 (0, 0)) → StV w.heap.size [56] w6 (Value.pointer (some (⟨b7, 0, none⟩))) v4 (fun w8 => ∃ n9 : Int, LdV w8 (Value.pointer (some (⟨b3, 0, none⟩))) (Value.int .i64 n9) ∧ ((((0 : Int) < n9) → Calls Try.prog 168 #[(Value.agg #[(Value.int .i64 m_Chambers), (Value.int .i64 m_Depths), (Value.int .i64 m_Step), (Value.int .i64 m_Same), (Value.int .i64 m_Least)]), fr, al, (Value.func (.func 169) #[] #[(Value.pointer (some (⟨b7, 0, none⟩))), (Value.pointer (some (⟨b3, 0, none⟩)))])] w8 (fun e10 w11 => e10 = .returned (Value.tuple #[]) ∧ Keeps w.heap.size [56] w8 w11 ∧ (impl_firstKeys_k0 Post (⟨b7, 0, none⟩) w11))) ∧ (¬ ((0 : Int) < n9) → (impl_firstKeys_k0 Post (⟨b7, 0, none⟩) w8))))
theorem impl_firstKeys_eq (m_Chambers : Int) (m_Depths : Int) (m_Step : Int) (m_Same : Int) (m_Least : Int) (fr : Value) (al : Value) (most : Int) (w : World) (Post : Value → World → Prop) : denF Try.prog [7, 9] noAnn 137 [(Value.agg #[(Value.int .i64 m_Chambers), (Value.int .i64 m_Depths), (Value.int .i64 m_Step), (Value.int .i64 m_Same), (Value.int .i64 m_Least)]), fr, al, (Value.int .i64 most)] w Post = impl_firstKeys_vc m_Chambers m_Depths m_Step m_Same m_Least fr al most w Post := by kernel_rfl
set_option maxRecDepth 100000 in
theorem impl_firstKeys_calls (m_Chambers : Int) (m_Depths : Int) (m_Step : Int) (m_Same : Int) (m_Least : Int) (fr : Value) (al : Value) (most : Int) (w : World) (Post : Value → World → Prop) (hvc : impl_firstKeys_vc m_Chambers m_Depths m_Step m_Same m_Least fr al most w Post) : Ret Try.prog 137 #[(Value.agg #[(Value.int .i64 m_Chambers), (Value.int .i64 m_Depths), (Value.int .i64 m_Step), (Value.int .i64 m_Same), (Value.int .i64 m_Least)]), fr, al, (Value.int .i64 most)] w Post :=
  Ret.of (denF_sound mixed (Eq.mpr (impl_firstKeys_eq m_Chambers m_Depths m_Step m_Same m_Least fr al most w Post) hvc))

theorem GT_sub {M : Mk} {al : Nat → Int → Bool} {fr : List Int} {tight : Bool} (hc : 0 ≤ M.c) (hcut : CutsOk M.d fr) (htl : tight = true → (fr.length : Int) = M.c) : ∃ q : List Int → Bool, GT M al fr M.c.toNat [] tight = (G M al M.c.toNat []).filter q ∧ ∀ k, tight = false → q k = true := by
  cases tight
  · exact ⟨fun _ => true, by rw [GT_false, filter_true_id], fun _ _ => rfl⟩
  · have hl := htl rfl
    have e := GT_true (M := M) (al := al) hcut M.c.toNat 0 (by omega)
    rw [List.take_zero] at e
    exact ⟨_, e, fun _ h => by cases h⟩
/-- 'firstKeys': the first keys from some cuts on -/
theorem impl_firstKeys_ret {M : Mk} (hM : M.Ok) {al : Nat → Int → Bool} {fr : List Int} {frv alv : Value} {tight : Bool} {most : Int} {w : World} (hal : AlOk Try.prog M.c M.d al (fun W => Ext w W) alv) (hn : NilS frv (!tight)) (hfr : RI w frv fr) (hcut : CutsOk M.d fr) (htl : tight = true → (fr.length : Int) = M.c) :
    Ret Try.prog 137 #[mkV M.c M.d M.s M.m M.l, frv, alv, .int .i64 most] w fun r w' => OwnR w.heap.size w' r ((GT M al fr M.c.toNat [] tight).take most.toNat) ∧ Ext w w' :=
  impl_firstKeys_calls M.c M.d M.s M.m M.l frv alv most w _ (by
    unfold impl_firstKeys_vc
    intro w1 h1 b3 w2 h2 g3 c3 v4 w5 o5 h5 b7 w6 h6 g7 c7
    obtain ⟨q, hq, _⟩ := GT_sub (M := M) (al := al) (fr := fr) (tight := tight) (by have := hM.1; omega) hcut htl
    have hmax : (GT M al fr M.c.toNat [] tight).length ≤ 262144 := by
      rw [hq]
      exact Nat.le_trans (List.length_filter_le _ _) (G_max (by have := hM.2.1; omega) _ (by have := hM.1; omega) _)
    have hlen : ∀ k ∈ GT M al fr M.c.toNat [] tight, k ≠ [] ∧ k.length ≤ 100 := by
      intro k hk
      rw [hq] at hk
      have := G_length (List.mem_filter.1 hk).1
      have hc := hM.1
      simp only [List.length_nil, Nat.zero_add] at this
      exact ⟨fun h => by rw [h] at this; simp at this; omega, by omega⟩
    have z1 := h1.size
    have z2 := h2.size
    have z5 := h5.size
    have z6 := h6.size
    have s3 := heap_lt c3
    have s7 := heap_lt c7
    refine st_one c7 o5.rd.one (.inr (by decide)) fun w8 c8 p8 z8 => ?_
    have X6 := ((h1.trans h2).trans h5).trans h6
    have X8 : Ext w w8 := p8.ext X6 fun b hb => by omega
    have d8 : w8.heap[b3]? = some (.cells #[.int .i64 most] 2 (0, 0)) := (p8.block b3 (by omega) (by omega)).trans (((h5.trans h6).block b3 s3).trans c3)
    have o8 : Own w.heap.size w8 22 v4 [] := by
      refine (o5.mono (show w.heap.size ≤ w2.heap.size by omega)).keep fun g hg => ?_
      have := (o5.lt hg)
      exact (p8.block g (by omega) (by omega)).trans (h6.block g (by omega))
    refine ⟨most, ld_one d8, fun hpos => ?_, fun hneg => ⟨v4, ld_one c8, ⟨[], by simpa using o8, ?_, .nil⟩, X8⟩⟩
    · have hblk : ∀ g, v4.ownBlock = some g → w2.heap.size ≤ g ∧ g < w5.heap.size := fun g hg => o5.lt hg
      have hP : ∀ W, Pres (fun b => b < w8.heap.size ∧ b ≠ b7 ∧ b ≠ b3 ∧ ∀ g, v4.ownBlock = some g → b ≠ g) w8 W → Ext w W := fun W hp => hp.ext X8 fun b hb => ⟨by omega, by omega, by omega, fun g hg => by have := hblk g hg; omega⟩
      have hc := eachKey_calls (M := M) (al := al) (fr := fr) (w := w8) (K0 := fun b => b < w8.heap.size ∧ b ≠ b7 ∧ b ≠ b3 ∧ ∀ g, v4.ownBlock = some g → b ≠ g) (frv := frv) (alv := alv) (tight := tight) hM
        (first_visitor w.heap.size b7 b3 (by omega) (by omega) most (L := GT M al fr M.c.toNat [] tight) (by omega) hlen) (AlOk.mono hal hP) hn (fun w' hp => hfr.ext (hP w' hp)) hcut htl (fun b hb => hb.1)
        ⟨fun h => h.2.1 rfl, fun h => h.2.2.1 rfl, d8, v4, c8, [], o8, fun g hg h => h.2.2.2 g hg rfl, Rows.nil_, .nil⟩
      refine hc.mono ?_
      rintro e w11 ⟨rfl, ⟨K, hK, _, _, _, v, c11, o11⟩, hp⟩
      refine ⟨rfl, hp.keeps fun b cs T fz hb hh hT => ?_, v, ld_one c11, ?_, hP w11 hp⟩
      · refine ⟨heap_lt hh, ?_, ?_, fun g hg => ?_⟩
        · rintro rfl
          rw [c8] at hh
          injection hh with hh
          injection hh with _ he _
          rw [← he] at hT
          exact absurd hT (by decide)
        · rintro rfl
          rw [d8] at hh
          injection hh with hh
          injection hh with _ he _
          rw [← he] at hT
          exact absurd hT (by decide)
        · rintro rfl
          refine own_type_ne o8 hh ?_ hg
          rintro rfl
          exact absurd hT (by decide)
      · have hgo : (fun (done : List (List Int)) (_ : List Int) => decide (((done.length + 1 : Nat) : Int) < most)) = fun d _ => decide (d.length + 1 < most.toNat) := by
          funext d _
          exact decide_eq_decide.2 ⟨fun h => by omega, fun h => by omega⟩
        rw [hgo, vis_most most.toNat _ [] (by simp; omega)] at o11
        exact o11.ownR
    · rw [show most.toNat = 0 by omega, List.take_zero]
      exact Rows.nil_)
theorem OwnR.get {B : Nat} {w : World} {v : Value} {zss : List (List Int)} (h : OwnR B w v zss) {i : Int} (k : Nat) (hi : i = k) (hk : k < zss.length) {R : Value → Prop} (hR : ∀ u, Own B w 2 u (ints zss[k]) → R u) : IxV 1 v i (fun ad => ∃ u : Value, LdV w (.pointer (some ad)) u ∧ R u) := by
  obtain ⟨us, h1, h2, _⟩ := h
  exact h1.rd.ix k hi (by rw [h2.1]; exact hk) fun ad ha => ⟨_, ha, hR _ (h2.get hk)⟩
theorem take1_head {α : Type} {l : List α} (d : α) (h : 0 < (l.take 1).length) : (l.take 1)[0] = l.headD d := by
  cases l with
  | nil => simp at h
  | cons x l => rfl
abbrev impl_FirstKey_k0 (w : World) (Post : Value → World → Prop) (x18 : Int) (x19 : Int) (x20 : Int) (x21 : Int) (x22 : Int) (w23 : World) : Prop :=
  Calls Try.prog 137 #[(Value.agg #[(Value.int .i64 x18), (Value.int .i64 x19), (Value.int .i64 x20), (Value.int .i64 x21), (Value.int .i64 x22)]), (Value.slice none 0 0), Value.nilFunc, (Value.int .i64 1)] w23 (fun e24 w25 => ∃ u26 : Value, e24 = .returned u26 ∧ Keeps w.heap.size [56] w23 w25 ∧ IxV 1 u26 0 (fun ad27 => ∃ u28 : Value, LdV w25 (Value.pointer (some ad27)) u28 ∧ Post (Value.tuple #[u28, (Value.int .i64 0)]) w25))
def impl_FirstKey_vc (m_Chambers : Int) (m_Depths : Int) (m_Step : Int) (m_Same : Int) (m_Least : Int) (w : World) (Post : Value → World → Prop) : Prop :=
  ∀ w1 : World, Ext w w1 → Calls Try.prog 84 #[(Value.agg #[(Value.int .i64 m_Chambers), (Value.int .i64 m_Depths), (Value.int .i64 m_Step), (Value.int .i64 m_Same), (Value.int .i64 m_Least)])] w1 (fun e2 w3 => ∃ b4 : Bool, e2 = .returned (Value.bool b4) ∧ Keeps w.heap.size [56] w1 w3 ∧ (((!b4) = true → Post (Value.tuple #[(Value.slice none 0 0), (Value.int .i64 1)]) w3) ∧ ((!b4) = false → (impl_FirstKey_k0 w Post m_Chambers m_Depths m_Step m_Same m_Least w3))))
theorem impl_FirstKey_eq (m_Chambers : Int) (m_Depths : Int) (m_Step : Int) (m_Same : Int) (m_Least : Int) (w : World) (Post : Value → World → Prop) : denF Try.prog [] noAnn 82 [(Value.agg #[(Value.int .i64 m_Chambers), (Value.int .i64 m_Depths), (Value.int .i64 m_Step), (Value.int .i64 m_Same), (Value.int .i64 m_Least)])] w Post = impl_FirstKey_vc m_Chambers m_Depths m_Step m_Same m_Least w Post := by kernel_rfl
set_option maxRecDepth 100000 in
theorem impl_FirstKey_calls (m_Chambers : Int) (m_Depths : Int) (m_Step : Int) (m_Same : Int) (m_Least : Int) (w : World) (Post : Value → World → Prop) (hvc : impl_FirstKey_vc m_Chambers m_Depths m_Step m_Same m_Least w Post) : Ret Try.prog 82 #[(Value.agg #[(Value.int .i64 m_Chambers), (Value.int .i64 m_Depths), (Value.int .i64 m_Step), (Value.int .i64 m_Same), (Value.int .i64 m_Least)])] w Post :=
  Ret.of (denF_sound mixed (Eq.mpr (impl_FirstKey_eq m_Chambers m_Depths m_Step m_Same m_Least w Post) hvc))

theorem impl_FirstKey_ret (M : Mk) (w : World) : SlR 82 #[mkV M.c M.d M.s M.m M.l] w (firstKey M) (makerCode M) :=
  impl_FirstKey_calls M.c M.d M.s M.m M.l w _ (by
    unfold impl_FirstKey_vc
    intro w1 h1
    refine (impl_IsMaker_val ..).call fun w2 h2 => ⟨_, rfl, h2.keeps, fun hb => ?_, fun hb => ?_⟩
    · have hm := nd_t hb
      unfold firstKey makerCode
      rw [if_neg hm, if_neg hm]
      exact ⟨_, rfl, Own.nil_ _ _ _, h1.trans h2⟩
    · have hm' := nd_f hb
      have hm : M.Ok := hm'
      unfold firstKey makerCode
      rw [if_pos hm', if_pos hm']
      refine (impl_firstKeys_ret (M := M) hm (al := All) (fr := []) (tight := false) (most := 1) (AlOk.all _ _ _ _) NilS.nil_ (RI.nil_ w2 0 (Nat.zero_le _)) (by intro z hz; simp at hz) (by simp)).call ?_
      rintro r w3 ⟨o3, h3⟩
      rw [GT_false] at o3
      have hne := keys_ne hm
      refine ⟨r, rfl, h3.keeps, o3.get 0 rfl ?_ fun u hu => ⟨u, rfl, ?_, (h1.trans h2).trans h3⟩⟩
      · rw [List.length_take]
        have := List.length_pos_iff.2 hne
        show 0 < min _ (GA M M.c.toNat []).length
        simp only [keys] at this
        omega
      · have hz : (List.take (1 : Int).toNat (G M All M.c.toNat []))[0]'(by
            rw [List.length_take]
            have := List.length_pos_iff.2 hne
            simp only [keys, GA] at this
            simp
            omega) = (keys M).headD [] := by
          exact take1_head _ _
        rw [← hz]
        exact hu.mono ((h1.trans h2).size))
theorem firstKey_len (M : Mk) : (firstKey M).length ≤ 1000 := by
  unfold firstKey
  split
  · rename_i hm
    cases hk : keys M with
    | nil => simp
    | cons k r =>
      have := keys_length (M := M) (by have := hm.1; omega) (show k ∈ keys M by rw [hk]; exact List.mem_cons_self ..)
      have := hm.1
      simp only [List.headD_cons]
      omega
  · simp
end Go.Proofs
