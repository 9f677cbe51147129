/- Contracts: the first key, the first keys, the key with a rank, the key with a text. No condition. -/
import Derived.Test.YtjcggcefmpaieaaDoorL02c
import Derived.Test.YtjcggcefmpaieaaDoorMat
set_option linter.unusedVariables false
namespace Go.Proofs
open Go.Sx Go.RowKit

/-- a call hands back a row of its own and a code -/
def SlR (f : FuncId) (args : Array Value) (w : World) (zs : List Int) (code : Int) : Prop :=
  Ret Tryd.prog f args w fun r w' => ∃ u, r = .tuple #[u, .int .i64 code] ∧ Own w.heap.size w' 2 u (ints zs) ∧ Ext w w'
/-- a call hands back a slice of rows of its own and a code -/
def SsR (f : FuncId) (args : Array Value) (w : World) (zss : List (List Int)) (code : Int) : Prop :=
  Ret Tryd.prog f args w fun r w' => ∃ u, r = .tuple #[u, .int .i64 code] ∧ OwnR w.heap.size w' u zss ∧ Ext w w'

/-! ### the first key -/
def spec_l02First_A (m_Chambers : Int) (m_Depths : Int) (m_Step : Int) (m_Same : Int) (m_Least : Int) (v : Value) (p : List Int) (w : World) : Nat → Ann := fun κ => match κ with
  | 0 => { σ := Int, sli := [6], slc := fun s => [SV.v (Value.int .i64 s)], bxi := [], bxc := fun s => [], inv := fun s W => True, μ := fun s W => 0, free := true }
  | _ => { σ := Unit, sli := [], slc := fun _ => [], bxi := [], bxc := fun _ => [], inv := fun _ _ => False, μ := fun _ _ => 0 }
abbrev spec_l02First_k0 (s55 : Int) (w56 : World) (J57 : Int → World → Prop) (m58 : Int → World → Nat) (x87 : Int) (w109 : World) : Prop :=
  I64 (x87 + 1) ∧ ∃ s110 : Int, (Value.int .i64 (x87 + 1)) = (Value.int .i64 s110) ∧ (J57 s110 w109) ∧ (m58 s110 w109) < (m58 s55 w56)
abbrev spec_l02First_k1 (w : World) (Post : Value → World → Prop) (s55 : Int) (w56 : World) (J57 : Int → World → Prop) (m58 : Int → World → Nat) (w63 : World) (x67 : Int) (x70 : Int) (x71 : Int) (x72 : Int) (x73 : Int) (x74 : Int) (x76 : Value) (x77 : Int) (w78 : World) : Prop :=
  ∀ (v79 : Value) (w80 : World), Sx.Own w78.heap.size w80 2 v79 [(Value.int .i64 x77)] → Ext w78 w80 → AppV w80 2 x76 v79 (fun v81 w82 => Ext w63 w82 ∧ Calls Tryd.prog 115 #[(Value.agg #[(Value.int .i64 x70), (Value.int .i64 x71), (Value.int .i64 x72), (Value.int .i64 x73), (Value.int .i64 x74)]), v81] w82 (fun e83 w84 => ∃ u85 : Value, ∃ b86 : Bool, e83 = .returned (Value.tuple #[u85, (Value.bool b86)]) ∧ Keeps w.heap.size [39] w82 w84 ∧ Ext w63 w84 ∧ ((b86 = true → Post (Value.tuple #[u85, (Value.bool true)]) w84) ∧ (b86 = false → (spec_l02First_k0 s55 w56 J57 m58 x67 w84)))))
abbrev spec_l02First_k2 (w : World) (Post : Value → World → Prop) (s55 : Int) (w56 : World) (J57 : Int → World → Prop) (m58 : Int → World → Nat) (w63 : World) (x113 : Int) (x116 : Int) (x117 : Int) (x118 : Int) (x119 : Int) (x120 : Int) (x121 : Value) (x123 : Value) (w124 : World) : Prop :=
  Calls Tryd.prog 130 #[x121] w124 (fun e125 w126 => ∃ u127 : Value, e125 = .returned u127 ∧ Keeps w.heap.size [39] w124 w126 ∧ Ext w63 w126 ∧ AppV w126 2 u127 x123 (fun v128 w129 => Ext w63 w129 ∧ Calls Tryd.prog 115 #[(Value.agg #[(Value.int .i64 x116), (Value.int .i64 x117), (Value.int .i64 x118), (Value.int .i64 x119), (Value.int .i64 x120)]), v128] w129 (fun e130 w131 => ∃ u132 : Value, ∃ b133 : Bool, e130 = .returned (Value.tuple #[u132, (Value.bool b133)]) ∧ Keeps w.heap.size [39] w129 w131 ∧ Ext w63 w131 ∧ ((b133 = true → Post (Value.tuple #[u132, (Value.bool true)]) w131) ∧ (b133 = false → (spec_l02First_k0 s55 w56 J57 m58 x113 w131))))))
abbrev spec_l02First_k3 (w : World) (Post : Value → World → Prop) (x36 : Value) (x48 : Int) (x49 : Int) (x50 : Int) (x51 : Int) (x52 : Int) (s55 : Int) (w56 : World) (J57 : Int → World → Prop) (m58 : Int → World → Nat) (x59 : Int) (w62 : World) : Prop :=
  ∀ w63 : World, Ext w62 w63 → ((Calls Tryd.prog 130 #[x36] w63 (fun e64 w65 => ∃ u66 : Value, e64 = .returned u66 ∧ Keeps w.heap.size [39] w63 w65 ∧ Ext w63 w65 ∧ (spec_l02First_k1 w Post s55 w56 J57 m58 w63 x59 x48 x49 x50 x51 x52 u66 x59 w65))) ∧ (∀ (v111 : Value) (w112 : World), Sx.Own w63.heap.size w112 2 v111 [(Value.int .i64 x59)] → Ext w63 w112 → (spec_l02First_k2 w Post s55 w56 J57 m58 w63 x59 x48 x49 x50 x51 x52 x36 v111 w112)))
abbrev spec_l02First_k4 (w : World) (Post : Value → World → Prop) (x36 : Value) (x48 : Int) (x49 : Int) (x50 : Int) (x51 : Int) (x52 : Int) (w53 : World) : Prop :=
  (∃ (J57 : Int → World → Prop) (m58 : Int → World → Nat), ((∃ s54 : Int, (Value.int .i64 0) = (Value.int .i64 s54) ∧ (J57 s54 w53)) ∧ ∀ (s55 : Int) (w56 : World), (J57 s55 w56) → (((s55 < x49) → (spec_l02First_k3 w Post x36 x48 x49 x50 x51 x52 s55 w56 J57 m58 s55 w56)) ∧ (¬ (s55 < x49) → Post (Value.tuple #[(Value.slice none 0 0), (Value.bool false)]) w56))))
abbrev spec_l02First_k5 (w : World) (Post : Value → World → Prop) (x10 : Value) (x19 : Int) (x20 : Int) (x21 : Int) (x22 : Int) (x23 : Int) (w24 : World) : Prop :=
  LenV x10 (fun n25 => (((n25 = x19) → ∃ n29 : Int, (∀ w26 : World, Ext w24 w26 → Calls Tryd.prog 103 #[x10] w26 (fun e27 w28 => e27 = .returned (Value.int .i64 n29) ∧ Ext w26 w28)) ∧ ∀ w30 : World, Ext w24 w30 → Post (Value.tuple #[x10, (Value.bool (decide (x23 ≤ n29)))]) w30) ∧ (¬ (n25 = x19) → (spec_l02First_k4 w Post x10 x19 x20 x21 x22 x23 w24))))
def spec_l02First_vc (m_Chambers : Int) (m_Depths : Int) (m_Step : Int) (m_Same : Int) (m_Least : Int) (v : Value) (p : List Int) (w : World) (Post : Value → World → Prop) : Prop :=
  ∀ w1 : World, Ext w w1 → Calls Tryd.prog 131 #[(Value.agg #[(Value.int .i64 m_Chambers), (Value.int .i64 m_Depths), (Value.int .i64 m_Step), (Value.int .i64 m_Same), (Value.int .i64 m_Least)]), v] w1 (fun e2 w3 => ∃ b4 : Bool, e2 = .returned (Value.bool b4) ∧ Keeps w.heap.size [39] w1 w3 ∧ (((!b4) = true → Post (Value.tuple #[(Value.slice none 0 0), (Value.bool false)]) w3) ∧ ((!b4) = false → (spec_l02First_k5 w Post v m_Chambers m_Depths m_Step m_Same m_Least w3))))
theorem spec_l02First_eq (m_Chambers : Int) (m_Depths : Int) (m_Step : Int) (m_Same : Int) (m_Least : Int) (v : Value) (p : List Int) (w : World) (Post : Value → World → Prop) : denF Tryd.prog [1000130, 9000001] (spec_l02First_A m_Chambers m_Depths m_Step m_Same m_Least v p w) 115 [(Value.agg #[(Value.int .i64 m_Chambers), (Value.int .i64 m_Depths), (Value.int .i64 m_Step), (Value.int .i64 m_Same), (Value.int .i64 m_Least)]), v] w Post = spec_l02First_vc m_Chambers m_Depths m_Step m_Same m_Least v p w Post := by kernel_rfl
set_option maxRecDepth 100000 in
theorem spec_l02First_calls (m_Chambers : Int) (m_Depths : Int) (m_Step : Int) (m_Same : Int) (m_Least : Int) (v : Value) (p : List Int) (w : World) (Post : Value → World → Prop) (hvc : spec_l02First_vc m_Chambers m_Depths m_Step m_Same m_Least v p w Post) : Ret Tryd.prog 115 #[(Value.agg #[(Value.int .i64 m_Chambers), (Value.int .i64 m_Depths), (Value.int .i64 m_Step), (Value.int .i64 m_Same), (Value.int .i64 m_Least)]), v] w Post :=
  Ret.of (denF_sound mixed (Eq.mpr (spec_l02First_eq m_Chambers m_Depths m_Step m_Same m_Least v p w Post) hvc))

theorem spec_l02First_ret {M : Mk} (hM : M.Ok) : ∀ (n : Nat) (p : List Int) (v : Value) (w : World), (p.length : Int) + n = M.c → CutsOk M.d p → RI w v p →
    Ret Tryd.prog 115 #[mkV M.c M.d M.s M.m M.l, v] w fun r w' => Ext w w' ∧ ∃ u ok, r = .tuple #[u, .bool ok] ∧ u.oneCell' = true ∧ ((ok = false ∧ GA M n p = []) ∨ ∃ k rest, ok = true ∧ GA M n p = k :: rest ∧ ((n = 0 ∧ u = v) ∨ Own w.heap.size w' 2 u (ints k))) := by
  have hM' := hM
  obtain ⟨hm1, hm2, hm3, hm4, hm5⟩ := hM
  intro n
  induction n with
  | zero =>
    intro p v w hp hc hv
    refine spec_l02First_calls M.c M.d M.s M.m M.l v p w _ ?_
    unfold spec_l02First_vc
    intro w1 h1
    refine (spec_l02Begins_val M.c M.d M.s M.m M.l v p w1 (hv.ext h1) (by omega) hc).call fun w2 h2 => ⟨_, rfl, h2.keeps, fun hb => ⟨h1.trans h2, _, false, rfl, rfl, .inl ⟨rfl, ?_⟩⟩, fun hb => ?_⟩
    · rw [GA, G_not (nd_t hb)]
    · have hv2 := (hv.ext h1).ext h2
      refine hv2.len ⟨fun _ => ⟨_, fun w3 h3 => (spec_l02Kinds_val v p w3 (hv2.ext h3)).call fun _ h => ⟨rfl, h⟩, fun w3 h3 => ⟨(h1.trans h2).trans h3, v, _, rfl, hv.one, ?_⟩⟩, fun hne => absurd (by omega) hne⟩
      by_cases hl : M.l ≤ (kinds p : Int)
      · refine .inr ⟨p, [], decide_eq_true hl, ?_, .inl ⟨rfl, rfl⟩⟩
        simp only [GA, G]; rw [if_pos ⟨nd_f hb, hl⟩]
      · refine .inl ⟨decide_eq_false hl, ?_⟩
        simp only [GA, G]; rw [if_neg fun h => hl h.2]
  | succ n ih =>
    intro p v w hp hc hv
    refine spec_l02First_calls M.c M.d M.s M.m M.l v p w _ ?_
    unfold spec_l02First_vc
    intro w1 h1
    refine (spec_l02Begins_val M.c M.d M.s M.m M.l v p w1 (hv.ext h1) (by omega) hc).call fun w2 h2 => ⟨_, rfl, h2.keeps, fun hb => ⟨h1.trans h2, _, false, rfl, rfl, .inl ⟨rfl, ?_⟩⟩, fun hb => ?_⟩
    · rw [GA, G_not (nd_t hb)]
    · have hv2 := (hv.ext h1).ext h2
      refine hv2.len ⟨fun he => absurd he (by omega), fun _ => ?_⟩
      refine ⟨fun x W => 0 ≤ x ∧ x ≤ M.d ∧ upto M n p x = [] ∧ Ext w W, fun x _ => (M.d - x).toNat, ⟨0, rfl, Int.le_refl _, by omega, rfl, h1.trans h2⟩, ?_⟩
      rintro x w3 ⟨hx0, hx, hk, h3⟩
      refine ⟨fun hlt => ?_, fun hge => ⟨h3, _, false, rfl, rfl, .inl ⟨rfl, ?_⟩⟩⟩
      · intro w4 h4
        refine own_snoc ((hv.ext h3).ext h4) (by omega) fun u w5 o5 h5 => ?_
        refine (ih (p ++ [x]) u w5 (by simp; omega) (hc.snoc hx0 hlt) o5.rd).call ?_
        rintro _ w6 ⟨h6, u6, ok, rfl, hone, hor⟩
        have k6 := ((h3.trans h4).trans h5).trans h6
        refine ⟨u6, ok, rfl, h6.keeps, h5.trans h6, fun hok => ⟨k6, u6, true, rfl, hone, .inr ?_⟩, fun hno => ?_⟩
        · rcases hor with ⟨h, _⟩ | ⟨k, rest, _, hg, ho⟩
          · rw [hok] at h; cases h
          · obtain ⟨r, hr⟩ := upto_pre (M := M) (n := n) (p := p) (x := x + 1) (by omega)
            rw [upto_succ hx0, hk, hg, List.nil_append] at hr
            refine ⟨k, rest ++ r, rfl, hr, .inr ?_⟩
            rcases ho with ⟨rfl, rfl⟩ | ho
            · have hkp : k = p ++ [x] := by
                have hmem : k ∈ GA M 0 (p ++ [x]) := by rw [hg]; exact List.mem_cons_self ..
                obtain ⟨t, ht, hl⟩ := G_pre hmem
                have : t = [] := List.eq_nil_of_length_eq_zero hl
                rw [ht, this, List.append_nil]
              rw [hkp]
              exact (o5.ext h6).mono ((h3.trans h4).size)
            · exact ho.mono (((h3.trans h4).trans h5).size)
        · rcases hor with ⟨_, hg⟩ | ⟨k, rest, h, _⟩
          · refine ⟨by unfold I64; omega, x + 1, rfl, ⟨by omega, by omega, ?_, k6⟩, by simp only; omega⟩
            rw [upto_succ hx0, hk, hg]
            rfl
          · rw [hno] at h; cases h
      · have : x = M.d := by omega
        rw [← upto_all, ← this, hk]
def firstKey (M : Mk) : List Int := if MkOk M.c M.d M.s M.m M.l then (keys M).headD [] else []
def makerCode (M : Mk) : Int := if MkOk M.c M.d M.s M.m M.l then 0 else 1
/-! ### the first keys from some cuts on -/
/-- rows of the call's own, all in different blocks, none of them protected -/
def OwnK (B : Nat) (K : Nat → Prop) (w : World) (v : Value) (zss : List (List Int)) : Prop :=
  ∃ us, Own B w 24 v us ∧ (∀ g, v.ownBlock = some g → ¬ K g) ∧ Rows (fun u z => Own B w 2 u (ints z) ∧ ∀ g, u.ownBlock = some g → ¬ K g) us zss ∧ us.Pairwise Apart
theorem OwnK.ownR {B : Nat} {K : Nat → Prop} {w : World} {v : Value} {zss : List (List Int)} (h : OwnK B K w v zss) : OwnR B w v zss := by
  obtain ⟨us, h1, _, h3, h4⟩ := h
  exact ⟨us, h1, h3.map fun u z hz => hz.1, h4⟩
theorem OwnK.env {B : Nat} {K : Nat → Prop} {w w' : World} {v : Value} {zss : List (List Int)} (h : OwnK B K w v zss) (hp : Pres (fun b => ¬ K b) w w') : OwnK B (grow K w w') w' v zss := by
  obtain ⟨us, h1, h2, h3, h4⟩ := h
  have keep : ∀ {e : TypeId} {u : Value} {xs : List Value}, Own B w e u xs → (∀ g, u.ownBlock = some g → ¬ K g) → Own B w' e u xs ∧ ∀ g, u.ownBlock = some g → ¬ grow K w w' g := by
    intro e u xs ho hk
    refine ⟨ho.keep fun g hg => hp.block g (ho.lt hg).2 (hk g hg), fun g hg hgr => ?_⟩
    rcases hgr with hgr | hgr
    · exact hk g hg hgr
    · have := (ho.lt hg).2
      omega
  exact ⟨us, (keep h1 h2).1, (keep h1 h2).2, h3.map fun u z hz => keep hz.1 hz.2, h4⟩
/-- the visitor that collects the first keys -/
def firstJ (B b0 b1 : Nat) (most : Int) : (Nat → Prop) → List (List Int) → World → Prop := fun K done w =>
  ¬ K b0 ∧ ¬ K b1 ∧ w.heap[b1]? = some (.cells #[.int .i64 most] 2 (0, 0)) ∧ ∃ v, w.heap[b0]? = some (.cells #[v] 34 (0, 0)) ∧ OwnK B K w v done
theorem own_type_ne {B : Nat} {w : World} {e : TypeId} {u : Value} {xs : List Value} (h : Own B w e u xs) {b : Nat} {cs : Array Value} {T : TypeId} {fz : Nat × Nat} (hb : w.heap[b]? = some (.cells cs T fz)) (hT : T ≠ e) : u.ownBlock ≠ some b := by
  intro hu
  rcases h.2 with ⟨rfl, _⟩ | ⟨g, cap, cur, rfl, _, hh, _⟩
  · simp [Value.ownBlock] at hu
  · have : g = b := by simpa [Value.ownBlock] using hu
    subst this
    rw [hb] at hh
    injection hh with hh
    injection hh with _ he _
    exact hT he
theorem GT_sub {M : Mk} {al : Nat → Int → Bool} {fr : List Int} {tight : Bool} (hc : 0 ≤ M.c) (hcut : CutsOk M.d fr) (htl : tight = true → (fr.length : Int) = M.c) : ∃ q : List Int → Bool, GT M al fr M.c.toNat [] tight = (G M al M.c.toNat []).filter q ∧ ∀ k, tight = false → q k = true := by
  cases tight
  · exact ⟨fun _ => true, by rw [GT_false, filter_true_id], fun _ _ => rfl⟩
  · have hl := htl rfl
    have e := GT_true (M := M) (al := al) hcut M.c.toNat 0 (by omega)
    rw [List.take_zero] at e
    exact ⟨_, e, fun _ h => by cases h⟩
theorem OwnR.get {B : Nat} {w : World} {v : Value} {zss : List (List Int)} (h : OwnR B w v zss) {i : Int} (k : Nat) (hi : i = k) (hk : k < zss.length) {R : Value → Prop} (hR : ∀ u, Own B w 2 u (ints zss[k]) → R u) : IxV 1 v i (fun ad => ∃ u : Value, LdV w (.pointer (some ad)) u ∧ R u) := by
  obtain ⟨us, h1, h2, _⟩ := h
  exact h1.rd.ix k hi (by rw [h2.1]; exact hk) fun ad ha => ⟨_, ha, hR _ (h2.get hk)⟩
theorem take1_head {α : Type} {l : List α} (d : α) (h : 0 < (l.take 1).length) : (l.take 1)[0] = l.headD d := by
  cases l with
  | nil => simp at h
  | cons x l => rfl
theorem firstKey_len (M : Mk) : (firstKey M).length ≤ 1000 := by
  unfold firstKey
  split
  · rename_i hm
    cases hk : keys M with
    | nil => simp
    | cons k r =>
      have := keys_length (M := M) (by have := hm.1; omega) (show k ∈ keys M by rw [hk]; exact List.mem_cons_self ..)
      have := hm.1
      simp only [List.headD_cons]
      omega
  · simp
end Go.Proofs
