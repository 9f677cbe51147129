/- Contracts: the number of keys, the first key, of the program and of the reference. No condition. -/
import Derived.Test.YteolgidmaklbkaaEach3
import Derived.Test.YteolgidmaklbkaaLaws
set_option linter.unusedVariables false
namespace Go.Proofs
open Go.Sx Go.RowKit

/-! ### plain -/
theorem flatMap_length_le {α β : Type} {l : List α} {f : α → List β} {c : Nat} (h : ∀ x ∈ l, (f x).length ≤ c) : (l.flatMap f).length ≤ l.length * c := by
  induction l with
  | nil => simp
  | cons x l ih =>
    rw [List.flatMap_cons, List.length_append, List.length_cons, Nat.add_mul]
    have := h x (List.mem_cons_self ..)
    have := ih fun y hy => h y (List.mem_cons_of_mem _ hy)
    omega
theorem G_card (M : Mk) (al : Nat → Int → Bool) : ∀ (n : Nat) (p : List Int), (G M al n p).length ≤ M.d.toNat ^ n
  | 0, p => by
    simp only [G]
    split <;> simp
  | n + 1, p => by
    rw [G_succ]
    refine Nat.le_trans (flatMap_length_le fun x _ => G_card M al n _) ?_
    rw [Nat.pow_succ, Nat.mul_comm]
    refine Nat.mul_le_mul_left _ (Nat.le_trans (List.length_filter_le _ _) ?_)
    simp [ups]
theorem G_max {M : Mk} (hd : M.d ≤ 8) (al : Nat → Int → Bool) {n : Nat} (hn : n ≤ 6) (p : List Int) : (G M al n p).length ≤ 262144 := by
  refine Nat.le_trans (G_card M al n p) (Nat.le_trans (Nat.pow_le_pow_left (show M.d.toNat ≤ 8 by omega) n) ?_)
  exact Nat.le_trans (Nat.pow_le_pow_right (by omega) hn) (by decide)
/-- the keys of the first x cuts of the next chamber -/
def upto (M : Mk) (n : Nat) (p : List Int) (x : Int) : List (List Int) := (upFrom 0 x.toNat).flatMap fun y => GA M n (p ++ [y])
theorem upto_succ {M : Mk} {n : Nat} {p : List Int} {x : Int} (h : 0 ≤ x) : upto M n p (x + 1) = upto M n p x ++ GA M n (p ++ [x]) := by
  unfold upto
  rw [show (x + 1).toNat = x.toNat + 1 by omega, upFrom_succ, List.flatMap_append, List.flatMap_cons, List.flatMap_nil, List.append_nil]
  congr 3
  simp
  omega
theorem upto_zero (M : Mk) (n : Nat) (p : List Int) : upto M n p 0 = [] := rfl
theorem upto_all (M : Mk) (n : Nat) (p : List Int) : upto M n p M.d = GA M (n + 1) p := (GA_succ M n p).symm
theorem upto_pre {M : Mk} {n : Nat} {p : List Int} {x : Int} (hx : x ≤ M.d) : ∃ r, GA M (n + 1) p = upto M n p x ++ r := by
  rw [← upto_all]
  unfold upto
  rw [show M.d.toNat = x.toNat + (M.d.toNat - x.toNat) by omega, upFrom_split, List.flatMap_append]
  exact ⟨_, rfl⟩
theorem CutsOk.snoc {d : Int} {p : List Int} {x : Int} (h : CutsOk d p) (h0 : 0 ≤ x) (h1 : x < d) : CutsOk d (p ++ [x]) := by
  intro z hz
  rw [List.mem_append, List.mem_singleton] at hz
  rcases hz with hz | rfl
  · exact h z hz
  · omega

/-! ### rows -/
def spec_l01Own_vc (v : Value) (w : World) (Post : Value → World → Prop) : Prop :=
  ∀ (v1 : Value) (w2 : World), Own w.heap.size w2 2 v1 [] → Ext w w2 → AppV w2 2 v1 v (fun v3 w4 => Post v3 w4)
theorem spec_l01Own_eq (v : Value) (w : World) (Post : Value → World → Prop) : denF Try.prog [] noAnn 173 [v] w Post = spec_l01Own_vc v w Post := by kernel_rfl
set_option maxRecDepth 100000 in
theorem spec_l01Own_calls (v : Value) (w : World) (Post : Value → World → Prop) (hvc : spec_l01Own_vc v w Post) : Ret Try.prog 173 #[v] w Post :=
  Ret.of (denF_sound mixed (Eq.mpr (spec_l01Own_eq v w Post) hvc))

theorem spec_l01Own_ret (v : Value) (zs : List Int) (w : World) (hv : RI w v zs) (hl : zs.length ≤ 1000) : Ret Try.prog 173 #[v] w fun u w' => Own w.heap.size w' 2 u (ints zs) ∧ Ext w w' :=
  spec_l01Own_calls v w _ (by
    unfold spec_l01Own_vc
    intro v1 w1 o1 h1
    refine o1.app (hv.ext h1) (ints_one zs) (by simp; omega) h1.size fun v2 w2 o2 g2 hb => ⟨o2, ?_⟩
    exact h1.grown o1 (Nat.le_refl _) g2)
abbrev slices_Clone_int64_int64_k0 (Post : Value → World → Prop) (x2 : Value) (w5 : World) : Prop :=
  ∀ (v6 : Value) (w7 : World), Own w5.heap.size w7 2 v6 [] → Ext w5 w7 → AppV w7 2 v6 x2 (fun v8 w9 => Post v8 w9)
def slices_Clone_int64_int64_vc (v : Value) (w : World) (Post : Value → World → Prop) : Prop :=
  ∃ b1 : Bool, NilS v b1 ∧ ((b1 = true → Post (Value.slice none 0 0) w) ∧ (b1 = false → (slices_Clone_int64_int64_k0 Post v w)))
theorem slices_Clone_int64_int64_eq (v : Value) (w : World) (Post : Value → World → Prop) : denF Try.prog [] noAnn 170 [v] w Post = slices_Clone_int64_int64_vc v w Post := by kernel_rfl
set_option maxRecDepth 100000 in
theorem slices_Clone_int64_int64_calls (v : Value) (w : World) (Post : Value → World → Prop) (hvc : slices_Clone_int64_int64_vc v w Post) : Ret Try.prog 170 #[v] w Post :=
  Ret.of (denF_sound mixed (Eq.mpr (slices_Clone_int64_int64_eq v w Post) hvc))

theorem slices_Clone_ret (v : Value) (zs : List Int) (w : World) (hv : RI w v zs) (hl : zs.length ≤ 1000) (hne : zs ≠ []) : Ret Try.prog 170 #[v] w fun u w' => Own w.heap.size w' 2 u (ints zs) ∧ Ext w w' :=
  slices_Clone_int64_int64_calls v w _ (by
    unfold slices_Clone_int64_int64_vc
    obtain ⟨a, c, rfl, h1, h2, h3⟩ := id hv
    have hpos : 0 < (ints zs).length := by rw [ints_length]; exact List.length_pos_iff.2 hne
    obtain ⟨ad, rfl, _⟩ := h3 hpos
    refine ⟨false, ⟨_, _, _, rfl, rfl⟩, fun h => (by cases h), fun _ => ?_⟩
    intro v1 w1 o1 h1
    refine o1.app (hv.ext h1) (ints_one zs) (by simp; omega) h1.size fun v2 w2 o2 g2 hb => ⟨o2, ?_⟩
    exact h1.grown o1 (Nat.le_refl _) g2)
/-- 'append(l01Own(v), x)', whichever is made first -/
theorem own_snoc {w : World} {v : Value} {zs : List Int} (hv : RI w v zs) (hl : zs.length ≤ 1000) {x : Int} {n0 : Nat} {Ts : List TypeId} {C : Value → World → Prop} (hC : ∀ u w', Own w.heap.size w' 2 u (ints (zs ++ [x])) → Ext w w' → C u w') :
    (Calls Try.prog 173 #[v] w fun e w1 => ∃ u : Value, e = .returned u ∧ Keeps n0 Ts w w1 ∧ Ext w w1 ∧ ∀ (r : Value) (w2 : World), Own w1.heap.size w2 2 r [.int .i64 x] → Ext w1 w2 → AppV w2 2 u r fun u w' => Ext w w' ∧ C u w') ∧
    (∀ (r : Value) (w1 : World), Own w.heap.size w1 2 r [.int .i64 x] → Ext w w1 → Calls Try.prog 173 #[v] w1 fun e w2 => ∃ u : Value, e = .returned u ∧ Keeps n0 Ts w1 w2 ∧ Ext w w2 ∧ AppV w2 2 u r fun u w' => Ext w w' ∧ C u w') := by
  refine ⟨(spec_l01Own_ret v zs w hv hl).call ?_, fun r w1 hr h1 => (spec_l01Own_ret v zs w1 (hv.ext h1) hl).call ?_⟩
  · rintro u w1 ⟨o1, h1⟩
    refine ⟨u, rfl, h1.keeps, h1, fun r w2 hr h2 => ?_⟩
    refine (o1.ext h2).app1 hr rfl (by simp; omega) (Nat.le_trans h1.size h2.size) fun u' w3 o3 g3 hb => ?_
    have k := (h1.trans h2).grown (o1.ext h2) (Nat.le_refl _) g3
    exact ⟨k, hC u' w3 (by rw [ints_append]; exact o3) k⟩
  · rintro u w2 ⟨o2, h2⟩
    refine ⟨u, rfl, h2.keeps, h1.trans h2, ?_⟩
    have o2' := o2.mono h1.size
    refine o2'.app1 (hr.ext h2) rfl (by simp; omega) (Nat.le_trans h1.size h2.size) fun u' w3 o3 g3 hb => ?_
    have k := (h1.trans h2).grown o2' (Nat.le_refl _) g3
    exact ⟨k, hC u' w3 (by rw [ints_append]; exact o3) k⟩

/-! ### the number of keys -/
def spec_l02Count_A (m_Chambers : Int) (m_Depths : Int) (m_Step : Int) (m_Same : Int) (m_Least : Int) (v : Value) (p : List Int) (w : World) : Nat → Ann := fun κ => match κ with
  | 0 => { σ := Int × Int, sli := [6, 5], slc := fun s => [SV.v (Value.int .i64 s.1), SV.v (Value.int .i64 s.2)], bxi := [], bxc := fun s => [], inv := fun s W => True, μ := fun s W => 0, free := true }
  | _ => { σ := Unit, sli := [], slc := fun _ => [], bxi := [], bxc := fun _ => [], inv := fun _ _ => False, μ := fun _ _ => 0 }
abbrev spec_l02Count_k0 (w : World) (s84 : Int × Int) (w85 : World) (J86 : (Int × Int) → World → Prop) (m87 : (Int × Int) → World → Nat) (w93 : World) (x98 : Int) (x101 : Int) (x102 : Int) (x103 : Int) (x104 : Int) (x105 : Int) (x106 : Int) (x108 : Value) (x109 : Int) (w110 : World) : Prop :=
  ∀ (v111 : Value) (w112 : World), Own w110.heap.size w112 2 v111 [(Value.int .i64 x109)] → Ext w110 w112 → AppV w112 2 x108 v111 (fun v113 w114 => Ext w93 w114 ∧ Calls Try.prog 143 #[(Value.agg #[(Value.int .i64 x102), (Value.int .i64 x103), (Value.int .i64 x104), (Value.int .i64 x105), (Value.int .i64 x106)]), v113] w114 (fun e115 w116 => ∃ n117 : Int, e115 = .returned (Value.int .i64 n117) ∧ Keeps w.heap.size [56] w114 w116 ∧ Ext w93 w116 ∧ I64 (x101 + n117) ∧ I64 (x98 + 1) ∧ ∃ s118 : (Int × Int), (Value.int .i64 (x98 + 1)) = (Value.int .i64 s118.1) ∧ (Value.int .i64 (x101 + n117)) = (Value.int .i64 s118.2) ∧ (J86 s118 w116) ∧ (m87 s118 w116) < (m87 s84 w85)))
abbrev spec_l02Count_k1 (w : World) (s84 : Int × Int) (w85 : World) (J86 : (Int × Int) → World → Prop) (m87 : (Int × Int) → World → Nat) (w93 : World) (x122 : Int) (x125 : Int) (x126 : Int) (x127 : Int) (x128 : Int) (x129 : Int) (x130 : Int) (x131 : Value) (x133 : Value) (w134 : World) : Prop :=
  Calls Try.prog 173 #[x131] w134 (fun e135 w136 => ∃ u137 : Value, e135 = .returned u137 ∧ Keeps w.heap.size [56] w134 w136 ∧ Ext w93 w136 ∧ AppV w136 2 u137 x133 (fun v138 w139 => Ext w93 w139 ∧ Calls Try.prog 143 #[(Value.agg #[(Value.int .i64 x126), (Value.int .i64 x127), (Value.int .i64 x128), (Value.int .i64 x129), (Value.int .i64 x130)]), v138] w139 (fun e140 w141 => ∃ n142 : Int, e140 = .returned (Value.int .i64 n142) ∧ Keeps w.heap.size [56] w139 w141 ∧ Ext w93 w141 ∧ I64 (x125 + n142) ∧ I64 (x122 + 1) ∧ ∃ s143 : (Int × Int), (Value.int .i64 (x122 + 1)) = (Value.int .i64 s143.1) ∧ (Value.int .i64 (x125 + n142)) = (Value.int .i64 s143.2) ∧ (J86 s143 w141) ∧ (m87 s143 w141) < (m87 s84 w85))))
abbrev spec_l02Count_k2 (w : World) (x64 : Value) (x77 : Int) (x78 : Int) (x79 : Int) (x80 : Int) (x81 : Int) (s84 : Int × Int) (w85 : World) (J86 : (Int × Int) → World → Prop) (m87 : (Int × Int) → World → Nat) (x88 : Int) (x89 : Int) (w92 : World) : Prop :=
  ∀ w93 : World, Ext w92 w93 → ((Calls Try.prog 173 #[x64] w93 (fun e94 w95 => ∃ u96 : Value, e94 = .returned u96 ∧ Keeps w.heap.size [56] w93 w95 ∧ Ext w93 w95 ∧ (spec_l02Count_k0 w s84 w85 J86 m87 w93 x89 x88 x77 x78 x79 x80 x81 u96 x89 w95))) ∧ (∀ (v119 : Value) (w120 : World), Own w93.heap.size w120 2 v119 [(Value.int .i64 x89)] → Ext w93 w120 → (spec_l02Count_k1 w s84 w85 J86 m87 w93 x89 x88 x77 x78 x79 x80 x81 x64 v119 w120)))
abbrev spec_l02Count_k3 (w : World) (Post : Value → World → Prop) (x64 : Value) (x77 : Int) (x78 : Int) (x79 : Int) (x80 : Int) (x81 : Int) (w82 : World) : Prop :=
  (∃ (J86 : (Int × Int) → World → Prop) (m87 : (Int × Int) → World → Nat), ((∃ s83 : (Int × Int), (Value.int .i64 0) = (Value.int .i64 s83.1) ∧ (Value.int .i64 0) = (Value.int .i64 s83.2) ∧ (J86 s83 w82)) ∧ ∀ (s84 : (Int × Int)) (w85 : World), (J86 s84 w85) → (((s84.1 < x78) → (spec_l02Count_k2 w x64 x77 x78 x79 x80 x81 s84 w85 J86 m87 s84.2 s84.1 w85)) ∧ (¬ (s84.1 < x78) → Post (Value.int .i64 s84.2) w85))))
abbrev spec_l02Count_k4 (w : World) (Post : Value → World → Prop) (x10 : Value) (x20 : Int) (x21 : Int) (x22 : Int) (x23 : Int) (x24 : Int) (w25 : World) : Prop :=
  LenV x10 (fun n26 => (((n26 = x20) → ∃ n30 : Int, (∀ w27 : World, Ext w25 w27 → Calls Try.prog 167 #[x10] w27 (fun e28 w29 => e28 = .returned (Value.int .i64 n30) ∧ Ext w27 w29)) ∧ ∀ w31 : World, Ext w25 w31 → (((n30 < x24) → Post (Value.int .i64 0) w31) ∧ (¬ (n30 < x24) → Post (Value.int .i64 1) w31))) ∧ (¬ (n26 = x20) → (spec_l02Count_k3 w Post x10 x20 x21 x22 x23 x24 w25))))
def spec_l02Count_vc (m_Chambers : Int) (m_Depths : Int) (m_Step : Int) (m_Same : Int) (m_Least : Int) (v : Value) (p : List Int) (w : World) (Post : Value → World → Prop) : Prop :=
  ∀ w1 : World, Ext w w1 → Calls Try.prog 172 #[(Value.agg #[(Value.int .i64 m_Chambers), (Value.int .i64 m_Depths), (Value.int .i64 m_Step), (Value.int .i64 m_Same), (Value.int .i64 m_Least)]), v] w1 (fun e2 w3 => ∃ b4 : Bool, e2 = .returned (Value.bool b4) ∧ Keeps w.heap.size [56] w1 w3 ∧ (((!b4) = true → Post (Value.int .i64 0) w3) ∧ ((!b4) = false → (spec_l02Count_k4 w Post v m_Chambers m_Depths m_Step m_Same m_Least w3))))
theorem spec_l02Count_eq (m_Chambers : Int) (m_Depths : Int) (m_Step : Int) (m_Same : Int) (m_Least : Int) (v : Value) (p : List Int) (w : World) (Post : Value → World → Prop) : denF Try.prog [1000173, 9000001] (spec_l02Count_A m_Chambers m_Depths m_Step m_Same m_Least v p w) 143 [(Value.agg #[(Value.int .i64 m_Chambers), (Value.int .i64 m_Depths), (Value.int .i64 m_Step), (Value.int .i64 m_Same), (Value.int .i64 m_Least)]), v] w Post = spec_l02Count_vc m_Chambers m_Depths m_Step m_Same m_Least v p w Post := by kernel_rfl
set_option maxRecDepth 100000 in
theorem spec_l02Count_calls (m_Chambers : Int) (m_Depths : Int) (m_Step : Int) (m_Same : Int) (m_Least : Int) (v : Value) (p : List Int) (w : World) (Post : Value → World → Prop) (hvc : spec_l02Count_vc m_Chambers m_Depths m_Step m_Same m_Least v p w Post) : Ret Try.prog 143 #[(Value.agg #[(Value.int .i64 m_Chambers), (Value.int .i64 m_Depths), (Value.int .i64 m_Step), (Value.int .i64 m_Same), (Value.int .i64 m_Least)]), v] w Post :=
  Ret.of (denF_sound mixed (Eq.mpr (spec_l02Count_eq m_Chambers m_Depths m_Step m_Same m_Least v p w Post) hvc))

theorem spec_l02Count_val {M : Mk} (hM : M.Ok) : ∀ (n : Nat) (p : List Int) (v : Value) (w : World), (p.length : Int) + n = M.c → CutsOk M.d p → RI w v p →
    Val Try.prog 143 #[mkV M.c M.d M.s M.m M.l, v] w (.int .i64 ((GA M n p).length : Int)) := by
  obtain ⟨hm1, hm2, hm3, hm4, hm5⟩ := hM
  intro n
  induction n with
  | zero =>
    intro p v w hp hc hv
    refine Ret.val (spec_l02Count_calls M.c M.d M.s M.m M.l v p w _ ?_)
    unfold spec_l02Count_vc
    intro w1 h1
    refine (spec_l02Begins_val M.c M.d M.s M.m M.l v p w1 (hv.ext h1) (by omega) hc).call fun w2 h2 => ⟨_, rfl, h2.keeps, fun hb => ⟨?_, h1.trans h2⟩, fun hb => ?_⟩
    · rw [GA, G_not (nd_t hb)]; rfl
    · have hv2 := (hv.ext h1).ext h2
      refine hv2.len ⟨fun _ => ⟨_, fun w3 h3 => (spec_l02Kinds_val v p w3 (hv2.ext h3)).call fun _ h => ⟨rfl, h⟩, fun w3 h3 => ⟨fun hlt => ⟨ieq ?_, (h1.trans h2).trans h3⟩, fun hge => ⟨ieq ?_, (h1.trans h2).trans h3⟩⟩⟩, fun hne => absurd (by omega) hne⟩
      · simp only [GA, G]; rw [if_neg (by omega)]; rfl
      · simp only [GA, G]; rw [if_pos ⟨nd_f hb, by omega⟩]; rfl
  | succ n ih =>
    intro p v w hp hc hv
    refine Ret.val (spec_l02Count_calls M.c M.d M.s M.m M.l v p w _ ?_)
    unfold spec_l02Count_vc
    intro w1 h1
    refine (spec_l02Begins_val M.c M.d M.s M.m M.l v p w1 (hv.ext h1) (by omega) hc).call fun w2 h2 => ⟨_, rfl, h2.keeps, fun hb => ⟨?_, h1.trans h2⟩, fun hb => ?_⟩
    · rw [GA, G_not (nd_t hb)]; rfl
    · have hv2 := (hv.ext h1).ext h2
      refine hv2.len ⟨fun he => absurd he (by omega), fun _ => ?_⟩
      refine ⟨fun s W => 0 ≤ s.1 ∧ s.1 ≤ M.d ∧ s.2 = ((upto M n p s.1).length : Int) ∧ Ext w W, fun s _ => (M.d - s.1).toNat, ⟨(0, 0), rfl, rfl, Int.le_refl _, by simp only; omega, rfl, h1.trans h2⟩, ?_⟩
      rintro ⟨x, k⟩ w3 ⟨hx0, hx, hk, h3⟩
      simp only at hx0 hx hk
      refine ⟨fun hlt => ?_, fun hge => ⟨ieq ?_, h3⟩⟩
      · simp only at hlt
        intro w4 h4
        have hv4 := (hv.ext h3).ext h4
        refine own_snoc hv4 (by omega) fun u w5 o5 h5 => ?_
        refine (ih (p ++ [x]) u w5 (by simp; omega) (hc.snoc hx0 hlt) o5.rd).call fun w6 h6 => ⟨_, rfl, h6.keeps, h5.trans h6, ?_⟩
        have hmax := G_max (M := M) (by omega) All (n := n + 1) (by omega) p
        obtain ⟨r, hr⟩ := upto_pre (M := M) (n := n) (p := p) (x := x + 1) (by omega)
        have hr' := congrArg List.length hr
        rw [List.length_append, upto_succ hx0, List.length_append] at hr'
        have hmax' : (GA M (n + 1) p).length ≤ 262144 := hmax
        refine ⟨by unfold I64; simp only; omega, by unfold I64; simp only; omega, (x + 1, _), rfl, rfl, ⟨by simp only; omega, by simp only; omega, ?_, ((h3.trans h4).trans h5).trans h6⟩, by simp only; omega⟩
        simp only
        rw [upto_succ hx0, List.length_append, hk]
        omega
      · simp only at hge
        have : x = M.d := by omega
        rw [hk, this, upto_all]
def countR (M : Mk) : Value := if MkOk M.c M.d M.s M.m M.l then .tuple #[.int .i64 ((keys M).length : Int), .int .i64 0] else .tuple #[.int .i64 0, .int .i64 1]
theorem countR_pair (M : Mk) : ∃ x y, countR M = .tuple #[.int .i64 x, .int .i64 y] := by
  unfold countR; split <;> exact ⟨_, _, rfl⟩
abbrev spec_CountKeys_k0 (w : World) (Post : Value → World → Prop) (x19 : Int) (x20 : Int) (x21 : Int) (x22 : Int) (x23 : Int) (w24 : World) : Prop :=
  Calls Try.prog 143 #[(Value.agg #[(Value.int .i64 x19), (Value.int .i64 x20), (Value.int .i64 x21), (Value.int .i64 x22), (Value.int .i64 x23)]), (Value.slice none 0 0)] w24 (fun e25 w26 => ∃ n27 : Int, e25 = .returned (Value.int .i64 n27) ∧ Keeps w.heap.size [56] w24 w26 ∧ Post (Value.tuple #[(Value.int .i64 n27), (Value.int .i64 0)]) w26)
def spec_CountKeys_vc (m_Chambers : Int) (m_Depths : Int) (m_Step : Int) (m_Same : Int) (m_Least : Int) (w : World) (Post : Value → World → Prop) : Prop :=
  ∀ w1 : World, Ext w w1 → Calls Try.prog 85 #[(Value.agg #[(Value.int .i64 m_Chambers), (Value.int .i64 m_Depths), (Value.int .i64 m_Step), (Value.int .i64 m_Same), (Value.int .i64 m_Least)])] w1 (fun e2 w3 => ∃ b4 : Bool, e2 = .returned (Value.bool b4) ∧ Keeps w.heap.size [56] w1 w3 ∧ (((!b4) = true → Post (Value.tuple #[(Value.int .i64 0), (Value.int .i64 1)]) w3) ∧ ((!b4) = false → (spec_CountKeys_k0 w Post m_Chambers m_Depths m_Step m_Same m_Least w3))))
theorem spec_CountKeys_eq (m_Chambers : Int) (m_Depths : Int) (m_Step : Int) (m_Same : Int) (m_Least : Int) (w : World) (Post : Value → World → Prop) : denF Try.prog [] noAnn 79 [(Value.agg #[(Value.int .i64 m_Chambers), (Value.int .i64 m_Depths), (Value.int .i64 m_Step), (Value.int .i64 m_Same), (Value.int .i64 m_Least)])] w Post = spec_CountKeys_vc m_Chambers m_Depths m_Step m_Same m_Least w Post := by kernel_rfl
set_option maxRecDepth 100000 in
theorem spec_CountKeys_calls (m_Chambers : Int) (m_Depths : Int) (m_Step : Int) (m_Same : Int) (m_Least : Int) (w : World) (Post : Value → World → Prop) (hvc : spec_CountKeys_vc m_Chambers m_Depths m_Step m_Same m_Least w Post) : Ret Try.prog 79 #[(Value.agg #[(Value.int .i64 m_Chambers), (Value.int .i64 m_Depths), (Value.int .i64 m_Step), (Value.int .i64 m_Same), (Value.int .i64 m_Least)])] w Post :=
  Ret.of (denF_sound mixed (Eq.mpr (spec_CountKeys_eq m_Chambers m_Depths m_Step m_Same m_Least w Post) hvc))

theorem spec_CountKeys_val (c d s m l : Int) (w : World) : Val Try.prog 79 #[mkV c d s m l] w (countR ⟨c, d, s, m, l⟩) :=
  Ret.val (spec_CountKeys_calls c d s m l w _ (by
    unfold spec_CountKeys_vc
    intro w1 h1
    refine (spec_IsMaker_val ..).call fun w2 h2 => ⟨_, rfl, h2.keeps, fun hb => ⟨?_, h1.trans h2⟩, fun hb => ?_⟩
    · unfold countR; rw [if_neg (nd_t hb)]
    · have hm := nd_f hb
      refine (spec_l02Count_val (M := ⟨c, d, s, m, l⟩) hm c.toNat [] (.slice none 0 0) w2 (by simp; have := hm.1; omega) (by intro z hz; simp at hz) (RI.nil_ w2 0 (Nat.zero_le _))).call fun w3 h3 => ⟨_, rfl, h3.keeps, ?_, (h1.trans h2).trans h3⟩
      unfold countR; rw [if_pos hm]))

def impl_countKeys_1_vc (k : Value) (bn : Nat) (w : World) (Post : Value → World → Prop) : Prop :=
  ∃ n1 : Int, LdV w (Value.pointer (some (⟨bn, 0, none⟩))) (Value.int .i64 n1) ∧ I64 (n1 + 1) ∧ StV w.heap.size [] w (Value.pointer (some (⟨bn, 0, none⟩))) (Value.int .i64 (n1 + 1)) (fun w2 => Post (Value.bool true) w2)
theorem impl_countKeys_1_eq (k : Value) (bn : Nat) (w : World) (Post : Value → World → Prop) : denF Try.prog [] noAnn 171 [k, (Value.pointer (some (⟨bn, 0, none⟩)))] w Post = impl_countKeys_1_vc k bn w Post := by kernel_rfl
set_option maxRecDepth 100000 in
theorem impl_countKeys_1_calls (k : Value) (bn : Nat) (w : World) (Post : Value → World → Prop) (hvc : impl_countKeys_1_vc k bn w Post) : Ret Try.prog 171 #[k, (Value.pointer (some (⟨bn, 0, none⟩)))] w Post :=
  Ret.of (denF_sound mixed (Eq.mpr (impl_countKeys_1_eq k bn w Post) hvc))

/-- the visitor that counts -/
theorem count_visitor (vb : Nat) {L : List (List Int)} (hL : L.length ≤ 1000000) : Visitor Try.prog 171 [bp vb] (fun K done w => ¬ K vb ∧ w.heap[vb]? = some (.cells #[.int .i64 (done.length : Int)] 2 (0, 0))) (fun _ _ => true) L where
  ok := by kernel_rfl
  env := by
    rintro K done w w' ⟨h1, h2⟩ hp
    exact ⟨fun hg => hg.elim h1 fun hg => absurd (heap_lt h2) (by omega), (hp.block _ (heap_lt h2) h1).trans h2⟩
  call := by
    rintro K done k w v ⟨h1, h2⟩ hK hv ⟨r, hr⟩
    have hlen := congrArg List.length hr
    simp only [List.length_append, List.length_cons] at hlen
    refine (impl_countKeys_1_calls v vb w (fun u w' => u = .bool true ∧ Pres K w w' ∧ ¬ K vb ∧ w'.heap[vb]? = some (.cells #[.int .i64 ((done ++ [k]).length : Int)] 2 (0, 0))) ?_).call fun u w' h => ⟨by rw [h.1], h.2⟩
    unfold impl_countKeys_1_vc
    refine ⟨_, ld_one h2, by unfold I64; omega, st_one h2 rfl (.inr (by simp)) fun w' h3 hp hs => ⟨rfl, hp.mono fun b _ hb => ?_, h1, ?_⟩⟩
    · rintro rfl
      exact h1 hb
    · rw [List.length_append]
      exact h3
theorem AlOk.mono {P : Program} {c d : Int} {al : Nat → Int → Bool} {S S' : World → Prop} {v : Value} (h : AlOk P c d al S v) (hs : ∀ w, S' w → S w) : AlOk P c d al S' v := by
  rcases h with h | ⟨f, ca, h1, h2, h3⟩
  · exact .inl h
  · exact .inr ⟨f, ca, h1, h2, fun w i x hw => h3 w i x (hs w hw)⟩
theorem AlOk.all (P : Program) (c d : Int) (S : World → Prop) : AlOk P c d All S .nilFunc := .inl ⟨rfl, fun _ _ => rfl⟩
theorem NilS.nil_ : NilS (.slice none 0 0) (!false) := ⟨_, _, _, rfl, rfl⟩
def impl_countKeys_vc (m_Chambers : Int) (m_Depths : Int) (m_Step : Int) (m_Same : Int) (m_Least : Int) (al : Value) (w : World) (Post : Value → World → Prop) : Prop :=
  ∀ w1 : World, Ext w w1 → ∀ (b3 : Nat) (w2 : World), Ext w1 w2 → w1.heap.size ≤ b3 → w2.heap[b3]? = some (.cells #[(Value.int .i64 0)] 2 (0, 0)) → StV w.heap.size [56] w2 (Value.pointer (some (⟨b3, 0, none⟩))) (Value.int .i64 0) (fun w4 => Calls Try.prog 168 #[(Value.agg #[(Value.int .i64 m_Chambers), (Value.int .i64 m_Depths), (Value.int .i64 m_Step), (Value.int .i64 m_Same), (Value.int .i64 m_Least)]), (Value.slice none 0 0), al, (Value.func (.func 171) #[] #[(Value.pointer (some (⟨b3, 0, none⟩)))])] w4 (fun e5 w6 => e5 = .returned (Value.tuple #[]) ∧ Keeps w.heap.size [56] w4 w6 ∧ ∃ n7 : Int, LdV w6 (Value.pointer (some (⟨b3, 0, none⟩))) (Value.int .i64 n7) ∧ Post (Value.int .i64 n7) w6))
theorem impl_countKeys_eq (m_Chambers : Int) (m_Depths : Int) (m_Step : Int) (m_Same : Int) (m_Least : Int) (al : Value) (w : World) (Post : Value → World → Prop) : denF Try.prog [5] noAnn 142 [(Value.agg #[(Value.int .i64 m_Chambers), (Value.int .i64 m_Depths), (Value.int .i64 m_Step), (Value.int .i64 m_Same), (Value.int .i64 m_Least)]), al] w Post = impl_countKeys_vc m_Chambers m_Depths m_Step m_Same m_Least al w Post := by kernel_rfl
set_option maxRecDepth 100000 in
theorem impl_countKeys_calls (m_Chambers : Int) (m_Depths : Int) (m_Step : Int) (m_Same : Int) (m_Least : Int) (al : Value) (w : World) (Post : Value → World → Prop) (hvc : impl_countKeys_vc m_Chambers m_Depths m_Step m_Same m_Least al w Post) : Ret Try.prog 142 #[(Value.agg #[(Value.int .i64 m_Chambers), (Value.int .i64 m_Depths), (Value.int .i64 m_Step), (Value.int .i64 m_Same), (Value.int .i64 m_Least)]), al] w Post :=
  Ret.of (denF_sound mixed (Eq.mpr (impl_countKeys_eq m_Chambers m_Depths m_Step m_Same m_Least al w Post) hvc))

theorem impl_countKeys_val {M : Mk} (hM : M.Ok) {al : Nat → Int → Bool} {alv : Value} {w : World} (hal : AlOk Try.prog M.c M.d al (fun W => Ext w W) alv) : Val Try.prog 142 #[mkV M.c M.d M.s M.m M.l, alv] w (.int .i64 ((G M al M.c.toNat []).length : Int)) :=
  Ret.val (impl_countKeys_calls M.c M.d M.s M.m M.l alv w _ (by
    unfold impl_countKeys_vc
    intro w1 h1 b3 w2 h2 g3 c3
    have z1 := h1.size
    refine st_one c3 rfl (.inr (by decide)) fun w4 c4 p4 z4 => ?_
    have X4 : Ext w w4 := p4.ext (h1.trans h2) fun b hb => by omega
    have hmax := G_max (M := M) (by have := hM.2.1; omega) al (n := M.c.toNat) (by have := hM.1; omega) []
    have hP : ∀ W, Pres (fun b => b < w4.heap.size ∧ b ≠ b3) w4 W → Ext w W := fun W hp => hp.ext X4 fun b hb => ⟨Nat.lt_of_lt_of_le hb X4.size, by omega⟩
    have hc := eachKey_calls (M := M) (al := al) (fr := []) (w := w4) (K0 := fun b => b < w4.heap.size ∧ b ≠ b3) (frv := .slice none 0 0) (alv := alv) (tight := false) hM
      (count_visitor b3 (L := GT M al [] M.c.toNat [] false) (by rw [GT_false]; omega)) (AlOk.mono hal hP) NilS.nil_ (fun w' _ => RI.nil_ w' 0 (Nat.zero_le _)) (by intro z hz; simp at hz) (by simp) (fun b hb => hb.1) ⟨fun h => h.2 rfl, c4⟩
    refine hc.mono ?_
    rintro e w6 ⟨rfl, ⟨K, hK, hJ, c6⟩, hp⟩
    rw [vis_all, GT_false, List.nil_append] at c6
    refine ⟨rfl, hp.keeps fun b cs T fz hb hh hT => ⟨heap_lt hh, ?_⟩, _, ld_one c6, rfl, hP w6 hp⟩
    rintro rfl
    rw [c4] at hh
    injection hh with hh
    injection hh with _ he _
    rw [← he] at hT
    exact absurd hT (by decide)))
abbrev impl_CountKeys_k0 (w : World) (Post : Value → World → Prop) (x19 : Int) (x20 : Int) (x21 : Int) (x22 : Int) (x23 : Int) (w24 : World) : Prop :=
  Calls Try.prog 142 #[(Value.agg #[(Value.int .i64 x19), (Value.int .i64 x20), (Value.int .i64 x21), (Value.int .i64 x22), (Value.int .i64 x23)]), Value.nilFunc] w24 (fun e25 w26 => ∃ n27 : Int, e25 = .returned (Value.int .i64 n27) ∧ Keeps w.heap.size [56] w24 w26 ∧ Post (Value.tuple #[(Value.int .i64 n27), (Value.int .i64 0)]) w26)
def impl_CountKeys_vc (m_Chambers : Int) (m_Depths : Int) (m_Step : Int) (m_Same : Int) (m_Least : Int) (w : World) (Post : Value → World → Prop) : Prop :=
  ∀ w1 : World, Ext w w1 → Calls Try.prog 84 #[(Value.agg #[(Value.int .i64 m_Chambers), (Value.int .i64 m_Depths), (Value.int .i64 m_Step), (Value.int .i64 m_Same), (Value.int .i64 m_Least)])] w1 (fun e2 w3 => ∃ b4 : Bool, e2 = .returned (Value.bool b4) ∧ Keeps w.heap.size [56] w1 w3 ∧ (((!b4) = true → Post (Value.tuple #[(Value.int .i64 0), (Value.int .i64 1)]) w3) ∧ ((!b4) = false → (impl_CountKeys_k0 w Post m_Chambers m_Depths m_Step m_Same m_Least w3))))
theorem impl_CountKeys_eq (m_Chambers : Int) (m_Depths : Int) (m_Step : Int) (m_Same : Int) (m_Least : Int) (w : World) (Post : Value → World → Prop) : denF Try.prog [] noAnn 78 [(Value.agg #[(Value.int .i64 m_Chambers), (Value.int .i64 m_Depths), (Value.int .i64 m_Step), (Value.int .i64 m_Same), (Value.int .i64 m_Least)])] w Post = impl_CountKeys_vc m_Chambers m_Depths m_Step m_Same m_Least w Post := by kernel_rfl
set_option maxRecDepth 100000 in
theorem impl_CountKeys_calls (m_Chambers : Int) (m_Depths : Int) (m_Step : Int) (m_Same : Int) (m_Least : Int) (w : World) (Post : Value → World → Prop) (hvc : impl_CountKeys_vc m_Chambers m_Depths m_Step m_Same m_Least w Post) : Ret Try.prog 78 #[(Value.agg #[(Value.int .i64 m_Chambers), (Value.int .i64 m_Depths), (Value.int .i64 m_Step), (Value.int .i64 m_Same), (Value.int .i64 m_Least)])] w Post :=
  Ret.of (denF_sound mixed (Eq.mpr (impl_CountKeys_eq m_Chambers m_Depths m_Step m_Same m_Least w Post) hvc))

theorem impl_CountKeys_val (c d s m l : Int) (w : World) : Val Try.prog 78 #[mkV c d s m l] w (countR ⟨c, d, s, m, l⟩) :=
  Ret.val (impl_CountKeys_calls c d s m l w _ (by
    unfold impl_CountKeys_vc
    intro w1 h1
    refine (impl_IsMaker_val ..).call fun w2 h2 => ⟨_, rfl, h2.keeps, fun hb => ⟨?_, h1.trans h2⟩, fun hb => ?_⟩
    · unfold countR; rw [if_neg (nd_t hb)]
    · have hm := nd_f hb
      refine (impl_countKeys_val (M := ⟨c, d, s, m, l⟩) hm (AlOk.all _ _ _ _)).call fun w3 h3 => ⟨_, rfl, h3.keeps, ?_, (h1.trans h2).trans h3⟩
      unfold countR; rw [if_pos hm]))
end Go.Proofs
