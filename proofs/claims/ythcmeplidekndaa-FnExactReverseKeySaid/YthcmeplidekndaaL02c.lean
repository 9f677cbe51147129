/- Contracts: the number of keys, the first key, of the program and of the reference. No condition. -/
import Derived.Test.YthcmeplidekndaaEach3
import Derived.Test.YthcmeplidekndaaLaws
set_option linter.unusedVariables false
namespace Go.Proofs
open Go.Sx Go.RowKit

/-! ### plain -/
theorem flatMap_length_le {α β : Type} {l : List α} {f : α → List β} {c : Nat} (h : ∀ x ∈ l, (f x).length ≤ c) : (l.flatMap f).length ≤ l.length * c := by
  induction l with
  | nil => simp
  | cons x l ih =>
    rw [List.flatMap_cons, List.length_append, List.length_cons, Nat.add_mul]
    have := h x (List.mem_cons_self ..)
    have := ih fun y hy => h y (List.mem_cons_of_mem _ hy)
    omega
theorem G_card (M : Mk) (al : Nat → Int → Bool) : ∀ (n : Nat) (p : List Int), (G M al n p).length ≤ M.d.toNat ^ n
  | 0, p => by
    simp only [G]
    split <;> simp
  | n + 1, p => by
    rw [G_succ]
    refine Nat.le_trans (flatMap_length_le fun x _ => G_card M al n _) ?_
    rw [Nat.pow_succ, Nat.mul_comm]
    refine Nat.mul_le_mul_left _ (Nat.le_trans (List.length_filter_le _ _) ?_)
    simp [ups]
theorem G_max {M : Mk} (hd : M.d ≤ 8) (al : Nat → Int → Bool) {n : Nat} (hn : n ≤ 6) (p : List Int) : (G M al n p).length ≤ 262144 := by
  refine Nat.le_trans (G_card M al n p) (Nat.le_trans (Nat.pow_le_pow_left (show M.d.toNat ≤ 8 by omega) n) ?_)
  exact Nat.le_trans (Nat.pow_le_pow_right (by omega) hn) (by decide)
/-- the keys of the first x cuts of the next chamber -/
def upto (M : Mk) (n : Nat) (p : List Int) (x : Int) : List (List Int) := (upFrom 0 x.toNat).flatMap fun y => GA M n (p ++ [y])
theorem upto_succ {M : Mk} {n : Nat} {p : List Int} {x : Int} (h : 0 ≤ x) : upto M n p (x + 1) = upto M n p x ++ GA M n (p ++ [x]) := by
  unfold upto
  rw [show (x + 1).toNat = x.toNat + 1 by omega, upFrom_succ, List.flatMap_append, List.flatMap_cons, List.flatMap_nil, List.append_nil]
  congr 3
  simp
  omega
theorem upto_zero (M : Mk) (n : Nat) (p : List Int) : upto M n p 0 = [] := rfl
theorem upto_all (M : Mk) (n : Nat) (p : List Int) : upto M n p M.d = GA M (n + 1) p := (GA_succ M n p).symm
theorem upto_pre {M : Mk} {n : Nat} {p : List Int} {x : Int} (hx : x ≤ M.d) : ∃ r, GA M (n + 1) p = upto M n p x ++ r := by
  rw [← upto_all]
  unfold upto
  rw [show M.d.toNat = x.toNat + (M.d.toNat - x.toNat) by omega, upFrom_split, List.flatMap_append]
  exact ⟨_, rfl⟩
theorem CutsOk.snoc {d : Int} {p : List Int} {x : Int} (h : CutsOk d p) (h0 : 0 ≤ x) (h1 : x < d) : CutsOk d (p ++ [x]) := by
  intro z hz
  rw [List.mem_append, List.mem_singleton] at hz
  rcases hz with hz | rfl
  · exact h z hz
  · omega

/-! ### rows -/
def spec_l01Own_vc (v : Value) (w : World) (Post : Value → World → Prop) : Prop :=
  ∀ (v1 : Value) (w2 : World), Own w.heap.size w2 2 v1 [] → Ext w w2 → AppV w2 2 v1 v (fun v3 w4 => Post v3 w4)
theorem spec_l01Own_eq (v : Value) (w : World) (Post : Value → World → Prop) : denF Try.prog [] noAnn 100 [v] w Post = spec_l01Own_vc v w Post := by kernel_rfl
set_option maxRecDepth 100000 in
theorem spec_l01Own_calls (v : Value) (w : World) (Post : Value → World → Prop) (hvc : spec_l01Own_vc v w Post) : Ret Try.prog 100 #[v] w Post :=
  Ret.of (denF_sound mixed (Eq.mpr (spec_l01Own_eq v w Post) hvc))

theorem spec_l01Own_ret (v : Value) (zs : List Int) (w : World) (hv : RI w v zs) (hl : zs.length ≤ 1000) : Ret Try.prog 100 #[v] w fun u w' => Own w.heap.size w' 2 u (ints zs) ∧ Ext w w' :=
  spec_l01Own_calls v w _ (by
    unfold spec_l01Own_vc
    intro v1 w1 o1 h1
    refine o1.app (hv.ext h1) (ints_one zs) (by simp; omega) h1.size fun v2 w2 o2 g2 hb => ⟨o2, ?_⟩
    exact h1.grown o1 (Nat.le_refl _) g2)
abbrev slices_Clone_int64_int64_k0 (Post : Value → World → Prop) (x2 : Value) (w5 : World) : Prop :=
  ∀ (v6 : Value) (w7 : World), Own w5.heap.size w7 2 v6 [] → Ext w5 w7 → AppV w7 2 v6 x2 (fun v8 w9 => Post v8 w9)
def slices_Clone_int64_int64_vc (v : Value) (w : World) (Post : Value → World → Prop) : Prop :=
  ∃ b1 : Bool, NilS v b1 ∧ ((b1 = true → Post (Value.slice none 0 0) w) ∧ (b1 = false → (slices_Clone_int64_int64_k0 Post v w)))
theorem slices_Clone_int64_int64_eq (v : Value) (w : World) (Post : Value → World → Prop) : denF Try.prog [] noAnn 65 [v] w Post = slices_Clone_int64_int64_vc v w Post := by kernel_rfl
set_option maxRecDepth 100000 in
theorem slices_Clone_int64_int64_calls (v : Value) (w : World) (Post : Value → World → Prop) (hvc : slices_Clone_int64_int64_vc v w Post) : Ret Try.prog 65 #[v] w Post :=
  Ret.of (denF_sound mixed (Eq.mpr (slices_Clone_int64_int64_eq v w Post) hvc))

theorem slices_Clone_ret (v : Value) (zs : List Int) (w : World) (hv : RI w v zs) (hl : zs.length ≤ 1000) (hne : zs ≠ []) : Ret Try.prog 65 #[v] w fun u w' => Own w.heap.size w' 2 u (ints zs) ∧ Ext w w' :=
  slices_Clone_int64_int64_calls v w _ (by
    unfold slices_Clone_int64_int64_vc
    obtain ⟨a, c, rfl, h1, h2, h3⟩ := id hv
    have hpos : 0 < (ints zs).length := by rw [ints_length]; exact List.length_pos_iff.2 hne
    obtain ⟨ad, rfl, _⟩ := h3 hpos
    refine ⟨false, ⟨_, _, _, rfl, rfl⟩, fun h => (by cases h), fun _ => ?_⟩
    intro v1 w1 o1 h1
    refine o1.app (hv.ext h1) (ints_one zs) (by simp; omega) h1.size fun v2 w2 o2 g2 hb => ⟨o2, ?_⟩
    exact h1.grown o1 (Nat.le_refl _) g2)
/-- 'append(l01Own(v), x)', whichever is made first -/
theorem own_snoc {w : World} {v : Value} {zs : List Int} (hv : RI w v zs) (hl : zs.length ≤ 1000) {x : Int} {n0 : Nat} {Ts : List TypeId} {C : Value → World → Prop} (hC : ∀ u w', Own w.heap.size w' 2 u (ints (zs ++ [x])) → Ext w w' → C u w') :
    (Calls Try.prog 100 #[v] w fun e w1 => ∃ u : Value, e = .returned u ∧ Keeps n0 Ts w w1 ∧ Ext w w1 ∧ ∀ (r : Value) (w2 : World), Own w1.heap.size w2 2 r [.int .i64 x] → Ext w1 w2 → AppV w2 2 u r fun u w' => Ext w w' ∧ C u w') ∧
    (∀ (r : Value) (w1 : World), Own w.heap.size w1 2 r [.int .i64 x] → Ext w w1 → Calls Try.prog 100 #[v] w1 fun e w2 => ∃ u : Value, e = .returned u ∧ Keeps n0 Ts w1 w2 ∧ Ext w w2 ∧ AppV w2 2 u r fun u w' => Ext w w' ∧ C u w') := by
  refine ⟨(spec_l01Own_ret v zs w hv hl).call ?_, fun r w1 hr h1 => (spec_l01Own_ret v zs w1 (hv.ext h1) hl).call ?_⟩
  · rintro u w1 ⟨o1, h1⟩
    refine ⟨u, rfl, h1.keeps, h1, fun r w2 hr h2 => ?_⟩
    refine (o1.ext h2).app1 hr rfl (by simp; omega) (Nat.le_trans h1.size h2.size) fun u' w3 o3 g3 hb => ?_
    have k := (h1.trans h2).grown (o1.ext h2) (Nat.le_refl _) g3
    exact ⟨k, hC u' w3 (by rw [ints_append]; exact o3) k⟩
  · rintro u w2 ⟨o2, h2⟩
    refine ⟨u, rfl, h2.keeps, h1.trans h2, ?_⟩
    have o2' := o2.mono h1.size
    refine o2'.app1 (hr.ext h2) rfl (by simp; omega) (Nat.le_trans h1.size h2.size) fun u' w3 o3 g3 hb => ?_
    have k := (h1.trans h2).grown o2' (Nat.le_refl _) g3
    exact ⟨k, hC u' w3 (by rw [ints_append]; exact o3) k⟩

/-! ### the number of keys -/
def impl_countKeys_1_vc (k : Value) (bn : Nat) (w : World) (Post : Value → World → Prop) : Prop :=
  ∃ n1 : Int, LdV w (Value.pointer (some (⟨bn, 0, none⟩))) (Value.int .i64 n1) ∧ I64 (n1 + 1) ∧ StV w.heap.size [] w (Value.pointer (some (⟨bn, 0, none⟩))) (Value.int .i64 (n1 + 1)) (fun w2 => Post (Value.bool true) w2)
theorem impl_countKeys_1_eq (k : Value) (bn : Nat) (w : World) (Post : Value → World → Prop) : denF Try.prog [] noAnn 104 [k, (Value.pointer (some (⟨bn, 0, none⟩)))] w Post = impl_countKeys_1_vc k bn w Post := by kernel_rfl
set_option maxRecDepth 100000 in
theorem impl_countKeys_1_calls (k : Value) (bn : Nat) (w : World) (Post : Value → World → Prop) (hvc : impl_countKeys_1_vc k bn w Post) : Ret Try.prog 104 #[k, (Value.pointer (some (⟨bn, 0, none⟩)))] w Post :=
  Ret.of (denF_sound mixed (Eq.mpr (impl_countKeys_1_eq k bn w Post) hvc))

/-- the visitor that counts -/
theorem count_visitor (vb : Nat) {L : List (List Int)} (hL : L.length ≤ 1000000) : Visitor Try.prog 104 [bp vb] (fun K done w => ¬ K vb ∧ w.heap[vb]? = some (.cells #[.int .i64 (done.length : Int)] 2 (0, 0))) (fun _ _ => true) L where
  ok := by kernel_rfl
  env := by
    rintro K done w w' ⟨h1, h2⟩ hp
    exact ⟨fun hg => hg.elim h1 fun hg => absurd (heap_lt h2) (by omega), (hp.block _ (heap_lt h2) h1).trans h2⟩
  call := by
    rintro K done k w v ⟨h1, h2⟩ hK hv ⟨r, hr⟩
    have hlen := congrArg List.length hr
    simp only [List.length_append, List.length_cons] at hlen
    refine (impl_countKeys_1_calls v vb w (fun u w' => u = .bool true ∧ Pres K w w' ∧ ¬ K vb ∧ w'.heap[vb]? = some (.cells #[.int .i64 ((done ++ [k]).length : Int)] 2 (0, 0))) ?_).call fun u w' h => ⟨by rw [h.1], h.2⟩
    unfold impl_countKeys_1_vc
    refine ⟨_, ld_one h2, by unfold I64; omega, st_one h2 rfl (.inr (by simp)) fun w' h3 hp hs => ⟨rfl, hp.mono fun b _ hb => ?_, h1, ?_⟩⟩
    · rintro rfl
      exact h1 hb
    · rw [List.length_append]
      exact h3
theorem AlOk.mono {P : Program} {c d : Int} {al : Nat → Int → Bool} {S S' : World → Prop} {v : Value} (h : AlOk P c d al S v) (hs : ∀ w, S' w → S w) : AlOk P c d al S' v := by
  rcases h with h | ⟨f, ca, h1, h2, h3⟩
  · exact .inl h
  · exact .inr ⟨f, ca, h1, h2, fun w i x hw => h3 w i x (hs w hw)⟩
theorem AlOk.all (P : Program) (c d : Int) (S : World → Prop) : AlOk P c d All S .nilFunc := .inl ⟨rfl, fun _ _ => rfl⟩
theorem NilS.nil_ : NilS (.slice none 0 0) (!false) := ⟨_, _, _, rfl, rfl⟩
def impl_countKeys_vc (m_Chambers : Int) (m_Depths : Int) (m_Step : Int) (m_Same : Int) (m_Least : Int) (al : Value) (w : World) (Post : Value → World → Prop) : Prop :=
  ∀ w1 : World, Ext w w1 → ∀ (b3 : Nat) (w2 : World), Ext w1 w2 → w1.heap.size ≤ b3 → w2.heap[b3]? = some (.cells #[(Value.int .i64 0)] 2 (0, 0)) → StV w.heap.size [27] w2 (Value.pointer (some (⟨b3, 0, none⟩))) (Value.int .i64 0) (fun w4 => Calls Try.prog 97 #[(Value.agg #[(Value.int .i64 m_Chambers), (Value.int .i64 m_Depths), (Value.int .i64 m_Step), (Value.int .i64 m_Same), (Value.int .i64 m_Least)]), (Value.slice none 0 0), al, (Value.func (.func 104) #[] #[(Value.pointer (some (⟨b3, 0, none⟩)))])] w4 (fun e5 w6 => e5 = .returned (Value.tuple #[]) ∧ Keeps w.heap.size [27] w4 w6 ∧ ∃ n7 : Int, LdV w6 (Value.pointer (some (⟨b3, 0, none⟩))) (Value.int .i64 n7) ∧ Post (Value.int .i64 n7) w6))
theorem impl_countKeys_eq (m_Chambers : Int) (m_Depths : Int) (m_Step : Int) (m_Same : Int) (m_Least : Int) (al : Value) (w : World) (Post : Value → World → Prop) : denF Try.prog [5] noAnn 86 [(Value.agg #[(Value.int .i64 m_Chambers), (Value.int .i64 m_Depths), (Value.int .i64 m_Step), (Value.int .i64 m_Same), (Value.int .i64 m_Least)]), al] w Post = impl_countKeys_vc m_Chambers m_Depths m_Step m_Same m_Least al w Post := by kernel_rfl
set_option maxRecDepth 100000 in
theorem impl_countKeys_calls (m_Chambers : Int) (m_Depths : Int) (m_Step : Int) (m_Same : Int) (m_Least : Int) (al : Value) (w : World) (Post : Value → World → Prop) (hvc : impl_countKeys_vc m_Chambers m_Depths m_Step m_Same m_Least al w Post) : Ret Try.prog 86 #[(Value.agg #[(Value.int .i64 m_Chambers), (Value.int .i64 m_Depths), (Value.int .i64 m_Step), (Value.int .i64 m_Same), (Value.int .i64 m_Least)]), al] w Post :=
  Ret.of (denF_sound mixed (Eq.mpr (impl_countKeys_eq m_Chambers m_Depths m_Step m_Same m_Least al w Post) hvc))

theorem impl_countKeys_val {M : Mk} (hM : M.Ok) {al : Nat → Int → Bool} {alv : Value} {w : World} (hal : AlOk Try.prog M.c M.d al (fun W => Ext w W) alv) : Val Try.prog 86 #[mkV M.c M.d M.s M.m M.l, alv] w (.int .i64 ((G M al M.c.toNat []).length : Int)) :=
  Ret.val (impl_countKeys_calls M.c M.d M.s M.m M.l alv w _ (by
    unfold impl_countKeys_vc
    intro w1 h1 b3 w2 h2 g3 c3
    have z1 := h1.size
    refine st_one c3 rfl (.inr (by decide)) fun w4 c4 p4 z4 => ?_
    have X4 : Ext w w4 := p4.ext (h1.trans h2) fun b hb => by omega
    have hmax := G_max (M := M) (by have := hM.2.1; omega) al (n := M.c.toNat) (by have := hM.1; omega) []
    have hP : ∀ W, Pres (fun b => b < w4.heap.size ∧ b ≠ b3) w4 W → Ext w W := fun W hp => hp.ext X4 fun b hb => ⟨Nat.lt_of_lt_of_le hb X4.size, by omega⟩
    have hc := eachKey_calls (M := M) (al := al) (fr := []) (w := w4) (K0 := fun b => b < w4.heap.size ∧ b ≠ b3) (frv := .slice none 0 0) (alv := alv) (tight := false) hM
      (count_visitor b3 (L := GT M al [] M.c.toNat [] false) (by rw [GT_false]; omega)) (AlOk.mono hal hP) NilS.nil_ (fun w' _ => RI.nil_ w' 0 (Nat.zero_le _)) (by intro z hz; simp at hz) (by simp) (fun b hb => hb.1) ⟨fun h => h.2 rfl, c4⟩
    refine hc.mono ?_
    rintro e w6 ⟨rfl, ⟨K, hK, hJ, c6⟩, hp⟩
    rw [vis_all, GT_false, List.nil_append] at c6
    refine ⟨rfl, hp.keeps fun b cs T fz hb hh hT => ⟨heap_lt hh, ?_⟩, _, ld_one c6, rfl, hP w6 hp⟩
    rintro rfl
    rw [c4] at hh
    injection hh with hh
    injection hh with _ he _
    rw [← he] at hT
    exact absurd hT (by decide)))
end Go.Proofs
