/- Contracts: the number of keys, the first key, of the program and of the reference. No condition. -/
import Derived.Test.YtjcggcefmpaieaaDoorEach3
import Derived.Test.YtjcggcefmpaieaaDoorLaws
set_option linter.unusedVariables false
namespace Go.Proofs
open Go.Sx Go.RowKit

/-! ### plain -/
theorem flatMap_length_le {α β : Type} {l : List α} {f : α → List β} {c : Nat} (h : ∀ x ∈ l, (f x).length ≤ c) : (l.flatMap f).length ≤ l.length * c := by
  induction l with
  | nil => simp
  | cons x l ih =>
    rw [List.flatMap_cons, List.length_append, List.length_cons, Nat.add_mul]
    have := h x (List.mem_cons_self ..)
    have := ih fun y hy => h y (List.mem_cons_of_mem _ hy)
    omega
theorem G_card (M : Mk) (al : Nat → Int → Bool) : ∀ (n : Nat) (p : List Int), (G M al n p).length ≤ M.d.toNat ^ n
  | 0, p => by
    simp only [G]
    split <;> simp
  | n + 1, p => by
    rw [G_succ]
    refine Nat.le_trans (flatMap_length_le fun x _ => G_card M al n _) ?_
    rw [Nat.pow_succ, Nat.mul_comm]
    refine Nat.mul_le_mul_left _ (Nat.le_trans (List.length_filter_le _ _) ?_)
    simp [ups]
theorem G_max {M : Mk} (hd : M.d ≤ 8) (al : Nat → Int → Bool) {n : Nat} (hn : n ≤ 6) (p : List Int) : (G M al n p).length ≤ 262144 := by
  refine Nat.le_trans (G_card M al n p) (Nat.le_trans (Nat.pow_le_pow_left (show M.d.toNat ≤ 8 by omega) n) ?_)
  exact Nat.le_trans (Nat.pow_le_pow_right (by omega) hn) (by decide)
/-- the keys of the first x cuts of the next chamber -/
def upto (M : Mk) (n : Nat) (p : List Int) (x : Int) : List (List Int) := (upFrom 0 x.toNat).flatMap fun y => GA M n (p ++ [y])
theorem upto_succ {M : Mk} {n : Nat} {p : List Int} {x : Int} (h : 0 ≤ x) : upto M n p (x + 1) = upto M n p x ++ GA M n (p ++ [x]) := by
  unfold upto
  rw [show (x + 1).toNat = x.toNat + 1 by omega, upFrom_succ, List.flatMap_append, List.flatMap_cons, List.flatMap_nil, List.append_nil]
  congr 3
  simp
  omega
theorem upto_zero (M : Mk) (n : Nat) (p : List Int) : upto M n p 0 = [] := rfl
theorem upto_all (M : Mk) (n : Nat) (p : List Int) : upto M n p M.d = GA M (n + 1) p := (GA_succ M n p).symm
theorem upto_pre {M : Mk} {n : Nat} {p : List Int} {x : Int} (hx : x ≤ M.d) : ∃ r, GA M (n + 1) p = upto M n p x ++ r := by
  rw [← upto_all]
  unfold upto
  rw [show M.d.toNat = x.toNat + (M.d.toNat - x.toNat) by omega, upFrom_split, List.flatMap_append]
  exact ⟨_, rfl⟩
theorem CutsOk.snoc {d : Int} {p : List Int} {x : Int} (h : CutsOk d p) (h0 : 0 ≤ x) (h1 : x < d) : CutsOk d (p ++ [x]) := by
  intro z hz
  rw [List.mem_append, List.mem_singleton] at hz
  rcases hz with hz | rfl
  · exact h z hz
  · omega

/-! ### rows -/
def spec_l01Own_vc (v : Value) (w : World) (Post : Value → World → Prop) : Prop :=
  ∀ (v1 : Value) (w2 : World), Sx.Own w.heap.size w2 2 v1 [] → Ext w w2 → AppV w2 2 v1 v (fun v3 w4 => Post v3 w4)
theorem spec_l01Own_eq (v : Value) (w : World) (Post : Value → World → Prop) : denF Tryd.prog [] noAnn 130 [v] w Post = spec_l01Own_vc v w Post := by kernel_rfl
set_option maxRecDepth 100000 in
theorem spec_l01Own_calls (v : Value) (w : World) (Post : Value → World → Prop) (hvc : spec_l01Own_vc v w Post) : Ret Tryd.prog 130 #[v] w Post :=
  Ret.of (denF_sound mixed (Eq.mpr (spec_l01Own_eq v w Post) hvc))

theorem spec_l01Own_ret (v : Value) (zs : List Int) (w : World) (hv : RI w v zs) (hl : zs.length ≤ 1000) : Ret Tryd.prog 130 #[v] w fun u w' => Own w.heap.size w' 2 u (ints zs) ∧ Ext w w' :=
  spec_l01Own_calls v w _ (by
    unfold spec_l01Own_vc
    intro v1 w1 o1 h1
    refine o1.app (hv.ext h1) (ints_one zs) (by simp; omega) h1.size fun v2 w2 o2 g2 hb => ⟨o2, ?_⟩
    exact h1.grown o1 (Nat.le_refl _) g2)
/-- 'append(l01Own(v), x)', whichever is made first -/
theorem own_snoc {w : World} {v : Value} {zs : List Int} (hv : RI w v zs) (hl : zs.length ≤ 1000) {x : Int} {n0 : Nat} {Ts : List TypeId} {C : Value → World → Prop} (hC : ∀ u w', Own w.heap.size w' 2 u (ints (zs ++ [x])) → Ext w w' → C u w') :
    (Calls Tryd.prog 130 #[v] w fun e w1 => ∃ u : Value, e = .returned u ∧ Keeps n0 Ts w w1 ∧ Ext w w1 ∧ ∀ (r : Value) (w2 : World), Own w1.heap.size w2 2 r [.int .i64 x] → Ext w1 w2 → AppV w2 2 u r fun u w' => Ext w w' ∧ C u w') ∧
    (∀ (r : Value) (w1 : World), Own w.heap.size w1 2 r [.int .i64 x] → Ext w w1 → Calls Tryd.prog 130 #[v] w1 fun e w2 => ∃ u : Value, e = .returned u ∧ Keeps n0 Ts w1 w2 ∧ Ext w w2 ∧ AppV w2 2 u r fun u w' => Ext w w' ∧ C u w') := by
  refine ⟨(spec_l01Own_ret v zs w hv hl).call ?_, fun r w1 hr h1 => (spec_l01Own_ret v zs w1 (hv.ext h1) hl).call ?_⟩
  · rintro u w1 ⟨o1, h1⟩
    refine ⟨u, rfl, h1.keeps, h1, fun r w2 hr h2 => ?_⟩
    refine (o1.ext h2).app1 hr rfl (by simp; omega) (Nat.le_trans h1.size h2.size) fun u' w3 o3 g3 hb => ?_
    have k := (h1.trans h2).grown (o1.ext h2) (Nat.le_refl _) g3
    exact ⟨k, hC u' w3 (by rw [ints_append]; exact o3) k⟩
  · rintro u w2 ⟨o2, h2⟩
    refine ⟨u, rfl, h2.keeps, h1.trans h2, ?_⟩
    have o2' := o2.mono h1.size
    refine o2'.app1 (hr.ext h2) rfl (by simp; omega) (Nat.le_trans h1.size h2.size) fun u' w3 o3 g3 hb => ?_
    have k := (h1.trans h2).grown o2' (Nat.le_refl _) g3
    exact ⟨k, hC u' w3 (by rw [ints_append]; exact o3) k⟩

/-! ### the number of keys -/
def countR (M : Mk) : Value := if MkOk M.c M.d M.s M.m M.l then .tuple #[.int .i64 ((keys M).length : Int), .int .i64 0] else .tuple #[.int .i64 0, .int .i64 1]
theorem countR_pair (M : Mk) : ∃ x y, countR M = .tuple #[.int .i64 x, .int .i64 y] := by
  unfold countR; split <;> exact ⟨_, _, rfl⟩
theorem AlOk.mono {P : Program} {c d : Int} {al : Nat → Int → Bool} {S S' : World → Prop} {v : Value} (h : AlOk P c d al S v) (hs : ∀ w, S' w → S w) : AlOk P c d al S' v := by
  rcases h with h | ⟨f, ca, h1, h2, h3⟩
  · exact .inl h
  · exact .inr ⟨f, ca, h1, h2, fun w i x hw => h3 w i x (hs w hw)⟩
theorem AlOk.all (P : Program) (c d : Int) (S : World → Prop) : AlOk P c d All S .nilFunc := .inl ⟨rfl, fun _ _ => rfl⟩
theorem NilS.nil_ : NilS (.slice none 0 0) (!false) := ⟨_, _, _, rfl, rfl⟩
end Go.Proofs
