/- The stock of locks: its contracts. No condition. -/
import Derived.Test.YtjcggcefmpaieaaDoorVw
import Derived.Test.YtjcggcefmpaieaaDoorL05a
import Derived.Test.YtjcggcefmpaieaaDoorL03a
set_option linter.unusedVariables false
namespace Go.Proofs
open Go.Sx Go.RowKit
/-! ### counts in plain Lean -/
def bump (xs : List Int) (k : Int) : List Int := xs.set k.toNat (xs.getD k.toNat 0 + 1)
theorem bump_length (xs : List Int) (k : Int) : (bump xs k).length = xs.length := by simp [bump]
def Bd (n : Int) (xs : List Int) : Prop := ∀ x ∈ xs, 0 ≤ x ∧ x ≤ n
theorem Bd.mono {n m : Int} {xs : List Int} (h : Bd n xs) (hm : n ≤ m) : Bd m xs := fun x hx => by have := h x hx; omega
theorem Bd.at {n : Int} {xs : List Int} (h : Bd n xs) (h0 : 0 ≤ n) (k : Nat) : 0 ≤ xs.getD k 0 ∧ xs.getD k 0 ≤ n := by
  rcases Nat.lt_or_ge k xs.length with hk | hk
  · rw [getD_get hk]
    exact h _ (List.getElem_mem hk)
  · rw [List.getD, List.getElem?_eq_none hk]
    exact ⟨Int.le_refl _, h0⟩
theorem Bd.bump {n : Int} {xs : List Int} (h : Bd n xs) (h0 : 0 ≤ n) (k : Int) : Bd (n + 1) (bump xs k) := by
  intro x hx
  rcases List.mem_or_eq_of_mem_set hx with hx | rfl
  · have := h x hx; omega
  · have := h.at h0 k.toNat; omega
def bumps (l xs : List Int) : List Int := xs.foldl bump l
theorem bumps_length (l xs : List Int) : (bumps l xs).length = l.length := by
  induction xs generalizing l with
  | nil => rfl
  | cons x xs ih => exact (ih _).trans (bump_length _ _)
theorem bumps_snoc (l xs : List Int) (x : Int) : bumps l (xs ++ [x]) = bump (bumps l xs) x := by simp [bumps]
structure Tri where
  b : List Int
  w : List Int
  d : List Int
def mid (st : List Int) : List Int := (st.take (st.length - 1)).drop 1
theorem mid_length (st : List Int) : (mid st).length = st.length - 2 := by simp [mid]; omega
theorem mid_get {st : List Int} {k : Nat} (hk : k < (mid st).length) : (mid st)[k] = st[k + 1]'(by rw [mid_length] at hk; omega) := by
  simp [mid]
def Tri.add (T : Tri) (st : List Int) : Tri := ⟨bump T.b (st.getD 0 0), bumps T.w (mid st), bump T.d (st.getD (st.length - 1) 0)⟩
def Tri.adds (T : Tri) (sts : List (List Int)) : Tri := sts.foldl Tri.add T
theorem Tri.adds_snoc (T : Tri) {sts : List (List Int)} {c : Nat} (hc : c < sts.length) : T.adds (sts.take (c + 1)) = (T.adds (sts.take c)).add sts[c] := by
  unfold Tri.adds
  rw [take_snoc sts c hc, List.foldl_append]
  rfl
def zeros (d : Int) : List Int := List.replicate d.toNat 0
theorem ints_zeros (d : Int) : ints (zeros d) = List.replicate d.toNat (Value.int .i64 0) := by simp [ints, zeros]
def tri0 (d : Int) : Tri := ⟨zeros d, zeros d, zeros d⟩
def noTri : Tri := ⟨[], [], []⟩
def stock (d : Int) (lss : List (List (List Int))) : Tri := lss.foldl (fun T z => T.adds (z.map (stack d))) (tri0 d)
theorem stock_snoc (d : Int) {lss : List (List (List Int))} {i : Nat} (hi : i < lss.length) : stock d (lss.take (i + 1)) = (stock d (lss.take i)).adds (lss[i].map (stack d)) := by
  unfold stock
  rw [take_snoc lss i hi, List.foldl_append]
  rfl
structure Tri.Ok (T : Tri) (n : Int) (D : Nat) : Prop where
  lb : T.b.length = D
  lw : T.w.length = D
  ld : T.d.length = D
  b : Bd n T.b
  w : Bd n T.w
  d : Bd n T.d
theorem Tri.Ok.mono {T : Tri} {n m : Int} {D : Nat} (h : T.Ok n D) (hm : n ≤ m) : T.Ok m D := ⟨h.lb, h.lw, h.ld, h.b.mono hm, h.w.mono hm, h.d.mono hm⟩
theorem tri0_ok (d : Int) : (tri0 d).Ok 0 d.toNat := by
  have hb : Bd 0 (zeros d) := fun x hx => by
    have := (List.mem_replicate.1 hx).2
    omega
  exact ⟨by simp [tri0, zeros], by simp [tri0, zeros], by simp [tri0, zeros], hb, hb, hb⟩
def stkCode (M : Mk) (lss : List (List (List Int))) : Int := if LksOk M.c M.d M.s M.m M.l lss then (if lss.length ≤ 40 then 0 else 3) else 1
def stkR (M : Mk) (lss : List (List (List Int))) : Tri := if LksOk M.c M.d M.s M.m M.l lss then (if lss.length ≤ 40 then stock M.d lss else noTri) else noTri
theorem stk_no {M : Mk} {lss : List (List (List Int))} (h : ¬ LksOk M.c M.d M.s M.m M.l lss) : stkR M lss = noTri ∧ stkCode M lss = 1 := by unfold stkR stkCode; rw [if_neg h, if_neg h]; exact ⟨rfl, rfl⟩
theorem stk_many {M : Mk} {lss : List (List (List Int))} (h : LksOk M.c M.d M.s M.m M.l lss) (h2 : ¬ lss.length ≤ 40) : stkR M lss = noTri ∧ stkCode M lss = 3 := by unfold stkR stkCode; rw [if_pos h, if_pos h, if_neg h2, if_neg h2]; exact ⟨rfl, rfl⟩
theorem stk_yes {M : Mk} {lss : List (List (List Int))} (h : LksOk M.c M.d M.s M.m M.l lss) (h2 : lss.length ≤ 40) : stkR M lss = stock M.d lss ∧ stkCode M lss = 0 := by unfold stkR stkCode; rw [if_pos h, if_pos h, if_pos h2, if_pos h2]; exact ⟨rfl, rfl⟩
theorem stack_in {d : Int} {z : List Int} (hz : z ≠ []) (hr : Rises d z z.length) : ∀ x ∈ stack d z, 0 ≤ x ∧ x ≤ d - 1 := by
  intro x hx
  unfold stack at hx
  have hn := List.length_pos_iff.2 hz
  rcases List.mem_append.1 hx with hx | hx
  · obtain ⟨k, hk, rfl⟩ := List.getElem_of_mem hx
    rw [steps_get]
    have hk' : k < z.length := by rw [steps_length] at hk; exact hk
    have a := hr k hk'
    split
    · rename_i h0; subst h0
      have := a.1; have := a.2.1
      omega
    · have b := hr (k - 1) (by omega)
      have := a.1; have := a.2.1; have := a.2.2 (by omega); have := b.1; have := b.2.1
      omega
  · simp only [List.mem_singleton] at hx
    have a := hr (z.length - 1) (by omega)
    have := a.1; have := a.2.1
    omega
/-- what the pins of a lock are -/
theorem pins_in {M : Mk} (hm : MkOk M.c M.d M.s M.m M.l) {zss : List (List Int)} (h : LkAll M.c M.d zss) {st : List Int} (hst : st ∈ zss.map (stack M.d)) : 2 ≤ st.length ∧ st.length ≤ 9 ∧ ∀ x ∈ st, 0 ≤ x ∧ x ≤ M.d - 1 := by
  obtain ⟨z, hz, rfl⟩ := List.mem_map.1 hst
  obtain ⟨hne, hr⟩ := h.2 z hz
  have hd := hm.2.1
  have hl := rises_len hr (by omega)
  have hn := List.length_pos_iff.2 hne
  rw [stack_length]
  exact ⟨by omega, by omega, stack_in hne hr⟩
/-! ### in memory -/
section
variable {B N : Nat} {w w' W W' : World} {v : Value}
theorem VwR.pres {zss : List (List Int)} (h : VwR B w v zss) {K : Nat → Prop} (p : Pres K w w') (hK : ∀ k, B ≤ k → K k) : VwR B w' v zss :=
  let ⟨us, h1, h2⟩ := h
  ⟨us, h1.keep fun g cs hB hg => (p.block g (heap_lt hg) (hK g hB)).trans hg, h2.map fun u z hr => hr.keep fun g cs hB hg => (p.block g (heap_lt hg) (hK g hB)).trans hg⟩
theorem VwR.getV {zss : List (List Int)} (h : VwR B w v zss) {i : Int} (k : Nat) (hi : i = k) (hk : k < zss.length) {R : Value → Prop} (hR : ∀ u, Vw B w 2 u (ints zss[k]) → R u) : IxV 1 v i (fun ad => ∃ u : Value, LdV w (.pointer (some ad)) u ∧ R u) := by
  obtain ⟨us, h1, h2⟩ := h
  exact h1.rd.ix k hi (by rw [h2.1]; exact hk) fun ad had => ⟨_, had, hR _ (h2.get hk)⟩
theorem _root_.Go.Sx.Vw.ri {zs : List Int} (h : Vw B w 2 v (ints zs)) : RI w v zs := h.rd
theorem _root_.Go.Sx.OwnI.inc {xs : List Int} (h : OwnI B N w 2 v (ints xs)) {n : Int} (h0 : 0 ≤ n) (h1 : n < (xs.length : Int)) (hb : I64 (xs.getD n.toNat 0 + 1)) {n0 : Nat} {Ts : List TypeId} (hT : 2 ∉ Ts) {K : World → Prop}
    (hK : ∀ W', OwnI B N W' 2 v (ints (bump xs n)) → w.grownBy W' v.ownBlock → K W') :
    IxV 1 v n (fun ad => ∃ m : Int, LdV w (.pointer (some ad)) (.int .i64 m) ∧ I64 (m + 1) ∧ IxV 1 v n (fun ad' => StV n0 Ts w (.pointer (some ad')) (.int .i64 (m + 1)) K)) := by
  have hk : n.toNat < xs.length := by omega
  have hr : RI w v xs := h.1.rd
  rw [getD_get hk] at hb
  refine hr.get n.toNat (by omega) hk ⟨hb, h.1.setAt n.toNat (by omega) (by simpa using hk) rfl hT fun W' o g => hK W' ⟨?_, h.2⟩ g⟩
  have e : ints (bump xs n) = (ints xs).set n.toNat (.int .i64 (xs[n.toNat] + 1)) := by
    unfold bump ints
    rw [List.map_set, getD_get hk]
  rw [e]
  exact o
/-- three rows of counts -/
structure TriR (B N : Nat) (W : World) (vb vw vd : Value) (T : Tri) : Prop where
  b : OwnI B N W 2 vb (ints T.b)
  w : OwnI B N W 2 vw (ints T.w)
  d : OwnI B N W 2 vd (ints T.d)
  bw : Apart vb vw
  bd : Apart vb vd
  wd : Apart vw vd
variable {vb vw vd : Value} {T : Tri}
theorem TriR.ext (h : TriR B N W vb vw vd T) (e : Ext W W') : TriR B N W' vb vw vd T := ⟨h.b.ext e, h.w.ext e, h.d.ext e, h.bw, h.bd, h.wd⟩
theorem TriR.bxs (h : TriR B N W vb vw vd T) {n0 : Nat} {Q : TypeId} (e : BxS n0 Q W W') (hT : 2 ≠ Q) : TriR B N W' vb vw vd T := ⟨h.b.bxs e hT, h.w.bxs e hT, h.d.bxs e hT, h.bw, h.bd, h.wd⟩
theorem _root_.Go.Sx.OwnI.out {xs : List Value} (h : OwnI B N W 2 v xs) (g : W.grownBy W' v.ownBlock) : Pres (fun k => N ≤ k ∨ k < B) W W' :=
  grown_pres g fun b hb hK => by have := (h.1.lt hb).1; have := h.2 b hb; omega
theorem TriR.incB (h : TriR B N W vb vw vd T) {m : Int} {D : Nat} (hok : T.Ok m D) (hm : 0 ≤ m) (hm2 : m ≤ 1000000) {n : Int} (h0 : 0 ≤ n) (h1 : n < D) {n0 : Nat} {Ts : List TypeId} (hT : 2 ∉ Ts) {K : World → Prop}
    (hK : ∀ W', TriR B N W' vb vw vd ⟨bump T.b n, T.w, T.d⟩ → Pres (fun k => N ≤ k ∨ k < B) W W' → K W') :
    IxV 1 vb n (fun ad => ∃ x : Int, LdV W (.pointer (some ad)) (.int .i64 x) ∧ I64 (x + 1) ∧ IxV 1 vb n (fun ad' => StV n0 Ts W (.pointer (some ad')) (.int .i64 (x + 1)) K)) :=
  h.b.inc h0 (by have := hok.lb; omega) (by have := hok.b.at hm n.toNat; unfold I64; omega) hT fun W' o g => hK W' ⟨o, ⟨h.w.1.grown g h.bw.symm, h.w.2⟩, ⟨h.d.1.grown g h.bd.symm, h.d.2⟩, h.bw, h.bd, h.wd⟩ (h.b.out g)
theorem TriR.incW (h : TriR B N W vb vw vd T) {m : Int} {D : Nat} (hok : T.Ok m D) (hm : 0 ≤ m) (hm2 : m ≤ 1000000) {n : Int} (h0 : 0 ≤ n) (h1 : n < D) {n0 : Nat} {Ts : List TypeId} (hT : 2 ∉ Ts) {K : World → Prop}
    (hK : ∀ W', TriR B N W' vb vw vd ⟨T.b, bump T.w n, T.d⟩ → Pres (fun k => N ≤ k ∨ k < B) W W' → K W') :
    IxV 1 vw n (fun ad => ∃ x : Int, LdV W (.pointer (some ad)) (.int .i64 x) ∧ I64 (x + 1) ∧ IxV 1 vw n (fun ad' => StV n0 Ts W (.pointer (some ad')) (.int .i64 (x + 1)) K)) :=
  h.w.inc h0 (by have := hok.lw; omega) (by have := hok.w.at hm n.toNat; unfold I64; omega) hT fun W' o g => hK W' ⟨⟨h.b.1.grown g h.bw, h.b.2⟩, o, ⟨h.d.1.grown g h.wd.symm, h.d.2⟩, h.bw, h.bd, h.wd⟩ (h.w.out g)
theorem TriR.incD (h : TriR B N W vb vw vd T) {m : Int} {D : Nat} (hok : T.Ok m D) (hm : 0 ≤ m) (hm2 : m ≤ 1000000) {n : Int} (h0 : 0 ≤ n) (h1 : n < D) {n0 : Nat} {Ts : List TypeId} (hT : 2 ∉ Ts) {K : World → Prop}
    (hK : ∀ W', TriR B N W' vb vw vd ⟨T.b, T.w, bump T.d n⟩ → Pres (fun k => N ≤ k ∨ k < B) W W' → K W') :
    IxV 1 vd n (fun ad => ∃ x : Int, LdV W (.pointer (some ad)) (.int .i64 x) ∧ I64 (x + 1) ∧ IxV 1 vd n (fun ad' => StV n0 Ts W (.pointer (some ad')) (.int .i64 (x + 1)) K)) :=
  h.d.inc h0 (by have := hok.ld; omega) (by have := hok.d.at hm n.toNat; unfold I64; omega) hT fun W' o g => hK W' ⟨⟨h.b.1.grown g h.bd, h.b.2⟩, ⟨h.w.1.grown g h.wd, h.w.2⟩, o, h.bw, h.bd, h.wd⟩ (h.d.out g)
end
theorem Tri.Ok.bumpB {T : Tri} {n : Int} {D : Nat} (h : T.Ok n D) (hn : 0 ≤ n) (k : Int) : Tri.Ok ⟨Go.Proofs.bump T.b k, T.w, T.d⟩ (n + 1) D := ⟨(bump_length _ _).trans h.lb, h.lw, h.ld, h.b.bump hn k, h.w.mono (by omega), h.d.mono (by omega)⟩
theorem Tri.Ok.bumpW {T : Tri} {n : Int} {D : Nat} (h : T.Ok n D) (hn : 0 ≤ n) (k : Int) : Tri.Ok ⟨T.b, Go.Proofs.bump T.w k, T.d⟩ (n + 1) D := ⟨h.lb, (bump_length _ _).trans h.lw, h.ld, h.b.mono (by omega), h.w.bump hn k, h.d.mono (by omega)⟩
theorem Tri.Ok.bumpD {T : Tri} {n : Int} {D : Nat} (h : T.Ok n D) (hn : 0 ≤ n) (k : Int) : Tri.Ok ⟨T.b, T.w, Go.Proofs.bump T.d k⟩ (n + 1) D := ⟨h.lb, h.lw, (bump_length _ _).trans h.ld, h.b.mono (by omega), h.w.mono (by omega), h.d.bump hn k⟩
/-- a call hands back three rows of its own and a code -/
def StR (f : FuncId) (args : Array Value) (w : World) (T : Tri) (code : Int) : Prop :=
  Ret Tryd.prog f args w fun r w' => ∃ a b d N, r = .tuple #[a, b, d, .int .i64 code] ∧ TriR w.heap.size N w' a b d T ∧ N ≤ w'.heap.size ∧ Ext w w'
theorem TriR.none_ (B N : Nat) (w : World) : TriR B N w (.slice none 0 0) (.slice none 0 0) (.slice none 0 0) noTri :=
  ⟨⟨Own.nil_ _ _ _, fun g hg => by simp [Value.ownBlock] at hg⟩, ⟨Own.nil_ _ _ _, fun g hg => by simp [Value.ownBlock] at hg⟩, ⟨Own.nil_ _ _ _, fun g hg => by simp [Value.ownBlock] at hg⟩, .inl rfl, .inl rfl, .inl rfl⟩
/-- three rows made one behind the other -/
theorem TriR.make {w w1 w2 w3 w4 : World} {d : Int} {vb vw vd : Value} (e1 : Ext w w1) (hb : Own w1.heap.size w2 2 vb (List.replicate d.toNat (Value.int .i64 0))) (hw : Own w2.heap.size w3 2 vw (List.replicate d.toNat (Value.int .i64 0))) (hd : Own w3.heap.size w4 2 vd (List.replicate d.toNat (Value.int .i64 0)))
    (e2 : Ext w1 w2) (e3 : Ext w2 w3) (e4 : Ext w3 w4) : TriR w.heap.size w4.heap.size w4 vb vw vd (tri0 d) ∧ TriR w.heap.size w4.heap.size w4 vb vd vw (tri0 d) ∧ TriR w.heap.size w4.heap.size w4 vw vb vd (tri0 d) ∧ TriR w.heap.size w4.heap.size w4 vw vd vb (tri0 d) ∧ TriR w.heap.size w4.heap.size w4 vd vb vw (tri0 d) ∧ TriR w.heap.size w4.heap.size w4 vd vw vb (tri0 d) := by
  have a1 : Apart vb vw := Apart.new hb hw
  have a2 : Apart vw vd := Apart.new hw hd
  have a3 : Apart vb vd := Apart.new (hb.ext e3) hd
  have o1 : OwnI w.heap.size w4.heap.size w4 2 vb (ints (zeros d)) := by rw [ints_zeros]; exact (((hb.ext e3).ext e4).mono e1.size).i
  have o2 : OwnI w.heap.size w4.heap.size w4 2 vw (ints (zeros d)) := by rw [ints_zeros]; exact ((hw.ext e4).mono (e1.trans e2).size).i
  have o3 : OwnI w.heap.size w4.heap.size w4 2 vd (ints (zeros d)) := by rw [ints_zeros]; exact (hd.mono ((e1.trans e2).trans e3).size).i
  exact ⟨⟨o1, o2, o3, a1, a3, a2⟩, ⟨o1, o3, o2, a3, a1, a2.symm⟩, ⟨o2, o1, o3, a1.symm, a2, a3⟩, ⟨o2, o3, o1, a2, a1.symm, a3.symm⟩, ⟨o3, o1, o2, a3.symm, a2.symm, a1⟩, ⟨o3, o2, o1, a2.symm, a3.symm, a1.symm⟩⟩
end Go.Proofs
