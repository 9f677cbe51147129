/- The stock of locks: its contracts. No condition. -/
import Derived.Test.YteolgidmaklbkaaVw
import Derived.Test.YteolgidmaklbkaaL05a
import Derived.Test.YteolgidmaklbkaaL03a
set_option linter.unusedVariables false
namespace Go.Proofs
open Go.Sx Go.RowKit
/-! ### counts in plain Lean -/
def bump (xs : List Int) (k : Int) : List Int := xs.set k.toNat (xs.getD k.toNat 0 + 1)
theorem bump_length (xs : List Int) (k : Int) : (bump xs k).length = xs.length := by simp [bump]
def Bd (n : Int) (xs : List Int) : Prop := ∀ x ∈ xs, 0 ≤ x ∧ x ≤ n
theorem Bd.mono {n m : Int} {xs : List Int} (h : Bd n xs) (hm : n ≤ m) : Bd m xs := fun x hx => by have := h x hx; omega
theorem Bd.at {n : Int} {xs : List Int} (h : Bd n xs) (h0 : 0 ≤ n) (k : Nat) : 0 ≤ xs.getD k 0 ∧ xs.getD k 0 ≤ n := by
  rcases Nat.lt_or_ge k xs.length with hk | hk
  · rw [getD_get hk]
    exact h _ (List.getElem_mem hk)
  · rw [List.getD, List.getElem?_eq_none hk]
    exact ⟨Int.le_refl _, h0⟩
theorem Bd.bump {n : Int} {xs : List Int} (h : Bd n xs) (h0 : 0 ≤ n) (k : Int) : Bd (n + 1) (bump xs k) := by
  intro x hx
  rcases List.mem_or_eq_of_mem_set hx with hx | rfl
  · have := h x hx; omega
  · have := h.at h0 k.toNat; omega
def bumps (l xs : List Int) : List Int := xs.foldl bump l
theorem bumps_length (l xs : List Int) : (bumps l xs).length = l.length := by
  induction xs generalizing l with
  | nil => rfl
  | cons x xs ih => exact (ih _).trans (bump_length _ _)
theorem bumps_snoc (l xs : List Int) (x : Int) : bumps l (xs ++ [x]) = bump (bumps l xs) x := by simp [bumps]
structure Tri where
  b : List Int
  w : List Int
  d : List Int
def mid (st : List Int) : List Int := (st.take (st.length - 1)).drop 1
theorem mid_length (st : List Int) : (mid st).length = st.length - 2 := by simp [mid]; omega
theorem mid_get {st : List Int} {k : Nat} (hk : k < (mid st).length) : (mid st)[k] = st[k + 1]'(by rw [mid_length] at hk; omega) := by
  simp [mid]
def Tri.add (T : Tri) (st : List Int) : Tri := ⟨bump T.b (st.getD 0 0), bumps T.w (mid st), bump T.d (st.getD (st.length - 1) 0)⟩
def Tri.adds (T : Tri) (sts : List (List Int)) : Tri := sts.foldl Tri.add T
theorem Tri.adds_snoc (T : Tri) {sts : List (List Int)} {c : Nat} (hc : c < sts.length) : T.adds (sts.take (c + 1)) = (T.adds (sts.take c)).add sts[c] := by
  unfold Tri.adds
  rw [take_snoc sts c hc, List.foldl_append]
  rfl
def zeros (d : Int) : List Int := List.replicate d.toNat 0
theorem ints_zeros (d : Int) : ints (zeros d) = List.replicate d.toNat (Value.int .i64 0) := by simp [ints, zeros]
def tri0 (d : Int) : Tri := ⟨zeros d, zeros d, zeros d⟩
def noTri : Tri := ⟨[], [], []⟩
def stock (d : Int) (lss : List (List (List Int))) : Tri := lss.foldl (fun T z => T.adds (z.map (stack d))) (tri0 d)
theorem stock_snoc (d : Int) {lss : List (List (List Int))} {i : Nat} (hi : i < lss.length) : stock d (lss.take (i + 1)) = (stock d (lss.take i)).adds (lss[i].map (stack d)) := by
  unfold stock
  rw [take_snoc lss i hi, List.foldl_append]
  rfl
structure Tri.Ok (T : Tri) (n : Int) (D : Nat) : Prop where
  lb : T.b.length = D
  lw : T.w.length = D
  ld : T.d.length = D
  b : Bd n T.b
  w : Bd n T.w
  d : Bd n T.d
theorem Tri.Ok.mono {T : Tri} {n m : Int} {D : Nat} (h : T.Ok n D) (hm : n ≤ m) : T.Ok m D := ⟨h.lb, h.lw, h.ld, h.b.mono hm, h.w.mono hm, h.d.mono hm⟩
theorem tri0_ok (d : Int) : (tri0 d).Ok 0 d.toNat := by
  have hb : Bd 0 (zeros d) := fun x hx => by
    have := (List.mem_replicate.1 hx).2
    omega
  exact ⟨by simp [tri0, zeros], by simp [tri0, zeros], by simp [tri0, zeros], hb, hb, hb⟩
def stkCode (M : Mk) (lss : List (List (List Int))) : Int := if LksOk M.c M.d M.s M.m M.l lss then (if lss.length ≤ 40 then 0 else 3) else 1
def stkR (M : Mk) (lss : List (List (List Int))) : Tri := if LksOk M.c M.d M.s M.m M.l lss then (if lss.length ≤ 40 then stock M.d lss else noTri) else noTri
theorem stk_no {M : Mk} {lss : List (List (List Int))} (h : ¬ LksOk M.c M.d M.s M.m M.l lss) : stkR M lss = noTri ∧ stkCode M lss = 1 := by unfold stkR stkCode; rw [if_neg h, if_neg h]; exact ⟨rfl, rfl⟩
theorem stk_many {M : Mk} {lss : List (List (List Int))} (h : LksOk M.c M.d M.s M.m M.l lss) (h2 : ¬ lss.length ≤ 40) : stkR M lss = noTri ∧ stkCode M lss = 3 := by unfold stkR stkCode; rw [if_pos h, if_pos h, if_neg h2, if_neg h2]; exact ⟨rfl, rfl⟩
theorem stk_yes {M : Mk} {lss : List (List (List Int))} (h : LksOk M.c M.d M.s M.m M.l lss) (h2 : lss.length ≤ 40) : stkR M lss = stock M.d lss ∧ stkCode M lss = 0 := by unfold stkR stkCode; rw [if_pos h, if_pos h, if_pos h2, if_pos h2]; exact ⟨rfl, rfl⟩
theorem stack_in {d : Int} {z : List Int} (hz : z ≠ []) (hr : Rises d z z.length) : ∀ x ∈ stack d z, 0 ≤ x ∧ x ≤ d - 1 := by
  intro x hx
  unfold stack at hx
  have hn := List.length_pos_iff.2 hz
  rcases List.mem_append.1 hx with hx | hx
  · obtain ⟨k, hk, rfl⟩ := List.getElem_of_mem hx
    rw [steps_get]
    have hk' : k < z.length := by rw [steps_length] at hk; exact hk
    have a := hr k hk'
    split
    · rename_i h0; subst h0
      have := a.1; have := a.2.1
      omega
    · have b := hr (k - 1) (by omega)
      have := a.1; have := a.2.1; have := a.2.2 (by omega); have := b.1; have := b.2.1
      omega
  · simp only [List.mem_singleton] at hx
    have a := hr (z.length - 1) (by omega)
    have := a.1; have := a.2.1
    omega
/-- what the pins of a lock are -/
theorem pins_in {M : Mk} (hm : MkOk M.c M.d M.s M.m M.l) {zss : List (List Int)} (h : LkAll M.c M.d zss) {st : List Int} (hst : st ∈ zss.map (stack M.d)) : 2 ≤ st.length ∧ st.length ≤ 9 ∧ ∀ x ∈ st, 0 ≤ x ∧ x ≤ M.d - 1 := by
  obtain ⟨z, hz, rfl⟩ := List.mem_map.1 hst
  obtain ⟨hne, hr⟩ := h.2 z hz
  have hd := hm.2.1
  have hl := rises_len hr (by omega)
  have hn := List.length_pos_iff.2 hne
  rw [stack_length]
  exact ⟨by omega, by omega, stack_in hne hr⟩
/-! ### in memory -/
section
variable {B N : Nat} {w w' W W' : World} {v : Value}
theorem VwR.pres {zss : List (List Int)} (h : VwR B w v zss) {K : Nat → Prop} (p : Pres K w w') (hK : ∀ k, B ≤ k → K k) : VwR B w' v zss :=
  let ⟨us, h1, h2⟩ := h
  ⟨us, h1.keep fun g cs hB hg => (p.block g (heap_lt hg) (hK g hB)).trans hg, h2.map fun u z hr => hr.keep fun g cs hB hg => (p.block g (heap_lt hg) (hK g hB)).trans hg⟩
theorem VwR.getV {zss : List (List Int)} (h : VwR B w v zss) {i : Int} (k : Nat) (hi : i = k) (hk : k < zss.length) {R : Value → Prop} (hR : ∀ u, Vw B w 2 u (ints zss[k]) → R u) : IxV 1 v i (fun ad => ∃ u : Value, LdV w (.pointer (some ad)) u ∧ R u) := by
  obtain ⟨us, h1, h2⟩ := h
  exact h1.rd.ix k hi (by rw [h2.1]; exact hk) fun ad had => ⟨_, had, hR _ (h2.get hk)⟩
theorem _root_.Go.Sx.Vw.ri {zs : List Int} (h : Vw B w 2 v (ints zs)) : RI w v zs := h.rd
theorem _root_.Go.Sx.OwnI.inc {xs : List Int} (h : OwnI B N w 2 v (ints xs)) {n : Int} (h0 : 0 ≤ n) (h1 : n < (xs.length : Int)) (hb : I64 (xs.getD n.toNat 0 + 1)) {n0 : Nat} {Ts : List TypeId} (hT : 2 ∉ Ts) {K : World → Prop}
    (hK : ∀ W', OwnI B N W' 2 v (ints (bump xs n)) → w.grownBy W' v.ownBlock → K W') :
    IxV 1 v n (fun ad => ∃ m : Int, LdV w (.pointer (some ad)) (.int .i64 m) ∧ I64 (m + 1) ∧ IxV 1 v n (fun ad' => StV n0 Ts w (.pointer (some ad')) (.int .i64 (m + 1)) K)) := by
  have hk : n.toNat < xs.length := by omega
  have hr : RI w v xs := h.1.rd
  rw [getD_get hk] at hb
  refine hr.get n.toNat (by omega) hk ⟨hb, h.1.setAt n.toNat (by omega) (by simpa using hk) rfl hT fun W' o g => hK W' ⟨?_, h.2⟩ g⟩
  have e : ints (bump xs n) = (ints xs).set n.toNat (.int .i64 (xs[n.toNat] + 1)) := by
    unfold bump ints
    rw [List.map_set, getD_get hk]
  rw [e]
  exact o
/-- three rows of counts -/
structure TriR (B N : Nat) (W : World) (vb vw vd : Value) (T : Tri) : Prop where
  b : OwnI B N W 2 vb (ints T.b)
  w : OwnI B N W 2 vw (ints T.w)
  d : OwnI B N W 2 vd (ints T.d)
  bw : Apart vb vw
  bd : Apart vb vd
  wd : Apart vw vd
variable {vb vw vd : Value} {T : Tri}
theorem TriR.ext (h : TriR B N W vb vw vd T) (e : Ext W W') : TriR B N W' vb vw vd T := ⟨h.b.ext e, h.w.ext e, h.d.ext e, h.bw, h.bd, h.wd⟩
theorem TriR.bxs (h : TriR B N W vb vw vd T) {n0 : Nat} {Q : TypeId} (e : BxS n0 Q W W') (hT : 2 ≠ Q) : TriR B N W' vb vw vd T := ⟨h.b.bxs e hT, h.w.bxs e hT, h.d.bxs e hT, h.bw, h.bd, h.wd⟩
theorem _root_.Go.Sx.OwnI.out {xs : List Value} (h : OwnI B N W 2 v xs) (g : W.grownBy W' v.ownBlock) : Pres (fun k => N ≤ k ∨ k < B) W W' :=
  grown_pres g fun b hb hK => by have := (h.1.lt hb).1; have := h.2 b hb; omega
theorem TriR.incB (h : TriR B N W vb vw vd T) {m : Int} {D : Nat} (hok : T.Ok m D) (hm : 0 ≤ m) (hm2 : m ≤ 1000000) {n : Int} (h0 : 0 ≤ n) (h1 : n < D) {n0 : Nat} {Ts : List TypeId} (hT : 2 ∉ Ts) {K : World → Prop}
    (hK : ∀ W', TriR B N W' vb vw vd ⟨bump T.b n, T.w, T.d⟩ → Pres (fun k => N ≤ k ∨ k < B) W W' → K W') :
    IxV 1 vb n (fun ad => ∃ x : Int, LdV W (.pointer (some ad)) (.int .i64 x) ∧ I64 (x + 1) ∧ IxV 1 vb n (fun ad' => StV n0 Ts W (.pointer (some ad')) (.int .i64 (x + 1)) K)) :=
  h.b.inc h0 (by have := hok.lb; omega) (by have := hok.b.at hm n.toNat; unfold I64; omega) hT fun W' o g => hK W' ⟨o, ⟨h.w.1.grown g h.bw.symm, h.w.2⟩, ⟨h.d.1.grown g h.bd.symm, h.d.2⟩, h.bw, h.bd, h.wd⟩ (h.b.out g)
theorem TriR.incW (h : TriR B N W vb vw vd T) {m : Int} {D : Nat} (hok : T.Ok m D) (hm : 0 ≤ m) (hm2 : m ≤ 1000000) {n : Int} (h0 : 0 ≤ n) (h1 : n < D) {n0 : Nat} {Ts : List TypeId} (hT : 2 ∉ Ts) {K : World → Prop}
    (hK : ∀ W', TriR B N W' vb vw vd ⟨T.b, bump T.w n, T.d⟩ → Pres (fun k => N ≤ k ∨ k < B) W W' → K W') :
    IxV 1 vw n (fun ad => ∃ x : Int, LdV W (.pointer (some ad)) (.int .i64 x) ∧ I64 (x + 1) ∧ IxV 1 vw n (fun ad' => StV n0 Ts W (.pointer (some ad')) (.int .i64 (x + 1)) K)) :=
  h.w.inc h0 (by have := hok.lw; omega) (by have := hok.w.at hm n.toNat; unfold I64; omega) hT fun W' o g => hK W' ⟨⟨h.b.1.grown g h.bw, h.b.2⟩, o, ⟨h.d.1.grown g h.wd.symm, h.d.2⟩, h.bw, h.bd, h.wd⟩ (h.w.out g)
theorem TriR.incD (h : TriR B N W vb vw vd T) {m : Int} {D : Nat} (hok : T.Ok m D) (hm : 0 ≤ m) (hm2 : m ≤ 1000000) {n : Int} (h0 : 0 ≤ n) (h1 : n < D) {n0 : Nat} {Ts : List TypeId} (hT : 2 ∉ Ts) {K : World → Prop}
    (hK : ∀ W', TriR B N W' vb vw vd ⟨T.b, T.w, bump T.d n⟩ → Pres (fun k => N ≤ k ∨ k < B) W W' → K W') :
    IxV 1 vd n (fun ad => ∃ x : Int, LdV W (.pointer (some ad)) (.int .i64 x) ∧ I64 (x + 1) ∧ IxV 1 vd n (fun ad' => StV n0 Ts W (.pointer (some ad')) (.int .i64 (x + 1)) K)) :=
  h.d.inc h0 (by have := hok.ld; omega) (by have := hok.d.at hm n.toNat; unfold I64; omega) hT fun W' o g => hK W' ⟨⟨h.b.1.grown g h.bd, h.b.2⟩, ⟨h.w.1.grown g h.wd, h.w.2⟩, o, h.bw, h.bd, h.wd⟩ (h.d.out g)
end
theorem Tri.Ok.bumpB {T : Tri} {n : Int} {D : Nat} (h : T.Ok n D) (hn : 0 ≤ n) (k : Int) : Tri.Ok ⟨Go.Proofs.bump T.b k, T.w, T.d⟩ (n + 1) D := ⟨(bump_length _ _).trans h.lb, h.lw, h.ld, h.b.bump hn k, h.w.mono (by omega), h.d.mono (by omega)⟩
theorem Tri.Ok.bumpW {T : Tri} {n : Int} {D : Nat} (h : T.Ok n D) (hn : 0 ≤ n) (k : Int) : Tri.Ok ⟨T.b, Go.Proofs.bump T.w k, T.d⟩ (n + 1) D := ⟨h.lb, (bump_length _ _).trans h.lw, h.ld, h.b.mono (by omega), h.w.bump hn k, h.d.mono (by omega)⟩
theorem Tri.Ok.bumpD {T : Tri} {n : Int} {D : Nat} (h : T.Ok n D) (hn : 0 ≤ n) (k : Int) : Tri.Ok ⟨T.b, T.w, Go.Proofs.bump T.d k⟩ (n + 1) D := ⟨h.lb, h.lw, (bump_length _ _).trans h.ld, h.b.mono (by omega), h.w.mono (by omega), h.d.bump hn k⟩
/-- a call hands back three rows of its own and a code -/
def StR (f : FuncId) (args : Array Value) (w : World) (T : Tri) (code : Int) : Prop :=
  Ret Try.prog f args w fun r w' => ∃ a b d N, r = .tuple #[a, b, d, .int .i64 code] ∧ TriR w.heap.size N w' a b d T ∧ N ≤ w'.heap.size ∧ Ext w w'
theorem TriR.none_ (B N : Nat) (w : World) : TriR B N w (.slice none 0 0) (.slice none 0 0) (.slice none 0 0) noTri :=
  ⟨⟨Own.nil_ _ _ _, fun g hg => by simp [Value.ownBlock] at hg⟩, ⟨Own.nil_ _ _ _, fun g hg => by simp [Value.ownBlock] at hg⟩, ⟨Own.nil_ _ _ _, fun g hg => by simp [Value.ownBlock] at hg⟩, .inl rfl, .inl rfl, .inl rfl⟩
/-- three rows made one behind the other -/
theorem TriR.make {w w1 w2 w3 w4 : World} {d : Int} {vb vw vd : Value} (e1 : Ext w w1) (hb : Own w1.heap.size w2 2 vb (List.replicate d.toNat (Value.int .i64 0))) (hw : Own w2.heap.size w3 2 vw (List.replicate d.toNat (Value.int .i64 0))) (hd : Own w3.heap.size w4 2 vd (List.replicate d.toNat (Value.int .i64 0)))
    (e2 : Ext w1 w2) (e3 : Ext w2 w3) (e4 : Ext w3 w4) : TriR w.heap.size w4.heap.size w4 vb vw vd (tri0 d) ∧ TriR w.heap.size w4.heap.size w4 vb vd vw (tri0 d) ∧ TriR w.heap.size w4.heap.size w4 vw vb vd (tri0 d) ∧ TriR w.heap.size w4.heap.size w4 vw vd vb (tri0 d) ∧ TriR w.heap.size w4.heap.size w4 vd vb vw (tri0 d) ∧ TriR w.heap.size w4.heap.size w4 vd vw vb (tri0 d) := by
  have a1 : Apart vb vw := Apart.new hb hw
  have a2 : Apart vw vd := Apart.new hw hd
  have a3 : Apart vb vd := Apart.new (hb.ext e3) hd
  have o1 : OwnI w.heap.size w4.heap.size w4 2 vb (ints (zeros d)) := by rw [ints_zeros]; exact (((hb.ext e3).ext e4).mono e1.size).i
  have o2 : OwnI w.heap.size w4.heap.size w4 2 vw (ints (zeros d)) := by rw [ints_zeros]; exact ((hw.ext e4).mono (e1.trans e2).size).i
  have o3 : OwnI w.heap.size w4.heap.size w4 2 vd (ints (zeros d)) := by rw [ints_zeros]; exact (hd.mono ((e1.trans e2).trans e3).size).i
  exact ⟨⟨o1, o2, o3, a1, a3, a2⟩, ⟨o1, o3, o2, a3, a1, a2.symm⟩, ⟨o2, o1, o3, a1.symm, a2, a3⟩, ⟨o2, o3, o1, a2, a1.symm, a3.symm⟩, ⟨o3, o1, o2, a3.symm, a2.symm, a1⟩, ⟨o3, o2, o1, a2.symm, a3.symm, a1.symm⟩⟩
def spec_StockOf_A (m_Chambers : Int) (m_Depths : Int) (m_Step : Int) (m_Same : Int) (m_Least : Int) (v : Value) (w : World) : Nat → Ann := fun κ => match κ with
  | 0 => { σ := Nat, sli := [8], slc := fun s => [SV.v (Value.int .i64 (s : Int))], bxi := [], bxc := fun s => [], inv := fun s W => True, μ := fun s W => 0, free := true }
  | 1 => { σ := Nat, sli := [12], slc := fun s => [SV.v (Value.int .i64 (s : Int))], bxi := [], bxc := fun s => [], inv := fun s W => True, μ := fun s W => 0, free := true }
  | 2 => { σ := Nat, sli := [14], slc := fun s => [SV.v (Value.int .i64 (s : Int))], bxi := [], bxc := fun s => [], inv := fun s W => True, μ := fun s W => 0, free := true }
  | 3 => { σ := Nat, sli := [16], slc := fun s => [SV.v (Value.int .i64 (s : Int))], bxi := [], bxc := fun s => [], inv := fun s W => True, μ := fun s W => 0, free := true }
  | _ => { σ := Unit, sli := [], slc := fun _ => [], bxi := [], bxc := fun _ => [], inv := fun _ _ => False, μ := fun _ _ => 0 }
abbrev spec_StockOf_k0 (s26 : Nat) (w27 : World) (J28 : Nat → World → Prop) (m29 : Nat → World → Nat) (x58 : Int) (w73 : World) : Prop :=
  I64 (x58 + 1) ∧ ∃ s74 : Nat, (Value.int .i64 (x58 + 1)) = (Value.int .i64 (s74 : Int)) ∧ (J28 s74 w73) ∧ (m29 s74 w73) < (m29 s26 w27)
abbrev spec_StockOf_k1 (Post : Value → World → Prop) (s26 : Nat) (w27 : World) (J28 : Nat → World → Prop) (m29 : Nat → World → Nat) (x42 : Int) (x56 : Bool) (w57 : World) : Prop :=
  ((x56 = true → Post (Value.tuple #[(Value.slice none 0 0), (Value.slice none 0 0), (Value.slice none 0 0), (Value.int .i64 1)]) w57) ∧ (x56 = false → (spec_StockOf_k0 s26 w27 J28 m29 x42 w57)))
abbrev spec_StockOf_k2 (w : World) (Post : Value → World → Prop) (x10 : Value) (x19 : Int) (x20 : Int) (x21 : Int) (x22 : Int) (x23 : Int) (s26 : Nat) (w27 : World) (J28 : Nat → World → Prop) (m29 : Nat → World → Nat) (x31 : Int) (w35 : World) : Prop :=
  ∀ w36 : World, Ext w35 w36 → IxV 1 x10 x31 (fun ad37 => ∃ u38 : Value, LdV w36 (Value.pointer (some ad37)) u38 ∧ Calls Try.prog 120 #[(Value.agg #[(Value.int .i64 x19), (Value.int .i64 x20), (Value.int .i64 x21), (Value.int .i64 x22), (Value.int .i64 x23)]), (Value.agg #[u38])] w36 (fun e39 w40 => ∃ b41 : Bool, e39 = .returned (Value.bool b41) ∧ Keeps w.heap.size [56] w36 w40 ∧ Keeps w.heap.size [56] w36 w40 ∧ (spec_StockOf_k1 Post s26 w27 J28 m29 x31 (!b41) w40)))
abbrev spec_StockOf_k3 (w : World) (x199 : Value) (x243 : Value) (x264 : Int) (s289 : Nat) (w290 : World) (J291 : Nat → World → Prop) (m292 : Nat → World → Nat) (x293 : Int) (w296 : World) : Prop :=
  IxV 1 x243 x264 (fun ad297 => ∃ u298 : Value, LdV w296 (Value.pointer (some ad297)) u298 ∧ IxV 1 u298 x293 (fun ad299 => ∃ n300 : Int, LdV w296 (Value.pointer (some ad299)) (Value.int .i64 n300) ∧ IxV 1 x199 n300 (fun ad301 => ∃ n302 : Int, LdV w296 (Value.pointer (some ad301)) (Value.int .i64 n302) ∧ I64 (n302 + 1) ∧ IxV 1 x199 n300 (fun ad303 => StV w.heap.size [56] w296 (Value.pointer (some ad303)) (Value.int .i64 (n302 + 1)) (fun w304 => I64 (x293 + 1) ∧ ∃ s305 : Nat, (Value.int .i64 (x293 + 1)) = (Value.int .i64 (s305 : Int)) ∧ (J291 s305 w304) ∧ (m292 s305 w304) < (m292 s289 w290))))))
abbrev spec_StockOf_k4 (s259 : Nat) (w260 : World) (J261 : Nat → World → Prop) (m262 : Nat → World → Nat) (x306 : Int) (w343 : World) : Prop :=
  I64 (x306 + 1) ∧ ∃ s344 : Nat, (Value.int .i64 (x306 + 1)) = (Value.int .i64 (s344 : Int)) ∧ (J261 s344 w343) ∧ (m262 s344 w343) < (m262 s259 w260)
abbrev spec_StockOf_k5 (w : World) (x198 : Value) (x199 : Value) (x200 : Value) (x243 : Value) (s259 : Nat) (w260 : World) (J261 : Nat → World → Prop) (m262 : Nat → World → Nat) (x264 : Int) (w268 : World) : Prop :=
  IxV 1 x243 x264 (fun ad269 => ∃ u270 : Value, LdV w268 (Value.pointer (some ad269)) u270 ∧ LenV u270 (fun n271 => I64 (n271 - 1) ∧ IxV 1 x243 x264 (fun ad272 => ∃ u273 : Value, LdV w268 (Value.pointer (some ad272)) u273 ∧ IxV 1 u273 0 (fun ad274 => ∃ n275 : Int, LdV w268 (Value.pointer (some ad274)) (Value.int .i64 n275) ∧ IxV 1 x198 n275 (fun ad276 => ∃ n277 : Int, LdV w268 (Value.pointer (some ad276)) (Value.int .i64 n277) ∧ I64 (n277 + 1) ∧ IxV 1 x198 n275 (fun ad278 => StV w.heap.size [56] w268 (Value.pointer (some ad278)) (Value.int .i64 (n277 + 1)) (fun w279 => IxV 1 x243 x264 (fun ad280 => ∃ u281 : Value, LdV w279 (Value.pointer (some ad280)) u281 ∧ IxV 1 u281 (n271 - 1) (fun ad282 => ∃ n283 : Int, LdV w279 (Value.pointer (some ad282)) (Value.int .i64 n283) ∧ IxV 1 x200 n283 (fun ad284 => ∃ n285 : Int, LdV w279 (Value.pointer (some ad284)) (Value.int .i64 n285) ∧ I64 (n285 + 1) ∧ IxV 1 x200 n283 (fun ad286 => StV w.heap.size [56] w279 (Value.pointer (some ad286)) (Value.int .i64 (n285 + 1)) (fun w287 => (∃ (J291 : Nat → World → Prop) (m292 : Nat → World → Nat), ((∃ s288 : Nat, (Value.int .i64 1) = (Value.int .i64 (s288 : Int)) ∧ (J291 s288 w287)) ∧ ∀ (s289 : Nat) (w290 : World), (J291 s289 w290) → ((((s289 : Int) < (n271 - 1)) → (spec_StockOf_k3 w x199 x243 x264 s289 w290 J291 m292 (s289 : Int) w290)) ∧ (¬ ((s289 : Int) < (n271 - 1)) → (spec_StockOf_k4 s259 w260 J261 m262 x264 w290)))))))))))))))))
abbrev spec_StockOf_k6 (s226 : Nat) (w227 : World) (J228 : Nat → World → Prop) (m229 : Nat → World → Nat) (x345 : Int) (w364 : World) : Prop :=
  I64 (x345 + 1) ∧ ∃ s365 : Nat, (Value.int .i64 (x345 + 1)) = (Value.int .i64 (s365 : Int)) ∧ (J228 s365 w364) ∧ (m229 s365 w364) < (m229 s226 w227)
abbrev spec_StockOf_k7 (w : World) (x198 : Value) (x199 : Value) (x200 : Value) (s226 : Nat) (w227 : World) (J228 : Nat → World → Prop) (m229 : Nat → World → Nat) (x242 : Int) (x243 : Value) (w257 : World) : Prop :=
  (∃ (J261 : Nat → World → Prop) (m262 : Nat → World → Nat), ((∃ s258 : Nat, (Value.int .i64 0) = (Value.int .i64 (s258 : Int)) ∧ (J261 s258 w257)) ∧ ∀ (s259 : Nat) (w260 : World), (J261 s259 w260) → LenV x243 (fun n263 => ((((s259 : Int) < n263) → (spec_StockOf_k5 w x198 x199 x200 x243 s259 w260 J261 m262 (s259 : Int) w260)) ∧ (¬ ((s259 : Int) < n263) → (spec_StockOf_k6 s226 w227 J228 m229 x242 w260))))))
abbrev spec_StockOf_k8 (w : World) (x196 : Value) (x198 : Value) (x199 : Value) (x200 : Value) (x219 : Int) (x220 : Int) (x221 : Int) (x222 : Int) (x223 : Int) (s226 : Nat) (w227 : World) (J228 : Nat → World → Prop) (m229 : Nat → World → Nat) (x231 : Int) (w235 : World) : Prop :=
  ∀ w236 : World, Ext w235 w236 → IxV 1 x196 x231 (fun ad237 => ∃ u238 : Value, LdV w236 (Value.pointer (some ad237)) u238 ∧ Calls Try.prog 130 #[(Value.agg #[(Value.int .i64 x219), (Value.int .i64 x220), (Value.int .i64 x221), (Value.int .i64 x222), (Value.int .i64 x223)]), (Value.agg #[u238])] w236 (fun e239 w240 => ∃ u241 : Value, e239 = .returned u241 ∧ Keeps w.heap.size [56] w236 w240 ∧ Keeps w.heap.size [56] w236 w240 ∧ (spec_StockOf_k7 w x198 x199 x200 s226 w227 J228 m229 x231 u241 w240)))
abbrev spec_StockOf_k9 (w : World) (Post : Value → World → Prop) (x196 : Value) (x198 : Value) (x199 : Value) (x200 : Value) (x219 : Int) (x220 : Int) (x221 : Int) (x222 : Int) (x223 : Int) (w224 : World) : Prop :=
  (∃ (J228 : Nat → World → Prop) (m229 : Nat → World → Nat), ((∃ s225 : Nat, (Value.int .i64 0) = (Value.int .i64 (s225 : Int)) ∧ (J228 s225 w224)) ∧ ∀ (s226 : Nat) (w227 : World), (J228 s226 w227) → LenV x196 (fun n230 => ((((s226 : Int) < n230) → (spec_StockOf_k8 w x196 x198 x199 x200 x219 x220 x221 x222 x223 s226 w227 J228 m229 (s226 : Int) w227)) ∧ (¬ ((s226 : Int) < n230) → Post (Value.tuple #[x198, x199, x200, (Value.int .i64 0)]) w227)))))
abbrev spec_StockOf_k10 (w : World) (Post : Value → World → Prop) (x163 : Value) (x165 : Value) (x181 : Value) (x182 : Int) (x183 : Int) (x184 : Int) (x185 : Int) (x186 : Int) (x187 : Int) (w188 : World) : Prop :=
  x182 = x182 ∧ 0 ≤ x182 ∧ x182 ≤ 4398046511104 ∧ ∀ (v189 : Value) (w190 : World), Own w188.heap.size w190 2 v189 (List.replicate x182.toNat (Value.int .i64 0)) → Ext w188 w190 → (spec_StockOf_k9 w Post x163 x165 x181 v189 x183 x184 x185 x186 x187 w190)
abbrev spec_StockOf_k11 (w : World) (Post : Value → World → Prop) (x411 : Value) (x413 : Value) (x428 : Int) (x430 : Value) (x431 : Int) (x432 : Int) (x433 : Int) (x434 : Int) (x435 : Int) (w436 : World) : Prop :=
  x428 = x428 ∧ 0 ≤ x428 ∧ x428 ≤ 4398046511104 ∧ ∀ (v437 : Value) (w438 : World), Own w436.heap.size w438 2 v437 (List.replicate x428.toNat (Value.int .i64 0)) → Ext w436 w438 → (spec_StockOf_k9 w Post x411 x413 v437 x430 x431 x432 x433 x434 x435 w438)
abbrev spec_StockOf_k12 (w : World) (Post : Value → World → Prop) (x132 : Value) (x147 : Value) (x148 : Int) (x149 : Int) (x150 : Int) (x151 : Int) (x152 : Int) (x153 : Int) (x154 : Int) (w155 : World) : Prop :=
  ((x148 = x148 ∧ 0 ≤ x148 ∧ x148 ≤ 4398046511104 ∧ ∀ (v156 : Value) (w157 : World), Own w155.heap.size w157 2 v156 (List.replicate x148.toNat (Value.int .i64 0)) → Ext w155 w157 → (spec_StockOf_k10 w Post x132 x147 v156 x149 x150 x151 x152 x153 x154 w157)) ∧ (x149 = x149 ∧ 0 ≤ x149 ∧ x149 ≤ 4398046511104 ∧ ∀ (v404 : Value) (w405 : World), Own w155.heap.size w405 2 v404 (List.replicate x149.toNat (Value.int .i64 0)) → Ext w155 w405 → (spec_StockOf_k11 w Post x132 x147 x148 v404 x150 x151 x152 x153 x154 w405)))
abbrev spec_StockOf_k13 (w : World) (Post : Value → World → Prop) (x477 : Value) (x492 : Value) (x494 : Value) (x495 : Int) (x496 : Int) (x497 : Int) (x498 : Int) (x499 : Int) (x500 : Int) (w501 : World) : Prop :=
  x495 = x495 ∧ 0 ≤ x495 ∧ x495 ≤ 4398046511104 ∧ ∀ (v502 : Value) (w503 : World), Own w501.heap.size w503 2 v502 (List.replicate x495.toNat (Value.int .i64 0)) → Ext w501 w503 → (spec_StockOf_k9 w Post x477 x492 x494 v502 x496 x497 x498 x499 x500 w503)
abbrev spec_StockOf_k14 (w : World) (Post : Value → World → Prop) (x511 : Value) (x525 : Int) (x527 : Value) (x529 : Value) (x530 : Int) (x531 : Int) (x532 : Int) (x533 : Int) (x534 : Int) (w535 : World) : Prop :=
  x525 = x525 ∧ 0 ≤ x525 ∧ x525 ≤ 4398046511104 ∧ ∀ (v536 : Value) (w537 : World), Own w535.heap.size w537 2 v536 (List.replicate x525.toNat (Value.int .i64 0)) → Ext w535 w537 → (spec_StockOf_k9 w Post x511 v536 x527 x529 x530 x531 x532 x533 x534 w537)
abbrev spec_StockOf_k15 (w : World) (Post : Value → World → Prop) (x446 : Value) (x460 : Int) (x462 : Value) (x463 : Int) (x464 : Int) (x465 : Int) (x466 : Int) (x467 : Int) (x468 : Int) (w469 : World) : Prop :=
  ((x460 = x460 ∧ 0 ≤ x460 ∧ x460 ≤ 4398046511104 ∧ ∀ (v470 : Value) (w471 : World), Own w469.heap.size w471 2 v470 (List.replicate x460.toNat (Value.int .i64 0)) → Ext w469 w471 → (spec_StockOf_k13 w Post x446 v470 x462 x463 x464 x465 x466 x467 x468 w471)) ∧ (x463 = x463 ∧ 0 ≤ x463 ∧ x463 ≤ 4398046511104 ∧ ∀ (v504 : Value) (w505 : World), Own w469.heap.size w505 2 v504 (List.replicate x463.toNat (Value.int .i64 0)) → Ext w469 w505 → (spec_StockOf_k14 w Post x446 x460 x462 v504 x464 x465 x466 x467 x468 w505)))
abbrev spec_StockOf_k16 (w : World) (Post : Value → World → Prop) (x576 : Value) (x591 : Value) (x592 : Int) (x594 : Value) (x595 : Int) (x596 : Int) (x597 : Int) (x598 : Int) (x599 : Int) (w600 : World) : Prop :=
  x592 = x592 ∧ 0 ≤ x592 ∧ x592 ≤ 4398046511104 ∧ ∀ (v601 : Value) (w602 : World), Own w600.heap.size w602 2 v601 (List.replicate x592.toNat (Value.int .i64 0)) → Ext w600 w602 → (spec_StockOf_k9 w Post x576 x591 v601 x594 x595 x596 x597 x598 x599 w602)
abbrev spec_StockOf_k17 (w : World) (Post : Value → World → Prop) (x545 : Value) (x559 : Int) (x560 : Int) (x562 : Value) (x563 : Int) (x564 : Int) (x565 : Int) (x566 : Int) (x567 : Int) (w568 : World) : Prop :=
  ((x559 = x559 ∧ 0 ≤ x559 ∧ x559 ≤ 4398046511104 ∧ ∀ (v569 : Value) (w570 : World), Own w568.heap.size w570 2 v569 (List.replicate x559.toNat (Value.int .i64 0)) → Ext w568 w570 → (spec_StockOf_k16 w Post x545 v569 x560 x562 x563 x564 x565 x566 x567 w570)) ∧ (x560 = x560 ∧ 0 ≤ x560 ∧ x560 ≤ 4398046511104 ∧ ∀ (v603 : Value) (w604 : World), Own w568.heap.size w604 2 v603 (List.replicate x560.toNat (Value.int .i64 0)) → Ext w568 w604 → (spec_StockOf_k14 w Post x545 x559 v603 x562 x563 x564 x565 x566 x567 w604)))
abbrev spec_StockOf_k18 (w : World) (Post : Value → World → Prop) (x104 : Value) (x118 : Int) (x119 : Int) (x120 : Int) (x121 : Int) (x122 : Int) (w123 : World) : Prop :=
  ∀ w124 : World, Ext w123 w124 → ((x119 = x119 ∧ 0 ≤ x119 ∧ x119 ≤ 4398046511104 ∧ ∀ (v125 : Value) (w126 : World), Own w124.heap.size w126 2 v125 (List.replicate x119.toNat (Value.int .i64 0)) → Ext w124 w126 → (spec_StockOf_k12 w Post x104 v125 x119 x119 x118 x119 x120 x121 x122 w126)) ∧ (x119 = x119 ∧ 0 ≤ x119 ∧ x119 ≤ 4398046511104 ∧ ∀ (v439 : Value) (w440 : World), Own w124.heap.size w440 2 v439 (List.replicate x119.toNat (Value.int .i64 0)) → Ext w124 w440 → (spec_StockOf_k15 w Post x104 x119 v439 x119 x118 x119 x120 x121 x122 w440)) ∧ (x119 = x119 ∧ 0 ≤ x119 ∧ x119 ≤ 4398046511104 ∧ ∀ (v538 : Value) (w539 : World), Own w124.heap.size w539 2 v538 (List.replicate x119.toNat (Value.int .i64 0)) → Ext w124 w539 → (spec_StockOf_k17 w Post x104 x119 x119 v538 x118 x119 x120 x121 x122 w539)))
abbrev spec_StockOf_k19 (w : World) (Post : Value → World → Prop) (x80 : Value) (x92 : Int) (x93 : Int) (x94 : Int) (x95 : Int) (x96 : Int) (w97 : World) : Prop :=
  LenV x80 (fun n98 => ((((40 : Int) < n98) → Post (Value.tuple #[(Value.slice none 0 0), (Value.slice none 0 0), (Value.slice none 0 0), (Value.int .i64 3)]) w97) ∧ (¬ ((40 : Int) < n98) → (spec_StockOf_k18 w Post x80 x92 x93 x94 x95 x96 w97))))
abbrev spec_StockOf_k20 (w : World) (Post : Value → World → Prop) (x10 : Value) (x19 : Int) (x20 : Int) (x21 : Int) (x22 : Int) (x23 : Int) (w24 : World) : Prop :=
  (∃ (J28 : Nat → World → Prop) (m29 : Nat → World → Nat), ((∃ s25 : Nat, (Value.int .i64 0) = (Value.int .i64 (s25 : Int)) ∧ (J28 s25 w24)) ∧ ∀ (s26 : Nat) (w27 : World), (J28 s26 w27) → LenV x10 (fun n30 => ((((s26 : Int) < n30) → (spec_StockOf_k2 w Post x10 x19 x20 x21 x22 x23 s26 w27 J28 m29 (s26 : Int) w27)) ∧ (¬ ((s26 : Int) < n30) → (spec_StockOf_k19 w Post x10 x19 x20 x21 x22 x23 w27))))))
def spec_StockOf_vc (m_Chambers : Int) (m_Depths : Int) (m_Step : Int) (m_Same : Int) (m_Least : Int) (v : Value) (w : World) (Post : Value → World → Prop) : Prop :=
  ∀ w1 : World, Ext w w1 → Calls Try.prog 85 #[(Value.agg #[(Value.int .i64 m_Chambers), (Value.int .i64 m_Depths), (Value.int .i64 m_Step), (Value.int .i64 m_Same), (Value.int .i64 m_Least)])] w1 (fun e2 w3 => ∃ b4 : Bool, e2 = .returned (Value.bool b4) ∧ Keeps w.heap.size [56] w1 w3 ∧ (((!b4) = true → Post (Value.tuple #[(Value.slice none 0 0), (Value.slice none 0 0), (Value.slice none 0 0), (Value.int .i64 1)]) w3) ∧ ((!b4) = false → (spec_StockOf_k20 w Post v m_Chambers m_Depths m_Step m_Same m_Least w3))))
theorem spec_StockOf_eq (m_Chambers : Int) (m_Depths : Int) (m_Step : Int) (m_Same : Int) (m_Least : Int) (v : Value) (w : World) (Post : Value → World → Prop) : denF Try.prog [9400000, 9700000, 9800000] (spec_StockOf_A m_Chambers m_Depths m_Step m_Same m_Least v w) 63 [(Value.agg #[(Value.int .i64 m_Chambers), (Value.int .i64 m_Depths), (Value.int .i64 m_Step), (Value.int .i64 m_Same), (Value.int .i64 m_Least)]), v] w Post = spec_StockOf_vc m_Chambers m_Depths m_Step m_Same m_Least v w Post := by kernel_rfl
set_option maxRecDepth 100000 in
theorem spec_StockOf_calls (m_Chambers : Int) (m_Depths : Int) (m_Step : Int) (m_Same : Int) (m_Least : Int) (v : Value) (w : World) (Post : Value → World → Prop) (hvc : spec_StockOf_vc m_Chambers m_Depths m_Step m_Same m_Least v w Post) : Ret Try.prog 63 #[(Value.agg #[(Value.int .i64 m_Chambers), (Value.int .i64 m_Depths), (Value.int .i64 m_Step), (Value.int .i64 m_Same), (Value.int .i64 m_Least)]), v] w Post :=
  Ret.of (denF_sound mixed (Eq.mpr (spec_StockOf_eq m_Chambers m_Depths m_Step m_Same m_Least v w Post) hvc))

theorem spec_StockOf_ret (M : Mk) (v : Value) (lss : List (List (List Int))) (w : World) (h : RLs w v lss) : StR 63 #[M.v, v] w (stkR M lss) (stkCode M lss) :=
  spec_StockOf_calls M.c M.d M.s M.m M.l v w _ (by
    unfold spec_StockOf_vc
    have hbd := h.bound
    intro w1 h1
    refine (spec_IsMaker_val ..).call fun w3 h3 => ⟨_, rfl, h3.keeps, fun hno => ?_, fun hyes => ?_⟩
    · obtain ⟨e1, e2⟩ := stk_no (M := M) (lss := lss) fun hh => nd_t hno hh.1
      rw [e1, e2]
      exact ⟨_, _, _, 0, rfl, TriR.none_ _ _ _, Nat.zero_le _, h1.trans h3⟩
    have hm : MkOk M.c M.d M.s M.m M.l := nd_f hyes
    have hc := hm.1
    have hd := hm.2.1
    have k3 := h1.trans h3
    refine ⟨fun i W => i ≤ lss.length ∧ Ext w W ∧ ∀ z ∈ lss.take i, LkAll M.c M.d z, fun i _ => lss.length - i, ⟨0, rfl, Nat.zero_le _, k3, by simp⟩, ?_⟩
    rintro i w27 ⟨hi, k27, hall⟩
    refine (h.ext k27).len ⟨fun hlt => ?_, fun hge => ?_⟩
    · have hlt' : i < lss.length := by omega
      intro w36 h36
      refine (h.ext (k27.trans h36)).get i rfl hlt' fun u hu => ?_
      refine (spec_IsLock_val M.c M.d M.s M.m M.l u lss[i] w36 hu).call fun w40 h40 => ⟨_, rfl, h40.keeps, h40.keeps, fun hno => ?_, fun hyes => ⟨by unfold I64; omega, i + 1, rfl, ⟨hlt', (k27.trans h36).trans h40, mem_take_succ hlt' hall (nd_f hyes).2⟩, by simp only; omega⟩⟩
      obtain ⟨e1, e2⟩ := stk_no (M := M) (lss := lss) fun hh => nd_t hno ⟨hm, hh.2 _ (List.getElem_mem hlt')⟩
      rw [e1, e2]
      exact ⟨_, _, _, 0, rfl, TriR.none_ _ _ _, Nat.zero_le _, (k27.trans h36).trans h40⟩
    have hie : i = lss.length := by omega
    subst hie
    rw [List.take_of_length_le (Nat.le_refl _)] at hall
    have hL : LksOk M.c M.d M.s M.m M.l lss := ⟨hm, hall⟩
    refine (h.ext k27).len ⟨fun hgt => ?_, fun hle => ?_⟩
    · obtain ⟨e1, e2⟩ := stk_many hL (by omega)
      rw [e1, e2]
      exact ⟨_, _, _, 0, rfl, TriR.none_ _ _ _, Nat.zero_le _, k27⟩
    have hle' : lss.length ≤ 40 := by omega
    obtain ⟨e1, e2⟩ := stk_yes hL hle'
    rw [e1, e2]
    have core : ∀ (vb vw vd : Value) (N : Nat) (W : World), TriR w.heap.size N W vb vw vd (tri0 M.d) → N = W.heap.size → Ext w W → spec_StockOf_k9 w (fun r w' => ∃ a b d N, r = .tuple #[a, b, d, .int .i64 0] ∧ TriR w.heap.size N w' a b d (stock M.d lss) ∧ N ≤ w'.heap.size ∧ Ext w w') v vb vw vd M.c M.d M.s M.m M.l W := by
      intro vb vw vd N W0 t0 hN e0
      have hN0 : w.heap.size ≤ N := by rw [hN]; exact e0.size
      refine ⟨fun i W => i ≤ lss.length ∧ Ext w W ∧ N ≤ W.heap.size ∧ TriR w.heap.size N W vb vw vd (stock M.d (lss.take i)) ∧ (stock M.d (lss.take i)).Ok (54 * i) M.d.toNat, fun i _ => lss.length - i, ⟨0, rfl, Nat.zero_le _, e0, by omega, t0, tri0_ok M.d⟩, ?_⟩
      rintro i w227 ⟨hi, k227, n227, t227, q227⟩
      refine (h.ext k227).len ⟨fun hlt => ?_, fun hge => ?_⟩
      · have hlt' : i < lss.length := by omega
        have hlk : LkOk M.c M.d M.s M.m M.l lss[i] := ⟨hm, hall _ (List.getElem_mem hlt')⟩
        obtain ⟨p1, p2, p3⟩ := lk_small hlk
        intro w236 h236
        refine (h.ext (k227.trans h236)).get i rfl hlt' fun u hu => ?_
        refine (spec_l05Pins_ret M.c M.d M.s M.m M.l u lss[i] w236 hu p1 p2 p3).call ?_
        rintro p w240 ⟨o240, h240⟩
        have x240 := h236.trans h240
        refine ⟨p, rfl, h240.keeps, h240.keeps, ?_⟩
        generalize hP : lss[i].map (stack M.d) = P at o240
        have hPl : P.length ≤ 6 := by rw [← hP, List.length_map]; exact p2
        have hPin : ∀ st ∈ P, 2 ≤ st.length ∧ st.length ≤ 9 ∧ ∀ x ∈ st, 0 ≤ x ∧ x ≤ M.d - 1 := fun st hst => pins_in hm (hall _ (List.getElem_mem hlt')) (by rw [hP]; exact hst)
        generalize hS : stock M.d (lss.take i) = S at t227 q227
        refine ⟨fun c W => c ≤ P.length ∧ Ext w W ∧ N ≤ W.heap.size ∧ VwR N W p P ∧ TriR w.heap.size N W vb vw vd (S.adds (P.take c)) ∧ (S.adds (P.take c)).Ok (54 * i + 9 * c) M.d.toNat, fun c _ => P.length - c, ⟨0, rfl, Nat.zero_le _, k227.trans x240, Nat.le_trans n227 x240.size, o240.vw.mono (Nat.le_trans n227 h236.size), t227.ext x240, q227⟩, ?_⟩
        rintro c w260 ⟨hc', k260, n260, v260, t260, q260⟩
        refine v260.rr.len ⟨fun hlc => ?_, fun hgc => ?_⟩
        · have hlc' : c < P.length := by omega
          obtain ⟨s1, s2, s3⟩ := hPin _ (List.getElem_mem hlc')
          have hadd := Tri.adds_snoc S hlc'
          generalize hT : S.adds (P.take c) = T at t260 q260 hadd
          have hn0 : (0 : Int) ≤ 54 * i + 9 * c := by omega
          have hn1 : (54 * i + 9 * c : Int) ≤ 3000 := by omega
          have step : ∀ {A B : World}, Ext w A → N ≤ A.heap.size → VwR N A p P → Pres (fun k => N ≤ k ∨ k < w.heap.size) A B → Ext w B ∧ N ≤ B.heap.size ∧ VwR N B p P :=
            fun e n v q => ⟨q.ext e fun b hb => .inr hb, Nat.le_trans n q.size, v.pres q fun k hk => .inl hk⟩
          refine v260.rr.get c rfl hlc' fun u1 hu1 => hu1.len ⟨by unfold I64; omega, v260.rr.get c rfl hlc' fun u2 hu2 => hu2.get 0 rfl (by omega) ?_⟩
          have x0 := s3 _ (List.getElem_mem (show 0 < P[c].length by omega))
          refine t260.incB q260 hn0 (by omega) x0.1 (by omega) (by simp) fun w279 t279 r279 => ?_
          obtain ⟨k279, n279, v279⟩ := step k260 n260 v260 r279
          have q279 := q260.bumpB hn0 P[c][0]
          refine v279.rr.get c rfl hlc' fun u3 hu3 => hu3.get (P[c].length - 1) (by omega) (by omega) ?_
          have x1 := s3 _ (List.getElem_mem (show P[c].length - 1 < P[c].length by omega))
          refine t279.incD q279 (by omega) (by omega) x1.1 (by omega) (by simp) fun w287 t287 r287 => ?_
          obtain ⟨k287, n287, v287⟩ := step k279 n279 v279 r287
          have q287 := q279.bumpD (by omega) (P[c][P[c].length - 1])
          refine ⟨fun k W => 1 ≤ k ∧ k ≤ P[c].length - 1 ∧ Ext w W ∧ N ≤ W.heap.size ∧ VwR N W p P ∧ TriR w.heap.size N W vb vw vd ⟨bump T.b P[c][0], bumps T.w ((mid P[c]).take (k - 1)), bump T.d (P[c][P[c].length - 1])⟩ ∧ Tri.Ok ⟨bump T.b P[c][0], bumps T.w ((mid P[c]).take (k - 1)), bump T.d (P[c][P[c].length - 1])⟩ (54 * i + 9 * c + 1 + 1 + (k - 1 : Nat)) M.d.toNat, fun k _ => P[c].length - k, ⟨1, rfl, Nat.le_refl _, by omega, k287, n287, v287, t287, q287.mono (by omega)⟩, ?_⟩
          rintro k w290 ⟨hk1, hk, k290, n290, v290, t290, q290⟩
          refine ⟨fun hlk => ?_, fun hgk => ?_⟩
          · have hlk' : k < P[c].length - 1 := by omega
            have hmk : k - 1 < (mid P[c]).length := by rw [mid_length]; omega
            refine v290.rr.get c rfl hlc' fun u4 hu4 => hu4.get k rfl (by omega) ?_
            have x2 := s3 _ (List.getElem_mem (show k < P[c].length by omega))
            refine t290.incW q290 (by omega) (by omega) x2.1 (by omega) (by simp) fun w304 t304 r304 => ?_
            obtain ⟨k304, n304, v304⟩ := step k290 n290 v290 r304
            have q304 := q290.bumpW (by omega) (P[c][k])
            have em : bumps T.w ((mid P[c]).take (k + 1 - 1)) = bump (bumps T.w ((mid P[c]).take (k - 1))) P[c][k] := by
              rw [show k + 1 - 1 = (k - 1) + 1 by omega, take_snoc _ (k - 1) hmk, bumps_snoc, mid_get hmk]
              congr 2
              omega
            refine ⟨by unfold I64; omega, k + 1, rfl, ⟨by omega, by omega, k304, n304, v304, ?_, ?_⟩, by simp only; omega⟩
            · rw [em]; exact t304
            · rw [em]; exact q304.mono (by omega)
          · have hke : k = P[c].length - 1 := by omega
            subst hke
            rw [List.take_of_length_le (by rw [mid_length]; omega)] at t290 q290
            have ea : T.add P[c] = ⟨bump T.b P[c][0], bumps T.w (mid P[c]), bump T.d (P[c][P[c].length - 1])⟩ := by
              unfold Tri.add
              rw [getD_get (show 0 < P[c].length by omega), getD_get (show P[c].length - 1 < P[c].length by omega)]
            refine ⟨by unfold I64; omega, c + 1, rfl, ⟨by omega, k290, n290, v290, ?_, ?_⟩, by simp only; omega⟩
            · rw [hadd, ea]; exact t290
            · rw [hadd, ea]; exact q290.mono (by omega)
        · have hce : c = P.length := by omega
          subst hce
          rw [List.take_of_length_le (Nat.le_refl _)] at t260 q260
          refine ⟨by unfold I64; omega, i + 1, rfl, ⟨by omega, k260, n260, ?_, ?_⟩, by simp only; omega⟩
          · rw [stock_snoc M.d hlt', hS, hP]; exact t260
          · rw [stock_snoc M.d hlt', hS, hP]; exact q260.mono (by omega)
      · have hie : i = lss.length := by omega
        subst hie
        rw [List.take_of_length_le (Nat.le_refl _)] at t227
        exact ⟨_, _, _, N, rfl, t227, n227, k227⟩
    intro w124 h124
    have k124 := k27.trans h124
    have hD : (0 : Int) ≤ M.d ∧ M.d ≤ 4398046511104 := by omega
    refine ⟨⟨rfl, hD.1, hD.2, fun v1 w2 o2 h2 => ⟨⟨rfl, hD.1, hD.2, fun v2 w3 o3 h3 => ⟨rfl, hD.1, hD.2, fun v3 w4 o4 h4 => ?_⟩⟩, ⟨rfl, hD.1, hD.2, fun v2 w3 o3 h3 => ⟨rfl, hD.1, hD.2, fun v3 w4 o4 h4 => ?_⟩⟩⟩⟩, ⟨rfl, hD.1, hD.2, fun v1 w2 o2 h2 => ⟨⟨rfl, hD.1, hD.2, fun v2 w3 o3 h3 => ⟨rfl, hD.1, hD.2, fun v3 w4 o4 h4 => ?_⟩⟩, ⟨rfl, hD.1, hD.2, fun v2 w3 o3 h3 => ⟨rfl, hD.1, hD.2, fun v3 w4 o4 h4 => ?_⟩⟩⟩⟩, ⟨rfl, hD.1, hD.2, fun v1 w2 o2 h2 => ⟨⟨rfl, hD.1, hD.2, fun v2 w3 o3 h3 => ⟨rfl, hD.1, hD.2, fun v3 w4 o4 h4 => ?_⟩⟩, ⟨rfl, hD.1, hD.2, fun v2 w3 o3 h3 => ⟨rfl, hD.1, hD.2, fun v3 w4 o4 h4 => ?_⟩⟩⟩⟩⟩
    all_goals
      obtain ⟨m1, m2, m3, m4, m5, m6⟩ := TriR.make k124 o2 o3 o4 h2 h3 h4
      have k4 := ((k124.trans h2).trans h3).trans h4
      first
        | exact core _ _ _ _ _ m1 rfl k4
        | exact core _ _ _ _ _ m2 rfl k4
        | exact core _ _ _ _ _ m3 rfl k4
        | exact core _ _ _ _ _ m4 rfl k4
        | exact core _ _ _ _ _ m5 rfl k4
        | exact core _ _ _ _ _ m6 rfl k4)
end Go.Proofs
