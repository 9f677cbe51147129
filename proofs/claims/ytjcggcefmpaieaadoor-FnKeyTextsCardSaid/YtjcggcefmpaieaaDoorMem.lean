/- Slices that read as lists, slices of the call's own, and what each operation does to them. No condition. -/
import Derived.Test.YtjcggcefmpaieaaDoorBase
set_option linter.unusedVariables false
namespace Go.Sx
open Go Go.RowKit

theorem ieq {k : IntKind} {a b : Int} (h : a = b) : Value.int k a = Value.int k b := by rw [h]
theorem beq_val {a b : Bool} (h : a = b) : Value.bool a = Value.bool b := by rw [h]

/-! ### reading -/
section
variable {w w' : World} {v : Value} {xs : List Value}
theorem Rd.ext (h : Rd w v xs) (e : Ext w w') : Rd w' v xs := by
  obtain ⟨a, c, rfl, h1, h2, h3⟩ := h
  refine ⟨a, c, rfl, h1, h2, fun h0 => ?_⟩
  obtain ⟨ad, rfl, hc⟩ := h3 h0
  exact ⟨ad, rfl, fun j u hu => e.cell (hc j u hu)⟩
theorem Rd.nil_ (w : World) (c : Nat) (hc : c ≤ maxLen) : Rd w (.slice none 0 c) [] := ⟨none, c, rfl, Nat.zero_le _, hc, fun h => absurd h (by simp)⟩
theorem Rd.bound (h : Rd w v xs) : xs.length ≤ 9223372036854775807 := by
  obtain ⟨a, c, rfl, h1, h2, h3⟩ := h
  simp only [maxLen] at h2
  omega
theorem Rd.oneC (h : Rd w v xs) {K : Prop} (hK : K) : oneC v K := by
  obtain ⟨a, c, rfl, _⟩ := h
  exact hK
theorem Rd.one (h : Rd w v xs) : v.oneCell' = true := by
  obtain ⟨a, c, rfl, _⟩ := h
  rfl
theorem Rd.len (h : Rd w v xs) {K : Int → Prop} (hK : K (xs.length : Int)) : LenV v K := by
  obtain ⟨a, c, rfl, _⟩ := h
  exact ⟨_, _, _, rfl, hK⟩
theorem Rd.ix (h : Rd w v xs) {i : Int} (k : Nat) (hi : i = k) (hk : k < xs.length) {K : Addr → Prop} (hK : ∀ ad, LdV w (.pointer (some ad)) xs[k] → K ad) : IxV 1 v i K := by
  obtain ⟨a, c, rfl, h1, h2, h3⟩ := h
  obtain ⟨ad, rfl, hc⟩ := h3 (by omega)
  subst hi
  refine ⟨ad, _, _, rfl, by omega, by omega, ?_⟩
  have : (k : Int).toNat * 1 = k := by omega
  rw [this]
  exact hK _ ⟨_, rfl, hc k _ (List.getElem?_eq_getElem hk)⟩
theorem block_of_add (a : Addr) (n : Nat) : (a.add n).block = a.block := by unfold Addr.add; split <;> rfl
theorem add_of_add (a : Addr) (i j : Nat) : (a.add i).add j = a.add (i + j) := by
  unfold Addr.add
  by_cases hi : i = 0 <;> by_cases hj : j = 0 <;> simp [hi, hj, Nat.add_assoc]
theorem Rd.sl (h : Rd w v xs) {lo hi : Option Int} (l r : Nat) (hl : lo.getD 0 = l) (hr : hi.getD (xs.length : Int) = r) (hlr : l ≤ r) (hrx : r ≤ xs.length) {K : Value → Prop} (hK : ∀ u, Rd w u ((xs.take r).drop l) → K u) : SlV 1 v lo hi none K := by
  obtain ⟨a, c, rfl, h1, h2, h3⟩ := h
  refine ⟨a, _, c, rfl, by rw [hl]; omega, by rw [hl, hr]; omega, by rw [hr]; simp; omega, by simp, by simp, ?_⟩
  simp only [hl, hr, Int.toNat_natCast, Option.getD_none, Nat.mul_one]
  apply hK
  have hlen : ((xs.take r).drop l).length = r - l := by simp; omega
  refine ⟨_, c - l, by rw [hlen], by rw [hlen]; omega, by omega, fun h0 => ?_⟩
  rw [hlen] at h0
  obtain ⟨ad, rfl, hc⟩ := h3 (by omega)
  rw [if_neg (by omega)]
  refine ⟨_, rfl, fun j u hu => ?_⟩
  rw [add_of_add]
  refine hc _ _ ?_
  rw [List.getElem?_drop, List.getElem?_take] at hu
  split at hu
  · exact hu
  · cases hu
end

/-- a slice of integers -/
def ints (zs : List Int) : List Value := zs.map (Value.int .i64)
def RI (w : World) (v : Value) (zs : List Int) : Prop := Rd w v (ints zs)
section
variable {w w' : World} {v : Value} {zs : List Int}
@[simp] theorem ints_length (zs : List Int) : (ints zs).length = zs.length := by simp [ints]
@[simp] theorem ints_append (a b : List Int) : ints (a ++ b) = ints a ++ ints b := by simp [ints]
theorem ints_take (zs : List Int) (k : Nat) : (ints zs).take k = ints (zs.take k) := by simp [ints]
theorem ints_drop (zs : List Int) (k : Nat) : (ints zs).drop k = ints (zs.drop k) := by simp [ints]
theorem ints_one (zs : List Int) : ∀ u ∈ ints zs, u.oneCell' = true := by
  intro u hu
  simp only [ints, List.mem_map] at hu
  obtain ⟨z, _, rfl⟩ := hu
  rfl
theorem RI.ext (h : RI w v zs) (e : Ext w w') : RI w' v zs := Rd.ext h e
theorem RI.bound (h : RI w v zs) : zs.length ≤ 9223372036854775807 := by have := Rd.bound h; simpa using this
theorem RI.len (h : RI w v zs) {K : Int → Prop} (hK : K (zs.length : Int)) : LenV v K := Rd.len h (by simpa using hK)
theorem RI.one (h : RI w v zs) : v.oneCell' = true := Rd.one h
theorem RI.oneC (h : RI w v zs) {K : Prop} (hK : K) : oneC v K := Rd.oneC h hK
theorem RI.nil_ (w : World) (c : Nat) (hc : c ≤ maxLen) : RI w (.slice none 0 c) [] := Rd.nil_ w c hc
/-- 'list[i]' -/
theorem RI.get (h : RI w v zs) {i : Int} (k : Nat) (hi : i = k) (hk : k < zs.length) {R : Int → Prop} (hR : R zs[k]) : IxV 1 v i (fun ad => ∃ n : Int, LdV w (.pointer (some ad)) (.int .i64 n) ∧ R n) :=
  Rd.ix h k hi (by simpa using hk) fun ad hl => ⟨zs[k], by simpa [ints] using hl, hR⟩
theorem RI.sl (h : RI w v zs) {lo hi : Option Int} (l r : Nat) (hl : lo.getD 0 = l) (hr : hi.getD (zs.length : Int) = r) (hlr : l ≤ r) (hrx : r ≤ zs.length) {K : Value → Prop} (hK : ∀ u, RI w u ((zs.take r).drop l) → K u) : SlV 1 v lo hi none K :=
  Rd.sl h l r hl (by simpa using hr) hlr (by simpa using hrx) fun u hu => hK u (by unfold RI; rw [← ints_drop, ← ints_take]; exact hu)
end

/-! ### the call's own -/
section
variable {w w' : World} {v : Value} {xs : List Value} {B : Nat} {e : TypeId}
theorem Own.nil_ (B : Nat) (w : World) (e : TypeId) : Own B w e (.slice none 0 0) [] := World.ownsRow_nil w B e 1
theorem Own.lt (h : Own B w e v xs) {k : Nat} (hk : v.ownBlock = some k) : B ≤ k ∧ k < w.heap.size := World.ownsRow.lt h k hk
theorem Own.mono (h : Own B w e v xs) {B' : Nat} (hB : B' ≤ B) : Own B' w e v xs := by
  refine ⟨h.1, ?_⟩
  rcases h.2 with h2 | ⟨g, cap, cur, hv, hg, r⟩
  · exact .inl h2
  · exact .inr ⟨g, cap, cur, hv, by omega, r⟩
theorem Own.rd (h : Own B w e v xs) : Rd w v xs := by
  rcases h.2 with ⟨rfl, h0⟩ | ⟨g, cap, cur, rfl, hg, hh, hn, hc, hs, ht⟩
  · have : xs = [] := List.eq_nil_of_length_eq_zero h0
    subst this
    exact Rd.nil_ w 0 (Nat.zero_le _)
  · exact ⟨_, cap, rfl, hn, hc, fun _ => ⟨_, rfl, World.ownsRow.cells h (g := g) rfl⟩⟩
theorem Own.keep (h : Own B w e v xs) (hk : ∀ k, v.ownBlock = some k → w'.heap[k]? = w.heap[k]?) : Own B w' e v xs := by
  refine ⟨h.1, ?_⟩
  rcases h.2 with h2 | ⟨g, cap, cur, rfl, hg, hh, r⟩
  · exact .inl h2
  · exact .inr ⟨g, cap, cur, rfl, hg, (hk g rfl).trans hh, r⟩
theorem Own.ext (h : Own B w e v xs) (x : Ext w w') : Own B w' e v xs := h.keep fun k hk => x.block k (h.lt hk).2
theorem Own.bxs (h : Own B w e v xs) {n0 : Nat} {T : TypeId} (x : BxS n0 T w w') (hT : e ≠ T) : Own B w' e v xs := by
  refine h.keep fun k hk => x.block k ?_
  intro cs fz hh
  rcases h.2 with ⟨rfl, _⟩ | ⟨g, cap, cur, rfl, hg, hh', r⟩
  · simp [Value.ownBlock] at hk
  · have : g = k := by simpa [Value.ownBlock] using hk
    subst this
    rw [hh] at hh'
    injection hh' with hh'
    injection hh' with _ he _
    exact hT he.symm
theorem Own.grown (h : Own B w e v xs) {row : Option Nat} (hg : w.grownBy w' row) (hne : v.ownBlock = none ∨ v.ownBlock ≠ row) : Own B w' e v xs := World.ownsRow.kept h hg hne
/-- what the call wrote into its own row leaves the old heap alone -/
theorem Ext.grown {w0 : World} (x : Ext w0 w) (h : Own B w e v xs) (hB : w0.heap.size ≤ B) (hg : w.grownBy w' v.ownBlock) : Ext w0 w' :=
  Below.grown x hg x.size fun k hk => Nat.le_trans hB (h.lt hk).1
theorem Own.app (h : Own B w e v xs) {x : Value} {news : List Value} (hx : Rd w x news) (h1 : ∀ u ∈ news, u.oneCell' = true) (hl : xs.length + news.length ≤ 4398046511104) (hB : B ≤ w.heap.size) {K : Value → World → Prop}
    (hK : ∀ v' w', Own B w' e v' (xs ++ news) → w.grownBy w' v.ownBlock → (v'.ownBlock = v.ownBlock ∨ v'.ownBlock = some w.heap.size) → K v' w') : AppV w e v x K :=
  .inl ⟨B, xs, news, h, hx, h1, hl, hB, hK⟩
/-- 'append(v, x)': x lies in a row of its own -/
theorem Own.app1 (h : Own B w e v xs) {x : Value} {u : Value} {C : Nat} (hx : Own C w e x [u]) (h1 : u.oneCell' = true) (hl : xs.length < 4398046511104) (hB : B ≤ w.heap.size) {K : Value → World → Prop}
    (hK : ∀ v' w', Own B w' e v' (xs ++ [u]) → w.grownBy w' v.ownBlock → (v'.ownBlock = v.ownBlock ∨ v'.ownBlock = some w.heap.size) → K v' w') : AppV w e v x K :=
  h.app hx.rd (by simpa using h1) (by simp; omega) hB hK
theorem Ext.grownNone {w0 : World} (x : Ext w0 w) (hg : w.grownBy w' none) : Ext w0 w' :=
  Below.grown x hg x.size fun k hk => by simp at hk
/-- 'append(v, x)' onto a full row: x lies in a row of its own -/
theorem Rd.appF {v : Value} {xs : List Value} (h : Rd w v xs) {a : Addr} (hv : v = .slice (some a) xs.length xs.length) {x : Value} {u : Value} {C : Nat} (hx : Own C w e x [u]) (hl : xs.length < 4398046511104) {K : Value → World → Prop}
    (hK : ∀ v' w', Own w.heap.size w' e v' (xs ++ [u]) → w.grownBy w' none → K v' w') : AppV w e v x K :=
  .inr ⟨a, xs, [u], hv, h, hx.rd, by simp, by simp; omega, hK⟩
theorem Rd.grown (h : Rd w v xs) {w0 : World} {row : Option Nat} (h0 : Rd w0 v xs) (x : Ext w0 w') : Rd w' v xs := h0.ext x
end

/-- a store into a row of the call's own -/
theorem Own.setAt {w : World} {v : Value} {xs : List Value} {B : Nat} {e : TypeId} (h : Own B w e v xs) {i : Int} (k : Nat) (hi : i = k) (hk : k < xs.length) {n0 : Nat} {Ts : List TypeId} {x : Value} (h1 : x.oneCell' = true) (hT : e ∉ Ts) {K : World → Prop}
    (hK : ∀ w', Own B w' e v (xs.set k x) → w.grownBy w' v.ownBlock → K w') : IxV 1 v i (fun ad => StV n0 Ts w (.pointer (some ad)) x K) := by
  rcases h.2 with ⟨rfl, h0⟩ | ⟨g, cap, cur, rfl, hg, hh, hn, hc, hs, ht⟩
  · have : xs = [] := List.eq_nil_of_length_eq_zero h0
    subst this
    simp at hk
  · subst hi
    have hcur : cur.size = cap := by simpa using hs
    have hkc : k < cur.size := by omega
    refine ⟨_, _, _, rfl, by omega, by omega, ?_⟩
    have ek : (k : Int).toNat * 1 = k := by omega
    rw [ek]
    have ea : (⟨g, 0, none⟩ : Addr).add k = ⟨g, k, none⟩ := by rw [add_box]; simp
    rw [ea]
    have hcell := cell_of_row w g k cur e (0, 0) hh
    refine ⟨_, cur[k], rfl, by rw [hcell]; simp [hkc], by simp [World.frozen?, hh], h1, .inr ⟨_, _, _, hh, hT⟩, hK _ ?_ ?_⟩
    · refine ⟨by simp, .inr ⟨g, cap, cur.setIfInBounds k x, by simp, hg, ?_, by simpa using hn, hc, by simpa using hs, ?_⟩⟩
      · simp [World.setCell, Array.getElem?_modify, hh]
      · simp only [Array.toList_setIfInBounds, List.length_set, Nat.mul_one] at ht ⊢
        rw [List.take_set, ht]
    · refine ⟨rfl, rfl, rfl, by simp [World.setCell], fun j _ hj => Below.heap_setCell _ _ _ _ ?_⟩
      rintro rfl
      exact hj rfl
/-- what the call wrote into its own row leaves boxes of other types alone -/
theorem Own.keepsG {w w' : World} {v : Value} {xs : List Value} {B : Nat} {e : TypeId} (h : Own B w e v xs) (g : w.grownBy w' v.ownBlock) {n0 : Nat} {Ts : List TypeId} (hT : e ∉ Ts) : Keeps n0 Ts w w' := by
  refine ⟨g.size, fun k cs T fz hU hk hh => ?_⟩
  refine (g.block k (Array.getElem?_eq_some_iff.1 hh).1 fun hu => ?_).trans hh
  rcases h.2 with ⟨rfl, _⟩ | ⟨g', cap, cur, rfl, _, hh', _⟩
  · simp [Value.ownBlock] at hu
  · have : k = g' := by simpa [Value.ownBlock] using hu
    subst this
    rw [hh] at hh'
    injection hh' with hh'
    injection hh' with _ he _
    exact hT (he ▸ hU)
end Go.Sx
namespace Go.Proofs
open Go.Sx Go.RowKit
/-- two rows in different blocks -/
def Apart (u v : Value) : Prop := u.ownBlock = none ∨ u.ownBlock ≠ v.ownBlock
theorem Apart.new {B : Nat} {w w' : World} {e e' : TypeId} {u v : Value} {xs ys : List Value} (hu : Own B w e u xs) (hv : Own w.heap.size w' e' v ys) : Apart u v := by
  unfold Apart
  rcases hk : u.ownBlock with _ | k
  · exact .inl rfl
  · refine .inr fun h => ?_
    have h1 := (hu.lt hk).2
    have h2 := (hv.lt h.symm).1
    omega
theorem Apart.app {B : Nat} {w : World} {e : TypeId} {u v v' : Value} {xs : List Value} (h : Apart u v) (hu : Own B w e u xs) (hv : v'.ownBlock = v.ownBlock ∨ v'.ownBlock = some w.heap.size) : Apart u v' := by
  unfold Apart at *
  rcases hk : u.ownBlock with _ | k
  · exact .inl rfl
  · rw [hk] at h
    rcases hv with hv | hv
    · rw [hv]; exact h
    · rw [hv]
      refine .inr fun h1 => ?_
      have h1 : k = w.heap.size := by injection h1
      have h2 := (hu.lt hk).2
      omega
end Go.Proofs
