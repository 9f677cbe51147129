/- Slices that read so out of blocks of one type: views. No condition. -/
import Derived.Test.YtjcggcefmpaieaaDoorMat
import Derived.Test.YtjcggcefmpaieaaDoorVis
set_option linter.unusedVariables false
namespace Go.Sx
open Go Go.RowKit
/-- the slice reads as xs, out of a block from B on of elements of type e -/
def Vw (B : Nat) (w : World) (e : TypeId) (v : Value) (xs : List Value) : Prop :=
  ∃ a c, v = .slice a xs.length c ∧ xs.length ≤ c ∧ c ≤ maxLen ∧ (0 < xs.length → ∃ g o cs, a = some ⟨g, o, none⟩ ∧ B ≤ g ∧ w.heap[g]? = some (.cells cs e (0, 0)) ∧ ∀ j u, xs[j]? = some u → cs[o + j]? = some u)
section
variable {B : Nat} {w w' : World} {e : TypeId} {v : Value} {xs : List Value}
theorem Vw.rd (h : Vw B w e v xs) : Rd w v xs := by
  obtain ⟨a, c, rfl, h1, h2, h3⟩ := h
  refine ⟨a, c, rfl, h1, h2, fun h0 => ?_⟩
  obtain ⟨g, o, cs, rfl, _, hg, hc⟩ := h3 h0
  refine ⟨_, rfl, fun j u hu => ?_⟩
  rw [add_box, cell_of_row w g (o + j) cs e (0, 0) hg]
  exact hc j u hu
theorem Vw.one (h : Vw B w e v xs) : v.oneCell' = true := h.rd.one
theorem Vw.mono (h : Vw B w e v xs) {B' : Nat} (hB : B' ≤ B) : Vw B' w e v xs := by
  obtain ⟨a, c, rfl, h1, h2, h3⟩ := h
  refine ⟨a, c, rfl, h1, h2, fun h0 => ?_⟩
  obtain ⟨g, o, cs, ha, hb, r⟩ := h3 h0
  exact ⟨g, o, cs, ha, by omega, r⟩
theorem Vw.keep (h : Vw B w e v xs) (hk : ∀ g cs, B ≤ g → w.heap[g]? = some (.cells cs e (0, 0)) → w'.heap[g]? = some (.cells cs e (0, 0))) : Vw B w' e v xs := by
  obtain ⟨a, c, rfl, h1, h2, h3⟩ := h
  refine ⟨a, c, rfl, h1, h2, fun h0 => ?_⟩
  obtain ⟨g, o, cs, ha, hb, hg, hc⟩ := h3 h0
  exact ⟨g, o, cs, ha, hb, hk g cs hb hg, hc⟩
theorem Vw.ext (h : Vw B w e v xs) (x : Ext w w') : Vw B w' e v xs := h.keep fun g cs _ hg => (x.block g (heap_lt hg)).trans hg
theorem Vw.dr (h : Vw B w e v xs) {b : Nat} (p : Pres (fun k => k ≠ b) w w') (hb : b < B) : Vw B w' e v xs := h.keep fun g cs hB hg => (p.block g (heap_lt hg) (by omega)).trans hg
theorem Vw.bxs (h : Vw B w e v xs) {n0 : Nat} {T : TypeId} (x : BxS n0 T w w') (hT : e ≠ T) : Vw B w' e v xs := h.keep fun g cs _ hg => (x.block g (by
  intro cs' fz hh
  rw [hg] at hh
  injection hh with hh
  injection hh with _ he _
  exact hT he)).trans hg
theorem Vw.grown (h : Vw B w e v xs) {B' : Nat} {e' : TypeId} {u : Value} {ys : List Value} (o : Own B' w e' u ys) (hne : e ≠ e') (gr : w.grownBy w' u.ownBlock) : Vw B w' e v xs := h.keep fun g cs _ hg => (gr.block g (heap_lt hg) fun hu => by
  rcases o.2 with ⟨rfl, _⟩ | ⟨g', cap, cur, rfl, _, hh', _⟩
  · simp [Value.ownBlock] at hu
  · have : g = g' := by simpa [Value.ownBlock] using hu
    subst this
    rw [hg] at hh'
    injection hh' with hh'
    injection hh' with _ he _
    exact hne he).trans hg
theorem Own.vw (h : Own B w e v xs) : Vw B w e v xs := by
  rcases h.2 with ⟨rfl, h0⟩ | ⟨g, cap, cur, rfl, hg, hh, hn, hc, hs, ht⟩
  · have : xs = [] := List.eq_nil_of_length_eq_zero h0
    subst this
    exact ⟨none, 0, rfl, Nat.le_refl _, Nat.zero_le _, fun h => absurd h (by simp)⟩
  · refine ⟨_, cap, rfl, hn, hc, fun _ => ⟨g, 0, cur, rfl, hg, hh, fun j u hu => ?_⟩⟩
    have hj := (List.getElem?_eq_some_iff.1 hu).1
    rw [Nat.zero_add, ← Array.getElem?_toList]
    have : (cur.toList.take xs.length)[j]? = xs[j]? := by
      simp only [Nat.mul_one] at ht
      rw [ht]
    rw [List.getElem?_take_of_lt hj] at this
    rw [this, hu]
theorem Vw.sl (h : Vw B w e v xs) {lo hi : Option Int} (l r : Nat) (hl : lo.getD 0 = l) (hr : hi.getD (xs.length : Int) = r) (hlr : l ≤ r) (hrx : r ≤ xs.length) {K : Value → Prop} (hK : ∀ u, Vw B w e u ((xs.take r).drop l) → K u) : SlV 1 v lo hi none K := by
  obtain ⟨a, c, rfl, h1, h2, h3⟩ := h
  refine ⟨a, _, c, rfl, by rw [hl]; omega, by rw [hl, hr]; omega, by rw [hr]; simp; omega, by simp, by simp, ?_⟩
  simp only [hl, hr, Int.toNat_natCast, Option.getD_none, Nat.mul_one]
  apply hK
  have hlen : ((xs.take r).drop l).length = r - l := by simp; omega
  refine ⟨_, c - l, by rw [hlen], by rw [hlen]; omega, by omega, fun h0 => ?_⟩
  rw [hlen] at h0
  obtain ⟨g, o, cs, rfl, hg, hh, hc⟩ := h3 (by omega)
  rw [if_neg (by omega)]
  refine ⟨g, o + l, cs, by simp [add_box], hg, hh, fun j u hu => ?_⟩
  rw [Nat.add_assoc]
  refine hc _ _ ?_
  rw [List.getElem?_drop, List.getElem?_take] at hu
  split at hu
  · exact hu
  · cases hu
/-- the address of an element, good in every world in which the slice reads so -/
theorem Vw.ix (h : Vw B w e v xs) {i : Int} (k : Nat) (hi : i = k) (hk : k < xs.length) {K : Addr → Prop} (hK : ∀ ad, (∀ W, Vw B W e v xs → LdV W (.pointer (some ad)) xs[k]) → K ad) : IxV 1 v i K := by
  obtain ⟨a, c, rfl, h1, h2, h3⟩ := h
  obtain ⟨g, o, cs, rfl, hb, hg, hc⟩ := h3 (by omega)
  subst hi
  refine ⟨_, _, _, rfl, by omega, by omega, ?_⟩
  rw [show (k : Int).toNat * 1 = k by omega]
  refine hK _ fun W hW => ?_
  obtain ⟨a', c', hv, _, _, h5⟩ := hW
  obtain ⟨g', o', cs', ha', _, hg', hc'⟩ := h5 (by omega)
  injection hv with hv _ _
  rw [ha'] at hv
  injection hv with hv
  injection hv with hv1 hv2 _
  subst hv1 hv2
  refine ⟨_, rfl, ?_⟩
  rw [add_box, cell_of_row W g (o + k) cs' e (0, 0) hg']
  exact hc' k _ (List.getElem?_eq_getElem hk)
end
end Go.Sx
namespace Go.Proofs
open Go.Sx Go.RowKit
/-- a slice of rows, all out of blocks from B on -/
def VwR (B : Nat) (w : World) (v : Value) (zss : List (List Int)) : Prop := ∃ us, Vw B w 24 v us ∧ Rows (fun u z => Vw B w 2 u (ints z)) us zss
section
variable {B : Nat} {w w' : World} {v : Value} {zss : List (List Int)}
theorem VwR.rr (h : VwR B w v zss) : RR w v zss := let ⟨us, h1, h2⟩ := h; ⟨us, h1.rd, h2.map fun u z hr => hr.rd⟩
theorem VwR.one (h : VwR B w v zss) : v.oneCell' = true := let ⟨us, h1, _⟩ := h; h1.one
theorem VwR.ext (h : VwR B w v zss) (e : Ext w w') : VwR B w' v zss := let ⟨us, h1, h2⟩ := h; ⟨us, h1.ext e, h2.map fun u z hr => hr.ext e⟩
theorem VwR.mono (h : VwR B w v zss) {B' : Nat} (hB : B' ≤ B) : VwR B' w v zss := let ⟨us, h1, h2⟩ := h; ⟨us, h1.mono hB, h2.map fun u z hr => hr.mono hB⟩
theorem VwR.dr (h : VwR B w v zss) {b : Nat} (p : Pres (fun k => k ≠ b) w w') (hb : b < B) : VwR B w' v zss := let ⟨us, h1, h2⟩ := h; ⟨us, h1.dr p hb, h2.map fun u z hr => hr.dr p hb⟩
theorem VwR.bxs (h : VwR B w v zss) {n0 : Nat} {T : TypeId} (x : BxS n0 T w w') (hT : 24 ≠ T) (hT' : 2 ≠ T) : VwR B w' v zss := let ⟨us, h1, h2⟩ := h; ⟨us, h1.bxs x hT, h2.map fun u z hr => hr.bxs x hT'⟩
theorem OwnR.vw (h : OwnR B w v zss) : VwR B w v zss := let ⟨us, h1, h2, _⟩ := h; ⟨us, h1.vw, h2.map fun u z hr => hr.vw⟩
theorem VwR.sl (h : VwR B w v zss) {lo hi : Option Int} (l r : Nat) (hl : lo.getD 0 = l) (hr : hi.getD (zss.length : Int) = r) (hlr : l ≤ r) (hrx : r ≤ zss.length) {K : Value → Prop} (hK : ∀ u, VwR B w u ((zss.take r).drop l) → K u) : SlV 1 v lo hi none K := by
  obtain ⟨us, h1, h2⟩ := h
  have he := h2.1
  refine h1.sl l r hl (by rw [he]; exact hr) hlr (by omega) fun u hu => hK u ⟨_, hu, ?_⟩
  refine ⟨by simp; omega, fun i x z hx hz => ?_⟩
  rw [List.getElem?_drop, List.getElem?_take] at hx hz
  by_cases hlt : l + i < r
  · rw [if_pos hlt] at hx hz
    exact h2.2 _ x z hx hz
  · rw [if_neg hlt] at hx
    cases hx
end
end Go.Proofs
