/- Contracts: the keys that a lock opens for. No condition. -/
import Derived.Test.YteolgidmaklbkaaL05a
import Derived.Test.YteolgidmaklbkaaL04c
import Derived.Test.YteolgidmaklbkaaL03b
set_option linter.unusedVariables false
namespace Go.Proofs
open Go.Sx Go.RowKit
theorem up_filter : ∀ (n : Nat) (k : Int) (z : List Int), z.Pairwise (· < ·) → (∀ x ∈ z, k ≤ x ∧ x < k + n) → (upFrom k n).filter (fun x => decide (x ∈ z)) = z
  | 0, k, z, _, h => by
    cases z with
    | nil => rfl
    | cons a z => have := h a (by simp); omega
  | n + 1, k, z, hp, h => by
    rw [upFrom_cons]
    cases z with
    | nil =>
      rw [List.filter_eq_nil_iff]
      intro x _
      simp
    | cons a z =>
      have ha := h a (by simp)
      have hpa := List.pairwise_cons.1 hp
      by_cases e : a = k
      · subst e
        rw [List.filter_cons_of_pos (by simp)]
        congr 1
        have ih := up_filter n (a + 1) z hpa.2 fun x hx => by
          have h1 := h x (by simp [hx])
          have h2 := hpa.1 x hx
          omega
        rw [← ih]
        refine List.filter_congr fun x hx => ?_
        have h1 := (mem_upFrom.1 hx).1
        rw [ih]
        refine decide_eq_decide.2 ⟨fun hh => ?_, fun hh => List.mem_cons_of_mem _ hh⟩
        rcases List.mem_cons.1 hh with hh | hh
        · omega
        · exact hh
      · have hk : k ∉ a :: z := fun hh => by
          rcases List.mem_cons.1 hh with hh | hh
          · exact e hh.symm
          · have := hpa.1 k hh
            omega
        rw [List.filter_cons_of_neg (by simpa using hk)]
        refine up_filter n (k + 1) (a :: z) hp fun x hx => ?_
        have h1 := h x hx
        have : x ≠ k := fun e => hk (e ▸ hx)
        omega
theorem rises_pair {n : Int} {z : List Int} (h : Rises n z z.length) : z.Pairwise (· < ·) := by
  rw [List.pairwise_iff_getElem]
  intro i j hi hj hij
  have key : ∀ t : Nat, ∀ hj : i + t + 1 < z.length, z[i] < z[i + t + 1] := by
    intro t
    induction t with
    | zero =>
      intro hj
      have := (h (i + 0 + 1) hj)
      unfold RiseAt at this
      have := this.2.2 (by omega)
      rw [getD_get hj, Nat.add_sub_cancel, getD_get (show i + 0 < z.length by omega)] at this
      exact this
    | succ t ih =>
      intro hj
      have := (h (i + (t + 1) + 1) hj)
      unfold RiseAt at this
      have := this.2.2 (by omega)
      rw [getD_get hj, Nat.add_sub_cancel, getD_get (show i + (t + 1) < z.length by omega)] at this
      exact Int.lt_trans (ih (by omega)) this
  have := key (j - i - 1) (by omega)
  have e : i + (j - i - 1) + 1 = j := by omega
  simp only [e] at this
  exact this
def Al (zss : List (List Int)) : Nat → Int → Bool := fun i x => decide (x ∈ zss.getD i [])
theorem set_ups {d : Int} {zss : List (List Int)} (hs : SetsOk d zss) {i : Nat} (hi : i < zss.length) : (ups d).filter (Al zss i) = zss[i] := by
  have hz := (hs _ (List.getElem_mem hi)).2
  have e : Al zss i = fun x => decide (x ∈ zss[i]) := by
    funext x
    unfold Al
    rw [List.getD, List.getElem?_eq_getElem hi]
    rfl
  rw [e]
  refine up_filter _ _ _ (rises_pair hz) fun x hx => ?_
  have := rises_in hz x hx
  omega
theorem Rows.append {p : Value → List Int → Prop} {us ys : List Value} {zss yss : List (List Int)} (h : Rows p us zss) (g : Rows p ys yss) : Rows p (us ++ ys) (zss ++ yss) := by
  refine ⟨by rw [List.length_append, List.length_append, h.1, g.1], fun i u z hu hz => ?_⟩
  rcases Nat.lt_or_ge i us.length with hl | hl
  · rw [List.getElem?_append_left hl] at hu
    rw [List.getElem?_append_left (by rw [← h.1]; exact hl)] at hz
    exact h.2 i u z hu hz
  · rw [List.getElem?_append_right hl] at hu
    rw [List.getElem?_append_right (by rw [← h.1]; exact hl), ← h.1] at hz
    exact g.2 _ u z hu hz
theorem OwnR.pushAll {B : Nat} {w3 w4 : World} {v x : Value} {zss yss : List (List Int)} (h : OwnR B w3 v zss) (hx : OwnR w3.heap.size w4 x yss) (e : Ext w3 w4) (hB : B ≤ w3.heap.size) (hl : zss.length + yss.length ≤ 4398046511104) {K : Value → World → Prop}
    (hK : ∀ v' w6, OwnR B w6 v' (zss ++ yss) → (∀ w0 : World, w0.heap.size ≤ B → Ext w0 w4 → Ext w0 w6) → K v' w6) : AppV w4 22 v x K := by
  obtain ⟨us, h1, h2, h3⟩ := h
  obtain ⟨ys, g1, g2, g3⟩ := hx
  have h1' := h1.ext e
  refine h1'.app g1.rd (fun u hu => ?_) (by rw [h2.1, g2.1]; exact hl) (Nat.le_trans hB e.size) fun v' w6 o6 gr hb => hK v' w6 ⟨us ++ ys, o6, Rows.append (h2.map fun a z ha => ?_) (g2.map fun a z ha => ?_), ?_⟩ (fun w0 h0 x => x.grown h1' h0 gr)
  · obtain ⟨i, hi, rfl⟩ := List.getElem_of_mem hu
    exact (g2.get (show i < yss.length by rw [← g2.1]; exact hi)).rd.one
  · exact (ha.ext e).grown gr (Apart.types (ha.ext e) h1' (by decide))
  · exact (ha.mono hB).grown gr (Apart.types ha h1' (by decide))
  · rw [List.pairwise_append]
    refine ⟨h3, g3, fun a ha b hb => ?_⟩
    obtain ⟨i, hi, rfl⟩ := List.getElem_of_mem ha
    obtain ⟨j, hj, rfl⟩ := List.getElem_of_mem hb
    exact Apart.new (h2.get (show i < zss.length by rw [← h2.1]; exact hi)) (g2.get (show j < yss.length by rw [← g2.1]; exact hj))
end Go.Proofs
