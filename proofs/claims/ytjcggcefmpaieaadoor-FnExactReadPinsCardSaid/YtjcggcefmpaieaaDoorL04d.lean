/- Contracts: the keys that a lock opens for. No condition. -/
import Derived.Test.YtjcggcefmpaieaaDoorL05a
import Derived.Test.YtjcggcefmpaieaaDoorL04c
import Derived.Test.YtjcggcefmpaieaaDoorL03b
set_option linter.unusedVariables false
namespace Go.Proofs
open Go.Sx Go.RowKit
theorem up_filter : ∀ (n : Nat) (k : Int) (z : List Int), z.Pairwise (· < ·) → (∀ x ∈ z, k ≤ x ∧ x < k + n) → (upFrom k n).filter (fun x => decide (x ∈ z)) = z
  | 0, k, z, _, h => by
    cases z with
    | nil => rfl
    | cons a z => have := h a (by simp); omega
  | n + 1, k, z, hp, h => by
    rw [upFrom_cons]
    cases z with
    | nil =>
      rw [List.filter_eq_nil_iff]
      intro x _
      simp
    | cons a z =>
      have ha := h a (by simp)
      have hpa := List.pairwise_cons.1 hp
      by_cases e : a = k
      · subst e
        rw [List.filter_cons_of_pos (by simp)]
        congr 1
        have ih := up_filter n (a + 1) z hpa.2 fun x hx => by
          have h1 := h x (by simp [hx])
          have h2 := hpa.1 x hx
          omega
        rw [← ih]
        refine List.filter_congr fun x hx => ?_
        have h1 := (mem_upFrom.1 hx).1
        rw [ih]
        refine decide_eq_decide.2 ⟨fun hh => ?_, fun hh => List.mem_cons_of_mem _ hh⟩
        rcases List.mem_cons.1 hh with hh | hh
        · omega
        · exact hh
      · have hk : k ∉ a :: z := fun hh => by
          rcases List.mem_cons.1 hh with hh | hh
          · exact e hh.symm
          · have := hpa.1 k hh
            omega
        rw [List.filter_cons_of_neg (by simpa using hk)]
        refine up_filter n (k + 1) (a :: z) hp fun x hx => ?_
        have h1 := h x hx
        have : x ≠ k := fun e => hk (e ▸ hx)
        omega
theorem rises_pair {n : Int} {z : List Int} (h : Rises n z z.length) : z.Pairwise (· < ·) := by
  rw [List.pairwise_iff_getElem]
  intro i j hi hj hij
  have key : ∀ t : Nat, ∀ hj : i + t + 1 < z.length, z[i] < z[i + t + 1] := by
    intro t
    induction t with
    | zero =>
      intro hj
      have := (h (i + 0 + 1) hj)
      unfold RiseAt at this
      have := this.2.2 (by omega)
      rw [getD_get hj, Nat.add_sub_cancel, getD_get (show i + 0 < z.length by omega)] at this
      exact this
    | succ t ih =>
      intro hj
      have := (h (i + (t + 1) + 1) hj)
      unfold RiseAt at this
      have := this.2.2 (by omega)
      rw [getD_get hj, Nat.add_sub_cancel, getD_get (show i + (t + 1) < z.length by omega)] at this
      exact Int.lt_trans (ih (by omega)) this
  have := key (j - i - 1) (by omega)
  have e : i + (j - i - 1) + 1 = j := by omega
  simp only [e] at this
  exact this
def Al (zss : List (List Int)) : Nat → Int → Bool := fun i x => decide (x ∈ zss.getD i [])
theorem set_ups {d : Int} {zss : List (List Int)} (hs : SetsOk d zss) {i : Nat} (hi : i < zss.length) : (ups d).filter (Al zss i) = zss[i] := by
  have hz := (hs _ (List.getElem_mem hi)).2
  have e : Al zss i = fun x => decide (x ∈ zss[i]) := by
    funext x
    unfold Al
    rw [List.getD, List.getElem?_eq_getElem hi]
    rfl
  rw [e]
  refine up_filter _ _ _ (rises_pair hz) fun x hx => ?_
  have := rises_in hz x hx
  omega
theorem Rows.append {p : Value → List Int → Prop} {us ys : List Value} {zss yss : List (List Int)} (h : Rows p us zss) (g : Rows p ys yss) : Rows p (us ++ ys) (zss ++ yss) := by
  refine ⟨by rw [List.length_append, List.length_append, h.1, g.1], fun i u z hu hz => ?_⟩
  rcases Nat.lt_or_ge i us.length with hl | hl
  · rw [List.getElem?_append_left hl] at hu
    rw [List.getElem?_append_left (by rw [← h.1]; exact hl)] at hz
    exact h.2 i u z hu hz
  · rw [List.getElem?_append_right hl] at hu
    rw [List.getElem?_append_right (by rw [← h.1]; exact hl), ← h.1] at hz
    exact g.2 _ u z hu hz
theorem OwnR.pushAll {B : Nat} {w3 w4 : World} {v x : Value} {zss yss : List (List Int)} (h : OwnR B w3 v zss) (hx : OwnR w3.heap.size w4 x yss) (e : Ext w3 w4) (hB : B ≤ w3.heap.size) (hl : zss.length + yss.length ≤ 4398046511104) {K : Value → World → Prop}
    (hK : ∀ v' w6, OwnR B w6 v' (zss ++ yss) → (∀ w0 : World, w0.heap.size ≤ B → Ext w0 w4 → Ext w0 w6) → K v' w6) : AppV w4 24 v x K := by
  obtain ⟨us, h1, h2, h3⟩ := h
  obtain ⟨ys, g1, g2, g3⟩ := hx
  have h1' := h1.ext e
  refine h1'.app g1.rd (fun u hu => ?_) (by rw [h2.1, g2.1]; exact hl) (Nat.le_trans hB e.size) fun v' w6 o6 gr hb => hK v' w6 ⟨us ++ ys, o6, Rows.append (h2.map fun a z ha => ?_) (g2.map fun a z ha => ?_), ?_⟩ (fun w0 h0 x => x.grown h1' h0 gr)
  · obtain ⟨i, hi, rfl⟩ := List.getElem_of_mem hu
    exact (g2.get (show i < yss.length by rw [← g2.1]; exact hi)).rd.one
  · exact (ha.ext e).grown gr (Apart.types (ha.ext e) h1' (by decide))
  · exact (ha.mono hB).grown gr (Apart.types ha h1' (by decide))
  · rw [List.pairwise_append]
    refine ⟨h3, g3, fun a ha b hb => ?_⟩
    obtain ⟨i, hi, rfl⟩ := List.getElem_of_mem ha
    obtain ⟨j, hj, rfl⟩ := List.getElem_of_mem hb
    exact Apart.new (h2.get (show i < zss.length by rw [← h2.1]; exact hi)) (g2.get (show j < yss.length by rw [← g2.1]; exact hj))
def openersOf (M : Mk) (zss : List (List Int)) : List (List Int) := G M (Al zss) M.c.toNat []
theorem openers_max {M : Mk} (hM : M.Ok) (zss : List (List Int)) : (openersOf M zss).length ≤ 262144 := G_max (by have := hM.2.1; omega) _ (by have := hM.1; omega) _
def coR (c d s m l : Int) (zss : List (List Int)) : Value := if LkOk c d s m l zss then .tuple #[.int .i64 ((openersOf ⟨c, d, s, m, l⟩ zss).length : Int), .int .i64 0] else .tuple #[.int .i64 0, .int .i64 1]
theorem coR_pair (c d s m l : Int) (zss : List (List Int)) : ∃ x y, coR c d s m l zss = .tuple #[.int .i64 x, .int .i64 y] := by unfold coR; split <;> exact ⟨_, _, rfl⟩
def ooCode (c d s m l : Int) (zss : List (List Int)) (n : Int) : Int := if LkOk c d s m l zss then (if 0 ≤ n ∧ n ≤ 300 then 0 else 2) else 1
def ooR (c d s m l : Int) (zss : List (List Int)) (n : Int) : List (List Int) := if LkOk c d s m l zss then (if 0 ≤ n ∧ n ≤ 300 then (openersOf ⟨c, d, s, m, l⟩ zss).take n.toNat else []) else []
theorem ooR_total (c d s m l : Int) (zss : List (List Int)) (n : Int) : total (ooR c d s m l zss n) ≤ 1000000 := by
  unfold ooR
  split
  · rename_i hk
    have hm := hk.1.1
    split
    · rename_i hn
      have h := total_max (zss := (openersOf ⟨c, d, s, m, l⟩ zss).take n.toNat) (n := 6) fun z hz => by
        have := G_length (List.mem_of_mem_take hz)
        simp only [List.length_nil] at this
        omega
      rw [List.length_take] at h
      omega
    · simp [total]
  · simp [total]
end Go.Proofs
