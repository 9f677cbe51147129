/- What the laws' frames share: an argument that is a slice of integers. No condition. -/
import Derived.Test.YtjcggcefmpaieaaDoorL01s
set_option linter.unusedVariables false
namespace Go.Sx
open Go Go.RowKit Go.ChangeShapes Go.WideShapes
theorem open_RI {H : Type} {enc : TypeId × Value → H} {P : Program} {w : World} {base : Nat} {spare : Nat → Bool} {held : Bool} {r : Reach} {b0 : Nat} {t e : TypeId} {v : Value} {d : DataW H} {ps : List MemPlace}
    (ht : P.underlying t = some (.slice e)) (he : P.underlying e = some (.int .i64)) (hc : P.cellsOf e = 1) (hv : Value.okWide P w r b0 t v) (h : DataW.Trod enc P w base spare held t v d ps) :
    ∃ zs : List Int, RI w v zs ∧ ∀ z ∈ zs, (Lit.int .i64 z).wf = true := by
  obtain ⟨a, len, cap, rfl⟩ := okWide_slice ht hv
  obtain ⟨fuel, hf⟩ := h
  rcases open_ints ht he hc hf with ⟨h0, _⟩ | ⟨a', len', cap', zs, h0, hb, hl, hm, hlen, _, hcell, hwf⟩
  · simp only [Value.cells, List.cons.injEq, and_true, Value.slice.injEq] at h0
    obtain ⟨rfl, rfl, rfl⟩ := h0
    exact ⟨[], RI.nil_ w 0 (Nat.zero_le _), by simp⟩
  · simp only [Value.cells, List.cons.injEq, and_true, Value.slice.injEq] at h0
    obtain ⟨rfl, rfl, rfl⟩ := h0
    have hle : len ≤ zs.length := by rw [hlen]; split <;> omega
    have e1 : (ints (zs.take len)).length = len := by simp; omega
    refine ⟨zs.take len, ⟨some a', cap, by rw [e1], by omega, hm, fun _ => ⟨a', rfl, fun j u hu => ?_⟩⟩, fun z hz => hwf z (List.mem_of_mem_take hz)⟩
    have hj : j < len := by
      have := (List.getElem?_eq_some_iff.1 hu).1
      omega
    rw [hcell j (by omega)]
    unfold ints at hu
    rw [List.getElem?_map, List.getElem?_take_of_lt hj, List.getElem?_eq_getElem (by omega)] at hu
    simp only [Option.map_some, Option.some.injEq] at hu
    rw [← hu, List.getD, List.getElem?_eq_getElem (by omega)]
    rfl
end Go.Sx
namespace Go.Proofs
open Go.Sx Go.RowKit
theorem errR_pair : ∃ x y, errR = .tuple #[.int .i64 x, .int .i64 y] := ⟨_, _, rfl⟩
theorem sumR_pair (zs : List Int) : ∃ x y, sumR zs = .tuple #[.int .i64 x, .int .i64 y] := by
  unfold sumR; split
  · exact lim_pair _
  · exact errR_pair
theorem prodR_pair (zs : List Int) : ∃ x y, prodR zs = .tuple #[.int .i64 x, .int .i64 y] := by
  unfold prodR; split
  · split
    · exact ⟨_, _, rfl⟩
    · exact lim_pair _
  · exact errR_pair
theorem powR_pair (a b : Int) : ∃ x y, powR a b = .tuple #[.int .i64 x, .int .i64 y] := by
  unfold powR; split
  · exact lim_pair _
  · exact errR_pair
theorem numR_pair (zs bs : List Int) : ∃ x y, numR zs bs = .tuple #[.int .i64 x, .int .i64 y] := by
  unfold numR; split
  · exact lim_pair _
  · exact errR_pair
/-- a copy of a list is a list of the call's own -/
theorem cp {w : World} {v : Value} {zs : List Int} (hv : RI w v zs) (hl : ¬ (1048576 : Int) < (zs.length : Int)) {G : Ending → World → Prop} (hg : ∀ u w', Own w.heap.size w' 2 u (ints zs) → Ext w w' → RI w' u zs → G (.returned u) w') : Calls Tryd.prog 24 #[v] w G :=
  (laws_toInt64S_ret v zs w hv (by omega)).call fun u w' h => hg u w' h.1 h.2 h.1.rd
theorem eq_same {w : World} {u v : Value} {zs : List Int} (hu : RI w u zs) (hv : RI w v zs) {G : Ending → World → Prop} (hg : ∀ w', Ext w w' → G (.returned (.bool true)) w') : Calls Tryd.prog 25 #[u, v] w G :=
  (laws_eqInt64S_val u v zs zs w hu hv).call fun w' h => by
    have e : decide (zs = zs) = true := decide_eq_true rfl
    rw [e]
    exact hg w' h
end Go.Proofs
