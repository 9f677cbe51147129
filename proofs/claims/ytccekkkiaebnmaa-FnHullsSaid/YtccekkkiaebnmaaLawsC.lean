/- What the laws on locks hold while they run. No condition. -/
import Derived.Test.YtccekkkiaebnmaaLawsB
import Derived.Test.YtccekkkiaebnmaaDraw7
import Derived.Test.YtccekkkiaebnmaaP04
set_option linter.unusedVariables false
namespace Go.Proofs
open Go.Sx Go.RowKit
/-- what a law holds: slices of rows and slices of integers -/
def Fx (w : World) (L : List (Value × List (List Int))) (K : List (Value × List Int)) (W : World) : Prop := Ext w W ∧ (∀ x ∈ L, VwR 0 W x.1 x.2) ∧ ∀ x ∈ K, Vw 0 W 2 x.1 (ints x.2)
section
variable {w W W' : World} {L : List (Value × List (List Int))} {K : List (Value × List Int)}
theorem Fx.start (e : Ext w W) : Fx w [] [] W := ⟨e, by simp, by simp⟩
theorem Fx.ext (h : Fx w L K W) (e : Ext W W') : Fx w L K W' := ⟨h.1.trans e, fun x hx => (h.2.1 x hx).ext e, fun x hx => (h.2.2 x hx).ext e⟩
theorem Fx.bxs (h : Fx w L K W) {T : TypeId} (e : BxS w.heap.size T W W') (hT : 36 ≠ T) (hT' : 2 ≠ T) : Fx w L K W' := ⟨h.1.bxs e, fun x hx => (h.2.1 x hx).bxs e hT hT', fun x hx => (h.2.2 x hx).bxs e hT'⟩
theorem Fx.bm (h : Fx w L K W) (e : BxS w.heap.size 25 W W') : Fx w L K W' := h.bxs e (by decide) (by decide)
theorem Fx.bl (h : Fx w L K W) (e : BxS w.heap.size 28 W W') : Fx w L K W' := h.bxs e (by decide) (by decide)
theorem Fx.addV (h : Fx w L K W) {B : Nat} {u : Value} {z : List (List Int)} (o : VwR B W u z) : Fx w ((u, z) :: L) K W := ⟨h.1, fun x hx => by
  rcases List.mem_cons.1 hx with rfl | hx
  · exact o.mono (Nat.zero_le _)
  · exact h.2.1 x hx, h.2.2⟩
theorem Fx.addR (h : Fx w L K W) {B : Nat} {u : Value} {z : List (List Int)} (o : OwnR B W u z) : Fx w ((u, z) :: L) K W := h.addV o.vw
theorem Fx.addK (h : Fx w L K W) {B : Nat} {u : Value} {z : List Int} (o : Vw B W 2 u (ints z)) : Fx w L ((u, z) :: K) W := ⟨h.1, h.2.1, fun x hx => by
  rcases List.mem_cons.1 hx with rfl | hx
  · exact o.mono (Nat.zero_le _)
  · exact h.2.2 x hx⟩
theorem Fx.addI (h : Fx w L K W) {B : Nat} {u : Value} {z : List Int} (o : Own B W 2 u (ints z)) : Fx w L ((u, z) :: K) W := h.addK o.vw
theorem Fx.rr (h : Fx w L K W) {u : Value} {z : List (List Int)} (hx : (u, z) ∈ L) : RR W u z := (h.2.1 _ hx).rr
theorem Fx.ri (h : Fx w L K W) {u : Value} {z : List Int} (hx : (u, z) ∈ K) : RI W u z := (h.2.2 _ hx).rd
end
/-! ### locks made of locks -/
theorem join_lk {M : Mk} {za zb : List (List Int)} (h : Lk2 M za zb) : LkOk M.c M.d M.s M.m M.l (rowsOf (pJ za zb) M.d M.c.toNat) := by
  have hA := h.1
  have hc := hA.1.1
  have hd := hA.1.2.1
  have hl := hA.2.1
  refine ⟨hA.1, by rw [rowsOf_length]; omega, rowsOf_setsOk (by omega) fun i hi he => ?_⟩
  have hia : i < za.length := by omega
  obtain ⟨hne, hr⟩ := hA.2.2 _ (List.getElem_mem hia)
  obtain ⟨x, hx⟩ := List.exists_mem_of_ne_nil _ hne
  have hin := rises_in hr x hx
  have : x ∈ filt (pJ za zb i) M.d.toNat := by
    unfold filt
    refine List.mem_filter.2 ⟨mem_upFrom.2 (by omega), ?_⟩
    unfold pJ
    rw [al_get hia, decide_eq_true hx, Bool.true_or]
  rw [he] at this
  cases this
theorem meet_lk {M : Mk} {za zb : List (List Int)} (h : Lk2 M za zb) (hm : meetOk M za zb) : LkOk M.c M.d M.s M.m M.l (rowsOf (pM za zb) M.d M.c.toNat) := by
  have hA := h.1
  have hc := hA.1.1
  have hd := hA.1.2.1
  exact ⟨hA.1, by rw [rowsOf_length]; omega, rowsOf_setsOk (by omega) hm⟩
theorem coR_yes {M : Mk} {za : List (List Int)} (h : LkOk M.c M.d M.s M.m M.l za) : coR M.c M.d M.s M.m M.l za = .tuple #[.int .i64 ((openersOf M za).length : Int), .int .i64 0] := by
  unfold coR
  rw [if_pos h]
end Go.Proofs
