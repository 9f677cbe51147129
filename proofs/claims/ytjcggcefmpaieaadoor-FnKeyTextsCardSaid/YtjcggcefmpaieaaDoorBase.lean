/- What the parts of this claim share: the program's closed facts, small lemmas on slices, and the frame of a law's row. No condition. -/
import Derived.Test.YtjcggcefmpaieaaDoorSx
import Derived.Test.YtjcggcefmpaieaaDoorRows
import Derived.ProofKit
import Derived.Lib.SmallJoins
import Derived.Deep.Matrix
import Derived.Deep.Fields
set_option linter.unusedVariables false
namespace Go.Proofs
open Go.Sx Go.RowKit

def noAnn : Nat → Ann := fun _ => { σ := Unit, sli := [], slc := fun _ => [], bxi := [], bxc := fun _ => [], inv := fun _ _ => False, μ := fun _ _ => 0 }
theorem mixed : Tryd.prog.follows .mixedOrders = true := by kernel_rfl
theorem laidOut : laidOutB Tryd.prog = true := by kernel_rfl
theorem ownKnobNone : ownKnob Tryd.prog.godebug = none := by kernel_rfl
end Go.Proofs

namespace Go.Sx
open Go.RowKit Go.ChangeShapes Go.WideShapes Go.ChangeAt Go.Joins

/-- a box written above the old heap -/
theorem Ext.bxs {w w1 w2 : World} {T : TypeId} (h : Ext w w1) (k : BxS w.heap.size T w1 w2) : Ext w w2 :=
  ⟨k.os.trans h.os, k.tape.trans h.tape, k.output.trans h.output, by rw [k.size]; exact h.size, fun i hi => (k.low i hi).trans (h.block i hi)⟩

/-! ### contracts -/
/-- the call hands back v, and there are at most new blocks -/
def Val (P : Program) (f : FuncId) (args : Array Value) (w : World) (v : Value) : Prop := Calls P f args w fun e w' => e = .returned v ∧ Ext w w'
def Ret (P : Program) (f : FuncId) (args : Array Value) (w : World) (Q : Value → World → Prop) : Prop := Calls P f args w fun e w' => ∃ v, e = .returned v ∧ Q v w'
section
variable {P : Program} {f : FuncId} {args : Array Value} {w : World} {v : Value} {Q : Value → World → Prop} {G : Ending → World → Prop}
theorem Val.call (h : Val P f args w v) (hg : ∀ w', Ext w w' → G (.returned v) w') : Calls P f args w G := Calls.mono h fun e w' ⟨he, hw⟩ => by subst he; exact hg w' hw
theorem Ret.call (h : Ret P f args w Q) (hg : ∀ v w', Q v w' → G (.returned v) w') : Calls P f args w G := Calls.mono h fun e w' ⟨v, he, hw⟩ => by subst he; exact hg v w' hw
theorem Ret.val (h : Ret P f args w fun v' w' => v' = v ∧ Ext w w') : Val P f args w v := Calls.mono h fun e w' ⟨v', he, hv, hw⟩ => by subst he hv; exact ⟨rfl, hw⟩
theorem Val.calls (h : Val P f args w v) : Calls P f args w fun e w' => e = .returned v ∧ Ext w w' := h
theorem Ret.of (h : Calls P f args w fun e w' => ∃ v, e = .returned v ∧ Q v w') : Ret P f args w Q := h
theorem Val.ret (h : Val P f args w v) : Ret P f args w fun v' w' => v' = v ∧ Ext w w' := Calls.mono h fun e w' ⟨he, hw⟩ => ⟨v, he, rfl, hw⟩
theorem Ret.mono {Q' : Value → World → Prop} (h : Ret P f args w Q) (hg : ∀ v w', Q v w' → Q' v w') : Ret P f args w Q' := Calls.mono h fun e w' ⟨v, he, hw⟩ => ⟨v, he, hg v w' hw⟩
end
attribute [irreducible] Val Ret

/-! ### the frame of a law -/
section
variable {H : Type} {enc : TypeId × Value → H} {P : Program}
theorem trodAll_below (hl : laidOutB P = true) {W W' : World} (hb : Below W.heap.size W W') : ∀ (ts : List TypeId) (vs : List Value) (ds : List (DataW H)) (ps : List MemPlace), (∀ t ∈ ts, P.readableRec t = true ∧ t < P.types.size) →
    DataW.TrodAll enc P W 0 (fun _ => true) true ts vs ds ps → (∀ x ∈ ps, x.block < W.heap.size) → DataW.TrodAll enc P W' 0 (fun b => decide (b < W.heap.size)) true ts vs ds ps
  | [], vs, ds, ps, _, h, _ => by
    obtain ⟨rfl, rfl, rfl⟩ := trodAll_nil h
    exact trodAll_mk0
  | t :: ts, vs, ds, ps, hr, h, hlt => by
    obtain ⟨v, vs', d, ds', p, q, rfl, rfl, rfl, h0, hrest⟩ := trodAll_cons h
    have h1 := hr t (List.mem_cons_self ..)
    exact trodAll_cons_mk (Below.trod hl h1.1 h1.2 h0 hb fun x hx => hlt x (List.mem_append_left _ hx))
      (trodAll_below hl hb ts vs' ds' q (fun u hu => hr u (List.mem_cons_of_mem _ hu)) hrest fun x hx => hlt x (List.mem_append_right _ hx))
end

section
open Go.Deep
variable {H : Type} {enc : TypeId × Value → H} {P : Program} {w : World} {base : Nat} {spare : Nat → Bool} {held : Bool}
theorem open_agg5 {r : Reach} {b0 : Nat} {t : TypeId} {f0 f1 f2 f3 f4 : Field} {v : Value} {d : DataW H} {p : List MemPlace} (hs : P.underlying t = some (.struct #[f0, f1, f2, f3, f4])) (hone : oneCellFields P #[f0, f1, f2, f3, f4] = true) (hC : P.cellsOf t = 5)
    (hv : Value.okWide P w r b0 t v) (h : DataW.Trod enc P w base spare held t v d p) :
    ∃ (v0 v1 v2 v3 v4 : Value) (y0 y1 y2 y3 y4 : DataW H × List MemPlace) (n : Nat), v = .agg #[v0, v1, v2, v3, v4] ∧ d = .agg [y0.1, y1.1, y2.1, y3.1, y4.1] ∧ p = y0.2 ++ (y1.2 ++ (y2.2 ++ (y3.2 ++ y4.2))) ∧
      DataW.trod enc P w base spare held n f0.type [v0] = some y0 ∧ DataW.trod enc P w base spare held n f1.type [v1] = some y1 ∧ DataW.trod enc P w base spare held n f2.type [v2] = some y2 ∧ DataW.trod enc P w base spare held n f3.type [v3] = some y3 ∧ DataW.trod enc P w base spare held n f4.type [v4] = some y4 := by
  obtain ⟨cs, rfl, hsz⟩ := okWide_struct hs hv
  obtain ⟨l⟩ := cs
  match l, hsz.trans hC with
  | [c0, c1, c2, c3, c4], _ =>
    obtain ⟨fuel, hf⟩ := h
    obtain ⟨xs, n, _, hx, _, hlen, hg⟩ := DataW.trod_struct hs hf
    obtain ⟨o0, k0⟩ := hone_of hone 0 f0 rfl
    obtain ⟨o1, k1⟩ := hone_of hone 1 f1 rfl
    obtain ⟨o2, k2⟩ := hone_of hone 2 f2 rfl
    obtain ⟨o3, k3⟩ := hone_of hone 3 f3 rfl
    obtain ⟨o4, k4⟩ := hone_of hone 4 f4 rfl
    match xs, hlen with
    | [y0, y1, y2, y3, y4], _ =>
      simp only [Prod.mk.injEq] at hx
      exact ⟨c0, c1, c2, c3, c4, y0, y1, y2, y3, y4, n, rfl, by simpa using hx.1, by simpa using hx.2, by simpa [Value.cells, o0, k0] using hg 0 f0 rfl, by simpa [Value.cells, o1, k1] using hg 1 f1 rfl, by simpa [Value.cells, o2, k2] using hg 2 f2 rfl, by simpa [Value.cells, o3, k3] using hg 3 f3 rfl, by simpa [Value.cells, o4, k4] using hg 4 f4 rfl⟩
end

theorem law_post {H : Type} {enc : TypeId × Value → H} {P : Program} {f : Func} {s : ChangeSpec} {W W' : World} {args : Array Value} {ds : List (DataW H)} {p : List MemPlace} (hl : laidOutB P = true) (hr : ∀ t ∈ f.params.toList, P.readableRec t = true ∧ t < P.types.size)
    (hW : DataW.Whole enc P f.params.toList s.vars false W args.toList ds [] (p ++ [])) (hA : DataW.TrodAll enc P W 0 (fun _ => true) true f.params.toList args.toList ds p)
    {B : TypeId} (hB : P.underlying B = some .bool) (hres : f.resultTypes = #[B]) (hv : s.vars = []) (hs : s.fn H (ds ++ []) = { results := [.lit (.bool true)], args := ds }) (hb : Below W.heap.size W W') :
    s.post enc P f false true false false W args (.bool true) W' := by
  have hlt : ∀ x ∈ p, x.block < W.heap.size := fun x hx => by simpa using hW.lt x (by simpa using hx)
  refine ⟨ds, [], p ++ [], [], p, [], hW, ?_, ?_, ?_, hb.frame _, fun h => by cases h⟩
  · rw [hs, hres]
    exact trodAll_cons_mk (shut_bool hB _) trodAll_mk0
  · rw [hs]
    exact trodAll_below hl hb _ _ _ _ hr hA hlt
  · rw [hs, hv]
    exact rfl
end Go.Sx
