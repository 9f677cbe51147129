/- 'for i, v := range slices.Backward(s)' over a slice of ints: the iterator's contract. No condition. -/
import Derived.Test.YteolgidmaklbkaaL01
import Derived.RangeFuncNested
import Derived.RangeFuncBound
import Derived.RangeFuncBox
import Derived.RangeFuncCalls
import Derived.RangeFuncLeaves
import Derived.Shelf.Abstract
import Derived.Shelf.RegionOpen
import Derived.WalkKit
import Derived.OwnWalkIn
import Derived.TacticsInMore
import Derived.LoopNIn
import Derived.LoopIn
set_option linter.unusedVariables false
namespace Go.Proofs
open Go.Sx Go.RowKit Go.Shelf
attribute [local go_sem] Oper.semAt_some

/-- WHAT HAS COME WHEN k ROUNDS ARE OVER: f 0, .., f (k - 1). -/
def bupto {α : Type} (f : Nat → α) (k : Nat) : List α := (List.range k).map f
theorem bupto_succ {α : Type} (f : Nat → α) (k : Nat) : bupto f (k + 1) = bupto f k ++ [f k] := by simp [bupto, List.range_succ]
theorem bupto_length {α : Type} (f : Nat → α) (k : Nat) : (bupto f k).length = k := by simp [bupto]

/-- the places from the last one on, k of them -/
def downs (n k : Nat) : List Nat := bupto (fun j => n - 1 - j) k
theorem downs_succ (n k : Nat) : downs n (k + 1) = downs n k ++ [n - 1 - k] := bupto_succ _ _
theorem downs_length (n k : Nat) : (downs n k).length = k := bupto_length _ _

/-- what a round that goes on keeps: all that lies below n₀, and the slice's own cell -/
def Kb (n₀ Bs : Nat) (A B : World) : Prop := Below n₀ A B ∧ ∀ v, A.cell? ⟨Bs, 0, none⟩ = some v → B.cell? ⟨Bs, 0, none⟩ = some v
theorem Kb.refl (n₀ Bs : Nat) (A : World) : Kb n₀ Bs A A := ⟨Below.refl _ _, fun _ h => h⟩
theorem Kb.trans {n₀ Bs : Nat} {A B C : World} (h : Kb n₀ Bs A B) (g : Kb n₀ Bs B C) : Kb n₀ Bs A C := ⟨h.1.trans g.1, fun v hv => g.2 v (h.2 v hv)⟩

set_option maxRecDepth 100000 in
set_option maxHeartbeats 2000000 in
theorem back1_in (F : Fence) (n : Nat) (hf : F.fn 157) (hro : F.round = none) (hn : 1 ≤ n) (l Bs n₀ cap : Nat) (ad : Addr) (zs : List Int) (hreach : zs.length * 8 ≤ 140737488351232) (hb : ad.block < n₀) (J Jx : List (Fin zs.length) → World → Prop)
    (hY : ∀ pre x W, J pre W → pre.length < zs.length → YieldAt F (n - 1) Try.prog l #[.int .i64 (x.val : Int), .int .i64 (zs[x.val]?.getD 0)] W fun e W' =>
      (e = .returned (.bool true) ∧ J (pre ++ [x]) W' ∧ Kb n₀ Bs W W') ∨ (e = .returned (.bool false) ∧ Jx (pre ++ [x]) W'))
    (W : World) (hBs : W.cell? ⟨Bs, 0, none⟩ = some (.slice (some ad) zs.length cap)) (hc : ∀ j, j < zs.length → W.cell? (ad.add j) = some (.int .i64 (zs[j]?.getD 0))) (h0 : J [] W) :
    CallsIn F n Try.prog 157 #[.func (.yield l) #[] #[], .pointer (some ⟨Bs, 0, none⟩)] W fun e W' => (∃ v, e = .returned v) ∧
      ((∃ ys : List (Fin zs.length), ys.map Fin.val = downs zs.length zs.length ∧ J ys W') ∨ (∃ pre, True ∧ Jx pre W')) := by
  refine callsIn_of_wp Try.func157 rfl hf ?_ hro
  simp only [Try.ntmps157, List.size_toArray, List.length_cons, List.length_nil, Nat.reduceAdd, Nat.reduceSub, Array.replicate_succ, Array.replicate_zero, List.push_toArray, List.append_toArray, List.nil_append, List.cons_append]
  gi_wp2
  gi_loopw [3] (fun i wr => ∃ (k : Nat) (pre : List (Fin zs.length)), k ≤ zs.length ∧ i = .int .i64 ((zs.length : Int) - 1 - k) ∧ pre.map Fin.val = downs zs.length k ∧ J pre wr ∧ Kb n₀ Bs W wr)
    (fun i _ => (intOf i + 1).toNat)
  case atStart => exact ⟨0, [], Nat.zero_le _, by simp, rfl, h0, Kb.refl _ _ _⟩
  case round =>
    obtain ⟨k, pre, hk, rfl, hpre, hJs, hnx⟩ := hrel
    have hcx : ∀ j, j < zs.length → wr.cell? (ad.add j) = some (.int .i64 (zs[j]?.getD 0)) := fun j h => (hnx.1.cell (p := ad.add j) (by rw [block_of_add]; exact hb)).trans (hc j h)
    have hBx := hnx.2 _ hBs
    by_cases hlt : k < zs.length
    · obtain ⟨fn, tmps, assign, body, hy, hR⟩ := hY pre ⟨zs.length - 1 - k, by omega⟩ wr hJs (by have := congrArg List.length hpre; rw [List.length_map, downs_length] at this; omega)
      dsimp only at hy
      have hcx' := hcx (zs.length - 1 - k) (by omega)
      have hix : ((zs.length - 1 - k : Nat) : Int) = (zs.length : Int) - 1 - k := by omega
      rw [hix] at hy
      have hix' : ((zs.length : Int) - 1 - k).toNat = zs.length - 1 - k := by omega
      gi_wp2
      refine hR.mono ?_
      rintro e W3 (⟨rfl, hJ3, hk3⟩ | ⟨rfl, hJx3⟩)
      · gi_wp2
        go_roundw
        case rel => exact ⟨k + 1, _, by omega, by simp; omega, by rw [List.map_append, hpre, downs_succ]; rfl, hJ3, hnx.trans hk3⟩
        case measure => simp [intOf]; omega
      · gi_wp2
        refine bodyPost_ret (results_none rfl _ _ _) rfl ?_
        exact ⟨⟨_, rfl⟩, .inr ⟨_, trivial, hJx3⟩⟩
    · obtain rfl : k = zs.length := by omega
      gi_wp2
      go_end0
      exact ⟨⟨_, rfl⟩, .inl ⟨_, hpre, hJs⟩⟩

set_option maxRecDepth 100000 in
set_option maxHeartbeats 1000000 in
/-- .. at an empty slice: no round. -/
theorem back1_nil_in (F : Fence) (n : Nat) (hf : F.fn 157) (hro : F.round = none) (l Bs cap : Nat) (a : Option Addr) (J : World → Prop) (W : World) (hBs : W.cell? ⟨Bs, 0, none⟩ = some (.slice a 0 cap)) (h0 : J W) :
    CallsIn F n Try.prog 157 #[.func (.yield l) #[] #[], .pointer (some ⟨Bs, 0, none⟩)] W fun e W' => (∃ v, e = .returned v) ∧ J W' := by
  refine callsIn_of_wp Try.func157 rfl hf ?_ hro
  simp only [Try.ntmps157, List.size_toArray, List.length_cons, List.length_nil, Nat.reduceAdd, Nat.reduceSub, Array.replicate_succ, Array.replicate_zero, List.push_toArray, List.append_toArray, List.nil_append, List.cons_append]
  gi_wp2
  gi_loopw [3] (fun i wr => i = .int .i64 (-1) ∧ J wr) (fun _ _ => 0)
  case atStart => exact ⟨by simp, h0⟩
  case round =>
    obtain ⟨rfl, hJs⟩ := hrel
    gi_wp2
    go_end0
    exact ⟨⟨_, rfl⟩, hJs⟩

set_option maxHeartbeats 1000000 in
/-- **slices.Backward(s)**: the slice value is boxed; the function value captures the box. -/
theorem back_in (F : Fence) (n : Nat) (hf : F.fn 98) (hro : F.round = none) (a : Option Addr) (len cap : Nat) (w : World) :
    CallsIn F n Try.prog 98 #[.slice a len cap] w fun e w' => e = .returned (.func (.func 157) #[] #[.pointer (some ⟨w.heap.size, 0, none⟩)]) ∧ w' = w.alloc (.cells #[.slice a len cap] 22) := by
  refine callsIn_of_wp Try.func98 rfl hf ?_ hro
  simp only [Try.ntmps98, List.size_toArray, List.length_cons, List.length_nil, Nat.reduceAdd, Nat.reduceSub, Array.replicate_succ, Array.replicate_zero, List.push_toArray, List.append_toArray, List.nil_append, List.cons_append]
  gi_wp2
  go_ret
  exact ⟨rfl, rfl⟩

/-- **slices.Backward(s) HANDS BACK A VALUE THAT 'SeqStopsK'**: the pairs from the last place on: all; or the first k of them. -/
theorem back_stops (F : Fence) (n : Nat) (hf : F.fn 157) (hro : F.round = none) (hn : 1 ≤ n) (Bs n₀ : Nat) (sv : Value) (zs : List Int) (hreach : zs.length * 8 ≤ 140737488351232) (w0 w : World) (hBs : Bs < w.heap.size) (hn₀ : n₀ ≤ w.heap.size)
    (hI : RI w0 sv zs) (hw0 : Below n₀ w0 w) (h0n : w0.heap.size ≤ n₀) (hc : w.cell? ⟨Bs, 0, none⟩ = some sv) :
    SeqStopsK F n Try.prog 157 #[.pointer (some ⟨Bs, 0, none⟩)] (fun x : Fin zs.length => #[Value.int .i64 (x.val : Int), Value.int .i64 (zs[x.val]?.getD 0)]) (Kb n₀ Bs) (fun ys => ys.map Fin.val = downs zs.length zs.length)
      (fun _ => True) zs.length w := fun l J Jx W hW _ _ hY h0 => by
  have hc' := (hW.cell (p := ⟨Bs, 0, none⟩) hBs).trans hc
  obtain ⟨a, c, rfl, h1, h2, h3⟩ := hI
  have el : (ints zs).length = zs.length := by simp [ints]
  rw [el] at h1 h3 hc'
  by_cases hz : 0 < zs.length
  · obtain ⟨ad, rfl, hcs⟩ := h3 hz
    have hcell : ∀ j, j < zs.length → w0.cell? (ad.add j) = some (.int .i64 (zs[j]?.getD 0)) := fun j hj => hcs j _ (by simp [ints, hj])
    have hlt : ad.block < w0.heap.size := by
      have := World.block_lt_of_cell? _ _ (hcell 0 hz)
      rwa [block_of_add] at this
    have hadd : ∀ j, (ad.add j).block < n₀ := fun j => by rw [block_of_add]; omega
    exact back1_in F n hf hro hn l Bs n₀ c ad zs hreach (by omega) J Jx hY W hc' (fun j hj => ((hW.mono hn₀).cell (hadd j)).trans ((hw0.cell (hadd j)).trans (hcell j hj))) h0
  · obtain rfl : zs = [] := List.length_eq_zero_iff.1 (by omega)
    exact (back1_nil_in F n hf hro l Bs c a (J []) W hc' h0).mono fun e W' ⟨he, hj⟩ => ⟨he, 
      .inl ⟨[], rfl, hj⟩⟩

/-- 'make([]T, n)' in a fenced walk: n zero elements are owned. -/
theorem wpListIn_make_full {F : Fence} {fu : Nat} {P : Program} (w : World) {ops : Array Oper} {rest : List Oper} {o : Oper} {a : Act} {Q : Exit → Act → World → Prop}
    (hg : o.guard = none) (l c : Operand) (t : TypeId) (hop : o.op = Op.makeSlice t l c)
    (base : Nat) (e : TypeId) (i : TypeInfo) (z : Value) (size : Nat) (h1 : P.underlying t = some (.slice e)) (h2 : P.info? e = some i) (h3 : i.zero = some z) (h4 : i.size = size)
    (kl kc : IntKind) (L C : Int) (n : Nat) (hl : a.eval l = .int kl L) (hc : a.eval c = .int kc C) (hL : L = (n : Int)) (hC : C = (n : Int)) (b2 : i.bytes * n ≤ 281474976710656) (b3 : n ≤ maxLen) (b4 : base ≤ w.heap.size)
    (hK : ∀ w', w'.ownsRow base e size (.slice (some ⟨w.heap.size, 0, none⟩) n n) n (madeCells z.cells (n * size)).toList → w.grownBy w' none → wpListIn F fu P ops Q rest (a.put o.dst (.slice (some ⟨w.heap.size, 0, none⟩) n n)) w') :
    wpListIn F fu P ops Q (o :: rest) a w := by
  refine wpListIn_plain hg fun K hK' => ?_
  obtain ⟨w', hrun, r1, r2⟩ := run_make_full (P := P) w base t e i z size h1 h2 h3 h4 kl kc n b2 b3 b4
  subst hL
  subst hC
  unfold Oper.wpIn
  refine ⟨?_, ?_⟩
  · simp [Oper.about, hop]
  · rw [Oper.semAt_plain F _ _ (by rw [hop]; intro c hc'; cases hc')]
    simp [execOp, hop, hl, hc, hrun, Result.andThen]
    exact hK' _ _ (hK w' r1 r2)
end Go.Proofs
