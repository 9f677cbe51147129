/- Contracts: the program's key with a rank; the keys with a text. No condition. -/
import Derived.Test.YteolgidmaklbkaaL02e
set_option linter.unusedVariables false
namespace Go.Proofs
open Go.Sx Go.RowKit
theorem vis_congr {α : Type} {go go' : List α → α → Bool} : ∀ {l done : List α} (n : Nat), (∀ d k, d.length < n → go d k = go' d k) → done.length + l.length ≤ n → vis go done l = vis go' done l
  | [], _, _, _, _ => rfl
  | k :: l, done, n, h, hn => by
    simp only [List.length_cons] at hn
    simp only [vis]
    rw [h done k (by omega), vis_congr (l := l) (done := done ++ [k]) n h (by simp; omega)]
/-- what is left of a rank, in int64 -/
def rk (r : Int) (n : Nat) : Int := IntKind.wrap .i64 (r - n)
theorem rk_succ (r : Int) (n : Nat) : IntKind.wrap .i64 (rk r n - 1) = rk r (n + 1) := by
  unfold rk
  rw [IntKind.wrap_i64, IntKind.wrap_i64, IntKind.wrap_i64]
  omega
theorem rk_zero {r : Int} (h : I64 r) {n : Nat} (hn : n ≤ 1000000) : rk r n = 0 ↔ r = n := by
  unfold rk
  rw [IntKind.wrap_i64]
  unfold I64 at h
  omega
theorem rk_pos {r : Int} (h : I64 r) (h0 : 0 ≤ r) {n : Nat} (hn : n ≤ 1000000) : rk r n = r - n := by
  unfold rk
  rw [IntKind.wrap_i64]
  unfold I64 at h
  omega
def keyAtJ (B b0 b1 : Nat) (r : Int) : (Nat → Prop) → List (List Int) → World → Prop := fun K done w =>
  ¬ K b0 ∧ ¬ K b1 ∧ w.heap[b0]? = some (.cells #[.int .i64 (rk r done.length)] 2 (0, 0)) ∧ ∃ v, w.heap[b1]? = some (.cells #[v] 22 (0, 0)) ∧
    (∀ g, v.ownBlock = some g → ¬ K g) ∧ Own B w 2 v (ints ((if 0 ≤ r then done[r.toNat]? else none).getD [])) ∧ ((if 0 ≤ r then done[r.toNat]? else none) = none → v = .slice none 0 0) ∧ v.ownBlock ≠ some b0
/-! ### the key with a text -/
/-- byte i of a text -/
def byteAt (t : ByteArray) (i : Nat) : Int := ((t[i]?.getD 0).toNat : Int)
theorem byteAt_get {t : ByteArray} {i : Nat} (h : i < t.size) : ∃ c : UInt8, t[i]? = some c ∧ (c.toNat : Int) = byteAt t i :=
  ⟨t[i], getElem?_pos t i h, by unfold byteAt; rw [getElem?_pos t i h]; rfl⟩
theorem byteAt_range (t : ByteArray) (i : Nat) : 0 ≤ byteAt t i ∧ byteAt t i < 256 := by
  unfold byteAt
  have := (t[i]?.getD 0).toNat_lt
  omega
/-- the first n bytes as digits -/
def digs (t : ByteArray) (n : Nat) : List Int := (List.range n).map fun i => byteAt t i - 48
@[simp] theorem digs_length (t : ByteArray) (n : Nat) : (digs t n).length = n := by simp [digs]
theorem digs_succ (t : ByteArray) (n : Nat) : digs t (n + 1) = digs t n ++ [byteAt t n - 48] := by simp [digs, List.range_succ]
theorem digs_mem {t : ByteArray} {n i : Nat} (h : i < n) : byteAt t i - 48 ∈ digs t n := List.mem_map.2 ⟨i, List.mem_range.2 h, rfl⟩
def readKey (M : Mk) (t : ByteArray) : List Int := if MkOk M.c M.d M.s M.m M.l then (if IsK M (digs t t.size) then digs t t.size else []) else []
def readKeyCode (M : Mk) (t : ByteArray) : Int := if MkOk M.c M.d M.s M.m M.l then (if IsK M (digs t t.size) then 0 else 6) else 1
theorem readKey_len (M : Mk) (t : ByteArray) : (readKey M t).length ≤ 1000 := by
  unfold readKey
  split
  · rename_i hm
    split
    · rename_i hk
      have := hk.1
      have := hm.1
      omega
    · simp
  · simp
theorem wf_i64 {n : Int} (h : (Lit.int .i64 n).wf = true) : I64 n := bounds_i64 h
end Go.Proofs
