/- What a call may change: blocks that are protected; a function that is called for one key behind the other. No condition. -/
import Derived.Test.YtjcggcefmpaieaaDoorL02b
set_option linter.unusedVariables false
namespace Go.Sx
open Go Go.RowKit

/-- the protected blocks are as they were -/
structure Pres (K : Nat → Prop) (w w' : World) : Prop where
  os : w'.os = w.os
  tape : w'.tape = w.tape
  output : w'.output = w.output
  size : w.heap.size ≤ w'.heap.size
  block : ∀ b, b < w.heap.size → K b → w'.heap[b]? = w.heap[b]?
section
variable {K K' : Nat → Prop} {w w' w'' w0 : World}
theorem Pres.refl (K : Nat → Prop) (w : World) : Pres K w w := ⟨rfl, rfl, rfl, Nat.le_refl _, fun _ _ _ => rfl⟩
theorem Pres.trans (h : Pres K w w') (k : Pres K w' w'') : Pres K w w'' :=
  ⟨k.os.trans h.os, k.tape.trans h.tape, k.output.trans h.output, Nat.le_trans h.size k.size, fun b hb hK => (k.block b (Nat.lt_of_lt_of_le hb h.size) hK).trans (h.block b hb hK)⟩
theorem Pres.mono (h : Pres K w w') (hK : ∀ b, b < w.heap.size → K' b → K b) : Pres K' w w' := ⟨h.os, h.tape, h.output, h.size, fun b hb hb' => h.block b hb (hK b hb hb')⟩
theorem Ext.pres (h : Ext w w') (K : Nat → Prop) : Pres K w w' := ⟨h.os, h.tape, h.output, h.size, fun b hb _ => h.block b hb⟩
theorem Pres.ext (h : Pres K w w') (h0 : Ext w0 w) (hK : ∀ b, b < w0.heap.size → K b) : Ext w0 w' :=
  ⟨h.os.trans h0.os, h.tape.trans h0.tape, h.output.trans h0.output, Nat.le_trans h0.size h.size, fun b hb => (h.block b (Nat.lt_of_lt_of_le hb h0.size) (hK b hb)).trans (h0.block b hb)⟩
theorem keeps_nil {n0 : Nat} (h : w.heap.size ≤ w'.heap.size) : Keeps n0 [] w w' := ⟨h, fun k cs T fz hT => by simp at hT⟩
theorem Pres.keeps (h : Pres K w w') {n0 : Nat} {Ts : List TypeId} (hK : ∀ b cs T fz, n0 ≤ b → w.heap[b]? = some (.cells cs T fz) → T ∈ Ts → K b) : Keeps n0 Ts w w' :=
  ⟨h.size, fun k cs T fz hT hk hh => (h.block k (Array.getElem?_eq_some_iff.1 hh).1 (hK k cs T fz hk hh hT)).trans hh⟩
theorem grown_pres {row : Option Nat} (h : w.grownBy w' row) (hK : ∀ b, row = some b → ¬ K b) : Pres K w w' :=
  ⟨h.os, h.tape, h.output, h.size, fun b hb hKb => h.block b hb fun e => hK b e.symm hKb⟩

/-! ### cells of a block -/
theorem heap_lt {b : Nat} {o : Obj} (h : w.heap[b]? = some o) : b < w.heap.size := (Array.getElem?_eq_some_iff.1 h).1
theorem ld_at {b : Nat} {cs : Array Value} {T : TypeId} (h : w.heap[b]? = some (.cells cs T (0, 0))) (o : Nat) {u : Value} (hu : cs[o]? = some u) : LdV w (.pointer (some ((⟨b, 0, none⟩ : Addr).add o))) u := by
  refine ⟨_, rfl, ?_⟩
  rw [add_box, Nat.zero_add, cell_of_row w b o cs T (0, 0) h]
  exact hu
theorem ld_one {b : Nat} {u : Value} {T : TypeId} (h : w.heap[b]? = some (.cells #[u] T (0, 0))) : LdV w (.pointer (some ⟨b, 0, none⟩)) u :=
  ⟨_, rfl, by rw [cell_of_row w b 0 #[u] T (0, 0) h]; rfl⟩
/-- a store into a cell of a block: that cell alone turns -/
theorem st_at {b : Nat} {cs : Array Value} {T : TypeId} (h : w.heap[b]? = some (.cells cs T (0, 0))) (o : Nat) (ho : o < cs.size) {n0 : Nat} {Ts : List TypeId} {x : Value} (h1 : x.oneCell' = true) (hT : b < n0 ∨ T ∉ Ts) {R : World → Prop}
    (hR : ∀ w', w'.heap[b]? = some (.cells (cs.setIfInBounds o x) T (0, 0)) → Pres (fun k => k ≠ b) w w' → w'.heap.size = w.heap.size → R w') : StV n0 Ts w (.pointer (some ((⟨b, 0, none⟩ : Addr).add o))) x R := by
  rw [add_box, Nat.zero_add]
  refine ⟨_, cs[o], rfl, by rw [cell_of_row w b o cs T (0, 0) h]; simp [ho], by simp [World.frozen?, h], h1, ?_, hR _ ?_ ?_ ?_⟩
  · rcases hT with hT | hT
    · exact .inl hT
    · exact .inr ⟨_, _, _, h, hT⟩
  · simp [World.setCell, Array.getElem?_modify, h]
  · exact ⟨rfl, rfl, rfl, by simp [World.setCell], fun k hk hne => Below.heap_setCell _ _ _ _ hne⟩
  · simp [World.setCell]
theorem st_one {b : Nat} {u : Value} {T : TypeId} (h : w.heap[b]? = some (.cells #[u] T (0, 0))) {n0 : Nat} {Ts : List TypeId} {x : Value} (h1 : x.oneCell' = true) (hT : b < n0 ∨ T ∉ Ts) {R : World → Prop}
    (hR : ∀ w', w'.heap[b]? = some (.cells #[x] T (0, 0)) → Pres (fun k => k ≠ b) w w' → w'.heap.size = w.heap.size → R w') : StV n0 Ts w (.pointer (some ⟨b, 0, none⟩)) x R := by
  have := st_at (o := 0) h (by simp) h1 hT (R := R) fun w' h1 h2 h3 => hR w' (by simpa using h1) h2 h3
  exact this
/-- a row of the call's own, cut off -/
theorem Own.cut {B : Nat} {e : TypeId} {v : Value} {xs : List Value} (h : Own B w e v xs) {n : Int} (k : Nat) (hn : n = k) (hk : k ≤ xs.length) {R : Value → Prop} (hR : ∀ u, Own B w e u (xs.take k) → u.ownBlock = v.ownBlock → R u) : SlV 1 v none (some n) none R := by
  subst hn
  rcases h.2 with ⟨rfl, h0⟩ | ⟨g, cap, cur, rfl, hg, hh, hnn, hc, hs, ht⟩
  · have : xs = [] := List.eq_nil_of_length_eq_zero h0
    subst this
    simp at hk
    subst hk
    refine ⟨none, 0, 0, rfl, by simp, by simp, by simp, by simp, by simp, hR _ ?_ ?_⟩
    · simpa using h
    · simp [Value.ownBlock]
  · refine ⟨_, _, _, rfl, by simp, by simp, by simp; omega, by simp, by simp, ?_⟩
    have e1 : (if ((none : Option Int).getD (cap : Int)).toNat = ((none : Option Int).getD 0).toNat then some (⟨g, 0, none⟩ : Addr) else (some (⟨g, 0, none⟩ : Addr)).map (·.add (((none : Option Int).getD 0).toNat * 1))) = some ⟨g, 0, none⟩ := by
      split
      · rfl
      · simp [Addr.add]
    rw [e1]
    have hlen : (xs.take k).length = k := by rw [List.length_take]; omega
    refine hR _ ⟨by simp, .inr ⟨g, cap, cur, ?_, hg, hh, ?_, hc, hs, ?_⟩⟩ (by simp [Value.ownBlock])
    · simp [hlen]
    · rw [hlen]; omega
    · rw [hlen, Nat.mul_one]
      rw [Nat.mul_one] at ht
      have : cur.toList.take k = (cur.toList.take xs.length).take k := by rw [List.take_take, Nat.min_eq_left hk]
      rw [this, ht]
end

/-! ### a function that is called for one key behind the other -/
/-- the blocks K, and those that are new -/
def grow (K : Nat → Prop) (w w' : World) : Nat → Prop := fun b => K b ∨ (w.heap.size ≤ b ∧ b < w'.heap.size)
/-- f (with what it has captured) visits the keys of L: J says what its cells hold when some have been visited, whatever the blocks are that it leaves alone; 'go' says whether it wants more -/
structure Visitor (P : Program) (f : FuncId) (ca : List Value) (J : (Nat → Prop) → List (List Int) → World → Prop) (go : List (List Int) → List Int → Bool) (L : List (List Int)) : Prop where
  ok : okFn P f = true
  env : ∀ K done w w', J K done w → Pres (fun b => ¬ K b) w w' → J (grow K w w') done w'
  call : ∀ K done k w v, J K done w → (∀ b, K b → b < w.heap.size) → (∀ w', Pres K w w' → Go.Sx.RI w' v k) → (∃ r, L = done ++ k :: r) →
    Calls P f ([v] ++ ca).toArray w fun e w' => e = .returned (.bool (go done k)) ∧ Pres K w w' ∧ J K (done ++ [k]) w'
/-- a function value that tells which cuts are allowed: none, or one that answers 'al' in every world that S holds of -/
def AlOk (P : Program) (c d : Int) (al : Nat → Int → Bool) (S : World → Prop) (v : Value) : Prop :=
  (v = .nilFunc ∧ ∀ i x, al i x = true) ∨ ∃ f ca, v = .func (.func f) #[] ca ∧ okFn P f = true ∧ ∀ (w : World) (i : Nat) (x : Int), S w → (i : Int) < c → 0 ≤ x → x < d →
    Calls P f ([Value.int .i64 (i : Int), Value.int .i64 x] ++ ca.toList).toArray w fun e w' => e = .returned (.bool (al i x)) ∧ Ext w w'
end Go.Sx
