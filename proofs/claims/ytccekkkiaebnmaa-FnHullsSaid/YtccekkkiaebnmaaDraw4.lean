/- Draws of numbers and lists: their contracts. No condition. -/
import Derived.Test.YtccekkkiaebnmaaDraw3
set_option linter.unusedVariables false
namespace Go.Sx
theorem Own.dr {w w' : World} {b : Nat} {B : Nat} {e : TypeId} {u : Value} {xs : List Value} (h : Own B w e u xs) (p : Pres (fun k => k ≠ b) w w') (hb : b < B) : Own B w' e u xs :=
  h.keep fun k hk => p.block k (h.lt hk).2 (by have := (h.lt hk).1; omega)
end Go.Sx
namespace Go.Proofs
open Go.Sx Go.RowKit
/-- a source in use: since w0 only its block has turned -/
def Dr (wb : World) (b : Nat) (v : Value) (zs : List Int) (w0 w : World) : Prop := Src wb b v zs w ∧ Pres (fun k => k ≠ b) w0 w ∧ b < w0.heap.size
section
variable {wb w0 w w' : World} {b : Nat} {v : Value} {zs : List Int}
theorem Src.dr (h : Src wb b v zs w) : Dr wb b v zs w w := ⟨h, .refl _ w, h.lt⟩
theorem Dr.ext (h : Dr wb b v zs w0 w) (e : Ext w w') : Dr wb b v zs w0 w' := ⟨h.1.ext e, h.2.1.trans (e.pres _), h.2.2⟩
theorem Dr.base (h : Dr wb b v zs w0 w) : Ext wb w := h.1.1
theorem Dr.size (h : Dr wb b v zs w0 w) : w0.heap.size ≤ w.heap.size := h.2.1.size
theorem Dr.low (h : Dr wb b v zs w0 w) {B : Nat} (p : Pres (fun k => k < B) w w') (hB : w0.heap.size ≤ B) : Dr wb b v zs w0 w' := by
  obtain ⟨⟨h1, h2, h3, a, s, hc, r⟩, hp, hb⟩ := h
  exact ⟨⟨p.ext h1 fun k hk => by omega, h2, h3, a, s, (p.block _ (heap_lt hc) (by omega)).trans hc, r⟩,
    ⟨p.os.trans hp.os, p.tape.trans hp.tape, p.output.trans hp.output, Nat.le_trans hp.size p.size, fun k hk hne => (p.block k (Nat.lt_of_lt_of_le hk hp.size) (by omega)).trans (hp.block k hk hne)⟩, hb⟩
theorem Dr.grown (h : Dr wb b v zs w0 w) {B : Nat} {e : TypeId} {u : Value} {xs : List Value} (ho : Own B w e u xs) (hB : w0.heap.size ≤ B) (g : w.grownBy w' u.ownBlock) : Dr wb b v zs w0 w' :=
  h.low (grown_pres g fun k hk hlt => by have := (ho.lt hk).1; omega) hB
theorem Dr.bxs (h : Dr wb b v zs w0 w) {T : TypeId} (x : BxS w0.heap.size T w w') : Dr wb b v zs w0 w' :=
  h.low ⟨x.os, x.tape, x.output, by rw [x.size]; exact Nat.le_refl _, fun k hk hlt => x.low k hlt⟩ (Nat.le_refl _)
/-- what a draw of a number gives -/
def DrI (wb : World) (b : Nat) (v : Value) (zs : List Int) (f : FuncId) (args : Array Value) (w : World) (φ : Int → Prop) : Prop :=
  Ret Try.prog f args w fun r w' => ∃ x : Int, r = .int .i64 x ∧ φ x ∧ Src wb b v zs w' ∧ Pres (fun k => k ≠ b) w w'
theorem Dr.step (h : Dr wb b v zs w0 w) (s : Src wb b v zs w') (p : Pres (fun k => k ≠ b) w w') : Dr wb b v zs w0 w' := ⟨s, h.2.1.trans p, h.2.2⟩
theorem Dr.int (h : Dr wb b v zs w0 w) {f : FuncId} {args : Array Value} {φ : Int → Prop} (hr : DrI wb b v zs f args w φ) {n0 : Nat} {Ts : List TypeId} (hT : 118 ∉ Ts) {G : Ending → World → Int → Prop}
    (hg : ∀ (x : Int) (w' : World), φ x → Dr wb b v zs w0 w' → Pres (fun k => k ≠ b) w w' → G (.returned (.int .i64 x)) w' x) : Calls Try.prog f args w fun e w' => ∃ x : Int, e = .returned (.int .i64 x) ∧ Keeps n0 Ts w w' ∧ G e w' x :=
  hr.call (by
    rintro _ w' ⟨x, rfl, hx, s, p⟩
    exact ⟨x, rfl, h.1.keeps p hT, hg x w' hx (h.step s p) p⟩)
/-- 'l01Next(s, n)' -/
theorem Dr.next (h : Dr wb b v zs w0 w) (n : Int) {n0 : Nat} {Ts : List TypeId} (hT : 118 ∉ Ts) {G : Int → World → Prop}
    (hg : ∀ (x : Int) (w' : World), 0 ≤ x → (x = 0 ∨ x < n) → Dr wb b v zs w0 w' → Pres (fun k => k ≠ b) w w' → G x w') : Calls Try.prog 74 #[.pointer (some ⟨b, 0, none⟩), .int .i64 n] w fun e w' => ∃ x : Int, e = .returned (.int .i64 x) ∧ Keeps n0 Ts w w' ∧ G x w' :=
  (spec_l01Next_ret wb b v zs n w h.1).call (by
    rintro _ w' ⟨x, rfl, x0, x1, s, p⟩
    exact ⟨x, rfl, h.1.keeps p hT, hg x w' x0 x1 (h.step s p) p⟩)
/-- 'l01Pick(s, ..)' -/
theorem Dr.pick (h : Dr wb b v zs w0 w) {B : Nat} {u : Value} (xs : List Int) (hu : Own B w 2 u (ints xs)) (hb : w0.heap.size ≤ B) (hx : 0 < xs.length) {n0 : Nat} {Ts : List TypeId} (hT : 118 ∉ Ts) {G : Int → World → Prop}
    (hg : ∀ (x : Int) (w' : World), x ∈ xs → Dr wb b v zs w0 w' → Pres (fun k => k ≠ b) w w' → G x w') : Calls Try.prog 118 #[.pointer (some ⟨b, 0, none⟩), u] w fun e w' => ∃ x : Int, e = .returned (.int .i64 x) ∧ Keeps n0 Ts w w' ∧ G x w' :=
  (spec_l01Pick_ret wb b v zs u xs w h.1 (fun w' p => (hu.dr p (by have := h.2.2; omega)).rd) hx).call (by
    rintro _ w' ⟨x, hm, rfl, s, p⟩
    exact ⟨x, rfl, h.1.keeps p hT, hg x w' hm (h.step s p) p⟩)
/-- 'append(out, n)' -/
theorem Dr.push (h : Dr wb b v zs w0 w) {B C : Nat} {u r : Value} {xs : List Int} {n : Int} (ho : Own B w 2 u (ints xs)) (hr : Own C w 2 r [.int .i64 n]) (hB : w0.heap.size ≤ B) (hBw : B ≤ w.heap.size) (hl : xs.length < 4398046511104) {K : Value → World → Prop}
    (hK : ∀ u' w', Dr wb b v zs w0 w' → Own B w' 2 u' (ints (xs ++ [n])) → w.heap.size ≤ w'.heap.size → K u' w') : AppV w 2 u r K :=
  ho.app1 hr rfl (by simpa using hl) hBw fun u' w' o g _ => hK u' w' (h.grown ho hB g) (by rw [ints_append]; exact o) g.size
end
theorem mem6 {a b c d e f x : Int} (h : x ∈ [a, b, c, d, e, f]) : x = a ∨ x = b ∨ x = c ∨ x = d ∨ x = e ∨ x = f := by simpa using h
theorem mem3 {a b c x : Int} (h : x ∈ [a, b, c]) : x = a ∨ x = b ∨ x = c := by simpa using h
theorem mem5 {a b c d e x : Int} (h : x ∈ [a, b, c, d, e]) : x = a ∨ x = b ∨ x = c ∨ x = d ∨ x = e := by simpa using h
/-- the source is made: what follows draws from it -/
theorem from_call {cv : Value} {zs : List Int} {w : World} (h : RB w cv zs) {n0 : Nat} {Ts : List TypeId} (hn : n0 ≤ n0) {G : Addr → World → Prop} (hg : ∀ b w', Ext w w' → Dr w b cv zs w' w' → G ⟨b, 0, none⟩ w') :
    Calls Try.prog 70 #[cv] w fun e w' => ∃ p : Addr, e = .returned (.pointer (some p)) ∧ Keeps n0 Ts w w' ∧ G p w' :=
  (spec_l01From_ret cv zs w h).call (by
    rintro _ w' ⟨b, rfl, s⟩
    exact ⟨_, rfl, s.1.keeps, hg b w' s.1 s.dr⟩)
end Go.Proofs
