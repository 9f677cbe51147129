/- Draws of numbers and lists: their contracts. No condition. -/
import Derived.Test.YtjcggcefmpaieaaDoorDraw3
set_option linter.unusedVariables false
namespace Go.Sx
theorem Own.dr {w w' : World} {b : Nat} {B : Nat} {e : TypeId} {u : Value} {xs : List Value} (h : Own B w e u xs) (p : Pres (fun k => k ≠ b) w w') (hb : b < B) : Own B w' e u xs :=
  h.keep fun k hk => p.block k (h.lt hk).2 (by have := (h.lt hk).1; omega)
end Go.Sx
namespace Go.Proofs
open Go.Sx Go.RowKit
/-- a source in use: since w0 only its block has turned -/
def Dr (wb : World) (b : Nat) (v : Value) (zs : List Int) (w0 w : World) : Prop := Src wb b v zs w ∧ Pres (fun k => k ≠ b) w0 w ∧ b < w0.heap.size
section
variable {wb w0 w w' : World} {b : Nat} {v : Value} {zs : List Int}
theorem Src.dr (h : Src wb b v zs w) : Dr wb b v zs w w := ⟨h, .refl _ w, h.lt⟩
theorem Dr.ext (h : Dr wb b v zs w0 w) (e : Ext w w') : Dr wb b v zs w0 w' := ⟨h.1.ext e, h.2.1.trans (e.pres _), h.2.2⟩
theorem Dr.base (h : Dr wb b v zs w0 w) : Ext wb w := h.1.1
theorem Dr.size (h : Dr wb b v zs w0 w) : w0.heap.size ≤ w.heap.size := h.2.1.size
theorem Dr.low (h : Dr wb b v zs w0 w) {B : Nat} (p : Pres (fun k => k < B) w w') (hB : w0.heap.size ≤ B) : Dr wb b v zs w0 w' := by
  obtain ⟨⟨h1, h2, h3, a, s, hc, r⟩, hp, hb⟩ := h
  exact ⟨⟨p.ext h1 fun k hk => by omega, h2, h3, a, s, (p.block _ (heap_lt hc) (by omega)).trans hc, r⟩,
    ⟨p.os.trans hp.os, p.tape.trans hp.tape, p.output.trans hp.output, Nat.le_trans hp.size p.size, fun k hk hne => (p.block k (Nat.lt_of_lt_of_le hk hp.size) (by omega)).trans (hp.block k hk hne)⟩, hb⟩
theorem Dr.grown (h : Dr wb b v zs w0 w) {B : Nat} {e : TypeId} {u : Value} {xs : List Value} (ho : Own B w e u xs) (hB : w0.heap.size ≤ B) (g : w.grownBy w' u.ownBlock) : Dr wb b v zs w0 w' :=
  h.low (grown_pres g fun k hk hlt => by have := (ho.lt hk).1; omega) hB
theorem Dr.bxs (h : Dr wb b v zs w0 w) {T : TypeId} (x : BxS w0.heap.size T w w') : Dr wb b v zs w0 w' :=
  h.low ⟨x.os, x.tape, x.output, by rw [x.size]; exact Nat.le_refl _, fun k hk hlt => x.low k hlt⟩ (Nat.le_refl _)
/-- what a draw of a number gives -/
def DrI (wb : World) (b : Nat) (v : Value) (zs : List Int) (f : FuncId) (args : Array Value) (w : World) (φ : Int → Prop) : Prop :=
  Ret Tryd.prog f args w fun r w' => ∃ x : Int, r = .int .i64 x ∧ φ x ∧ Src wb b v zs w' ∧ Pres (fun k => k ≠ b) w w'
theorem Dr.step (h : Dr wb b v zs w0 w) (s : Src wb b v zs w') (p : Pres (fun k => k ≠ b) w w') : Dr wb b v zs w0 w' := ⟨s, h.2.1.trans p, h.2.2⟩
theorem Dr.int (h : Dr wb b v zs w0 w) {f : FuncId} {args : Array Value} {φ : Int → Prop} (hr : DrI wb b v zs f args w φ) {n0 : Nat} {Ts : List TypeId} (hT : 93 ∉ Ts) {G : Ending → World → Int → Prop}
    (hg : ∀ (x : Int) (w' : World), φ x → Dr wb b v zs w0 w' → Pres (fun k => k ≠ b) w w' → G (.returned (.int .i64 x)) w' x) : Calls Tryd.prog f args w fun e w' => ∃ x : Int, e = .returned (.int .i64 x) ∧ Keeps n0 Ts w w' ∧ G e w' x :=
  hr.call (by
    rintro _ w' ⟨x, rfl, hx, s, p⟩
    exact ⟨x, rfl, h.1.keeps p hT, hg x w' hx (h.step s p) p⟩)
/-- 'l01Next(s, n)' -/
theorem Dr.next (h : Dr wb b v zs w0 w) (n : Int) {n0 : Nat} {Ts : List TypeId} (hT : 93 ∉ Ts) {G : Int → World → Prop}
    (hg : ∀ (x : Int) (w' : World), 0 ≤ x → (x = 0 ∨ x < n) → Dr wb b v zs w0 w' → Pres (fun k => k ≠ b) w w' → G x w') : Calls Tryd.prog 44 #[.pointer (some ⟨b, 0, none⟩), .int .i64 n] w fun e w' => ∃ x : Int, e = .returned (.int .i64 x) ∧ Keeps n0 Ts w w' ∧ G x w' :=
  (spec_l01Next_ret wb b v zs n w h.1).call (by
    rintro _ w' ⟨x, rfl, x0, x1, s, p⟩
    exact ⟨x, rfl, h.1.keeps p hT, hg x w' x0 x1 (h.step s p) p⟩)
/-- 'l01Pick(s, ..)' -/
theorem Dr.pick (h : Dr wb b v zs w0 w) {B : Nat} {u : Value} (xs : List Int) (hu : Own B w 2 u (ints xs)) (hb : w0.heap.size ≤ B) (hx : 0 < xs.length) {n0 : Nat} {Ts : List TypeId} (hT : 93 ∉ Ts) {G : Int → World → Prop}
    (hg : ∀ (x : Int) (w' : World), x ∈ xs → Dr wb b v zs w0 w' → Pres (fun k => k ≠ b) w w' → G x w') : Calls Tryd.prog 98 #[.pointer (some ⟨b, 0, none⟩), u] w fun e w' => ∃ x : Int, e = .returned (.int .i64 x) ∧ Keeps n0 Ts w w' ∧ G x w' :=
  (spec_l01Pick_ret wb b v zs u xs w h.1 (fun w' p => (hu.dr p (by have := h.2.2; omega)).rd) hx).call (by
    rintro _ w' ⟨x, hm, rfl, s, p⟩
    exact ⟨x, rfl, h.1.keeps p hT, hg x w' hm (h.step s p) p⟩)
/-- 'append(out, n)' -/
theorem Dr.push (h : Dr wb b v zs w0 w) {B C : Nat} {u r : Value} {xs : List Int} {n : Int} (ho : Own B w 2 u (ints xs)) (hr : Own C w 2 r [.int .i64 n]) (hB : w0.heap.size ≤ B) (hBw : B ≤ w.heap.size) (hl : xs.length < 4398046511104) {K : Value → World → Prop}
    (hK : ∀ u' w', Dr wb b v zs w0 w' → Own B w' 2 u' (ints (xs ++ [n])) → w.heap.size ≤ w'.heap.size → K u' w') : AppV w 2 u r K :=
  ho.app1 hr rfl (by simpa using hl) hBw fun u' w' o g _ => hK u' w' (h.grown ho hB g) (by rw [ints_append]; exact o) g.size
end
theorem mem6 {a b c d e f x : Int} (h : x ∈ [a, b, c, d, e, f]) : x = a ∨ x = b ∨ x = c ∨ x = d ∨ x = e ∨ x = f := by simpa using h
theorem mem3 {a b c x : Int} (h : x ∈ [a, b, c]) : x = a ∨ x = b ∨ x = c := by simpa using h
theorem mem5 {a b c d e x : Int} (h : x ∈ [a, b, c, d, e]) : x = a ∨ x = b ∨ x = c ∨ x = d ∨ x = e := by simpa using h
abbrev spec_l01DrawNumber_k0 (w : World) (Post : Value → World → Prop) (x9 : Addr) (w13 : World) : Prop :=
  Calls Tryd.prog 44 #[(Value.pointer (some x9)), (Value.int .i64 10)] w13 (fun e14 w15 => ∃ n16 : Int, e14 = .returned (Value.int .i64 n16) ∧ Keeps w.heap.size [] w13 w15 ∧ Calls Tryd.prog 44 #[(Value.pointer (some x9)), (Value.int .i64 100)] w15 (fun e17 w18 => ∃ n19 : Int, e17 = .returned (Value.int .i64 n19) ∧ Keeps w.heap.size [] w15 w18 ∧ Calls Tryd.prog 44 #[(Value.pointer (some x9)), (Value.int .i64 5000)] w18 (fun e20 w21 => ∃ n22 : Int, e20 = .returned (Value.int .i64 n22) ∧ Keeps w.heap.size [] w18 w21 ∧ ∀ (v23 : Value) (w24 : World), Sx.Own w21.heap.size w24 2 v23 [(Value.int .i64 n16), (Value.int .i64 n19), (Value.int .i64 n22)] → Ext w21 w24 → Calls Tryd.prog 98 #[(Value.pointer (some x9)), v23] w24 (fun e25 w26 => ∃ n27 : Int, e25 = .returned (Value.int .i64 n27) ∧ Keeps w.heap.size [] w24 w26 ∧ Post (Value.int .i64 n27) w26))))
def spec_l01DrawNumber_vc (p : Addr) (w : World) (Post : Value → World → Prop) : Prop :=
  Calls Tryd.prog 44 #[(Value.pointer (some p)), (Value.int .i64 10)] w (fun e1 w2 => ∃ n3 : Int, e1 = .returned (Value.int .i64 n3) ∧ Keeps w.heap.size [] w w2 ∧ (((n3 = (0 : Int)) → ∀ (v4 : Value) (w5 : World), Sx.Own w2.heap.size w5 2 v4 [(Value.int .i64 0), (Value.int .i64 1), (Value.int .i64 1000000000000), (Value.int .i64 1000000000001), (Value.int .i64 (-1)), (Value.int .i64 1000000)] → Ext w2 w5 → Calls Tryd.prog 98 #[(Value.pointer (some p)), v4] w5 (fun e6 w7 => ∃ n8 : Int, e6 = .returned (Value.int .i64 n8) ∧ Keeps w.heap.size [] w5 w7 ∧ Post (Value.int .i64 n8) w7)) ∧ (¬ (n3 = (0 : Int)) → (spec_l01DrawNumber_k0 w Post p w2))))
theorem spec_l01DrawNumber_eq (p : Addr) (w : World) (Post : Value → World → Prop) : denF Tryd.prog [9700000, 9800000] noAnn 73 [(Value.pointer (some p))] w Post = spec_l01DrawNumber_vc p w Post := by kernel_rfl
set_option maxRecDepth 100000 in
theorem spec_l01DrawNumber_calls (p : Addr) (w : World) (Post : Value → World → Prop) (hvc : spec_l01DrawNumber_vc p w Post) : Ret Tryd.prog 73 #[(Value.pointer (some p))] w Post :=
  Ret.of (denF_sound mixed (Eq.mpr (spec_l01DrawNumber_eq p w Post) hvc))

theorem spec_l01DrawNumber_ret (wb : World) (b : Nat) (cv : Value) (zs : List Int) (w : World) (hs : Src wb b cv zs w) : DrI wb b cv zs 73 #[.pointer (some ⟨b, 0, none⟩)] w fun x => -1 ≤ x ∧ x ≤ 1000000000001 :=
  spec_l01DrawNumber_calls ⟨b, 0, none⟩ w _ (by
    unfold spec_l01DrawNumber_vc
    refine hs.dr.next 10 (by simp) fun x w1 x0 x1 d1 p1 => ⟨fun _ v w2 o2 h2 => ?_, fun _ => ?_⟩
    · refine (d1.ext h2).pick [0, 1, 1000000000000, 1000000000001, -1, 1000000] o2 d1.size (by simp) (by simp) fun y w3 hy d3 p3 => ⟨y, rfl, ?_, d3.1, d3.2.1⟩
      have := mem6 hy
      omega
    · refine d1.next 10 (by simp) fun x w2 x0 x1 d2 p2 => ?_
      refine d2.next 100 (by simp) fun y w3 y0 y1 d3 p3 => ?_
      refine d3.next 5000 (by simp) fun z w4 z0 z1 d4 p4 => fun v w5 o5 h5 => ?_
      refine (d4.ext h5).pick [x, y, z] o5 d4.size (by simp) (by simp) fun n w6 hn d6 p6 => ⟨n, rfl, ?_, d6.1, d6.2.1⟩
      have := mem3 hn
      omega)
theorem Dr.number {wb w0 w : World} {b : Nat} {v : Value} {zs : List Int} (h : Dr wb b v zs w0 w) {n0 : Nat} {Ts : List TypeId} (hT : 93 ∉ Ts) {G : Int → World → Prop}
    (hg : ∀ (x : Int) (w' : World), -1 ≤ x → x ≤ 1000000000001 → Dr wb b v zs w0 w' → Pres (fun k => k ≠ b) w w' → G x w') : Calls Tryd.prog 73 #[.pointer (some ⟨b, 0, none⟩)] w fun e w' => ∃ x : Int, e = .returned (.int .i64 x) ∧ Keeps n0 Ts w w' ∧ G x w' :=
  h.int (G := fun _ w' x => G x w') (spec_l01DrawNumber_ret wb b v zs w h.1) hT fun x w' hx d p => hg x w' hx.1 hx.2 d p
def spec_l01DrawList_A (p : Addr) (w : World) : Nat → Ann := fun κ => match κ with
  | 0 => { σ := Int × Value × List Int, sli := [4, 3], slc := fun s => [SV.v (Value.int .i64 s.1), SV.v s.2.1], bxi := [], bxc := fun s => [], inv := fun s W => True, μ := fun s W => 0, free := true }
  | 1 => { σ := Value × List Int, sli := [3], slc := fun s => [SV.v s.1], bxi := [], bxc := fun s => [], inv := fun s W => True, μ := fun s W => 0, free := true }
  | _ => { σ := Unit, sli := [], slc := fun _ => [], bxi := [], bxc := fun _ => [], inv := fun _ _ => False, μ := fun _ _ => 0 }
abbrev spec_l01DrawList_k0 (p : Addr) (w : World) (s7 : Int × Value × List Int) (w8 : World) (J9 : (Int × Value × List Int) → World → Prop) (m10 : (Int × Value × List Int) → World → Nat) (x11 : Value) (x12 : Int) (w14 : World) : Prop :=
  Calls Tryd.prog 73 #[(Value.pointer (some p))] w14 (fun e15 w16 => ∃ n17 : Int, e15 = .returned (Value.int .i64 n17) ∧ Keeps w.heap.size [] w14 w16 ∧ ∀ (v18 : Value) (w19 : World), Sx.Own w16.heap.size w19 2 v18 [(Value.int .i64 n17)] → Ext w16 w19 → AppV w19 2 x11 v18 (fun v20 w21 => I64 (x12 - 1) ∧ ∃ s22 : (Int × Value × List Int), (Value.int .i64 (x12 - 1)) = (Value.int .i64 s22.1) ∧ v20 = s22.2.1 ∧ (J9 s22 w21) ∧ (m10 s22 w21) < (m10 s7 w8)))
abbrev spec_l01DrawList_k1 (w : World) (x23 : Addr) (s35 : Value × List Int) (w36 : World) (J37 : (Value × List Int) → World → Prop) (m38 : (Value × List Int) → World → Nat) (x43 : Value) (w49 : World) : Prop :=
  Calls Tryd.prog 44 #[(Value.pointer (some x23)), (Value.int .i64 3)] w49 (fun e50 w51 => ∃ n52 : Int, e50 = .returned (Value.int .i64 n52) ∧ Keeps w.heap.size [] w49 w51 ∧ ∀ (v53 : Value) (w54 : World), Sx.Own w51.heap.size w54 2 v53 [(Value.int .i64 n52)] → Ext w51 w54 → AppV w54 2 x43 v53 (fun v55 w56 => ∃ s57 : (Value × List Int), v55 = s57.1 ∧ (J37 s57 w56) ∧ (m38 s57 w56) < (m38 s35 w36)))
abbrev spec_l01DrawList_k2 (w : World) (Post : Value → World → Prop) (x23 : Addr) (x24 : Value) (w30 : World) : Prop :=
  Calls Tryd.prog 44 #[(Value.pointer (some x23)), (Value.int .i64 40)] w30 (fun e31 w32 => ∃ n33 : Int, e31 = .returned (Value.int .i64 n33) ∧ Keeps w.heap.size [] w30 w32 ∧ (((n33 = (0 : Int)) → (∃ (J37 : (Value × List Int) → World → Prop) (m38 : (Value × List Int) → World → Nat), ((∃ s34 : (Value × List Int), x24 = s34.1 ∧ (J37 s34 w32)) ∧ ∀ (s35 : (Value × List Int)) (w36 : World), (J37 s35 w36) → LenV s35.1 (fun n39 => Calls Tryd.prog 44 #[(Value.pointer (some x23)), (Value.int .i64 2)] w36 (fun e40 w41 => ∃ n42 : Int, e40 = .returned (Value.int .i64 n42) ∧ Keeps w.heap.size [] w36 w41 ∧ I64 (100 + n42) ∧ (((n39 < (100 + n42)) → (spec_l01DrawList_k1 w x23 s35 w36 J37 m38 s35.1 w41)) ∧ (¬ (n39 < (100 + n42)) → Post s35.1 w41))))))) ∧ (¬ (n33 = (0 : Int)) → Post x24 w32)))
def spec_l01DrawList_vc (p : Addr) (w : World) (Post : Value → World → Prop) : Prop :=
  ∀ (v1 : Value) (w2 : World), Sx.Own w.heap.size w2 2 v1 [] → Ext w w2 → Calls Tryd.prog 44 #[(Value.pointer (some p)), (Value.int .i64 6)] w2 (fun e3 w4 => ∃ n5 : Int, e3 = .returned (Value.int .i64 n5) ∧ Keeps w.heap.size [] w2 w4 ∧ (∃ (J9 : (Int × Value × List Int) → World → Prop) (m10 : (Int × Value × List Int) → World → Nat), ((∃ s6 : (Int × Value × List Int), (Value.int .i64 n5) = (Value.int .i64 s6.1) ∧ v1 = s6.2.1 ∧ (J9 s6 w4)) ∧ ∀ (s7 : (Int × Value × List Int)) (w8 : World), (J9 s7 w8) → ((((0 : Int) < s7.1) → (spec_l01DrawList_k0 p w s7 w8 J9 m10 s7.2.1 s7.1 w8)) ∧ (¬ ((0 : Int) < s7.1) → (spec_l01DrawList_k2 w Post p s7.2.1 w8))))))
theorem spec_l01DrawList_eq (p : Addr) (w : World) (Post : Value → World → Prop) : denF Tryd.prog [9700000, 9800000] (spec_l01DrawList_A p w) 38 [(Value.pointer (some p))] w Post = spec_l01DrawList_vc p w Post := by kernel_rfl
set_option maxRecDepth 100000 in
theorem spec_l01DrawList_calls (p : Addr) (w : World) (Post : Value → World → Prop) (hvc : spec_l01DrawList_vc p w Post) : Ret Tryd.prog 38 #[(Value.pointer (some p))] w Post :=
  Ret.of (denF_sound mixed (Eq.mpr (spec_l01DrawList_eq p w Post) hvc))

theorem spec_l01DrawList_ret (wb : World) (b : Nat) (cv : Value) (zs : List Int) (w : World) (hs : Src wb b cv zs w) : Ret Tryd.prog 38 #[.pointer (some ⟨b, 0, none⟩)] w fun r w' => ∃ xs, Own w.heap.size w' 2 r (ints xs) ∧ xs.length ≤ 101 ∧ Src wb b cv zs w' ∧ Pres (fun k => k ≠ b) w w' :=
  spec_l01DrawList_calls ⟨b, 0, none⟩ w _ (by
    unfold spec_l01DrawList_vc
    have hb := hs.lt
    intro v w1 o1 h1
    refine (hs.dr.ext h1).next 6 (by simp) fun n w2 n0 n1 d2 p2 => ?_
    refine ⟨fun s W => 0 ≤ s.1 ∧ s.1 ≤ 5 ∧ (s.2.2.length : Int) + s.1 ≤ 5 ∧ Dr wb b cv zs w W ∧ Own w.heap.size W 2 s.2.1 (ints s.2.2), fun s _ => s.1.toNat, ⟨(n, v, []), rfl, rfl, n0, by simp only; omega, by simp only [List.length_nil]; omega, d2, o1.dr p2 hb⟩, ?_⟩
    rintro ⟨k, u, xs⟩ w3 ⟨k0, k5, hl, d3, o3⟩
    simp only at k0 k5 hl o3
    refine ⟨fun hk => ?_, fun hk => ?_⟩
    · simp only at hk
      refine d3.number (by simp) fun x w4 x0 x1 d4 p4 => fun r w5 o5 h5 => ?_
      refine (d4.ext h5).push ((o3.dr p4 hb).ext h5) o5 (Nat.le_refl _) (d4.ext h5).size (by omega) fun u' w6 d6 o6 _ => ⟨by unfold I64; simp only; omega, (k - 1, u', xs ++ [x]), rfl, rfl, ⟨by simp only; omega, by simp only; omega, by simp only [List.length_append, List.length_singleton]; omega, d6, o6⟩, by simp only; omega⟩
    · refine d3.next 40 (by simp) fun x w4 x0 x1 d4 p4 => ⟨fun _ => ?_, fun _ => ⟨xs, o3.dr p4 hb, by omega, d4.1, d4.2.1⟩⟩
      refine ⟨fun s W => (s.2.length : Int) ≤ 101 ∧ Dr wb b cv zs w W ∧ Own w.heap.size W 2 s.1 (ints s.2), fun s _ => 101 - s.2.length, ⟨(u, xs), rfl, by simp only; omega, d4, o3.dr p4 hb⟩, ?_⟩
      rintro ⟨u, ys⟩ w5 ⟨hl5, d5, o5⟩
      simp only at hl5 o5
      refine o5.rd.len ?_
      rw [ints_length]
      refine d5.next 2 (by simp) fun y w6 y0 y1 d6 p6 => ⟨by unfold I64; omega, fun hlt => ?_, fun hge => ⟨ys, o5.dr p6 hb, by omega, d6.1, d6.2.1⟩⟩
      refine d6.next 3 (by simp) fun z w7 z0 z1 d7 p7 => fun r w8 o8 h8 => ?_
      refine (d7.ext h8).push (((o5.dr p6 hb).dr p7 hb).ext h8) o8 (Nat.le_refl _) (d7.ext h8).size (by omega) fun u' w9 d9 o9 _ => ⟨(u', ys ++ [z]), rfl, ⟨by simp only [List.length_append, List.length_singleton]; omega, d9, o9⟩, by simp only [List.length_append, List.length_singleton]; omega⟩)
/-- the source is made: what follows draws from it -/
theorem from_call {cv : Value} {zs : List Int} {w : World} (h : RB w cv zs) {n0 : Nat} {Ts : List TypeId} (hn : n0 ≤ n0) {G : Addr → World → Prop} (hg : ∀ b w', Ext w w' → Dr w b cv zs w' w' → G ⟨b, 0, none⟩ w') :
    Calls Tryd.prog 39 #[cv] w fun e w' => ∃ p : Addr, e = .returned (.pointer (some p)) ∧ Keeps n0 Ts w w' ∧ G p w' :=
  (spec_l01From_ret cv zs w h).call (by
    rintro _ w' ⟨b, rfl, s⟩
    exact ⟨_, rfl, s.1.keeps, hg b w' s.1 s.dr⟩)
end Go.Proofs
