/- Draws of makers, cuts and keys: their contracts. No condition. -/
import Derived.Test.YtjcggcefmpaieaaDoorDraw4
import Derived.Test.YtjcggcefmpaieaaDoorDraw2
import Derived.Test.YtjcggcefmpaieaaDoorL03b
set_option linter.unusedVariables false
namespace Go.Proofs
open Go.Sx Go.RowKit
/-- a source in use in the function that made it -/
def Dq (wb : World) (b : Nat) (v : Value) (zs : List Int) (lo : Nat) (w : World) : Prop := Src wb b v zs w ∧ b < lo ∧ lo ≤ w.heap.size
section
variable {wb w w' : World} {b lo : Nat} {v : Value} {zs : List Int}
theorem Src.dq (h : Src wb b v zs w) : Dq wb b v zs w.heap.size w := ⟨h, h.lt, Nat.le_refl _⟩
theorem Dr.dq {w0 : World} (h : Dr wb b v zs w0 w) : Dq wb b v zs w0.heap.size w := ⟨h.1, h.2.2, h.size⟩
theorem Dq.ext (h : Dq wb b v zs lo w) (e : Ext w w') : Dq wb b v zs lo w' := ⟨h.1.ext e, h.2.1, Nat.le_trans h.2.2 e.size⟩
theorem Dq.base (h : Dq wb b v zs lo w) : Ext wb w := h.1.1
theorem Dq.step (h : Dq wb b v zs lo w) (s : Src wb b v zs w') (p : Pres (fun k => k ≠ b) w w') : Dq wb b v zs lo w' := ⟨s, h.2.1, Nat.le_trans h.2.2 p.size⟩
theorem Src.bxs' (h : Src wb b v zs w) {n0 : Nat} (hn : wb.heap.size ≤ n0) {T : TypeId} (x : BxS n0 T w w') (hT : 93 ≠ T) : Src wb b v zs w' := by
  obtain ⟨h1, h2, h3, a, s, hc, r⟩ := h
  refine ⟨⟨x.os.trans h1.os, x.tape.trans h1.tape, x.output.trans h1.output, by rw [x.size]; exact h1.size, fun k hk => (x.low k (by omega)).trans (h1.block k hk)⟩, h2, h3, a, s, (x.block b fun cs fz hh => ?_).trans hc, r⟩
  rw [hc] at hh
  injection hh with hh
  injection hh with _ he _
  exact hT he
/-- a box written: the base is the function's start -/
theorem Dq.bxs (h : Dq wb b v zs lo w) {n0 : Nat} (hn : wb.heap.size ≤ n0) {T : TypeId} (x : BxS n0 T w w') (hT : 93 ≠ T) : Dq wb b v zs lo w' :=
  ⟨h.1.bxs' hn x hT, h.2.1, by rw [x.size]; exact h.2.2⟩
theorem Dq.next (h : Dq wb b v zs lo w) (n : Int) {n0 : Nat} {Ts : List TypeId} (hT : 93 ∉ Ts) {G : Int → World → Prop}
    (hg : ∀ (x : Int) (w' : World), 0 ≤ x → (x = 0 ∨ x < n) → Dq wb b v zs lo w' → Pres (fun k => k ≠ b) w w' → Keeps n0 Ts w w' → G x w') : Calls Tryd.prog 44 #[.pointer (some ⟨b, 0, none⟩), .int .i64 n] w fun e w' => ∃ x : Int, e = .returned (.int .i64 x) ∧ Keeps n0 Ts w w' ∧ G x w' :=
  (spec_l01Next_ret wb b v zs n w h.1).call (by
    rintro _ w' ⟨x, rfl, x0, x1, s, p⟩
    exact ⟨x, rfl, h.1.keeps p hT, hg x w' x0 x1 (h.step s p) p (h.1.keeps p hT)⟩)
theorem Dq.pick (h : Dq wb b v zs lo w) {B : Nat} {u : Value} (xs : List Int) (hu : Own B w 2 u (ints xs)) (hb : lo ≤ B) (hx : 0 < xs.length) {n0 : Nat} {Ts : List TypeId} (hT : 93 ∉ Ts) {G : Int → World → Prop}
    (hg : ∀ (x : Int) (w' : World), x ∈ xs → Dq wb b v zs lo w' → Pres (fun k => k ≠ b) w w' → Keeps n0 Ts w w' → G x w') : Calls Tryd.prog 98 #[.pointer (some ⟨b, 0, none⟩), u] w fun e w' => ∃ x : Int, e = .returned (.int .i64 x) ∧ Keeps n0 Ts w w' ∧ G x w' :=
  (spec_l01Pick_ret wb b v zs u xs w h.1 (fun w' p => (hu.dr p (by have := h.2.1; omega)).rd) hx).call (by
    rintro _ w' ⟨x, hm, rfl, s, p⟩
    exact ⟨x, rfl, h.1.keeps p hT, hg x w' hm (h.step s p) p (h.1.keeps p hT)⟩)
/-- 'Keeps' from a world behind which only the source's block has turned -/
theorem Dq.kp (h : Dq wb b v zs lo w) (p : Pres (fun k => k ≠ b) w w') {n0 : Nat} {Ts : List TypeId} (hT : 93 ∉ Ts) : Keeps n0 Ts w w' := h.1.keeps p hT
end
/-- a drawn maker's numbers -/
def Sm (M : Mk) : Prop := (0 ≤ M.c ∧ M.c ≤ 9) ∧ (0 ≤ M.d ∧ M.d ≤ 9) ∧ (0 ≤ M.s ∧ M.s ≤ 9) ∧ (0 ≤ M.m ∧ M.m ≤ 9) ∧ (0 ≤ M.l ∧ M.l ≤ 9)
abbrev spec_l02Draw_k0 (w : World) (Post : Value → World → Prop) (x37 : Int) (x38 : Int) (x39 : Int) (x40 : Int) (x41 : Int) (w42 : World) : Prop :=
  ∀ w43 : World, BxS w.heap.size 39 w42 w43 → Post (Value.agg #[(Value.int .i64 x37), (Value.int .i64 x38), (Value.int .i64 x39), (Value.int .i64 x40), (Value.int .i64 x41)]) w43
def spec_l02Draw_vc (p : Addr) (w : World) (Post : Value → World → Prop) : Prop :=
  ∀ w1 : World, Ext w w1 → Calls Tryd.prog 97 #[(Value.pointer (some p))] w1 (fun e2 w3 => ∃ n4 : Int, ∃ n5 : Int, ∃ n6 : Int, ∃ n7 : Int, ∃ n8 : Int, e2 = .returned (Value.agg #[(Value.int .i64 n4), (Value.int .i64 n5), (Value.int .i64 n6), (Value.int .i64 n7), (Value.int .i64 n8)]) ∧ Keeps w.heap.size [39] w1 w3 ∧ ∀ w9 : World, Ext w3 w9 → ∀ w10 : World, BxS w.heap.size 39 w9 w10 → Calls Tryd.prog 44 #[(Value.pointer (some p)), (Value.int .i64 30)] w10 (fun e11 w12 => ∃ n13 : Int, e11 = .returned (Value.int .i64 n13) ∧ Keeps w.heap.size [39, 39] w10 w12 ∧ (((n13 = (0 : Int)) → ∀ (v14 : Value) (w15 : World), Sx.Own w12.heap.size w15 2 v14 [(Value.int .i64 1), (Value.int .i64 6), (Value.int .i64 7)] → Ext w12 w15 → Calls Tryd.prog 98 #[(Value.pointer (some p)), v14] w15 (fun e16 w17 => ∃ n18 : Int, e16 = .returned (Value.int .i64 n18) ∧ Keeps w.heap.size [39, 39] w15 w17 ∧ ∀ w19 : World, BxS w.heap.size 39 w17 w19 → (spec_l02Draw_k0 w Post n18 n5 n6 n7 n8 w19))) ∧ (¬ (n13 = (0 : Int)) → (((n13 = (1 : Int)) → ∀ (v44 : Value) (w45 : World), Sx.Own w12.heap.size w45 2 v44 [(Value.int .i64 1), (Value.int .i64 8), (Value.int .i64 9)] → Ext w12 w45 → Calls Tryd.prog 98 #[(Value.pointer (some p)), v44] w45 (fun e46 w47 => ∃ n48 : Int, e46 = .returned (Value.int .i64 n48) ∧ Keeps w.heap.size [39, 39] w45 w47 ∧ ∀ w49 : World, BxS w.heap.size 39 w47 w49 → (spec_l02Draw_k0 w Post n4 n48 n6 n7 n8 w49))) ∧ (¬ (n13 = (1 : Int)) → (((n13 = (2 : Int)) → I64 (n5 - 1) ∧ ∀ (v50 : Value) (w51 : World), Sx.Own w12.heap.size w51 2 v50 [(Value.int .i64 0), (Value.int .i64 (n5 - 1)), (Value.int .i64 n5)] → Ext w12 w51 → Calls Tryd.prog 98 #[(Value.pointer (some p)), v50] w51 (fun e52 w53 => ∃ n54 : Int, e52 = .returned (Value.int .i64 n54) ∧ Keeps w.heap.size [39, 39] w51 w53 ∧ ∀ w55 : World, BxS w.heap.size 39 w53 w55 → (spec_l02Draw_k0 w Post n4 n5 n54 n7 n8 w55))) ∧ (¬ (n13 = (2 : Int)) → (((n13 = (3 : Int)) → I64 (n4 + 1) ∧ ∀ (v56 : Value) (w57 : World), Sx.Own w12.heap.size w57 2 v56 [(Value.int .i64 0), (Value.int .i64 n4), (Value.int .i64 (n4 + 1))] → Ext w12 w57 → Calls Tryd.prog 98 #[(Value.pointer (some p)), v56] w57 (fun e58 w59 => ∃ n60 : Int, e58 = .returned (Value.int .i64 n60) ∧ Keeps w.heap.size [39, 39] w57 w59 ∧ ∀ w61 : World, BxS w.heap.size 39 w59 w61 → (spec_l02Draw_k0 w Post n4 n5 n6 n60 n8 w61))) ∧ (¬ (n13 = (3 : Int)) → (((n13 = (4 : Int)) → I64 ((min n4 n5) + 1) ∧ ∀ (v62 : Value) (w63 : World), Sx.Own w12.heap.size w63 2 v62 [(Value.int .i64 0), (Value.int .i64 (min n4 n5)), (Value.int .i64 ((min n4 n5) + 1))] → Ext w12 w63 → Calls Tryd.prog 98 #[(Value.pointer (some p)), v62] w63 (fun e64 w65 => ∃ n66 : Int, e64 = .returned (Value.int .i64 n66) ∧ Keeps w.heap.size [39, 39] w63 w65 ∧ ∀ w67 : World, BxS w.heap.size 39 w65 w67 → (spec_l02Draw_k0 w Post n4 n5 n6 n7 n66 w67))) ∧ (¬ (n13 = (4 : Int)) → (((n13 = (5 : Int)) → Calls Tryd.prog 44 #[(Value.pointer (some p)), (Value.int .i64 2)] w12 (fun e68 w69 => ∃ n70 : Int, e68 = .returned (Value.int .i64 n70) ∧ Keeps w.heap.size [39, 39] w12 w69 ∧ I64 (4 + n70) ∧ Calls Tryd.prog 44 #[(Value.pointer (some p)), (Value.int .i64 2)] w69 (fun e71 w72 => ∃ n73 : Int, e71 = .returned (Value.int .i64 n73) ∧ Keeps w.heap.size [39, 39] w69 w72 ∧ I64 (2 + n73) ∧ ∀ w74 : World, BxS w.heap.size 39 w72 w74 → Post (Value.agg #[(Value.int .i64 6), (Value.int .i64 (4 + n70)), (Value.int .i64 (2 + n73)), (Value.int .i64 2), (Value.int .i64 3)]) w74))) ∧ (¬ (n13 = (5 : Int)) → (spec_l02Draw_k0 w Post n4 n5 n6 n7 n8 w12)))))))))))))))
theorem spec_l02Draw_eq (p : Addr) (w : World) (Post : Value → World → Prop) : denF Tryd.prog [9400000, 9700000, 9800000] noAnn 68 [(Value.pointer (some p))] w Post = spec_l02Draw_vc p w Post := by kernel_rfl
set_option maxRecDepth 100000 in
theorem spec_l02Draw_calls (p : Addr) (w : World) (Post : Value → World → Prop) (hvc : spec_l02Draw_vc p w Post) : Ret Tryd.prog 68 #[(Value.pointer (some p))] w Post :=
  Ret.of (denF_sound mixed (Eq.mpr (spec_l02Draw_eq p w Post) hvc))

theorem spec_l02Draw_ret (wb : World) (b : Nat) (cv : Value) (zs : List Int) (w : World) (hs : Src wb b cv zs w) :
    Ret Tryd.prog 68 #[.pointer (some ⟨b, 0, none⟩)] w fun r w' => ∃ M : Mk, r = M.v ∧ Sm M ∧ Src wb b cv zs w' ∧ Pres (fun k => k ≠ b) w w' :=
  spec_l02Draw_calls ⟨b, 0, none⟩ w _ (by
    unfold spec_l02Draw_vc
    intro w1 h1
    have d1 := hs.dr.ext h1
    refine (spec_l02Valid_ret wb b cv zs w1 d1.1).call ?_
    rintro _ w2 ⟨c, d, s, m, l, rfl, hc, hd, hs', hm, hl, s2, p2⟩
    have d2 := d1.step s2 p2
    refine ⟨c, d, s, m, l, rfl, d1.1.keeps p2 (by simp), fun w3 h3 w4 b4 => ?_⟩
    have d4 := (d2.ext h3).bxs b4
    have fin : ∀ (c d s m l : Int) (W : World), Sm ⟨c, d, s, m, l⟩ → Dr wb b cv zs w W → ∀ w45, BxS w.heap.size 39 W w45 → ∃ M : Mk, mkV c d s m l = M.v ∧ Sm M ∧ Src wb b cv zs w45 ∧ Pres (fun k => k ≠ b) w w45 :=
      fun c d s m l W hS dW w45 b45 => ⟨⟨c, d, s, m, l⟩, rfl, hS, (dW.bxs b45).1, (dW.bxs b45).2.1⟩
    refine d4.next 30 (by simp) fun x w5 x0 x1 d5 p5 => ⟨fun _ v w6 o6 h6 => ?_, fun _ => ⟨fun _ v w6 o6 h6 => ?_, fun _ => ⟨fun _ => ⟨by unfold I64; omega, fun v w6 o6 h6 => ?_⟩, fun _ => ⟨fun _ => ⟨by unfold I64; omega, fun v w6 o6 h6 => ?_⟩, fun _ => ⟨fun _ => ⟨by unfold I64; omega, fun v w6 o6 h6 => ?_⟩, fun _ => ⟨fun _ => ?_, fun _ w6 b6 => ?_⟩⟩⟩⟩⟩⟩
    · refine (d5.ext h6).pick [1, 6, 7] o6 d5.size (by simp) (by simp) fun y w7 hy d7 p7 w8 b8 w9 b9 => fin _ _ _ _ _ w8 ?_ (d7.bxs b8) w9 b9
      have := mem3 hy
      exact ⟨by simp only; omega, by simp only; omega, by simp only; omega, by simp only; omega, by simp only; omega⟩
    · refine (d5.ext h6).pick [1, 8, 9] o6 d5.size (by simp) (by simp) fun y w7 hy d7 p7 w8 b8 w9 b9 => fin _ _ _ _ _ w8 ?_ (d7.bxs b8) w9 b9
      have := mem3 hy
      exact ⟨by simp only; omega, by simp only; omega, by simp only; omega, by simp only; omega, by simp only; omega⟩
    · refine (d5.ext h6).pick [0, d - 1, d] o6 d5.size (by simp) (by simp) fun y w7 hy d7 p7 w8 b8 w9 b9 => fin _ _ _ _ _ w8 ?_ (d7.bxs b8) w9 b9
      have := mem3 hy
      exact ⟨by simp only; omega, by simp only; omega, by simp only; omega, by simp only; omega, by simp only; omega⟩
    · refine (d5.ext h6).pick [0, c, c + 1] o6 d5.size (by simp) (by simp) fun y w7 hy d7 p7 w8 b8 w9 b9 => fin _ _ _ _ _ w8 ?_ (d7.bxs b8) w9 b9
      have := mem3 hy
      exact ⟨by simp only; omega, by simp only; omega, by simp only; omega, by simp only; omega, by simp only; omega⟩
    · refine (d5.ext h6).pick [0, min c d, min c d + 1] o6 d5.size (by simp) (by simp) fun y w7 hy d7 p7 w8 b8 w9 b9 => fin _ _ _ _ _ w8 ?_ (d7.bxs b8) w9 b9
      have := mem3 hy
      exact ⟨by simp only; omega, by simp only; omega, by simp only; omega, by simp only; omega, by simp only; omega⟩
    · refine d5.next 2 (by simp) fun y w6 y0 y1 d6 p6 => ⟨by unfold I64; omega, d6.next 2 (by simp) fun z w7 z0 z1 d7 p7 => ⟨by unfold I64; omega, fun w8 b8 => ⟨⟨6, 4 + y, 2 + z, 2, 3⟩, rfl, ?_, (d7.bxs b8).1, (d7.bxs b8).2.1⟩⟩⟩
      exact ⟨by simp only; omega, by simp only; omega, by simp only; omega, by simp only; omega, by simp only; omega⟩
    · exact fin c d s m l w5 ⟨by simp only; omega, by simp only; omega, by simp only; omega, by simp only; omega, by simp only; omega⟩ d5 w6 b6)
def spec_l02DrawCuts_A (p : Addr) (m_Chambers : Int) (m_Depths : Int) (m_Step : Int) (m_Same : Int) (m_Least : Int) (w : World) : Nat → Ann := fun κ => match κ with
  | 0 => { σ := Int × Int × Value × List Int, sli := [7, 6, 5], slc := fun s => [SV.v (Value.int .i64 s.1), SV.v (Value.int .i64 s.2.1), SV.v s.2.2.1], bxi := [], bxc := fun s => [], inv := fun s W => True, μ := fun s W => 0, free := true }
  | _ => { σ := Unit, sli := [], slc := fun _ => [], bxi := [], bxc := fun _ => [], inv := fun _ _ => False, μ := fun _ _ => 0 }
abbrev spec_l02DrawCuts_k0 (s8 : Int × Int × Value × List Int) (w9 : World) (J10 : (Int × Int × Value × List Int) → World → Prop) (m11 : (Int × Int × Value × List Int) → World → Nat) (x30 : Value) (x31 : Int) (x32 : Int) (w57 : World) : Prop :=
  I64 (x32 + 1) ∧ ∃ s58 : (Int × Int × Value × List Int), (Value.int .i64 (x32 + 1)) = (Value.int .i64 s58.1) ∧ (Value.int .i64 x31) = (Value.int .i64 s58.2.1) ∧ x30 = s58.2.2.1 ∧ (J10 s58 w57) ∧ (m11 s58 w57) < (m11 s8 w9)
abbrev spec_l02DrawCuts_k1 (p : Addr) (m_Depths : Int) (m_Step : Int) (w : World) (s8 : Int × Int × Value × List Int) (w9 : World) (J10 : (Int × Int × Value × List Int) → World → Prop) (m11 : (Int × Int × Value × List Int) → World → Nat) (x12 : Value) (x13 : Int) (x14 : Int) (w18 : World) : Prop :=
  ∀ (v19 : Value) (w20 : World), Sx.Own w18.heap.size w20 2 v19 [(Value.int .i64 x13)] → Ext w18 w20 → AppV w20 2 x12 v19 (fun v21 w22 => ∀ w23 : World, Ext w22 w23 → I64 (2 * (max 0 m_Step)) ∧ I64 ((2 * (max 0 m_Step)) + 1) ∧ Calls Tryd.prog 44 #[(Value.pointer (some p)), (Value.int .i64 ((2 * (max 0 m_Step)) + 1))] w23 (fun e24 w25 => ∃ n26 : Int, e24 = .returned (Value.int .i64 n26) ∧ Keeps w.heap.size [39] w23 w25 ∧ Keeps w.heap.size [39] w23 w25 ∧ Keeps w.heap.size [39] w23 w25 ∧ I64 (x13 + n26) ∧ I64 ((x13 + n26) - m_Step) ∧ Calls Tryd.prog 44 #[(Value.pointer (some p)), (Value.int .i64 24)] w25 (fun e27 w28 => ∃ n29 : Int, e27 = .returned (Value.int .i64 n29) ∧ Keeps w.heap.size [39] w25 w28 ∧ ((((0 : Int) < n29) → I64 (m_Depths - 1) ∧ (spec_l02DrawCuts_k0 s8 w9 J10 m11 v21 (max 0 (min (m_Depths - 1) ((x13 + n26) - m_Step))) x14 w28)) ∧ (¬ ((0 : Int) < n29) → (spec_l02DrawCuts_k0 s8 w9 J10 m11 v21 ((x13 + n26) - m_Step) x14 w28))))))
abbrev spec_l02DrawCuts_k2 (w : World) (Post : Value → World → Prop) (x59 : Addr) (x65 : Value) (w81 : World) : Prop :=
  Calls Tryd.prog 44 #[(Value.pointer (some x59)), (Value.int .i64 24)] w81 (fun e82 w83 => ∃ n84 : Int, e82 = .returned (Value.int .i64 n84) ∧ Keeps w.heap.size [39] w81 w83 ∧ (((n84 = (0 : Int)) → ∀ (v85 : Value) (w86 : World), Sx.Own w83.heap.size w86 2 v85 [(Value.int .i64 0)] → Ext w83 w86 → AppV w86 2 x65 v85 (fun v87 w88 => Post v87 w88)) ∧ (¬ (n84 = (0 : Int)) → Post x65 w83)))
def spec_l02DrawCuts_vc (p : Addr) (m_Chambers : Int) (m_Depths : Int) (m_Step : Int) (m_Same : Int) (m_Least : Int) (w : World) (Post : Value → World → Prop) : Prop :=
  ∀ w1 : World, Ext w w1 → ∀ (v2 : Value) (w3 : World), Sx.Own w1.heap.size w3 2 v2 [] → Ext w1 w3 → Calls Tryd.prog 44 #[(Value.pointer (some p)), (Value.int .i64 (max 1 m_Depths))] w3 (fun e4 w5 => ∃ n6 : Int, e4 = .returned (Value.int .i64 n6) ∧ Keeps w.heap.size [39] w3 w5 ∧ (∃ (J10 : (Int × Int × Value × List Int) → World → Prop) (m11 : (Int × Int × Value × List Int) → World → Nat), ((∃ s7 : (Int × Int × Value × List Int), (Value.int .i64 0) = (Value.int .i64 s7.1) ∧ (Value.int .i64 n6) = (Value.int .i64 s7.2.1) ∧ v2 = s7.2.2.1 ∧ (J10 s7 w5)) ∧ ∀ (s8 : (Int × Int × Value × List Int)) (w9 : World), (J10 s8 w9) → (((s8.1 < (min 8 m_Chambers)) → (spec_l02DrawCuts_k1 p m_Depths m_Step w s8 w9 J10 m11 s8.2.2.1 s8.2.1 s8.1 w9)) ∧ (¬ (s8.1 < (min 8 m_Chambers)) → (spec_l02DrawCuts_k2 w Post p s8.2.2.1 w9))))))
theorem spec_l02DrawCuts_eq (p : Addr) (m_Chambers : Int) (m_Depths : Int) (m_Step : Int) (m_Same : Int) (m_Least : Int) (w : World) (Post : Value → World → Prop) : denF Tryd.prog [9400000, 9700000, 9800000] (spec_l02DrawCuts_A p m_Chambers m_Depths m_Step m_Same m_Least w) 99 [(Value.pointer (some p)), (Value.agg #[(Value.int .i64 m_Chambers), (Value.int .i64 m_Depths), (Value.int .i64 m_Step), (Value.int .i64 m_Same), (Value.int .i64 m_Least)])] w Post = spec_l02DrawCuts_vc p m_Chambers m_Depths m_Step m_Same m_Least w Post := by kernel_rfl
set_option maxRecDepth 100000 in
theorem spec_l02DrawCuts_calls (p : Addr) (m_Chambers : Int) (m_Depths : Int) (m_Step : Int) (m_Same : Int) (m_Least : Int) (w : World) (Post : Value → World → Prop) (hvc : spec_l02DrawCuts_vc p m_Chambers m_Depths m_Step m_Same m_Least w Post) : Ret Tryd.prog 99 #[(Value.pointer (some p)), (Value.agg #[(Value.int .i64 m_Chambers), (Value.int .i64 m_Depths), (Value.int .i64 m_Step), (Value.int .i64 m_Same), (Value.int .i64 m_Least)])] w Post :=
  Ret.of (denF_sound mixed (Eq.mpr (spec_l02DrawCuts_eq p m_Chambers m_Depths m_Step m_Same m_Least w Post) hvc))

/-- what a draw of a list gives -/
def DrL (wb : World) (b : Nat) (v : Value) (zs : List Int) (f : FuncId) (args : Array Value) (w : World) : Prop :=
  Ret Tryd.prog f args w fun r w' => ∃ xs, Own w.heap.size w' 2 r (ints xs) ∧ Src wb b v zs w' ∧ Pres (fun k => k ≠ b) w w'
theorem spec_l02DrawCuts_ret (wb : World) (b : Nat) (cv : Value) (zs : List Int) (w : World) (hs : Src wb b cv zs w) (M : Mk) (hM : Sm M) : DrL wb b cv zs 99 #[.pointer (some ⟨b, 0, none⟩), M.v] w :=
  spec_l02DrawCuts_calls ⟨b, 0, none⟩ M.c M.d M.s M.m M.l w _ (by
    unfold spec_l02DrawCuts_vc
    obtain ⟨hc, hd, hst, _, _⟩ := hM
    have hb := hs.lt
    intro w1 h1 v w2 o2 h2
    have d2 := (hs.dr.ext h1).ext h2
    refine d2.next (max 1 M.d) (by simp) fun x w3 x0 x1 d3 p3 => ?_
    refine ⟨fun s W => 0 ≤ s.1 ∧ s.1 ≤ 8 ∧ (s.2.2.2.length : Int) ≤ s.1 ∧ -100 ≤ s.2.1 + 10 * s.1 ∧ -100 ≤ s.2.1 + 10 * s.1 ∧ s.2.1 ≤ 10 + 20 * s.1 ∧ Dr wb b cv zs w W ∧ Own w.heap.size W 2 s.2.2.1 (ints s.2.2.2), fun s _ => (8 - s.1).toNat, ⟨(0, x, v, []), rfl, rfl, rfl, by simp only; omega, by simp only; omega, by simp, by simp only; omega, by simp only; omega, by simp only; omega, d3, (o2.mono h1.size).dr p3 hb⟩, ?_⟩
    rintro ⟨k, a, u, xs⟩ w4 ⟨k0, k8, hl, a0, _, a1, d4, o4⟩
    simp only at k0 k8 hl a0 a1 o4
    refine ⟨fun hk r w5 o5 h5 => ?_, fun hk => ?_⟩
    · simp only at hk
      refine (d4.ext h5).push (o4.ext h5) o5 (Nat.le_refl _) (d4.ext h5).size (by omega) fun u' w6 d6 o6 _ => fun w7 h7 => ⟨by unfold I64; omega, by unfold I64; omega, ?_⟩
      have d7 := d6.ext h7
      refine d7.next _ (by simp) fun y w8 y0 y1 d8 p8 => ⟨d7.1.keeps p8 (by simp), d7.1.keeps p8 (by simp), by unfold I64; simp only; omega, by unfold I64; simp only; omega, ?_⟩
      refine d8.next 24 (by simp) fun z w9 z0 z1 d9 p9 => ?_
      have o9 := ((o6.ext h7).dr p8 hb).dr p9 hb
      refine ⟨fun _ => ⟨by unfold I64; omega, by unfold I64; simp only; omega, (k + 1, max 0 (min (M.d - 1) (a + y - M.s)), u', xs ++ [a]), rfl, rfl, rfl, ⟨by simp only; omega, by simp only; omega, by simp only [List.length_append, List.length_singleton]; omega, by simp only; omega, by simp only; omega, by simp only; omega, d9, o9⟩, by simp only; omega⟩, fun _ => ⟨by unfold I64; simp only; omega, (k + 1, a + y - M.s, u', xs ++ [a]), rfl, rfl, rfl, ⟨by simp only; omega, by simp only; omega, by simp only [List.length_append, List.length_singleton]; omega, by simp only; omega, by simp only; omega, by simp only; omega, d9, o9⟩, by simp only; omega⟩⟩
    · refine d4.next 24 (by simp) fun y w5 y0 y1 d5 p5 => ⟨fun _ r w6 o6 h6 => ?_, fun _ => ⟨xs, o4.dr p5 hb, d5.1, d5.2.1⟩⟩
      refine (d5.ext h6).push ((o4.dr p5 hb).ext h6) o6 (Nat.le_refl _) (d5.ext h6).size (by omega) fun u' w7 d7 o7 _ => ⟨_, o7, d7.1, d7.2.1⟩)
def spec_l02Some_A (p : Addr) (m_Chambers : Int) (m_Depths : Int) (m_Step : Int) (m_Same : Int) (m_Least : Int) (w : World) : Nat → Ann := fun κ => match κ with
  | 0 => { σ := Int × Value × List Int, sli := [6, 5], slc := fun s => [SV.v (Value.int .i64 s.1), SV.v s.2.1], bxi := [], bxc := fun s => [], inv := fun s W => True, μ := fun s W => 0, free := true }
  | _ => { σ := Unit, sli := [], slc := fun _ => [], bxi := [], bxc := fun _ => [], inv := fun _ _ => False, μ := fun _ _ => 0 }
abbrev spec_l02Some_k0 (p : Addr) (m_Depths : Int) (w : World) (s5 : Int × Value × List Int) (w6 : World) (J7 : (Int × Value × List Int) → World → Prop) (m8 : (Int × Value × List Int) → World → Nat) (x9 : Value) (x10 : Int) (w13 : World) : Prop :=
  Calls Tryd.prog 44 #[(Value.pointer (some p)), (Value.int .i64 m_Depths)] w13 (fun e14 w15 => ∃ n16 : Int, e14 = .returned (Value.int .i64 n16) ∧ Keeps w.heap.size [39] w13 w15 ∧ ∀ (v17 : Value) (w18 : World), Sx.Own w15.heap.size w18 2 v17 [(Value.int .i64 n16)] → Ext w15 w18 → AppV w18 2 x9 v17 (fun v19 w20 => I64 (x10 + 1) ∧ ∃ s21 : (Int × Value × List Int), (Value.int .i64 (x10 + 1)) = (Value.int .i64 s21.1) ∧ v19 = s21.2.1 ∧ (J7 s21 w20) ∧ (m8 s21 w20) < (m8 s5 w6)))
abbrev spec_l02Some_k1 (w : World) (Post : Value → World → Prop) (x28 : Value) (x33 : Int) (x34 : Int) (x35 : Int) (x36 : Int) (x37 : Int) (w38 : World) : Prop :=
  Calls Tryd.prog 114 #[(Value.agg #[(Value.int .i64 x33), (Value.int .i64 x34), (Value.int .i64 x35), (Value.int .i64 x36), (Value.int .i64 x37)]), x28] w38 (fun e39 w40 => ∃ u41 : Value, ∃ b42 : Bool, e39 = .returned (Value.tuple #[u41, (Value.bool b42)]) ∧ Keeps w.heap.size [39] w38 w40 ∧ (((!b42) = true → Calls Tryd.prog 115 #[(Value.agg #[(Value.int .i64 x33), (Value.int .i64 x34), (Value.int .i64 x35), (Value.int .i64 x36), (Value.int .i64 x37)]), (Value.slice none 0 0)] w40 (fun e43 w44 => ∃ u45 : Value, ∃ b46 : Bool, e43 = .returned (Value.tuple #[u45, (Value.bool b46)]) ∧ Keeps w.heap.size [39] w40 w44 ∧ Post u45 w44)) ∧ ((!b42) = false → Post u41 w40)))
def spec_l02Some_vc (p : Addr) (m_Chambers : Int) (m_Depths : Int) (m_Step : Int) (m_Same : Int) (m_Least : Int) (w : World) (Post : Value → World → Prop) : Prop :=
  ∀ w1 : World, Ext w w1 → ∀ (v2 : Value) (w3 : World), Sx.Own w1.heap.size w3 2 v2 [] → Ext w1 w3 → (∃ (J7 : (Int × Value × List Int) → World → Prop) (m8 : (Int × Value × List Int) → World → Nat), ((∃ s4 : (Int × Value × List Int), (Value.int .i64 0) = (Value.int .i64 s4.1) ∧ v2 = s4.2.1 ∧ (J7 s4 w3)) ∧ ∀ (s5 : (Int × Value × List Int)) (w6 : World), (J7 s5 w6) → (((s5.1 < m_Chambers) → (spec_l02Some_k0 p m_Depths w s5 w6 J7 m8 s5.2.1 s5.1 w6)) ∧ (¬ (s5.1 < m_Chambers) → (spec_l02Some_k1 w Post s5.2.1 m_Chambers m_Depths m_Step m_Same m_Least w6)))))
theorem spec_l02Some_eq (p : Addr) (m_Chambers : Int) (m_Depths : Int) (m_Step : Int) (m_Same : Int) (m_Least : Int) (w : World) (Post : Value → World → Prop) : denF Tryd.prog [9400000, 9700000, 9800000] (spec_l02Some_A p m_Chambers m_Depths m_Step m_Same m_Least w) 100 [(Value.pointer (some p)), (Value.agg #[(Value.int .i64 m_Chambers), (Value.int .i64 m_Depths), (Value.int .i64 m_Step), (Value.int .i64 m_Same), (Value.int .i64 m_Least)])] w Post = spec_l02Some_vc p m_Chambers m_Depths m_Step m_Same m_Least w Post := by kernel_rfl
set_option maxRecDepth 100000 in
theorem spec_l02Some_calls (p : Addr) (m_Chambers : Int) (m_Depths : Int) (m_Step : Int) (m_Same : Int) (m_Least : Int) (w : World) (Post : Value → World → Prop) (hvc : spec_l02Some_vc p m_Chambers m_Depths m_Step m_Same m_Least w Post) : Ret Tryd.prog 100 #[(Value.pointer (some p)), (Value.agg #[(Value.int .i64 m_Chambers), (Value.int .i64 m_Depths), (Value.int .i64 m_Step), (Value.int .i64 m_Same), (Value.int .i64 m_Least)])] w Post :=
  Ret.of (denF_sound mixed (Eq.mpr (spec_l02Some_eq p m_Chambers m_Depths m_Step m_Same m_Least w Post) hvc))

theorem spec_l02Some_ret (wb : World) (b : Nat) (cv : Value) (zs : List Int) (w : World) (hs : Src wb b cv zs w) (M : Mk) (hM : M.Ok) : Ret Tryd.prog 100 #[.pointer (some ⟨b, 0, none⟩), M.v] w fun r w' => ∃ xs, IsK M xs ∧ Own w.heap.size w' 2 r (ints xs) ∧ Src wb b cv zs w' ∧ Pres (fun k => k ≠ b) w w' :=
  spec_l02Some_calls ⟨b, 0, none⟩ M.c M.d M.s M.m M.l w _ (by
    unfold spec_l02Some_vc
    have hM' := hM
    obtain ⟨hm1, hm2, hm3, hm4, hm5⟩ := hM'
    have hb := hs.lt
    intro w1 h1 v w2 o2 h2
    have d2 := (hs.dr.ext h1).ext h2
    refine ⟨fun s W => 0 ≤ s.1 ∧ s.1 ≤ M.c ∧ (s.2.2.length : Int) = s.1 ∧ CutsOk M.d s.2.2 ∧ Dr wb b cv zs w W ∧ Own w.heap.size W 2 s.2.1 (ints s.2.2), fun s _ => (M.c - s.1).toNat, ⟨(0, v, []), rfl, rfl, by simp only; omega, by simp only; omega, by simp, by simp [CutsOk], d2, o2.mono h1.size⟩, ?_⟩
    rintro ⟨k, u, xs⟩ w4 ⟨k0, kc, hl, hcut, d4, o4⟩
    simp only at k0 kc hl hcut o4
    refine ⟨fun hk => ?_, fun hk => ?_⟩
    · simp only at hk
      refine d4.next M.d (by simp) fun x w5 x0 x1 d5 p5 => fun r w6 o6 h6 => ?_
      refine (d5.ext h6).push ((o4.dr p5 hb).ext h6) o6 (Nat.le_refl _) (d5.ext h6).size (by omega) fun u' w7 d7 o7 _ => ⟨by unfold I64; simp only; omega, (k + 1, u', xs ++ [x]), rfl, rfl, ⟨by simp only; omega, by simp only; omega, by simp only [List.length_append, List.length_singleton]; omega, ?_, d7, o7⟩, by simp only; omega⟩
      intro z hz
      rcases List.mem_append.1 hz with hz | hz
      · exact hcut z hz
      · have : z = x := by simpa using hz
        omega
    · simp only at hk
      refine (spec_l02Next_ret hM u xs w4 (by omega) hcut o4.rd).call ?_
      rintro _ w5 ⟨h5, y, ok, rfl, hor⟩
      refine ⟨y, ok, rfl, h5.keeps, fun hno => ?_, fun hyes => ?_⟩
      · have d5 := d4.ext h5
        refine (spec_l02First_ret hM M.c.toNat [] (.slice none 0 0) w5 (by simp; omega) (by simp [CutsOk]) (RI.nil_ _ _ (Nat.zero_le _))).call ?_
        rintro _ w6 ⟨h6, y2, ok2, rfl, _, hor2⟩
        refine ⟨y2, ok2, rfl, h6.keeps, ?_⟩
        rcases hor2 with ⟨_, hg⟩ | ⟨k2, rest, _, hg, hor3⟩
        · exact absurd hg (keys_ne hM)
        · rcases hor3 with ⟨h0, _⟩ | ho
          · omega
          · have hk2 : k2 ∈ keys M := by
              have : k2 ∈ GA M M.c.toNat [] := by rw [hg]; exact List.mem_cons_self ..
              exact this
            exact ⟨k2, (mem_keys (by omega)).1 hk2, ho.mono d5.size, (d5.ext h6).1, (d5.ext h6).2.1⟩
      · rcases hor with ⟨rfl, _⟩ | ⟨k2, rest, _, ha, ho⟩
        · cases hyes
        · have hk2 : k2 ∈ above M xs 0 := by rw [ha]; exact List.mem_cons_self ..
          rw [above_zero M xs (by omega)] at hk2
          exact ⟨k2, (mem_keys (by omega)).1 (List.mem_filter.1 hk2).1, ho.mono d4.size, (d4.ext h5).1, (d4.ext h5).2.1⟩)
abbrev spec_l02DrawKey_k0 (w : World) (Post : Value → World → Prop) (x67 : Addr) (x90 : Int) (x91 : Int) (x92 : Int) (x93 : Int) (x94 : Int) (w95 : World) : Prop :=
  Calls Tryd.prog 100 #[(Value.pointer (some x67)), (Value.agg #[(Value.int .i64 x90), (Value.int .i64 x91), (Value.int .i64 x92), (Value.int .i64 x93), (Value.int .i64 x94)])] w95 (fun e96 w97 => ∃ u98 : Value, e96 = .returned u98 ∧ Keeps w.heap.size [39] w95 w97 ∧ Post u98 w97)
abbrev spec_l02DrawKey_k1 (w : World) (Post : Value → World → Prop) (n37 : Int) (x38 : Addr) (x44 : Value) (x61 : Int) (x62 : Int) (x63 : Int) (x64 : Int) (x65 : Int) (w66 : World) : Prop :=
  (((n37 = (0 : Int)) → Post x44 w66) ∧ (¬ (n37 = (0 : Int)) → (spec_l02DrawKey_k0 w Post x38 x61 x62 x63 x64 x65 w66)))
def spec_l02DrawKey_vc (p : Addr) (m_Chambers : Int) (m_Depths : Int) (m_Step : Int) (m_Same : Int) (m_Least : Int) (w : World) (Post : Value → World → Prop) : Prop :=
  ∀ w1 : World, Ext w w1 → Calls Tryd.prog 99 #[(Value.pointer (some p)), (Value.agg #[(Value.int .i64 m_Chambers), (Value.int .i64 m_Depths), (Value.int .i64 m_Step), (Value.int .i64 m_Same), (Value.int .i64 m_Least)])] w1 (fun e2 w3 => ∃ u4 : Value, e2 = .returned u4 ∧ Keeps w.heap.size [39] w1 w3 ∧ Calls Tryd.prog 48 #[(Value.agg #[(Value.int .i64 m_Chambers), (Value.int .i64 m_Depths), (Value.int .i64 m_Step), (Value.int .i64 m_Same), (Value.int .i64 m_Least)])] w3 (fun e5 w6 => ∃ b7 : Bool, e5 = .returned (Value.bool b7) ∧ Keeps w.heap.size [39] w3 w6 ∧ (((!b7) = true → Post u4 w6) ∧ ((!b7) = false → Calls Tryd.prog 44 #[(Value.pointer (some p)), (Value.int .i64 12)] w6 (fun e35 w36 => ∃ n37 : Int, e35 = .returned (Value.int .i64 n37) ∧ Keeps w.heap.size [39] w6 w36 ∧ (spec_l02DrawKey_k1 w Post n37 p u4 m_Chambers m_Depths m_Step m_Same m_Least w36))))))
theorem spec_l02DrawKey_eq (p : Addr) (m_Chambers : Int) (m_Depths : Int) (m_Step : Int) (m_Same : Int) (m_Least : Int) (w : World) (Post : Value → World → Prop) : denF Tryd.prog [9400000, 9700000, 9800000] noAnn 69 [(Value.pointer (some p)), (Value.agg #[(Value.int .i64 m_Chambers), (Value.int .i64 m_Depths), (Value.int .i64 m_Step), (Value.int .i64 m_Same), (Value.int .i64 m_Least)])] w Post = spec_l02DrawKey_vc p m_Chambers m_Depths m_Step m_Same m_Least w Post := by kernel_rfl
set_option maxRecDepth 100000 in
theorem spec_l02DrawKey_calls (p : Addr) (m_Chambers : Int) (m_Depths : Int) (m_Step : Int) (m_Same : Int) (m_Least : Int) (w : World) (Post : Value → World → Prop) (hvc : spec_l02DrawKey_vc p m_Chambers m_Depths m_Step m_Same m_Least w Post) : Ret Tryd.prog 69 #[(Value.pointer (some p)), (Value.agg #[(Value.int .i64 m_Chambers), (Value.int .i64 m_Depths), (Value.int .i64 m_Step), (Value.int .i64 m_Same), (Value.int .i64 m_Least)])] w Post :=
  Ret.of (denF_sound mixed (Eq.mpr (spec_l02DrawKey_eq p m_Chambers m_Depths m_Step m_Same m_Least w Post) hvc))

theorem spec_l02DrawKey_ret (wb : World) (b : Nat) (cv : Value) (zs : List Int) (w : World) (hs : Src wb b cv zs w) (M : Mk) (hM : Sm M) : DrL wb b cv zs 69 #[.pointer (some ⟨b, 0, none⟩), M.v] w :=
  spec_l02DrawKey_calls ⟨b, 0, none⟩ M.c M.d M.s M.m M.l w _ (by
    unfold spec_l02DrawKey_vc
    have hb := hs.lt
    intro w1 h1
    have d1 := hs.dr.ext h1
    refine (spec_l02DrawCuts_ret wb b cv zs w1 d1.1 M hM).call ?_
    rintro u w2 ⟨xs, o2, s2, p2⟩
    have d2 := d1.step s2 p2
    have o2 := o2.mono h1.size
    refine ⟨u, rfl, d1.1.keeps p2 (by simp), (spec_IsMaker_val ..).call fun w3 h3 => ⟨_, rfl, h3.keeps, fun hno => ⟨xs, o2.ext h3, (d2.ext h3).1, (d2.ext h3).2.1⟩, fun hyes => ?_⟩⟩
    have hok := nd_f hyes
    have d3 := d2.ext h3
    refine d3.next 12 (by simp) fun x w4 x0 x1 d4 p4 => ⟨fun _ => ⟨xs, (o2.ext h3).dr p4 hb, d4.1, d4.2.1⟩, fun _ => ?_⟩
    refine (spec_l02Some_ret wb b cv zs w4 d4.1 M hok).call ?_
    rintro r w5 ⟨ks, _, o5, s5, p5⟩
    have d5 := d4.step s5 p5
    exact ⟨r, rfl, d4.1.keeps p5 (by simp), ks, o5.mono d4.size, d5.1, d5.2.1⟩)
/-! ### what the laws draw -/
theorem Src.rebase {wb w0 w : World} {b : Nat} {v : Value} {zs : List Int} (h : Src wb b v zs w) (e : Ext w0 wb) (r : RB w0 v zs) : Src w0 b v zs w :=
  let ⟨h1, h2, _, h4⟩ := h; ⟨e.trans h1, Nat.le_trans e.size h2, r, h4⟩
/-- the source is made -/
theorem from_q {cv : Value} {zs : List Int} {w w0 : World} (h : RB w0 cv zs) (e : Ext w0 w) {n0 : Nat} {Ts : List TypeId} {G : Addr → World → Prop} (hg : ∀ b w', Dq w0 b cv zs w'.heap.size w' → G ⟨b, 0, none⟩ w') :
    Calls Tryd.prog 39 #[cv] w fun e w' => ∃ p : Addr, e = .returned (.pointer (some p)) ∧ Keeps n0 Ts w w' ∧ G p w' :=
  (spec_l01From_ret cv zs w (h.ext e)).call (by
    rintro _ w' ⟨b, rfl, s⟩
    exact ⟨_, rfl, s.1.keeps, hg b w' (s.rebase e h).dq⟩)
section
variable {wb w : World} {b lo : Nat} {v : Value} {zs : List Int}
/-- 'l02Draw(s)' -/
theorem Dq.maker (h : Dq wb b v zs lo w) {n0 : Nat} {Ts : List TypeId} (hT : 93 ∉ Ts) {G : Int → Int → Int → Int → Int → World → Prop} (hg : ∀ (M : Mk) (w' : World), Sm M → Dq wb b v zs lo w' → Pres (fun k => k ≠ b) w w' → G M.c M.d M.s M.m M.l w') :
    Calls Tryd.prog 68 #[.pointer (some ⟨b, 0, none⟩)] w fun e w' => ∃ c d s m l : Int, e = .returned (mkV c d s m l) ∧ Keeps n0 Ts w w' ∧ G c d s m l w' :=
  (spec_l02Draw_ret wb b v zs w h.1).call (by
    rintro _ w' ⟨M, rfl, hM, s, p⟩
    exact ⟨M.c, M.d, M.s, M.m, M.l, rfl, h.1.keeps p hT, hg M w' hM (h.step s p) p⟩)
/-- a list drawn -/
theorem Dq.list (h : Dq wb b v zs lo w) {f : FuncId} {args : Array Value} (hr : DrL wb b v zs f args w) {n0 : Nat} {Ts : List TypeId} (hT : 93 ∉ Ts) {G : Value → World → Prop}
    (hg : ∀ (u : Value) (xs : List Int) (w' : World), Own lo w' 2 u (ints xs) → Dq wb b v zs lo w' → Pres (fun k => k ≠ b) w w' → G u w') :
    Calls Tryd.prog f args w fun e w' => ∃ u, e = .returned u ∧ Keeps n0 Ts w w' ∧ G u w' :=
  hr.call (by
    rintro u w' ⟨xs, o, s, p⟩
    exact ⟨u, rfl, h.1.keeps p hT, hg u xs w' (o.mono h.2.2) (h.step s p) p⟩)
end
/-- what a draw of a maker and a list gives -/
def DrMS (f : FuncId) (args : Array Value) (w : World) : Prop := Ret Tryd.prog f args w fun r w' => ∃ (M : Mk) (u : Value) (xs : List Int), r = .tuple #[M.v, u] ∧ Own w.heap.size w' 2 u (ints xs) ∧ Ext w w'
/-- of a maker and a number -/
def DrMI (f : FuncId) (args : Array Value) (w : World) : Prop := Ret Tryd.prog f args w fun r w' => ∃ (M : Mk) (n : Int), r = .tuple #[M.v, .int .i64 n] ∧ I64 n ∧ Ext w w'
end Go.Proofs
