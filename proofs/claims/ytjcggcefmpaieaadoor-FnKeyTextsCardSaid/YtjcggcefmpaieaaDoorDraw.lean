/- The draws' source: what it holds, and the contracts of making it and of the next number. No condition. -/
import Derived.Test.YtjcggcefmpaieaaDoorVis
set_option linter.unusedVariables false
namespace Go.Proofs
open Go.Sx Go.RowKit
/-- a slice of bytes -/
def RB (w : World) (v : Value) (zs : List Int) : Prop := Rd w v (zs.map (Value.int .u8)) ∧ ∀ z ∈ zs, 0 ≤ z ∧ z ≤ 255
theorem RB.ext {w w' : World} {v : Value} {zs : List Int} (h : RB w v zs) (e : Ext w w') : RB w' v zs := ⟨h.1.ext e, h.2⟩
theorem RB.len {w : World} {v : Value} {zs : List Int} (h : RB w v zs) {K : Int → Prop} (hK : K (zs.length : Int)) : LenV v K := h.1.len (by rw [List.length_map]; exact hK)
theorem RB.oneC {w : World} {v : Value} {zs : List Int} (h : RB w v zs) {K : Prop} (hK : K) : oneC v K := h.1.oneC hK
theorem RB.get {w : World} {v : Value} {zs : List Int} (h : RB w v zs) {i : Int} (k : Nat) (hi : i = k) (hk : k < zs.length) {R : Int → Prop} (hR : 0 ≤ zs[k] → zs[k] ≤ 255 → R zs[k]) : IxV 1 v i (fun ad => ∃ n : Int, LdV w (.pointer (some ad)) (.int .u8 n) ∧ R n) :=
  h.1.ix k hi (by simpa using hk) fun ad hl => ⟨zs[k], by simpa using hl, hR (h.2 _ (List.getElem_mem hk)).1 (h.2 _ (List.getElem_mem hk)).2⟩
theorem notNil_ptr (ad : Addr) : NotNil (.pointer (some ad)) := .inl ⟨ad, rfl⟩
/-- block b is a source of draws over the bytes zs, which the world wb holds -/
def Src (wb : World) (b : Nat) (v : Value) (zs : List Int) (w : World) : Prop :=
  Ext wb w ∧ wb.heap.size ≤ b ∧ RB wb v zs ∧ ∃ (at_ : Nat) (seed : Int), w.heap[b]? = some (.cells #[v, .int .i64 at_, .int .i64 seed] 93 (0, 0)) ∧ at_ ≤ zs.length ∧ 0 ≤ seed ∧ seed < 2147483647
section
variable {wb w w' : World} {b : Nat} {v : Value} {zs : List Int}
theorem Src.ext (h : Src wb b v zs w) (e : Ext w w') : Src wb b v zs w' := by
  obtain ⟨h1, h2, h3, a, s, hc, r⟩ := h
  exact ⟨h1.trans e, h2, h3, a, s, (e.block _ (heap_lt hc)).trans hc, r⟩
theorem Src.lt (h : Src wb b v zs w) : b < w.heap.size := by
  obtain ⟨h1, h2, h3, a, s, hc, r⟩ := h
  exact heap_lt hc
end
theorem pres_bxs {K : Nat → Prop} {w W W' : World} {T : TypeId} (h : Pres K w W) (x : BxS w.heap.size T W W') : Pres K w W' :=
  ⟨x.os.trans h.os, x.tape.trans h.tape, x.output.trans h.output, by rw [x.size]; exact h.size, fun b hb hK => (x.low b hb).trans (h.block b hb hK)⟩
theorem Src.bxs {wb w W W' : World} {b : Nat} {v : Value} {zs : List Int} {T : TypeId} (h : Src wb b v zs W) (hw : wb.heap.size ≤ w.heap.size) (x : BxS w.heap.size T W W') (hT : 93 ≠ T) : Src wb b v zs W' := by
  obtain ⟨h1, h2, h3, a, s, hc, r⟩ := h
  refine ⟨⟨x.os.trans h1.os, x.tape.trans h1.tape, x.output.trans h1.output, by rw [x.size]; exact h1.size, fun k hk => (x.low k (by omega)).trans (h1.block k hk)⟩, h2, h3, a, s, (x.block b fun cs fz hh => ?_).trans hc, r⟩
  rw [hc] at hh
  injection hh with hh
  injection hh with _ he _
  exact hT he
theorem Src.keeps {wb w w' : World} {b : Nat} {v : Value} {zs : List Int} (h : Src wb b v zs w) (p : Pres (fun k => k ≠ b) w w') {n0 : Nat} {Ts : List TypeId} (hT : 93 ∉ Ts) : Keeps n0 Ts w w' := by
  obtain ⟨h1, h2, h3, a, s, hc, r⟩ := h
  refine p.keeps fun k cs T fz _ hh hTs => ?_
  rintro rfl
  rw [hc] at hh
  injection hh with hh
  injection hh with _ he _
  exact hT (he ▸ hTs)
abbrev spec_l01Next_k0 (Post : Value → World → Prop) (n30 : Int) (x31 : Addr) (x32 : Int) (x34 : Int) (w86 : World) : Prop :=
  ((((n30 % 2) = (0 : Int)) → NotNil (Value.pointer (some x31)) ∧ ∃ ad87 : Addr, (Value.pointer (some x31)) = Value.pointer (some ad87) ∧ ∃ u88 : Value, LdV w86 (Value.pointer (some (ad87.add 0))) u88 ∧ NotNil (Value.pointer (some x31)) ∧ ∃ ad89 : Addr, (Value.pointer (some x31)) = Value.pointer (some ad89) ∧ ∃ n90 : Int, LdV w86 (Value.pointer (some (ad89.add 1))) (Value.int .i64 n90) ∧ I64 (n90 - 1) ∧ IxV 1 u88 (n90 - 1) (fun ad91 => ∃ n92 : Int, LdV w86 (Value.pointer (some ad91)) (Value.int .u8 n92) ∧ I64 n92 ∧ ∀ w93 : World, Ext w86 w93 → 0 ≤ n92 ∧ 0 < x32 ∧ Post (Value.int .i64 (n92 % x32)) w93)) ∧ (¬ ((n30 % 2) = (0 : Int)) → 0 ≤ x34 ∧ 0 < x32 ∧ Post (Value.int .i64 (x34 % x32)) w86))
abbrev spec_l01Next_k1 (w : World) (Post : Value → World → Prop) (x1 : Addr) (x2 : Int) (w5 : World) : Prop :=
  NotNil (Value.pointer (some x1)) ∧ ∃ ad6 : Addr, (Value.pointer (some x1)) = Value.pointer (some ad6) ∧ ∃ n7 : Int, LdV w5 (Value.pointer (some (ad6.add 2))) (Value.int .i64 n7) ∧ I64 (n7 * 48271) ∧ I64 ((n7 * 48271) + 29) ∧ 0 ≤ ((n7 * 48271) + 29) ∧ 0 < (2147483647 : Int) ∧ NotNil (Value.pointer (some x1)) ∧ ∃ ad8 : Addr, (Value.pointer (some x1)) = Value.pointer (some ad8) ∧ StV w.heap.size [] w5 (Value.pointer (some (ad8.add 2))) (Value.int .i64 (((n7 * 48271) + 29) % 2147483647)) (fun w9 => NotNil (Value.pointer (some x1)) ∧ ∃ ad10 : Addr, (Value.pointer (some x1)) = Value.pointer (some ad10) ∧ ∃ n11 : Int, LdV w9 (Value.pointer (some (ad10.add 2))) (Value.int .i64 n11) ∧ 0 ≤ n11 ∧ I64 n11 ∧ 0 < (31 : Int) ∧ NotNil (Value.pointer (some x1)) ∧ ∃ ad12 : Addr, (Value.pointer (some x1)) = Value.pointer (some ad12) ∧ ∃ n13 : Int, LdV w9 (Value.pointer (some (ad12.add 1))) (Value.int .i64 n13) ∧ NotNil (Value.pointer (some x1)) ∧ ∃ ad14 : Addr, (Value.pointer (some x1)) = Value.pointer (some ad14) ∧ ∃ u15 : Value, LdV w9 (Value.pointer (some (ad14.add 0))) u15 ∧ LenV u15 (fun n16 => ∀ w17 : World, Ext w9 w17 → (((n13 < n16) → NotNil (Value.pointer (some x1)) ∧ ∃ ad18 : Addr, (Value.pointer (some x1)) = Value.pointer (some ad18) ∧ ∃ u19 : Value, LdV w17 (Value.pointer (some (ad18.add 0))) u19 ∧ NotNil (Value.pointer (some x1)) ∧ ∃ ad20 : Addr, (Value.pointer (some x1)) = Value.pointer (some ad20) ∧ ∃ n21 : Int, LdV w17 (Value.pointer (some (ad20.add 1))) (Value.int .i64 n21) ∧ IxV 1 u19 n21 (fun ad22 => ∃ n23 : Int, LdV w17 (Value.pointer (some ad22)) (Value.int .u8 n23) ∧ I64 n23 ∧ I64 ((n11 / 31) + n23) ∧ ∀ w24 : World, Ext w17 w24 → NotNil (Value.pointer (some x1)) ∧ ∃ ad25 : Addr, (Value.pointer (some x1)) = Value.pointer (some ad25) ∧ ∃ n26 : Int, LdV w24 (Value.pointer (some (ad25.add 1))) (Value.int .i64 n26) ∧ I64 (n26 + 1) ∧ NotNil (Value.pointer (some x1)) ∧ ∃ ad27 : Addr, (Value.pointer (some x1)) = Value.pointer (some ad27) ∧ StV w.heap.size [] w24 (Value.pointer (some (ad27.add 1))) (Value.int .i64 (n26 + 1)) (fun w28 => (((x2 ≤ (256 : Int)) → NotNil (Value.pointer (some x1)) ∧ ∃ ad29 : Addr, (Value.pointer (some x1)) = Value.pointer (some ad29) ∧ ∃ n30 : Int, LdV w28 (Value.pointer (some (ad29.add 1))) (Value.int .i64 n30) ∧ 0 ≤ n30 ∧ 0 < (2 : Int) ∧ (spec_l01Next_k0 Post n30 x1 x2 ((n11 / 31) + n23) w28)) ∧ (¬ (x2 ≤ (256 : Int)) → 0 ≤ ((n11 / 31) + n23) ∧ 0 < x2 ∧ Post (Value.int .i64 (((n11 / 31) + n23) % x2)) w28))))) ∧ (¬ (n13 < n16) → 0 ≤ (n11 / 31) ∧ 0 < x2 ∧ Post (Value.int .i64 ((n11 / 31) % x2)) w17))))
def spec_l01Next_vc (p : Addr) (n : Int) (w : World) (Post : Value → World → Prop) : Prop :=
  (((n ≤ (1 : Int)) → Post (Value.int .i64 0) w) ∧ (¬ (n ≤ (1 : Int)) → (spec_l01Next_k1 w Post p n w)))
theorem spec_l01Next_eq (p : Addr) (n : Int) (w : World) (Post : Value → World → Prop) : denF Tryd.prog [] noAnn 44 [(Value.pointer (some p)), (Value.int .i64 n)] w Post = spec_l01Next_vc p n w Post := by kernel_rfl
set_option maxRecDepth 100000 in
theorem spec_l01Next_calls (p : Addr) (n : Int) (w : World) (Post : Value → World → Prop) (hvc : spec_l01Next_vc p n w Post) : Ret Tryd.prog 44 #[(Value.pointer (some p)), (Value.int .i64 n)] w Post :=
  Ret.of (denF_sound mixed (Eq.mpr (spec_l01Next_eq p n w Post) hvc))

theorem spec_l01Next_ret (wb : World) (b : Nat) (v : Value) (zs : List Int) (n : Int) (w : World) (hs : Src wb b v zs w) : Ret Tryd.prog 44 #[.pointer (some ⟨b, 0, none⟩), .int .i64 n] w fun r w' => ∃ x : Int, r = .int .i64 x ∧ 0 ≤ x ∧ (x = 0 ∨ x < n) ∧ Src wb b v zs w' ∧ Pres (fun k => k ≠ b) w w' :=
  spec_l01Next_calls ⟨b, 0, none⟩ n w _ (by
    unfold spec_l01Next_vc
    refine ⟨fun h1 => ⟨0, rfl, Int.le_refl _, .inl rfl, hs, .refl _ w⟩, fun hn => ?_⟩
    obtain ⟨e0, hb, hz, a, s, c0, ha, s0, s1⟩ := id hs
    have hlen := hz.1.bound
    rw [List.length_map] at hlen
    refine ⟨notNil_ptr _, _, rfl, s, ld_at c0 2 rfl, by unfold I64; omega, by unfold I64; omega, by omega, by decide, notNil_ptr _, _, rfl, ?_⟩
    refine st_at c0 2 (by simp) rfl (.inr (by simp)) fun w1 c1 p1 z1 => ?_
    have e1 : Ext wb w1 := p1.ext e0 fun b' hb' => by omega
    have hx : 0 ≤ (s * 48271 + 29) % 2147483647 ∧ (s * 48271 + 29) % 2147483647 < 2147483647 := by omega
    generalize (s * 48271 + 29) % 2147483647 = s2 at *
    refine ⟨notNil_ptr _, _, rfl, s2, ld_at c1 2 rfl, hx.1, by unfold I64; omega, by decide, notNil_ptr _, _, rfl, (a : Int), ld_at c1 1 rfl, notNil_ptr _, _, rfl, v, ld_at c1 0 rfl, (hz.ext e1).len fun w2 h2 => ?_⟩
    have c2 := (h2.block _ (heap_lt c1)).trans c1
    have e2 := e1.trans h2
    have P2 : Pres (fun k => k ≠ b) w w2 := p1.trans (h2.pres _)
    have hmod : ∀ y : Int, 0 ≤ y → 0 ≤ y % n ∧ y % n < n := fun y hy => ⟨Int.emod_nonneg _ (by omega), Int.emod_lt_of_pos _ (by omega)⟩
    refine ⟨fun hlt => ?_, fun hge => ⟨by omega, by omega, _, rfl, (hmod _ (by omega)).1, .inr (hmod _ (by omega)).2, ⟨e2, hb, hz, a, s2, c2, ha, hx.1, hx.2⟩, P2⟩⟩
    have hlt' : a < zs.length := by omega
    refine ⟨notNil_ptr _, _, rfl, v, ld_at c2 0 rfl, notNil_ptr _, _, rfl, (a : Int), ld_at c2 1 rfl, (hz.ext e2).get a rfl hlt' fun p0 p1' => ⟨by unfold I64; omega, by unfold I64; omega, fun w3 h3 => ?_⟩⟩
    have c3 := (h3.block _ (heap_lt c2)).trans c2
    refine ⟨notNil_ptr _, _, rfl, (a : Int), ld_at c3 1 rfl, by unfold I64; omega, notNil_ptr _, _, rfl, ?_⟩
    refine st_at c3 1 (by simp) rfl (.inr (by simp)) fun w4 c4 p4 z4 => ?_
    have e4 : Ext wb w4 := p4.ext (e2.trans h3) fun b' hb' => by omega
    have P4 : Pres (fun k => k ≠ b) w w4 := (P2.trans (h3.pres _)).trans p4
    have c4' : w4.heap[b]? = some (.cells #[v, .int .i64 ((a + 1 : Nat) : Int), .int .i64 s2] 93 (0, 0)) := c4
    have S4 : Src wb b v zs w4 := ⟨e4, hb, hz, a + 1, s2, c4', by omega, hx.1, hx.2⟩
    refine ⟨fun _ => ⟨notNil_ptr _, _, rfl, ((a + 1 : Nat) : Int), ld_at c4' 1 rfl, by omega, by decide, fun _ => ?_, fun _ => ⟨by omega, by omega, _, rfl, (hmod _ (by omega)).1, .inr (hmod _ (by omega)).2, S4, P4⟩⟩, fun _ => ⟨by omega, by omega, _, rfl, (hmod _ (by omega)).1, .inr (hmod _ (by omega)).2, S4, P4⟩⟩
    refine ⟨notNil_ptr _, _, rfl, v, ld_at c4' 0 rfl, notNil_ptr _, _, rfl, ((a + 1 : Nat) : Int), ld_at c4' 1 rfl, by unfold I64; omega, (hz.ext e4).get a (by omega) hlt' fun p0 p1' => ⟨by unfold I64; omega, fun w5 h5 => ⟨p0, by omega, _, rfl, (hmod _ p0).1, .inr (hmod _ p0).2, S4.ext h5, P4.trans (h5.pres _)⟩⟩⟩)
def spec_l01Pick_vc (p : Addr) (v : Value) (w : World) (Post : Value → World → Prop) : Prop :=
  LenV v (fun n1 => Calls Tryd.prog 44 #[(Value.pointer (some p)), (Value.int .i64 n1)] w (fun e2 w3 => ∃ n4 : Int, e2 = .returned (Value.int .i64 n4) ∧ Keeps w.heap.size [] w w3 ∧ IxV 1 v n4 (fun ad5 => ∃ n6 : Int, LdV w3 (Value.pointer (some ad5)) (Value.int .i64 n6) ∧ Post (Value.int .i64 n6) w3)))
theorem spec_l01Pick_eq (p : Addr) (v : Value) (w : World) (Post : Value → World → Prop) : denF Tryd.prog [] noAnn 98 [(Value.pointer (some p)), v] w Post = spec_l01Pick_vc p v w Post := by kernel_rfl
set_option maxRecDepth 100000 in
theorem spec_l01Pick_calls (p : Addr) (v : Value) (w : World) (Post : Value → World → Prop) (hvc : spec_l01Pick_vc p v w Post) : Ret Tryd.prog 98 #[(Value.pointer (some p)), v] w Post :=
  Ret.of (denF_sound mixed (Eq.mpr (spec_l01Pick_eq p v w Post) hvc))

theorem spec_l01Pick_ret (wb : World) (b : Nat) (cv : Value) (zs : List Int) (v : Value) (xs : List Int) (w : World) (hs : Src wb b cv zs w) (hv : ∀ w', Pres (fun k => k ≠ b) w w' → RI w' v xs) (hx : 0 < xs.length) :
    Ret Tryd.prog 98 #[.pointer (some ⟨b, 0, none⟩), v] w fun r w' => ∃ x ∈ xs, r = .int .i64 x ∧ Src wb b cv zs w' ∧ Pres (fun k => k ≠ b) w w' :=
  spec_l01Pick_calls ⟨b, 0, none⟩ v w _ (by
    unfold spec_l01Pick_vc
    refine (hv w (.refl _ w)).len ?_
    refine (spec_l01Next_ret wb b cv zs _ w hs).call ?_
    rintro _ w1 ⟨x, rfl, x0, x1, s1, p1⟩
    refine ⟨x, rfl, hs.keeps p1 (by decide), ?_⟩
    refine (hv w1 p1).get x.toNat (by omega) (by omega) ?_
    exact ⟨_, List.getElem_mem (by omega), rfl, s1, p1⟩)
end Go.Proofs
