/- Parts of this claim, laid together: contracts of functions and plain facts, Draw, Draw3, Draw4, Draw2, Draw5, S12, L04h, Draw6, S13, P07, D01, D02, LawsB, Draw7, P04, LawsC. No condition. -/
import Derived.Test.YtjcggcefmpaieaaGreatDoorMb
import Derived.SizedLaws
import Derived.HandedShaped
import Derived.Handed
import Derived.LaidMore
import Derived.LaidHandle
import Derived.Lib.LaidTab
import Derived.OpenShut
import Derived.Stop.Joined
import Derived.Stop.LaidErr
import Derived.Lay
import Derived.Clock
section
set_option linter.unusedVariables false
namespace Go.Proofs
open Go.Sx Go.RowKit
/-- a slice of bytes -/
def RB (w : World) (v : Value) (zs : List Int) : Prop := Rd w v (zs.map (Value.int .u8)) ∧ ∀ z ∈ zs, 0 ≤ z ∧ z ≤ 255
theorem RB.ext {w w' : World} {v : Value} {zs : List Int} (h : RB w v zs) (e : Ext w w') : RB w' v zs := ⟨h.1.ext e, h.2⟩
theorem RB.len {w : World} {v : Value} {zs : List Int} (h : RB w v zs) {K : Int → Prop} (hK : K (zs.length : Int)) : LenV v K := h.1.len (by rw [List.length_map]; exact hK)
theorem RB.oneC {w : World} {v : Value} {zs : List Int} (h : RB w v zs) {K : Prop} (hK : K) : oneC v K := h.1.oneC hK
theorem RB.get {w : World} {v : Value} {zs : List Int} (h : RB w v zs) {i : Int} (k : Nat) (hi : i = k) (hk : k < zs.length) {R : Int → Prop} (hR : 0 ≤ zs[k] → zs[k] ≤ 255 → R zs[k]) : IxV 1 v i (fun ad => ∃ n : Int, LdV w (.pointer (some ad)) (.int .u8 n) ∧ R n) :=
  h.1.ix k hi (by simpa using hk) fun ad hl => ⟨zs[k], by simpa using hl, hR (h.2 _ (List.getElem_mem hk)).1 (h.2 _ (List.getElem_mem hk)).2⟩
theorem notNil_ptr (ad : Addr) : NotNil (.pointer (some ad)) := .inl ⟨ad, rfl⟩
/-- block b is a source of draws over the bytes zs, which the world wb holds -/
def Src (wb : World) (b : Nat) (v : Value) (zs : List Int) (w : World) : Prop :=
  Ext wb w ∧ wb.heap.size ≤ b ∧ RB wb v zs ∧ ∃ (at_ : Nat) (seed : Int), w.heap[b]? = some (.cells #[v, .int .i64 at_, .int .i64 seed] 72 (0, 0)) ∧ at_ ≤ zs.length ∧ 0 ≤ seed ∧ seed < 2147483647
section
variable {wb w w' : World} {b : Nat} {v : Value} {zs : List Int}
theorem Src.ext (h : Src wb b v zs w) (e : Ext w w') : Src wb b v zs w' := by
  obtain ⟨h1, h2, h3, a, s, hc, r⟩ := h
  exact ⟨h1.trans e, h2, h3, a, s, (e.block _ (heap_lt hc)).trans hc, r⟩
theorem Src.lt (h : Src wb b v zs w) : b < w.heap.size := by
  obtain ⟨h1, h2, h3, a, s, hc, r⟩ := h
  exact heap_lt hc
end
theorem pres_bxs {K : Nat → Prop} {w W W' : World} {T : TypeId} (h : Pres K w W) (x : BxS w.heap.size T W W') : Pres K w W' :=
  ⟨x.os.trans h.os, x.tape.trans h.tape, x.output.trans h.output, by rw [x.size]; exact h.size, fun b hb hK => (x.low b hb).trans (h.block b hb hK)⟩
theorem Src.bxs {wb w W W' : World} {b : Nat} {v : Value} {zs : List Int} {T : TypeId} (h : Src wb b v zs W) (hw : wb.heap.size ≤ w.heap.size) (x : BxS w.heap.size T W W') (hT : 72 ≠ T) : Src wb b v zs W' := by
  obtain ⟨h1, h2, h3, a, s, hc, r⟩ := h
  refine ⟨⟨x.os.trans h1.os, x.tape.trans h1.tape, x.output.trans h1.output, by rw [x.size]; exact h1.size, fun k hk => (x.low k (by omega)).trans (h1.block k hk)⟩, h2, h3, a, s, (x.block b fun cs fz hh => ?_).trans hc, r⟩
  rw [hc] at hh
  injection hh with hh
  injection hh with _ he _
  exact hT he
theorem Src.keeps {wb w w' : World} {b : Nat} {v : Value} {zs : List Int} (h : Src wb b v zs w) (p : Pres (fun k => k ≠ b) w w') {n0 : Nat} {Ts : List TypeId} (hT : 72 ∉ Ts) : Keeps n0 Ts w w' := by
  obtain ⟨h1, h2, h3, a, s, hc, r⟩ := h
  refine p.keeps fun k cs T fz _ hh hTs => ?_
  rintro rfl
  rw [hc] at hh
  injection hh with hh
  injection hh with _ he _
  exact hT (he ▸ hTs)
abbrev spec_l01Next_k0 (Post : Value → World → Prop) (n30 : Int) (x31 : Addr) (x32 : Int) (x34 : Int) (w86 : World) : Prop :=
  ((((n30 % 2) = (0 : Int)) → NotNil (Value.pointer (some x31)) ∧ ∃ ad87 : Addr, (Value.pointer (some x31)) = Value.pointer (some ad87) ∧ ∃ u88 : Value, LdV w86 (Value.pointer (some (ad87.add 0))) u88 ∧ NotNil (Value.pointer (some x31)) ∧ ∃ ad89 : Addr, (Value.pointer (some x31)) = Value.pointer (some ad89) ∧ ∃ n90 : Int, LdV w86 (Value.pointer (some (ad89.add 1))) (Value.int .i64 n90) ∧ I64 (n90 - 1) ∧ IxV 1 u88 (n90 - 1) (fun ad91 => ∃ n92 : Int, LdV w86 (Value.pointer (some ad91)) (Value.int .u8 n92) ∧ I64 n92 ∧ ∀ w93 : World, Ext w86 w93 → 0 ≤ n92 ∧ 0 < x32 ∧ Post (Value.int .i64 (n92 % x32)) w93)) ∧ (¬ ((n30 % 2) = (0 : Int)) → 0 ≤ x34 ∧ 0 < x32 ∧ Post (Value.int .i64 (x34 % x32)) w86))
abbrev spec_l01Next_k1 (w : World) (Post : Value → World → Prop) (x1 : Addr) (x2 : Int) (w5 : World) : Prop :=
  NotNil (Value.pointer (some x1)) ∧ ∃ ad6 : Addr, (Value.pointer (some x1)) = Value.pointer (some ad6) ∧ ∃ n7 : Int, LdV w5 (Value.pointer (some (ad6.add 2))) (Value.int .i64 n7) ∧ I64 (n7 * 48271) ∧ I64 ((n7 * 48271) + 29) ∧ 0 ≤ ((n7 * 48271) + 29) ∧ 0 < (2147483647 : Int) ∧ NotNil (Value.pointer (some x1)) ∧ ∃ ad8 : Addr, (Value.pointer (some x1)) = Value.pointer (some ad8) ∧ StV w.heap.size [] w5 (Value.pointer (some (ad8.add 2))) (Value.int .i64 (((n7 * 48271) + 29) % 2147483647)) (fun w9 => NotNil (Value.pointer (some x1)) ∧ ∃ ad10 : Addr, (Value.pointer (some x1)) = Value.pointer (some ad10) ∧ ∃ n11 : Int, LdV w9 (Value.pointer (some (ad10.add 2))) (Value.int .i64 n11) ∧ 0 ≤ n11 ∧ I64 n11 ∧ 0 < (31 : Int) ∧ NotNil (Value.pointer (some x1)) ∧ ∃ ad12 : Addr, (Value.pointer (some x1)) = Value.pointer (some ad12) ∧ ∃ n13 : Int, LdV w9 (Value.pointer (some (ad12.add 1))) (Value.int .i64 n13) ∧ NotNil (Value.pointer (some x1)) ∧ ∃ ad14 : Addr, (Value.pointer (some x1)) = Value.pointer (some ad14) ∧ ∃ u15 : Value, LdV w9 (Value.pointer (some (ad14.add 0))) u15 ∧ LenV u15 (fun n16 => ∀ w17 : World, Ext w9 w17 → (((n13 < n16) → NotNil (Value.pointer (some x1)) ∧ ∃ ad18 : Addr, (Value.pointer (some x1)) = Value.pointer (some ad18) ∧ ∃ u19 : Value, LdV w17 (Value.pointer (some (ad18.add 0))) u19 ∧ NotNil (Value.pointer (some x1)) ∧ ∃ ad20 : Addr, (Value.pointer (some x1)) = Value.pointer (some ad20) ∧ ∃ n21 : Int, LdV w17 (Value.pointer (some (ad20.add 1))) (Value.int .i64 n21) ∧ IxV 1 u19 n21 (fun ad22 => ∃ n23 : Int, LdV w17 (Value.pointer (some ad22)) (Value.int .u8 n23) ∧ I64 n23 ∧ I64 ((n11 / 31) + n23) ∧ ∀ w24 : World, Ext w17 w24 → NotNil (Value.pointer (some x1)) ∧ ∃ ad25 : Addr, (Value.pointer (some x1)) = Value.pointer (some ad25) ∧ ∃ n26 : Int, LdV w24 (Value.pointer (some (ad25.add 1))) (Value.int .i64 n26) ∧ I64 (n26 + 1) ∧ NotNil (Value.pointer (some x1)) ∧ ∃ ad27 : Addr, (Value.pointer (some x1)) = Value.pointer (some ad27) ∧ StV w.heap.size [] w24 (Value.pointer (some (ad27.add 1))) (Value.int .i64 (n26 + 1)) (fun w28 => (((x2 ≤ (256 : Int)) → NotNil (Value.pointer (some x1)) ∧ ∃ ad29 : Addr, (Value.pointer (some x1)) = Value.pointer (some ad29) ∧ ∃ n30 : Int, LdV w28 (Value.pointer (some (ad29.add 1))) (Value.int .i64 n30) ∧ 0 ≤ n30 ∧ 0 < (2 : Int) ∧ (spec_l01Next_k0 Post n30 x1 x2 ((n11 / 31) + n23) w28)) ∧ (¬ (x2 ≤ (256 : Int)) → 0 ≤ ((n11 / 31) + n23) ∧ 0 < x2 ∧ Post (Value.int .i64 (((n11 / 31) + n23) % x2)) w28))))) ∧ (¬ (n13 < n16) → 0 ≤ (n11 / 31) ∧ 0 < x2 ∧ Post (Value.int .i64 ((n11 / 31) % x2)) w17))))
def spec_l01Next_vc (p : Addr) (n : Int) (w : World) (Post : Value → World → Prop) : Prop :=
  (((n ≤ (1 : Int)) → Post (Value.int .i64 0) w) ∧ (¬ (n ≤ (1 : Int)) → (spec_l01Next_k1 w Post p n w)))
theorem spec_l01Next_eq (p : Addr) (n : Int) (w : World) (Post : Value → World → Prop) : denF Tryz.prog [] noAnn 24 [(Value.pointer (some p)), (Value.int .i64 n)] w Post = spec_l01Next_vc p n w Post := by kernel_rfl
set_option maxRecDepth 100000 in
theorem spec_l01Next_calls (p : Addr) (n : Int) (w : World) (Post : Value → World → Prop) (hvc : spec_l01Next_vc p n w Post) : Ret Tryz.prog 24 #[(Value.pointer (some p)), (Value.int .i64 n)] w Post :=
  Ret.of (denF_sound mixed (Eq.mpr (spec_l01Next_eq p n w Post) hvc))

theorem spec_l01Next_ret (wb : World) (b : Nat) (v : Value) (zs : List Int) (n : Int) (w : World) (hs : Src wb b v zs w) : Ret Tryz.prog 24 #[.pointer (some ⟨b, 0, none⟩), .int .i64 n] w fun r w' => ∃ x : Int, r = .int .i64 x ∧ 0 ≤ x ∧ (x = 0 ∨ x < n) ∧ Src wb b v zs w' ∧ Pres (fun k => k ≠ b) w w' :=
  spec_l01Next_calls ⟨b, 0, none⟩ n w _ (by
    unfold spec_l01Next_vc
    refine ⟨fun h1 => ⟨0, rfl, Int.le_refl _, .inl rfl, hs, .refl _ w⟩, fun hn => ?_⟩
    obtain ⟨e0, hb, hz, a, s, c0, ha, s0, s1⟩ := id hs
    have hlen := hz.1.bound
    rw [List.length_map] at hlen
    refine ⟨notNil_ptr _, _, rfl, s, ld_at c0 2 rfl, by unfold I64; omega, by unfold I64; omega, by omega, by decide, notNil_ptr _, _, rfl, ?_⟩
    refine st_at c0 2 (by simp) rfl (.inr (by simp)) fun w1 c1 p1 z1 => ?_
    have e1 : Ext wb w1 := p1.ext e0 fun b' hb' => by omega
    have hx : 0 ≤ (s * 48271 + 29) % 2147483647 ∧ (s * 48271 + 29) % 2147483647 < 2147483647 := by omega
    generalize (s * 48271 + 29) % 2147483647 = s2 at *
    refine ⟨notNil_ptr _, _, rfl, s2, ld_at c1 2 rfl, hx.1, by unfold I64; omega, by decide, notNil_ptr _, _, rfl, (a : Int), ld_at c1 1 rfl, notNil_ptr _, _, rfl, v, ld_at c1 0 rfl, (hz.ext e1).len fun w2 h2 => ?_⟩
    have c2 := (h2.block _ (heap_lt c1)).trans c1
    have e2 := e1.trans h2
    have P2 : Pres (fun k => k ≠ b) w w2 := p1.trans (h2.pres _)
    have hmod : ∀ y : Int, 0 ≤ y → 0 ≤ y % n ∧ y % n < n := fun y hy => ⟨Int.emod_nonneg _ (by omega), Int.emod_lt_of_pos _ (by omega)⟩
    refine ⟨fun hlt => ?_, fun hge => ⟨by omega, by omega, _, rfl, (hmod _ (by omega)).1, .inr (hmod _ (by omega)).2, ⟨e2, hb, hz, a, s2, c2, ha, hx.1, hx.2⟩, P2⟩⟩
    have hlt' : a < zs.length := by omega
    refine ⟨notNil_ptr _, _, rfl, v, ld_at c2 0 rfl, notNil_ptr _, _, rfl, (a : Int), ld_at c2 1 rfl, (hz.ext e2).get a rfl hlt' fun p0 p1' => ⟨by unfold I64; omega, by unfold I64; omega, fun w3 h3 => ?_⟩⟩
    have c3 := (h3.block _ (heap_lt c2)).trans c2
    refine ⟨notNil_ptr _, _, rfl, (a : Int), ld_at c3 1 rfl, by unfold I64; omega, notNil_ptr _, _, rfl, ?_⟩
    refine st_at c3 1 (by simp) rfl (.inr (by simp)) fun w4 c4 p4 z4 => ?_
    have e4 : Ext wb w4 := p4.ext (e2.trans h3) fun b' hb' => by omega
    have P4 : Pres (fun k => k ≠ b) w w4 := (P2.trans (h3.pres _)).trans p4
    have c4' : w4.heap[b]? = some (.cells #[v, .int .i64 ((a + 1 : Nat) : Int), .int .i64 s2] 72 (0, 0)) := c4
    have S4 : Src wb b v zs w4 := ⟨e4, hb, hz, a + 1, s2, c4', by omega, hx.1, hx.2⟩
    refine ⟨fun _ => ⟨notNil_ptr _, _, rfl, ((a + 1 : Nat) : Int), ld_at c4' 1 rfl, by omega, by decide, fun _ => ?_, fun _ => ⟨by omega, by omega, _, rfl, (hmod _ (by omega)).1, .inr (hmod _ (by omega)).2, S4, P4⟩⟩, fun _ => ⟨by omega, by omega, _, rfl, (hmod _ (by omega)).1, .inr (hmod _ (by omega)).2, S4, P4⟩⟩
    refine ⟨notNil_ptr _, _, rfl, v, ld_at c4' 0 rfl, notNil_ptr _, _, rfl, ((a + 1 : Nat) : Int), ld_at c4' 1 rfl, by unfold I64; omega, (hz.ext e4).get a (by omega) hlt' fun p0 p1' => ⟨by unfold I64; omega, fun w5 h5 => ⟨p0, by omega, _, rfl, (hmod _ p0).1, .inr (hmod _ p0).2, S4.ext h5, P4.trans (h5.pres _)⟩⟩⟩)
def spec_l01Pick_vc (p : Addr) (v : Value) (w : World) (Post : Value → World → Prop) : Prop :=
  LenV v (fun n1 => Calls Tryz.prog 24 #[(Value.pointer (some p)), (Value.int .i64 n1)] w (fun e2 w3 => ∃ n4 : Int, e2 = .returned (Value.int .i64 n4) ∧ Keeps w.heap.size [] w w3 ∧ IxV 1 v n4 (fun ad5 => ∃ n6 : Int, LdV w3 (Value.pointer (some ad5)) (Value.int .i64 n6) ∧ Post (Value.int .i64 n6) w3)))
theorem spec_l01Pick_eq (p : Addr) (v : Value) (w : World) (Post : Value → World → Prop) : denF Tryz.prog [] noAnn 25 [(Value.pointer (some p)), v] w Post = spec_l01Pick_vc p v w Post := by kernel_rfl
set_option maxRecDepth 100000 in
theorem spec_l01Pick_calls (p : Addr) (v : Value) (w : World) (Post : Value → World → Prop) (hvc : spec_l01Pick_vc p v w Post) : Ret Tryz.prog 25 #[(Value.pointer (some p)), v] w Post :=
  Ret.of (denF_sound mixed (Eq.mpr (spec_l01Pick_eq p v w Post) hvc))

theorem spec_l01Pick_ret (wb : World) (b : Nat) (cv : Value) (zs : List Int) (v : Value) (xs : List Int) (w : World) (hs : Src wb b cv zs w) (hv : ∀ w', Pres (fun k => k ≠ b) w w' → RI w' v xs) (hx : 0 < xs.length) :
    Ret Tryz.prog 25 #[.pointer (some ⟨b, 0, none⟩), v] w fun r w' => ∃ x ∈ xs, r = .int .i64 x ∧ Src wb b cv zs w' ∧ Pres (fun k => k ≠ b) w w' :=
  spec_l01Pick_calls ⟨b, 0, none⟩ v w _ (by
    unfold spec_l01Pick_vc
    refine (hv w (.refl _ w)).len ?_
    refine (spec_l01Next_ret wb b cv zs _ w hs).call ?_
    rintro _ w1 ⟨x, rfl, x0, x1, s1, p1⟩
    refine ⟨x, rfl, hs.keeps p1 (by decide), ?_⟩
    refine (hv w1 p1).get x.toNat (by omega) (by omega) ?_
    exact ⟨_, List.getElem_mem (by omega), rfl, s1, p1⟩)
end Go.Proofs
end
section
set_option linter.unusedVariables false
namespace Go.Proofs
open Go.Sx Go.RowKit
def spec_l01From_A (v : Value) (w : World) : Nat → Ann := fun κ => match κ with
  | 0 => { σ := Nat, sli := [4], slc := fun s => [SV.v (Value.int .i64 (s : Int))], bxi := [], bxc := fun s => [], inv := fun s W => True, μ := fun s W => 0, free := true }
  | _ => { σ := Unit, sli := [], slc := fun _ => [], bxi := [], bxc := fun _ => [], inv := fun _ _ => False, μ := fun _ _ => 0 }
abbrev spec_l01From_k0 (v : Value) (w : World) (b2 : Nat) (s4 : Nat) (w5 : World) (J6 : Nat → World → Prop) (m7 : Nat → World → Nat) (x15 : Int) (w20 : World) : Prop :=
  ∀ w21 : World, Ext w20 w21 → NotNil (Value.pointer (some (⟨b2, 0, none⟩))) ∧ ∃ ad22 : Addr, (Value.pointer (some (⟨b2, 0, none⟩))) = Value.pointer (some ad22) ∧ ∃ n23 : Int, LdV w21 (Value.pointer (some (ad22.add 2))) (Value.int .i64 n23) ∧ I64 (n23 * 67) ∧ IxV 1 v x15 (fun ad24 => ∃ n25 : Int, LdV w21 (Value.pointer (some ad24)) (Value.int .u8 n25) ∧ I64 n25 ∧ I64 ((n23 * 67) + n25) ∧ 0 ≤ ((n23 * 67) + n25) ∧ 0 < (2147483647 : Int) ∧ NotNil (Value.pointer (some (⟨b2, 0, none⟩))) ∧ ∃ ad26 : Addr, (Value.pointer (some (⟨b2, 0, none⟩))) = Value.pointer (some ad26) ∧ StV w.heap.size [] w21 (Value.pointer (some (ad26.add 2))) (Value.int .i64 (((n23 * 67) + n25) % 2147483647)) (fun w27 => I64 (x15 + 1) ∧ ∃ s28 : Nat, (Value.int .i64 (x15 + 1)) = (Value.int .i64 (s28 : Int)) ∧ (J6 s28 w27) ∧ (m7 s28 w27) < (m7 s4 w5)))
abbrev spec_l01From_k1 (v : Value) (w : World) (Post : Value → World → Prop) (b2 : Nat) (s4 : Nat) (w5 : World) (J6 : Nat → World → Prop) (m7 : Nat → World → Nat) (x9 : Int) (w14 : World) : Prop :=
  ((((s4 : Int) < (64 : Int)) → (spec_l01From_k0 v w b2 s4 w5 J6 m7 x9 w14)) ∧ (¬ ((s4 : Int) < (64 : Int)) → Post (Value.pointer (some (⟨b2, 0, none⟩))) w14))
def spec_l01From_vc (v : Value) (w : World) (Post : Value → World → Prop) : Prop :=
  oneC v (oneC v (∀ (b2 : Nat) (w1 : World), Ext w w1 → w.heap.size ≤ b2 → w1.heap[b2]? = some (.cells #[v, (Value.int .i64 0), (Value.int .i64 30011)] 72 (0, 0)) → (∃ (J6 : Nat → World → Prop) (m7 : Nat → World → Nat), ((∃ s3 : Nat, (Value.int .i64 0) = (Value.int .i64 (s3 : Int)) ∧ (J6 s3 w1)) ∧ ∀ (s4 : Nat) (w5 : World), (J6 s4 w5) → LenV v (fun n8 => ((((s4 : Int) < n8) → (spec_l01From_k1 v w Post b2 s4 w5 J6 m7 (s4 : Int) w5)) ∧ (¬ ((s4 : Int) < n8) → Post (Value.pointer (some (⟨b2, 0, none⟩))) w5)))))))
theorem spec_l01From_eq (v : Value) (w : World) (Post : Value → World → Prop) : denF Tryz.prog [7, 9700000] (spec_l01From_A v w) 19 [v] w Post = spec_l01From_vc v w Post := by kernel_rfl
set_option maxRecDepth 100000 in
theorem spec_l01From_calls (v : Value) (w : World) (Post : Value → World → Prop) (hvc : spec_l01From_vc v w Post) : Ret Tryz.prog 19 #[v] w Post :=
  Ret.of (denF_sound mixed (Eq.mpr (spec_l01From_eq v w Post) hvc))

theorem spec_l01From_ret (v : Value) (zs : List Int) (w : World) (h : RB w v zs) : Ret Tryz.prog 19 #[v] w fun r w' => ∃ b, r = .pointer (some ⟨b, 0, none⟩) ∧ Src w b v zs w' :=
  spec_l01From_calls v w _ (by
    unfold spec_l01From_vc
    refine h.oneC (h.oneC fun b w1 h1 g1 c1 => ?_)
    refine ⟨fun k W => k ≤ 64 ∧ Src w b v zs W, fun k _ => 64 - k, ⟨0, rfl, Nat.zero_le _, h1, g1, h, 0, 30011, c1, Nat.zero_le _, by decide, by decide⟩, ?_⟩
    rintro k w2 ⟨hk, hs⟩
    obtain ⟨e2, _, _, a, s, c2, ha, s0, s1⟩ := id hs
    refine (h.ext e2).len ⟨fun hlt => ⟨fun h64 => ?_, fun _ => ⟨b, rfl, hs⟩⟩, fun _ => ⟨b, rfl, hs⟩⟩
    intro w3 h3
    have c3 := (h3.block _ (heap_lt c2)).trans c2
    refine ⟨notNil_ptr _, _, rfl, s, ld_at c3 2 rfl, by unfold I64; omega, (h.ext (e2.trans h3)).get k rfl (by omega) fun p0 p1 => ⟨by unfold I64; omega, by unfold I64; omega, by omega, by decide, notNil_ptr _, _, rfl, ?_⟩⟩
    refine st_at c3 2 (by simp) rfl (.inr (by simp)) fun w4 c4 p4 z4 => ⟨by unfold I64; omega, k + 1, rfl, ⟨by omega, p4.ext (e2.trans h3) fun b' hb' => by omega, g1, h, a, _, c4, ha, by omega, by omega⟩, by simp only; omega⟩)
end Go.Proofs
end
section
set_option linter.unusedVariables false
namespace Go.Sx
theorem Own.dr {w w' : World} {b : Nat} {B : Nat} {e : TypeId} {u : Value} {xs : List Value} (h : Own B w e u xs) (p : Pres (fun k => k ≠ b) w w') (hb : b < B) : Own B w' e u xs :=
  h.keep fun k hk => p.block k (h.lt hk).2 (by have := (h.lt hk).1; omega)
end Go.Sx
namespace Go.Proofs
open Go.Sx Go.RowKit
/-- a source in use: since w0 only its block has turned -/
def Dr (wb : World) (b : Nat) (v : Value) (zs : List Int) (w0 w : World) : Prop := Src wb b v zs w ∧ Pres (fun k => k ≠ b) w0 w ∧ b < w0.heap.size
section
variable {wb w0 w w' : World} {b : Nat} {v : Value} {zs : List Int}
theorem Src.dr (h : Src wb b v zs w) : Dr wb b v zs w w := ⟨h, .refl _ w, h.lt⟩
theorem Dr.ext (h : Dr wb b v zs w0 w) (e : Ext w w') : Dr wb b v zs w0 w' := ⟨h.1.ext e, h.2.1.trans (e.pres _), h.2.2⟩
theorem Dr.base (h : Dr wb b v zs w0 w) : Ext wb w := h.1.1
theorem Dr.size (h : Dr wb b v zs w0 w) : w0.heap.size ≤ w.heap.size := h.2.1.size
theorem Dr.low (h : Dr wb b v zs w0 w) {B : Nat} (p : Pres (fun k => k < B) w w') (hB : w0.heap.size ≤ B) : Dr wb b v zs w0 w' := by
  obtain ⟨⟨h1, h2, h3, a, s, hc, r⟩, hp, hb⟩ := h
  exact ⟨⟨p.ext h1 fun k hk => by omega, h2, h3, a, s, (p.block _ (heap_lt hc) (by omega)).trans hc, r⟩,
    ⟨p.os.trans hp.os, p.tape.trans hp.tape, p.output.trans hp.output, Nat.le_trans hp.size p.size, fun k hk hne => (p.block k (Nat.lt_of_lt_of_le hk hp.size) (by omega)).trans (hp.block k hk hne)⟩, hb⟩
theorem Dr.grown (h : Dr wb b v zs w0 w) {B : Nat} {e : TypeId} {u : Value} {xs : List Value} (ho : Own B w e u xs) (hB : w0.heap.size ≤ B) (g : w.grownBy w' u.ownBlock) : Dr wb b v zs w0 w' :=
  h.low (grown_pres g fun k hk hlt => by have := (ho.lt hk).1; omega) hB
theorem Dr.bxs (h : Dr wb b v zs w0 w) {T : TypeId} (x : BxS w0.heap.size T w w') : Dr wb b v zs w0 w' :=
  h.low ⟨x.os, x.tape, x.output, by rw [x.size]; exact Nat.le_refl _, fun k hk hlt => x.low k hlt⟩ (Nat.le_refl _)
/-- what a draw of a number gives -/
def DrI (wb : World) (b : Nat) (v : Value) (zs : List Int) (f : FuncId) (args : Array Value) (w : World) (φ : Int → Prop) : Prop :=
  Ret Tryz.prog f args w fun r w' => ∃ x : Int, r = .int .i64 x ∧ φ x ∧ Src wb b v zs w' ∧ Pres (fun k => k ≠ b) w w'
theorem Dr.step (h : Dr wb b v zs w0 w) (s : Src wb b v zs w') (p : Pres (fun k => k ≠ b) w w') : Dr wb b v zs w0 w' := ⟨s, h.2.1.trans p, h.2.2⟩
theorem Dr.int (h : Dr wb b v zs w0 w) {f : FuncId} {args : Array Value} {φ : Int → Prop} (hr : DrI wb b v zs f args w φ) {n0 : Nat} {Ts : List TypeId} (hT : 72 ∉ Ts) {G : Ending → World → Int → Prop}
    (hg : ∀ (x : Int) (w' : World), φ x → Dr wb b v zs w0 w' → Pres (fun k => k ≠ b) w w' → G (.returned (.int .i64 x)) w' x) : Calls Tryz.prog f args w fun e w' => ∃ x : Int, e = .returned (.int .i64 x) ∧ Keeps n0 Ts w w' ∧ G e w' x :=
  hr.call (by
    rintro _ w' ⟨x, rfl, hx, s, p⟩
    exact ⟨x, rfl, h.1.keeps p hT, hg x w' hx (h.step s p) p⟩)
/-- 'l01Next(s, n)' -/
theorem Dr.next (h : Dr wb b v zs w0 w) (n : Int) {n0 : Nat} {Ts : List TypeId} (hT : 72 ∉ Ts) {G : Int → World → Prop}
    (hg : ∀ (x : Int) (w' : World), 0 ≤ x → (x = 0 ∨ x < n) → Dr wb b v zs w0 w' → Pres (fun k => k ≠ b) w w' → G x w') : Calls Tryz.prog 24 #[.pointer (some ⟨b, 0, none⟩), .int .i64 n] w fun e w' => ∃ x : Int, e = .returned (.int .i64 x) ∧ Keeps n0 Ts w w' ∧ G x w' :=
  (spec_l01Next_ret wb b v zs n w h.1).call (by
    rintro _ w' ⟨x, rfl, x0, x1, s, p⟩
    exact ⟨x, rfl, h.1.keeps p hT, hg x w' x0 x1 (h.step s p) p⟩)
/-- 'l01Pick(s, ..)' -/
theorem Dr.pick (h : Dr wb b v zs w0 w) {B : Nat} {u : Value} (xs : List Int) (hu : Own B w 2 u (ints xs)) (hb : w0.heap.size ≤ B) (hx : 0 < xs.length) {n0 : Nat} {Ts : List TypeId} (hT : 72 ∉ Ts) {G : Int → World → Prop}
    (hg : ∀ (x : Int) (w' : World), x ∈ xs → Dr wb b v zs w0 w' → Pres (fun k => k ≠ b) w w' → G x w') : Calls Tryz.prog 25 #[.pointer (some ⟨b, 0, none⟩), u] w fun e w' => ∃ x : Int, e = .returned (.int .i64 x) ∧ Keeps n0 Ts w w' ∧ G x w' :=
  (spec_l01Pick_ret wb b v zs u xs w h.1 (fun w' p => (hu.dr p (by have := h.2.2; omega)).rd) hx).call (by
    rintro _ w' ⟨x, hm, rfl, s, p⟩
    exact ⟨x, rfl, h.1.keeps p hT, hg x w' hm (h.step s p) p⟩)
/-- 'append(out, n)' -/
theorem Dr.push (h : Dr wb b v zs w0 w) {B C : Nat} {u r : Value} {xs : List Int} {n : Int} (ho : Own B w 2 u (ints xs)) (hr : Own C w 2 r [.int .i64 n]) (hB : w0.heap.size ≤ B) (hBw : B ≤ w.heap.size) (hl : xs.length < 4398046511104) {K : Value → World → Prop}
    (hK : ∀ u' w', Dr wb b v zs w0 w' → Own B w' 2 u' (ints (xs ++ [n])) → w.heap.size ≤ w'.heap.size → K u' w') : AppV w 2 u r K :=
  ho.app1 hr rfl (by simpa using hl) hBw fun u' w' o g _ => hK u' w' (h.grown ho hB g) (by rw [ints_append]; exact o) g.size
end
theorem mem6 {a b c d e f x : Int} (h : x ∈ [a, b, c, d, e, f]) : x = a ∨ x = b ∨ x = c ∨ x = d ∨ x = e ∨ x = f := by simpa using h
theorem mem3 {a b c x : Int} (h : x ∈ [a, b, c]) : x = a ∨ x = b ∨ x = c := by simpa using h
theorem mem5 {a b c d e x : Int} (h : x ∈ [a, b, c, d, e]) : x = a ∨ x = b ∨ x = c ∨ x = d ∨ x = e := by simpa using h
/-- the source is made: what follows draws from it -/
theorem from_call {cv : Value} {zs : List Int} {w : World} (h : RB w cv zs) {n0 : Nat} {Ts : List TypeId} (hn : n0 ≤ n0) {G : Addr → World → Prop} (hg : ∀ b w', Ext w w' → Dr w b cv zs w' w' → G ⟨b, 0, none⟩ w') :
    Calls Tryz.prog 19 #[cv] w fun e w' => ∃ p : Addr, e = .returned (.pointer (some p)) ∧ Keeps n0 Ts w w' ∧ G p w' :=
  (spec_l01From_ret cv zs w h).call (by
    rintro _ w' ⟨b, rfl, s⟩
    exact ⟨_, rfl, s.1.keeps, hg b w' s.1 s.dr⟩)
end Go.Proofs
end
section
set_option linter.unusedVariables false
namespace Go.Proofs
open Go.Sx Go.RowKit
def spec_l02Valid_vc (p : Addr) (w : World) (Post : Value → World → Prop) : Prop :=
  ∀ w1 : World, Ext w w1 → Calls Tryz.prog 24 #[(Value.pointer (some p)), (Value.int .i64 3)] w1 (fun e2 w3 => ∃ n4 : Int, e2 = .returned (Value.int .i64 n4) ∧ Keeps w.heap.size [25] w1 w3 ∧ I64 (2 + n4) ∧ Calls Tryz.prog 24 #[(Value.pointer (some p)), (Value.int .i64 3)] w3 (fun e5 w6 => ∃ n7 : Int, e5 = .returned (Value.int .i64 n7) ∧ Keeps w.heap.size [25] w3 w6 ∧ I64 (2 + n7) ∧ ∀ w8 : World, Ext w6 w8 → ∀ w9 : World, BxS w.heap.size 25 w8 w9 → I64 ((2 + n7) - 1) ∧ Calls Tryz.prog 24 #[(Value.pointer (some p)), (Value.int .i64 ((2 + n7) - 1))] w9 (fun e10 w11 => ∃ n12 : Int, e10 = .returned (Value.int .i64 n12) ∧ Keeps w.heap.size [25, 25] w9 w11 ∧ I64 (1 + n12) ∧ ∀ w13 : World, BxS w.heap.size 25 w11 w13 → Calls Tryz.prog 24 #[(Value.pointer (some p)), (Value.int .i64 (2 + n4))] w13 (fun e14 w15 => ∃ n16 : Int, e14 = .returned (Value.int .i64 n16) ∧ Keeps w.heap.size [25, 25] w13 w15 ∧ I64 (1 + n16) ∧ ∀ w17 : World, BxS w.heap.size 25 w15 w17 → Calls Tryz.prog 24 #[(Value.pointer (some p)), (Value.int .i64 (min (min 2 (2 + n4)) (2 + n7)))] w17 (fun e18 w19 => ∃ n20 : Int, e18 = .returned (Value.int .i64 n20) ∧ Keeps w.heap.size [25, 25] w17 w19 ∧ I64 (1 + n20) ∧ ∀ w21 : World, BxS w.heap.size 25 w19 w21 → ∀ w22 : World, BxS w.heap.size 25 w21 w22 → Post (Value.agg #[(Value.int .i64 (2 + n4)), (Value.int .i64 (2 + n7)), (Value.int .i64 (1 + n12)), (Value.int .i64 (1 + n16)), (Value.int .i64 (1 + n20))]) w22)))))
theorem spec_l02Valid_eq (p : Addr) (w : World) (Post : Value → World → Prop) : denF Tryz.prog [9700000, 9800000] noAnn 60 [(Value.pointer (some p))] w Post = spec_l02Valid_vc p w Post := by kernel_rfl
set_option maxRecDepth 100000 in
theorem spec_l02Valid_calls (p : Addr) (w : World) (Post : Value → World → Prop) (hvc : spec_l02Valid_vc p w Post) : Ret Tryz.prog 60 #[(Value.pointer (some p))] w Post :=
  Ret.of (denF_sound mixed (Eq.mpr (spec_l02Valid_eq p w Post) hvc))

theorem spec_l02Valid_ret (wb : World) (b : Nat) (cv : Value) (zs : List Int) (w : World) (hs : Src wb b cv zs w) :
    Ret Tryz.prog 60 #[.pointer (some ⟨b, 0, none⟩)] w fun r w' => ∃ c d s m l : Int, r = mkV c d s m l ∧ (2 ≤ c ∧ c ≤ 4) ∧ (2 ≤ d ∧ d ≤ 4) ∧ (1 ≤ s ∧ s ≤ d) ∧ (1 ≤ m ∧ m ≤ c) ∧ (1 ≤ l ∧ l ≤ 2) ∧ Src wb b cv zs w' ∧ Pres (fun k => k ≠ b) w w' :=
  spec_l02Valid_calls ⟨b, 0, none⟩ w _ (by
    unfold spec_l02Valid_vc
    have hw : wb.heap.size ≤ w.heap.size := hs.1.size
    intro w1 h1
    have s1 := hs.ext h1
    have q1 : Pres (fun k => k ≠ b) w w1 := h1.pres _
    refine (spec_l01Next_ret wb b cv zs 3 w1 s1).call ?_
    rintro _ w2 ⟨c, rfl, c0, c1, s2, p2⟩
    have q2 := q1.trans p2
    refine ⟨c, rfl, s1.keeps p2 (by decide), by unfold I64; omega, ?_⟩
    refine (spec_l01Next_ret wb b cv zs 3 w2 s2).call ?_
    rintro _ w3 ⟨d, rfl, d0, d1, s3, p3⟩
    have q3 := q2.trans p3
    refine ⟨d, rfl, s2.keeps p3 (by decide), by unfold I64; omega, fun w4 h4 w5 b5 => ⟨by unfold I64; omega, ?_⟩⟩
    have s5 := (s3.ext h4).bxs hw b5 (by decide)
    have q5 := pres_bxs (q3.trans (h4.pres _)) b5
    refine (spec_l01Next_ret wb b cv zs _ w5 s5).call ?_
    rintro _ w6 ⟨s, rfl, e0, e1, s6, p6⟩
    have q6 := q5.trans p6
    refine ⟨s, rfl, s5.keeps p6 (by decide), by unfold I64; omega, fun w7 b7 => ?_⟩
    have s7 := s6.bxs hw b7 (by decide)
    have q7 := pres_bxs q6 b7
    refine (spec_l01Next_ret wb b cv zs _ w7 s7).call ?_
    rintro _ w8 ⟨m, rfl, m0, m1, s8, p8⟩
    have q8 := q7.trans p8
    refine ⟨m, rfl, s7.keeps p8 (by decide), by unfold I64; omega, fun w9 b9 => ?_⟩
    have s9 := s8.bxs hw b9 (by decide)
    have q9 := pres_bxs q8 b9
    refine (spec_l01Next_ret wb b cv zs _ w9 s9).call ?_
    rintro _ w10 ⟨l, rfl, l0, l1, s10, p10⟩
    have q10 := q9.trans p10
    refine ⟨l, rfl, s9.keeps p10 (by decide), by unfold I64; omega, fun w11 b11 w12 b12 => ?_⟩
    exact ⟨_, _, _, _, _, rfl, by omega, by omega, by omega, by omega, by omega, (s10.bxs hw b11 (by decide)).bxs hw b12 (by decide), pres_bxs (pres_bxs q10 b11) b12⟩)
end Go.Proofs
end
section
set_option linter.unusedVariables false
namespace Go.Proofs
open Go.Sx Go.RowKit
/-- a source in use in the function that made it -/
def Dq (wb : World) (b : Nat) (v : Value) (zs : List Int) (lo : Nat) (w : World) : Prop := Src wb b v zs w ∧ b < lo ∧ lo ≤ w.heap.size
section
variable {wb w w' : World} {b lo : Nat} {v : Value} {zs : List Int}
theorem Src.dq (h : Src wb b v zs w) : Dq wb b v zs w.heap.size w := ⟨h, h.lt, Nat.le_refl _⟩
theorem Dr.dq {w0 : World} (h : Dr wb b v zs w0 w) : Dq wb b v zs w0.heap.size w := ⟨h.1, h.2.2, h.size⟩
theorem Dq.ext (h : Dq wb b v zs lo w) (e : Ext w w') : Dq wb b v zs lo w' := ⟨h.1.ext e, h.2.1, Nat.le_trans h.2.2 e.size⟩
theorem Dq.base (h : Dq wb b v zs lo w) : Ext wb w := h.1.1
theorem Dq.step (h : Dq wb b v zs lo w) (s : Src wb b v zs w') (p : Pres (fun k => k ≠ b) w w') : Dq wb b v zs lo w' := ⟨s, h.2.1, Nat.le_trans h.2.2 p.size⟩
theorem Src.bxs' (h : Src wb b v zs w) {n0 : Nat} (hn : wb.heap.size ≤ n0) {T : TypeId} (x : BxS n0 T w w') (hT : 72 ≠ T) : Src wb b v zs w' := by
  obtain ⟨h1, h2, h3, a, s, hc, r⟩ := h
  refine ⟨⟨x.os.trans h1.os, x.tape.trans h1.tape, x.output.trans h1.output, by rw [x.size]; exact h1.size, fun k hk => (x.low k (by omega)).trans (h1.block k hk)⟩, h2, h3, a, s, (x.block b fun cs fz hh => ?_).trans hc, r⟩
  rw [hc] at hh
  injection hh with hh
  injection hh with _ he _
  exact hT he
/-- a box written: the base is the function's start -/
theorem Dq.bxs (h : Dq wb b v zs lo w) {n0 : Nat} (hn : wb.heap.size ≤ n0) {T : TypeId} (x : BxS n0 T w w') (hT : 72 ≠ T) : Dq wb b v zs lo w' :=
  ⟨h.1.bxs' hn x hT, h.2.1, by rw [x.size]; exact h.2.2⟩
theorem Dq.next (h : Dq wb b v zs lo w) (n : Int) {n0 : Nat} {Ts : List TypeId} (hT : 72 ∉ Ts) {G : Int → World → Prop}
    (hg : ∀ (x : Int) (w' : World), 0 ≤ x → (x = 0 ∨ x < n) → Dq wb b v zs lo w' → Pres (fun k => k ≠ b) w w' → Keeps n0 Ts w w' → G x w') : Calls Tryz.prog 24 #[.pointer (some ⟨b, 0, none⟩), .int .i64 n] w fun e w' => ∃ x : Int, e = .returned (.int .i64 x) ∧ Keeps n0 Ts w w' ∧ G x w' :=
  (spec_l01Next_ret wb b v zs n w h.1).call (by
    rintro _ w' ⟨x, rfl, x0, x1, s, p⟩
    exact ⟨x, rfl, h.1.keeps p hT, hg x w' x0 x1 (h.step s p) p (h.1.keeps p hT)⟩)
theorem Dq.pick (h : Dq wb b v zs lo w) {B : Nat} {u : Value} (xs : List Int) (hu : Own B w 2 u (ints xs)) (hb : lo ≤ B) (hx : 0 < xs.length) {n0 : Nat} {Ts : List TypeId} (hT : 72 ∉ Ts) {G : Int → World → Prop}
    (hg : ∀ (x : Int) (w' : World), x ∈ xs → Dq wb b v zs lo w' → Pres (fun k => k ≠ b) w w' → Keeps n0 Ts w w' → G x w') : Calls Tryz.prog 25 #[.pointer (some ⟨b, 0, none⟩), u] w fun e w' => ∃ x : Int, e = .returned (.int .i64 x) ∧ Keeps n0 Ts w w' ∧ G x w' :=
  (spec_l01Pick_ret wb b v zs u xs w h.1 (fun w' p => (hu.dr p (by have := h.2.1; omega)).rd) hx).call (by
    rintro _ w' ⟨x, hm, rfl, s, p⟩
    exact ⟨x, rfl, h.1.keeps p hT, hg x w' hm (h.step s p) p (h.1.keeps p hT)⟩)
/-- 'Keeps' from a world behind which only the source's block has turned -/
theorem Dq.kp (h : Dq wb b v zs lo w) (p : Pres (fun k => k ≠ b) w w') {n0 : Nat} {Ts : List TypeId} (hT : 72 ∉ Ts) : Keeps n0 Ts w w' := h.1.keeps p hT
end
/-- a drawn maker's numbers -/
def Sm (M : Mk) : Prop := (0 ≤ M.c ∧ M.c ≤ 9) ∧ (0 ≤ M.d ∧ M.d ≤ 9) ∧ (0 ≤ M.s ∧ M.s ≤ 9) ∧ (0 ≤ M.m ∧ M.m ≤ 9) ∧ (0 ≤ M.l ∧ M.l ≤ 9)
abbrev spec_l02Draw_k0 (w : World) (Post : Value → World → Prop) (x37 : Int) (x38 : Int) (x39 : Int) (x40 : Int) (x41 : Int) (w42 : World) : Prop :=
  ∀ w43 : World, BxS w.heap.size 25 w42 w43 → Post (Value.agg #[(Value.int .i64 x37), (Value.int .i64 x38), (Value.int .i64 x39), (Value.int .i64 x40), (Value.int .i64 x41)]) w43
def spec_l02Draw_vc (p : Addr) (w : World) (Post : Value → World → Prop) : Prop :=
  ∀ w1 : World, Ext w w1 → Calls Tryz.prog 60 #[(Value.pointer (some p))] w1 (fun e2 w3 => ∃ n4 : Int, ∃ n5 : Int, ∃ n6 : Int, ∃ n7 : Int, ∃ n8 : Int, e2 = .returned (Value.agg #[(Value.int .i64 n4), (Value.int .i64 n5), (Value.int .i64 n6), (Value.int .i64 n7), (Value.int .i64 n8)]) ∧ Keeps w.heap.size [25] w1 w3 ∧ ∀ w9 : World, Ext w3 w9 → ∀ w10 : World, BxS w.heap.size 25 w9 w10 → Calls Tryz.prog 24 #[(Value.pointer (some p)), (Value.int .i64 30)] w10 (fun e11 w12 => ∃ n13 : Int, e11 = .returned (Value.int .i64 n13) ∧ Keeps w.heap.size [25, 25] w10 w12 ∧ (((n13 = (0 : Int)) → ∀ (v14 : Value) (w15 : World), Sx.Own w12.heap.size w15 2 v14 [(Value.int .i64 1), (Value.int .i64 6), (Value.int .i64 7)] → Ext w12 w15 → Calls Tryz.prog 25 #[(Value.pointer (some p)), v14] w15 (fun e16 w17 => ∃ n18 : Int, e16 = .returned (Value.int .i64 n18) ∧ Keeps w.heap.size [25, 25] w15 w17 ∧ ∀ w19 : World, BxS w.heap.size 25 w17 w19 → (spec_l02Draw_k0 w Post n18 n5 n6 n7 n8 w19))) ∧ (¬ (n13 = (0 : Int)) → (((n13 = (1 : Int)) → ∀ (v44 : Value) (w45 : World), Sx.Own w12.heap.size w45 2 v44 [(Value.int .i64 1), (Value.int .i64 8), (Value.int .i64 9)] → Ext w12 w45 → Calls Tryz.prog 25 #[(Value.pointer (some p)), v44] w45 (fun e46 w47 => ∃ n48 : Int, e46 = .returned (Value.int .i64 n48) ∧ Keeps w.heap.size [25, 25] w45 w47 ∧ ∀ w49 : World, BxS w.heap.size 25 w47 w49 → (spec_l02Draw_k0 w Post n4 n48 n6 n7 n8 w49))) ∧ (¬ (n13 = (1 : Int)) → (((n13 = (2 : Int)) → I64 (n5 - 1) ∧ ∀ (v50 : Value) (w51 : World), Sx.Own w12.heap.size w51 2 v50 [(Value.int .i64 0), (Value.int .i64 (n5 - 1)), (Value.int .i64 n5)] → Ext w12 w51 → Calls Tryz.prog 25 #[(Value.pointer (some p)), v50] w51 (fun e52 w53 => ∃ n54 : Int, e52 = .returned (Value.int .i64 n54) ∧ Keeps w.heap.size [25, 25] w51 w53 ∧ ∀ w55 : World, BxS w.heap.size 25 w53 w55 → (spec_l02Draw_k0 w Post n4 n5 n54 n7 n8 w55))) ∧ (¬ (n13 = (2 : Int)) → (((n13 = (3 : Int)) → I64 (n4 + 1) ∧ ∀ (v56 : Value) (w57 : World), Sx.Own w12.heap.size w57 2 v56 [(Value.int .i64 0), (Value.int .i64 n4), (Value.int .i64 (n4 + 1))] → Ext w12 w57 → Calls Tryz.prog 25 #[(Value.pointer (some p)), v56] w57 (fun e58 w59 => ∃ n60 : Int, e58 = .returned (Value.int .i64 n60) ∧ Keeps w.heap.size [25, 25] w57 w59 ∧ ∀ w61 : World, BxS w.heap.size 25 w59 w61 → (spec_l02Draw_k0 w Post n4 n5 n6 n60 n8 w61))) ∧ (¬ (n13 = (3 : Int)) → (((n13 = (4 : Int)) → I64 ((min n4 n5) + 1) ∧ ∀ (v62 : Value) (w63 : World), Sx.Own w12.heap.size w63 2 v62 [(Value.int .i64 0), (Value.int .i64 (min n4 n5)), (Value.int .i64 ((min n4 n5) + 1))] → Ext w12 w63 → Calls Tryz.prog 25 #[(Value.pointer (some p)), v62] w63 (fun e64 w65 => ∃ n66 : Int, e64 = .returned (Value.int .i64 n66) ∧ Keeps w.heap.size [25, 25] w63 w65 ∧ ∀ w67 : World, BxS w.heap.size 25 w65 w67 → (spec_l02Draw_k0 w Post n4 n5 n6 n7 n66 w67))) ∧ (¬ (n13 = (4 : Int)) → (((n13 = (5 : Int)) → Calls Tryz.prog 24 #[(Value.pointer (some p)), (Value.int .i64 2)] w12 (fun e68 w69 => ∃ n70 : Int, e68 = .returned (Value.int .i64 n70) ∧ Keeps w.heap.size [25, 25] w12 w69 ∧ I64 (4 + n70) ∧ Calls Tryz.prog 24 #[(Value.pointer (some p)), (Value.int .i64 2)] w69 (fun e71 w72 => ∃ n73 : Int, e71 = .returned (Value.int .i64 n73) ∧ Keeps w.heap.size [25, 25] w69 w72 ∧ I64 (2 + n73) ∧ ∀ w74 : World, BxS w.heap.size 25 w72 w74 → Post (Value.agg #[(Value.int .i64 6), (Value.int .i64 (4 + n70)), (Value.int .i64 (2 + n73)), (Value.int .i64 2), (Value.int .i64 3)]) w74))) ∧ (¬ (n13 = (5 : Int)) → (spec_l02Draw_k0 w Post n4 n5 n6 n7 n8 w12)))))))))))))))
theorem spec_l02Draw_eq (p : Addr) (w : World) (Post : Value → World → Prop) : denF Tryz.prog [9400000, 9700000, 9800000] noAnn 40 [(Value.pointer (some p))] w Post = spec_l02Draw_vc p w Post := by kernel_rfl
set_option maxRecDepth 100000 in
theorem spec_l02Draw_calls (p : Addr) (w : World) (Post : Value → World → Prop) (hvc : spec_l02Draw_vc p w Post) : Ret Tryz.prog 40 #[(Value.pointer (some p))] w Post :=
  Ret.of (denF_sound mixed (Eq.mpr (spec_l02Draw_eq p w Post) hvc))

theorem spec_l02Draw_ret (wb : World) (b : Nat) (cv : Value) (zs : List Int) (w : World) (hs : Src wb b cv zs w) :
    Ret Tryz.prog 40 #[.pointer (some ⟨b, 0, none⟩)] w fun r w' => ∃ M : Mk, r = M.v ∧ Sm M ∧ Src wb b cv zs w' ∧ Pres (fun k => k ≠ b) w w' :=
  spec_l02Draw_calls ⟨b, 0, none⟩ w _ (by
    unfold spec_l02Draw_vc
    intro w1 h1
    have d1 := hs.dr.ext h1
    refine (spec_l02Valid_ret wb b cv zs w1 d1.1).call ?_
    rintro _ w2 ⟨c, d, s, m, l, rfl, hc, hd, hs', hm, hl, s2, p2⟩
    have d2 := d1.step s2 p2
    refine ⟨c, d, s, m, l, rfl, d1.1.keeps p2 (by simp), fun w3 h3 w4 b4 => ?_⟩
    have d4 := (d2.ext h3).bxs b4
    have fin : ∀ (c d s m l : Int) (W : World), Sm ⟨c, d, s, m, l⟩ → Dr wb b cv zs w W → ∀ w45, BxS w.heap.size 25 W w45 → ∃ M : Mk, mkV c d s m l = M.v ∧ Sm M ∧ Src wb b cv zs w45 ∧ Pres (fun k => k ≠ b) w w45 :=
      fun c d s m l W hS dW w45 b45 => ⟨⟨c, d, s, m, l⟩, rfl, hS, (dW.bxs b45).1, (dW.bxs b45).2.1⟩
    refine d4.next 30 (by simp) fun x w5 x0 x1 d5 p5 => ⟨fun _ v w6 o6 h6 => ?_, fun _ => ⟨fun _ v w6 o6 h6 => ?_, fun _ => ⟨fun _ => ⟨by unfold I64; omega, fun v w6 o6 h6 => ?_⟩, fun _ => ⟨fun _ => ⟨by unfold I64; omega, fun v w6 o6 h6 => ?_⟩, fun _ => ⟨fun _ => ⟨by unfold I64; omega, fun v w6 o6 h6 => ?_⟩, fun _ => ⟨fun _ => ?_, fun _ w6 b6 => ?_⟩⟩⟩⟩⟩⟩
    · refine (d5.ext h6).pick [1, 6, 7] o6 d5.size (by simp) (by simp) fun y w7 hy d7 p7 w8 b8 w9 b9 => fin _ _ _ _ _ w8 ?_ (d7.bxs b8) w9 b9
      have := mem3 hy
      exact ⟨by simp only; omega, by simp only; omega, by simp only; omega, by simp only; omega, by simp only; omega⟩
    · refine (d5.ext h6).pick [1, 8, 9] o6 d5.size (by simp) (by simp) fun y w7 hy d7 p7 w8 b8 w9 b9 => fin _ _ _ _ _ w8 ?_ (d7.bxs b8) w9 b9
      have := mem3 hy
      exact ⟨by simp only; omega, by simp only; omega, by simp only; omega, by simp only; omega, by simp only; omega⟩
    · refine (d5.ext h6).pick [0, d - 1, d] o6 d5.size (by simp) (by simp) fun y w7 hy d7 p7 w8 b8 w9 b9 => fin _ _ _ _ _ w8 ?_ (d7.bxs b8) w9 b9
      have := mem3 hy
      exact ⟨by simp only; omega, by simp only; omega, by simp only; omega, by simp only; omega, by simp only; omega⟩
    · refine (d5.ext h6).pick [0, c, c + 1] o6 d5.size (by simp) (by simp) fun y w7 hy d7 p7 w8 b8 w9 b9 => fin _ _ _ _ _ w8 ?_ (d7.bxs b8) w9 b9
      have := mem3 hy
      exact ⟨by simp only; omega, by simp only; omega, by simp only; omega, by simp only; omega, by simp only; omega⟩
    · refine (d5.ext h6).pick [0, min c d, min c d + 1] o6 d5.size (by simp) (by simp) fun y w7 hy d7 p7 w8 b8 w9 b9 => fin _ _ _ _ _ w8 ?_ (d7.bxs b8) w9 b9
      have := mem3 hy
      exact ⟨by simp only; omega, by simp only; omega, by simp only; omega, by simp only; omega, by simp only; omega⟩
    · refine d5.next 2 (by simp) fun y w6 y0 y1 d6 p6 => ⟨by unfold I64; omega, d6.next 2 (by simp) fun z w7 z0 z1 d7 p7 => ⟨by unfold I64; omega, fun w8 b8 => ⟨⟨6, 4 + y, 2 + z, 2, 3⟩, rfl, ?_, (d7.bxs b8).1, (d7.bxs b8).2.1⟩⟩⟩
      exact ⟨by simp only; omega, by simp only; omega, by simp only; omega, by simp only; omega, by simp only; omega⟩
    · exact fin c d s m l w5 ⟨by simp only; omega, by simp only; omega, by simp only; omega, by simp only; omega, by simp only; omega⟩ d5 w6 b6)
/-- what a draw of a list gives -/
def DrL (wb : World) (b : Nat) (v : Value) (zs : List Int) (f : FuncId) (args : Array Value) (w : World) : Prop :=
  Ret Tryz.prog f args w fun r w' => ∃ xs, Own w.heap.size w' 2 r (ints xs) ∧ Src wb b v zs w' ∧ Pres (fun k => k ≠ b) w w'
def spec_l02Some_A (p : Addr) (m_Chambers : Int) (m_Depths : Int) (m_Step : Int) (m_Same : Int) (m_Least : Int) (w : World) : Nat → Ann := fun κ => match κ with
  | 0 => { σ := Int × Value × List Int, sli := [6, 5], slc := fun s => [SV.v (Value.int .i64 s.1), SV.v s.2.1], bxi := [], bxc := fun s => [], inv := fun s W => True, μ := fun s W => 0, free := true }
  | _ => { σ := Unit, sli := [], slc := fun _ => [], bxi := [], bxc := fun _ => [], inv := fun _ _ => False, μ := fun _ _ => 0 }
abbrev spec_l02Some_k0 (p : Addr) (m_Depths : Int) (w : World) (s5 : Int × Value × List Int) (w6 : World) (J7 : (Int × Value × List Int) → World → Prop) (m8 : (Int × Value × List Int) → World → Nat) (x9 : Value) (x10 : Int) (w13 : World) : Prop :=
  Calls Tryz.prog 24 #[(Value.pointer (some p)), (Value.int .i64 m_Depths)] w13 (fun e14 w15 => ∃ n16 : Int, e14 = .returned (Value.int .i64 n16) ∧ Keeps w.heap.size [25] w13 w15 ∧ ∀ (v17 : Value) (w18 : World), Sx.Own w15.heap.size w18 2 v17 [(Value.int .i64 n16)] → Ext w15 w18 → AppV w18 2 x9 v17 (fun v19 w20 => I64 (x10 + 1) ∧ ∃ s21 : (Int × Value × List Int), (Value.int .i64 (x10 + 1)) = (Value.int .i64 s21.1) ∧ v19 = s21.2.1 ∧ (J7 s21 w20) ∧ (m8 s21 w20) < (m8 s5 w6)))
abbrev spec_l02Some_k1 (w : World) (Post : Value → World → Prop) (x28 : Value) (x33 : Int) (x34 : Int) (x35 : Int) (x36 : Int) (x37 : Int) (w38 : World) : Prop :=
  Calls Tryz.prog 72 #[(Value.agg #[(Value.int .i64 x33), (Value.int .i64 x34), (Value.int .i64 x35), (Value.int .i64 x36), (Value.int .i64 x37)]), x28] w38 (fun e39 w40 => ∃ u41 : Value, ∃ b42 : Bool, e39 = .returned (Value.tuple #[u41, (Value.bool b42)]) ∧ Keeps w.heap.size [25] w38 w40 ∧ (((!b42) = true → Calls Tryz.prog 73 #[(Value.agg #[(Value.int .i64 x33), (Value.int .i64 x34), (Value.int .i64 x35), (Value.int .i64 x36), (Value.int .i64 x37)]), (Value.slice none 0 0)] w40 (fun e43 w44 => ∃ u45 : Value, ∃ b46 : Bool, e43 = .returned (Value.tuple #[u45, (Value.bool b46)]) ∧ Keeps w.heap.size [25] w40 w44 ∧ Post u45 w44)) ∧ ((!b42) = false → Post u41 w40)))
def spec_l02Some_vc (p : Addr) (m_Chambers : Int) (m_Depths : Int) (m_Step : Int) (m_Same : Int) (m_Least : Int) (w : World) (Post : Value → World → Prop) : Prop :=
  ∀ w1 : World, Ext w w1 → ∀ (v2 : Value) (w3 : World), Sx.Own w1.heap.size w3 2 v2 [] → Ext w1 w3 → (∃ (J7 : (Int × Value × List Int) → World → Prop) (m8 : (Int × Value × List Int) → World → Nat), ((∃ s4 : (Int × Value × List Int), (Value.int .i64 0) = (Value.int .i64 s4.1) ∧ v2 = s4.2.1 ∧ (J7 s4 w3)) ∧ ∀ (s5 : (Int × Value × List Int)) (w6 : World), (J7 s5 w6) → (((s5.1 < m_Chambers) → (spec_l02Some_k0 p m_Depths w s5 w6 J7 m8 s5.2.1 s5.1 w6)) ∧ (¬ (s5.1 < m_Chambers) → (spec_l02Some_k1 w Post s5.2.1 m_Chambers m_Depths m_Step m_Same m_Least w6)))))
theorem spec_l02Some_eq (p : Addr) (m_Chambers : Int) (m_Depths : Int) (m_Step : Int) (m_Same : Int) (m_Least : Int) (w : World) (Post : Value → World → Prop) : denF Tryz.prog [9400000, 9700000, 9800000] (spec_l02Some_A p m_Chambers m_Depths m_Step m_Same m_Least w) 61 [(Value.pointer (some p)), (Value.agg #[(Value.int .i64 m_Chambers), (Value.int .i64 m_Depths), (Value.int .i64 m_Step), (Value.int .i64 m_Same), (Value.int .i64 m_Least)])] w Post = spec_l02Some_vc p m_Chambers m_Depths m_Step m_Same m_Least w Post := by kernel_rfl
set_option maxRecDepth 100000 in
theorem spec_l02Some_calls (p : Addr) (m_Chambers : Int) (m_Depths : Int) (m_Step : Int) (m_Same : Int) (m_Least : Int) (w : World) (Post : Value → World → Prop) (hvc : spec_l02Some_vc p m_Chambers m_Depths m_Step m_Same m_Least w Post) : Ret Tryz.prog 61 #[(Value.pointer (some p)), (Value.agg #[(Value.int .i64 m_Chambers), (Value.int .i64 m_Depths), (Value.int .i64 m_Step), (Value.int .i64 m_Same), (Value.int .i64 m_Least)])] w Post :=
  Ret.of (denF_sound mixed (Eq.mpr (spec_l02Some_eq p m_Chambers m_Depths m_Step m_Same m_Least w Post) hvc))

theorem spec_l02Some_ret (wb : World) (b : Nat) (cv : Value) (zs : List Int) (w : World) (hs : Src wb b cv zs w) (M : Mk) (hM : M.Ok) : Ret Tryz.prog 61 #[.pointer (some ⟨b, 0, none⟩), M.v] w fun r w' => ∃ xs, IsK M xs ∧ Own w.heap.size w' 2 r (ints xs) ∧ Src wb b cv zs w' ∧ Pres (fun k => k ≠ b) w w' :=
  spec_l02Some_calls ⟨b, 0, none⟩ M.c M.d M.s M.m M.l w _ (by
    unfold spec_l02Some_vc
    have hM' := hM
    obtain ⟨hm1, hm2, hm3, hm4, hm5⟩ := hM'
    have hb := hs.lt
    intro w1 h1 v w2 o2 h2
    have d2 := (hs.dr.ext h1).ext h2
    refine ⟨fun s W => 0 ≤ s.1 ∧ s.1 ≤ M.c ∧ (s.2.2.length : Int) = s.1 ∧ CutsOk M.d s.2.2 ∧ Dr wb b cv zs w W ∧ Own w.heap.size W 2 s.2.1 (ints s.2.2), fun s _ => (M.c - s.1).toNat, ⟨(0, v, []), rfl, rfl, by simp only; omega, by simp only; omega, by simp, by simp [CutsOk], d2, o2.mono h1.size⟩, ?_⟩
    rintro ⟨k, u, xs⟩ w4 ⟨k0, kc, hl, hcut, d4, o4⟩
    simp only at k0 kc hl hcut o4
    refine ⟨fun hk => ?_, fun hk => ?_⟩
    · simp only at hk
      refine d4.next M.d (by simp) fun x w5 x0 x1 d5 p5 => fun r w6 o6 h6 => ?_
      refine (d5.ext h6).push ((o4.dr p5 hb).ext h6) o6 (Nat.le_refl _) (d5.ext h6).size (by omega) fun u' w7 d7 o7 _ => ⟨by unfold I64; simp only; omega, (k + 1, u', xs ++ [x]), rfl, rfl, ⟨by simp only; omega, by simp only; omega, by simp only [List.length_append, List.length_singleton]; omega, ?_, d7, o7⟩, by simp only; omega⟩
      intro z hz
      rcases List.mem_append.1 hz with hz | hz
      · exact hcut z hz
      · have : z = x := by simpa using hz
        omega
    · simp only at hk
      refine (spec_l02Next_ret hM u xs w4 (by omega) hcut o4.rd).call ?_
      rintro _ w5 ⟨h5, y, ok, rfl, hor⟩
      refine ⟨y, ok, rfl, h5.keeps, fun hno => ?_, fun hyes => ?_⟩
      · have d5 := d4.ext h5
        refine (spec_l02First_ret hM M.c.toNat [] (.slice none 0 0) w5 (by simp; omega) (by simp [CutsOk]) (RI.nil_ _ _ (Nat.zero_le _))).call ?_
        rintro _ w6 ⟨h6, y2, ok2, rfl, _, hor2⟩
        refine ⟨y2, ok2, rfl, h6.keeps, ?_⟩
        rcases hor2 with ⟨_, hg⟩ | ⟨k2, rest, _, hg, hor3⟩
        · exact absurd hg (keys_ne hM)
        · rcases hor3 with ⟨h0, _⟩ | ho
          · omega
          · have hk2 : k2 ∈ keys M := by
              have : k2 ∈ GA M M.c.toNat [] := by rw [hg]; exact List.mem_cons_self ..
              exact this
            exact ⟨k2, (mem_keys (by omega)).1 hk2, ho.mono d5.size, (d5.ext h6).1, (d5.ext h6).2.1⟩
      · rcases hor with ⟨rfl, _⟩ | ⟨k2, rest, _, ha, ho⟩
        · cases hyes
        · have hk2 : k2 ∈ above M xs 0 := by rw [ha]; exact List.mem_cons_self ..
          rw [above_zero M xs (by omega)] at hk2
          exact ⟨k2, (mem_keys (by omega)).1 (List.mem_filter.1 hk2).1, ho.mono d4.size, (d4.ext h5).1, (d4.ext h5).2.1⟩)
/-! ### what the laws draw -/
theorem Src.rebase {wb w0 w : World} {b : Nat} {v : Value} {zs : List Int} (h : Src wb b v zs w) (e : Ext w0 wb) (r : RB w0 v zs) : Src w0 b v zs w :=
  let ⟨h1, h2, _, h4⟩ := h; ⟨e.trans h1, Nat.le_trans e.size h2, r, h4⟩
/-- the source is made -/
theorem from_q {cv : Value} {zs : List Int} {w w0 : World} (h : RB w0 cv zs) (e : Ext w0 w) {n0 : Nat} {Ts : List TypeId} {G : Addr → World → Prop} (hg : ∀ b w', Dq w0 b cv zs w'.heap.size w' → G ⟨b, 0, none⟩ w') :
    Calls Tryz.prog 19 #[cv] w fun e w' => ∃ p : Addr, e = .returned (.pointer (some p)) ∧ Keeps n0 Ts w w' ∧ G p w' :=
  (spec_l01From_ret cv zs w (h.ext e)).call (by
    rintro _ w' ⟨b, rfl, s⟩
    exact ⟨_, rfl, s.1.keeps, hg b w' (s.rebase e h).dq⟩)
section
variable {wb w : World} {b lo : Nat} {v : Value} {zs : List Int}
/-- 'l02Draw(s)' -/
theorem Dq.maker (h : Dq wb b v zs lo w) {n0 : Nat} {Ts : List TypeId} (hT : 72 ∉ Ts) {G : Int → Int → Int → Int → Int → World → Prop} (hg : ∀ (M : Mk) (w' : World), Sm M → Dq wb b v zs lo w' → Pres (fun k => k ≠ b) w w' → G M.c M.d M.s M.m M.l w') :
    Calls Tryz.prog 40 #[.pointer (some ⟨b, 0, none⟩)] w fun e w' => ∃ c d s m l : Int, e = .returned (mkV c d s m l) ∧ Keeps n0 Ts w w' ∧ G c d s m l w' :=
  (spec_l02Draw_ret wb b v zs w h.1).call (by
    rintro _ w' ⟨M, rfl, hM, s, p⟩
    exact ⟨M.c, M.d, M.s, M.m, M.l, rfl, h.1.keeps p hT, hg M w' hM (h.step s p) p⟩)
/-- a list drawn -/
theorem Dq.list (h : Dq wb b v zs lo w) {f : FuncId} {args : Array Value} (hr : DrL wb b v zs f args w) {n0 : Nat} {Ts : List TypeId} (hT : 72 ∉ Ts) {G : Value → World → Prop}
    (hg : ∀ (u : Value) (xs : List Int) (w' : World), Own lo w' 2 u (ints xs) → Dq wb b v zs lo w' → Pres (fun k => k ≠ b) w w' → G u w') :
    Calls Tryz.prog f args w fun e w' => ∃ u, e = .returned u ∧ Keeps n0 Ts w w' ∧ G u w' :=
  hr.call (by
    rintro u w' ⟨xs, o, s, p⟩
    exact ⟨u, rfl, h.1.keeps p hT, hg u xs w' (o.mono h.2.2) (h.step s p) p⟩)
end
/-- what a draw of a maker and a list gives -/
def DrMS (f : FuncId) (args : Array Value) (w : World) : Prop := Ret Tryz.prog f args w fun r w' => ∃ (M : Mk) (u : Value) (xs : List Int), r = .tuple #[M.v, u] ∧ Own w.heap.size w' 2 u (ints xs) ∧ Ext w w'
/-- of a maker and a number -/
def DrMI (f : FuncId) (args : Array Value) (w : World) : Prop := Ret Tryz.prog f args w fun r w' => ∃ (M : Mk) (n : Int), r = .tuple #[M.v, .int .i64 n] ∧ I64 n ∧ Ext w w'
end Go.Proofs
end
section
set_option linter.unusedVariables false
namespace Go.Proofs
open Go.Sx Go.RowKit Go.Tx

/-- any text, as a list of bytes -/
theorem as_txt {n : Nat} (s : ByteArray) (h : s.size ≤ n) : ∃ x : List UInt8, Value.string s = txt x ∧ x.length ≤ n :=
  ⟨s.data.toList, (congrArg Value.string (ba_eta s)).symm, by rw [Array.length_toList]; exact h⟩
def dmg : List (List UInt8) := [[48], [35], [46], [47], [32], [97], [45], [10]]
theorem dmg_one : ∀ x ∈ dmg, x.length = 1 := by decide
abbrev spec_l01Damage_k0 (w : World) (Post : Value → World → Prop) (x23 : ByteArray) (x24 : Value) (x25 : Addr) (x28 : ByteArray) (w29 : World) : Prop :=
  Calls Tryz.prog 24 #[(Value.pointer (some x25)), (Value.int .i64 8)] w29 (fun e30 w31 => ∃ n32 : Int, e30 = .returned (Value.int .i64 n32) ∧ Keeps w.heap.size [] w29 w31 ∧ IxV 1 x24 n32 (fun ad33 => ∃ s34 : ByteArray, LdV w31 (Value.pointer (some ad33)) (Value.string s34) ∧ I64 ((x23.size + s34.size : Nat) : Int) ∧ I64 (((x23 ++ s34).size + x28.size : Nat) : Int) ∧ Post (Value.string ((x23 ++ s34) ++ x28)) w31))
abbrev spec_l01Damage_k1 (Post : Value → World → Prop) (x51 : ByteArray) (x53 : Int) (x56 : ByteArray) (w57 : World) : Prop :=
  ∀ (v58 : Value) (w59 : World), Sx.Own w57.heap.size w59 9 v58 [(Value.string (⟨#[48]⟩ : ByteArray)), (Value.string (⟨#[35]⟩ : ByteArray)), (Value.string (⟨#[46]⟩ : ByteArray)), (Value.string (⟨#[47]⟩ : ByteArray)), (Value.string (⟨#[32]⟩ : ByteArray)), (Value.string (⟨#[97]⟩ : ByteArray)), (Value.string (⟨#[45]⟩ : ByteArray)), (Value.string (⟨#[10]⟩ : ByteArray))] → Ext w57 w59 → IxV 1 v58 x53 (fun ad60 => ∃ s61 : ByteArray, LdV w59 (Value.pointer (some ad60)) (Value.string s61) ∧ I64 ((x51.size + s61.size : Nat) : Int) ∧ I64 (((x51 ++ s61).size + x56.size : Nat) : Int) ∧ Post (Value.string ((x51 ++ s61) ++ x56)) w59)
def spec_l01Damage_vc (p : Addr) (t : ByteArray) (w : World) (Post : Value → World → Prop) : Prop :=
  I64 ((t.size : Int) + 1) ∧ Calls Tryz.prog 24 #[(Value.pointer (some p)), (Value.int .i64 ((t.size : Int) + 1))] w (fun e1 w2 => ∃ n3 : Int, e1 = .returned (Value.int .i64 n3) ∧ Keeps w.heap.size [] w w2 ∧ Calls Tryz.prog 24 #[(Value.pointer (some p)), (Value.int .i64 8)] w2 (fun e4 w5 => ∃ n6 : Int, e4 = .returned (Value.int .i64 n6) ∧ Keeps w.heap.size [] w2 w5 ∧ (((n6 = (0 : Int)) → 0 ≤ (0 : Int) ∧ (0 : Int) ≤ n3 ∧ n3 ≤ (t.size : Int) ∧ Post (Value.string (t.extract (0 : Int).toNat n3.toNat)) w5) ∧ (¬ (n6 = (0 : Int)) → (((n6 = (1 : Int)) → ∀ w7 : World, Ext w5 w7 → 0 ≤ (0 : Int) ∧ (0 : Int) ≤ n3 ∧ n3 ≤ (t.size : Int) ∧ 0 ≤ n3 ∧ n3 ≤ (t.size : Int) ∧ (t.size : Int) ≤ (t.size : Int) ∧ ((∀ (v8 : Value) (w9 : World), Sx.Own w7.heap.size w9 9 v8 [(Value.string (⟨#[48]⟩ : ByteArray)), (Value.string (⟨#[35]⟩ : ByteArray)), (Value.string (⟨#[46]⟩ : ByteArray)), (Value.string (⟨#[47]⟩ : ByteArray)), (Value.string (⟨#[32]⟩ : ByteArray)), (Value.string (⟨#[97]⟩ : ByteArray)), (Value.string (⟨#[45]⟩ : ByteArray)), (Value.string (⟨#[10]⟩ : ByteArray))] → Ext w7 w9 → (spec_l01Damage_k0 w Post (t.extract (0 : Int).toNat n3.toNat) v8 p (t.extract n3.toNat (t.size : Int).toNat) w9)) ∧ (Calls Tryz.prog 24 #[(Value.pointer (some p)), (Value.int .i64 8)] w7 (fun e35 w36 => ∃ n37 : Int, e35 = .returned (Value.int .i64 n37) ∧ Keeps w.heap.size [] w7 w36 ∧ (spec_l01Damage_k1 Post (t.extract (0 : Int).toNat n3.toNat) n37 (t.extract n3.toNat (t.size : Int).toNat) w36))))) ∧ (¬ (n6 = (1 : Int)) → (((n6 = (2 : Int)) → (((n3 < (t.size : Int)) → ∀ w62 : World, Ext w5 w62 → 0 ≤ (0 : Int) ∧ (0 : Int) ≤ n3 ∧ n3 ≤ (t.size : Int) ∧ I64 (n3 + 1) ∧ 0 ≤ (n3 + 1) ∧ (n3 + 1) ≤ (t.size : Int) ∧ (t.size : Int) ≤ (t.size : Int) ∧ I64 (((t.extract (0 : Int).toNat n3.toNat).size + (t.extract (n3 + 1).toNat (t.size : Int).toNat).size : Nat) : Int) ∧ Post (Value.string ((t.extract (0 : Int).toNat n3.toNat) ++ (t.extract (n3 + 1).toNat (t.size : Int).toNat))) w62) ∧ (¬ (n3 < (t.size : Int)) → Post (Value.string t) w5))) ∧ (¬ (n6 = (2 : Int)) → Post (Value.string t) w5))))))))
theorem spec_l01Damage_eq (p : Addr) (t : ByteArray) (w : World) (Post : Value → World → Prop) : denF Tryz.prog [9400000, 9700000, 9800000] noAnn 33 [(Value.pointer (some p)), (Value.string t)] w Post = spec_l01Damage_vc p t w Post := by kernel_rfl
set_option maxRecDepth 100000 in
theorem spec_l01Damage_calls (p : Addr) (t : ByteArray) (w : World) (Post : Value → World → Prop) (hvc : spec_l01Damage_vc p t w Post) : Ret Tryz.prog 33 #[(Value.pointer (some p)), (Value.string t)] w Post :=
  Ret.of (denF_sound mixed (Eq.mpr (spec_l01Damage_eq p t w Post) hvc))

theorem spec_l01Damage_ret (wb : World) (b : Nat) (cv : Value) (zs : List Int) (w : World) (hs : Src wb b cv zs w) (l : List UInt8) (hl : l.length ≤ 1000000) : Ret Tryz.prog 33 #[.pointer (some ⟨b, 0, none⟩), txt l] w fun r w' => ∃ x : List UInt8, r = txt x ∧ x.length ≤ l.length + 1 ∧ Src wb b cv zs w' ∧ Pres (fun k => k ≠ b) w w' :=
  spec_l01Damage_calls ⟨b, 0, none⟩ ⟨l.toArray⟩ w _ (by
    unfold spec_l01Damage_vc
    have hbs := ba_size l
    have hb := hs.lt
    rw [hbs]
    have fin : ∀ (s : ByteArray) (W : World), s.size ≤ l.length + 1 → Dr wb b cv zs w W → ∃ x : List UInt8, Value.string s = txt x ∧ x.length ≤ l.length + 1 ∧ Src wb b cv zs W ∧ Pres (fun k => k ≠ b) w W := fun s W h d => by
      obtain ⟨x, e, hx⟩ := as_txt s h
      exact ⟨x, e, hx, d.1, d.2.1⟩
    have ex : ∀ i j : Nat, i ≤ j → j ≤ l.length → ((⟨l.toArray⟩ : ByteArray).extract i j).size = j - i := fun i j hi hj => by rw [ByteArray.size_extract, hbs]; omega
    refine ⟨by unfold I64; omega, ?_⟩
    refine hs.dr.next _ (by simp) fun n w2 n0 n1 d2 p2 => ?_
    refine d2.next 8 (by simp) fun q w3 q0 q1 d3 p3 => ?_
    have hn : n ≤ (l.length : Int) := by omega
    have hn' : n.toNat ≤ l.length := by omega
    have e0 : ((⟨l.toArray⟩ : ByteArray).extract (0 : Int).toNat n.toNat).size = n.toNat := by rw [ex _ _ (by omega) hn']; omega
    have e1 : ((⟨l.toArray⟩ : ByteArray).extract n.toNat (l.length : Int).toNat).size = l.length - n.toNat := by rw [ex _ _ (by omega) (by omega)]; omega
    refine ⟨fun _ => ⟨by omega, n0, hn, fin _ _ (by rw [e0]; omega) d3⟩, fun _ => ⟨fun _ w4 h4 => ?_, fun _ => ⟨fun _ => ⟨fun hlt w4 h4 => ?_, fun _ => fin _ _ (by rw [hbs]; omega) d3⟩, fun _ => fin _ _ (by rw [hbs]; omega) d3⟩⟩⟩
    · have d4 := d3.ext h4
      refine ⟨by omega, n0, hn, n0, hn, Int.le_refl _, ?_, ?_⟩
      · intro v5 w5 o5 h5
        unfold spec_l01Damage_k0
        refine (d4.ext h5).next 8 (by simp) fun r w6 r0 r1 d6 p6 => ?_
        have hr : RS w6 v5 dmg := (o5.dr p6 (Nat.lt_of_lt_of_le hb d4.size)).rd
        have hrk : r.toNat < dmg.length := by simp only [dmg, List.length_cons, List.length_nil]; omega
        have h1 := dmg_one _ (List.getElem_mem hrk)
        have h1s : (⟨dmg[r.toNat].toArray⟩ : ByteArray).size = 1 := by rw [ba_size]; exact h1
        refine hr.get r.toNat (by omega) hrk ⟨by rw [e0, h1s]; unfold I64; omega, by rw [ByteArray.size_append, e0, h1s, e1]; unfold I64; omega, fin _ _ (by rw [ByteArray.size_append, ByteArray.size_append, e0, h1s, e1]; omega) d6⟩
      · refine d4.next 8 (by simp) fun r w6 r0 r1 d6 p6 => ?_
        unfold spec_l01Damage_k1
        intro v5 w7 o7 h7
        have d7 := d6.ext h7
        have hr : RS w7 v5 dmg := o7.rd
        have hrk : r.toNat < dmg.length := by simp only [dmg, List.length_cons, List.length_nil]; omega
        have h1 := dmg_one _ (List.getElem_mem hrk)
        have h1s : (⟨dmg[r.toNat].toArray⟩ : ByteArray).size = 1 := by rw [ba_size]; exact h1
        refine hr.get r.toNat (by omega) hrk ⟨by rw [e0, h1s]; unfold I64; omega, by rw [ByteArray.size_append, e0, h1s, e1]; unfold I64; omega, fin _ _ (by rw [ByteArray.size_append, ByteArray.size_append, e0, h1s, e1]; omega) d7⟩
    · have d4 := d3.ext h4
      have e2 : ((⟨l.toArray⟩ : ByteArray).extract (n + 1).toNat (l.length : Int).toNat).size = l.length - (n.toNat + 1) := by rw [ex _ _ (by omega) (by omega)]; omega
      refine ⟨by omega, n0, hn, by unfold I64; omega, by omega, by omega, Int.le_refl _, by rw [e0, e2]; unfold I64; omega, fin _ _ (by rw [ByteArray.size_append, e0, e2]; omega) d4⟩)
theorem textL_len {zs : List Int} (h : Nums zs) : (textL zs).length ≤ 2000 := by
  unfold textL
  split
  · simp
  · have := join13 h zs.length
    rw [List.take_length] at this
    exact this
theorem listT_len (zs : List Int) : (listT zs).length ≤ 2000 := by
  unfold listT
  split
  · rename_i h; exact textL_len h
  · simp
/-- what a draw of a text gives -/
def DrT (f : FuncId) (args : Array Value) (w : World) : Prop := Ret Tryz.prog f args w fun r w' => ∃ x : List UInt8, r = txt x ∧ x.length ≤ 10000 ∧ Ext w w'
/-- of a maker and a text -/
def DrMT (f : FuncId) (args : Array Value) (w : World) : Prop := Ret Tryz.prog f args w fun r w' => ∃ (M : Mk) (x : List UInt8), r = .tuple #[M.v, txt x] ∧ x.length ≤ 10000 ∧ Ext w w'
theorem keyT_len (M : Mk) (zs : List Int) : (keyT M zs).length ≤ 6 := by
  unfold keyT
  split
  · rename_i h
    rw [List.length_map]
    exact (key_digs h).2
  · simp
end Go.Proofs
end
section
set_option linter.unusedVariables false
namespace Go.Proofs
open Go.Sx Go.RowKit
/-- a key has this cut in this chamber -/
def pH (zss : List (List Int)) : Nat → Int → Bool := fun i x => zss.any fun z => decide (z.getD i 0 = x)
def hullL (M : Mk) (zss : List (List Int)) : List (List Int) := rowsOf (pH zss) M.d M.c.toNat
theorem pH_succ {zss : List (List Int)} {k : Nat} (hk : k < zss.length) (i : Nat) (x : Int) : pH (zss.take (k + 1)) i x = (pH (zss.take k) i x || decide (zss[k].getD i 0 = x)) := by
  unfold pH
  rw [take_snoc zss k hk, List.any_append]
  simp
theorem hullL_length (M : Mk) (zss : List (List Int)) : (hullL M zss).length = M.c.toNat := rowsOf_length _ _ _
def spec_l04Hull_A (m_Chambers : Int) (m_Depths : Int) (m_Step : Int) (m_Same : Int) (m_Least : Int) (v : Value) (w : World) : Nat → Ann := fun κ => match κ with
  | 0 => { σ := Nat × Value, sli := [6, 5], slc := fun s => [SV.v (Value.int .i64 (s.1 : Int)), SV.v s.2], bxi := [], bxc := fun s => [], inv := fun s W => True, μ := fun s W => 0, free := true }
  | 1 => { σ := Nat × Value, sli := [8, 7], slc := fun s => [SV.v (Value.int .i64 (s.1 : Int)), SV.v s.2], bxi := [], bxc := fun s => [], inv := fun s W => True, μ := fun s W => 0, free := true }
  | 2 => { σ := Nat × Bool, sli := [10, 9], slc := fun s => [SV.v (Value.int .i64 (s.1 : Int)), SV.v (Value.bool s.2)], bxi := [], bxc := fun s => [], inv := fun s W => True, μ := fun s W => 0, free := true }
  | _ => { σ := Unit, sli := [], slc := fun _ => [], bxi := [], bxc := fun _ => [], inv := fun _ _ => False, μ := fun _ _ => 0 }
abbrev spec_l04Hull_k0 (s28 : Nat × Bool) (w29 : World) (J30 : (Nat × Bool) → World → Prop) (m31 : (Nat × Bool) → World → Nat) (x39 : Int) (w44 : World) : Prop :=
  I64 (x39 + 1) ∧ ∃ s45 : (Nat × Bool), (Value.int .i64 (x39 + 1)) = (Value.int .i64 (s45.1 : Int)) ∧ (Value.bool true) = (Value.bool s45.2) ∧ (J30 s45 w44) ∧ (m31 s45 w44) < (m31 s28 w29)
abbrev spec_l04Hull_k1 (x23 : Int) (s28 : Nat × Bool) (w29 : World) (J30 : (Nat × Bool) → World → Prop) (m31 : (Nat × Bool) → World → Nat) (n49 : Int) (x50 : Int) (w63 : World) : Prop :=
  I64 (x50 + 1) ∧ ∃ s64 : (Nat × Bool), (Value.int .i64 (x50 + 1)) = (Value.int .i64 (s64.1 : Int)) ∧ (Value.bool (decide (n49 = x23))) = (Value.bool s64.2) ∧ (J30 s64 w63) ∧ (m31 s64 w63) < (m31 s28 w29)
abbrev spec_l04Hull_k2 (v : Value) (x11 : Int) (x23 : Int) (s28 : Nat × Bool) (w29 : World) (J30 : (Nat × Bool) → World → Prop) (m31 : (Nat × Bool) → World → Nat) (x33 : Bool) (x34 : Int) (w38 : World) : Prop :=
  ((x33 = true → (spec_l04Hull_k0 s28 w29 J30 m31 x34 w38)) ∧ (x33 = false → IxV 1 v x34 (fun ad46 => ∃ u47 : Value, LdV w38 (Value.pointer (some ad46)) u47 ∧ IxV 1 u47 x11 (fun ad48 => ∃ n49 : Int, LdV w38 (Value.pointer (some ad48)) (Value.int .i64 n49) ∧ (spec_l04Hull_k1 x23 s28 w29 J30 m31 n49 x34 w38)))))
abbrev spec_l04Hull_k3 (s18 : Nat × Value) (w19 : World) (J20 : (Nat × Value) → World → Prop) (m21 : (Nat × Value) → World → Nat) (x79 : Value) (x80 : Int) (w93 : World) : Prop :=
  I64 (x80 + 1) ∧ ∃ s94 : (Nat × Value), (Value.int .i64 (x80 + 1)) = (Value.int .i64 (s94.1 : Int)) ∧ x79 = s94.2 ∧ (J20 s94 w93) ∧ (m21 s94 w93) < (m21 s18 w19)
abbrev spec_l04Hull_k4 (s18 : Nat × Value) (w19 : World) (J20 : (Nat × Value) → World → Prop) (m21 : (Nat × Value) → World → Nat) (x65 : Value) (x66 : Int) (x67 : Bool) (w74 : World) : Prop :=
  ((x67 = true → ∀ (v75 : Value) (w76 : World), Sx.Own w74.heap.size w76 2 v75 [(Value.int .i64 x66)] → Ext w74 w76 → AppV w76 2 x65 v75 (fun v77 w78 => (spec_l04Hull_k3 s18 w19 J20 m21 v77 x66 w78))) ∧ (x67 = false → (spec_l04Hull_k3 s18 w19 J20 m21 x65 x66 w74)))
abbrev spec_l04Hull_k5 (v : Value) (x11 : Int) (s18 : Nat × Value) (w19 : World) (J20 : (Nat × Value) → World → Prop) (m21 : (Nat × Value) → World → Nat) (x22 : Value) (x23 : Int) (w26 : World) : Prop :=
  (∃ (J30 : (Nat × Bool) → World → Prop) (m31 : (Nat × Bool) → World → Nat), ((∃ s27 : (Nat × Bool), (Value.int .i64 0) = (Value.int .i64 (s27.1 : Int)) ∧ (Value.bool false) = (Value.bool s27.2) ∧ (J30 s27 w26)) ∧ ∀ (s28 : (Nat × Bool)) (w29 : World), (J30 s28 w29) → LenV v (fun n32 => ((((s28.1 : Int) < n32) → (spec_l04Hull_k2 v x11 x23 s28 w29 J30 m31 s28.2 (s28.1 : Int) w29)) ∧ (¬ ((s28.1 : Int) < n32) → (spec_l04Hull_k4 s18 w19 J20 m21 x22 x23 s28.2 w29))))))
abbrev spec_l04Hull_k6 (s6 : Nat × Value) (w7 : World) (J8 : (Nat × Value) → World → Prop) (m9 : (Nat × Value) → World → Nat) (x109 : Value) (x110 : Int) (w122 : World) : Prop :=
  I64 (x110 + 1) ∧ ∃ s123 : (Nat × Value), (Value.int .i64 (x110 + 1)) = (Value.int .i64 (s123.1 : Int)) ∧ x109 = s123.2 ∧ (J8 s123 w122) ∧ (m9 s123 w122) < (m9 s6 w7)
abbrev spec_l04Hull_k7 (s6 : Nat × Value) (w7 : World) (J8 : (Nat × Value) → World → Prop) (m9 : (Nat × Value) → World → Nat) (x95 : Value) (x96 : Int) (x97 : Value) (w104 : World) : Prop :=
  oneC x97 (∀ (v105 : Value) (w106 : World), Sx.Own w104.heap.size w106 45 v105 [x97] → Ext w104 w106 → AppV w106 45 x95 v105 (fun v107 w108 => (spec_l04Hull_k6 s6 w7 J8 m9 v107 x96 w108)))
abbrev spec_l04Hull_k8 (m_Depths : Int) (v : Value) (s6 : Nat × Value) (w7 : World) (J8 : (Nat × Value) → World → Prop) (m9 : (Nat × Value) → World → Nat) (x10 : Value) (x11 : Int) (w14 : World) : Prop :=
  ∀ (v15 : Value) (w16 : World), Sx.Own w14.heap.size w16 2 v15 [] → Ext w14 w16 → (∃ (J20 : (Nat × Value) → World → Prop) (m21 : (Nat × Value) → World → Nat), ((∃ s17 : (Nat × Value), (Value.int .i64 0) = (Value.int .i64 (s17.1 : Int)) ∧ v15 = s17.2 ∧ (J20 s17 w16)) ∧ ∀ (s18 : (Nat × Value)) (w19 : World), (J20 s18 w19) → ((((s18.1 : Int) < m_Depths) → (spec_l04Hull_k5 v x11 s18 w19 J20 m21 s18.2 (s18.1 : Int) w19)) ∧ (¬ ((s18.1 : Int) < m_Depths) → (spec_l04Hull_k7 s6 w7 J8 m9 x10 x11 s18.2 w19)))))
abbrev spec_l04Hull_k9 (w : World) (Post : Value → World → Prop) (x130 : Value) (w140 : World) : Prop :=
  oneC x130 (oneC x130 (∀ w141 : World, BxS w.heap.size 28 w140 w141 → Post (Value.agg #[x130]) w141))
def spec_l04Hull_vc (m_Chambers : Int) (m_Depths : Int) (m_Step : Int) (m_Same : Int) (m_Least : Int) (v : Value) (w : World) (Post : Value → World → Prop) : Prop :=
  ∀ w1 : World, Ext w w1 → ∀ w2 : World, Ext w1 w2 → ∀ (v3 : Value) (w4 : World), Sx.Own w2.heap.size w4 45 v3 [] → Ext w2 w4 → (∃ (J8 : (Nat × Value) → World → Prop) (m9 : (Nat × Value) → World → Nat), ((∃ s5 : (Nat × Value), (Value.int .i64 0) = (Value.int .i64 (s5.1 : Int)) ∧ v3 = s5.2 ∧ (J8 s5 w4)) ∧ ∀ (s6 : (Nat × Value)) (w7 : World), (J8 s6 w7) → ((((s6.1 : Int) < m_Chambers) → (spec_l04Hull_k8 m_Depths v s6 w7 J8 m9 s6.2 (s6.1 : Int) w7)) ∧ (¬ ((s6.1 : Int) < m_Chambers) → (spec_l04Hull_k9 w Post s6.2 w7)))))
theorem spec_l04Hull_eq (m_Chambers : Int) (m_Depths : Int) (m_Step : Int) (m_Same : Int) (m_Least : Int) (v : Value) (w : World) (Post : Value → World → Prop) : denF Tryz.prog [] (spec_l04Hull_A m_Chambers m_Depths m_Step m_Same m_Least v w) 62 [(Value.agg #[(Value.int .i64 m_Chambers), (Value.int .i64 m_Depths), (Value.int .i64 m_Step), (Value.int .i64 m_Same), (Value.int .i64 m_Least)]), v] w Post = spec_l04Hull_vc m_Chambers m_Depths m_Step m_Same m_Least v w Post := by kernel_rfl
set_option maxRecDepth 100000 in
theorem spec_l04Hull_calls (m_Chambers : Int) (m_Depths : Int) (m_Step : Int) (m_Same : Int) (m_Least : Int) (v : Value) (w : World) (Post : Value → World → Prop) (hvc : spec_l04Hull_vc m_Chambers m_Depths m_Step m_Same m_Least v w Post) : Ret Tryz.prog 62 #[(Value.agg #[(Value.int .i64 m_Chambers), (Value.int .i64 m_Depths), (Value.int .i64 m_Step), (Value.int .i64 m_Same), (Value.int .i64 m_Least)]), v] w Post :=
  Ret.of (denF_sound mixed (Eq.mpr (spec_l04Hull_eq m_Chambers m_Depths m_Step m_Same m_Least v w Post) hvc))

theorem spec_l04Hull_ret (M : Mk) (hc : M.c ≤ 9) (hd : M.d ≤ 9) (v : Value) (zss : List (List Int)) (w : World) (h : RR w v zss) (hl : zss.length ≤ 1000) (hz : ∀ z ∈ zss, M.c ≤ (z.length : Int)) : Ret Tryz.prog 62 #[M.v, v] w fun r w' => ∃ u, r = lkV u ∧ OwnR w.heap.size w' u (hullL M zss) ∧ Ext w w' :=
  spec_l04Hull_calls M.c M.d M.s M.m M.l v w _ (by
    unfold spec_l04Hull_vc
    intro w1 h1 w2 h2 v3 w4 o4 h4
    have k2 := h1.trans h2
    have k4 := k2.trans h4
    refine ⟨fun s W => s.1 ≤ M.c.toNat ∧ Ext w W ∧ OwnR w.heap.size W s.2 (rowsOf (pH zss) M.d s.1), fun s _ => M.c.toNat - s.1, ⟨(0, v3), rfl, rfl, Nat.zero_le _, k4, OwnR.new o4 k2.size⟩, ?_⟩
    rintro ⟨i, u⟩ w7 ⟨hi, k7, o7⟩
    simp only at hi o7
    refine ⟨fun hlt => ?_, fun hge => ?_⟩
    · have hic : i < M.c.toNat := by simp only at hlt; omega
      intro v15 w16 o16 h16
      refine ⟨fun s W => s.1 ≤ M.d.toNat ∧ Ext w7 W ∧ Own w7.heap.size W 2 s.2 (ints (filt (pH zss i) s.1)), fun s _ => M.d.toNat - s.1, ⟨(0, v15), rfl, rfl, Nat.zero_le _, h16, o16⟩, ?_⟩
      rintro ⟨x, t⟩ w19 ⟨hx, h19, o19⟩
      simp only at hx o19
      have k19 := k7.trans h19
      refine ⟨fun hlt => ?_, fun hge => ?_⟩
      · have hxd : x < M.d.toNat := by simp only at hlt; omega
        refine ⟨fun s W => s.1 ≤ zss.length ∧ s.2 = pH (zss.take s.1) i x ∧ Ext w19 W, fun s _ => zss.length - s.1, ⟨(0, false), rfl, rfl, Nat.zero_le _, by simp [pH], .refl _⟩, ?_⟩
        rintro ⟨k, b⟩ w29 ⟨hk, hb, h29⟩
        simp only at hk hb
        subst hb
        have k29 := k19.trans h29
        refine (h.ext k29).len ⟨fun hlt => ?_, fun hge => ?_⟩
        · have hlt' : k < zss.length := by simp only at hlt; omega
          have hzk := hz _ (List.getElem_mem hlt')
          refine ⟨fun hy => ⟨by unfold I64; simp only; omega, (k + 1, true), rfl, rfl, ⟨hlt', ?_, h29⟩, by simp only; omega⟩, fun hn => ?_⟩
          · simp only at hy ⊢
            rw [pH_succ hlt', hy, Bool.true_or]
          · refine (h.ext k29).get k rfl hlt' fun p hp => hp.get i rfl (by omega) ⟨by unfold I64; simp only; omega, (k + 1, decide (zss[k][i]'(by omega) = (x : Int))), rfl, rfl, ⟨hlt', ?_, h29⟩, by simp only; omega⟩
            simp only at hn ⊢
            rw [pH_succ hlt', hn, Bool.false_or, getD_get]
        · have hke : k = zss.length := by simp only at hge; omega
          subst hke
          rw [List.take_of_length_le (Nat.le_refl _)]
          refine ⟨fun hy r w30 o30 h30 => ?_, fun hn => ⟨by unfold I64; simp only; omega, (x + 1, t), rfl, rfl, ⟨hxd, h19.trans h29, ?_⟩, by simp only; omega⟩⟩
          · have x30 := h29.trans h30
            have hfl := filt_len (pH zss i) x
            refine (o19.ext x30).app1 o30 rfl (by simp; omega) ((h19.trans x30).size) fun t' w31 o31 g31 _ => ⟨by unfold I64; simp only; omega, (x + 1, t'), rfl, rfl, ⟨hxd, (h19.trans x30).grown (o19.ext x30) (Nat.le_refl _) g31, ?_⟩, by simp only; omega⟩
            simp only at hy ⊢
            rw [filt_yes hy, ints_append]
            exact o31
          · simp only at hn ⊢
            rw [filt_no hn]
            exact o19.ext h29
      · have hxe : x = M.d.toNat := by simp only at hge; omega
        subst hxe
        refine o19.rd.oneC fun r2 w20 o20 h20 => ?_
        refine o7.push o19 h19 o20 h20 k7.size (by rw [rowsOf_length]; omega) fun v' w21 o21 hx21 => ⟨by unfold I64; simp only; omega, (i + 1, v'), rfl, rfl, ⟨hic, hx21 w (Nat.le_refl _) (k19.trans h20), ?_⟩, by simp only; omega⟩
        simp only
        rw [rowsOf_succ]
        exact o21
    · have hie : i = M.c.toNat := by simp only at hge; omega
      subst hie
      exact o7.rr.oneC (o7.rr.oneC fun w9 b9 => ⟨u, rfl, o7.bxs b9 (by decide) (by decide), k7.bxs b9⟩))
end Go.Proofs
end
section
set_option linter.unusedVariables false
namespace Go.Proofs
open Go.Sx Go.RowKit
section
variable {B : Nat} {w w' : World} {v : Value} {zss : List (List Int)}
theorem OwnR.dr (h : OwnR B w v zss) {b : Nat} (p : Pres (fun k => k ≠ b) w w') (hb : b < B) : OwnR B w' v zss := let ⟨us, h1, h2, h3⟩ := h; ⟨us, h1.dr p hb, h2.map fun u z hr => hr.dr p hb, h3⟩
end
/-- a row put into a slice of rows of the call's own -/
theorem OwnR.put {B C : Nat} {w : World} {v x : Value} {zss : List (List Int)} {z : List Int} (h : OwnR B w v zss) {i : Int} (k : Nat) (hi : i = k) (hk : k < zss.length) (hx : Vw C w 2 x (ints z)) (hC : B ≤ C) {n0 : Nat} {Ts : List TypeId} (hT : 45 ∉ Ts) {K : World → Prop}
    (hK : ∀ w', VwR B w' v (zss.set k z) → Pres (fun b => b < B) w w' → (∀ n0 Ts, 45 ∉ Ts → Keeps n0 Ts w w') → K w') : IxV 1 v i (fun ad => StV n0 Ts w (.pointer (some ad)) x K) := by
  obtain ⟨us, h1, h2, h3⟩ := h
  have he := h2.1
  refine h1.setAt k hi (by omega) hx.one hT fun w' o' g => hK w' ⟨us.set k x, o'.vw, ?_⟩ (grown_pres g fun b hb hlt => by have := (h1.lt hb).1; omega) fun n0 Ts hT => h1.keepsG g hT
  refine ⟨by simp [he], fun j u y hu hy => ?_⟩
  rw [List.getElem?_set] at hu hy
  by_cases hjk : k = j
  · subst hjk
    rw [if_pos rfl, if_pos (by omega)] at hu
    rw [if_pos rfl, if_pos hk] at hy
    injection hu with hu
    injection hy with hy
    subst hu hy
    exact (hx.mono hC).grown h1 (by decide) g
  · rw [if_neg hjk] at hu hy
    exact (h2.2 j u y hu hy).vw.grown h1 (by decide) g
/-- a row put at the end of a slice of rows behind a draw -/
theorem OwnR.pushD {B C b : Nat} {w3 w4 w5 : World} {v u r : Value} {zss : List (List Int)} {z : List Int} (h : OwnR B w3 v zss) (hu : Own w3.heap.size w4 2 u (ints z)) (p4 : Pres (fun k => k ≠ b) w3 w4) (hb : b < B) (hr : Own C w5 45 r [u]) (e5 : Ext w4 w5) (hB : B ≤ w3.heap.size) (hl : zss.length < 4398046511104) {K : Value → World → Prop}
    (hK : ∀ v' w6, OwnR B w6 v' (zss ++ [z]) → Pres (fun k => k < B) w5 w6 → w5.heap.size ≤ w6.heap.size → K v' w6) : AppV w5 45 v r K := by
  obtain ⟨us, h1, h2, h3⟩ := h
  have h1' := (h1.dr p4 hb).ext e5
  have hu' := hu.ext e5
  have h5 := Nat.le_trans p4.size e5.size
  refine h1'.app1 hr hu.rd.one (by rw [h2.1]; exact hl) (Nat.le_trans hB h5) fun v' w6 o6 g6 _ => hK v' w6 ⟨us ++ [u], o6, ?_, ?_⟩ (grown_pres g6 fun k hk hlt => by have := (h1'.lt hk).1; omega) g6.size
  · refine (h2.map fun x zx hx => ((((hx.dr p4 hb).ext e5)).grown g6 (Apart.types ((hx.dr p4 hb).ext e5) h1' (by decide)))).snoc ?_
    exact (hu'.mono hB).grown g6 (Apart.types hu' h1' (by decide))
  · rw [List.pairwise_append]
    refine ⟨h3, by simp, fun x hx y hy => ?_⟩
    simp only [List.mem_singleton] at hy
    subst hy
    obtain ⟨i, hi, rfl⟩ := List.getElem_of_mem hx
    have hik : i < zss.length := by rw [← h2.1]; exact hi
    exact Apart.new (h2.get hik) hu
def spec_l04Valid_A (p : Addr) (m_Chambers : Int) (m_Depths : Int) (m_Step : Int) (m_Same : Int) (m_Least : Int) (w : World) : Nat → Ann := fun κ => match κ with
  | 0 => { σ := Nat × Value × List (List Int), sli := [6, 5], slc := fun s => [SV.v (Value.int .i64 (s.1 : Int)), SV.v s.2.1], bxi := [], bxc := fun s => [], inv := fun s W => True, μ := fun s W => 0, free := true }
  | _ => { σ := Unit, sli := [], slc := fun _ => [], bxi := [], bxc := fun _ => [], inv := fun _ _ => False, μ := fun _ _ => 0 }
abbrev spec_l04Valid_k0 (p : Addr) (m_Chambers : Int) (m_Depths : Int) (m_Step : Int) (m_Same : Int) (m_Least : Int) (w : World) (s9 : Nat × Value × List (List Int)) (w10 : World) (J11 : (Nat × Value × List (List Int)) → World → Prop) (m12 : (Nat × Value × List (List Int)) → World → Nat) (x13 : Value) (x14 : Int) (w16 : World) : Prop :=
  Calls Tryz.prog 61 #[(Value.pointer (some p)), (Value.agg #[(Value.int .i64 m_Chambers), (Value.int .i64 m_Depths), (Value.int .i64 m_Step), (Value.int .i64 m_Same), (Value.int .i64 m_Least)])] w16 (fun e17 w18 => ∃ u19 : Value, e17 = .returned u19 ∧ Keeps w.heap.size [25, 28] w16 w18 ∧ oneC u19 (∀ (v20 : Value) (w21 : World), Sx.Own w18.heap.size w21 45 v20 [u19] → Ext w18 w21 → AppV w21 45 x13 v20 (fun v22 w23 => I64 (x14 - 1) ∧ ∃ s24 : (Nat × Value × List (List Int)), (Value.int .i64 (x14 - 1)) = (Value.int .i64 (s24.1 : Int)) ∧ v22 = s24.2.1 ∧ (J11 s24 w23) ∧ (m12 s24 w23) < (m12 s9 w10))))
abbrev spec_l04Valid_k1 (w : World) (Post : Value → World → Prop) (x31 : Value) (x38 : Int) (x39 : Int) (x40 : Int) (x41 : Int) (x42 : Int) (w43 : World) : Prop :=
  Calls Tryz.prog 62 #[(Value.agg #[(Value.int .i64 x38), (Value.int .i64 x39), (Value.int .i64 x40), (Value.int .i64 x41), (Value.int .i64 x42)]), x31] w43 (fun e44 w45 => ∃ u46 : Value, e44 = .returned (Value.agg #[u46]) ∧ Keeps w.heap.size [25, 28] w43 w45 ∧ oneC u46 (∀ w47 : World, BxS w.heap.size 28 w45 w47 → Post (Value.agg #[u46]) w47))
def spec_l04Valid_vc (p : Addr) (m_Chambers : Int) (m_Depths : Int) (m_Step : Int) (m_Same : Int) (m_Least : Int) (w : World) (Post : Value → World → Prop) : Prop :=
  ∀ w1 : World, Ext w w1 → ∀ w2 : World, Ext w1 w2 → ∀ (v3 : Value) (w4 : World), Sx.Own w2.heap.size w4 45 v3 [] → Ext w2 w4 → Calls Tryz.prog 24 #[(Value.pointer (some p)), (Value.int .i64 3)] w4 (fun e5 w6 => ∃ n7 : Int, e5 = .returned (Value.int .i64 n7) ∧ Keeps w.heap.size [25, 28] w4 w6 ∧ I64 (1 + n7) ∧ (∃ (J11 : (Nat × Value × List (List Int)) → World → Prop) (m12 : (Nat × Value × List (List Int)) → World → Nat), ((∃ s8 : (Nat × Value × List (List Int)), (Value.int .i64 (1 + n7)) = (Value.int .i64 (s8.1 : Int)) ∧ v3 = s8.2.1 ∧ (J11 s8 w6)) ∧ ∀ (s9 : (Nat × Value × List (List Int))) (w10 : World), (J11 s9 w10) → ((((0 : Int) < (s9.1 : Int)) → (spec_l04Valid_k0 p m_Chambers m_Depths m_Step m_Same m_Least w s9 w10 J11 m12 s9.2.1 (s9.1 : Int) w10)) ∧ (¬ ((0 : Int) < (s9.1 : Int)) → (spec_l04Valid_k1 w Post s9.2.1 m_Chambers m_Depths m_Step m_Same m_Least w10))))))
theorem spec_l04Valid_eq (p : Addr) (m_Chambers : Int) (m_Depths : Int) (m_Step : Int) (m_Same : Int) (m_Least : Int) (w : World) (Post : Value → World → Prop) : denF Tryz.prog [9400000, 9700000, 9800000] (spec_l04Valid_A p m_Chambers m_Depths m_Step m_Same m_Least w) 41 [(Value.pointer (some p)), (Value.agg #[(Value.int .i64 m_Chambers), (Value.int .i64 m_Depths), (Value.int .i64 m_Step), (Value.int .i64 m_Same), (Value.int .i64 m_Least)])] w Post = spec_l04Valid_vc p m_Chambers m_Depths m_Step m_Same m_Least w Post := by kernel_rfl
set_option maxRecDepth 100000 in
theorem spec_l04Valid_calls (p : Addr) (m_Chambers : Int) (m_Depths : Int) (m_Step : Int) (m_Same : Int) (m_Least : Int) (w : World) (Post : Value → World → Prop) (hvc : spec_l04Valid_vc p m_Chambers m_Depths m_Step m_Same m_Least w Post) : Ret Tryz.prog 41 #[(Value.pointer (some p)), (Value.agg #[(Value.int .i64 m_Chambers), (Value.int .i64 m_Depths), (Value.int .i64 m_Step), (Value.int .i64 m_Same), (Value.int .i64 m_Least)])] w Post :=
  Ret.of (denF_sound mixed (Eq.mpr (spec_l04Valid_eq p m_Chambers m_Depths m_Step m_Same m_Least w Post) hvc))

theorem spec_l04Valid_ret (wb : World) (b : Nat) (cv : Value) (zs : List Int) (w : World) (hs : Src wb b cv zs w) (M : Mk) (hM : M.Ok) : Ret Tryz.prog 41 #[.pointer (some ⟨b, 0, none⟩), M.v] w fun r w' => ∃ u zss, r = lkV u ∧ (zss.length : Int) = M.c ∧ OwnR w.heap.size w' u zss ∧ Src wb b cv zs w' ∧ Pres (fun k => k ≠ b) w w' :=
  spec_l04Valid_calls ⟨b, 0, none⟩ M.c M.d M.s M.m M.l w _ (by
    unfold spec_l04Valid_vc
    have hM' := hM
    obtain ⟨hm1, hm2, hm3, hm4, hm5⟩ := hM'
    have hb := hs.lt
    intro w1 h1 w2 h2 v3 w4 o4 h4
    have d4 := ((hs.dr.ext h1).ext h2).ext h4
    refine d4.next 3 (by simp) fun n w6 n0 n1 d6 p6 => ⟨by unfold I64; omega, ?_⟩
    refine ⟨fun s W => s.1 ≤ 3 ∧ s.2.2.length + s.1 ≤ 3 ∧ (∀ z ∈ s.2.2, IsK M z) ∧ Dr wb b cv zs w W ∧ OwnR w.heap.size W s.2.1 s.2.2, fun s _ => s.1, ⟨((1 + n).toNat, v3, []), ieq (by simp only; omega), rfl, by simp only; omega, by simp only [List.length_nil]; omega, by simp, d6, ?_⟩, ?_⟩
    · exact (OwnR.new (o4.mono (h1.trans h2).size) (Nat.le_refl _)).dr p6 hb
    rintro ⟨k, u, zss⟩ w10 ⟨hk3, hl, hK, d10, o10⟩
    simp only at hk3 hl hK o10
    refine ⟨fun hk => ?_, fun hk => ?_⟩
    · simp only at hk
      refine (spec_l02Some_ret wb b cv zs w10 d10.1 M hM).call ?_
      rintro r w18 ⟨xs, hx, o18, s18, p18⟩
      have d18 := d10.step s18 p18
      refine ⟨r, rfl, d10.1.keeps p18 (by simp), o18.rd.oneC fun q w21 o21 h21 => ?_⟩
      refine o10.pushD o18 p18 hb o21 h21 d10.size (by omega) fun v' w23 o23 p23 z23 => ⟨by unfold I64; omega, (k - 1, v', zss ++ [xs]), ieq (by simp only; omega), rfl, ⟨by simp only; omega, by simp only [List.length_append, List.length_singleton]; omega, ?_, (d18.ext h21).low p23 (Nat.le_refl _), o23⟩, by simp only; omega⟩
      intro z hz
      rcases List.mem_append.1 hz with hz | hz
      · exact hK z hz
      · have : z = xs := by simpa using hz
        rw [this]; exact hx
    · simp only at hk
      refine (spec_l04Hull_ret M (by omega) (by omega) u zss w10 o10.rr (by omega) (fun z hz => by have := (hK z hz).1; omega)).call ?_
      rintro _ w45 ⟨x, rfl, o45, h45⟩
      have d45 := d10.ext h45
      refine ⟨x, rfl, h45.keeps, o45.rr.oneC fun w47 b47 => ⟨x, _, rfl, ?_, (o45.mono d10.size).bxs b47 (by decide) (by decide), (d45.bxs b47).1, (d45.bxs b47).2.1⟩⟩
      rw [hullL_length]
      omega)
section
variable {wb w : World} {b lo : Nat} {v : Value} {zs : List Int}
/-- 'l04Valid(s, m)' -/
theorem Dq.valid (h : Dq wb b v zs lo w) {M : Mk} (hM : M.Ok) {n0 : Nat} {Ts : List TypeId} (hT : 72 ∉ Ts) {G : Value → World → Prop}
    (hg : ∀ (u : Value) (zss : List (List Int)) (w' : World), (zss.length : Int) = M.c → OwnR lo w' u zss → Dq wb b v zs lo w' → Pres (fun k => k ≠ b) w w' → G u w') :
    Calls Tryz.prog 41 #[.pointer (some ⟨b, 0, none⟩), mkV M.c M.d M.s M.m M.l] w fun e w' => ∃ u, e = .returned (.agg #[u]) ∧ Keeps n0 Ts w w' ∧ G u w' :=
  (spec_l04Valid_ret wb b v zs w h.1 M hM).call (by
    rintro _ w' ⟨u, zss, rfl, hl, o, s, p⟩
    exact ⟨u, rfl, h.1.keeps p hT, hg u zss w' hl (o.mono h.2.2) (h.step s p) p⟩)
end
abbrev spec_l04Draw_k0 (w : World) (Post : Value → World → Prop) (x139 : Int) (x140 : Int) (x141 : Int) (x142 : Int) (x143 : Int) (x144 : Value) (w156 : World) : Prop :=
  ∀ w157 : World, BxS w.heap.size 25 w156 w157 → oneC x144 (∀ w158 : World, BxS w.heap.size 28 w157 w158 → Post (Value.tuple #[(Value.agg #[(Value.int .i64 x139), (Value.int .i64 x140), (Value.int .i64 x141), (Value.int .i64 x142), (Value.int .i64 x143)]), (Value.agg #[x144])]) w158)
abbrev spec_l04Draw_k1 (w : World) (Post : Value → World → Prop) (x195 : Int) (x196 : Int) (x197 : Int) (x198 : Int) (x199 : Int) (x205 : Value) (w206 : World) : Prop :=
  oneC x205 (∀ w207 : World, BxS w.heap.size 28 w206 w207 → Post (Value.tuple #[(Value.agg #[(Value.int .i64 x195), (Value.int .i64 x196), (Value.int .i64 x197), (Value.int .i64 x198), (Value.int .i64 x199)]), (Value.agg #[x205])]) w207)
abbrev spec_l04Draw_k2 (w : World) (Post : Value → World → Prop) (x101 : Int) (x102 : Int) (x103 : Int) (x104 : Int) (x105 : Int) (x106 : Value) (w107 : World) : Prop :=
  ∀ w108 : World, Ext w107 w108 → ((spec_l04Draw_k0 w Post x101 x102 x103 x104 x105 x106 w108) ∧ (∀ w159 : World, BxS w.heap.size 25 w108 w159 → (spec_l04Draw_k1 w Post x101 x102 x103 x104 x105 x106 w159)))
abbrev spec_l04Draw_k3 (w : World) (Post : Value → World → Prop) (x238 : Int) (x239 : Int) (x240 : Int) (x241 : Int) (x242 : Int) (x243 : Value) (w255 : World) : Prop :=
  SlV 1 x243 (some 1) none none (fun u256 => oneC u256 (∀ w257 : World, BxS w.heap.size 25 w255 w257 → oneC u256 (∀ w258 : World, BxS w.heap.size 28 w257 w258 → Post (Value.tuple #[(Value.agg #[(Value.int .i64 x238), (Value.int .i64 x239), (Value.int .i64 x240), (Value.int .i64 x241), (Value.int .i64 x242)]), (Value.agg #[u256])]) w258)))
abbrev spec_l04Draw_k4 (w : World) (Post : Value → World → Prop) (x288 : Int) (x289 : Int) (x290 : Int) (x291 : Int) (x292 : Int) (x298 : Value) (w299 : World) : Prop :=
  SlV 1 x298 (some 1) none none (fun u300 => oneC u300 (oneC u300 (∀ w301 : World, BxS w.heap.size 28 w299 w301 → Post (Value.tuple #[(Value.agg #[(Value.int .i64 x288), (Value.int .i64 x289), (Value.int .i64 x290), (Value.int .i64 x291), (Value.int .i64 x292)]), (Value.agg #[u300])]) w301)))
abbrev spec_l04Draw_k5 (w : World) (Post : Value → World → Prop) (x23 : Addr) (x42 : Int) (x43 : Int) (x44 : Int) (x45 : Int) (x46 : Int) (w47 : World) : Prop :=
  Calls Tryz.prog 41 #[(Value.pointer (some x23)), (Value.agg #[(Value.int .i64 x42), (Value.int .i64 x43), (Value.int .i64 x44), (Value.int .i64 x45), (Value.int .i64 x46)])] w47 (fun e48 w49 => ∃ u50 : Value, e48 = .returned (Value.agg #[u50]) ∧ Keeps w.heap.size [25, 28, 25] w47 w49 ∧ ∀ w51 : World, Ext w49 w51 → oneC u50 (∀ w52 : World, BxS w.heap.size 28 w51 w52 → Calls Tryz.prog 24 #[(Value.pointer (some x23)), (Value.int .i64 24)] w52 (fun e53 w54 => ∃ n55 : Int, e53 = .returned (Value.int .i64 n55) ∧ Keeps w.heap.size [25, 28, 25, 28] w52 w54 ∧ (((n55 = (0 : Int)) → ∀ w56 : World, Ext w54 w56 → ∀ (v57 : Value) (w58 : World), Sx.Own w56.heap.size w58 2 v57 [(Value.int .i64 0), (Value.int .i64 (-1)), (Value.int .i64 x43)] → Ext w56 w58 → Calls Tryz.prog 25 #[(Value.pointer (some x23)), v57] w58 (fun e59 w60 => ∃ n61 : Int, e59 = .returned (Value.int .i64 n61) ∧ Keeps w.heap.size [25, 28, 25, 28] w58 w60 ∧ Keeps w.heap.size [28] w56 w60 ∧ ∀ (v62 : Value) (w63 : World), Sx.Own w60.heap.size w63 2 v62 [(Value.int .i64 n61)] → Ext w60 w63 → IxV 1 u50 0 (fun ad64 => StV w.heap.size [25, 28, 25, 28] w63 (Value.pointer (some ad64)) v62 (fun w65 => (spec_l04Draw_k2 w Post x42 x43 x44 x45 x46 u50 w65))))) ∧ (¬ (n55 = (0 : Int)) → (((n55 = (1 : Int)) → ∀ (v208 : Value) (w209 : World), Sx.Own w54.heap.size w209 2 v208 [(Value.int .i64 1), (Value.int .i64 0)] → Ext w54 w209 → IxV 1 u50 0 (fun ad210 => StV w.heap.size [25, 28, 25, 28] w209 (Value.pointer (some ad210)) v208 (fun w211 => (spec_l04Draw_k2 w Post x42 x43 x44 x45 x46 u50 w211)))) ∧ (¬ (n55 = (1 : Int)) → (((n55 = (2 : Int)) → IxV 1 u50 1 (fun ad212 => StV w.heap.size [25, 28, 25, 28] w54 (Value.pointer (some ad212)) (Value.slice none 0 0) (fun w213 => (spec_l04Draw_k2 w Post x42 x43 x44 x45 x46 u50 w213)))) ∧ (¬ (n55 = (2 : Int)) → (((n55 = (3 : Int)) → ∀ w214 : World, Ext w54 w214 → ((spec_l04Draw_k3 w Post x42 x43 x44 x45 x46 u50 w214) ∧ (∀ w259 : World, BxS w.heap.size 25 w214 w259 → (spec_l04Draw_k4 w Post x42 x43 x44 x45 x46 u50 w259)))) ∧ (¬ (n55 = (3 : Int)) → (spec_l04Draw_k2 w Post x42 x43 x44 x45 x46 u50 w54))))))))))))
def spec_l04Draw_vc (p : Addr) (w : World) (Post : Value → World → Prop) : Prop :=
  ∀ w1 : World, Ext w w1 → ∀ w2 : World, Ext w1 w2 → Calls Tryz.prog 40 #[(Value.pointer (some p))] w2 (fun e3 w4 => ∃ n5 : Int, ∃ n6 : Int, ∃ n7 : Int, ∃ n8 : Int, ∃ n9 : Int, e3 = .returned (Value.agg #[(Value.int .i64 n5), (Value.int .i64 n6), (Value.int .i64 n7), (Value.int .i64 n8), (Value.int .i64 n9)]) ∧ Keeps w.heap.size [25, 28] w2 w4 ∧ ∀ w10 : World, Ext w4 w10 → ∀ w11 : World, BxS w.heap.size 25 w10 w11 → Calls Tryz.prog 28 #[(Value.agg #[(Value.int .i64 n5), (Value.int .i64 n6), (Value.int .i64 n7), (Value.int .i64 n8), (Value.int .i64 n9)])] w11 (fun e12 w13 => ∃ b14 : Bool, e12 = .returned (Value.bool b14) ∧ Keeps w.heap.size [25, 28, 25] w11 w13 ∧ (((!b14) = true → ∀ (v15 : Value) (w16 : World), Sx.Own w13.heap.size w16 2 v15 [(Value.int .i64 0)] → Ext w13 w16 → ∀ (v17 : Value) (w18 : World), Sx.Own w16.heap.size w18 2 v17 [(Value.int .i64 0)] → Ext w16 w18 → oneC v15 (oneC v17 (∀ (v19 : Value) (w20 : World), Sx.Own w18.heap.size w20 45 v19 [v15, v17] → Ext w18 w20 → oneC v19 (∀ w21 : World, BxS w.heap.size 25 w20 w21 → oneC v19 (∀ w22 : World, BxS w.heap.size 28 w21 w22 → Post (Value.tuple #[(Value.agg #[(Value.int .i64 n5), (Value.int .i64 n6), (Value.int .i64 n7), (Value.int .i64 n8), (Value.int .i64 n9)]), (Value.agg #[v19])]) w22))))) ∧ ((!b14) = false → (spec_l04Draw_k5 w Post p n5 n6 n7 n8 n9 w13)))))
theorem spec_l04Draw_eq (p : Addr) (w : World) (Post : Value → World → Prop) : denF Tryz.prog [9400000, 9700000, 9800000] noAnn 18 [(Value.pointer (some p))] w Post = spec_l04Draw_vc p w Post := by kernel_rfl
set_option maxRecDepth 100000 in
theorem spec_l04Draw_calls (p : Addr) (w : World) (Post : Value → World → Prop) (hvc : spec_l04Draw_vc p w Post) : Ret Tryz.prog 18 #[(Value.pointer (some p))] w Post :=
  Ret.of (denF_sound mixed (Eq.mpr (spec_l04Draw_eq p w Post) hvc))

theorem spec_l04Draw_ret (wb : World) (b : Nat) (cv : Value) (zs : List Int) (w : World) (hs : Src wb b cv zs w) : Ret Tryz.prog 18 #[.pointer (some ⟨b, 0, none⟩)] w fun r w' => ∃ (M : Mk) (u : Value) (zss : List (List Int)), r = .tuple #[M.v, lkV u] ∧ Sm M ∧ VwR w.heap.size w' u zss ∧ Src wb b cv zs w' ∧ Pres (fun k => k ≠ b) w w' :=
  spec_l04Draw_calls ⟨b, 0, none⟩ w _ (by
    unfold spec_l04Draw_vc
    have hb := hs.lt
    have hw : wb.heap.size ≤ w.heap.size := hs.1.size
    intro w1 h1 w2 h2
    have d2 := (hs.dr.ext h1).ext h2
    refine (spec_l02Draw_ret wb b cv zs w2 d2.1).call ?_
    rintro _ w4 ⟨M, rfl, hM, s4, p4⟩
    have d4 := d2.step s4 p4
    refine ⟨M.c, M.d, M.s, M.m, M.l, rfl, d2.1.keeps p4 (by decide), fun w10 h10 w11 b11 => ?_⟩
    have d11 := (d4.ext h10).bxs b11
    -- the ends
    have fin : ∀ (u : Value) (zss : List (List Int)) (W : World), VwR w.heap.size W u zss → Dr wb b cv zs w W → ∃ (M' : Mk) (u' : Value) (zss : List (List Int)), Value.tuple #[.agg #[.int .i64 M.c, .int .i64 M.d, .int .i64 M.s, .int .i64 M.m, .int .i64 M.l], .agg #[u]] = .tuple #[M'.v, lkV u'] ∧ Sm M' ∧ VwR w.heap.size W u' zss ∧ Src wb b cv zs W ∧ Pres (fun k => k ≠ b) w W :=
      fun u zss W hv hd => ⟨M, u, zss, rfl, hM, hv, hd.1, hd.2.1⟩
    have k2 : ∀ (u : Value) (zss : List (List Int)) (W : World), VwR w.heap.size W u zss → Dr wb b cv zs w W → spec_l04Draw_k2 w (fun r w' => ∃ (M : Mk) (u : Value) (zss : List (List Int)), r = .tuple #[M.v, lkV u] ∧ Sm M ∧ VwR w.heap.size w' u zss ∧ Src wb b cv zs w' ∧ Pres (fun k => k ≠ b) w w') M.c M.d M.s M.m M.l u W := by
      intro u zss W hv hd W1 e1
      have v1 := hv.ext e1
      have c1 := hd.ext e1
      refine ⟨fun W2 b2 => v1.rr.oneC fun W3 b3 => fin u zss W3 ((v1.bxs b2 (by decide) (by decide)).bxs b3 (by decide) (by decide)) ((c1.bxs b2).bxs b3), fun W2 b2 => v1.rr.oneC fun W3 b3 => fin u zss W3 ((v1.bxs b2 (by decide) (by decide)).bxs b3 (by decide) (by decide)) ((c1.bxs b2).bxs b3)⟩
    refine (spec_IsMaker_val M.c M.d M.s M.m M.l w11).call fun w13 h13 => ⟨_, rfl, h13.keeps, fun hno v15 w16 o16 h16 v17 w18 o18 h18 => ?_, fun hyes => ?_⟩
    · have d13 := d11.ext h13
      have d18 := (d13.ext h16).ext h18
      refine o16.rd.oneC (o18.rd.oneC fun v19 w20 o20 h20 => ?_)
      have hv : VwR w.heap.size w20 v19 [[0], [0]] := by
        refine ⟨[v15, v17], (o20.mono d18.size).vw, rfl, fun i u z hu hz => ?_⟩
        match i, hu, hz with
        | 0, hu, hz =>
          simp at hu hz
          subst hu hz
          exact (((o16.ext h18).ext h20).mono d13.size).vw
        | 1, hu, hz =>
          simp at hu hz
          subst hu hz
          exact ((o18.ext h20).mono (d13.ext h16).size).vw
      have d20 := d18.ext h20
      refine hv.rr.oneC fun W2 b2 => hv.rr.oneC fun W3 b3 => fin v19 _ W3 ((hv.bxs b2 (by decide) (by decide)).bxs b3 (by decide) (by decide)) ((d20.bxs b2).bxs b3)
    have hok : MkOk M.c M.d M.s M.m M.l := nd_f hyes
    have hc : 2 ≤ M.c := hok.1.1
    have d13 := d11.ext h13
    refine (spec_l04Valid_ret wb b cv zs w13 d13.1 M hok).call ?_
    rintro _ w49 ⟨u, zss, rfl, hl, o49, s49, p49⟩
    have d49 := d13.step s49 p49
    refine ⟨u, rfl, d13.1.keeps p49 (by decide), fun w51 h51 => (o49.ext h51).rr.oneC fun w52 b52 => ?_⟩
    have d52 := (d49.ext h51).bxs b52
    have o52 := ((o49.ext h51).mono d13.size).bxs b52 (by decide) (by decide)
    refine d52.next 24 (by simp) fun n w54 n0 n1 d54 p54 => ?_
    have o54 := o52.dr p54 hb
    refine ⟨fun _ w56 h56 v57 w58 o58 h58 => ?_, fun _ => ⟨fun _ v57 w58 o58 h58 => ?_, fun _ => ⟨fun _ => ?_, fun _ => ⟨fun _ W1 e1 => ?_, fun _ => k2 u zss w54 o54.vw d54⟩⟩⟩⟩
    · have d58 := (d54.ext h56).ext h58
      refine d58.pick [0, -1, M.d] o58 (d54.ext h56).size (by simp) (by simp) fun y w60 hy d60 p60 => ⟨(d54.ext h56).1.keeps ((h58.pres _).trans p60) (by simp), fun v62 w63 o63 h63 => ?_⟩
      have o63' := (((o54.ext h56).ext h58).dr p60 hb).ext h63
      refine o63'.put (z := [y]) 0 rfl (by omega) (o63.vw) d60.size (by simp) fun w65 v65 p65 _ => k2 u _ w65 v65 ((d60.ext h63).low p65 (Nat.le_refl _))
    · refine (o54.ext h58).put (z := [1, 0]) 0 rfl (by omega) o58.vw d54.size (by simp) fun w65 v65 p65 _ => k2 u _ w65 v65 ((d54.ext h58).low p65 (Nat.le_refl _))
    · exact o54.put (z := []) 1 rfl (by omega) (Own.nil_ w.heap.size w54 2).vw (Nat.le_refl _) (by simp) fun w65 v65 p65 _ => k2 u _ w65 v65 (d54.low p65 (Nat.le_refl _))
    · have v1 := (o54.ext e1).vw
      have c1 := d54.ext e1
      refine ⟨v1.sl 1 zss.length rfl rfl (by omega) (Nat.le_refl _) fun q hq => hq.rr.oneC fun W2 b2 => hq.rr.oneC fun W3 b3 => fin q _ W3 ((hq.bxs b2 (by decide) (by decide)).bxs b3 (by decide) (by decide)) ((c1.bxs b2).bxs b3), fun W2 b2 => ?_⟩
      have v2 := v1.bxs b2 (by decide) (by decide)
      refine v2.sl 1 zss.length rfl rfl (by omega) (Nat.le_refl _) fun q hq => hq.rr.oneC (hq.rr.oneC fun W3 b3 => fin q _ W3 (hq.bxs b3 (by decide) (by decide)) ((c1.bxs b2).bxs b3)))
section
variable {wb w : World} {b lo : Nat} {v : Value} {zs : List Int}
/-- 'l04Draw(s)' -/
theorem Dq.lock (h : Dq wb b v zs lo w) {n0 : Nat} {Ts : List TypeId} (hT : 72 ∉ Ts) {G : Int → Int → Int → Int → Int → Value → World → Prop}
    (hg : ∀ (M : Mk) (u : Value) (zss : List (List Int)) (w' : World), Sm M → VwR lo w' u zss → Dq wb b v zs lo w' → Pres (fun k => k ≠ b) w w' → G M.c M.d M.s M.m M.l u w') :
    Calls Tryz.prog 18 #[.pointer (some ⟨b, 0, none⟩)] w fun e w' => ∃ c d s m l : Int, ∃ u : Value, e = .returned (.tuple #[mkV c d s m l, .agg #[u]]) ∧ Keeps n0 Ts w w' ∧ G c d s m l u w' :=
  (spec_l04Draw_ret wb b v zs w h.1).call (by
    rintro _ w' ⟨M, u, zss, rfl, hM, hv, s, p⟩
    exact ⟨M.c, M.d, M.s, M.m, M.l, u, rfl, h.1.keeps p hT, hg M u zss w' hM (hv.mono h.2.2) (h.step s p) p⟩)
end
/-- what a draw of a maker and a lock gives -/
def DrML (f : FuncId) (args : Array Value) (w : World) : Prop := Ret Tryz.prog f args w fun r w' => ∃ (M : Mk) (u : Value) (zss : List (List Int)), r = .tuple #[M.v, lkV u] ∧ VwR w.heap.size w' u zss ∧ Ext w w'
/-- of a maker, a lock and a number -/
def DrMLI (f : FuncId) (args : Array Value) (w : World) : Prop := Ret Tryz.prog f args w fun r w' => ∃ (M : Mk) (u : Value) (zss : List (List Int)) (n : Int), r = .tuple #[M.v, lkV u, .int .i64 n] ∧ I64 n ∧ VwR w.heap.size w' u zss ∧ Ext w w'
end Go.Proofs
end
section
set_option linter.unusedVariables false
namespace Go.Proofs
open Go.Sx Go.RowKit Go.Tx

def spec_DrawPinsOf_vc (v : Value) (w : World) (Post : Value → World → Prop) : Prop :=
  ∀ w1 : World, Ext w w1 → ∀ w2 : World, Ext w1 w2 → Calls Tryz.prog 19 #[v] w2 (fun e3 w4 => ∃ p5 : Addr, e3 = .returned (Value.pointer (some p5)) ∧ Keeps w.heap.size [25, 28] w2 w4 ∧ Calls Tryz.prog 18 #[(Value.pointer (some p5))] w4 (fun e6 w7 => ∃ n8 : Int, ∃ n9 : Int, ∃ n10 : Int, ∃ n11 : Int, ∃ n12 : Int, ∃ u13 : Value, e6 = .returned (Value.tuple #[(Value.agg #[(Value.int .i64 n8), (Value.int .i64 n9), (Value.int .i64 n10), (Value.int .i64 n11), (Value.int .i64 n12)]), (Value.agg #[u13])]) ∧ Keeps w.heap.size [25, 28] w4 w7 ∧ ∀ w14 : World, BxS w.heap.size 25 w7 w14 → oneC u13 (∀ w15 : World, BxS w.heap.size 28 w14 w15 → Post (Value.tuple #[(Value.agg #[(Value.int .i64 n8), (Value.int .i64 n9), (Value.int .i64 n10), (Value.int .i64 n11), (Value.int .i64 n12)]), (Value.agg #[u13])]) w15)))
theorem spec_DrawPinsOf_eq (v : Value) (w : World) (Post : Value → World → Prop) : denF Tryz.prog [9400000, 9700000, 9800000] noAnn 5 [v] w Post = spec_DrawPinsOf_vc v w Post := by kernel_rfl
set_option maxRecDepth 100000 in
theorem spec_DrawPinsOf_calls (v : Value) (w : World) (Post : Value → World → Prop) (hvc : spec_DrawPinsOf_vc v w Post) : Ret Tryz.prog 5 #[v] w Post :=
  Ret.of (denF_sound mixed (Eq.mpr (spec_DrawPinsOf_eq v w Post) hvc))

theorem spec_DrawPinsOf_ret (cv : Value) (zs : List Int) (w : World) (h : RB w cv zs) : DrML 5 #[cv] w :=
  spec_DrawPinsOf_calls cv w _ (by
    unfold spec_DrawPinsOf_vc
    intro w1 h1 w2 h2
    refine from_q h (h1.trans h2) fun b w4 d4 => ?_
    refine d4.lock (by decide) fun M u zss w7 hM hv d7 p7 => fun w14 b14 => hv.rr.oneC fun w15 b15 => ?_
    exact ⟨M, u, zss, rfl, ((hv.bxs b14 (by decide) (by decide)).bxs b15 (by decide) (by decide)).mono d4.base.size, (d7.base.bxs b14).bxs b15⟩)
theorem pinsTx_len (c d s m l : Int) (zss : List (List Int)) : (pinsTx c d s m l zss).length ≤ 9000 := by
  unfold pinsTx
  split
  · rename_i hk
    obtain ⟨hd, h2, h3⟩ := lk_small hk
    have hst := stacks_ok hk
    have h1 := join_length (ws := (zss.map (stack d)).map stT) (sep := [32]) (k := 1414) (by
      intro x hx
      obtain ⟨y, hy, rfl⟩ := List.mem_map.1 hx
      have hy2 := (hst.2 y hy).2
      have hyl : y.length ≤ 101 := by
        obtain ⟨z, hz, rfl⟩ := List.mem_map.1 hy
        rw [stack_length]
        have := (h3 z hz).2.1
        omega
      have h4 := join_length (ws := y.map Lib.itoa) (sep := [43]) (k := 13) (by
        intro q hq
        obtain ⟨n, hn, rfl⟩ := List.mem_map.1 hq
        have := hy2 n hn
        exact itoa13 (by simp only [Mx]; omega))
      have h5 : (y.map Lib.itoa).length ≤ 101 := by rw [List.length_map]; exact hyl
      exact Nat.le_trans h4 (Nat.le_trans (Nat.mul_le_mul h5 (Nat.le_refl _)) (by decide)))
    have h6 : ((zss.map (stack d)).map stT).length ≤ 6 := by rw [List.length_map, List.length_map]; exact h2
    exact Nat.le_trans h1 (Nat.le_trans (Nat.mul_le_mul h6 (Nat.le_refl _)) (by decide))
  · simp
abbrev spec_DrawReadPins_k0 (w : World) (Post : Value → World → Prop) (x32 : ByteArray) (x74 : Int) (x75 : Int) (x76 : Int) (x77 : Int) (x78 : Int) (w80 : World) : Prop :=
  ∀ w81 : World, BxS w.heap.size 25 w80 w81 → Post (Value.tuple #[(Value.agg #[(Value.int .i64 x74), (Value.int .i64 x75), (Value.int .i64 x76), (Value.int .i64 x77), (Value.int .i64 x78)]), (Value.string x32)]) w81
def spec_DrawReadPins_vc (v : Value) (w : World) (Post : Value → World → Prop) : Prop :=
  ∀ w1 : World, Ext w w1 → Calls Tryz.prog 19 #[v] w1 (fun e2 w3 => ∃ p4 : Addr, e2 = .returned (Value.pointer (some p4)) ∧ Keeps w.heap.size [25] w1 w3 ∧ Calls Tryz.prog 18 #[(Value.pointer (some p4))] w3 (fun e5 w6 => ∃ n7 : Int, ∃ n8 : Int, ∃ n9 : Int, ∃ n10 : Int, ∃ n11 : Int, ∃ u12 : Value, e5 = .returned (Value.tuple #[(Value.agg #[(Value.int .i64 n7), (Value.int .i64 n8), (Value.int .i64 n9), (Value.int .i64 n10), (Value.int .i64 n11)]), (Value.agg #[u12])]) ∧ Keeps w.heap.size [25] w3 w6 ∧ ∀ w13 : World, Ext w6 w13 → ∀ w14 : World, Ext w13 w14 → ∀ w15 : World, BxS w.heap.size 25 w14 w15 → oneC u12 (∀ w16 : World, BxS w.heap.size 28 w15 w16 → Calls Tryz.prog 32 #[(Value.agg #[(Value.int .i64 n7), (Value.int .i64 n8), (Value.int .i64 n9), (Value.int .i64 n10), (Value.int .i64 n11)]), (Value.agg #[u12])] w16 (fun e17 w18 => ∃ s19 : ByteArray, ∃ n20 : Int, e17 = .returned (Value.tuple #[(Value.string s19), (Value.int .i64 n20)]) ∧ Keeps w.heap.size [25, 25, 28] w16 w18 ∧ Calls Tryz.prog 24 #[(Value.pointer (some p4)), (Value.int .i64 3)] w18 (fun e21 w22 => ∃ n23 : Int, e21 = .returned (Value.int .i64 n23) ∧ Keeps w.heap.size [25, 25, 28] w18 w22 ∧ (((n23 = (0 : Int)) → ∀ w24 : World, Ext w22 w24 → Calls Tryz.prog 33 #[(Value.pointer (some p4)), (Value.string s19)] w24 (fun e25 w26 => ∃ s27 : ByteArray, e25 = .returned (Value.string s27) ∧ Keeps w.heap.size [25, 25, 28] w24 w26 ∧ Keeps w.heap.size [25] w24 w26 ∧ ∀ w28 : World, BxS w.heap.size 25 w26 w28 → Post (Value.tuple #[(Value.agg #[(Value.int .i64 n7), (Value.int .i64 n8), (Value.int .i64 n9), (Value.int .i64 n10), (Value.int .i64 n11)]), (Value.string s27)]) w28)) ∧ (¬ (n23 = (0 : Int)) → (spec_DrawReadPins_k0 w Post s19 n7 n8 n9 n10 n11 w22))))))))
theorem spec_DrawReadPins_eq (v : Value) (w : World) (Post : Value → World → Prop) : denF Tryz.prog [9400000, 9700000, 9800000] noAnn 11 [v] w Post = spec_DrawReadPins_vc v w Post := by kernel_rfl
set_option maxRecDepth 100000 in
theorem spec_DrawReadPins_calls (v : Value) (w : World) (Post : Value → World → Prop) (hvc : spec_DrawReadPins_vc v w Post) : Ret Tryz.prog 11 #[v] w Post :=
  Ret.of (denF_sound mixed (Eq.mpr (spec_DrawReadPins_eq v w Post) hvc))

theorem spec_DrawReadPins_ret (cv : Value) (zs : List Int) (w : World) (h : RB w cv zs) : DrMT 11 #[cv] w :=
  spec_DrawReadPins_calls cv w _ (by
    unfold spec_DrawReadPins_vc
    intro w1 h1
    refine from_q h h1 fun b w2 d2 => ?_
    refine d2.lock (by decide) fun M u zss w3 hM hv d3 p3 => fun w4 h4 w5 h5 w6 b6 => hv.rr.oneC fun w7 b7 => ?_
    have d7 := (((d3.ext h4).ext h5).bxs (Nat.le_refl _) b6 (by decide)).bxs (Nat.le_refl _) b7 (by decide)
    have v7 := (((hv.ext h4).ext h5).bxs b6 (by decide) (by decide)).bxs b7 (by decide) (by decide)
    have hk := pinsTx_len M.c M.d M.s M.m M.l zss
    refine (spec_PinsText_val M.c M.d M.s M.m M.l u zss w7 v7.rr).call fun w8 h8 => ⟨_, _, rfl, h8.keeps, ?_⟩
    have d8 := d7.ext h8
    refine d8.next 3 (by simp) fun n w9 n0 n1 d9 p9 _ => ⟨fun _ w10 h10 => ?_, fun _ => ?_⟩
    · have d10 := d9.ext h10
      refine (spec_l01Damage_ret w b cv zs w10 d10.1 (pinsTx M.c M.d M.s M.m M.l zss) (by omega)).call ?_
      rintro _ w11 ⟨x, rfl, hx, s11, p11⟩
      refine ⟨_, rfl, d10.1.keeps p11 (by simp), d10.kp p11 (by simp), fun w12 b12 => ⟨M, x, rfl, by omega, s11.1.bxs b12⟩⟩
    · unfold spec_DrawReadPins_k0
      intro w10 b10
      exact ⟨M, _, rfl, by omega, d9.base.bxs b10⟩)
/-- of a maker and of stacks -/
def DrMP (f : FuncId) (args : Array Value) (w : World) : Prop := Ret Tryz.prog f args w fun r w' => ∃ (M : Mk) (u : Value) (zss : List (List Int)), r = .tuple #[M.v, u] ∧ VwR w.heap.size w' u zss ∧ zss.length ≤ 1000 ∧ (∀ z ∈ zss, z.length ≤ 1000) ∧ Ext w w'
theorem rows_but {R : Value → List Int → Prop} {us : List Value} {zss : List (List Int)} {k : Nat} {x : Value} {y : List Int} (hl : us.length = zss.length) (hr : ∀ (i : Nat) (u : Value) (z : List Int), i ≠ k → us[i]? = some u → zss[i]? = some z → R u z) (hx : R x y) : Rows R (us.set k x) (zss.set k y) := by
  refine ⟨by simpa using hl, fun i u z hu hz => ?_⟩
  by_cases hi : i = k
  · subst hi
    rw [List.getElem?_set_self'] at hu hz
    cases h1 : us[i]? with
    | none => rw [h1] at hu; cases hu
    | some _ =>
      cases h2 : zss[i]? with
      | none => rw [h2] at hz; cases hz
      | some _ =>
        rw [h1] at hu
        rw [h2] at hz
        injection hu with hu
        injection hz with hz
        subst hu hz
        exact hx
  · rw [List.getElem?_set_ne (Ne.symm hi)] at hu hz
    exact hr i u z hi hu hz
theorem set_len {zss : List (List Int)} {k : Nat} {y : List Int} {n : Nat} (h : ∀ z ∈ zss, z.length ≤ n) (hy : y.length ≤ n) : ∀ z ∈ zss.set k y, z.length ≤ n := by
  intro z hz
  rcases List.mem_or_eq_of_mem_set hz with hz | rfl
  · exact h z hz
  · exact hy
abbrev spec_DrawLockOfPins_k0 (w : World) (Post : Value → World → Prop) (x96 : Value) (x160 : Int) (x161 : Int) (x162 : Int) (x163 : Int) (x164 : Int) (w166 : World) : Prop :=
  ∀ w167 : World, BxS w.heap.size 25 w166 w167 → Post (Value.tuple #[(Value.agg #[(Value.int .i64 x160), (Value.int .i64 x161), (Value.int .i64 x162), (Value.int .i64 x163), (Value.int .i64 x164)]), x96]) w167
abbrev spec_DrawLockOfPins_k1 (w : World) (Post : Value → World → Prop) (x28 : Addr) (x63 : Int) (x64 : Int) (x65 : Int) (x66 : Int) (x67 : Int) (x68 : Value) (w69 : World) : Prop :=
  Calls Tryz.prog 23 #[(Value.agg #[(Value.int .i64 x63), (Value.int .i64 x64), (Value.int .i64 x65), (Value.int .i64 x66), (Value.int .i64 x67)]), (Value.agg #[x68])] w69 (fun e70 w71 => ∃ u72 : Value, e70 = .returned u72 ∧ Keeps w.heap.size [25, 25, 28] w69 w71 ∧ LenV u72 (fun n73 => Calls Tryz.prog 24 #[(Value.pointer (some x28)), (Value.int .i64 n73)] w71 (fun e74 w75 => ∃ n76 : Int, e74 = .returned (Value.int .i64 n76) ∧ Keeps w.heap.size [25, 25, 28] w71 w75 ∧ Calls Tryz.prog 24 #[(Value.pointer (some x28)), (Value.int .i64 10)] w75 (fun e77 w78 => ∃ n79 : Int, e77 = .returned (Value.int .i64 n79) ∧ Keeps w.heap.size [25, 25, 28] w75 w78 ∧ (((n79 = (0 : Int)) → ∀ w80 : World, Ext w78 w80 → IxV 1 u72 n76 (fun ad81 => ∃ u82 : Value, LdV w80 (Value.pointer (some ad81)) u82 ∧ IxV 1 u72 n76 (fun ad83 => ∃ u84 : Value, LdV w80 (Value.pointer (some ad83)) u84 ∧ IxV 1 u84 0 (fun ad85 => ∃ n86 : Int, LdV w80 (Value.pointer (some ad85)) (Value.int .i64 n86) ∧ ∀ (v87 : Value) (w88 : World), Sx.Own w80.heap.size w88 2 v87 [(Value.int .i64 (-1)), (Value.int .i64 1), (Value.int .i64 9223372036854775807)] → Ext w80 w88 → Calls Tryz.prog 25 #[(Value.pointer (some x28)), v87] w88 (fun e89 w90 => ∃ n91 : Int, e89 = .returned (Value.int .i64 n91) ∧ Keeps w.heap.size [25, 25, 28] w88 w90 ∧ LdV w90 (Value.pointer (some ad85)) (Value.int .i64 n86) ∧ LdV w90 (Value.pointer (some ad83)) u84 ∧ LdV w90 (Value.pointer (some ad81)) u82 ∧ IxV 1 u82 0 (fun ad92 => StV w.heap.size [25, 25, 28] w90 (Value.pointer (some ad92)) (Value.int .i64 (IntKind.wrap .i64 (n86 + n91))) (fun w93 => (spec_DrawLockOfPins_k0 w Post u72 x63 x64 x65 x66 x67 w93)))))))) ∧ (¬ (n79 = (0 : Int)) → (((n79 = (1 : Int)) → IxV 1 u72 n76 (fun ad168 => ∃ u169 : Value, LdV w78 (Value.pointer (some ad168)) u169 ∧ ∀ (v170 : Value) (w171 : World), Sx.Own w78.heap.size w171 2 v170 [(Value.int .i64 0)] → Ext w78 w171 → AppV w171 2 u169 v170 (fun v172 w173 => IxV 1 u72 n76 (fun ad174 => StV w.heap.size [25, 25, 28] w173 (Value.pointer (some ad174)) v172 (fun w175 => (spec_DrawLockOfPins_k0 w Post u72 x63 x64 x65 x66 x67 w175)))))) ∧ (¬ (n79 = (1 : Int)) → (((n79 = (2 : Int)) → IxV 1 u72 n76 (fun ad176 => StV w.heap.size [25, 25, 28] w78 (Value.pointer (some ad176)) (Value.slice none 0 0) (fun w177 => (spec_DrawLockOfPins_k0 w Post u72 x63 x64 x65 x66 x67 w177)))) ∧ (¬ (n79 = (2 : Int)) → (((n79 = (3 : Int)) → ∀ (v178 : Value) (w179 : World), Sx.Own w78.heap.size w179 2 v178 [(Value.int .i64 (IntKind.wrap .i64 (x64 - 1)))] → Ext w78 w179 → IxV 1 u72 n76 (fun ad180 => StV w.heap.size [25, 25, 28] w179 (Value.pointer (some ad180)) v178 (fun w181 => (spec_DrawLockOfPins_k0 w Post u72 x63 x64 x65 x66 x67 w181)))) ∧ (¬ (n79 = (3 : Int)) → (spec_DrawLockOfPins_k0 w Post u72 x63 x64 x65 x66 x67 w78)))))))))))))
def spec_DrawLockOfPins_vc (v : Value) (w : World) (Post : Value → World → Prop) : Prop :=
  ∀ w1 : World, Ext w w1 → Calls Tryz.prog 19 #[v] w1 (fun e2 w3 => ∃ p4 : Addr, e2 = .returned (Value.pointer (some p4)) ∧ Keeps w.heap.size [25] w1 w3 ∧ Calls Tryz.prog 18 #[(Value.pointer (some p4))] w3 (fun e5 w6 => ∃ n7 : Int, ∃ n8 : Int, ∃ n9 : Int, ∃ n10 : Int, ∃ n11 : Int, ∃ u12 : Value, e5 = .returned (Value.tuple #[(Value.agg #[(Value.int .i64 n7), (Value.int .i64 n8), (Value.int .i64 n9), (Value.int .i64 n10), (Value.int .i64 n11)]), (Value.agg #[u12])]) ∧ Keeps w.heap.size [25] w3 w6 ∧ ∀ w13 : World, Ext w6 w13 → ∀ w14 : World, Ext w13 w14 → ∀ w15 : World, BxS w.heap.size 25 w14 w15 → oneC u12 (∀ w16 : World, BxS w.heap.size 28 w15 w16 → Calls Tryz.prog 22 #[(Value.agg #[(Value.int .i64 n7), (Value.int .i64 n8), (Value.int .i64 n9), (Value.int .i64 n10), (Value.int .i64 n11)]), (Value.agg #[u12])] w16 (fun e17 w18 => ∃ b19 : Bool, e17 = .returned (Value.bool b19) ∧ Keeps w.heap.size [25, 25, 28] w16 w18 ∧ (((!b19) = true → ∀ (v20 : Value) (w21 : World), Sx.Own w18.heap.size w21 2 v20 [(Value.int .i64 0), (Value.int .i64 1)] → Ext w18 w21 → ∀ (v22 : Value) (w23 : World), Sx.Own w21.heap.size w23 2 v22 [(Value.int .i64 1), (Value.int .i64 0)] → Ext w21 w23 → oneC v20 (oneC v22 (∀ (v24 : Value) (w25 : World), Sx.Own w23.heap.size w25 45 v24 [v20, v22] → Ext w23 w25 → ∀ w26 : World, BxS w.heap.size 25 w25 w26 → Post (Value.tuple #[(Value.agg #[(Value.int .i64 n7), (Value.int .i64 n8), (Value.int .i64 n9), (Value.int .i64 n10), (Value.int .i64 n11)]), v24]) w26))) ∧ ((!b19) = false → (spec_DrawLockOfPins_k1 w Post p4 n7 n8 n9 n10 n11 u12 w18)))))))
theorem spec_DrawLockOfPins_eq (v : Value) (w : World) (Post : Value → World → Prop) : denF Tryz.prog [9000000, 9200000, 9400000, 9700000, 9800000] noAnn 8 [v] w Post = spec_DrawLockOfPins_vc v w Post := by kernel_rfl
set_option maxRecDepth 100000 in
theorem spec_DrawLockOfPins_calls (v : Value) (w : World) (Post : Value → World → Prop) (hvc : spec_DrawLockOfPins_vc v w Post) : Ret Tryz.prog 8 #[v] w Post :=
  Ret.of (denF_sound mixed (Eq.mpr (spec_DrawLockOfPins_eq v w Post) hvc))

theorem spec_DrawLockOfPins_ret (cv : Value) (zs : List Int) (w : World) (h : RB w cv zs) : DrMP 8 #[cv] w :=
  spec_DrawLockOfPins_calls cv w _ (by
    unfold spec_DrawLockOfPins_vc
    intro w1 h1
    refine from_q h h1 fun b w2 d2 => ?_
    have hb := d2.2.1
    refine d2.lock (by decide) fun M u zss w3 hM hv d3 p3 => fun w4 h4 w5 h5 w6 b6 => hv.rr.oneC fun w7 b7 => ?_
    have d7 := (((d3.ext h4).ext h5).bxs (Nat.le_refl _) b6 (by decide)).bxs (Nat.le_refl _) b7 (by decide)
    have v7 := (((hv.ext h4).ext h5).bxs b6 (by decide) (by decide)).bxs b7 (by decide) (by decide)
    have fin : ∀ (q : Value) (yss : List (List Int)) (W : World), VwR w.heap.size W q yss → yss.length ≤ 1000 → (∀ z ∈ yss, z.length ≤ 1000) → Ext w W → ∀ W', BxS w.heap.size 25 W W' →
        ∃ (M' : Mk) (u : Value) (zss : List (List Int)), Value.tuple #[.agg #[.int .i64 M.c, .int .i64 M.d, .int .i64 M.s, .int .i64 M.m, .int .i64 M.l], q] = .tuple #[M'.v, u] ∧ VwR w.heap.size W' u zss ∧ zss.length ≤ 1000 ∧ (∀ z ∈ zss, z.length ≤ 1000) ∧ Ext w W' :=
      fun q yss W hq hl hz hW W' hB => ⟨M, q, yss, rfl, hq.bxs hB (by decide) (by decide), hl, hz, hW.bxs hB⟩
    refine (spec_IsLock_val M.c M.d M.s M.m M.l u zss w7 v7.rr).call fun w8 h8 => ⟨_, rfl, h8.keeps, fun hno => ?_, fun hyes => ?_⟩
    · intro a w9 oa h9 c w10 oc h10
      refine oa.rd.oneC (oc.rd.oneC fun r w11 or h11 w12 b12 => ?_)
      have k8 := d7.base.trans h8
      have z8 := k8.size
      refine fin r [[0, 1], [1, 0]] w11 ⟨[a, c], (or.vw).mono (by have := h9.size; have := h10.size; omega), ?_⟩ (by simp) (by simp) (((k8.trans h9).trans h10).trans h11) w12 b12
      refine (Rows.nil_.snoc ?_).snoc ?_
      · exact (((oa.ext h10).ext h11).vw).mono z8
      · exact ((oc.ext h11).vw).mono (by have := h9.size; omega)
    have hk := nd_f hyes
    obtain ⟨p1, p2, p3'⟩ := lk_small hk
    have d8 := d7.ext h8
    have v8 := v7.ext h8
    unfold spec_DrawLockOfPins_k1
    refine (spec_l05Pins_ret M.c M.d M.s M.m M.l u zss w8 v8.rr p1 p2 p3').call ?_
    rintro q w9 ⟨oq, h9⟩
    have hst : ∀ z ∈ zss.map (stack M.d), z.length ≤ 101 ∧ 1 ≤ z.length := fun z hz => by
      obtain ⟨x, hx, rfl⟩ := List.mem_map.1 hz
      rw [stack_length]
      have := (p3' x hx).2.1
      omega
    have hlen : (zss.map (stack M.d)).length ≤ 6 ∧ 1 ≤ (zss.map (stack M.d)).length := by
      rw [List.length_map]
      have := hk.2.1
      have := hk.1.1
      omega
    generalize zss.map (stack M.d) = yss at oq hst hlen
    have hsm : ∀ z ∈ yss, z.length ≤ 900 := fun z hz => by have := (hst z hz).1; omega
    have d9 := d8.ext h9
    have oq := oq.mono (B' := w2.heap.size) d8.2.2
    refine ⟨q, rfl, h9.keeps, oq.rr.len ?_⟩
    refine d9.next _ (by simp) fun k w10 k0 k1 d10 p10 _ => ?_
    refine d10.next 10 (by simp) fun n w11 n0 n1 d11 p11 _ => ?_
    have z11 := d11.base.size
    obtain ⟨us, o9, r9, ap⟩ := oq
    have o11 := (o9.dr p10 hb).dr p11 hb
    have r11 : Rows (fun u z => Own w2.heap.size w11 2 u (ints z)) us yss := r9.map fun u z hr => (hr.dr p10 hb).dr p11 hb
    clear o9 r9
    have hul := r11.1
    have hkk : k.toNat < us.length := by omega
    have hky : k.toNat < yss.length := by omega
    have hki : k = ((k.toNat : Nat) : Int) := by omega
    have z2 := d2.base.size
    obtain ⟨s1, s2⟩ := hst _ (List.getElem_mem hky)
    -- the k-th row is replaced
    have put : ∀ (x : Value) (y : List Int) (W : World), Own w2.heap.size W 45 q us → (∀ (i : Nat) (u : Value) (z : List Int), i ≠ k.toNat → us[i]? = some u → yss[i]? = some z → Vw w2.heap.size W 2 u (ints z)) → Vw w2.heap.size W 2 x (ints y) → y.length ≤ 1000 → Ext w W →
        IxV 1 q k (fun ad => StV w.heap.size [25, 25, 28] W (.pointer (some ad)) x (fun W' => spec_DrawLockOfPins_k0 w (fun r w' => ∃ (M : Mk) (u : Value) (zss : List (List Int)), r = .tuple #[M.v, u] ∧ VwR w.heap.size w' u zss ∧ zss.length ≤ 1000 ∧ (∀ z ∈ zss, z.length ≤ 1000) ∧ Ext w w') q M.c M.d M.s M.m M.l W')) := by
      intro x y W ho hr hx hy hW
      refine ho.setAt k.toNat hki hkk hx.one (by decide) fun W' o' g => ?_
      unfold spec_DrawLockOfPins_k0
      refine fin q (yss.set k.toNat y) W' ⟨us.set k.toNat x, o'.vw.mono z2, ?_⟩ (by rw [List.length_set]; omega) (set_len (fun z hz => by have := hsm z hz; omega) hy) (hW.grown ho z2 g)
      exact (rows_but hul (fun i u z hi hu hz => (hr i u z hi hu hz).grown ho (by decide) g) (hx.grown ho (by decide) g)).map fun u z hr => hr.mono z2
    have rest : ∀ (W : World), Ext w11 W → ∀ (i : Nat) (u : Value) (z : List Int), i ≠ k.toNat → us[i]? = some u → yss[i]? = some z → Vw w2.heap.size W 2 u (ints z) := fun W hW i u z _ hu hz => ((r11.2 i u z hu hz).ext hW).vw
    have rk : Own w2.heap.size w11 2 us[k.toNat] (ints yss[k.toNat]) := r11.2 k.toNat _ _ (List.getElem?_eq_getElem hkk) (List.getElem?_eq_getElem hky)
    refine ⟨fun _ w12 h12 => ?_, fun _ => ⟨fun _ => ?_, fun _ => ⟨fun _ => ?_, fun _ => ⟨fun _ => ?_, fun _ => ?_⟩⟩⟩⟩
    · have d12 := d11.ext h12
      have o12 := o11.ext h12
      have k12 := rk.ext h12
      refine o12.vw.ix k.toNat hki hkk fun ad hA => ⟨us[k.toNat], hA w12 o12.vw, ?_⟩
      refine o12.vw.ix k.toNat hki hkk fun ad2 hA2 => ⟨us[k.toNat], hA2 w12 o12.vw, ?_⟩
      refine k12.vw.ix 0 rfl (by rw [ints_length]; omega) fun ad3 hA3 => ?_
      have hA3 : ∀ W, Vw w2.heap.size W 2 us[k.toNat] (ints yss[k.toNat]) → LdV W (.pointer (some ad3)) (.int .i64 yss[k.toNat][0]) := fun W hW => by
        have := hA3 W hW
        simpa [ints] using this
      refine ⟨yss[k.toNat][0], hA3 w12 k12.vw, fun v13 w13 o13 h13 => ?_⟩
      refine (d12.ext h13).pick [-1, 1, 9223372036854775807] o13 d12.2.2 (by simp) (by simp) fun x w14 hx d14 p14 _ => ?_
      have o14 := (o12.ext h13).dr p14 hb
      have k14 := (k12.ext h13).dr p14 hb
      refine ⟨hA3 w14 k14.vw, hA2 w14 o14.vw, hA w14 o14.vw, ?_⟩
      refine k14.setAt 0 rfl (by rw [ints_length]; omega) rfl (by decide) fun w15 o15 g15 => ?_
      unfold spec_DrawLockOfPins_k0
      have e15 : (ints yss[k.toNat]).set 0 (.int .i64 (IntKind.wrap .i64 (yss[k.toNat][0] + x))) = ints (yss[k.toNat].set 0 (IntKind.wrap .i64 (yss[k.toNat][0] + x))) := by unfold ints; rw [List.map_set]
      rw [e15] at o15
      refine fin q (yss.set k.toNat (yss[k.toNat].set 0 (IntKind.wrap .i64 (yss[k.toNat][0] + x)))) w15 ⟨us, (o14.vw.grown k14 (by decide) g15).mono z2, ?_⟩ (by rw [List.length_set]; omega) (set_len (fun z hz => by have := hsm z hz; omega) (by rw [List.length_set]; omega)) (d14.base.grown k14 z2 g15)
      have hset : us = us.set k.toNat us[k.toNat] := (List.set_getElem_self hkk).symm
      rw [hset]
      refine (rows_but (R := fun u z => Vw w.heap.size w15 2 u (ints z)) hul (fun i u z hi hu hz => ?_) (o15.vw.mono z2))
      obtain ⟨hi2, hu2⟩ := List.getElem?_eq_some_iff.1 hu
      subst hu2
      have ri := (((r11.2 i _ z hu hz).ext h12).ext h13).dr p14 hb
      exact ((ri.grown g15 (pair_get ap hi2 hkk hi)).vw).mono z2
    · refine o11.vw.ix k.toNat hki hkk fun ad hA => ⟨us[k.toNat], hA w11 o11.vw, fun v12 w12 o12 h12 => ?_⟩
      have k12 := rk.ext h12
      refine k12.app1 o12 rfl (by rw [ints_length]; omega) (Nat.le_trans d11.2.2 h12.size) fun v' w13 o13 g13 _ => ?_
      have e13 : ints yss[k.toNat] ++ [Value.int .i64 0] = ints (yss[k.toNat] ++ [0]) := by rw [ints_append]; rfl
      rw [e13] at o13
      refine put v' (yss[k.toNat] ++ [0]) w13 ((o11.ext h12).grown g13 (Apart.types (o11.ext h12) k12 (by decide))) (fun i u z hi hu hz => ?_) o13.vw (by rw [List.length_append]; simp only [List.length_cons, List.length_nil]; omega) ((d11.base.trans h12).grown k12 z2 g13)
      obtain ⟨hi2, hu2⟩ := List.getElem?_eq_some_iff.1 hu
      subst hu2
      exact (((r11.2 i _ z hu hz).ext h12).grown g13 (pair_get ap hi2 hkk hi)).vw
    · exact put (.slice none 0 0) [] w11 o11 (rest w11 (.refl _)) (Own.nil_ _ _ _).vw (by simp) d11.base
    · intro v12 w12 o12 h12
      exact put v12 [IntKind.wrap .i64 (M.d - 1)] w12 (o11.ext h12) (rest w12 h12) ((Own.vw (xs := ints [_]) o12).mono d11.2.2) (by simp) (d11.base.trans h12)
    · unfold spec_DrawLockOfPins_k0
      exact fin q yss w11 ⟨us, o11.vw.mono z2, r11.map fun u z hr => hr.vw.mono z2⟩ (by omega) (fun z hz => by have := hsm z hz; omega) d11.base)
end Go.Proofs
end
section
set_option linter.unusedVariables false
namespace Go.Proofs
open Go.Sx Go.RowKit Go.Tx
theorem ats_stack {d : Int} {z : List Int} : ∀ (k : Nat) (hk : k < z.length), ats (stack d z) (k + 1) = z[k] := by
  have get : ∀ (k : Nat) (hk : k < z.length), ∃ h : k < (stack d z).length, (stack d z)[k] = if k = 0 then z.getD 0 0 else z.getD k 0 - z.getD (k - 1) 0 := by
    intro k hk
    refine ⟨by rw [stack_length]; omega, ?_⟩
    have h2 : k < (steps z).length := by rw [steps_length]; exact hk
    simp only [stack]
    rw [List.getElem_append_left h2, steps_get]
  intro k
  induction k with
  | zero =>
    intro hk
    obtain ⟨h, e⟩ := get 0 hk
    rw [ats_succ h, e, ats_zero, if_pos rfl, getD_get hk]
    omega
  | succ k ih =>
    intro hk
    obtain ⟨h, e⟩ := get (k + 1) hk
    rw [ats_succ h, e, ih (by omega), if_neg (by omega), getD_get hk, show k + 1 - 1 = k by omega, getD_get (show k < z.length by omega)]
    omega
theorem setOf_stack (d : Int) (z : List Int) : setOf (stack d z) = z := by
  have hl : (setOf (stack d z)).length = z.length := by unfold setOf; rw [setTo_length, stack_length]; omega
  apply List.ext_getElem hl
  intro k h1 h2
  rw [← getD_get h1]
  unfold setOf
  rw [setTo_get (by rw [stack_length]; omega)]
  exact ats_stack k h2
theorem lop_stacks (d : Int) (zss : List (List Int)) : lop (zss.map (stack d)) = zss := by
  unfold lop
  rw [List.map_map]
  conv => rhs; rw [← List.map_id zss]
  exact List.map_congr_left fun z _ => setOf_stack d z
theorem stacks_lop {M : Mk} {zss : List (List Int)} (hk : LkOk M.c M.d M.s M.m M.l zss) : lopOk M (zss.map (stack M.d)) :=
  (lop_iff hk.1).2 ⟨fun z hz x hx => ((stacks_ok hk).2 z hz).2 x hx, by rw [lop_stacks]; exact hk, by rw [lop_stacks]⟩
theorem mem_join {c : UInt8} {sep : List UInt8} : ∀ {ws : List (List UInt8)}, c ∈ Lib.join ws sep → c ∈ sep ∨ ∃ x ∈ ws, c ∈ x
  | [], h => by rw [Lib.join_nil] at h; cases h
  | x :: r, h => by
    rw [Lib.join_cons] at h
    rcases List.mem_append.1 h with h | h
    · exact .inr ⟨x, by simp, h⟩
    · unfold Lib.joinTail at h
      obtain ⟨y, hy, hc⟩ := List.mem_flatten.1 h
      obtain ⟨q, hq, rfl⟩ := List.mem_map.1 hy
      rcases List.mem_append.1 hc with hc | hc
      · exact .inl hc
      · exact .inr ⟨q, List.mem_cons_of_mem _ hq, hc⟩
theorem itoa_no43 (z : Int) : (43 : UInt8) ∉ Lib.itoa z := by
  intro h
  rcases itoa_chars z 43 h with h | h
  · exact absurd h (by decide)
  · exact absurd h.1 (by decide)
theorem itoa_no32 (z : Int) : (32 : UInt8) ∉ Lib.itoa z := by
  intro h
  rcases itoa_chars z 32 h with h | h
  · exact absurd h (by decide)
  · exact absurd h.1 (by decide)
theorem st_back {z : List Int} (h : z ≠ []) (hz : ∀ x ∈ z, I64 x) : rds (cutAt 43 (stT z)) = some z := by
  unfold stT
  rw [cut_join (by simpa using h) (fun x hx => by
    obtain ⟨n, _, rfl⟩ := List.mem_map.1 hx
    exact itoa_no43 n)]
  exact rds_map hz
theorem rdss_map : ∀ {zss : List (List Int)}, (∀ z ∈ zss, z ≠ [] ∧ ∀ x ∈ z, I64 x) → rdss (zss.map stT) = some zss
  | [], _ => rfl
  | z :: zss, h => by
    obtain ⟨h1, h2⟩ := h z (by simp)
    rw [List.map_cons, rdss, st_back h1 h2, rdss_map fun y hy => h y (List.mem_cons_of_mem _ hy)]
theorem pins_back {zss : List (List Int)} (h : zss ≠ []) (hz : ∀ z ∈ zss, z ≠ [] ∧ ∀ x ∈ z, I64 x) : rdss (cutAt 32 (pinsT zss)) = some zss := by
  unfold pinsT
  rw [cut_join (by simpa using h) (fun x hx => by
    obtain ⟨z, _, rfl⟩ := List.mem_map.1 hx
    intro hc
    rcases mem_join hc with hc | ⟨y, hy, hc⟩
    · exact absurd hc (by decide)
    · obtain ⟨n, _, rfl⟩ := List.mem_map.1 hy
      exact itoa_no32 n hc)]
  exact rdss_map hz
theorem rdss_text : ∀ {ws : List (List UInt8)} {zss : List (List Int)}, rdss ws = some zss → ws = zss.map stT
  | [], zss, h => by
    injection h with h
    subst h
    rfl
  | y :: ys, zss, h => by
    rw [rdss] at h
    split at h
    · rename_i a b h1 h2
      injection h with h
      subst h
      rw [List.map_cons, ← rdss_text h2]
      congr 1
      unfold stT
      rw [← (rds_some h1).1]
      exact (join_cut 43 y).symm
    · cases h
/-- the text of the pins of a lock that was read is the text -/
theorem read_pins {M : Mk} {l : List UInt8} (h : rpC M l = 0) : LkOk M.c M.d M.s M.m M.l (rpR M l) ∧ pinsT ((rpR M l).map (stack M.d)) = l := by
  have hm : MkOk M.c M.d M.s M.m M.l := Classical.byContradiction fun hn => by
    have := (rp_no (l := l) hn).2
    omega
  cases ho : pinsO M l with
  | none =>
    have := (rp_bad hm ho).2
    omega
  | some zss =>
    rw [(rp_yes hm ho).1]
    refine ⟨pinsO_lock hm ho, ?_⟩
    unfold pinsO at ho
    split at ho
    · rename_i pss hp
      split at ho
      · rename_i hl
        injection ho with ho
        subst ho
        rw [((lop_iff hm).1 hl).2.2]
        unfold pinsT
        rw [← rdss_text hp]
        exact join_cut 32 l
      · cases ho
    · cases ho
/-- the lock of the text of its pins is the lock -/
theorem pins_read {M : Mk} {zss : List (List Int)} (hk : LkOk M.c M.d M.s M.m M.l zss) : rpR M (pinsT (zss.map (stack M.d))) = zss ∧ rpC M (pinsT (zss.map (stack M.d))) = 0 := by
  have hst := stacks_ok hk
  have h : pinsO M (pinsT (zss.map (stack M.d))) = some zss := by
    unfold pinsO
    rw [pins_back (fun e => by
      have := congrArg List.length e
      rw [List.length_map, List.length_nil] at this
      have := hk.2.1
      have := hk.1.1
      omega) (fun z hz => ⟨fun e => by
        obtain ⟨x, _, rfl⟩ := List.mem_map.1 hz
        have := congrArg List.length e
        rw [stack_length] at this
        simp at this, fun x hx => by
        have := (hst.2 z hz).2 x hx
        unfold I64
        omega⟩)]
    simp only
    rw [if_pos (stacks_lop hk), lop_stacks]
  exact rp_yes hk.1 h
end Go.Proofs
end
section
set_option linter.unusedVariables false
namespace Go
open Go.RowKit
variable {H : Type} {enc : TypeId × Value → H}
/-- the wrap: the condition and the world's shape are handed to the contract -/
theorem returnsInHanded_both {a : Assume} {C : Checked} {os : Os} {f : FuncId} {fn : Func} {s : ChangeSpec} {conds : List PathCond} {apart fresh handsOn again : Bool} {X : World → Array Value → Prop}
    (hX : ∀ (w w' : World) (args : Array Value), w.heap = w'.heap → X w args → X w' args)
    (own : ownKnob C.prog.godebug = none) (started : os.Started) (noInit : C.prog.inits.idxOf? f = none) (hfn : C.prog.funcs[f]? = some fn)
    (witness : ∃ (w : World) (tape : Tape) (i : Input), w.os = os ∧ (w.forCall tape i).Shaped C.prog ∧ i.vars = [] ∧ Input.okWide C.prog (w.forCall tape i) .any w.heap.size f i ∧
      ((s.pre enc C.prog fn conds apart (w.forCall tape i).memory i.args ∧ X (w.forCall tape i).memory i.args) ∧ sizedMet enc C.prog fn (OpenSpec.ofChange s) apart (w.forCall tape i).memory i.args) ∧ a.holds C.prog (lone (Frame.enter C.prog f i.args .normal) [] (w.forCall tape i)))
    (contract : ∀ (W : World) (base : Nat) (args : Array Value) (ds gs : List (DataW H)) (before : List MemPlace),
      (∀ (j : Nat) t v, fn.params[j]? = some t → args[j]? = some v → Value.okWide C.prog W .any base t v) →
      DataW.Whole enc C.prog fn.params.toList s.vars apart W args.toList ds gs before →
      X W args → W.ShapedOpen C.prog →
      Calls C.prog f args W fun e W' => ∃ v, e = .returned v ∧ s.post enc C.prog fn apart fresh handsOn again W args v W') :
    ReturnsInHanded a C os f .any (fun w args => (s.pre enc C.prog fn conds apart w args ∧ X w args) ∧ sizedMet enc C.prog fn (OpenSpec.ofChange s) apart w args) (s.post enc C.prog fn apart fresh handsOn again) := by
  refine returnsInHanded_of_calls own started noInit witness ?_
  intro w tape i _ hsh _ hok hpre hholds
  obtain ⟨_, _, _, fn', hfn', _, _, _, _, hval⟩ := hok
  have e : fn' = fn := Option.some.inj (hfn'.symm.trans hfn)
  subst e
  obtain ⟨⟨⟨ds, gs, before, hw, hc⟩, hx⟩, hz⟩ := hpre
  have hw' := DataW.Whole.of_heap (w' := w.forCall tape i) (by rfl) hw
  refine (contract (w.forCall tape i) w.heap.size i.args ds gs before hval hw' (hX _ _ _ (by rfl) hx) hsh).mono fun e W' ⟨v, he, hp⟩ => ?_
  subst he
  exact ChangeSpec.post_blind hp
end Go
namespace Go.Proofs.YtjcggcefmpaieaaGreatDoor
open Go Go.Proofs Go.Sx
/-- the tables that every row of this seat lists first -/
def tabs3 : List (String × DataW Unit) := [("math/bits.deBruijn32tab", Rows.laid_math_bits_deBruijn32tab), ("math/bits.deBruijn64tab", Rows.laid_math_bits_deBruijn64tab), ("internal/strconv.uint64pow10", Rows.laid_internal_strconv_uint64pow10)]
theorem gl_of_laid {W : World} {r : List (String × DataW Unit)} (h : laidMet Tryz.prog (tabs3 ++ r) W) : Gl W :=
  Lib.tabIs_of_head (g := 5) (t := 142) (e := 115) (n := 20) gpow (by kernel_rfl) (by kernel_rfl) (by kernel_rfl) (by kernel_rfl) (by kernel_rfl) h.tail.tail
theorem gl_of_laid3 {W : World} (h : laidMetH Tryz.prog tabs3 W) : Gl W := by
  rw [MakeChecks.laidMetH_plain _ _ _ (by kernel_rfl)] at h
  exact gl_of_laid (r := []) h
/-- the door's own heap meets the condition of the three tables -/
theorem door_met3 (os : Os) (args : Array Value) : laidMetH Tryz.prog tabs3 ((World.doorLaid Tryz.prog 72 os).forCall (fun _ _ => 0) ⟨#[], args, []⟩).memory :=
  laidMetH_of_parts3 (fuel := 8) (laidMet_of_run' 8 (by kernel_rfl) (by kernel_rfl)) (by kernel_rfl) (by kernel_rfl)
end Go.Proofs.YtjcggcefmpaieaaGreatDoor
end
section
set_option linter.unusedVariables false
namespace Go
/-- a variable of an integer type holds an integer -/
theorem int_of_shape {P : Program} {w : World} {g : Nat} {t : TypeId} {k : IntKind} {zero : Array Value} (h : w.ShapedOpen P) (hg : g < P.globals.size) (h0 : ((begin P (fun _ _ => 0) default).world.heap[g]?).bind Obj.row? = some (zero, t)) (hz : zero.size = 1) (hb : P.buildable t = true) (hc : P.cellTypes P.depth t = some [t]) (hu : P.underlying t = some (.int k)) : ∃ m : Int, w.cell? ⟨g, 0, none⟩ = some (.int k m) := by
  obtain ⟨cs, hh, hs, hr⟩ := h.1 g zero t hg h0
  obtain ⟨ts, hts, _, hall⟩ := hr hb
  rw [hc] at hts
  cases hts
  have h1 : 0 < cs.size := by omega
  obtain ⟨u, hu', hok⟩ := hall 0 cs[0] (by simp [h1])
  obtain rfl : u = t := by simpa using hu'.symm
  have hcell : w.cell? ⟨g, 0, none⟩ = some cs[0] := by simp [World.cell?, hh, h1]
  rw [hcell]
  unfold Cell.ok at hok
  rw [hu] at hok
  cases hv : cs[0] <;> rw [hv] at hok <;> simp at hok
  obtain ⟨rfl, _⟩ := hok
  exact ⟨_, rfl⟩
end Go
namespace Go.Proofs.YtjcggcefmpaieaaGreatDoor
open Go Go.Proofs Go.Sx Go.RowKit
/-- the tables that the greater rows of this seat list, in this order -/
def tabs7 : List (String × DataW Unit) := tabs3 ++ [("unicode/utf8.acceptRanges", Rows.laid_unicode_utf8_acceptRanges), ("strconv.ErrRange", Rows.laid_strconv_ErrRange), ("strconv.ErrSyntax", Rows.laid_strconv_ErrSyntax), ("unicode/utf8.first", Rows.laid_unicode_utf8_first)]
theorem star : "*" ++ "errors.errorString" = "*errors.errorString" := by decide
theorem rowErr (u : TypeId) (h : Tryz.prog.typeName? 3 u = some "*errors.errorString") : u = 146 :=
  typeName_ptr_named (nm := "errors.errorString") (by rw [star]; kernel_rfl) (by kernel_rfl) (by decide) u (by rw [star]; exact h)
theorem len_cell {W : World} (h : W.ShapedOpen Tryz.prog) : ∃ m : Int, W.cell? ⟨0, 0, none⟩ = some (.int .i64 m) :=
  int_of_shape (zero := #[.int .i64 0]) (t := 3) h (of_decide_eq_true (by kernel_rfl)) (by kernel_rfl) rfl (by kernel_rfl) (by kernel_rfl) Tryz.underlying3
theorem gs_of_laid {W : World} (h : laidMetH Tryz.prog tabs7 W) (hsh : W.ShapedOpen Tryz.prog) : Gs W := by
  rw [MakeChecks.laidMetH_plain _ _ _ (by kernel_rfl)] at h
  refine ⟨gl_of_laid h, len_cell hsh, ?_, ?_⟩
  · obtain ⟨a, s, hv, _⟩ := laid_sentinel (g := 3) (ti := 89) (tp := 146) (te := 148) (ts := 9) h.tail.tail.tail.tail.tail (by kernel_rfl) (by kernel_rfl) Tryz.underlying89 rowErr Tryz.underlying146 Tryz.underlying148 rfl rfl Tryz.underlying9 (by kernel_rfl) (by kernel_rfl)
    exact ⟨_, by simpa using World.var?_cell (show Tryz.prog.globalNamed "strconv.ErrSyntax" = some 3 by kernel_rfl) hv 0, .inr ⟨_, _, rfl⟩⟩
  · obtain ⟨a, s, hv, _⟩ := laid_sentinel (g := 4) (ti := 89) (tp := 146) (te := 148) (ts := 9) h.tail.tail.tail.tail (by kernel_rfl) (by kernel_rfl) Tryz.underlying89 rowErr Tryz.underlying146 Tryz.underlying148 rfl rfl Tryz.underlying9 (by kernel_rfl) (by kernel_rfl)
    exact ⟨_, by simpa using World.var?_cell (show Tryz.prog.globalNamed "strconv.ErrRange" = some 4 by kernel_rfl) hv 0, .inr ⟨_, _, rfl⟩⟩
/-- a start: the listed variables are laid -/
theorem door_met7 (os : Os) (args : Array Value) : laidMetH Tryz.prog tabs7 ((World.laidAll Tryz.prog os tabs7).forCall (fun _ _ => 0) ⟨#[], args, []⟩).memory := by
  rw [MakeChecks.laidMetH_plain _ _ _ (by kernel_rfl)]
  exact laidMet_laidAll _ (by kernel_rfl) (by kernel_rfl)
theorem door_shaped7 (os : Os) : (World.laidAll Tryz.prog os tabs7).Shaped Tryz.prog := World.shaped_of_ZipB (by kernel_rfl) (by kernel_rfl)
end Go.Proofs.YtjcggcefmpaieaaGreatDoor
end
section
set_option linter.unusedVariables false
namespace Go.Proofs
open Go.Sx Go.RowKit Go.ChangeShapes Go.WideShapes
theorem open_RB {H : Type} {enc : TypeId × Value → H} {P : Program} {w : World} {base : Nat} {spare : Nat → Bool} {held : Bool} {r : Reach} {b0 : Nat} {t e : TypeId} {v : Value} {d : DataW H} {ps : List MemPlace}
    (ht : P.underlying t = some (.slice e)) (he : P.underlying e = some (.int .u8)) (hc : P.cellsOf e = 1) (hv : Value.okWide P w r b0 t v) (h : DataW.Trod enc P w base spare held t v d ps) :
    ∃ zs : List Int, RB w v zs := by
  obtain ⟨a, len, cap, rfl⟩ := okWide_slice ht hv
  obtain ⟨fuel, hf⟩ := h
  rcases open_ints ht he hc hf with ⟨h0, _⟩ | ⟨a', len', cap', zs, h0, hb, hl, hm, hlen, _, hcell, hwf⟩
  · simp only [Value.cells, List.cons.injEq, and_true, Value.slice.injEq] at h0
    obtain ⟨rfl, rfl, rfl⟩ := h0
    exact ⟨[], Rd.nil_ w 0 (Nat.zero_le _), by simp⟩
  · simp only [Value.cells, List.cons.injEq, and_true, Value.slice.injEq] at h0
    obtain ⟨rfl, rfl, rfl⟩ := h0
    have hle : len ≤ zs.length := by rw [hlen]; split <;> omega
    have e1 : ((zs.take len).map (Value.int .u8)).length = len := by simp; omega
    refine ⟨zs.take len, ⟨some a', cap, by rw [e1], by omega, hm, fun _ => ⟨a', rfl, fun j u hu => ?_⟩⟩, fun z hz => ?_⟩
    · have hj : j < len := by
        have := (List.getElem?_eq_some_iff.1 hu).1
        omega
      rw [hcell j (by omega)]
      rw [List.getElem?_map, List.getElem?_take_of_lt hj, List.getElem?_eq_getElem (by omega)] at hu
      simp only [Option.map_some, Option.some.injEq] at hu
      rw [← hu, List.getD, List.getElem?_eq_getElem (by omega)]
      rfl
    · have := hwf z (List.mem_of_mem_take hz)
      simp only [Lit.wf] at this
      revert this
      simp [IntKind.min, IntKind.max, IntKind.bits, IntKind.signed]
def laws_big_vc (v : Value) (w : World) (Post : Value → World → Prop) : Prop :=
  LenV v (fun n1 => Post (Value.bool (decide ((4096 : Int) < n1))) w)
theorem laws_big_eq (v : Value) (w : World) (Post : Value → World → Prop) : denF Tryz.prog [] noAnn 4 [v] w Post = laws_big_vc v w Post := by kernel_rfl
set_option maxRecDepth 100000 in
theorem laws_big_calls (v : Value) (w : World) (Post : Value → World → Prop) (hvc : laws_big_vc v w Post) : Ret Tryz.prog 4 #[v] w Post :=
  Ret.of (denF_sound mixed (Eq.mpr (laws_big_eq v w Post) hvc))

theorem laws_big_ret (v : Value) (zs : List Int) (w : World) (h : RB w v zs) : Ret Tryz.prog 4 #[v] w fun r w' => (∃ b, r = .bool b) ∧ Ext w w' :=
  laws_big_calls v w _ (by
    unfold laws_big_vc
    exact h.len ⟨⟨_, rfl⟩, .refl w⟩)
def laws_likeInts_A (a : Value) (b : Value) (xs ys : List Int) (w : World) : Nat → Ann := fun κ => match κ with
  | 0 => { σ := Nat, sli := [5], slc := fun s => [SV.v (Value.int .i64 (s : Int))], bxi := [], bxc := fun s => [], inv := fun s W => s ≤ xs.length ∧ Ext w W ∧ xs.take s = ys.take s, μ := fun s W => xs.length - s }
  | _ => { σ := Unit, sli := [], slc := fun _ => [], bxi := [], bxc := fun _ => [], inv := fun _ _ => False, μ := fun _ _ => 0 }
def laws_likeInts_vc (a : Value) (b : Value) (xs ys : List Int) (w : World) (Post : Value → World → Prop) : Prop :=
  LenV a (fun n1 => LenV b (fun n2 => (((n1 ≠ n2) → Post (Value.bool false) w) ∧ (¬ (n1 ≠ n2) → ((∃ s3 : Nat, (Value.int .i64 0) = (Value.int .i64 (s3 : Int)) ∧ (s3 ≤ xs.length ∧ Ext w w ∧ xs.take s3 = ys.take s3)) ∧ ∀ (s4 : Nat) (w5 : World), (s4 ≤ xs.length ∧ Ext w w5 ∧ xs.take s4 = ys.take s4) → LenV a (fun n6 => ((((s4 : Int) < n6) → IxV 1 a (s4 : Int) (fun ad7 => ∃ n8 : Int, LdV w5 (Value.pointer (some ad7)) (Value.int .i64 n8) ∧ IxV 1 b (s4 : Int) (fun ad9 => ∃ n10 : Int, LdV w5 (Value.pointer (some ad9)) (Value.int .i64 n10) ∧ ∀ w11 : World, Ext w5 w11 → (((n8 ≠ n10) → Post (Value.bool false) w11) ∧ (¬ (n8 ≠ n10) → I64 ((s4 : Int) + 1) ∧ ∃ s12 : Nat, (Value.int .i64 ((s4 : Int) + 1)) = (Value.int .i64 (s12 : Int)) ∧ (s12 ≤ xs.length ∧ Ext w w11 ∧ xs.take s12 = ys.take s12) ∧ (xs.length - s12) < (xs.length - s4)))))) ∧ (¬ ((s4 : Int) < n6) → Post (Value.bool true) w5))))))))
theorem laws_likeInts_eq (a : Value) (b : Value) (xs ys : List Int) (w : World) (Post : Value → World → Prop) : denF Tryz.prog [] (laws_likeInts_A a b xs ys w) 37 [a, b] w Post = laws_likeInts_vc a b xs ys w Post := by kernel_rfl
set_option maxRecDepth 100000 in
theorem laws_likeInts_calls (a : Value) (b : Value) (xs ys : List Int) (w : World) (Post : Value → World → Prop) (hvc : laws_likeInts_vc a b xs ys w Post) : Ret Tryz.prog 37 #[a, b] w Post :=
  Ret.of (denF_sound mixed (Eq.mpr (laws_likeInts_eq a b xs ys w Post) hvc))

theorem laws_likeInts_val (a b : Value) (xs ys : List Int) (w : World) (ha : RI w a xs) (hb : RI w b ys) :
    Val Tryz.prog 37 #[a, b] w (.bool (decide (xs = ys))) :=
  Ret.val (laws_likeInts_calls a b xs ys w _ (by
    unfold laws_likeInts_vc
    have hbd := ha.bound
    refine ha.len (hb.len ⟨fun hne => ⟨?_, .refl w⟩, fun heq => ?_⟩)
    · have : xs ≠ ys := fun e => hne (by rw [e])
      simp [this]
    · have hll : xs.length = ys.length := by omega
      refine ⟨⟨0, rfl, Nat.zero_le _, .refl w, by simp⟩, ?_⟩
      rintro k w1 ⟨hk, h1, hpre⟩
      refine (ha.ext h1).len ⟨fun hlt => ?_, fun hge => ?_⟩
      · have hlt' : k < xs.length := by omega
        refine (ha.ext h1).get k rfl hlt' ((hb.ext h1).get k rfl (by omega) ?_)
        intro w2 h2
        refine ⟨fun hne => ⟨?_, h1.trans h2⟩, fun heq => ⟨by unfold I64; omega, k + 1, rfl, ⟨hlt', h1.trans h2, ?_⟩, by omega⟩⟩
        · have : xs ≠ ys := by
            rintro rfl
            exact hne rfl
          simp [this]
        · have e : xs[k] = ys[k] := by
            have : ¬ (xs[k] ≠ ys[k]) := heq
            exact Classical.not_not.1 this
          rw [take_snoc xs k hlt', take_snoc ys k (by omega), hpre, e]
      · have hkl : k = xs.length := by omega
        refine ⟨?_, h1⟩
        have : xs = ys := by
          rw [hkl] at hpre
          rw [List.take_of_length_le (Nat.le_refl _), List.take_of_length_le (by omega)] at hpre
          exact hpre
        simp [this]))
def laws_likeLists_A (a : Value) (b : Value) (w : World) : Nat → Ann := fun κ => match κ with
  | 0 => { σ := Nat, sli := [5], slc := fun s => [SV.v (Value.int .i64 (s : Int))], bxi := [], bxc := fun s => [], inv := fun s W => True, μ := fun s W => 0, free := true }
  | _ => { σ := Unit, sli := [], slc := fun _ => [], bxi := [], bxc := fun _ => [], inv := fun _ _ => False, μ := fun _ _ => 0 }
abbrev laws_likeLists_k0 (s11 : Nat) (w12 : World) (J13 : Nat → World → Prop) (m14 : Nat → World → Nat) (x30 : Int) (w44 : World) : Prop :=
  I64 (x30 + 1) ∧ ∃ s45 : Nat, (Value.int .i64 (x30 + 1)) = (Value.int .i64 (s45 : Int)) ∧ (J13 s45 w44) ∧ (m14 s45 w44) < (m14 s11 w12)
abbrev laws_likeLists_k1 (Post : Value → World → Prop) (x3 : Value) (x4 : Value) (s11 : Nat) (w12 : World) (J13 : Nat → World → Prop) (m14 : Nat → World → Nat) (x16 : Int) (w20 : World) : Prop :=
  IxV 1 x3 x16 (fun ad21 => ∃ u22 : Value, LdV w20 (Value.pointer (some ad21)) u22 ∧ IxV 1 x4 x16 (fun ad23 => ∃ u24 : Value, LdV w20 (Value.pointer (some ad23)) u24 ∧ ∃ b28 : Bool, (∀ w25 : World, Ext w20 w25 → Calls Tryz.prog 37 #[u22, u24] w25 (fun e26 w27 => e26 = .returned (Value.bool b28) ∧ Ext w25 w27)) ∧ ∀ w29 : World, Ext w20 w29 → (((!b28) = true → Post (Value.bool false) w29) ∧ ((!b28) = false → (laws_likeLists_k0 s11 w12 J13 m14 x16 w29)))))
abbrev laws_likeLists_k2 (Post : Value → World → Prop) (x3 : Value) (x4 : Value) (w9 : World) : Prop :=
  (∃ (J13 : Nat → World → Prop) (m14 : Nat → World → Nat), ((∃ s10 : Nat, (Value.int .i64 0) = (Value.int .i64 (s10 : Int)) ∧ (J13 s10 w9)) ∧ ∀ (s11 : Nat) (w12 : World), (J13 s11 w12) → LenV x3 (fun n15 => ((((s11 : Int) < n15) → (laws_likeLists_k1 Post x3 x4 s11 w12 J13 m14 (s11 : Int) w12)) ∧ (¬ ((s11 : Int) < n15) → Post (Value.bool true) w12)))))
def laws_likeLists_vc (a : Value) (b : Value) (w : World) (Post : Value → World → Prop) : Prop :=
  LenV a (fun n1 => LenV b (fun n2 => (((n1 ≠ n2) → Post (Value.bool false) w) ∧ (¬ (n1 ≠ n2) → (laws_likeLists_k2 Post a b w)))))
theorem laws_likeLists_eq (a : Value) (b : Value) (w : World) (Post : Value → World → Prop) : denF Tryz.prog [] (laws_likeLists_A a b w) 14 [a, b] w Post = laws_likeLists_vc a b w Post := by kernel_rfl
set_option maxRecDepth 100000 in
theorem laws_likeLists_calls (a : Value) (b : Value) (w : World) (Post : Value → World → Prop) (hvc : laws_likeLists_vc a b w Post) : Ret Tryz.prog 14 #[a, b] w Post :=
  Ret.of (denF_sound mixed (Eq.mpr (laws_likeLists_eq a b w Post) hvc))

theorem laws_likeLists_val (a b : Value) (xs ys : List (List Int)) (w : World) (ha : RR w a xs) (hb : RR w b ys) : Val Tryz.prog 14 #[a, b] w (.bool (decide (xs = ys))) :=
  Ret.val (laws_likeLists_calls a b w _ (by
    unfold laws_likeLists_vc
    have hbd := ha.bound
    refine ha.len (hb.len ⟨fun hne => ⟨beq_val (decide_eq_false fun e => hne (by rw [e])).symm, .refl w⟩, fun heq => ?_⟩)
    have hll : xs.length = ys.length := by omega
    refine ⟨fun s W => s ≤ xs.length ∧ Ext w W ∧ xs.take s = ys.take s, fun s _ => xs.length - s, ⟨0, rfl, Nat.zero_le _, .refl w, rfl⟩, ?_⟩
    rintro k w1 ⟨hk, h1, hpre⟩
    refine (ha.ext h1).len ⟨fun hlt => ?_, fun hge => ?_⟩
    · have hlt' : k < xs.length := by omega
      refine (ha.ext h1).get k rfl hlt' fun x hx => (hb.ext h1).get k rfl (by omega) fun y hy => ?_
      refine ⟨decide (xs[k] = ys[k]), fun w2 h2 => (laws_likeInts_val x y _ _ w2 (hx.ext h2) (hy.ext h2)).calls, fun w2 h2 => ⟨fun hno => ⟨?_, h1.trans h2⟩, fun hyes => ⟨by unfold I64; omega, k + 1, rfl, ⟨hlt', h1.trans h2, ?_⟩, by simp only; omega⟩⟩⟩
      · have hne := nd_t hno
        refine beq_val (decide_eq_false fun e => hne ?_).symm
        subst e; rfl
      · have he := nd_f hyes
        rw [take_snoc xs k hlt', take_snoc ys k (by omega), hpre, he]
    · have hkl : k = xs.length := by omega
      refine ⟨beq_val (decide_eq_true ?_).symm, h1⟩
      rw [hkl] at hpre
      rw [List.take_of_length_le (Nat.le_refl _), List.take_of_length_le (by omega)] at hpre
      exact hpre))
def laws_likeLocks_vc (a_Sets : Value) (b_Sets : Value) (w : World) (Post : Value → World → Prop) : Prop :=
  oneC a_Sets (∀ w1 : World, Ext w w1 → oneC b_Sets (∀ w2 : World, Ext w1 w2 → Calls Tryz.prog 14 #[a_Sets, b_Sets] w2 (fun e3 w4 => ∃ b5 : Bool, e3 = .returned (Value.bool b5) ∧ Keeps w.heap.size [28, 28] w2 w4 ∧ Post (Value.bool b5) w4)))
theorem laws_likeLocks_eq (a_Sets : Value) (b_Sets : Value) (w : World) (Post : Value → World → Prop) : denF Tryz.prog [] noAnn 15 [(Value.agg #[a_Sets]), (Value.agg #[b_Sets])] w Post = laws_likeLocks_vc a_Sets b_Sets w Post := by kernel_rfl
set_option maxRecDepth 100000 in
theorem laws_likeLocks_calls (a_Sets : Value) (b_Sets : Value) (w : World) (Post : Value → World → Prop) (hvc : laws_likeLocks_vc a_Sets b_Sets w Post) : Ret Tryz.prog 15 #[(Value.agg #[a_Sets]), (Value.agg #[b_Sets])] w Post :=
  Ret.of (denF_sound mixed (Eq.mpr (laws_likeLocks_eq a_Sets b_Sets w Post) hvc))

theorem laws_likeLocks_val (a b : Value) (xs ys : List (List Int)) (w : World) (ha : RR w a xs) (hb : RR w b ys) : Val Tryz.prog 15 #[lkV a, lkV b] w (.bool (decide (xs = ys))) :=
  Ret.val (laws_likeLocks_calls a b w _ (by
    unfold laws_likeLocks_vc
    refine ha.oneC fun w1 h1 => hb.oneC fun w2 h2 => ?_
    have k2 := h1.trans h2
    exact (laws_likeLists_val a b xs ys w2 (ha.ext k2) (hb.ext k2)).call fun w3 h3 => ⟨_, rfl, h3.keeps, rfl, k2.trans h3⟩))
end Go.Proofs
end
section
set_option linter.unusedVariables false
namespace Go.Proofs
open Go.Sx Go.RowKit
/-- of a maker, a lock and a list -/
def DrMLS (f : FuncId) (args : Array Value) (w : World) : Prop := Ret Tryz.prog f args w fun r w' => ∃ (M : Mk) (u k : Value) (zss : List (List Int)) (ks : List Int), r = .tuple #[M.v, lkV u, k] ∧ VwR w.heap.size w' u zss ∧ Vw w.heap.size w' 2 k (ints ks) ∧ Ext w w'
/-- of a maker and two locks -/
def DrMLL (f : FuncId) (args : Array Value) (w : World) : Prop := Ret Tryz.prog f args w fun r w' => ∃ (M : Mk) (u v : Value) (za zb : List (List Int)), r = .tuple #[M.v, lkV u, lkV v] ∧ VwR w.heap.size w' u za ∧ VwR w.heap.size w' v zb ∧ Ext w w'
end Go.Proofs
end
section
set_option linter.unusedVariables false
namespace Go.Proofs
open Go.Sx Go.RowKit
theorem sorted_ext : ∀ {a b : List (List Int)}, a.Pairwise (fun x y => llt x y = true) → b.Pairwise (fun x y => llt x y = true) → (∀ x, x ∈ a ↔ x ∈ b) → a = b
  | [], [], _, _, _ => rfl
  | [], y :: b, _, _, h => absurd ((h y).2 (List.mem_cons_self ..)) (by simp)
  | x :: a, [], _, _, h => absurd ((h x).1 (List.mem_cons_self ..)) (by simp)
  | x :: a, y :: b, ha, hb, h => by
    have ha' := List.pairwise_cons.1 ha
    have hb' := List.pairwise_cons.1 hb
    have hxy : x = y := by
      rcases List.mem_cons.1 ((h x).1 (List.mem_cons_self ..)) with e | hx
      · exact e
      · rcases List.mem_cons.1 ((h y).2 (List.mem_cons_self ..)) with e | hy
        · exact e.symm
        · have h1 := hb'.1 x hx
          have h2 := ha'.1 y hy
          rw [llt_asymm h1] at h2
          cases h2
    subst hxy
    congr 1
    refine sorted_ext ha'.2 hb'.2 fun z => ?_
    have hz := h z
    have nx : ∀ w, llt x w = true → w ≠ x := fun w hw e => by rw [e, llt_irrefl] at hw; cases hw
    constructor
    · intro hz1
      rcases List.mem_cons.1 (hz.1 (List.mem_cons_of_mem _ hz1)) with e | hz2
      · exact absurd e (nx z (ha'.1 z hz1))
      · exact hz2
    · intro hz1
      rcases List.mem_cons.1 (hz.2 (List.mem_cons_of_mem _ hz1)) with e | hz2
      · exact absurd e (nx z (hb'.1 z hz1))
      · exact hz2
/-- the keys that a lock opens for -/
def qO (c : Nat) (za : List (List Int)) (k : List Int) : Bool := (List.range c).all fun i => Al za i (k.getD i 0)
theorem qO_iff {c : Nat} {za : List (List Int)} {k : List Int} : qO c za k = true ↔ ∀ i, i < c → Al za i (k.getD i 0) = true := by
  unfold qO
  rw [List.all_eq_true]
  simp only [List.mem_range]
theorem openers_eq (M : Mk) (za : List (List Int)) : openersOf M za = (keys M).filter (qO M.c.toNat za) := by
  refine sorted_ext (G_sorted _ _) ((keys_sorted M).filter _) fun k => ?_
  rw [List.mem_filter, qO_iff]
  unfold openersOf keys GA
  rw [mem_G, mem_G]
  constructor
  · rintro ⟨t, rfl, h1, h2, h3, h4⟩
    refine ⟨⟨k, rfl, h1, h2, fun _ _ => rfl, h4⟩, fun i hi => ?_⟩
    have := h3 i hi
    simpa using this
  · rintro ⟨⟨t, rfl, h1, h2, _, h4⟩, h5⟩
    refine ⟨k, rfl, h1, h2, fun i hi => ?_, h4⟩
    have := h5 i hi
    simpa using this
theorem mem_openers {M : Mk} (hc : 0 ≤ M.c) {za : List (List Int)} {k : List Int} : k ∈ openersOf M za ↔ IsK M k ∧ ∀ i, i < M.c.toNat → Al za i (k.getD i 0) = true := by
  rw [openers_eq, List.mem_filter, mem_keys hc, qO_iff]
theorem count_two {α : Type} (p q : α → Bool) : ∀ l : List α, (l.filter p).length + (l.filter q).length = (l.filter fun x => p x || q x).length + (l.filter fun x => p x && q x).length
  | [] => rfl
  | x :: l => by
    have ih := count_two p q l
    cases hp : p x <;> cases hq : q x <;> simp [hp, hq] <;> omega
theorem count_imp {α : Type} {p q : α → Bool} : ∀ {l : List α}, (∀ x ∈ l, p x = true → q x = true) → (l.filter p).length ≤ (l.filter q).length
  | [], _ => Nat.le_refl _
  | x :: l, h => by
    have ih := count_imp (l := l) fun y hy => h y (List.mem_cons_of_mem _ hy)
    have hx := h x (List.mem_cons_self ..)
    cases hp : p x
    · cases hq : q x <;> simp [hp, hq] <;> omega
    · simp [hp, hx hp]; omega
theorem al_rows {p : Nat → Int → Bool} {d : Int} {n i : Nat} (hi : i < n) {x : Int} (hx : 0 ≤ x ∧ x ≤ d - 1) : Al (rowsOf p d n) i x = p i x := by
  rw [al_get (by rw [rowsOf_length]; exact hi)]
  have e : (rowsOf p d n)[i]'(by rw [rowsOf_length]; exact hi) = filt (p i) d.toNat := by simp [rowsOf]
  rw [e]
  unfold filt
  cases hp : p i x
  · exact decide_eq_false fun h => by rw [(List.mem_filter.1 h).2] at hp; cases hp
  · exact decide_eq_true (List.mem_filter.2 ⟨mem_upFrom.2 (by omega), hp⟩)
theorem isK_at {M : Mk} {k : List Int} (h : IsK M k) {i : Nat} (hi : i < M.c.toNat) : 0 ≤ k.getD i 0 ∧ k.getD i 0 ≤ M.d - 1 := by
  have hl := h.1
  rw [getD_get (show i < k.length by omega)]
  exact h.2.1 _ (List.getElem_mem _)
/-- joined locks: inclusion -/
theorem join_count {M : Mk} (hc : 0 ≤ M.c) (za zb : List (List Int)) : ((keys M).filter fun k => qO M.c.toNat za k || qO M.c.toNat zb k).length ≤ (openersOf M (rowsOf (pJ za zb) M.d M.c.toNat)).length := by
  rw [openers_eq]
  refine count_imp fun k hk h => qO_iff.2 fun i hi => ?_
  have hK := (mem_keys hc).1 hk
  rw [al_rows hi (isK_at hK hi)]
  unfold pJ
  rcases Bool.or_eq_true_iff.1 h with h | h
  · rw [qO_iff.1 h i hi]; rfl
  · rw [qO_iff.1 h i hi, Bool.or_true]
/-- met locks: the keys that open both -/
theorem meet_count {M : Mk} (hc : 0 ≤ M.c) (za zb : List (List Int)) : openersOf M (rowsOf (pM za zb) M.d M.c.toNat) = (keys M).filter fun k => qO M.c.toNat za k && qO M.c.toNat zb k := by
  rw [openers_eq]
  refine List.filter_congr fun k hk => ?_
  have hK := (mem_keys hc).1 hk
  rw [Bool.eq_iff_iff, Bool.and_eq_true, qO_iff, qO_iff, qO_iff]
  constructor
  · intro h
    have := fun i hi => h i hi
    refine ⟨fun i hi => ?_, fun i hi => ?_⟩
    · have := h i hi
      rw [al_rows hi (isK_at hK hi)] at this
      exact (Bool.and_eq_true_iff.1 this).1
    · have := h i hi
      rw [al_rows hi (isK_at hK hi)] at this
      exact (Bool.and_eq_true_iff.1 this).2
  · rintro ⟨h1, h2⟩ i hi
    rw [al_rows hi (isK_at hK hi)]
    exact Bool.and_eq_true_iff.2 ⟨h1 i hi, h2 i hi⟩
/-- no key opens both where a chamber has no common depth -/
theorem meet_none {M : Mk} (hc : 0 ≤ M.c) {za zb : List (List Int)} (h : ¬ meetOk M za zb) : ((keys M).filter fun k => qO M.c.toNat za k && qO M.c.toNat zb k) = [] := by
  refine filter_none fun k hk => ?_
  cases hq : qO M.c.toNat za k && qO M.c.toNat zb k
  · rfl
  · exfalso
    apply h
    intro i hi he
    have hK := (mem_keys hc).1 hk
    obtain ⟨h1, h2⟩ := Bool.and_eq_true_iff.1 hq
    have hx := isK_at hK hi
    have : k.getD i 0 ∈ filt (pM za zb i) M.d.toNat := by
      unfold filt
      refine List.mem_filter.2 ⟨mem_upFrom.2 (by omega), ?_⟩
      unfold pM
      rw [qO_iff.1 h1 i hi, qO_iff.1 h2 i hi]; rfl
    rw [he] at this
    cases this
theorem meet_law {M : Mk} (hc : 0 ≤ M.c) (za zb : List (List Int)) : (openersOf M za).length + (openersOf M zb).length ≤ (openersOf M (rowsOf (pJ za zb) M.d M.c.toNat)).length + ((keys M).filter fun k => qO M.c.toNat za k && qO M.c.toNat zb k).length ∧
    ((keys M).filter fun k => qO M.c.toNat za k && qO M.c.toNat zb k).length ≤ (openersOf M za).length ∧ ((keys M).filter fun k => qO M.c.toNat za k && qO M.c.toNat zb k).length ≤ (openersOf M zb).length := by
  have h1 := join_count hc za zb
  have h2 := count_two (qO M.c.toNat za) (qO M.c.toNat zb) (keys M)
  rw [openers_eq M za, openers_eq M zb]
  refine ⟨by omega, count_imp fun k _ h => (Bool.and_eq_true_iff.1 h).1, count_imp fun k _ h => (Bool.and_eq_true_iff.1 h).2⟩
/-! ### combinations -/
def prodL : List (List Int) → Nat
  | [] => 1
  | z :: zss => z.length * prodL zss
theorem prodL_snoc (zss : List (List Int)) (z : List Int) : prodL (zss ++ [z]) = prodL zss * z.length := by
  induction zss with
  | nil => simp [prodL]
  | cons y zss ih => simp only [List.cons_append, prodL, ih, Nat.mul_assoc]
theorem comb_prod (zss : List (List Int)) : ∀ k, k ≤ zss.length → comb (zss.take k) = (prodL (zss.take k) : Int)
  | 0, _ => rfl
  | k + 1, hk => by
    rw [comb_snoc zss k (by omega), take_snoc zss k (by omega), prodL_snoc, comb_prod zss k (by omega)]
    rfl
theorem sum_le_mul : ∀ {l : List Nat} {b : Nat}, (∀ x ∈ l, x ≤ b) → l.sum ≤ l.length * b
  | [], b, _ => by simp
  | x :: l, b, h => by
    have h1 := h x (List.mem_cons_self ..)
    have h2 := sum_le_mul (l := l) fun y hy => h y (List.mem_cons_of_mem _ hy)
    simp only [List.sum_cons, List.length_cons, Nat.succ_mul]
    omega
theorem G_prod {M : Mk} {zss : List (List Int)} (hs : SetsOk M.d zss) : ∀ (n : Nat) (p : List Int), p.length + n = zss.length → (G M (Al zss) n p).length ≤ prodL (zss.drop p.length)
  | 0, p, hp => by
    rw [List.drop_of_length_le (by omega)]
    simp only [G, prodL]
    split <;> simp
  | n + 1, p, hp => by
    have hl : p.length < zss.length := by omega
    rw [G_succ, set_ups hs hl, List.drop_eq_getElem_cons hl, List.length_flatMap]
    simp only [prodL]
    refine Nat.le_trans (sum_le_mul (b := prodL (zss.drop (p.length + 1))) fun x hx => ?_) (by simp)
    obtain ⟨y, _, rfl⟩ := List.mem_map.1 hx
    have := G_prod hs n (p ++ [y]) (by simp; omega)
    simpa using this
theorem openers_comb {M : Mk} {zss : List (List Int)} (hs : SetsOk M.d zss) (hl : (zss.length : Int) = M.c) : ((openersOf M zss).length : Int) ≤ comb zss := by
  have h1 := G_prod hs M.c.toNat [] (by simp; omega)
  have h2 := comb_prod zss zss.length (Nat.le_refl _)
  rw [List.take_length] at h2
  rw [h2]
  have : (openersOf M zss).length ≤ prodL zss := h1
  omega
end Go.Proofs
end
section
set_option linter.unusedVariables false
namespace Go.Proofs
open Go.Sx Go.RowKit
/-- what a law holds: slices of rows and slices of integers -/
def Fx (w : World) (L : List (Value × List (List Int))) (K : List (Value × List Int)) (W : World) : Prop := Ext w W ∧ (∀ x ∈ L, VwR 0 W x.1 x.2) ∧ ∀ x ∈ K, Vw 0 W 2 x.1 (ints x.2)
section
variable {w W W' : World} {L : List (Value × List (List Int))} {K : List (Value × List Int)}
theorem Fx.start (e : Ext w W) : Fx w [] [] W := ⟨e, by simp, by simp⟩
theorem Fx.ext (h : Fx w L K W) (e : Ext W W') : Fx w L K W' := ⟨h.1.trans e, fun x hx => (h.2.1 x hx).ext e, fun x hx => (h.2.2 x hx).ext e⟩
theorem Fx.bxs (h : Fx w L K W) {T : TypeId} (e : BxS w.heap.size T W W') (hT : 45 ≠ T) (hT' : 2 ≠ T) : Fx w L K W' := ⟨h.1.bxs e, fun x hx => (h.2.1 x hx).bxs e hT hT', fun x hx => (h.2.2 x hx).bxs e hT'⟩
theorem Fx.bm (h : Fx w L K W) (e : BxS w.heap.size 25 W W') : Fx w L K W' := h.bxs e (by decide) (by decide)
theorem Fx.bl (h : Fx w L K W) (e : BxS w.heap.size 28 W W') : Fx w L K W' := h.bxs e (by decide) (by decide)
theorem Fx.addV (h : Fx w L K W) {B : Nat} {u : Value} {z : List (List Int)} (o : VwR B W u z) : Fx w ((u, z) :: L) K W := ⟨h.1, fun x hx => by
  rcases List.mem_cons.1 hx with rfl | hx
  · exact o.mono (Nat.zero_le _)
  · exact h.2.1 x hx, h.2.2⟩
theorem Fx.addR (h : Fx w L K W) {B : Nat} {u : Value} {z : List (List Int)} (o : OwnR B W u z) : Fx w ((u, z) :: L) K W := h.addV o.vw
theorem Fx.addK (h : Fx w L K W) {B : Nat} {u : Value} {z : List Int} (o : Vw B W 2 u (ints z)) : Fx w L ((u, z) :: K) W := ⟨h.1, h.2.1, fun x hx => by
  rcases List.mem_cons.1 hx with rfl | hx
  · exact o.mono (Nat.zero_le _)
  · exact h.2.2 x hx⟩
theorem Fx.addI (h : Fx w L K W) {B : Nat} {u : Value} {z : List Int} (o : Own B W 2 u (ints z)) : Fx w L ((u, z) :: K) W := h.addK o.vw
theorem Fx.rr (h : Fx w L K W) {u : Value} {z : List (List Int)} (hx : (u, z) ∈ L) : RR W u z := (h.2.1 _ hx).rr
theorem Fx.ri (h : Fx w L K W) {u : Value} {z : List Int} (hx : (u, z) ∈ K) : RI W u z := (h.2.2 _ hx).rd
end
/-! ### locks made of locks -/
theorem join_lk {M : Mk} {za zb : List (List Int)} (h : Lk2 M za zb) : LkOk M.c M.d M.s M.m M.l (rowsOf (pJ za zb) M.d M.c.toNat) := by
  have hA := h.1
  have hc := hA.1.1
  have hd := hA.1.2.1
  have hl := hA.2.1
  refine ⟨hA.1, by rw [rowsOf_length]; omega, rowsOf_setsOk (by omega) fun i hi he => ?_⟩
  have hia : i < za.length := by omega
  obtain ⟨hne, hr⟩ := hA.2.2 _ (List.getElem_mem hia)
  obtain ⟨x, hx⟩ := List.exists_mem_of_ne_nil _ hne
  have hin := rises_in hr x hx
  have : x ∈ filt (pJ za zb i) M.d.toNat := by
    unfold filt
    refine List.mem_filter.2 ⟨mem_upFrom.2 (by omega), ?_⟩
    unfold pJ
    rw [al_get hia, decide_eq_true hx, Bool.true_or]
  rw [he] at this
  cases this
theorem meet_lk {M : Mk} {za zb : List (List Int)} (h : Lk2 M za zb) (hm : meetOk M za zb) : LkOk M.c M.d M.s M.m M.l (rowsOf (pM za zb) M.d M.c.toNat) := by
  have hA := h.1
  have hc := hA.1.1
  have hd := hA.1.2.1
  exact ⟨hA.1, by rw [rowsOf_length]; omega, rowsOf_setsOk (by omega) hm⟩
theorem coR_yes {M : Mk} {za : List (List Int)} (h : LkOk M.c M.d M.s M.m M.l za) : coR M.c M.d M.s M.m M.l za = .tuple #[.int .i64 ((openersOf M za).length : Int), .int .i64 0] := by
  unfold coR
  rw [if_pos h]
end Go.Proofs
end
