/- The laws' own dice: contracts. No condition. -/
import Derived.Test.YteolgidmaklbkaaDraw
set_option linter.unusedVariables false
namespace Go.Proofs
open Go.Sx Go.RowKit
/-- block b is a die over the bytes zs, which the world wb holds -/
def Die (wb : World) (b : Nat) (v : Value) (zs : List Int) (w : World) : Prop :=
  Ext wb w ∧ wb.heap.size ≤ b ∧ RB wb v zs ∧ ∃ (at_ : Nat) (seed : Int), w.heap[b]? = some (.cells #[v, .int .i64 at_, .int .u64 seed] 110 (0, 0)) ∧ at_ ≤ zs.length
def laws_roll_A (v : Value) (k : Int) (w : World) : Nat → Ann := fun κ => match κ with
  | 0 => { σ := Nat, sli := [6], slc := fun s => [SV.v (Value.int .i64 (s : Int))], bxi := [], bxc := fun s => [], inv := fun s W => True, μ := fun s W => 0, free := true }
  | _ => { σ := Unit, sli := [], slc := fun _ => [], bxi := [], bxc := fun _ => [], inv := fun _ _ => False, μ := fun _ _ => 0 }
abbrev laws_roll_k0 (v : Value) (w : World) (b3 : Nat) (s5 : Nat) (w6 : World) (J7 : Nat → World → Prop) (m8 : Nat → World → Nat) (x10 : Int) (w14 : World) : Prop :=
  ∀ w15 : World, Ext w14 w15 → NotNil (Value.pointer (some (⟨b3, 0, none⟩))) ∧ ∃ ad16 : Addr, (Value.pointer (some (⟨b3, 0, none⟩))) = Value.pointer (some ad16) ∧ ∃ n17 : Int, LdV w15 (Value.pointer (some (ad16.add 2))) (Value.int .u64 n17) ∧ IxV 1 v x10 (fun ad18 => ∃ n19 : Int, LdV w15 (Value.pointer (some ad18)) (Value.int .u8 n19) ∧ NotNil (Value.pointer (some (⟨b3, 0, none⟩))) ∧ ∃ ad20 : Addr, (Value.pointer (some (⟨b3, 0, none⟩))) = Value.pointer (some ad20) ∧ StV w.heap.size [] w15 (Value.pointer (some (ad20.add 2))) (Value.int .u64 (IntKind.wrap .u64 ((IntKind.wrap .u64 ((IntKind.wrap .u64 (n17 * 1099511628211)) + (IntKind.wrap .u64 n19))) + 3))) (fun w21 => I64 (x10 + 1) ∧ ∃ s22 : Nat, (Value.int .i64 (x10 + 1)) = (Value.int .i64 (s22 : Int)) ∧ (J7 s22 w21) ∧ (m8 s22 w21) < (m8 s5 w6)))
def laws_roll_vc (v : Value) (k : Int) (w : World) (Post : Value → World → Prop) : Prop :=
  LenV v (fun n1 => oneC v (oneC v (∀ (b3 : Nat) (w2 : World), Ext w w2 → w.heap.size ≤ b3 → w2.heap[b3]? = some (.cells #[v, (Value.int .i64 0), (Value.int .u64 (IntKind.wrap .u64 ((IntKind.wrap .u64 (k * 7919)) + (IntKind.wrap .u64 n1))))] 110 (0, 0)) → (∃ (J7 : Nat → World → Prop) (m8 : Nat → World → Nat), ((∃ s4 : Nat, (Value.int .i64 0) = (Value.int .i64 (s4 : Int)) ∧ (J7 s4 w2)) ∧ ∀ (s5 : Nat) (w6 : World), (J7 s5 w6) → LenV v (fun n9 => ((((s5 : Int) < n9) → (laws_roll_k0 v w b3 s5 w6 J7 m8 (s5 : Int) w6)) ∧ (¬ ((s5 : Int) < n9) → Post (Value.pointer (some (⟨b3, 0, none⟩))) w6))))))))
theorem laws_roll_eq (v : Value) (k : Int) (w : World) (Post : Value → World → Prop) : denF Try.prog [15, 9700000] (laws_roll_A v k w) 42 [v, (Value.int .u64 k)] w Post = laws_roll_vc v k w Post := by kernel_rfl
set_option maxRecDepth 100000 in
theorem laws_roll_calls (v : Value) (k : Int) (w : World) (Post : Value → World → Prop) (hvc : laws_roll_vc v k w Post) : Ret Try.prog 42 #[v, (Value.int .u64 k)] w Post :=
  Ret.of (denF_sound mixed (Eq.mpr (laws_roll_eq v k w Post) hvc))

theorem laws_roll_ret (v : Value) (zs : List Int) (k : Int) (w : World) (h : RB w v zs) : Ret Try.prog 42 #[v, .int .u64 k] w fun r w' => ∃ b, r = .pointer (some ⟨b, 0, none⟩) ∧ Die w b v zs w' :=
  laws_roll_calls v k w _ (by
    unfold laws_roll_vc
    refine h.len (h.oneC (h.oneC fun b w1 h1 g1 c1 => ?_))
    have hlen := h.1.bound
    rw [List.length_map] at hlen
    refine ⟨fun k W => k ≤ zs.length ∧ Die w b v zs W, fun k _ => zs.length - k, ⟨0, rfl, Nat.zero_le _, h1, g1, h, 0, _, c1, Nat.zero_le _⟩, ?_⟩
    rintro k w2 ⟨hk, hs⟩
    obtain ⟨e2, _, _, a, s, c2, ha⟩ := id hs
    refine (h.ext e2).len ⟨fun hlt => ?_, fun _ => ⟨b, rfl, hs⟩⟩
    intro w3 h3
    have c3 := (h3.block _ (heap_lt c2)).trans c2
    refine ⟨notNil_ptr _, _, rfl, s, ld_at c3 2 rfl, (h.ext (e2.trans h3)).get k rfl (by omega) fun p0 p1 => ⟨notNil_ptr _, _, rfl, ?_⟩⟩
    refine st_at c3 2 (by simp) rfl (.inr (by simp)) fun w4 c4 p4 z4 => ⟨by unfold I64; omega, k + 1, rfl, ⟨by omega, p4.ext (e2.trans h3) fun b' hb' => by omega, g1, h, a, _, c4, ha⟩, by simp only; omega⟩)
def laws_below_vc (p : Addr) (n : Int) (w : World) (Post : Value → World → Prop) : Prop :=
  NotNil (Value.pointer (some p)) ∧ ∃ ad1 : Addr, (Value.pointer (some p)) = Value.pointer (some ad1) ∧ ∃ n2 : Int, LdV w (Value.pointer (some (ad1.add 2))) (Value.int .u64 n2) ∧ NotNil (Value.pointer (some p)) ∧ ∃ ad3 : Addr, (Value.pointer (some p)) = Value.pointer (some ad3) ∧ StV w.heap.size [] w (Value.pointer (some (ad3.add 2))) (Value.int .u64 (IntKind.wrap .u64 ((IntKind.wrap .u64 (n2 * 6364136223846793005)) + 1442695040888963407))) (fun w4 => NotNil (Value.pointer (some p)) ∧ ∃ ad5 : Addr, (Value.pointer (some p)) = Value.pointer (some ad5) ∧ ∃ n6 : Int, LdV w4 (Value.pointer (some (ad5.add 2))) (Value.int .u64 n6) ∧ 0 ≤ (33 : Int) ∧ 0 ≤ (16777215 : Int) ∧ (16777215 : Int) ≤ 18446744073709551615 ∧ ∀ n7 : Int, 0 ≤ n7 → n7 ≤ (16777215 : Int) → I64 n7 ∧ NotNil (Value.pointer (some p)) ∧ ∃ ad8 : Addr, (Value.pointer (some p)) = Value.pointer (some ad8) ∧ ∃ n9 : Int, LdV w4 (Value.pointer (some (ad8.add 1))) (Value.int .i64 n9) ∧ NotNil (Value.pointer (some p)) ∧ ∃ ad10 : Addr, (Value.pointer (some p)) = Value.pointer (some ad10) ∧ ∃ u11 : Value, LdV w4 (Value.pointer (some (ad10.add 0))) u11 ∧ LenV u11 (fun n12 => ∀ w13 : World, Ext w4 w13 → (((n9 < n12) → NotNil (Value.pointer (some p)) ∧ ∃ ad14 : Addr, (Value.pointer (some p)) = Value.pointer (some ad14) ∧ ∃ u15 : Value, LdV w13 (Value.pointer (some (ad14.add 0))) u15 ∧ NotNil (Value.pointer (some p)) ∧ ∃ ad16 : Addr, (Value.pointer (some p)) = Value.pointer (some ad16) ∧ ∃ n17 : Int, LdV w13 (Value.pointer (some (ad16.add 1))) (Value.int .i64 n17) ∧ IxV 1 u15 n17 (fun ad18 => ∃ n19 : Int, LdV w13 (Value.pointer (some ad18)) (Value.int .u8 n19) ∧ I64 n19 ∧ I64 (n7 + n19) ∧ ∀ w20 : World, Ext w13 w20 → NotNil (Value.pointer (some p)) ∧ ∃ ad21 : Addr, (Value.pointer (some p)) = Value.pointer (some ad21) ∧ ∃ n22 : Int, LdV w20 (Value.pointer (some (ad21.add 1))) (Value.int .i64 n22) ∧ I64 (n22 + 1) ∧ NotNil (Value.pointer (some p)) ∧ ∃ ad23 : Addr, (Value.pointer (some p)) = Value.pointer (some ad23) ∧ StV w.heap.size [] w20 (Value.pointer (some (ad23.add 1))) (Value.int .i64 (n22 + 1)) (fun w24 => 0 ≤ (n7 + n19) ∧ 0 < n ∧ Post (Value.int .i64 ((n7 + n19) % n)) w24))) ∧ (¬ (n9 < n12) → 0 ≤ n7 ∧ 0 < n ∧ Post (Value.int .i64 (n7 % n)) w13))))
theorem laws_below_eq (p : Addr) (n : Int) (w : World) (Post : Value → World → Prop) : denF Try.prog [] noAnn 43 [(Value.pointer (some p)), (Value.int .i64 n)] w Post = laws_below_vc p n w Post := by kernel_rfl
set_option maxRecDepth 100000 in
theorem laws_below_calls (p : Addr) (n : Int) (w : World) (Post : Value → World → Prop) (hvc : laws_below_vc p n w Post) : Ret Try.prog 43 #[(Value.pointer (some p)), (Value.int .i64 n)] w Post :=
  Ret.of (denF_sound mixed (Eq.mpr (laws_below_eq p n w Post) hvc))

theorem laws_below_ret (wb : World) (b : Nat) (v : Value) (zs : List Int) (n : Int) (hn : 1 ≤ n) (w : World) (hs : Die wb b v zs w) : Ret Try.prog 43 #[.pointer (some ⟨b, 0, none⟩), .int .i64 n] w fun r w' => ∃ x : Int, r = .int .i64 x ∧ 0 ≤ x ∧ x < n ∧ Ext wb w' ∧ Pres (fun k => k ≠ b) w w' :=
  laws_below_calls ⟨b, 0, none⟩ n w _ (by
    unfold laws_below_vc
    obtain ⟨e0, hb, hz, a, s, c0, ha⟩ := id hs
    have hlen := hz.1.bound
    rw [List.length_map] at hlen
    refine ⟨notNil_ptr _, _, rfl, s, ld_at c0 2 rfl, notNil_ptr _, _, rfl, ?_⟩
    refine st_at c0 2 (by simp) rfl (.inr (by simp)) fun w1 c1 p1 z1 => ?_
    have e1 : Ext wb w1 := p1.ext e0 fun b' hb' => by omega
    have hmod : ∀ y : Int, 0 ≤ y → 0 ≤ y % n ∧ y % n < n := fun y hy => ⟨Int.emod_nonneg _ (by omega), Int.emod_lt_of_pos _ (by omega)⟩
    refine ⟨notNil_ptr _, _, rfl, _, ld_at c1 2 rfl, by decide, by decide, by decide, fun y y0 y1 => ⟨by unfold I64; omega, notNil_ptr _, _, rfl, (a : Int), ld_at c1 1 rfl, notNil_ptr _, _, rfl, v, ld_at c1 0 rfl, (hz.ext e1).len fun w2 h2 => ?_⟩⟩
    have c2 := (h2.block _ (heap_lt c1)).trans c1
    have e2 := e1.trans h2
    have P2 : Pres (fun k => k ≠ b) w w2 := p1.trans (h2.pres _)
    refine ⟨fun hlt => ?_, fun hge => ⟨y0, by omega, _, rfl, (hmod _ y0).1, (hmod _ y0).2, e2, P2⟩⟩
    have hlt' : a < zs.length := by omega
    refine ⟨notNil_ptr _, _, rfl, v, ld_at c2 0 rfl, notNil_ptr _, _, rfl, (a : Int), ld_at c2 1 rfl, (hz.ext e2).get a rfl hlt' fun p0 p1' => ⟨by unfold I64; omega, by unfold I64; omega, fun w3 h3 => ?_⟩⟩
    have c3 := (h3.block _ (heap_lt c2)).trans c2
    refine ⟨notNil_ptr _, _, rfl, (a : Int), ld_at c3 1 rfl, by unfold I64; omega, notNil_ptr _, _, rfl, ?_⟩
    refine st_at c3 1 (by simp) rfl (.inr (by simp)) fun w4 c4 p4 z4 => ?_
    have e4 : Ext wb w4 := p4.ext (e2.trans h3) fun b' hb' => by omega
    have P4 : Pres (fun k => k ≠ b) w w4 := (P2.trans (h3.pres _)).trans p4
    exact ⟨by omega, by omega, _, rfl, (hmod _ (by omega)).1, (hmod _ (by omega)).2, e4, P4⟩)
end Go.Proofs
