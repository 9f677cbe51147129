/- Making the draws' source. No condition. -/
import Derived.Test.YtjcggcefmpaieaaDoorDraw
set_option linter.unusedVariables false
namespace Go.Proofs
open Go.Sx Go.RowKit
def spec_l01From_A (v : Value) (w : World) : Nat → Ann := fun κ => match κ with
  | 0 => { σ := Nat, sli := [4], slc := fun s => [SV.v (Value.int .i64 (s : Int))], bxi := [], bxc := fun s => [], inv := fun s W => True, μ := fun s W => 0, free := true }
  | _ => { σ := Unit, sli := [], slc := fun _ => [], bxi := [], bxc := fun _ => [], inv := fun _ _ => False, μ := fun _ _ => 0 }
abbrev spec_l01From_k0 (v : Value) (w : World) (b2 : Nat) (s4 : Nat) (w5 : World) (J6 : Nat → World → Prop) (m7 : Nat → World → Nat) (x15 : Int) (w20 : World) : Prop :=
  ∀ w21 : World, Ext w20 w21 → NotNil (Value.pointer (some (⟨b2, 0, none⟩))) ∧ ∃ ad22 : Addr, (Value.pointer (some (⟨b2, 0, none⟩))) = Value.pointer (some ad22) ∧ ∃ n23 : Int, LdV w21 (Value.pointer (some (ad22.add 2))) (Value.int .i64 n23) ∧ I64 (n23 * 67) ∧ IxV 1 v x15 (fun ad24 => ∃ n25 : Int, LdV w21 (Value.pointer (some ad24)) (Value.int .u8 n25) ∧ I64 n25 ∧ I64 ((n23 * 67) + n25) ∧ 0 ≤ ((n23 * 67) + n25) ∧ 0 < (2147483647 : Int) ∧ NotNil (Value.pointer (some (⟨b2, 0, none⟩))) ∧ ∃ ad26 : Addr, (Value.pointer (some (⟨b2, 0, none⟩))) = Value.pointer (some ad26) ∧ StV w.heap.size [] w21 (Value.pointer (some (ad26.add 2))) (Value.int .i64 (((n23 * 67) + n25) % 2147483647)) (fun w27 => I64 (x15 + 1) ∧ ∃ s28 : Nat, (Value.int .i64 (x15 + 1)) = (Value.int .i64 (s28 : Int)) ∧ (J6 s28 w27) ∧ (m7 s28 w27) < (m7 s4 w5)))
abbrev spec_l01From_k1 (v : Value) (w : World) (Post : Value → World → Prop) (b2 : Nat) (s4 : Nat) (w5 : World) (J6 : Nat → World → Prop) (m7 : Nat → World → Nat) (x9 : Int) (w14 : World) : Prop :=
  ((((s4 : Int) < (64 : Int)) → (spec_l01From_k0 v w b2 s4 w5 J6 m7 x9 w14)) ∧ (¬ ((s4 : Int) < (64 : Int)) → Post (Value.pointer (some (⟨b2, 0, none⟩))) w14))
def spec_l01From_vc (v : Value) (w : World) (Post : Value → World → Prop) : Prop :=
  oneC v (oneC v (∀ (b2 : Nat) (w1 : World), Ext w w1 → w.heap.size ≤ b2 → w1.heap[b2]? = some (.cells #[v, (Value.int .i64 0), (Value.int .i64 30011)] 93 (0, 0)) → (∃ (J6 : Nat → World → Prop) (m7 : Nat → World → Nat), ((∃ s3 : Nat, (Value.int .i64 0) = (Value.int .i64 (s3 : Int)) ∧ (J6 s3 w1)) ∧ ∀ (s4 : Nat) (w5 : World), (J6 s4 w5) → LenV v (fun n8 => ((((s4 : Int) < n8) → (spec_l01From_k1 v w Post b2 s4 w5 J6 m7 (s4 : Int) w5)) ∧ (¬ ((s4 : Int) < n8) → Post (Value.pointer (some (⟨b2, 0, none⟩))) w5)))))))
theorem spec_l01From_eq (v : Value) (w : World) (Post : Value → World → Prop) : denF Tryd.prog [7, 9700000] (spec_l01From_A v w) 39 [v] w Post = spec_l01From_vc v w Post := by kernel_rfl
set_option maxRecDepth 100000 in
theorem spec_l01From_calls (v : Value) (w : World) (Post : Value → World → Prop) (hvc : spec_l01From_vc v w Post) : Ret Tryd.prog 39 #[v] w Post :=
  Ret.of (denF_sound mixed (Eq.mpr (spec_l01From_eq v w Post) hvc))

theorem spec_l01From_ret (v : Value) (zs : List Int) (w : World) (h : RB w v zs) : Ret Tryd.prog 39 #[v] w fun r w' => ∃ b, r = .pointer (some ⟨b, 0, none⟩) ∧ Src w b v zs w' :=
  spec_l01From_calls v w _ (by
    unfold spec_l01From_vc
    refine h.oneC (h.oneC fun b w1 h1 g1 c1 => ?_)
    refine ⟨fun k W => k ≤ 64 ∧ Src w b v zs W, fun k _ => 64 - k, ⟨0, rfl, Nat.zero_le _, h1, g1, h, 0, 30011, c1, Nat.zero_le _, by decide, by decide⟩, ?_⟩
    rintro k w2 ⟨hk, hs⟩
    obtain ⟨e2, _, _, a, s, c2, ha, s0, s1⟩ := id hs
    refine (h.ext e2).len ⟨fun hlt => ⟨fun h64 => ?_, fun _ => ⟨b, rfl, hs⟩⟩, fun _ => ⟨b, rfl, hs⟩⟩
    intro w3 h3
    have c3 := (h3.block _ (heap_lt c2)).trans c2
    refine ⟨notNil_ptr _, _, rfl, s, ld_at c3 2 rfl, by unfold I64; omega, (h.ext (e2.trans h3)).get k rfl (by omega) fun p0 p1 => ⟨by unfold I64; omega, by unfold I64; omega, by omega, by decide, notNil_ptr _, _, rfl, ?_⟩⟩
    refine st_at c3 2 (by simp) rfl (.inr (by simp)) fun w4 c4 p4 z4 => ⟨by unfold I64; omega, k + 1, rfl, ⟨by omega, p4.ext (e2.trans h3) fun b' hb' => by omega, g1, h, a, _, c4, ha, by omega, by omega⟩, by simp only; omega⟩)
end Go.Proofs
