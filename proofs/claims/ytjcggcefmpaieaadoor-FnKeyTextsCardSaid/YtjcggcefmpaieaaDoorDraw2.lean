/- Contracts of the draws of makers. No condition. -/
import Derived.Test.YtjcggcefmpaieaaDoorDraw
set_option linter.unusedVariables false
namespace Go.Proofs
open Go.Sx Go.RowKit
def spec_l02Valid_vc (p : Addr) (w : World) (Post : Value → World → Prop) : Prop :=
  ∀ w1 : World, Ext w w1 → Calls Tryd.prog 44 #[(Value.pointer (some p)), (Value.int .i64 3)] w1 (fun e2 w3 => ∃ n4 : Int, e2 = .returned (Value.int .i64 n4) ∧ Keeps w.heap.size [39] w1 w3 ∧ I64 (2 + n4) ∧ Calls Tryd.prog 44 #[(Value.pointer (some p)), (Value.int .i64 3)] w3 (fun e5 w6 => ∃ n7 : Int, e5 = .returned (Value.int .i64 n7) ∧ Keeps w.heap.size [39] w3 w6 ∧ I64 (2 + n7) ∧ ∀ w8 : World, Ext w6 w8 → ∀ w9 : World, BxS w.heap.size 39 w8 w9 → I64 ((2 + n7) - 1) ∧ Calls Tryd.prog 44 #[(Value.pointer (some p)), (Value.int .i64 ((2 + n7) - 1))] w9 (fun e10 w11 => ∃ n12 : Int, e10 = .returned (Value.int .i64 n12) ∧ Keeps w.heap.size [39, 39] w9 w11 ∧ I64 (1 + n12) ∧ ∀ w13 : World, BxS w.heap.size 39 w11 w13 → Calls Tryd.prog 44 #[(Value.pointer (some p)), (Value.int .i64 (2 + n4))] w13 (fun e14 w15 => ∃ n16 : Int, e14 = .returned (Value.int .i64 n16) ∧ Keeps w.heap.size [39, 39] w13 w15 ∧ I64 (1 + n16) ∧ ∀ w17 : World, BxS w.heap.size 39 w15 w17 → Calls Tryd.prog 44 #[(Value.pointer (some p)), (Value.int .i64 (min (min 2 (2 + n4)) (2 + n7)))] w17 (fun e18 w19 => ∃ n20 : Int, e18 = .returned (Value.int .i64 n20) ∧ Keeps w.heap.size [39, 39] w17 w19 ∧ I64 (1 + n20) ∧ ∀ w21 : World, BxS w.heap.size 39 w19 w21 → ∀ w22 : World, BxS w.heap.size 39 w21 w22 → Post (Value.agg #[(Value.int .i64 (2 + n4)), (Value.int .i64 (2 + n7)), (Value.int .i64 (1 + n12)), (Value.int .i64 (1 + n16)), (Value.int .i64 (1 + n20))]) w22)))))
theorem spec_l02Valid_eq (p : Addr) (w : World) (Post : Value → World → Prop) : denF Tryd.prog [9700000, 9800000] noAnn 97 [(Value.pointer (some p))] w Post = spec_l02Valid_vc p w Post := by kernel_rfl
set_option maxRecDepth 100000 in
theorem spec_l02Valid_calls (p : Addr) (w : World) (Post : Value → World → Prop) (hvc : spec_l02Valid_vc p w Post) : Ret Tryd.prog 97 #[(Value.pointer (some p))] w Post :=
  Ret.of (denF_sound mixed (Eq.mpr (spec_l02Valid_eq p w Post) hvc))

theorem spec_l02Valid_ret (wb : World) (b : Nat) (cv : Value) (zs : List Int) (w : World) (hs : Src wb b cv zs w) :
    Ret Tryd.prog 97 #[.pointer (some ⟨b, 0, none⟩)] w fun r w' => ∃ c d s m l : Int, r = mkV c d s m l ∧ (2 ≤ c ∧ c ≤ 4) ∧ (2 ≤ d ∧ d ≤ 4) ∧ (1 ≤ s ∧ s ≤ d) ∧ (1 ≤ m ∧ m ≤ c) ∧ (1 ≤ l ∧ l ≤ 2) ∧ Src wb b cv zs w' ∧ Pres (fun k => k ≠ b) w w' :=
  spec_l02Valid_calls ⟨b, 0, none⟩ w _ (by
    unfold spec_l02Valid_vc
    have hw : wb.heap.size ≤ w.heap.size := hs.1.size
    intro w1 h1
    have s1 := hs.ext h1
    have q1 : Pres (fun k => k ≠ b) w w1 := h1.pres _
    refine (spec_l01Next_ret wb b cv zs 3 w1 s1).call ?_
    rintro _ w2 ⟨c, rfl, c0, c1, s2, p2⟩
    have q2 := q1.trans p2
    refine ⟨c, rfl, s1.keeps p2 (by decide), by unfold I64; omega, ?_⟩
    refine (spec_l01Next_ret wb b cv zs 3 w2 s2).call ?_
    rintro _ w3 ⟨d, rfl, d0, d1, s3, p3⟩
    have q3 := q2.trans p3
    refine ⟨d, rfl, s2.keeps p3 (by decide), by unfold I64; omega, fun w4 h4 w5 b5 => ⟨by unfold I64; omega, ?_⟩⟩
    have s5 := (s3.ext h4).bxs hw b5 (by decide)
    have q5 := pres_bxs (q3.trans (h4.pres _)) b5
    refine (spec_l01Next_ret wb b cv zs _ w5 s5).call ?_
    rintro _ w6 ⟨s, rfl, e0, e1, s6, p6⟩
    have q6 := q5.trans p6
    refine ⟨s, rfl, s5.keeps p6 (by decide), by unfold I64; omega, fun w7 b7 => ?_⟩
    have s7 := s6.bxs hw b7 (by decide)
    have q7 := pres_bxs q6 b7
    refine (spec_l01Next_ret wb b cv zs _ w7 s7).call ?_
    rintro _ w8 ⟨m, rfl, m0, m1, s8, p8⟩
    have q8 := q7.trans p8
    refine ⟨m, rfl, s7.keeps p8 (by decide), by unfold I64; omega, fun w9 b9 => ?_⟩
    have s9 := s8.bxs hw b9 (by decide)
    have q9 := pres_bxs q8 b9
    refine (spec_l01Next_ret wb b cv zs _ w9 s9).call ?_
    rintro _ w10 ⟨l, rfl, l0, l1, s10, p10⟩
    have q10 := q9.trans p10
    refine ⟨l, rfl, s9.keeps p10 (by decide), by unfold I64; omega, fun w11 b11 w12 b12 => ?_⟩
    exact ⟨_, _, _, _, _, rfl, by omega, by omega, by omega, by omega, by omega, (s10.bxs hw b11 (by decide)).bxs hw b12 (by decide), pres_bxs (pres_bxs q10 b11) b12⟩)
end Go.Proofs
