/- Contracts: 'within', 'IsMaker' of the program and of the reference, and the copy of a maker. No condition. -/
import Derived.Test.YtjcggcefmpaieaaDoorBase
set_option linter.unusedVariables false
namespace Go.Proofs
open Go.Sx Go.RowKit

def impl_within_vc (n : Int) (l : Int) (h : Int) (w : World) (Post : Value → World → Prop) : Prop :=
  (((l ≤ n) → Post (Value.bool (decide (n ≤ h))) w) ∧ (¬ (l ≤ n) → Post (Value.bool false) w))
theorem impl_within_eq (n : Int) (l : Int) (h : Int) (w : World) (Post : Value → World → Prop) : denF Tryd.prog [] noAnn 85 [(Value.int .i64 n), (Value.int .i64 l), (Value.int .i64 h)] w Post = impl_within_vc n l h w Post := by kernel_rfl
set_option maxRecDepth 100000 in
theorem impl_within_calls (n : Int) (l : Int) (h : Int) (w : World) (Post : Value → World → Prop) (hvc : impl_within_vc n l h w Post) : Ret Tryd.prog 85 #[(Value.int .i64 n), (Value.int .i64 l), (Value.int .i64 h)] w Post :=
  Ret.of (denF_sound mixed (Eq.mpr (impl_within_eq n l h w Post) hvc))

theorem impl_within_val (n l h : Int) (w : World) : Val Tryd.prog 85 #[.int .i64 n, .int .i64 l, .int .i64 h] w (.bool (decide (l ≤ n ∧ n ≤ h))) :=
  Ret.val (impl_within_calls n l h w _ (by
    unfold impl_within_vc
    refine ⟨fun h1 => ⟨by simp [h1], .refl w⟩, fun h1 => ⟨by simp [h1], .refl w⟩⟩))

def spec_l01In_vc (n : Int) (l : Int) (h : Int) (w : World) (Post : Value → World → Prop) : Prop :=
  (((l ≤ n) → Post (Value.bool (decide (n ≤ h))) w) ∧ (¬ (l ≤ n) → Post (Value.bool false) w))
theorem spec_l01In_eq (n : Int) (l : Int) (h : Int) (w : World) (Post : Value → World → Prop) : denF Tryd.prog [] noAnn 81 [(Value.int .i64 n), (Value.int .i64 l), (Value.int .i64 h)] w Post = spec_l01In_vc n l h w Post := by kernel_rfl
set_option maxRecDepth 100000 in
theorem spec_l01In_calls (n : Int) (l : Int) (h : Int) (w : World) (Post : Value → World → Prop) (hvc : spec_l01In_vc n l h w Post) : Ret Tryd.prog 81 #[(Value.int .i64 n), (Value.int .i64 l), (Value.int .i64 h)] w Post :=
  Ret.of (denF_sound mixed (Eq.mpr (spec_l01In_eq n l h w Post) hvc))

theorem spec_l01In_val (n l h : Int) (w : World) : Val Tryd.prog 81 #[.int .i64 n, .int .i64 l, .int .i64 h] w (.bool (decide (l ≤ n ∧ n ≤ h))) :=
  Ret.val (spec_l01In_calls n l h w _ (by
    unfold spec_l01In_vc
    refine ⟨fun h1 => ⟨by simp [h1], .refl w⟩, fun h1 => ⟨by simp [h1], .refl w⟩⟩))

/-- a maker as a value -/
def mkV (c d s m l : Int) : Value := .agg #[.int .i64 c, .int .i64 d, .int .i64 s, .int .i64 m, .int .i64 l]
/-- what a valid maker is -/
def MkOk (c d s m l : Int) : Prop := (2 ≤ c ∧ c ≤ 6) ∧ (2 ≤ d ∧ d ≤ 8) ∧ (1 ≤ s ∧ s ≤ d - 1) ∧ (1 ≤ m ∧ m ≤ c) ∧ (1 ≤ l ∧ l ≤ min c d)
instance (c d s m l : Int) : Decidable (MkOk c d s m l) := inferInstanceAs (Decidable (_ ∧ _))

def impl_IsMaker_vc (m_Chambers : Int) (m_Depths : Int) (m_Step : Int) (m_Same : Int) (m_Least : Int) (w : World) (Post : Value → World → Prop) : Prop :=
  ∀ w1 : World, Ext w w1 → Calls Tryd.prog 85 #[(Value.int .i64 m_Chambers), (Value.int .i64 2), (Value.int .i64 6)] w1 (fun e2 w3 => ∃ b4 : Bool, e2 = .returned (Value.bool b4) ∧ Keeps w.heap.size [39] w1 w3 ∧ ((b4 = true → Calls Tryd.prog 85 #[(Value.int .i64 m_Depths), (Value.int .i64 2), (Value.int .i64 8)] w3 (fun e5 w6 => ∃ b7 : Bool, e5 = .returned (Value.bool b7) ∧ Keeps w.heap.size [39] w3 w6 ∧ ((b7 = true → I64 (m_Depths - 1) ∧ Calls Tryd.prog 85 #[(Value.int .i64 m_Step), (Value.int .i64 1), (Value.int .i64 (m_Depths - 1))] w6 (fun e8 w9 => ∃ b10 : Bool, e8 = .returned (Value.bool b10) ∧ Keeps w.heap.size [39] w6 w9 ∧ ((b10 = true → Calls Tryd.prog 85 #[(Value.int .i64 m_Same), (Value.int .i64 1), (Value.int .i64 m_Chambers)] w9 (fun e11 w12 => ∃ b13 : Bool, e11 = .returned (Value.bool b13) ∧ Keeps w.heap.size [39] w9 w12 ∧ ((b13 = true → Calls Tryd.prog 85 #[(Value.int .i64 m_Least), (Value.int .i64 1), (Value.int .i64 (min m_Chambers m_Depths))] w12 (fun e14 w15 => ∃ b16 : Bool, e14 = .returned (Value.bool b16) ∧ Keeps w.heap.size [39] w12 w15 ∧ Post (Value.bool b16) w15)) ∧ (b13 = false → Post (Value.bool false) w12)))) ∧ (b10 = false → Post (Value.bool false) w9)))) ∧ (b7 = false → Post (Value.bool false) w6)))) ∧ (b4 = false → Post (Value.bool false) w3)))
theorem impl_IsMaker_eq (m_Chambers : Int) (m_Depths : Int) (m_Step : Int) (m_Same : Int) (m_Least : Int) (w : World) (Post : Value → World → Prop) : denF Tryd.prog [] noAnn 51 [(Value.agg #[(Value.int .i64 m_Chambers), (Value.int .i64 m_Depths), (Value.int .i64 m_Step), (Value.int .i64 m_Same), (Value.int .i64 m_Least)])] w Post = impl_IsMaker_vc m_Chambers m_Depths m_Step m_Same m_Least w Post := by kernel_rfl
set_option maxRecDepth 100000 in
theorem impl_IsMaker_calls (m_Chambers : Int) (m_Depths : Int) (m_Step : Int) (m_Same : Int) (m_Least : Int) (w : World) (Post : Value → World → Prop) (hvc : impl_IsMaker_vc m_Chambers m_Depths m_Step m_Same m_Least w Post) : Ret Tryd.prog 51 #[(Value.agg #[(Value.int .i64 m_Chambers), (Value.int .i64 m_Depths), (Value.int .i64 m_Step), (Value.int .i64 m_Same), (Value.int .i64 m_Least)])] w Post :=
  Ret.of (denF_sound mixed (Eq.mpr (impl_IsMaker_eq m_Chambers m_Depths m_Step m_Same m_Least w Post) hvc))

theorem impl_IsMaker_val (c d s m l : Int) (w : World) : Val Tryd.prog 51 #[mkV c d s m l] w (.bool (decide (MkOk c d s m l))) :=
  Ret.val (impl_IsMaker_calls c d s m l w _ (by
    unfold impl_IsMaker_vc
    intro w1 h1
    refine (impl_within_val ..).call fun w2 h2 => ⟨_, rfl, h2.keeps, fun hb => ?_, fun hb => ⟨?_, h1.trans h2⟩⟩
    · have hb := of_decide_eq_true hb
      refine (impl_within_val ..).call fun w3 h3 => ⟨_, rfl, h3.keeps, fun hb3 => ?_, fun hb3 => ⟨?_, (h1.trans h2).trans h3⟩⟩
      · have hb3 := of_decide_eq_true hb3
        refine ⟨by unfold I64; omega, (impl_within_val ..).call fun w4 h4 => ⟨_, rfl, h4.keeps, fun hb4 => ?_, fun hb4 => ⟨?_, ((h1.trans h2).trans h3).trans h4⟩⟩⟩
        · have hb4 := of_decide_eq_true hb4
          refine (impl_within_val ..).call fun w5 h5 => ⟨_, rfl, h5.keeps, fun hb5 => ?_, fun hb5 => ⟨?_, (((h1.trans h2).trans h3).trans h4).trans h5⟩⟩
          · have hb5 := of_decide_eq_true hb5
            refine (impl_within_val ..).call fun w6 h6 => ⟨_, rfl, h6.keeps, ?_, ((((h1.trans h2).trans h3).trans h4).trans h5).trans h6⟩
            congr 1
            exact decide_eq_decide.2 ⟨fun h => ⟨hb, hb3, hb4, hb5, h⟩, fun h => h.2.2.2.2⟩
          · have hb5 := of_decide_eq_false hb5
            congr 1
            exact (decide_eq_false fun h => hb5 h.2.2.2.1).symm
        · have hb4 := of_decide_eq_false hb4
          congr 1
          exact (decide_eq_false fun h => hb4 h.2.2.1).symm
      · have hb3 := of_decide_eq_false hb3
        congr 1
        exact (decide_eq_false fun h => hb3 h.2.1).symm
    · have hb := of_decide_eq_false hb
      congr 1
      exact (decide_eq_false fun h => hb h.1).symm))

def spec_IsMaker_vc (m_Chambers : Int) (m_Depths : Int) (m_Step : Int) (m_Same : Int) (m_Least : Int) (w : World) (Post : Value → World → Prop) : Prop :=
  ∀ w1 : World, Ext w w1 → Calls Tryd.prog 81 #[(Value.int .i64 m_Chambers), (Value.int .i64 2), (Value.int .i64 6)] w1 (fun e2 w3 => ∃ b4 : Bool, e2 = .returned (Value.bool b4) ∧ Keeps w.heap.size [39] w1 w3 ∧ ((b4 = true → Calls Tryd.prog 81 #[(Value.int .i64 m_Depths), (Value.int .i64 2), (Value.int .i64 8)] w3 (fun e5 w6 => ∃ b7 : Bool, e5 = .returned (Value.bool b7) ∧ Keeps w.heap.size [39] w3 w6 ∧ ((b7 = true → I64 (m_Depths - 1) ∧ Calls Tryd.prog 81 #[(Value.int .i64 m_Step), (Value.int .i64 1), (Value.int .i64 (m_Depths - 1))] w6 (fun e8 w9 => ∃ b10 : Bool, e8 = .returned (Value.bool b10) ∧ Keeps w.heap.size [39] w6 w9 ∧ ((b10 = true → Calls Tryd.prog 81 #[(Value.int .i64 m_Same), (Value.int .i64 1), (Value.int .i64 m_Chambers)] w9 (fun e11 w12 => ∃ b13 : Bool, e11 = .returned (Value.bool b13) ∧ Keeps w.heap.size [39] w9 w12 ∧ ((b13 = true → Calls Tryd.prog 81 #[(Value.int .i64 m_Least), (Value.int .i64 1), (Value.int .i64 (min m_Chambers m_Depths))] w12 (fun e14 w15 => ∃ b16 : Bool, e14 = .returned (Value.bool b16) ∧ Keeps w.heap.size [39] w12 w15 ∧ Post (Value.bool b16) w15)) ∧ (b13 = false → Post (Value.bool false) w12)))) ∧ (b10 = false → Post (Value.bool false) w9)))) ∧ (b7 = false → Post (Value.bool false) w6)))) ∧ (b4 = false → Post (Value.bool false) w3)))
theorem spec_IsMaker_eq (m_Chambers : Int) (m_Depths : Int) (m_Step : Int) (m_Same : Int) (m_Least : Int) (w : World) (Post : Value → World → Prop) : denF Tryd.prog [] noAnn 48 [(Value.agg #[(Value.int .i64 m_Chambers), (Value.int .i64 m_Depths), (Value.int .i64 m_Step), (Value.int .i64 m_Same), (Value.int .i64 m_Least)])] w Post = spec_IsMaker_vc m_Chambers m_Depths m_Step m_Same m_Least w Post := by kernel_rfl
set_option maxRecDepth 100000 in
theorem spec_IsMaker_calls (m_Chambers : Int) (m_Depths : Int) (m_Step : Int) (m_Same : Int) (m_Least : Int) (w : World) (Post : Value → World → Prop) (hvc : spec_IsMaker_vc m_Chambers m_Depths m_Step m_Same m_Least w Post) : Ret Tryd.prog 48 #[(Value.agg #[(Value.int .i64 m_Chambers), (Value.int .i64 m_Depths), (Value.int .i64 m_Step), (Value.int .i64 m_Same), (Value.int .i64 m_Least)])] w Post :=
  Ret.of (denF_sound mixed (Eq.mpr (spec_IsMaker_eq m_Chambers m_Depths m_Step m_Same m_Least w Post) hvc))

theorem spec_IsMaker_val (c d s m l : Int) (w : World) : Val Tryd.prog 48 #[mkV c d s m l] w (.bool (decide (MkOk c d s m l))) :=
  Ret.val (spec_IsMaker_calls c d s m l w _ (by
    unfold spec_IsMaker_vc
    intro w1 h1
    refine (spec_l01In_val ..).call fun w2 h2 => ⟨_, rfl, h2.keeps, fun hb => ?_, fun hb => ⟨?_, h1.trans h2⟩⟩
    · have hb := of_decide_eq_true hb
      refine (spec_l01In_val ..).call fun w3 h3 => ⟨_, rfl, h3.keeps, fun hb3 => ?_, fun hb3 => ⟨?_, (h1.trans h2).trans h3⟩⟩
      · have hb3 := of_decide_eq_true hb3
        refine ⟨by unfold I64; omega, (spec_l01In_val ..).call fun w4 h4 => ⟨_, rfl, h4.keeps, fun hb4 => ?_, fun hb4 => ⟨?_, ((h1.trans h2).trans h3).trans h4⟩⟩⟩
        · have hb4 := of_decide_eq_true hb4
          refine (spec_l01In_val ..).call fun w5 h5 => ⟨_, rfl, h5.keeps, fun hb5 => ?_, fun hb5 => ⟨?_, (((h1.trans h2).trans h3).trans h4).trans h5⟩⟩
          · have hb5 := of_decide_eq_true hb5
            refine (spec_l01In_val ..).call fun w6 h6 => ⟨_, rfl, h6.keeps, ?_, ((((h1.trans h2).trans h3).trans h4).trans h5).trans h6⟩
            congr 1
            exact decide_eq_decide.2 ⟨fun h => ⟨hb, hb3, hb4, hb5, h⟩, fun h => h.2.2.2.2⟩
          · have hb5 := of_decide_eq_false hb5
            congr 1
            exact (decide_eq_false fun h => hb5 h.2.2.2.1).symm
        · have hb4 := of_decide_eq_false hb4
          congr 1
          exact (decide_eq_false fun h => hb4 h.2.2.1).symm
      · have hb3 := of_decide_eq_false hb3
        congr 1
        exact (decide_eq_false fun h => hb3 h.2.1).symm
    · have hb := of_decide_eq_false hb
      congr 1
      exact (decide_eq_false fun h => hb h.1).symm))

def laws_toMaker_vc (m_Chambers : Int) (m_Depths : Int) (m_Step : Int) (m_Same : Int) (m_Least : Int) (w : World) (Post : Value → World → Prop) : Prop :=
  ∀ w1 : World, Ext w w1 → ∀ w2 : World, Ext w1 w2 → ∀ w3 : World, Ext w2 w3 → ∀ w4 : World, BxS w.heap.size 39 w3 w4 → ∀ w5 : World, BxS w.heap.size 39 w4 w5 → ∀ w6 : World, BxS w.heap.size 39 w5 w6 → ∀ w7 : World, BxS w.heap.size 39 w6 w7 → ∀ w8 : World, BxS w.heap.size 39 w7 w8 → ∀ w9 : World, BxS w.heap.size 39 w8 w9 → Post (Value.agg #[(Value.int .i64 m_Chambers), (Value.int .i64 m_Depths), (Value.int .i64 m_Step), (Value.int .i64 m_Same), (Value.int .i64 m_Least)]) w9
theorem laws_toMaker_eq (m_Chambers : Int) (m_Depths : Int) (m_Step : Int) (m_Same : Int) (m_Least : Int) (w : World) (Post : Value → World → Prop) : denF Tryd.prog [] noAnn 19 [(Value.agg #[(Value.int .i64 m_Chambers), (Value.int .i64 m_Depths), (Value.int .i64 m_Step), (Value.int .i64 m_Same), (Value.int .i64 m_Least)])] w Post = laws_toMaker_vc m_Chambers m_Depths m_Step m_Same m_Least w Post := by kernel_rfl
set_option maxRecDepth 100000 in
theorem laws_toMaker_calls (m_Chambers : Int) (m_Depths : Int) (m_Step : Int) (m_Same : Int) (m_Least : Int) (w : World) (Post : Value → World → Prop) (hvc : laws_toMaker_vc m_Chambers m_Depths m_Step m_Same m_Least w Post) : Ret Tryd.prog 19 #[(Value.agg #[(Value.int .i64 m_Chambers), (Value.int .i64 m_Depths), (Value.int .i64 m_Step), (Value.int .i64 m_Same), (Value.int .i64 m_Least)])] w Post :=
  Ret.of (denF_sound mixed (Eq.mpr (laws_toMaker_eq m_Chambers m_Depths m_Step m_Same m_Least w Post) hvc))

theorem laws_toMaker_val (c d s m l : Int) (w : World) : Val Tryd.prog 19 #[mkV c d s m l] w (mkV c d s m l) :=
  Ret.val (laws_toMaker_calls c d s m l w _ (by
    unfold laws_toMaker_vc
    intro w1 h1 w2 h2 w3 h3 w4 h4 w5 h5 w6 h6 w7 h7 w8 h8 w9 h9
    exact ⟨rfl, ((((((((h1.trans h2).trans h3).bxs h4).bxs h5).bxs h6).bxs h7).bxs h8).bxs h9)⟩))
end Go.Proofs
