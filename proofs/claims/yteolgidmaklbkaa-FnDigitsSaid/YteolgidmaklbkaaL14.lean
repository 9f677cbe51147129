/- DigitsOf, of the reference. No condition. -/
import Derived.Test.YteolgidmaklbkaaL13
import Derived.Test.YteolgidmaklbkaaL01s
set_option linter.unusedVariables false
namespace Go.Proofs
open Go.Sx Go.RowKit

def spec_DigitsOf_A (n : Int) (v : Value) (w : World) : Nat → Ann := fun κ => match κ with
  | 0 => { σ := Int × Int, sli := [7, 0], slc := fun s => [SV.v (Value.int .i64 ((s).1)), SV.v (Value.int .i64 ((s).2))], bxi := [], bxc := fun s => [], inv := fun s W => True, μ := fun s W => 0, free := true }
  | _ => { σ := Unit, sli := [], slc := fun _ => [], bxi := [], bxc := fun _ => [], inv := fun _ _ => False, μ := fun _ _ => 0 }
abbrev spec_DigitsOf_k0 (w : World) (x26 : Value) (v37 : Value) (s41 : Int × Int) (w42 : World) (J43 : (Int × Int) → World → Prop) (m44 : (Int × Int) → World → Nat) (x45 : Int) (x46 : Int) (w48 : World) : Prop :=
  IxV 1 x26 x46 (fun ad49 => ∃ n50 : Int, LdV w48 (Value.pointer (some ad49)) (Value.int .i64 n50) ∧ 0 ≤ x45 ∧ 0 < n50 ∧ IxV 1 v37 x46 (fun ad51 => StV w.heap.size [] w48 (Value.pointer (some ad51)) (Value.int .i64 (x45 % n50)) (fun w52 => IxV 1 x26 x46 (fun ad53 => ∃ n54 : Int, LdV w52 (Value.pointer (some ad53)) (Value.int .i64 n54) ∧ 0 ≤ x45 ∧ I64 x45 ∧ 0 < n54 ∧ I64 (x46 - 1) ∧ ∃ s55 : (Int × Int), (Value.int .i64 (x46 - 1)) = (Value.int .i64 ((s55).1)) ∧ (Value.int .i64 (x45 / n54)) = (Value.int .i64 ((s55).2)) ∧ (J43 s55 w52) ∧ (m44 s55 w52) < (m44 s41 w42)))))
abbrev spec_DigitsOf_k1 (Post : Value → World → Prop) (x56 : Int) (x59 : Value) (w75 : World) : Prop :=
  ((((0 : Int) < x56) → Post (Value.tuple #[(Value.slice none 0 0), (Value.int .i64 2)]) w75) ∧ (¬ ((0 : Int) < x56) → Post (Value.tuple #[x59, (Value.int .i64 0)]) w75))
abbrev spec_DigitsOf_k2 (w : World) (Post : Value → World → Prop) (x25 : Int) (x26 : Value) (w35 : World) : Prop :=
  LenV x26 (fun n36 => n36 = n36 ∧ 0 ≤ n36 ∧ n36 ≤ 4398046511104 ∧ ∀ (v37 : Value) (w38 : World), Sx.Own w35.heap.size w38 2 v37 (List.replicate n36.toNat (Value.int .i64 0)) → Ext w35 w38 → LenV x26 (fun n39 => I64 (n39 - 1) ∧ (∃ (J43 : (Int × Int) → World → Prop) (m44 : (Int × Int) → World → Nat), ((∃ s40 : (Int × Int), (Value.int .i64 (n39 - 1)) = (Value.int .i64 ((s40).1)) ∧ (Value.int .i64 x25) = (Value.int .i64 ((s40).2)) ∧ (J43 s40 w38)) ∧ ∀ (s41 : (Int × Int)) (w42 : World), (J43 s41 w42) → ((((0 : Int) ≤ ((s41).1)) → (spec_DigitsOf_k0 w x26 v37 s41 w42 J43 m44 ((s41).2) ((s41).1) w42)) ∧ (¬ ((0 : Int) ≤ ((s41).1)) → (spec_DigitsOf_k1 Post ((s41).2) v37 w42)))))))
abbrev spec_DigitsOf_k3 (w : World) (Post : Value → World → Prop) (x14 : Int) (x15 : Value) (x23 : Bool) (w24 : World) : Prop :=
  ((x23 = true → Post (Value.tuple #[(Value.slice none 0 0), (Value.int .i64 2)]) w24) ∧ (x23 = false → (spec_DigitsOf_k2 w Post x14 x15 w24)))
def spec_DigitsOf_vc (n : Int) (v : Value) (w : World) (Post : Value → World → Prop) : Prop :=
  Calls Try.prog 94 #[(Value.int .i64 n)] w (fun e1 w2 => ∃ b3 : Bool, e1 = .returned (Value.bool b3) ∧ Keeps w.heap.size [] w w2 ∧ (((!b3) = true → Post (Value.tuple #[(Value.slice none 0 0), (Value.int .i64 2)]) w2) ∧ ((!b3) = false → Calls Try.prog 95 #[v] w2 (fun e11 w12 => ∃ b13 : Bool, e11 = .returned (Value.bool b13) ∧ Keeps w.heap.size [] w2 w12 ∧ (spec_DigitsOf_k3 w Post n v (!b13) w12)))))
theorem spec_DigitsOf_eq (n : Int) (v : Value) (w : World) (Post : Value → World → Prop) : denF Try.prog [] (spec_DigitsOf_A n v w) 15 [(Value.int .i64 n), v] w Post = spec_DigitsOf_vc n v w Post := by kernel_rfl
set_option maxRecDepth 100000 in
theorem spec_DigitsOf_calls (n : Int) (v : Value) (w : World) (Post : Value → World → Prop) (hvc : spec_DigitsOf_vc n v w Post) : Ret Try.prog 15 #[(Value.int .i64 n), v] w Post :=
  Ret.of (denF_sound mixed (Eq.mpr (spec_DigitsOf_eq n v w Post) hvc))

theorem spec_DigitsOf_ret (n : Int) (v : Value) (bs : List Int) (w : World) (hv : RI w v bs) (hn : I64 n) : SlR 15 #[.int .i64 n, v] w (digL n bs) (digC n bs) :=
  spec_DigitsOf_calls n v w _ (by
    unfold spec_DigitsOf_vc
    have no : ∀ w', Ext w w' → ¬ DigD n bs → ∃ u, Value.tuple #[.slice none 0 0, .int .i64 2] = .tuple #[u, .int .i64 (digC n bs)] ∧ Sx.Own w.heap.size w' 2 u (ints (digL n bs)) ∧ Ext w w' := fun w' h hd => by
      rw [show digL n bs = _ from if_neg hd, show digC n bs = _ from if_neg hd]
      exact ⟨_, rfl, Own.nil_ _ _ _, h⟩
    refine (spec_l01Is_val n w).call fun w1 h1 => ⟨_, rfl, h1.keeps, fun hb => no _ h1 fun h => nd_t hb h.1, fun hb => ?_⟩
    have hN := nd_f hb
    refine (spec_l01Bases_val v bs w1 (hv.ext h1)).call fun w2 h2 => ⟨_, rfl, h2.keeps, fun hb => no _ (h1.trans h2) fun h => nd_t hb h.2.1, fun hb => ?_⟩
    have hB := nd_f hb
    have k2 := h1.trans h2
    have hbl := hB.1
    have hpos : ∀ b ∈ bs, 1 ≤ b := fun b hb => (hB.2 b hb).1
    have h9 := hN.2
    simp only [Mx] at h9
    refine (hv.ext k2).len ⟨rfl, by omega, by omega, ?_⟩
    intro x w3 ox h3
    have k3 := k2.trans h3
    have ox : Sx.Own w.heap.size w3 2 x (ints (List.replicate bs.length 0)) := by
      have := ox.mono k2.size
      simpa [ints] using this
    refine (hv.ext k2).len ⟨by unfold I64; omega, fun s W => ∃ k : Nat, k ≤ bs.length ∧ s.1 = (bs.length : Int) - 1 - k ∧ s.2 = (dgs (bs.drop (bs.length - k)) n).2 ∧ Sx.Own w.heap.size W 2 x (ints (List.replicate (bs.length - k) 0 ++ (dgs (bs.drop (bs.length - k)) n).1)) ∧ Ext w W, fun s _ => (s.1 + 1).toNat, ⟨((bs.length : Int) - 1, n), rfl, rfl, 0, Nat.zero_le _, by simp, by simp [dgs], by simpa [dgs] using ox, k3⟩, ?_⟩
    rintro ⟨i, r⟩ w4 ⟨k, hk, hi, hr, o4, k4⟩
    simp only at hi hr
    subst hi hr
    have hst := dgs_range (bs.drop (bs.length - k)) (fun b hb => hpos b (List.mem_of_mem_drop hb)) hN.1
    refine ⟨fun hge => ?_, fun hlt => ?_⟩
    · simp only at hge
      unfold spec_DigitsOf_k0
      have hj : bs.length - 1 - k < bs.length := by omega
      have hix : (bs.length : Int) - 1 - k = ((bs.length - 1 - k : Nat) : Int) := by omega
      have hb1 : 1 ≤ bs[bs.length - 1 - k] := hpos _ (List.getElem_mem hj)
      refine (hv.ext k4).get (bs.length - 1 - k) hix hj ⟨hst.1, by omega, ?_⟩
      refine o4.setAt (bs.length - 1 - k) hix (by simp [ints, dgs_length]; omega) rfl (by simp) ?_
      intro w5 o5 g5
      have k5 := k4.grown o4 (Nat.le_refl _) g5
      refine (hv.ext k5).get (bs.length - 1 - k) hix hj ⟨hst.1, by unfold I64; omega, by omega, by unfold I64; omega, ((bs.length : Int) - 1 - k - 1, (dgs (bs.drop (bs.length - k)) n).2 / bs[bs.length - 1 - k]), rfl, rfl, ⟨k + 1, by omega, by simp only; omega, ?_, ?_, k5⟩, by simp only; omega⟩
      · have e : bs.length - (k + 1) = bs.length - 1 - k := by omega
        have e' : bs.length - k = bs.length - 1 - k + 1 := by omega
        rw [e, List.drop_eq_getElem_cons hj, e']
        rfl
      · have e : bs.length - (k + 1) = bs.length - 1 - k := by omega
        have e' : bs.length - k = bs.length - 1 - k + 1 := by omega
        rw [e, List.drop_eq_getElem_cons hj]
        rw [e', List.replicate_succ', List.append_assoc] at o5
        simp only [ints, List.map_append, List.map_cons, List.map_replicate, List.singleton_append] at o5 ⊢
        rw [List.set_append_right _ _ (by simp)] at o5
        simpa [dgs] using o5
    · unfold spec_DigitsOf_k1
      simp only at hlt
      obtain rfl : k = bs.length := by omega
      simp only [Nat.sub_self, List.replicate_zero, List.drop_zero, List.nil_append] at o4 hst ⊢
      refine ⟨fun hp => no _ k4 fun h => absurd h.2.2 (by omega), fun hp => ?_⟩
      have hD2 : DigD n bs := ⟨hN, hB, by omega⟩
      rw [show digL n bs = _ from if_pos hD2, show digC n bs = _ from if_pos hD2]
      exact ⟨_, rfl, o4, k4⟩)
theorem digL_len (n : Int) (bs : List Int) : (digL n bs).length ≤ 1000 := by
  unfold digL
  split
  · rename_i h
    rw [dgs_length]
    have := h.2.1.1
    omega
  · simp
end Go.Proofs
