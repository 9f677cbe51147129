/- Contracts of the laws' own helpers on lists of numbers: the copy, the comparison, the mark and what is held. No condition. -/
import Derived.Test.YtjcggcefmpaieaaDoorMem
set_option linter.unusedVariables false
namespace Go.Proofs
open Go.Sx Go.RowKit

theorem take_snoc {α : Type} (xs : List α) (k : Nat) (h : k < xs.length) : xs.take (k + 1) = xs.take k ++ [xs[k]] := by
  rw [List.take_succ_eq_append_getElem h]

def laws_toInt64S_A (v : Value) (zs : List Int) (w : World) : Nat → Ann := fun κ => match κ with
  | 0 => { σ := Nat × Value, sli := [4, 3], slc := fun s => [SV.v (Value.int .i64 (s.1 : Int)), SV.v s.2], bxi := [], bxc := fun s => [], inv := fun s W => s.1 ≤ zs.length ∧ Ext w W ∧ Own w.heap.size W 2 s.2 (ints (zs.take s.1) ++ List.replicate (zs.length - s.1) (Value.int .i64 0)), μ := fun s W => zs.length - s.1 }
  | _ => { σ := Unit, sli := [], slc := fun _ => [], bxi := [], bxc := fun _ => [], inv := fun _ _ => False, μ := fun _ _ => 0 }
def laws_toInt64S_vc (v : Value) (zs : List Int) (w : World) (Post : Value → World → Prop) : Prop :=
  LenV v (fun n1 => n1 = n1 ∧ 0 ≤ n1 ∧ n1 ≤ 4398046511104 ∧ ∀ (v2 : Value) (w3 : World), Sx.Own w.heap.size w3 2 v2 (List.replicate n1.toNat (Value.int .i64 0)) → Ext w w3 → ((∃ s4 : (Nat × Value), (Value.int .i64 0) = (Value.int .i64 (s4.1 : Int)) ∧ v2 = s4.2 ∧ (s4.1 ≤ zs.length ∧ Ext w w3 ∧ Own w.heap.size w3 2 s4.2 (ints (zs.take s4.1) ++ List.replicate (zs.length - s4.1) (Value.int .i64 0)))) ∧ ∀ (s5 : (Nat × Value)) (w6 : World), (s5.1 ≤ zs.length ∧ Ext w w6 ∧ Own w.heap.size w6 2 s5.2 (ints (zs.take s5.1) ++ List.replicate (zs.length - s5.1) (Value.int .i64 0))) → LenV v (fun n7 => ((((s5.1 : Int) < n7) → IxV 1 v (s5.1 : Int) (fun ad8 => ∃ n9 : Int, LdV w6 (Value.pointer (some ad8)) (Value.int .i64 n9) ∧ IxV 1 s5.2 (s5.1 : Int) (fun ad10 => StV w.heap.size [] w6 (Value.pointer (some ad10)) (Value.int .i64 n9) (fun w11 => I64 ((s5.1 : Int) + 1) ∧ ∃ s12 : (Nat × Value), (Value.int .i64 ((s5.1 : Int) + 1)) = (Value.int .i64 (s12.1 : Int)) ∧ s5.2 = s12.2 ∧ (s12.1 ≤ zs.length ∧ Ext w w11 ∧ Own w.heap.size w11 2 s12.2 (ints (zs.take s12.1) ++ List.replicate (zs.length - s12.1) (Value.int .i64 0))) ∧ (zs.length - s12.1) < (zs.length - s5.1))))) ∧ (¬ ((s5.1 : Int) < n7) → Post s5.2 w6)))))
theorem laws_toInt64S_eq (v : Value) (zs : List Int) (w : World) (Post : Value → World → Prop) : denF Tryd.prog [] (laws_toInt64S_A v zs w) 24 [v] w Post = laws_toInt64S_vc v zs w Post := by kernel_rfl
set_option maxRecDepth 100000 in
theorem laws_toInt64S_calls (v : Value) (zs : List Int) (w : World) (Post : Value → World → Prop) (hvc : laws_toInt64S_vc v zs w Post) : Ret Tryd.prog 24 #[v] w Post :=
  Ret.of (denF_sound mixed (Eq.mpr (laws_toInt64S_eq v zs w Post) hvc))


theorem fill_step (zs : List Int) (k : Nat) (hk : k < zs.length) : (ints (zs.take k) ++ List.replicate (zs.length - k) (Value.int .i64 0)).set k (Value.int .i64 zs[k]) = ints (zs.take (k + 1)) ++ List.replicate (zs.length - (k + 1)) (Value.int .i64 0) := by
  rw [List.set_append_right _ _ (by simp; omega), take_snoc zs k hk, ints_append, List.append_assoc]
  congr 1
  have : (k - (ints (zs.take k)).length) = 0 := by simp; omega
  rw [this]
  rw [show zs.length - k = (zs.length - (k + 1)) + 1 by omega, List.replicate_succ]
  rfl

theorem laws_toInt64S_ret (v : Value) (zs : List Int) (w : World) (h : RI w v zs) (hl : zs.length ≤ 4398046511104) :
    Ret Tryd.prog 24 #[v] w fun u w' => Own w.heap.size w' 2 u (ints zs) ∧ Ext w w' :=
  laws_toInt64S_calls v zs w _ (by
    unfold laws_toInt64S_vc
    refine h.len ⟨rfl, by omega, by omega, ?_⟩
    intro u w1 ho h1
    rw [Int.toNat_natCast] at ho
    refine ⟨⟨(0, u), rfl, rfl, Nat.zero_le _, h1, by simpa [ints] using ho⟩, ?_⟩
    rintro ⟨k, u⟩ w2 ⟨hk, h2, ho⟩
    simp only at hk ho
    refine (h.ext h2).len ⟨fun hlt => ?_, fun hge => ?_⟩
    · have hlt' : k < zs.length := by omega
      refine (h.ext h2).get k rfl hlt' ?_
      refine ho.setAt k rfl (by simp; omega) rfl (by simp) fun w3 ho3 hg3 => ?_
      refine ⟨by unfold I64; omega, (k + 1, u), rfl, rfl, ⟨hlt', h2.grown ho (Nat.le_refl _) hg3, ?_⟩, by simp only; omega⟩
      rw [fill_step zs k hlt'] at ho3
      exact ho3
    · have : k = zs.length := by omega
      subst this
      refine ⟨?_, h2⟩
      simpa using ho)

def laws_eqInt64S_A (a : Value) (b : Value) (xs ys : List Int) (w : World) : Nat → Ann := fun κ => match κ with
  | 0 => { σ := Nat, sli := [5], slc := fun s => [SV.v (Value.int .i64 (s : Int))], bxi := [], bxc := fun s => [], inv := fun s W => s ≤ xs.length ∧ Ext w W ∧ xs.take s = ys.take s, μ := fun s W => xs.length - s }
  | _ => { σ := Unit, sli := [], slc := fun _ => [], bxi := [], bxc := fun _ => [], inv := fun _ _ => False, μ := fun _ _ => 0 }
def laws_eqInt64S_vc (a : Value) (b : Value) (xs ys : List Int) (w : World) (Post : Value → World → Prop) : Prop :=
  LenV a (fun n1 => LenV b (fun n2 => (((n1 ≠ n2) → Post (Value.bool false) w) ∧ (¬ (n1 ≠ n2) → ((∃ s3 : Nat, (Value.int .i64 0) = (Value.int .i64 (s3 : Int)) ∧ (s3 ≤ xs.length ∧ Ext w w ∧ xs.take s3 = ys.take s3)) ∧ ∀ (s4 : Nat) (w5 : World), (s4 ≤ xs.length ∧ Ext w w5 ∧ xs.take s4 = ys.take s4) → LenV a (fun n6 => ((((s4 : Int) < n6) → IxV 1 a (s4 : Int) (fun ad7 => ∃ n8 : Int, LdV w5 (Value.pointer (some ad7)) (Value.int .i64 n8) ∧ IxV 1 b (s4 : Int) (fun ad9 => ∃ n10 : Int, LdV w5 (Value.pointer (some ad9)) (Value.int .i64 n10) ∧ ∀ w11 : World, Ext w5 w11 → (((n8 ≠ n10) → Post (Value.bool false) w11) ∧ (¬ (n8 ≠ n10) → I64 ((s4 : Int) + 1) ∧ ∃ s12 : Nat, (Value.int .i64 ((s4 : Int) + 1)) = (Value.int .i64 (s12 : Int)) ∧ (s12 ≤ xs.length ∧ Ext w w11 ∧ xs.take s12 = ys.take s12) ∧ (xs.length - s12) < (xs.length - s4)))))) ∧ (¬ ((s4 : Int) < n6) → Post (Value.bool true) w5))))))))
theorem laws_eqInt64S_eq (a : Value) (b : Value) (xs ys : List Int) (w : World) (Post : Value → World → Prop) : denF Tryd.prog [] (laws_eqInt64S_A a b xs ys w) 25 [a, b] w Post = laws_eqInt64S_vc a b xs ys w Post := by kernel_rfl
set_option maxRecDepth 100000 in
theorem laws_eqInt64S_calls (a : Value) (b : Value) (xs ys : List Int) (w : World) (Post : Value → World → Prop) (hvc : laws_eqInt64S_vc a b xs ys w Post) : Ret Tryd.prog 25 #[a, b] w Post :=
  Ret.of (denF_sound mixed (Eq.mpr (laws_eqInt64S_eq a b xs ys w Post) hvc))

theorem laws_eqInt64S_val (a b : Value) (xs ys : List Int) (w : World) (ha : RI w a xs) (hb : RI w b ys) :
    Val Tryd.prog 25 #[a, b] w (.bool (decide (xs = ys))) :=
  Ret.val (laws_eqInt64S_calls a b xs ys w _ (by
    unfold laws_eqInt64S_vc
    have hbd := ha.bound
    refine ha.len (hb.len ⟨fun hne => ⟨?_, .refl w⟩, fun heq => ?_⟩)
    · have : xs ≠ ys := fun e => hne (by rw [e])
      simp [this]
    · have hll : xs.length = ys.length := by omega
      refine ⟨⟨0, rfl, Nat.zero_le _, .refl w, by simp⟩, ?_⟩
      rintro k w1 ⟨hk, h1, hpre⟩
      refine (ha.ext h1).len ⟨fun hlt => ?_, fun hge => ?_⟩
      · have hlt' : k < xs.length := by omega
        refine (ha.ext h1).get k rfl hlt' ((hb.ext h1).get k rfl (by omega) ?_)
        intro w2 h2
        refine ⟨fun hne => ⟨?_, h1.trans h2⟩, fun heq => ⟨by unfold I64; omega, k + 1, rfl, ⟨hlt', h1.trans h2, ?_⟩, by omega⟩⟩
        · have : xs ≠ ys := by
            rintro rfl
            exact hne rfl
          simp [this]
        · have e : xs[k] = ys[k] := by
            have : ¬ (xs[k] ≠ ys[k]) := heq
            exact Classical.not_not.1 this
          rw [take_snoc xs k hlt', take_snoc ys k (by omega), hpre, e]
      · have hkl : k = xs.length := by omega
        refine ⟨?_, h1⟩
        have : xs = ys := by
          rw [hkl] at hpre
          rw [List.take_of_length_le (Nat.le_refl _), List.take_of_length_le (by omega)] at hpre
          exact hpre
        simp [this]))

/-- the numbers k, k + 1, .. -/
def upFrom (k : Int) (n : Nat) : List Int := (List.range n).map fun (i : Nat) => k + (i : Int)
@[simp] theorem upFrom_length (k : Int) (n : Nat) : (upFrom k n).length = n := by simp [upFrom]
theorem upFrom_get (k : Int) (n i : Nat) (h : i < (upFrom k n).length) : (upFrom k n)[i] = k + i := by simp [upFrom]
theorem upFrom_succ (k : Int) (n : Nat) : upFrom k (n + 1) = upFrom k n ++ [k + n] := by simp [upFrom, List.range_succ]

def laws_markInt64S_A (v : Value) (k : Int) (B : Nat) (xs : List Value) (w : World) : Nat → Ann := fun κ => match κ with
  | 0 => { σ := Nat, sli := [5, 1], slc := fun s => [SV.v (Value.int .i64 (s : Int)), SV.v (Value.int .i64 (k + (s : Int)))], bxi := [], bxc := fun s => [], inv := fun s W => s ≤ xs.length ∧ w.grownBy W v.ownBlock ∧ Own B W 2 v (ints (upFrom k s) ++ xs.drop s), μ := fun s W => xs.length - s }
  | _ => { σ := Unit, sli := [], slc := fun _ => [], bxi := [], bxc := fun _ => [], inv := fun _ _ => False, μ := fun _ _ => 0 }
def laws_markInt64S_vc (v : Value) (k : Int) (B : Nat) (xs : List Value) (w : World) (Post : Value → World → Prop) : Prop :=
  ((∃ s1 : Nat, (Value.int .i64 0) = (Value.int .i64 (s1 : Int)) ∧ (Value.int .i64 k) = (Value.int .i64 (k + (s1 : Int))) ∧ (s1 ≤ xs.length ∧ w.grownBy w v.ownBlock ∧ Own B w 2 v (ints (upFrom k s1) ++ xs.drop s1))) ∧ ∀ (s2 : Nat) (w3 : World), (s2 ≤ xs.length ∧ w.grownBy w3 v.ownBlock ∧ Own B w3 2 v (ints (upFrom k s2) ++ xs.drop s2)) → LenV v (fun n4 => ((((s2 : Int) < n4) → IxV 1 v (s2 : Int) (fun ad5 => StV w.heap.size [] w3 (Value.pointer (some ad5)) (Value.int .i64 (k + (s2 : Int))) (fun w6 => I64 ((k + (s2 : Int)) + 1) ∧ I64 ((s2 : Int) + 1) ∧ ∃ s7 : Nat, (Value.int .i64 ((s2 : Int) + 1)) = (Value.int .i64 (s7 : Int)) ∧ (Value.int .i64 ((k + (s2 : Int)) + 1)) = (Value.int .i64 (k + (s7 : Int))) ∧ (s7 ≤ xs.length ∧ w.grownBy w6 v.ownBlock ∧ Own B w6 2 v (ints (upFrom k s7) ++ xs.drop s7)) ∧ (xs.length - s7) < (xs.length - s2)))) ∧ (¬ ((s2 : Int) < n4) → Post (Value.int .i64 (k + (s2 : Int))) w3))))
theorem laws_markInt64S_eq (v : Value) (k : Int) (B : Nat) (xs : List Value) (w : World) (Post : Value → World → Prop) : denF Tryd.prog [] (laws_markInt64S_A v k B xs w) 36 [v, (Value.int .i64 k)] w Post = laws_markInt64S_vc v k B xs w Post := by kernel_rfl
set_option maxRecDepth 100000 in
theorem laws_markInt64S_calls (v : Value) (k : Int) (B : Nat) (xs : List Value) (w : World) (Post : Value → World → Prop) (hvc : laws_markInt64S_vc v k B xs w Post) : Ret Tryd.prog 36 #[v, (Value.int .i64 k)] w Post :=
  Ret.of (denF_sound mixed (Eq.mpr (laws_markInt64S_eq v k B xs w Post) hvc))

theorem laws_markInt64S_ret (v : Value) (k : Int) (B : Nat) (xs : List Value) (w : World) (h : Own B w 2 v xs) (hk0 : 0 ≤ k) (hk : k + xs.length ≤ 1000000000000000) :
    Ret Tryd.prog 36 #[v, .int .i64 k] w fun r w' => r = .int .i64 (k + xs.length) ∧ Own B w' 2 v (ints (upFrom k xs.length)) ∧ w.grownBy w' v.ownBlock :=
  laws_markInt64S_calls v k B xs w _ (by
    unfold laws_markInt64S_vc
    refine ⟨⟨0, rfl, ieq (by simp), Nat.zero_le _, World.grownBy.refl w _, by simpa [upFrom, ints] using h⟩, ?_⟩
    rintro s w1 ⟨hs, hg, ho⟩
    have hlen : (ints (upFrom k s) ++ xs.drop s).length = xs.length := by simp; omega
    refine ho.rd.len ⟨fun hlt => ?_, fun hge => ?_⟩
    · rw [hlen] at hlt
      have hlt' : s < xs.length := by omega
      refine ho.setAt s rfl (by omega) rfl (by simp) fun w2 ho2 hg2 => ?_
      refine ⟨by unfold I64; omega, by unfold I64; omega, s + 1, rfl, ieq (by omega), ⟨hlt', hg.trans hg2, ?_⟩, by omega⟩
      have e : (ints (upFrom k s) ++ xs.drop s).set s (Value.int .i64 (k + s)) = ints (upFrom k (s + 1)) ++ xs.drop (s + 1) := by
        rw [List.set_append_right _ _ (by simp), upFrom_succ, ints_append, List.append_assoc]
        congr 1
        have e0 : s - (ints (upFrom k s)).length = 0 := by simp
        rw [List.drop_eq_getElem_cons hlt', e0]
        rfl
      rw [e] at ho2
      exact ho2
    · rw [hlen] at hge
      have : s = xs.length := by omega
      subst this
      exact ⟨rfl, by simpa using ho, hg⟩)

def laws_heldInt64S_A (v : Value) (k : Int) (n : Nat) (w : World) : Nat → Ann := fun κ => match κ with
  | 0 => { σ := Nat, sli := [5, 1], slc := fun s => [SV.v (Value.int .i64 (s : Int)), SV.v (Value.int .i64 (k + (s : Int)))], bxi := [], bxc := fun s => [], inv := fun s W => s ≤ n ∧ Ext w W, μ := fun s W => n - s }
  | _ => { σ := Unit, sli := [], slc := fun _ => [], bxi := [], bxc := fun _ => [], inv := fun _ _ => False, μ := fun _ _ => 0 }
def laws_heldInt64S_vc (v : Value) (k : Int) (n : Nat) (w : World) (Post : Value → World → Prop) : Prop :=
  ((∃ s1 : Nat, (Value.int .i64 0) = (Value.int .i64 (s1 : Int)) ∧ (Value.int .i64 k) = (Value.int .i64 (k + (s1 : Int))) ∧ (s1 ≤ n ∧ Ext w w)) ∧ ∀ (s2 : Nat) (w3 : World), (s2 ≤ n ∧ Ext w w3) → LenV v (fun n4 => ((((s2 : Int) < n4) → IxV 1 v (s2 : Int) (fun ad5 => ∃ n6 : Int, LdV w3 (Value.pointer (some ad5)) (Value.int .i64 n6) ∧ (((n6 ≠ (k + (s2 : Int))) → Post (Value.int .i64 (-1)) w3) ∧ (¬ (n6 ≠ (k + (s2 : Int))) → I64 ((k + (s2 : Int)) + 1) ∧ I64 ((s2 : Int) + 1) ∧ ∃ s7 : Nat, (Value.int .i64 ((s2 : Int) + 1)) = (Value.int .i64 (s7 : Int)) ∧ (Value.int .i64 ((k + (s2 : Int)) + 1)) = (Value.int .i64 (k + (s7 : Int))) ∧ (s7 ≤ n ∧ Ext w w3) ∧ (n - s7) < (n - s2))))) ∧ (¬ ((s2 : Int) < n4) → Post (Value.int .i64 (k + (s2 : Int))) w3))))
theorem laws_heldInt64S_eq (v : Value) (k : Int) (n : Nat) (w : World) (Post : Value → World → Prop) : denF Tryd.prog [] (laws_heldInt64S_A v k n w) 37 [v, (Value.int .i64 k)] w Post = laws_heldInt64S_vc v k n w Post := by kernel_rfl
set_option maxRecDepth 100000 in
theorem laws_heldInt64S_calls (v : Value) (k : Int) (n : Nat) (w : World) (Post : Value → World → Prop) (hvc : laws_heldInt64S_vc v k n w Post) : Ret Tryd.prog 37 #[v, (Value.int .i64 k)] w Post :=
  Ret.of (denF_sound mixed (Eq.mpr (laws_heldInt64S_eq v k n w Post) hvc))

theorem laws_heldInt64S_val (v : Value) (k : Int) (n : Nat) (w : World) (h : RI w v (upFrom k n)) (hk0 : 0 ≤ k) (hk : k + n ≤ 1000000000000000) :
    Val Tryd.prog 37 #[v, .int .i64 k] w (.int .i64 (k + n)) :=
  Ret.val (laws_heldInt64S_calls v k n w _ (by
    unfold laws_heldInt64S_vc
    refine ⟨⟨0, rfl, ieq (by simp), Nat.zero_le _, .refl w⟩, ?_⟩
    rintro s w1 ⟨hs, h1⟩
    refine (h.ext h1).len ⟨fun hlt => ?_, fun hge => ?_⟩
    · rw [upFrom_length] at hlt
      have hlt' : s < n := by omega
      refine (h.ext h1).get s rfl (by simpa using hlt') ?_
      rw [upFrom_get]
      refine ⟨fun hne => absurd rfl hne, fun _ => ?_⟩
      exact ⟨by unfold I64; omega, by unfold I64; omega, s + 1, rfl, ieq (by omega), ⟨hlt', h1⟩, by omega⟩
    · rw [upFrom_length] at hge
      have : s = n := by omega
      subst this
      exact ⟨rfl, h1⟩))
end Go.Proofs
