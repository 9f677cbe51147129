/- Marking a slice of rows: rows of the call's own in an interval of blocks. No condition. -/
import Derived.Test.YtjcggcefmpaieaaDoorL04a
import Derived.Test.YtjcggcefmpaieaaDoorVis
set_option linter.unusedVariables false
namespace Go.Sx
open Go Go.RowKit
theorem keeps_refl (n0 : Nat) (Ts : List TypeId) (w : World) : Keeps n0 Ts w w := ⟨Nat.le_refl _, fun k cs T fz _ _ h => h⟩
theorem keeps_trans {n0 : Nat} {Ts : List TypeId} {w w' w'' : World} (h : Keeps n0 Ts w w') (k : Keeps n0 Ts w' w'') : Keeps n0 Ts w w'' :=
  ⟨Nat.le_trans h.1 k.1, fun b cs T fz hT hb hh => k.2 b cs T fz hT hb (h.2 b cs T fz hT hb hh)⟩
/-- rows of the call's own, in the blocks from B to N -/
def OwnI (B N : Nat) (w : World) (e : TypeId) (v : Value) (xs : List Value) : Prop := Own B w e v xs ∧ ∀ g, v.ownBlock = some g → g < N
section
variable {B N : Nat} {w w' : World} {e : TypeId} {v : Value} {xs : List Value}
theorem Own.i (h : Own B w e v xs) : OwnI B w.heap.size w e v xs := ⟨h, fun g hg => (h.lt hg).2⟩
theorem OwnI.pres (h : OwnI B N w e v xs) {K : Nat → Prop} (p : Pres K w w') (hK : ∀ b, B ≤ b → b < N → K b) : OwnI B N w' e v xs :=
  ⟨h.1.keep fun k hk => p.block k (h.1.lt hk).2 (hK k (h.1.lt hk).1 (h.2 k hk)), h.2⟩
theorem OwnI.ext (h : OwnI B N w e v xs) (x : Ext w w') : OwnI B N w' e v xs := ⟨h.1.ext x, h.2⟩
theorem OwnI.bxs (h : OwnI B N w e v xs) {n0 : Nat} {T : TypeId} (x : BxS n0 T w w') (hT : e ≠ T) : OwnI B N w' e v xs := ⟨h.1.bxs x hT, h.2⟩
theorem OwnI.mono (h : OwnI B N w e v xs) {N' : Nat} (hN : N ≤ N') : OwnI B N' w e v xs := ⟨h.1, fun g hg => Nat.lt_of_lt_of_le (h.2 g hg) hN⟩
end
/-- only rows of integers between the blocks B and N have turned -/
def Marked (I : TypeId) (B N : Nat) (w w' : World) : Prop := Pres (fun b => ¬ (B ≤ b ∧ b < N)) w w' ∧ ∀ n0 Ts, I ∉ Ts → Keeps n0 Ts w w'
section
variable {I : TypeId} {B N : Nat} {w w' w'' : World}
theorem Marked.refl (I : TypeId) (B N : Nat) (w : World) : Marked I B N w w := ⟨.refl _ w, fun n0 Ts _ => keeps_refl n0 Ts w⟩
theorem Marked.trans (h : Marked I B N w w') (k : Marked I B N w' w'') : Marked I B N w w'' := ⟨h.1.trans k.1, fun n0 Ts hT => keeps_trans (h.2 n0 Ts hT) (k.2 n0 Ts hT)⟩
theorem Ext.marked (h : Ext w w') : Marked I B N w w' := ⟨h.pres _, fun n0 Ts _ => h.keeps⟩
theorem Marked.ext (h : Marked I B N w w') {w0 : World} (x : Ext w0 w) (hB : w0.heap.size ≤ B) : Ext w0 w' := h.1.ext x fun b hb => by omega
theorem Marked.size (h : Marked I B N w w') : w.heap.size ≤ w'.heap.size := h.1.size
end
theorem OwnI.marked {B N : Nat} {w w' : World} {I : TypeId} {v : Value} {xs : List Value} (h : OwnI B N w I v xs) (g : w.grownBy w' v.ownBlock) : Marked I B N w w' :=
  ⟨grown_pres g fun b hb hK => hK ⟨(h.1.lt hb).1, h.2 b hb⟩, fun n0 Ts hT => h.1.keepsG g hT⟩
theorem OwnI.rest {B N B' N' : Nat} {w w' : World} {I e : TypeId} {v : Value} {xs : List Value} (h : OwnI B N w e v xs) (m : Marked I B' N' w w') (hd : N ≤ B' ∨ N' ≤ B) : OwnI B N w' e v xs :=
  h.pres m.1 fun b h1 h2 h3 => by omega
end Go.Sx
namespace Go.Proofs
open Go.Sx Go.RowKit
/-- a slice of rows of the call's own, all in the blocks from B to N -/
def OwnM (B N : Nat) (w : World) (v : Value) (zss : List (List Int)) : Prop :=
  ∃ us, OwnI B N w 24 v us ∧ Rows (fun u z => OwnI B N w 2 u (ints z)) us zss ∧ us.Pairwise Apart
section
variable {B N : Nat} {w w' : World} {v : Value} {zss : List (List Int)}
theorem OwnR.m (h : OwnR B w v zss) : OwnM B w.heap.size w v zss := let ⟨us, h1, h2, h3⟩ := h; ⟨us, h1.i, h2.map fun u z hr => hr.i, h3⟩
theorem OwnM.rr (h : OwnM B N w v zss) : RR w v zss := let ⟨us, h1, h2, _⟩ := h; ⟨us, h1.1.rd, h2.map fun u z hr => hr.1.rd⟩
theorem OwnM.ext (h : OwnM B N w v zss) (e : Ext w w') : OwnM B N w' v zss := let ⟨us, h1, h2, h3⟩ := h; ⟨us, h1.ext e, h2.map fun u z hr => hr.ext e, h3⟩
theorem OwnM.bxs (h : OwnM B N w v zss) {n0 : Nat} {T : TypeId} (x : BxS n0 T w w') (hT : 24 ≠ T) (hT' : 2 ≠ T) : OwnM B N w' v zss := let ⟨us, h1, h2, h3⟩ := h; ⟨us, h1.bxs x hT, h2.map fun u z hr => hr.bxs x hT', h3⟩
theorem OwnM.rest (h : OwnM B N w v zss) {I : TypeId} {B' N' : Nat} (m : Marked I B' N' w w') (hd : N ≤ B' ∨ N' ≤ B) : OwnM B N w' v zss := let ⟨us, h1, h2, h3⟩ := h; ⟨us, h1.rest m hd, h2.map fun u z hr => hr.rest m hd, h3⟩
end
def total (zss : List (List Int)) : Nat := (zss.map List.length).sum
theorem total_max {zss : List (List Int)} {n : Nat} (h : ∀ z ∈ zss, z.length ≤ n) : total zss ≤ zss.length * n := by
  induction zss with
  | nil => simp [total]
  | cons z zss ih =>
    have h1 := h z (by simp)
    have h2 := ih fun z hz => h z (by simp [hz])
    simp only [total, List.map_cons, List.sum_cons, List.length_cons, Nat.succ_mul] at h2 ⊢
    omega
theorem OwnR.nil_ (B : Nat) (w : World) : OwnR B w (.slice none 0 0) [] := ⟨[], Own.nil_ _ _ _, Rows.nil_, .nil⟩
def marks (k : Int) : List (List Int) → List (List Int)
  | [] => []
  | z :: zss => upFrom k z.length :: marks (k + z.length) zss
theorem marks_length (k : Int) (zss : List (List Int)) : (marks k zss).length = zss.length := by
  induction zss generalizing k with
  | nil => rfl
  | cons z zss ih => simp [marks, ih]
theorem total_snoc (zss : List (List Int)) (k : Nat) (hk : k < zss.length) : total (zss.take (k + 1)) = total (zss.take k) + zss[k].length := by
  unfold total
  rw [take_snoc zss k hk, List.map_append, List.sum_append]
  simp
theorem total_le {zss : List (List Int)} (k : Nat) : total (zss.take k) ≤ total zss := by
  conv => rhs; rw [← List.take_append_drop k zss]
  unfold total
  rw [List.map_append, List.sum_append]
  omega
theorem marks_get (n : Int) (zss : List (List Int)) (k : Nat) (hk : k < zss.length) : (marks n zss)[k]'(by rw [marks_length]; exact hk) = upFrom (n + total (zss.take k)) zss[k].length := by
  induction zss generalizing n k with
  | nil => simp at hk
  | cons z zss ih =>
    cases k with
    | zero => simp [marks, total]
    | succ k =>
      simp only [marks, List.getElem_cons_succ, List.take_succ_cons]
      rw [ih (n + z.length) k (by simpa using hk)]
      congr 1
      simp only [total, List.map_cons, List.sum_cons]
      omega
/-- the first rows marked, the others not -/
def part (n : Int) (zss : List (List Int)) (k : Nat) : List (List Int) := (marks n zss).take k ++ zss.drop k
theorem part_length (n : Int) (zss : List (List Int)) (k : Nat) : (part n zss k).length = zss.length := by simp [part, marks_length]; omega
theorem part_at {n : Int} {zss : List (List Int)} {k : Nat} (i : Nat) (hi : i < zss.length) : (part n zss k)[i]? = if i < k then some (upFrom (n + total (zss.take i)) zss[i].length) else some zss[i] := by
  unfold part
  by_cases h : i < k
  · rw [if_pos h, List.getElem?_append_left (by rw [List.length_take, marks_length]; omega), List.getElem?_take_of_lt h, List.getElem?_eq_getElem (by rw [marks_length]; exact hi), marks_get n zss i hi]
  · rw [if_neg h, List.getElem?_append_right (by rw [List.length_take]; omega), List.getElem?_drop, List.length_take, marks_length]
    rw [show k + (i - min k zss.length) = i by omega, List.getElem?_eq_getElem hi]
theorem pair_get {us : List Value} (h : us.Pairwise Apart) {i j : Nat} (hi : i < us.length) (hj : j < us.length) (hne : i ≠ j) : Apart us[i] us[j] := by
  rcases Nat.lt_or_ge i j with h1 | h1
  · exact List.pairwise_iff_getElem.1 h i j hi hj h1
  · exact (List.pairwise_iff_getElem.1 h j i hj hi (by omega)).symm
def laws_markInt64SS_A (v : Value) (n : Int) (w : World) : Nat → Ann := fun κ => match κ with
  | 0 => { σ := Nat × Int, sli := [5, 1], slc := fun s => [SV.v (Value.int .i64 (s.1 : Int)), SV.v (Value.int .i64 s.2)], bxi := [], bxc := fun s => [], inv := fun s W => True, μ := fun s W => 0, free := true }
  | _ => { σ := Unit, sli := [], slc := fun _ => [], bxi := [], bxc := fun _ => [], inv := fun _ _ => False, μ := fun _ _ => 0 }
abbrev laws_markInt64SS_k0 (v : Value) (w : World) (s2 : Nat × Int) (w3 : World) (J4 : (Nat × Int) → World → Prop) (m5 : (Nat × Int) → World → Nat) (x7 : Int) (x8 : Int) (w12 : World) : Prop :=
  IxV 1 v x8 (fun ad13 => ∃ u14 : Value, LdV w12 (Value.pointer (some ad13)) u14 ∧ Calls Tryd.prog 36 #[u14, (Value.int .i64 x7)] w12 (fun e15 w16 => ∃ n17 : Int, e15 = .returned (Value.int .i64 n17) ∧ Keeps w.heap.size [] w12 w16 ∧ I64 (x8 + 1) ∧ ∃ s18 : (Nat × Int), (Value.int .i64 (x8 + 1)) = (Value.int .i64 (s18.1 : Int)) ∧ (Value.int .i64 n17) = (Value.int .i64 s18.2) ∧ (J4 s18 w16) ∧ (m5 s18 w16) < (m5 s2 w3)))
def laws_markInt64SS_vc (v : Value) (n : Int) (w : World) (Post : Value → World → Prop) : Prop :=
  (∃ (J4 : (Nat × Int) → World → Prop) (m5 : (Nat × Int) → World → Nat), ((∃ s1 : (Nat × Int), (Value.int .i64 0) = (Value.int .i64 (s1.1 : Int)) ∧ (Value.int .i64 n) = (Value.int .i64 s1.2) ∧ (J4 s1 w)) ∧ ∀ (s2 : (Nat × Int)) (w3 : World), (J4 s2 w3) → LenV v (fun n6 => ((((s2.1 : Int) < n6) → (laws_markInt64SS_k0 v w s2 w3 J4 m5 s2.2 (s2.1 : Int) w3)) ∧ (¬ ((s2.1 : Int) < n6) → Post (Value.int .i64 s2.2) w3)))))
theorem laws_markInt64SS_eq (v : Value) (n : Int) (w : World) (Post : Value → World → Prop) : denF Tryd.prog [] (laws_markInt64SS_A v n w) 55 [v, (Value.int .i64 n)] w Post = laws_markInt64SS_vc v n w Post := by kernel_rfl
set_option maxRecDepth 100000 in
theorem laws_markInt64SS_calls (v : Value) (n : Int) (w : World) (Post : Value → World → Prop) (hvc : laws_markInt64SS_vc v n w Post) : Ret Tryd.prog 55 #[v, (Value.int .i64 n)] w Post :=
  Ret.of (denF_sound mixed (Eq.mpr (laws_markInt64SS_eq v n w Post) hvc))

theorem laws_markInt64SS_ret (v : Value) (n : Int) (B N : Nat) (zss : List (List Int)) (w : World) (h : OwnM B N w v zss) (hn0 : 0 ≤ n) (hn : n + total zss ≤ 1000000000000000) :
    Ret Tryd.prog 55 #[v, .int .i64 n] w fun r w' => r = .int .i64 (n + total zss) ∧ OwnM B N w' v (marks n zss) ∧ Marked 2 B N w w' :=
  laws_markInt64SS_calls v n w _ (by
    unfold laws_markInt64SS_vc
    obtain ⟨us, hv, hrows, hpw⟩ := h
    have hlen : us.length = zss.length := hrows.1
    have hbd := hv.1.rd.bound
    refine ⟨fun s W => s.1 ≤ zss.length ∧ s.2 = n + total (zss.take s.1) ∧ Marked 2 B N w W ∧ OwnI B N W 24 v us ∧ Rows (fun u z => OwnI B N W 2 u (ints z)) us (part n zss s.1), fun s _ => zss.length - s.1, ⟨(0, n), rfl, rfl, Nat.zero_le _, by simp [total], .refl _ _ _ w, hv, by simpa [part] using hrows⟩, ?_⟩
    rintro ⟨k, x⟩ w1 ⟨hk, hx, m1, hv1, hr1⟩
    simp only at hk hx hr1
    subst hx
    refine hv1.1.rd.len ⟨fun hlt => ?_, fun hge => ?_⟩
    · have hlt' : k < zss.length := by simp only at hlt; omega
      have hku : k < us.length := by omega
      refine hv1.1.rd.ix k rfl hku fun ad had => ⟨us[k], had, ?_⟩
      have hp := part_at (n := n) (zss := zss) (k := k) k hlt'
      rw [if_neg (by omega)] at hp
      have ho := hr1.2 k us[k] zss[k] (List.getElem?_eq_getElem hku) hp
      have htl := total_le (zss := zss) (k + 1)
      have hts := total_snoc zss k hlt'
      refine (laws_markInt64S_ret us[k] (n + total (zss.take k)) B _ w1 ho.1 (by omega) (by rw [ints_length]; omega)).call ?_
      rintro _ w2 ⟨rfl, o2, g2⟩
      rw [ints_length] at o2 ⊢
      have m2 := ho.marked g2
      refine ⟨_, rfl, m2.2 _ _ (by simp), by unfold I64; simp only; omega, (k + 1, n + total (zss.take (k + 1))), rfl, ieq (by simp only; omega), ⟨hlt', rfl, m1.trans m2, ⟨hv1.1.grown g2 (Apart.types hv1.1 ho.1 (by decide)), hv1.2⟩, ?_⟩, by simp only; omega⟩
      refine ⟨by rw [hr1.1, part_length, part_length], fun i u z hu hz => ?_⟩
      obtain ⟨hil, rfl⟩ := List.getElem?_eq_some_iff.1 hu
      have hiz : i < zss.length := by omega
      simp only at hz
      rw [part_at i hiz] at hz
      by_cases hik : i = k
      · subst hik
        rw [if_pos (by omega)] at hz
        injection hz with hz
        subst hz
        exact ⟨o2, ho.2⟩
      · have hz' : (part n zss k)[i]? = some z := by
          rw [part_at i hiz, ← hz]
          by_cases h1 : i < k
          · rw [if_pos h1, if_pos (by omega)]
          · rw [if_neg h1, if_neg (by omega)]
        have h9 := hr1.2 i us[i] z hu hz'
        exact ⟨h9.1.grown g2 (pair_get hpw hil hku hik), h9.2⟩
    · have : k = zss.length := by simp only at hge; omega
      subst this
      refine ⟨by rw [List.take_length], ⟨us, hv1, ?_, hpw⟩, m1⟩
      have e : part n zss zss.length = marks n zss := by
        unfold part
        rw [List.drop_length, List.append_nil, List.take_of_length_le (by rw [marks_length]; exact Nat.le_refl _)]
      rw [e] at hr1
      exact hr1)
def laws_heldInt64SS_A (v : Value) (n : Int) (w : World) : Nat → Ann := fun κ => match κ with
  | 0 => { σ := Nat × Int, sli := [5, 1], slc := fun s => [SV.v (Value.int .i64 (s.1 : Int)), SV.v (Value.int .i64 s.2)], bxi := [], bxc := fun s => [], inv := fun s W => True, μ := fun s W => 0, free := true }
  | _ => { σ := Unit, sli := [], slc := fun _ => [], bxi := [], bxc := fun _ => [], inv := fun _ _ => False, μ := fun _ _ => 0 }
abbrev laws_heldInt64SS_k0 (s2 : Nat × Int) (w3 : World) (J4 : (Nat × Int) → World → Prop) (m5 : (Nat × Int) → World → Nat) (x18 : Int) (x19 : Int) (w30 : World) : Prop :=
  I64 (x19 + 1) ∧ ∃ s31 : (Nat × Int), (Value.int .i64 (x19 + 1)) = (Value.int .i64 (s31.1 : Int)) ∧ (Value.int .i64 x18) = (Value.int .i64 s31.2) ∧ (J4 s31 w30) ∧ (m5 s31 w30) < (m5 s2 w3)
abbrev laws_heldInt64SS_k1 (v : Value) (w : World) (Post : Value → World → Prop) (s2 : Nat × Int) (w3 : World) (J4 : (Nat × Int) → World → Prop) (m5 : (Nat × Int) → World → Nat) (x7 : Int) (x8 : Int) (w12 : World) : Prop :=
  IxV 1 v x8 (fun ad13 => ∃ u14 : Value, LdV w12 (Value.pointer (some ad13)) u14 ∧ Calls Tryd.prog 37 #[u14, (Value.int .i64 x7)] w12 (fun e15 w16 => ∃ n17 : Int, e15 = .returned (Value.int .i64 n17) ∧ Keeps w.heap.size [] w12 w16 ∧ (((n17 < (0 : Int)) → Post (Value.int .i64 (-1)) w16) ∧ (¬ (n17 < (0 : Int)) → (laws_heldInt64SS_k0 s2 w3 J4 m5 n17 x8 w16)))))
def laws_heldInt64SS_vc (v : Value) (n : Int) (w : World) (Post : Value → World → Prop) : Prop :=
  (∃ (J4 : (Nat × Int) → World → Prop) (m5 : (Nat × Int) → World → Nat), ((∃ s1 : (Nat × Int), (Value.int .i64 0) = (Value.int .i64 (s1.1 : Int)) ∧ (Value.int .i64 n) = (Value.int .i64 s1.2) ∧ (J4 s1 w)) ∧ ∀ (s2 : (Nat × Int)) (w3 : World), (J4 s2 w3) → LenV v (fun n6 => ((((s2.1 : Int) < n6) → (laws_heldInt64SS_k1 v w Post s2 w3 J4 m5 s2.2 (s2.1 : Int) w3)) ∧ (¬ ((s2.1 : Int) < n6) → Post (Value.int .i64 s2.2) w3)))))
theorem laws_heldInt64SS_eq (v : Value) (n : Int) (w : World) (Post : Value → World → Prop) : denF Tryd.prog [] (laws_heldInt64SS_A v n w) 56 [v, (Value.int .i64 n)] w Post = laws_heldInt64SS_vc v n w Post := by kernel_rfl
set_option maxRecDepth 100000 in
theorem laws_heldInt64SS_calls (v : Value) (n : Int) (w : World) (Post : Value → World → Prop) (hvc : laws_heldInt64SS_vc v n w Post) : Ret Tryd.prog 56 #[v, (Value.int .i64 n)] w Post :=
  Ret.of (denF_sound mixed (Eq.mpr (laws_heldInt64SS_eq v n w Post) hvc))

theorem laws_heldInt64SS_val (v : Value) (n : Int) (zss : List (List Int)) (w : World) (h : RR w v (marks n zss)) (hn0 : 0 ≤ n) (hn : n + total zss ≤ 1000000000000000) :
    Val Tryd.prog 56 #[v, .int .i64 n] w (.int .i64 (n + total zss)) :=
  Ret.val (laws_heldInt64SS_calls v n w _ (by
    unfold laws_heldInt64SS_vc
    have hbd := h.bound
    rw [marks_length] at hbd
    refine ⟨fun s W => s.1 ≤ zss.length ∧ s.2 = n + total (zss.take s.1) ∧ Ext w W, fun s _ => zss.length - s.1, ⟨(0, n), rfl, rfl, Nat.zero_le _, by simp [total], .refl w⟩, ?_⟩
    rintro ⟨k, x⟩ w1 ⟨hk, hx, h1⟩
    simp only at hk hx
    subst hx
    refine (h.ext h1).len ?_
    rw [marks_length]
    refine ⟨fun hlt => ?_, fun hge => ⟨?_, h1⟩⟩
    · have hlt' : k < zss.length := by simp only at hlt; omega
      refine (h.ext h1).get k rfl (by rw [marks_length]; exact hlt') fun u hu => ?_
      rw [marks_get n zss k hlt'] at hu
      have htl := total_le (zss := zss) (k + 1)
      have hts := total_snoc zss k hlt'
      refine (laws_heldInt64S_val u (n + total (zss.take k)) zss[k].length w1 hu (by omega) (by omega)).call fun w2 h2 => ⟨_, rfl, h2.keeps, fun hneg => absurd hneg (by omega), fun _ => ⟨by unfold I64; simp only; omega, (k + 1, n + total (zss.take (k + 1))), rfl, ieq (by simp only; omega), ⟨hlt', rfl, h1.trans h2⟩, by simp only; omega⟩⟩
    · have : k = zss.length := by simp only at hge; omega
      subst this
      rw [List.take_length]))
def laws_markLock_vc (l_Sets : Value) (n : Int) (w : World) (Post : Value → World → Prop) : Prop :=
  oneC l_Sets (∀ w1 : World, Ext w w1 → Calls Tryd.prog 55 #[l_Sets, (Value.int .i64 n)] w1 (fun e2 w3 => ∃ n4 : Int, e2 = .returned (Value.int .i64 n4) ∧ Keeps w.heap.size [36] w1 w3 ∧ Post (Value.int .i64 n4) w3))
theorem laws_markLock_eq (l_Sets : Value) (n : Int) (w : World) (Post : Value → World → Prop) : denF Tryd.prog [] noAnn 22 [(Value.agg #[l_Sets]), (Value.int .i64 n)] w Post = laws_markLock_vc l_Sets n w Post := by kernel_rfl
set_option maxRecDepth 100000 in
theorem laws_markLock_calls (l_Sets : Value) (n : Int) (w : World) (Post : Value → World → Prop) (hvc : laws_markLock_vc l_Sets n w Post) : Ret Tryd.prog 22 #[(Value.agg #[l_Sets]), (Value.int .i64 n)] w Post :=
  Ret.of (denF_sound mixed (Eq.mpr (laws_markLock_eq l_Sets n w Post) hvc))

theorem laws_markLock_ret (v : Value) (n : Int) (B N : Nat) (zss : List (List Int)) (w : World) (h : OwnM B N w v zss) (hn0 : 0 ≤ n) (hn : n + total zss ≤ 1000000000000000) :
    Ret Tryd.prog 22 #[lkV v, .int .i64 n] w fun r w' => r = .int .i64 (n + total zss) ∧ OwnM B N w' v (marks n zss) ∧ Marked 2 B N w w' :=
  laws_markLock_calls v n w _ (by
    unfold laws_markLock_vc
    refine h.rr.oneC fun w1 h1 => ?_
    refine (laws_markInt64SS_ret v n B N zss w1 (h.ext h1) hn0 hn).call ?_
    rintro _ w2 ⟨rfl, o2, m2⟩
    exact ⟨_, rfl, m2.2 _ _ (by decide), rfl, o2, h1.marked.trans m2⟩)
def laws_heldLock_vc (l_Sets : Value) (n : Int) (w : World) (Post : Value → World → Prop) : Prop :=
  oneC l_Sets (∀ w1 : World, Ext w w1 → Calls Tryd.prog 56 #[l_Sets, (Value.int .i64 n)] w1 (fun e2 w3 => ∃ n4 : Int, e2 = .returned (Value.int .i64 n4) ∧ Keeps w.heap.size [36] w1 w3 ∧ (((n4 < (0 : Int)) → Post (Value.int .i64 (-1)) w3) ∧ (¬ (n4 < (0 : Int)) → Post (Value.int .i64 n4) w3))))
theorem laws_heldLock_eq (l_Sets : Value) (n : Int) (w : World) (Post : Value → World → Prop) : denF Tryd.prog [] noAnn 23 [(Value.agg #[l_Sets]), (Value.int .i64 n)] w Post = laws_heldLock_vc l_Sets n w Post := by kernel_rfl
set_option maxRecDepth 100000 in
theorem laws_heldLock_calls (l_Sets : Value) (n : Int) (w : World) (Post : Value → World → Prop) (hvc : laws_heldLock_vc l_Sets n w Post) : Ret Tryd.prog 23 #[(Value.agg #[l_Sets]), (Value.int .i64 n)] w Post :=
  Ret.of (denF_sound mixed (Eq.mpr (laws_heldLock_eq l_Sets n w Post) hvc))

theorem laws_heldLock_val (v : Value) (n : Int) (zss : List (List Int)) (w : World) (h : RR w v (marks n zss)) (hn0 : 0 ≤ n) (hn : n + total zss ≤ 1000000000000000) :
    Val Tryd.prog 23 #[lkV v, .int .i64 n] w (.int .i64 (n + total zss)) :=
  Ret.val (laws_heldLock_calls v n w _ (by
    unfold laws_heldLock_vc
    refine h.oneC fun w1 h1 => ?_
    exact (laws_heldInt64SS_val v n zss w1 (h.ext h1) hn0 hn).call fun w2 h2 => ⟨_, rfl, h2.keeps, fun hneg => absurd hneg (by omega), fun _ => ⟨rfl, h1.trans h2⟩⟩))
end Go.Proofs
