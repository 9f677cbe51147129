/- DigitsOf, of the program. No condition. -/
import Derived.Test.YteolgidmaklbkaaL12
import Derived.Test.YteolgidmaklbkaaL02d
import Derived.Test.YteolgidmaklbkaaL02a
set_option linter.unusedVariables false
namespace Go.Proofs
open Go.Sx Go.RowKit Go.Shelf

/-- the digits of n to the bases bs, the last one first; and what is left -/
def dgs : List Int → Int → List Int × Int
  | [], n => ([], n)
  | b :: bs, n => ((dgs bs n).2 % b :: (dgs bs n).1, (dgs bs n).2 / b)
theorem dgs_length (bs : List Int) (n : Int) : (dgs bs n).1.length = bs.length := by
  induction bs with
  | nil => rfl
  | cons b bs ih => simp [dgs, ih]
theorem dgs_range (bs : List Int) {n : Int} (hb : ∀ b ∈ bs, 1 ≤ b) (h0 : 0 ≤ n) : 0 ≤ (dgs bs n).2 ∧ (dgs bs n).2 ≤ n := by
  induction bs with
  | nil => exact ⟨h0, Int.le_refl _⟩
  | cons b bs ih =>
    have ⟨i1, i2⟩ := ih fun x hx => hb x (List.mem_cons_of_mem _ hx)
    have hb1 := hb b (List.mem_cons_self ..)
    exact ⟨Int.ediv_nonneg i1 (by omega), Int.le_trans (Int.ediv_le_self _ i1) i2⟩
def DigD (n : Int) (bs : List Int) : Prop := (0 ≤ n ∧ n ≤ Mx) ∧ Bases bs ∧ (dgs bs n).2 ≤ 0
instance (n : Int) (bs : List Int) : Decidable (DigD n bs) := inferInstanceAs (Decidable (_ ∧ _ ∧ _))
def digL (n : Int) (bs : List Int) : List Int := if DigD n bs then (dgs bs n).1 else []
def digC (n : Int) (bs : List Int) : Int := if DigD n bs then 0 else 2

/-- one round: the digit at place i, and the rest -/
def stp (bs : List Int) (s : List Int × Int) (i : Nat) : List Int × Int := (s.1.set i (s.2 % bs[i]?.getD 0), s.2 / bs[i]?.getD 0)
def stps (bs : List Int) (n : Int) (l : List Nat) : List Int × Int := l.foldl (stp bs) (List.replicate bs.length 0, n)
theorem stps_snoc (bs : List Int) (n : Int) (l : List Nat) (i : Nat) : stps bs n (l ++ [i]) = stp bs (stps bs n l) i := by simp [stps]
theorem stps_len (bs : List Int) (n : Int) (l : List Nat) : (stps bs n l).1.length = bs.length := by
  have : ∀ (l : List Nat) (s : List Int × Int), (l.foldl (stp bs) s).1.length = s.1.length := by
    intro l
    induction l with
    | nil => intro s; rfl
    | cons i l ih => intro s; simp [ih, stp]
  simp [stps, this]
theorem stps_pos (bs : List Int) (n : Int) (l : List Nat) (h : 0 ≤ n) (hb : ∀ b ∈ bs, 1 ≤ b) (hl : ∀ i ∈ l, i < bs.length) : 0 ≤ (stps bs n l).2 ∧ (stps bs n l).2 ≤ n := by
  have : ∀ (l : List Nat) (s : List Int × Int), (∀ i ∈ l, i < bs.length) → 0 ≤ s.2 → s.2 ≤ n → 0 ≤ (l.foldl (stp bs) s).2 ∧ (l.foldl (stp bs) s).2 ≤ n := by
    intro l
    induction l with
    | nil => intro s _ h1 h2; exact ⟨h1, h2⟩
    | cons i l ih =>
      intro s hl h1 h2
      have hi := hl i (List.mem_cons_self ..)
      have hb1 := hb _ (List.getElem_mem hi)
      have e : (stp bs s i).2 = s.2 / bs[i] := by simp [stp, hi]
      refine ih _ (fun j hj => hl j (List.mem_cons_of_mem _ hj)) ?_ ?_
      · rw [e]; exact Int.ediv_nonneg h1 (by omega)
      · rw [e]; exact Int.le_trans (Int.ediv_le_self _ h1) h2
  exact this l _ hl h (Int.le_refl _)
theorem stps_downs (bs : List Int) (n : Int) : ∀ k, k ≤ bs.length → stps bs n (downs bs.length k) = (List.replicate (bs.length - k) 0 ++ (dgs (bs.drop (bs.length - k)) n).1, (dgs (bs.drop (bs.length - k)) n).2) := by
  intro k
  induction k with
  | zero => intro _; simp [stps, downs, bupto, dgs]
  | succ k ih =>
    intro hk
    rw [downs_succ, stps_snoc, ih (by omega)]
    have hi : bs.length - 1 - k < bs.length := by omega
    have e : bs.length - k = bs.length - 1 - k + 1 := by omega
    have e' : bs.length - (k + 1) = bs.length - 1 - k := by omega
    rw [e', List.drop_eq_getElem_cons hi, e]
    simp only [stp, dgs, List.getElem?_eq_getElem hi, Option.getD_some, Prod.mk.injEq, and_true]
    rw [List.replicate_succ', List.append_assoc, List.set_append_right _ _ (by simp)]
    simp
/-- a cell of a row of one's own: it is there, it is not frozen; and what a store does -/
theorem own_cell {B : Nat} {w : World} {e : TypeId} {g n cap : Nat} {xs : List Value} (h : Sx.Own B w e (.slice (some ⟨g, 0, none⟩) n cap) xs) {k : Nat} (hk : k < xs.length) :
    w.cell? ⟨g, k, none⟩ = some xs[k] ∧ w.frozen? ⟨g, k, none⟩ = false := by
  rcases h.2 with ⟨h0, _⟩ | ⟨g', cap', cur, h0, hg, hh, hn, hc, hs, ht⟩
  · cases h0
  · cases h0
    have hcur : cur.size = cap := by simpa using hs
    have hkc : k < cur.size := by omega
    refine ⟨?_, by simp [World.frozen?, hh]⟩
    rw [cell_of_row w g k cur e (0, 0) hh]
    have h5 : (cur.toList.take (xs.length * 1))[k]? = xs[k]? := congrArg (fun l : List Value => l[k]?) ht
    rw [List.getElem?_take, if_pos (by omega)] at h5
    rw [show cur[k]? = cur.toList[k]? by simp, h5, List.getElem?_eq_getElem hk]
theorem own_set {B : Nat} {w : World} {e : TypeId} {g n cap : Nat} {xs : List Value} (h : Sx.Own B w e (.slice (some ⟨g, 0, none⟩) n cap) xs) {k : Nat} (hk : k < xs.length) (x : Value) :
    Sx.Own B (w.setCell ⟨g, k, none⟩ x) e (.slice (some ⟨g, 0, none⟩) n cap) (xs.set k x) ∧ w.grownBy (w.setCell ⟨g, k, none⟩ x) (some g) := by
  rcases h.2 with ⟨h0, _⟩ | ⟨g', cap', cur, h0, hg, hh, hn, hc, hs, ht⟩
  · cases h0
  · cases h0
    have hcur : cur.size = cap := by simpa using hs
    have hkc : k < cur.size := by omega
    refine ⟨⟨by simp, .inr ⟨g, cap, cur.setIfInBounds k x, by simp, hg, ?_, by simpa using hn, hc, by simpa using hs, ?_⟩⟩, ?_⟩
    · simp [World.setCell, Array.getElem?_modify, hh]
    · simp only [Array.toList_setIfInBounds, List.length_set, Nat.mul_one] at ht ⊢
      rw [List.take_set, ht]
    · refine ⟨rfl, rfl, rfl, by simp [World.setCell], fun j _ hj => Below.heap_setCell _ _ _ _ ?_⟩
      rintro rfl
      exact hj rfl
theorem own_own {β : Type} {B g n cap : Nat} {e : TypeId} (f : β → List Value) : Go.Own (fun s W => Sx.Own B W e (.slice (some ⟨g, 0, none⟩) n cap) (f s)) := fun s X Y row hs hg hrow =>
  Own.grown hs hg (.inr fun e' => by
    obtain ⟨o, ho, hc⟩ := hrow g e'.symm
    rcases hs.2 with ⟨h0, _⟩ | ⟨g', cap', cur, h0, hg, hh, hn, hc', hs, ht⟩
    · cases h0
    · cases h0
      rw [hh] at ho
      cases ho
      cases hc)
attribute [local go_sem] Oper.semAt_some
set_option maxRecDepth 100000 in
set_option maxHeartbeats 2000000 in
theorem impl_DigitsOf_ret (n : Int) (v : Value) (bs : List Int) (w : World) (hv : RI w v bs) (hn : I64 n) : SlR 17 #[.int .i64 n, v] w (digL n bs) (digC n bs) := by
  unfold SlR
  refine Ret.of ?_
  refine (callsIn_wide (n := 5)).1 ?_
  obtain ⟨a, c, rfl, q1, q2, q3⟩ := id hv
  refine callsIn_of_wp_marks Try.func17 rfl trivial ?_ rfl
  simp only [Try.ntmps17, List.size_toArray, List.length_cons, List.length_nil, Nat.reduceAdd, Nat.reduceSub, Array.replicate_succ, Array.replicate_zero, List.push_toArray, List.append_toArray, List.nil_append, List.cons_append]
  have el : (ints bs).length = bs.length := by simp [ints]
  rw [el] at hv q1 q3 ⊢
  have no : ¬ DigD n bs → digL n bs = [] ∧ digC n bs = 2 := fun h => ⟨if_neg h, if_neg h⟩
  by_cases hN : 0 ≤ n ∧ n ≤ Mx
  · have hw1 : ∀ w, Val Try.prog 96 #[.int .i64 n, .int .i64 0, .int .i64 1000000000000] w (.bool true) := fun w => by
      have := impl_within_val n 0 1000000000000 w
      rwa [decide_eq_true hN] at this
    by_cases hB : Bases bs
    · have hw2 : ∀ w', Ext w w' → Val Try.prog 97 #[.slice a bs.length c] w' (.bool true) := fun w' h => by
        have := impl_areBases_val _ bs w' (hv.ext h)
        rwa [decide_eq_true hB] at this
      have hbl : bs.length ≤ 100 := hB.1
      obtain ⟨i0, hi, hz0, hz1, hz2⟩ := info_parts (P := Try.prog) (e := 2) (z := .int .i64 0) (size := 1) (bytes := 8) (by kernel_rfl)
      gi_wp2_with first
        | (refine ⟨trivial, ?_⟩; gi_at_call 96; refine (callsIn_wide.2 (Val.calls (hw1 _))).mono ?_; rintro e w1 ⟨rfl, h1⟩)
        | (refine ⟨trivial, ?_⟩; gi_at_call 97; refine (callsIn_wide.2 (Val.calls (hw2 _ ((Ext.alloc _ _).trans h1)))).mono ?_; rintro e w2 ⟨rfl, h2⟩)
        | (gi_at_make; refine wpListIn_make_full _ rfl _ _ 22 rfl w.heap.size 2 i0 (.int .i64 0) 1 Try.underlying22 hi hz0 hz1 .i64 .i64 _ _ bs.length rfl rfl rfl rfl (by rw [hz2]; omega) (by unfold maxLen; omega) (((Ext.alloc w _).trans h1).trans h2).size ?_; intro w3 hown hg3)
        | (refine ⟨trivial, ?_⟩; gi_at_call 98; refine (back_in Fence.wide _ trivial rfl _ _ _ _).mono ?_; rintro e w4 ⟨rfl, rfl⟩)
      have k2 := ((Ext.alloc w (.cells #[.int .i64 n] 2)).trans h1).trans h2
      have s2 := k2.size
      have s3 := hg3.size
      have s1 := (h1.trans h2).size
      rw [World.size_alloc] at s1
      have b0 : Boxed w3 w.heap.size 2 (.int .i64 n) := Boxed.kept (((h1.trans h2).block _ (Boxed.new w 2 (.int .i64 n)).lt).trans (Boxed.new w 2 (.int .i64 n))) hg3 (by simp)
      have hown : Sx.Own w.heap.size w3 2 (.slice (some ⟨w2.heap.size, 0, none⟩) bs.length bs.length) (ints (List.replicate bs.length 0)) := by
        unfold Sx.Own
        have e : (madeCells (Value.int .i64 0).cells (bs.length * 1)).toList = ints (List.replicate bs.length 0) := by
          simp only [madeCells, Value.cells, ints, List.size_toArray, List.length_cons, List.length_nil, Nat.mul_one, List.map_replicate]
          apply List.ext_getElem
          · simp
          · intro i h1 h2
            simp [Nat.mod_one]
        rw [e] at hown
        simpa [ints] using hown
      have l3 : w2.heap.size < w3.heap.size := (Own.lt hown rfl).2
      have k3 : Ext w w3 := k2.grownNone hg3
      obtain ⟨w4, hw4⟩ : ∃ w4, w3.alloc (.cells #[.slice (some ⟨w2.heap.size, 0, none⟩) bs.length bs.length] 22) = w4 := ⟨_, rfl⟩
      have b1 := Boxed.new w3 22 (.slice (some ⟨w2.heap.size, 0, none⟩) bs.length bs.length)
      have b0' := b0.alloc (.cells #[.slice (some ⟨w2.heap.size, 0, none⟩) bs.length bs.length] 22)
      have o4 := Own.ext hown (Ext.alloc w3 (.cells #[.slice (some ⟨w2.heap.size, 0, none⟩) bs.length bs.length] 22))
      have k4 := k3.trans (Ext.alloc w3 (.cells #[.slice (some ⟨w2.heap.size, 0, none⟩) bs.length bs.length] 22))
      have s4 : w4.heap.size = w3.heap.size + 1 := by rw [← hw4]; exact World.size_alloc ..
      rw [hw4] at b1 b0' o4 k4 ⊢
      have b2 := Boxed.new w4 22 (.slice a bs.length c)
      have b0'' := b0'.alloc (.cells #[.slice a bs.length c] 22)
      have b1' := b1.alloc (.cells #[.slice a bs.length c] 22)
      have o5 := Own.ext o4 (Ext.alloc w4 (.cells #[.slice a bs.length c] 22))
      have k5 := k4.trans (Ext.alloc w4 (.cells #[.slice a bs.length c] 22))
      have s5 : (w4.alloc (.cells #[.slice a bs.length c] 22)).heap.size = w4.heap.size + 1 := World.size_alloc ..
      generalize w4.alloc (.cells #[.slice a bs.length c] 22) = w5 at b2 b0'' b1' o5 k5 s5 ⊢
      rw [← s4]
      have hpos : ∀ b ∈ bs, 1 ≤ b := fun b hb => (hB.2 b hb).1
      refine wpIn_rangeFunc_ownF rfl (by decide) (gf := 157) (lb := #[.pointer (some ⟨w4.heap.size, 0, none⟩)]) rfl trivial (enters_of Try.func157 (by kernel_rfl) rfl)
        (back_stops Fence.wide _ trivial rfl (by decide) w4.heap.size w.heap.size _ bs (by omega) w w5 (by omega) k5.size hv k5 (Nat.le_refl _) b2.cell) (fun h g => h.trans g) (fun W l o o' h1 h2 h3 h4 => ⟨belowK_b (w := w5) k5.size W l o o' h1 h2 h3 h4, fun v hv => cell_kept hv (grownBy_putObj' W l o') (fun r e => by cases e; exact ⟨o, h2, h3⟩)⟩) (Below.refl _ _) (fun _ => rfl)
        (fun pre W => (Boxed W w.heap.size 2 (.int .i64 (stps bs n (pre.map Fin.val)).2) ∧ Boxed W w3.heap.size 22 (.slice (some ⟨w2.heap.size, 0, none⟩) bs.length bs.length) ∧ Boxed W w4.heap.size 22 (.slice a bs.length c) ∧
          Sx.Own w.heap.size W 2 (.slice (some ⟨w2.heap.size, 0, none⟩) bs.length bs.length) (ints (stps bs n (pre.map Fin.val)).1)) ∧ Below w.heap.size w W)
        (fun _ _ _ => False)
        (OwnFrom.and (OwnFrom.and (Own.from (boxed_own _ _ (fun (pre : List (Fin bs.length)) => .int .i64 (stps bs n (pre.map Fin.val)).2)) _) (OwnFrom.and (Own.from (boxed_own _ _ (fun _ => _)) _) (OwnFrom.and (Own.from (boxed_own _ _ (fun _ => _)) _) (Own.from (own_own (fun (pre : List (Fin bs.length)) => ints (stps bs n (pre.map Fin.val)).1)) _)))) (ownFrom_below (Nat.le_refl _) k5.size))
        (fun _ _ _ _ _ hs _ _ => hs)
        ⟨⟨b0'', b1', b2, o5⟩, k5⟩
        (fun x => { tmps := #[.int .i64 n, .slice a bs.length c, .pointer (some ⟨w.heap.size, 0, none⟩), undef, .slice none 0 0, .int .i64 0, .pointer (some ⟨w3.heap.size, 0, none⟩), .int .i64 (x.val : Int), .int .i64 bs[x.val], .int .i64 n, .bool true, .bool false, .bool false, .slice a bs.length c, .bool true, .bool false, .bool false, .slice a bs.length c, .int .i64 bs.length, .slice (some ⟨w2.heap.size, 0, none⟩) bs.length bs.length, .slice a bs.length c, .func (.func 157) #[] #[.pointer (some ⟨w3.heap.size + 1, 0, none⟩)], .int .i64 (x.val : Int), .int .i64 bs[x.val], undef, undef, undef, undef, undef, undef, undef, undef, undef, undef, undef, undef], defers := [] }) ?assign ?body ?done ?stop
      case assign =>
        intro l x W K hK
        gi_wp2
        exact hK
      case body =>
        rintro l pre x W ⟨⟨i0, i1, i2, i3⟩, hB2⟩ hlt
        have hx := x.2
        have hlx : x.val < (ints (stps bs n (pre.map Fin.val)).1).length := by simp [ints, stps_len]
        obtain ⟨hc, hf⟩ := own_cell i3 hlx
        have j0 := i0.cell
        have j0' := i0.frozen
        have j1 := i1.cell
        have hb1 : 1 ≤ bs[x.val] := hpos _ (List.getElem_mem hx)
        have hst := stps_pos bs n (pre.map Fin.val) hN.1 hpos (fun i hi => by obtain ⟨y, _, rfl⟩ := List.mem_map.1 hi; exact y.2)
        have hmx : Try.prog.follows .mixedOrders = true := mixed
        have hdiv : wrap64 ((stps bs n (pre.map Fin.val)).2.tdiv bs[x.val]) = (stps bs n (pre.map Fin.val)).2 / bs[x.val] := by
          rw [Int.tdiv_eq_ediv_of_nonneg hst.1]
          have := Int.ediv_nonneg hst.1 (show 0 ≤ bs[x.val] by omega)
          have := Int.ediv_le_self bs[x.val] hst.1
          have h9 := hN.2
          simp only [Mx] at h9
          unfold wrap64
          omega
        have hfin : ∀ aa : Act, ownPostK (Kb w.heap.size w4.heap.size) (fun (pre : List (Fin bs.length)) W => (Boxed W w.heap.size 2 (.int .i64 (stps bs n (pre.map Fin.val)).2) ∧ Boxed W w3.heap.size 22 (.slice (some ⟨w2.heap.size, 0, none⟩) bs.length bs.length) ∧ Boxed W w4.heap.size 22 (.slice a bs.length c) ∧
            Sx.Own w.heap.size W 2 (.slice (some ⟨w2.heap.size, 0, none⟩) bs.length bs.length) (ints (stps bs n (pre.map Fin.val)).1)) ∧ Below w.heap.size w W) (fun _ _ _ => False) (pre ++ [x]) W Exit.normal aa
            ((W.setCell ⟨w2.heap.size, x.val, none⟩ (.int .i64 ((stps bs n (pre.map Fin.val)).2 % bs[x.val]))).setCell ⟨w.heap.size, 0, none⟩ (.int .i64 ((stps bs n (pre.map Fin.val)).2 / bs[x.val]))).drew := by
          intro aa
          obtain ⟨p3, g3⟩ := own_set i3 hlx (.int .i64 ((stps bs n (pre.map Fin.val)).2 % bs[x.val]))
          have p0 := (i0.kept g3 (by simp; omega)).set (.int .i64 ((stps bs n (pre.map Fin.val)).2 / bs[x.val]))
          have p1 := (i1.kept g3 (by simp; omega)).other (B' := w.heap.size) (by omega) (.int .i64 ((stps bs n (pre.map Fin.val)).2 / bs[x.val]))
          have p2 := (i2.kept g3 (by simp; omega)).other (B' := w.heap.size) (by omega) (.int .i64 ((stps bs n (pre.map Fin.val)).2 / bs[x.val]))
          have p4 := Own.grown p3 (grownBy_setCell' _ w.heap.size (.int .i64 ((stps bs n (pre.map Fin.val)).2 / bs[x.val]))) (.inr (by simp [Value.ownBlock]; omega))
          have hbw : Below w.heap.size W ((W.setCell ⟨w2.heap.size, x.val, none⟩ (.int .i64 ((stps bs n (pre.map Fin.val)).2 % bs[x.val]))).setCell ⟨w.heap.size, 0, none⟩ (.int .i64 ((stps bs n (pre.map Fin.val)).2 / bs[x.val]))) :=
            ((Below.refl w.heap.size W).setCell (p := ⟨w2.heap.size, x.val, none⟩) (by simp; omega) _).setCell (p := ⟨w.heap.size, 0, none⟩) (Nat.le_refl _) _
          have est : stps bs n ((pre ++ [x]).map Fin.val) = ((stps bs n (pre.map Fin.val)).1.set x.val ((stps bs n (pre.map Fin.val)).2 % bs[x.val]), (stps bs n (pre.map Fin.val)).2 / bs[x.val]) := by
            rw [List.map_append, List.map_cons, List.map_nil, stps_snoc]
            simp [stp]
          refine ⟨((KeepsOthers.setCell _ _ _).trans (KeepsOthers.setCell _ _ _)).trans (KeepsOthers.drew _), ⟨hbw.drew, fun v hv => ?_⟩, ?_, (hB2.trans hbw).drew⟩
          · obtain rfl : v = .slice a bs.length c := by rw [i2.cell] at hv; cases hv; rfl
            exact p2.cell
          · rw [est]
            have p5 : Sx.Own w.heap.size ((W.setCell ⟨w2.heap.size, x.val, none⟩ (.int .i64 ((stps bs n (pre.map Fin.val)).2 % bs[x.val]))).setCell ⟨w.heap.size, 0, none⟩ (.int .i64 ((stps bs n (pre.map Fin.val)).2 / bs[x.val]))) 2 (.slice (some ⟨w2.heap.size, 0, none⟩) bs.length bs.length) (ints ((stps bs n (pre.map Fin.val)).1.set x.val ((stps bs n (pre.map Fin.val)).2 % bs[x.val]))) := by simpa [ints, List.map_set] using p4
            exact ⟨p0, p1, p2, p5⟩
        gi_wp2
        gi_region_with_o (fail)
        all_goals gi_wp2
        all_goals (try go_bits)
        all_goals exact hfin _
      case done =>
        rintro D xs W hD hS ⟨⟨c0, c1, c2, c3⟩, hB3⟩ hK
        rw [hS, stps_downs bs n _ (Nat.le_refl _)] at c0 c3
        simp only [Nat.sub_self, List.replicate_zero, List.drop_zero, List.nil_append] at c0 c3
        have d0 := c0.cell
        have d1 := c1.cell
        have hfin := hB3.trans (belowK_b (w := w) (Nat.le_refl _) W D _ (.deferred none) (by have := k5.size; omega) hK rfl rfl)
        gi_wp2
        · have hr : 0 < (dgs bs n).2 := by assumption
          obtain ⟨e1, e2⟩ := no fun h => absurd h.2.2 (by omega)
          refine ⟨by simp, .inl ⟨_, _, rfl, run_takeDeferred hK, ?_⟩⟩
          rw [e1, e2]
          exact ⟨_, results_tmp2 rfl _ _ _, _, rfl, _, rfl, Own.nil_ _ _ _, hfin⟩
        · have hr : (dgs bs n).2 ≤ 0 := by assumption
          have hD2 : DigD n bs := ⟨hN, hB, hr⟩
          refine ⟨by simp, .inl ⟨_, _, rfl, run_takeDeferred hK, ?_⟩⟩
          rw [show digL n bs = _ from if_pos hD2, show digC n bs = _ from if_pos hD2]
          exact ⟨_, results_tmp2 rfl _ _ _, _, rfl, _, rfl, ownsRow_putObj c3 _ hK rfl, hfin⟩
      case stop =>
        rintro D c pre W _ _ h _
        exact h.elim
    · have hw2 : ∀ w', Ext w w' → Val Try.prog 97 #[.slice a bs.length c] w' (.bool false) := fun w' h => by
        have := impl_areBases_val _ bs w' (hv.ext h)
        rwa [decide_eq_false hB] at this
      obtain ⟨e1, e2⟩ := no fun h => hB h.2.1
      rw [e1, e2]
      gi_wp2_with first
        | (refine ⟨trivial, ?_⟩; gi_at_call 96; refine (callsIn_wide.2 (Val.calls (hw1 _))).mono ?_; rintro e w1 ⟨rfl, h1⟩)
        | (refine ⟨trivial, ?_⟩; gi_at_call 97; refine (callsIn_wide.2 (Val.calls (hw2 _ ((Ext.alloc _ _).trans h1)))).mono ?_; rintro e w2 ⟨rfl, h2⟩)
      exact ⟨_, results_tmp2 rfl _ _ _, _, rfl, _, rfl, Own.nil_ _ _ _, ((Ext.alloc w _).trans h1).trans h2⟩
  · have hw1 : ∀ w, Val Try.prog 96 #[.int .i64 n, .int .i64 0, .int .i64 1000000000000] w (.bool false) := fun w => by
      have := impl_within_val n 0 1000000000000 w
      rwa [decide_eq_false hN] at this
    obtain ⟨e1, e2⟩ := no fun h => hN h.1
    rw [e1, e2]
    gi_wp2_with first
      | (refine ⟨trivial, ?_⟩; gi_at_call 96; refine (callsIn_wide.2 (Val.calls (hw1 _))).mono ?_; rintro e w1 ⟨rfl, h1⟩)
    refine ⟨trivial, ?_⟩
    gi_wp2
    exact ⟨_, results_tmp2 rfl _ _ _, _, rfl, _, rfl, Own.nil_ _ _ _, (Ext.alloc w _).trans h1⟩
end Go.Proofs
