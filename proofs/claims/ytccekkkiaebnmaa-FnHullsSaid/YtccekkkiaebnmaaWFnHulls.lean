/- The law FnHulls: keys open their hull, which has only their cuts. No condition. -/
import Derived.Test.YtccekkkiaebnmaaLawsC
import Derived.Test.YtccekkkiaebnmaaDraw8
import Derived.Test.YtccekkkiaebnmaaL04f
set_option linter.unusedVariables false
namespace Go.Proofs
open Go.Sx Go.RowKit
theorem hull_at {M : Mk} (zss : List (List Int)) {i : Nat} (hi : i < (hullL M zss).length) : (hullL M zss)[i] = filt (pH zss i) M.d.toNat := by simp [hullL, rowsOf]
theorem hull_has {M : Mk} {zss : List (List Int)} {z : List Int} (hz : z ∈ zss) (hK : IsK M z) {i : Nat} (hi : i < M.c.toNat) : z.getD i 0 ∈ filt (pH zss i) M.d.toNat := by
  have h := isK_at hK hi
  unfold filt
  refine List.mem_filter.2 ⟨mem_upFrom.2 (by omega), ?_⟩
  unfold pH
  rw [List.any_eq_true]
  exact ⟨z, hz, by simp⟩
theorem hull_lk {M : Mk} {zss : List (List Int)} (hm : MkOk M.c M.d M.s M.m M.l) (h : hullOk M zss) : LkOk M.c M.d M.s M.m M.l (hullL M zss) := by
  have hc := hm.1
  have hd := hm.2.1
  refine ⟨hm, by rw [hullL_length]; omega, rowsOf_setsOk (by omega) fun i hi he => ?_⟩
  obtain ⟨z, hz⟩ := List.exists_mem_of_ne_nil _ h.1
  have := hull_has hz (h.2.1 z hz) hi
  rw [he] at this
  cases this
def laws_FnHulls_A (v : Value) (w : World) : Nat → Ann := fun κ => match κ with
  | 0 => { σ := Nat, sli := [11], slc := fun s => [SV.v (Value.int .i64 (s : Int))], bxi := [], bxc := fun s => [], inv := fun s W => True, μ := fun s W => 0, free := true }
  | 1 => { σ := Nat, sli := [14], slc := fun s => [SV.v (Value.int .i64 (s : Int))], bxi := [], bxc := fun s => [], inv := fun s W => True, μ := fun s W => 0, free := true }
  | 2 => { σ := Nat, sli := [15], slc := fun s => [SV.v (Value.int .i64 (s : Int))], bxi := [], bxc := fun s => [], inv := fun s W => True, μ := fun s W => 0, free := true }
  | 3 => { σ := Nat × Bool, sli := [17, 16], slc := fun s => [SV.v (Value.int .i64 (s.1 : Int)), SV.v (Value.bool s.2)], bxi := [], bxc := fun s => [], inv := fun s W => True, μ := fun s W => 0, free := true }
  | _ => { σ := Unit, sli := [], slc := fun _ => [], bxi := [], bxc := fun _ => [], inv := fun _ _ => False, μ := fun _ _ => 0 }
abbrev laws_FnHulls_k0 (s452 : Nat) (w453 : World) (J454 : Nat → World → Prop) (m455 : Nat → World → Nat) (x521 : Int) (w547 : World) : Prop :=
  I64 (x521 + 1) ∧ ∃ s548 : Nat, (Value.int .i64 (x521 + 1)) = (Value.int .i64 (s548 : Int)) ∧ (J454 s548 w547) ∧ (m455 s548 w547) < (m455 s452 w453)
abbrev laws_FnHulls_k1 (Post : Value → World → Prop) (s452 : Nat) (w453 : World) (J454 : Nat → World → Prop) (m455 : Nat → World → Nat) (x494 : Int) (x519 : Bool) (w520 : World) : Prop :=
  ((x519 = true → Post (Value.bool false) w520) ∧ (x519 = false → (laws_FnHulls_k0 s452 w453 J454 m455 x494 w520)))
abbrev laws_FnHulls_k2 (Post : Value → World → Prop) (x348 : Value) (x437 : Int) (x438 : Int) (x439 : Int) (x440 : Int) (x441 : Int) (x442 : Value) (s452 : Nat) (w453 : World) (J454 : Nat → World → Prop) (m455 : Nat → World → Nat) (x457 : Int) (w461 : World) : Prop :=
  IxV 1 x348 x457 (fun ad462 => ∃ u463 : Value, LdV w461 (Value.pointer (some ad462)) u463 ∧ ∃ b467 : Bool, ∃ n468 : Int, (∀ w464 : World, Ext w461 w464 → Calls Try.prog 53 #[(Value.agg #[(Value.int .i64 x437), (Value.int .i64 x438), (Value.int .i64 x439), (Value.int .i64 x440), (Value.int .i64 x441)]), (Value.agg #[x442]), u463] w464 (fun e465 w466 => e465 = .returned (Value.tuple #[(Value.bool b467), (Value.int .i64 n468)]) ∧ Ext w464 w466)) ∧ ∀ w469 : World, Ext w461 w469 → (((n468 ≠ (0 : Int)) → Post (Value.bool false) w469) ∧ (¬ (n468 ≠ (0 : Int)) → (laws_FnHulls_k1 Post s452 w453 J454 m455 x457 (!b467) w469))))
abbrev laws_FnHulls_k3 (s685 : Nat × Bool) (w686 : World) (J687 : (Nat × Bool) → World → Prop) (m688 : (Nat × Bool) → World → Nat) (x697 : Int) (w702 : World) : Prop :=
  I64 (x697 + 1) ∧ ∃ s703 : (Nat × Bool), (Value.int .i64 (x697 + 1)) = (Value.int .i64 (s703.1 : Int)) ∧ (Value.bool true) = (Value.bool s703.2) ∧ (J687 s703 w702) ∧ (m688 s703 w702) < (m688 s685 w686)
abbrev laws_FnHulls_k4 (s685 : Nat × Bool) (w686 : World) (J687 : (Nat × Bool) → World → Prop) (m688 : (Nat × Bool) → World → Nat) (n707 : Int) (n711 : Int) (x713 : Int) (w732 : World) : Prop :=
  I64 (x713 + 1) ∧ ∃ s733 : (Nat × Bool), (Value.int .i64 (x713 + 1)) = (Value.int .i64 (s733.1 : Int)) ∧ (Value.bool (decide (n707 = n711))) = (Value.bool s733.2) ∧ (J687 s733 w732) ∧ (m688 s733 w732) < (m688 s685 w686)
abbrev laws_FnHulls_k5 (x550 : Value) (x649 : Value) (x663 : Int) (x676 : Int) (s685 : Nat × Bool) (w686 : World) (J687 : (Nat × Bool) → World → Prop) (m688 : (Nat × Bool) → World → Nat) (x690 : Bool) (x691 : Int) (w695 : World) : Prop :=
  ((x690 = true → ∀ w696 : World, Ext w695 w696 → (laws_FnHulls_k3 s685 w686 J687 m688 x691 w696)) ∧ (x690 = false → IxV 1 x550 x691 (fun ad704 => ∃ u705 : Value, LdV w695 (Value.pointer (some ad704)) u705 ∧ IxV 1 u705 x663 (fun ad706 => ∃ n707 : Int, LdV w695 (Value.pointer (some ad706)) (Value.int .i64 n707) ∧ IxV 1 x649 x663 (fun ad708 => ∃ u709 : Value, LdV w695 (Value.pointer (some ad708)) u709 ∧ IxV 1 u709 x676 (fun ad710 => ∃ n711 : Int, LdV w695 (Value.pointer (some ad710)) (Value.int .i64 n711) ∧ ∀ w712 : World, Ext w695 w712 → (laws_FnHulls_k4 s685 w686 J687 m688 n707 n711 x691 w712)))))))
abbrev laws_FnHulls_k6 (s669 : Nat) (w670 : World) (J671 : Nat → World → Prop) (m672 : Nat → World → Nat) (x747 : Int) (w761 : World) : Prop :=
  I64 (x747 + 1) ∧ ∃ s762 : Nat, (Value.int .i64 (x747 + 1)) = (Value.int .i64 (s762 : Int)) ∧ (J671 s762 w761) ∧ (m672 s762 w761) < (m672 s669 w670)
abbrev laws_FnHulls_k7 (Post : Value → World → Prop) (s669 : Nat) (w670 : World) (J671 : Nat → World → Prop) (m672 : Nat → World → Nat) (x734 : Int) (x735 : Bool) (w746 : World) : Prop :=
  (((!x735) = true → Post (Value.bool false) w746) ∧ ((!x735) = false → (laws_FnHulls_k6 s669 w670 J671 m672 x734 w746)))
abbrev laws_FnHulls_k8 (Post : Value → World → Prop) (x550 : Value) (x649 : Value) (x663 : Int) (s669 : Nat) (w670 : World) (J671 : Nat → World → Prop) (m672 : Nat → World → Nat) (x676 : Int) (w683 : World) : Prop :=
  (∃ (J687 : (Nat × Bool) → World → Prop) (m688 : (Nat × Bool) → World → Nat), ((∃ s684 : (Nat × Bool), (Value.int .i64 0) = (Value.int .i64 (s684.1 : Int)) ∧ (Value.bool false) = (Value.bool s684.2) ∧ (J687 s684 w683)) ∧ ∀ (s685 : (Nat × Bool)) (w686 : World), (J687 s685 w686) → LenV x550 (fun n689 => ((((s685.1 : Int) < n689) → (laws_FnHulls_k5 x550 x649 x663 x676 s685 w686 J687 m688 s685.2 (s685.1 : Int) w686)) ∧ (¬ ((s685.1 : Int) < n689) → (laws_FnHulls_k7 Post s669 w670 J671 m672 x676 s685.2 w686))))))
abbrev laws_FnHulls_k9 (s658 : Nat) (w659 : World) (J660 : Nat → World → Prop) (m661 : Nat → World → Nat) (x763 : Int) (w774 : World) : Prop :=
  I64 (x763 + 1) ∧ ∃ s775 : Nat, (Value.int .i64 (x763 + 1)) = (Value.int .i64 (s775 : Int)) ∧ (J660 s775 w774) ∧ (m661 s775 w774) < (m661 s658 w659)
abbrev laws_FnHulls_k10 (Post : Value → World → Prop) (x550 : Value) (x649 : Value) (s658 : Nat) (w659 : World) (J660 : Nat → World → Prop) (m661 : Nat → World → Nat) (x663 : Int) (w667 : World) : Prop :=
  (∃ (J671 : Nat → World → Prop) (m672 : Nat → World → Nat), ((∃ s668 : Nat, (Value.int .i64 0) = (Value.int .i64 (s668 : Int)) ∧ (J671 s668 w667)) ∧ ∀ (s669 : Nat) (w670 : World), (J671 s669 w670) → IxV 1 x649 x663 (fun ad673 => ∃ u674 : Value, LdV w670 (Value.pointer (some ad673)) u674 ∧ LenV u674 (fun n675 => ((((s669 : Int) < n675) → (laws_FnHulls_k8 Post x550 x649 x663 s669 w670 J671 m672 (s669 : Int) w670)) ∧ (¬ ((s669 : Int) < n675) → (laws_FnHulls_k9 s658 w659 J660 m661 x663 w670)))))))
abbrev laws_FnHulls_k11 (w : World) (Post : Value → World → Prop) (x874 : Int) (x875 : Int) (x876 : Int) (x877 : Int) (x878 : Int) (x879 : Value) (w887 : World) : Prop :=
  Calls Try.prog 68 #[(Value.agg #[(Value.int .i64 x874), (Value.int .i64 x875), (Value.int .i64 x876), (Value.int .i64 x877), (Value.int .i64 x878)]), (Value.agg #[x879])] w887 (fun e888 w889 => ∃ b890 : Bool, e888 = .returned (Value.bool b890) ∧ Keeps w.heap.size [25, 28, 28, 25, 28] w887 w889 ∧ Post (Value.bool b890) w889)
abbrev laws_FnHulls_k12 (w : World) (Post : Value → World → Prop) (x550 : Value) (x643 : Int) (x644 : Int) (x645 : Int) (x646 : Int) (x647 : Int) (x648 : Value) (x649 : Value) (w656 : World) : Prop :=
  (∃ (J660 : Nat → World → Prop) (m661 : Nat → World → Nat), ((∃ s657 : Nat, (Value.int .i64 0) = (Value.int .i64 (s657 : Int)) ∧ (J660 s657 w656)) ∧ ∀ (s658 : Nat) (w659 : World), (J660 s658 w659) → LenV x649 (fun n662 => ((((s658 : Int) < n662) → (laws_FnHulls_k10 Post x550 x649 s658 w659 J660 m661 (s658 : Int) w659)) ∧ (¬ ((s658 : Int) < n662) → (laws_FnHulls_k11 w Post x643 x644 x645 x646 x647 x648 w659))))))
abbrev laws_FnHulls_k13 (w : World) (Post : Value → World → Prop) (x348 : Value) (x437 : Int) (x438 : Int) (x439 : Int) (x440 : Int) (x441 : Int) (x442 : Value) (x443 : Value) (w450 : World) : Prop :=
  (∃ (J454 : Nat → World → Prop) (m455 : Nat → World → Nat), ((∃ s451 : Nat, (Value.int .i64 0) = (Value.int .i64 (s451 : Int)) ∧ (J454 s451 w450)) ∧ ∀ (s452 : Nat) (w453 : World), (J454 s452 w453) → LenV x348 (fun n456 => ((((s452 : Int) < n456) → (laws_FnHulls_k2 Post x348 x437 x438 x439 x440 x441 x442 s452 w453 J454 m455 (s452 : Int) w453)) ∧ (¬ ((s452 : Int) < n456) → (laws_FnHulls_k12 w Post x348 x437 x438 x439 x440 x441 x442 x443 w453))))))
abbrev laws_FnHulls_k14 (w : World) (Post : Value → World → Prop) (x245 : Value) (x246 : Int) (x333 : Int) (x334 : Int) (x335 : Int) (x336 : Int) (x337 : Int) (x338 : Value) (x339 : Value) (w346 : World) : Prop :=
  (((x246 ≠ (0 : Int)) → Post (Value.bool true) w346) ∧ (¬ (x246 ≠ (0 : Int)) → (laws_FnHulls_k13 w Post x245 x333 x334 x335 x336 x337 x338 x339 w346)))
abbrev laws_FnHulls_k15 (w : World) (Post : Value → World → Prop) (b135 : Bool) (b139 : Bool) (x142 : Value) (x143 : Int) (x230 : Int) (x231 : Int) (x232 : Int) (x233 : Int) (x234 : Int) (x235 : Value) (x236 : Value) (w243 : World) : Prop :=
  (((b135 ≠ b139) → Post (Value.bool false) w243) ∧ (¬ (b135 ≠ b139) → (laws_FnHulls_k14 w Post x142 x143 x230 x231 x232 x233 x234 x235 x236 w243)))
abbrev laws_FnHulls_k16 (w : World) (Post : Value → World → Prop) (x4 : Value) (w7 : World) : Prop :=
  Calls Try.prog 66 #[x4] w7 (fun e8 w9 => ∃ n10 : Int, ∃ n11 : Int, ∃ n12 : Int, ∃ n13 : Int, ∃ n14 : Int, ∃ u15 : Value, e8 = .returned (Value.tuple #[(Value.agg #[(Value.int .i64 n10), (Value.int .i64 n11), (Value.int .i64 n12), (Value.int .i64 n13), (Value.int .i64 n14)]), u15]) ∧ Keeps w.heap.size [] w7 w9 ∧ ∀ w16 : World, Ext w9 w16 → ∀ w17 : World, BxS w.heap.size 25 w16 w17 → Calls Try.prog 60 #[(Value.agg #[(Value.int .i64 n10), (Value.int .i64 n11), (Value.int .i64 n12), (Value.int .i64 n13), (Value.int .i64 n14)]), u15] w17 (fun e18 w19 => ∃ u20 : Value, ∃ n21 : Int, e18 = .returned (Value.tuple #[(Value.agg #[u20]), (Value.int .i64 n21)]) ∧ Keeps w.heap.size [25] w17 w19 ∧ ∀ w22 : World, Ext w19 w22 → oneC u20 (∀ w23 : World, BxS w.heap.size 28 w22 w23 → Calls Try.prog 57 #[(Value.agg #[(Value.int .i64 n10), (Value.int .i64 n11), (Value.int .i64 n12), (Value.int .i64 n13), (Value.int .i64 n14)]), u15] w23 (fun e24 w25 => ∃ u26 : Value, ∃ n27 : Int, e24 = .returned (Value.tuple #[(Value.agg #[u26]), (Value.int .i64 n27)]) ∧ Keeps w.heap.size [25, 28] w23 w25 ∧ ∀ w28 : World, Ext w25 w28 → oneC u26 (∀ w29 : World, BxS w.heap.size 28 w28 w29 → Calls Try.prog 67 #[x4] w29 (fun e30 w31 => ∃ n32 : Int, ∃ n33 : Int, ∃ n34 : Int, ∃ n35 : Int, ∃ n36 : Int, ∃ u37 : Value, e30 = .returned (Value.tuple #[(Value.agg #[(Value.int .i64 n32), (Value.int .i64 n33), (Value.int .i64 n34), (Value.int .i64 n35), (Value.int .i64 n36)]), (Value.agg #[u37])]) ∧ Keeps w.heap.size [25, 28, 28] w29 w31 ∧ ∀ w38 : World, Ext w31 w38 → ∀ w39 : World, Ext w38 w39 → ∀ w40 : World, BxS w.heap.size 25 w39 w40 → oneC u37 (∀ w41 : World, BxS w.heap.size 28 w40 w41 → (((n21 ≠ n27) → ∀ w42 : World, Ext w41 w42 → Post (Value.bool false) w42) ∧ (¬ (n21 ≠ n27) → ∃ b130 : Bool, (∀ w127 : World, Ext w41 w127 → Calls Try.prog 16 #[(Value.agg #[u20]), (Value.agg #[u26])] w127 (fun e128 w129 => e128 = .returned (Value.bool b130) ∧ Ext w127 w129)) ∧ (((!b130) = true → ∀ w131 : World, Ext w41 w131 → Post (Value.bool false) w131) ∧ ((!b130) = false → ∃ b135 : Bool, (∀ w132 : World, Ext w41 w132 → Calls Try.prog 68 #[(Value.agg #[(Value.int .i64 n32), (Value.int .i64 n33), (Value.int .i64 n34), (Value.int .i64 n35), (Value.int .i64 n36)]), (Value.agg #[u37])] w132 (fun e133 w134 => e133 = .returned (Value.bool b135) ∧ Ext w132 w134)) ∧ ∃ b139 : Bool, (∀ w136 : World, Ext w41 w136 → Calls Try.prog 69 #[(Value.agg #[(Value.int .i64 n32), (Value.int .i64 n33), (Value.int .i64 n34), (Value.int .i64 n35), (Value.int .i64 n36)]), (Value.agg #[u37])] w136 (fun e137 w138 => e137 = .returned (Value.bool b139) ∧ Ext w136 w138)) ∧ ∀ w140 : World, Ext w41 w140 → (laws_FnHulls_k15 w Post b135 b139 u15 n21 n10 n11 n12 n13 n14 u20 u26 w140))))))))))))
def laws_FnHulls_vc (v : Value) (w : World) (Post : Value → World → Prop) : Prop :=
  Calls Try.prog 10 #[v] w (fun e1 w2 => ∃ b3 : Bool, e1 = .returned (Value.bool b3) ∧ Keeps w.heap.size [] w w2 ∧ ((b3 = true → Post (Value.bool true) w2) ∧ (b3 = false → (laws_FnHulls_k16 w Post v w2))))
theorem laws_FnHulls_eq (v : Value) (w : World) (Post : Value → World → Prop) : denF Try.prog [] (laws_FnHulls_A v w) 9 [v] w Post = laws_FnHulls_vc v w Post := by kernel_rfl
set_option maxRecDepth 100000 in
theorem laws_FnHulls_calls (v : Value) (w : World) (Post : Value → World → Prop) (hvc : laws_FnHulls_vc v w Post) : Ret Try.prog 9 #[v] w Post :=
  Ret.of (denF_sound mixed (Eq.mpr (laws_FnHulls_eq v w Post) hvc))

end Go.Proofs
namespace Go.Proofs.Ytccekkkiaebnmaa.lawFnHulls
open Go.Proofs Go.Sx Go.RowKit Go.ChangeShapes Go.WideShapes Go.ChangeAt Go.Joins
theorem walk (v : Value) (zs : List Int) (w : World) (h : RB w v zs) : Val Try.prog 9 #[v] w (.bool true) :=
  Ret.val (laws_FnHulls_calls v w _ (by
    unfold laws_FnHulls_vc
    refine (laws_big_ret v zs w h).call ?_
    rintro _ w1 ⟨⟨b, rfl⟩, h1⟩
    refine ⟨b, rfl, h1.keeps, fun _ => ⟨rfl, h1⟩, fun _ => ?_⟩
    refine (spec_DrawHullOf_ret v zs w1 (h.ext h1)).call ?_
    rintro _ w9 ⟨M, p, za, rfl, _, va, h9⟩
    have f9 := (Fx.start (h1.trans h9)).addV va
    refine ⟨M.c, M.d, M.s, M.m, M.l, p, rfl, h9.keeps, fun w16 h16 w17 b17 => ?_⟩
    have f17 := (f9.ext h16).bm b17
    refine (impl_HullOf_ret M p za w17 (f17.rr (by simp))).call ?_
    rintro _ w19 ⟨l, rfl, ol, h19⟩
    refine ⟨l, _, rfl, h19.keeps, fun w22 h22 => ol.rr.oneC fun w23 b23 => ?_⟩
    have f23 := (((f17.ext h19).addR ol).ext h22).bl b23
    refine (spec_HullOf_ret M p za w23 (f23.rr (by simp))).call ?_
    rintro _ w25 ⟨l', rfl, ol', h25⟩
    refine ⟨l', _, rfl, h25.keeps, fun w28 h28 => ol'.rr.oneC fun w29 b29 => ?_⟩
    have f29 := (((f23.ext h25).addR ol').ext h28).bl b29
    refine (spec_DrawIsLock_ret v zs w29 (h.ext f29.1)).call ?_
    rintro _ w31 ⟨N, y, zy, rfl, vy, h31⟩
    have f31 := (f29.ext h31).addV vy
    refine ⟨N.c, N.d, N.s, N.m, N.l, y, rfl, h31.keeps, fun w38 h38 w39 h39 w40 b40 => vy.rr.oneC fun w41 b41 => ?_⟩
    have f41 := (((f31.ext h38).ext h39).bm b40).bl b41
    refine ⟨fun hne => absurd rfl hne, fun _ => ?_⟩
    refine ⟨decide (hullR M za = hullR M za), fun W hW => (laws_likeLocks_val l l' _ _ W ((f41.ext hW).rr (z := hullR M za) (by simp)) ((f41.ext hW).rr (z := hullR M za) (by simp))).calls, fun hb => (by simp at hb), fun _ => ?_⟩
    refine ⟨decide (LkOk N.c N.d N.s N.m N.l zy), fun W hW => (impl_IsLock_val N.c N.d N.s N.m N.l y zy W ((f41.ext hW).rr (by simp))).calls, decide (LkOk N.c N.d N.s N.m N.l zy), fun W hW => (spec_IsLock_val N.c N.d N.s N.m N.l y zy W ((f41.ext hW).rr (by simp))).calls, fun w140 h140 => ⟨fun hne => absurd rfl hne, fun _ => ?_⟩⟩
    have f140 := f41.ext h140
    refine ⟨fun _ => ⟨rfl, f140.1⟩, fun h0 => ?_⟩
    have h0 : hullCode M za = 0 := Classical.not_not.1 h0
    have hok : MkOk M.c M.d M.s M.m M.l ∧ hullOk M za := by
      unfold hullCode at h0
      split at h0
      · rename_i hm
        split at h0
        · rename_i hn; exact ⟨hm, hn⟩
        · cases h0
      · cases h0
    obtain ⟨hm, hh⟩ := hok
    obtain ⟨hne, hK, hl300⟩ := id hh
    have hc := hm.1
    have hd := hm.2.1
    obtain ⟨e1, _⟩ := hull_yes hm hh
    rw [e1] at f140
    have hlk := hull_lk hm hh
    have hHl := hullL_length M za
    -- every key opens it
    refine ⟨fun i W => i ≤ za.length ∧ Ext w140 W, fun i _ => za.length - i, ⟨0, rfl, Nat.zero_le _, .refl _⟩, ?_⟩
    rintro i W ⟨hi, hW⟩
    have fW := f140.ext hW
    refine (fW.rr (u := p) (z := za) (by simp)).len ⟨fun hlt => ?_, fun hge => ?_⟩
    · have hlt' : i < za.length := by omega
      refine (fW.rr (u := p) (z := za) (by simp)).get i rfl hlt' fun u hu => ?_
      have hKi := hK _ (List.getElem_mem hlt')
      have hkl : (za[i].length : Int) = M.c := hKi.1
      have hop : Opn (hullL M za) za[i] za[i].length := fun j hj => by
        have hj' : j < (hullL M za).length := by omega
        rw [List.getD, List.getElem?_eq_getElem hj', Option.getD_some, hull_at za hj']
        exact hull_has (List.getElem_mem hlt') hKi (by omega)
      have hcode : opCode M.c M.d M.s M.m M.l (hullL M za) za[i] = 0 := by unfold opCode; rw [if_pos hlk, if_pos hKi]
      have hr : opensR M.c M.d M.s M.m M.l (hullL M za) za[i] = .tuple #[.bool true, .int .i64 0] := by unfold opensR; rw [if_pos hcode, decide_eq_true hop]
      refine ⟨true, 0, fun W1 e1 => ?_, fun W1 e1 => ⟨fun hne => absurd rfl hne, fun _ => ⟨fun hb => (by cases hb), fun _ => ⟨by unfold I64; omega, i + 1, rfl, ⟨hlt', hW.trans e1⟩, by simp only; omega⟩⟩⟩⟩
      have := impl_Opens_val M.c M.d M.s M.m M.l l u (hullL M za) za[i] W1 ((fW.ext e1).rr (by simp)) (hu.ext e1)
      rw [hr] at this
      exact this.calls
    -- it has only their cuts
    refine ⟨fun c W' => c ≤ (hullL M za).length ∧ Ext W W', fun c _ => (hullL M za).length - c, ⟨0, rfl, Nat.zero_le _, .refl _⟩, ?_⟩
    rintro c W1 ⟨hcl, hW1⟩
    have f1 := fW.ext hW1
    have r1 : RR W1 l' (hullL M za) := f1.rr (by simp)
    refine r1.len ⟨fun hlt => ?_, fun hge => ?_⟩
    · have hlt' : c < (hullL M za).length := by omega
      have hrow := hull_at za hlt'
      refine ⟨fun j W' => j ≤ (hullL M za)[c].length ∧ Ext W1 W', fun j _ => (hullL M za)[c].length - j, ⟨0, rfl, Nat.zero_le _, .refl _⟩, ?_⟩
      rintro j W2 ⟨hj, hW2⟩
      have f2 := f1.ext hW2
      have r2 : RR W2 l' (hullL M za) := f2.rr (by simp)
      have hfl := filt_len (pH za c) M.d.toNat
      have hjl : (hullL M za)[c].length ≤ M.d.toNat := by rw [hrow]; exact hfl
      refine r2.get c rfl hlt' fun u hu => hu.len ⟨fun hlj => ?_, fun hgj => ⟨by unfold I64; omega, c + 1, rfl, ⟨hlt', hW1.trans hW2⟩, by simp only; omega⟩⟩
      have hlj' : j < (hullL M za)[c].length := by omega
      refine ⟨fun s W' => s.1 ≤ za.length ∧ s.2 = pH (za.take s.1) c (hullL M za)[c][j] ∧ Ext W2 W', fun s _ => za.length - s.1, ⟨(0, false), rfl, rfl, Nat.zero_le _, by simp [pH], .refl _⟩, ?_⟩
      rintro ⟨k, t⟩ W3 ⟨hk, ht, hW3⟩
      simp only at hk ht
      subst ht
      have f3 := f2.ext hW3
      refine (f3.rr (u := p) (z := za) (by simp)).len ⟨fun hlk => ?_, fun hgk => ?_⟩
      · have hlk' : k < za.length := by simp only at hlk; omega
        have hKk := (hK _ (List.getElem_mem hlk')).1
        refine ⟨fun hy W4 e4 => ⟨by unfold I64; simp only; omega, (k + 1, true), rfl, rfl, ⟨hlk', ?_, hW3.trans e4⟩, by simp only; omega⟩, fun hn => ?_⟩
        · simp only at hy ⊢
          rw [pH_succ hlk', hy, Bool.true_or]
        · refine (f3.rr (u := p) (z := za) (by simp)).get k rfl hlk' fun q hq => hq.get c rfl (by omega) ?_
          refine (f3.rr (u := l') (z := hullL M za) (by simp)).get c rfl hlt' fun q2 hq2 => hq2.get j rfl hlj' fun W4 e4 => ?_
          refine ⟨by unfold I64; simp only; omega, (k + 1, decide (za[k][c]'(by omega) = (hullL M za)[c][j])), rfl, rfl, ⟨hlk', ?_, hW3.trans e4⟩, by simp only; omega⟩
          simp only at hn ⊢
          rw [pH_succ hlk', hn, Bool.false_or, getD_get]
      · have hke : k = za.length := by simp only at hgk; omega
        subst hke
        rw [List.take_of_length_le (Nat.le_refl _)]
        have hp : pH za c (hullL M za)[c][j] = true := by
          have hmem := List.getElem_mem hlj'
          have hsub : ∀ x ∈ (hullL M za)[c], pH za c x = true := by
            rw [hrow]
            intro x hx
            unfold filt at hx
            exact (List.mem_filter.1 hx).2
          exact hsub _ hmem
        rw [hp]
        exact ⟨fun hb => (by cases hb), fun _ => ⟨by unfold I64; omega, j + 1, rfl, ⟨hlj', hW2.trans hW3⟩, by simp only; omega⟩⟩
    · refine (impl_IsLock_val M.c M.d M.s M.m M.l l (hullL M za) W1 (f1.rr (by simp))).call fun W2 e2 => ⟨_, rfl, e2.keeps, ?_, (f1.ext e2).1⟩
      rw [decide_eq_true hlk]))
set_option linter.unusedSimpArgs false in
theorem readable : ∀ t ∈ Try.f9.params.toList, Try.prog.readableRec t = true ∧ t < Try.prog.types.size := by
  rw [Try.params9]
  simp only [List.mem_cons, List.not_mem_nil, or_false, forall_eq_or_imp, forall_eq]
  exact ⟨by kernel_rfl, of_decide_eq_true (by kernel_rfl)⟩

set_option maxRecDepth 100000 in
theorem lifted (os : Os) (started : os.Started) (H : Type) (enc : TypeId × Value → H) :
    ReturnsInHanded {} Try.checked os 9 .any (Rows.fnHullsSpec.pre6 enc Try.prog Try.f9 Rows.fnHullsRow.domain false) (Rows.fnHullsSpec.post enc Try.prog Try.f9 false true false false) := by
  refine returnsInHanded_of_change (C := Try.checked) ownKnobNone started (by kernel_rfl) Try.func9
    (ChangeSpec.witness6 (enc := enc) (C := Try.checked) false ⟨#[], #[.slice none 0 0], []⟩ 8 (by kernel_rfl) (by kernel_rfl) (by kernel_rfl) (by kernel_rfl)) ?_
  intro W base args ds gs before hval0 hW hcnd _
  have hval : ∀ (j : Nat) t v, Try.f9.params[j]? = some t → args[j]? = some v → Value.okWide Try.prog W .any base t v := hval0
  have hW' := hW
  obtain ⟨p, q, hA0, hV, rfl, hfz, hnd⟩ := hW
  have hA1 : DataW.TrodAll enc Try.prog W 0 (fun _ => true) true Try.f9.params.toList args.toList ds p := hA0
  have hA := hA1
  rw [Try.params9] at hA hval
  obtain ⟨v0, vs0, d0, ds0, p0, q0, hargs, rfl, rfl, h0, r0⟩ := trodAll_cons hA
  obtain ⟨rfl, rfl, rfl⟩ := trodAll_nil r0
  obtain rfl : args = #[v0] := by cases args; simp_all
  obtain ⟨rfl, rfl⟩ := trodVars_none hV
  obtain ⟨z0, hz0⟩ := open_RB Try.underlying22 Try.underlying5 (by kernel_rfl) (hval 0 22 v0 rfl rfl) h0
  clear hA0 hval0
  refine (Val.calls (walk v0 z0 W hz0)).mono fun e W' ⟨he, hg⟩ => ?_
  subst he
  exact ⟨_, rfl, law_post laidOut readable hW' hA1 Try.underlying4 rfl rfl rfl hg⟩

theorem proved : Rows.FnHullsSaid :=
  OpenClaim.holds_of_wide 9 Try.f9 rfl rfl rfl rfl rfl rfl rfl ⟨rfl, rfl, rfl, rfl, rfl⟩ rfl rfl rfl rfl rfl (by kernel_rfl) Try.func9 (by kernel_rfl)
    (of_decide_eq_true (by kernel_rfl)) (by unfold Func.isWrapper; first | (rw [if_pos (by decide +kernel)]; kernel_rfl) | (rw [if_neg (by decide +kernel)]; exact ⟨rfl, rfl⟩))
    (fun os started H enc _ => lifted os started H enc)

end Go.Proofs.Ytccekkkiaebnmaa.lawFnHulls
