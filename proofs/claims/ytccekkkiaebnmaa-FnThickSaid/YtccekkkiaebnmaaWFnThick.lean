/- The law FnThick: thickened locks have no thin wafers, and no key opens them that does not open the lock; the stock of locks is counted. No condition. -/
import Derived.Test.YtccekkkiaebnmaaLawsC
import Derived.Test.YtccekkkiaebnmaaDraw8
import Derived.Test.YtccekkkiaebnmaaL05f
import Derived.Test.YtccekkkiaebnmaaP05
set_option linter.unusedVariables false
namespace Go.Proofs
open Go.Sx Go.RowKit
def laws_sum_A (v : Value) (w : World) : Nat → Ann := fun κ => match κ with
  | 0 => { σ := Nat × Int, sli := [4, 3], slc := fun s => [SV.v (Value.int .i64 (s.1 : Int)), SV.v (Value.int .i64 s.2)], bxi := [], bxc := fun s => [], inv := fun s W => True, μ := fun s W => 0, free := true }
  | _ => { σ := Unit, sli := [], slc := fun _ => [], bxi := [], bxc := fun _ => [], inv := fun _ _ => False, μ := fun _ _ => 0 }
abbrev laws_sum_k0 (v : Value) (s2 : Nat × Int) (w3 : World) (J4 : (Nat × Int) → World → Prop) (m5 : (Nat × Int) → World → Nat) (x7 : Int) (x8 : Int) (w12 : World) : Prop :=
  IxV 1 v x8 (fun ad13 => ∃ n14 : Int, LdV w12 (Value.pointer (some ad13)) (Value.int .i64 n14) ∧ I64 (x7 + n14) ∧ I64 (x8 + 1) ∧ ∃ s15 : (Nat × Int), (Value.int .i64 (x8 + 1)) = (Value.int .i64 (s15.1 : Int)) ∧ (Value.int .i64 (x7 + n14)) = (Value.int .i64 s15.2) ∧ (J4 s15 w12) ∧ (m5 s15 w12) < (m5 s2 w3))
def laws_sum_vc (v : Value) (w : World) (Post : Value → World → Prop) : Prop :=
  (∃ (J4 : (Nat × Int) → World → Prop) (m5 : (Nat × Int) → World → Nat), ((∃ s1 : (Nat × Int), (Value.int .i64 0) = (Value.int .i64 (s1.1 : Int)) ∧ (Value.int .i64 0) = (Value.int .i64 s1.2) ∧ (J4 s1 w)) ∧ ∀ (s2 : (Nat × Int)) (w3 : World), (J4 s2 w3) → LenV v (fun n6 => ((((s2.1 : Int) < n6) → (laws_sum_k0 v s2 w3 J4 m5 s2.2 (s2.1 : Int) w3)) ∧ (¬ ((s2.1 : Int) < n6) → Post (Value.int .i64 s2.2) w3)))))
theorem laws_sum_eq (v : Value) (w : World) (Post : Value → World → Prop) : denF Try.prog [] (laws_sum_A v w) 34 [v] w Post = laws_sum_vc v w Post := by kernel_rfl
set_option maxRecDepth 100000 in
theorem laws_sum_calls (v : Value) (w : World) (Post : Value → World → Prop) (hvc : laws_sum_vc v w Post) : Ret Try.prog 34 #[v] w Post :=
  Ret.of (denF_sound mixed (Eq.mpr (laws_sum_eq v w Post) hvc))

theorem laws_sum_val (v : Value) (xs : List Int) (w : World) (h : RI w v xs) (hb : ∀ k, k ≤ xs.length → I64 (xs.take k).sum) : Val Try.prog 34 #[v] w (.int .i64 xs.sum) :=
  Ret.val (laws_sum_calls v w _ (by
    unfold laws_sum_vc
    have hbd := h.bound
    refine ⟨fun s W => s.1 ≤ xs.length ∧ s.2 = (xs.take s.1).sum ∧ Ext w W, fun s _ => xs.length - s.1, ⟨(0, 0), rfl, rfl, Nat.zero_le _, by simp, .refl w⟩, ?_⟩
    rintro ⟨k, n⟩ w1 ⟨hk, hn, h1⟩
    simp only at hk hn
    subst hn
    refine (h.ext h1).len ⟨fun hlt => ?_, fun hge => ?_⟩
    · have hlt' : k < xs.length := by simp only at hlt; omega
      have hs : (xs.take (k + 1)).sum = (xs.take k).sum + xs[k] := by
        rw [take_snoc xs k hlt', List.sum_append]
        simp
      have := hb (k + 1) hlt'
      rw [hs] at this
      refine (h.ext h1).get k rfl hlt' ⟨this, by unfold I64; simp only; omega, (k + 1, (xs.take (k + 1)).sum), rfl, ieq hs.symm, ⟨hlt', rfl, h1⟩, by simp only; omega⟩
    · have : k = xs.length := by simp only at hge; omega
      subst this
      rw [List.take_length]
      exact ⟨rfl, h1⟩))
theorem take_sum_le {xs : List Int} (h : ∀ x ∈ xs, 0 ≤ x) : ∀ k, 0 ≤ (xs.take k).sum ∧ (xs.take k).sum ≤ xs.sum := by
  induction xs with
  | nil => intro k; simp
  | cons x xs ih =>
    intro k
    have hx := h x (List.mem_cons_self ..)
    have ih := ih fun y hy => h y (List.mem_cons_of_mem _ hy)
    have h0 := ih 0
    simp only [List.take_zero, List.sum_nil] at h0
    cases k with
    | zero => simp only [List.take_zero, List.sum_nil, List.sum_cons]; omega
    | succ k =>
      have := ih k
      simp only [List.take_succ_cons, List.sum_cons]
      omega
theorem stock_bd {M : Mk} {lss : List (List (List Int))} (hL : LksOk M.c M.d M.s M.m M.l lss) : (∀ x ∈ (stock M.d lss).b, 0 ≤ x) ∧ ∀ x ∈ (stock M.d lss).d, 0 ≤ x := by
  have bb : ∀ (xs : List Int) (k : Int), (∀ x ∈ xs, 0 ≤ x) → ∀ x ∈ bump xs k, 0 ≤ x := by
    intro xs k h x hx
    rcases List.mem_or_eq_of_mem_set hx with hx | rfl
    · exact h x hx
    · rcases Nat.lt_or_ge k.toNat xs.length with hk | hk
      · have := h _ (List.getElem_mem hk)
        rw [getD_get hk]
        omega
      · rw [List.getD, List.getElem?_eq_none hk]
        decide
  have aa : ∀ (sts : List (List Int)) (T : Tri), (∀ x ∈ T.b, 0 ≤ x) ∧ (∀ x ∈ T.d, 0 ≤ x) → (∀ x ∈ (T.adds sts).b, 0 ≤ x) ∧ ∀ x ∈ (T.adds sts).d, 0 ≤ x := by
    intro sts
    induction sts with
    | nil => intro T h; exact h
    | cons st sts ih => intro T h; exact ih (T.add st) ⟨bb _ _ h.1, bb _ _ h.2⟩
  have ss : ∀ (l : List (List (List Int))) (T : Tri), (∀ x ∈ T.b, 0 ≤ x) ∧ (∀ x ∈ T.d, 0 ≤ x) → (∀ x ∈ (l.foldl (fun T z => T.adds (z.map (stack M.d))) T).b, 0 ≤ x) ∧ ∀ x ∈ (l.foldl (fun T z => T.adds (z.map (stack M.d))) T).d, 0 ≤ x := by
    intro l
    induction l with
    | nil => intro T h; exact h
    | cons z l ih => intro T h; exact ih _ (aa _ T h)
  refine ss lss (tri0 M.d) ⟨fun x hx => ?_, fun x hx => ?_⟩
  · have := (List.mem_replicate.1 hx).2; omega
  · have := (List.mem_replicate.1 hx).2; omega
abbrev laws_FnThick_k0 (w : World) (Post : Value → World → Prop) (x1252 : Int) (x1255 : Value) (x1442 : Int) (x1443 : Int) (x1444 : Int) (x1445 : Int) (x1446 : Int) (x1447 : Value) (x1448 : Value) (w1455 : World) : Prop :=
  Calls Try.prog 29 #[(Value.agg #[(Value.int .i64 x1442), (Value.int .i64 x1443), (Value.int .i64 x1444), (Value.int .i64 x1445), (Value.int .i64 x1446)]), (Value.agg #[x1448]), (Value.int .i64 x1252)] w1455 (fun e1456 w1457 => ∃ u1458 : Value, ∃ n1459 : Int, e1456 = .returned (Value.tuple #[u1458, (Value.int .i64 n1459)]) ∧ Keeps w.heap.size [25, 28, 28, 28, 25] w1455 w1457 ∧ Calls Try.prog 12 #[(Value.agg #[(Value.int .i64 x1442), (Value.int .i64 x1443), (Value.int .i64 x1444), (Value.int .i64 x1445), (Value.int .i64 x1446)]), (Value.agg #[x1448]), (Value.agg #[x1447])] w1457 (fun e1460 w1461 => ∃ u1462 : Value, ∃ n1463 : Int, e1460 = .returned (Value.tuple #[(Value.agg #[u1462]), (Value.int .i64 n1463)]) ∧ Keeps w.heap.size [25, 28, 28, 28, 25] w1457 w1461 ∧ ∀ w1464 : World, Ext w1461 w1464 → oneC u1462 (∀ w1465 : World, BxS w.heap.size 28 w1464 w1465 → (((n1459 = (0 : Int)) → LenV u1458 (fun n1466 => (((n1466 = (0 : Int)) → (((n1463 = (0 : Int)) → Calls Try.prog 16 #[(Value.agg #[u1462]), (Value.agg #[x1448])] w1465 (fun e1467 w1468 => ∃ b1469 : Bool, e1467 = .returned (Value.bool b1469) ∧ Keeps w.heap.size [25, 28, 28, 28, 25, 28] w1465 w1468 ∧ ((b1469 = true → LenV x1255 (fun n1470 => Calls Try.prog 16 #[(Value.agg #[x1448]), (Value.agg #[x1447])] w1468 (fun e1471 w1472 => ∃ b1473 : Bool, e1471 = .returned (Value.bool b1473) ∧ Keeps w.heap.size [25, 28, 28, 28, 25, 28] w1468 w1472 ∧ Post (Value.bool (decide ((decide ((0 : Int) < n1470)) = (!b1473)))) w1472))) ∧ (b1469 = false → Post (Value.bool false) w1468)))) ∧ (¬ (n1463 = (0 : Int)) → Post (Value.bool false) w1465))) ∧ (¬ (n1466 = (0 : Int)) → Post (Value.bool false) w1465)))) ∧ (¬ (n1459 = (0 : Int)) → Post (Value.bool false) w1465)))))
abbrev laws_FnThick_k1 (w : World) (Post : Value → World → Prop) (x1048 : Int) (x1049 : Int) (x1051 : Value) (x1237 : Int) (x1238 : Int) (x1239 : Int) (x1240 : Int) (x1241 : Int) (x1242 : Value) (x1243 : Value) (w1250 : World) : Prop :=
  (((x1049 ≠ (0 : Int)) → Post (Value.bool true) w1250) ∧ (¬ (x1049 ≠ (0 : Int)) → (laws_FnThick_k0 w Post x1048 x1051 x1237 x1238 x1239 x1240 x1241 x1242 x1243 w1250)))
abbrev laws_FnThick_k2 (w : World) (Post : Value → World → Prop) (n837 : Int) (n841 : Int) (x844 : Int) (x845 : Int) (x847 : Value) (x1033 : Int) (x1034 : Int) (x1035 : Int) (x1036 : Int) (x1037 : Int) (x1038 : Value) (x1039 : Value) (w1046 : World) : Prop :=
  (((n837 ≠ n841) → Post (Value.bool false) w1046) ∧ (¬ (n837 ≠ n841) → (laws_FnThick_k1 w Post x844 x845 x847 x1033 x1034 x1035 x1036 x1037 x1038 x1039 w1046)))
abbrev laws_FnThick_k3 (w : World) (Post : Value → World → Prop) (x436 : Int) (x437 : Int) (x439 : Value) (x443 : Value) (x444 : Value) (x446 : Value) (x447 : Int) (x614 : Int) (x615 : Int) (x616 : Int) (x617 : Int) (x618 : Int) (x619 : Value) (x620 : Value) (x622 : Int) (w627 : World) : Prop :=
  (((x447 = (0 : Int)) → ∃ n631 : Int, (∀ w628 : World, Ext w627 w628 → Calls Try.prog 34 #[x444] w628 (fun e629 w630 => e629 = .returned (Value.int .i64 n631) ∧ Ext w628 w630)) ∧ LenV x443 (fun n632 => I64 (n632 * x622) ∧ (((n631 ≠ (n632 * x622)) → ∀ w633 : World, Ext w627 w633 → Post (Value.bool false) w633) ∧ (¬ (n631 ≠ (n632 * x622)) → ∃ n837 : Int, (∀ w834 : World, Ext w627 w834 → Calls Try.prog 34 #[x446] w834 (fun e835 w836 => e835 = .returned (Value.int .i64 n837) ∧ Ext w834 w836)) ∧ ∃ n841 : Int, (∀ w838 : World, Ext w627 w838 → Calls Try.prog 34 #[x444] w838 (fun e839 w840 => e839 = .returned (Value.int .i64 n841) ∧ Ext w838 w840)) ∧ ∀ w842 : World, Ext w627 w842 → (laws_FnThick_k2 w Post n837 n841 x436 x437 x439 x614 x615 x616 x617 x618 x619 x620 w842))))) ∧ (¬ (x447 = (0 : Int)) → ∀ w1474 : World, Ext w627 w1474 → (laws_FnThick_k1 w Post x436 x437 x439 x614 x615 x616 x617 x618 x619 x620 w1474)))
abbrev laws_FnThick_k4 (w : World) (Post : Value → World → Prop) (x243 : Int) (x244 : Int) (x246 : Value) (x250 : Value) (x251 : Value) (x253 : Value) (x254 : Int) (x420 : Bool) (x421 : Int) (x422 : Int) (x423 : Int) (x424 : Int) (x425 : Int) (x426 : Value) (x427 : Value) (x429 : Int) (w434 : World) : Prop :=
  ((x420 = true → Post (Value.bool false) w434) ∧ (x420 = false → (laws_FnThick_k3 w Post x243 x244 x246 x250 x251 x253 x254 x421 x422 x423 x424 x425 x426 x427 x429 w434)))
abbrev laws_FnThick_k5 (w : World) (Post : Value → World → Prop) (x4 : Value) (w7 : World) : Prop :=
  Calls Try.prog 26 #[x4] w7 (fun e8 w9 => ∃ n10 : Int, ∃ n11 : Int, ∃ n12 : Int, ∃ n13 : Int, ∃ n14 : Int, ∃ u15 : Value, ∃ n16 : Int, e8 = .returned (Value.tuple #[(Value.agg #[(Value.int .i64 n10), (Value.int .i64 n11), (Value.int .i64 n12), (Value.int .i64 n13), (Value.int .i64 n14)]), (Value.agg #[u15]), (Value.int .i64 n16)]) ∧ Keeps w.heap.size [] w7 w9 ∧ ∀ w17 : World, Ext w9 w17 → ∀ w18 : World, Ext w17 w18 → ∀ w19 : World, BxS w.heap.size 25 w18 w19 → oneC u15 (∀ w20 : World, BxS w.heap.size 28 w19 w20 → Calls Try.prog 27 #[(Value.agg #[(Value.int .i64 n10), (Value.int .i64 n11), (Value.int .i64 n12), (Value.int .i64 n13), (Value.int .i64 n14)]), (Value.agg #[u15]), (Value.int .i64 n16)] w20 (fun e21 w22 => ∃ u23 : Value, ∃ n24 : Int, e21 = .returned (Value.tuple #[(Value.agg #[u23]), (Value.int .i64 n24)]) ∧ Keeps w.heap.size [25, 28] w20 w22 ∧ ∀ w25 : World, Ext w22 w25 → oneC u23 (∀ w26 : World, BxS w.heap.size 28 w25 w26 → Calls Try.prog 28 #[(Value.agg #[(Value.int .i64 n10), (Value.int .i64 n11), (Value.int .i64 n12), (Value.int .i64 n13), (Value.int .i64 n14)]), (Value.agg #[u15]), (Value.int .i64 n16)] w26 (fun e27 w28 => ∃ u29 : Value, ∃ n30 : Int, e27 = .returned (Value.tuple #[(Value.agg #[u29]), (Value.int .i64 n30)]) ∧ Keeps w.heap.size [25, 28, 28] w26 w28 ∧ ∀ w31 : World, Ext w28 w31 → oneC u29 (∀ w32 : World, BxS w.heap.size 28 w31 w32 → Calls Try.prog 29 #[(Value.agg #[(Value.int .i64 n10), (Value.int .i64 n11), (Value.int .i64 n12), (Value.int .i64 n13), (Value.int .i64 n14)]), (Value.agg #[u15]), (Value.int .i64 n16)] w32 (fun e33 w34 => ∃ u35 : Value, ∃ n36 : Int, e33 = .returned (Value.tuple #[u35, (Value.int .i64 n36)]) ∧ Keeps w.heap.size [25, 28, 28, 28] w32 w34 ∧ Calls Try.prog 30 #[(Value.agg #[(Value.int .i64 n10), (Value.int .i64 n11), (Value.int .i64 n12), (Value.int .i64 n13), (Value.int .i64 n14)]), (Value.agg #[u15]), (Value.int .i64 n16)] w34 (fun e37 w38 => ∃ u39 : Value, ∃ n40 : Int, e37 = .returned (Value.tuple #[u39, (Value.int .i64 n40)]) ∧ Keeps w.heap.size [25, 28, 28, 28] w34 w38 ∧ Calls Try.prog 31 #[x4] w38 (fun e41 w42 => ∃ n43 : Int, ∃ n44 : Int, ∃ n45 : Int, ∃ n46 : Int, ∃ n47 : Int, ∃ u48 : Value, e41 = .returned (Value.tuple #[(Value.agg #[(Value.int .i64 n43), (Value.int .i64 n44), (Value.int .i64 n45), (Value.int .i64 n46), (Value.int .i64 n47)]), u48]) ∧ Keeps w.heap.size [25, 28, 28, 28] w38 w42 ∧ ∀ w49 : World, Ext w42 w49 → ∀ w50 : World, BxS w.heap.size 25 w49 w50 → Calls Try.prog 32 #[(Value.agg #[(Value.int .i64 n43), (Value.int .i64 n44), (Value.int .i64 n45), (Value.int .i64 n46), (Value.int .i64 n47)]), u48] w50 (fun e51 w52 => ∃ u53 : Value, ∃ u54 : Value, ∃ u55 : Value, ∃ n56 : Int, e51 = .returned (Value.tuple #[u53, u54, u55, (Value.int .i64 n56)]) ∧ Keeps w.heap.size [25, 28, 28, 28, 25] w50 w52 ∧ Calls Try.prog 33 #[(Value.agg #[(Value.int .i64 n43), (Value.int .i64 n44), (Value.int .i64 n45), (Value.int .i64 n46), (Value.int .i64 n47)]), u48] w52 (fun e57 w58 => ∃ u59 : Value, ∃ u60 : Value, ∃ u61 : Value, ∃ n62 : Int, e57 = .returned (Value.tuple #[u59, u60, u61, (Value.int .i64 n62)]) ∧ Keeps w.heap.size [25, 28, 28, 28, 25] w52 w58 ∧ (((n24 ≠ n30) → Post (Value.bool false) w58) ∧ (¬ (n24 ≠ n30) → Calls Try.prog 16 #[(Value.agg #[u23]), (Value.agg #[u29])] w58 (fun e227 w228 => ∃ b229 : Bool, e227 = .returned (Value.bool b229) ∧ Keeps w.heap.size [25, 28, 28, 28, 25] w58 w228 ∧ (((!b229) = true → Post (Value.bool false) w228) ∧ ((!b229) = false → (((n36 ≠ n40) → Post (Value.bool false) w228) ∧ (¬ (n36 ≠ n40) → Calls Try.prog 24 #[u35, u39] w228 (fun e230 w231 => ∃ b232 : Bool, e230 = .returned (Value.bool b232) ∧ Keeps w.heap.size [25, 28, 28, 28, 25] w228 w231 ∧ (((!b232) = true → Post (Value.bool false) w231) ∧ ((!b232) = false → (((n56 ≠ n62) → Post (Value.bool false) w231) ∧ (¬ (n56 ≠ n62) → Calls Try.prog 24 #[u53, u59] w231 (fun e233 w234 => ∃ b235 : Bool, e233 = .returned (Value.bool b235) ∧ Keeps w.heap.size [25, 28, 28, 28, 25] w231 w234 ∧ (((!b235) = true → Post (Value.bool false) w234) ∧ ((!b235) = false → Calls Try.prog 24 #[u54, u60] w234 (fun e236 w237 => ∃ b238 : Bool, e236 = .returned (Value.bool b238) ∧ Keeps w.heap.size [25, 28, 28, 28, 25] w234 w237 ∧ (((!b238) = true → Post (Value.bool false) w237) ∧ ((!b238) = false → Calls Try.prog 24 #[u55, u61] w237 (fun e239 w240 => ∃ b241 : Bool, e239 = .returned (Value.bool b241) ∧ Keeps w.heap.size [25, 28, 28, 28, 25] w237 w240 ∧ (laws_FnThick_k4 w Post n16 n24 u35 u48 u53 u55 n56 (!b241) n10 n11 n12 n13 n14 u15 u23 n43 w240)))))))))))))))))))))))))))))))
def laws_FnThick_vc (v : Value) (w : World) (Post : Value → World → Prop) : Prop :=
  Calls Try.prog 10 #[v] w (fun e1 w2 => ∃ b3 : Bool, e1 = .returned (Value.bool b3) ∧ Keeps w.heap.size [] w w2 ∧ ((b3 = true → Post (Value.bool true) w2) ∧ (b3 = false → (laws_FnThick_k5 w Post v w2))))
theorem laws_FnThick_eq (v : Value) (w : World) (Post : Value → World → Prop) : denF Try.prog [] noAnn 5 [v] w Post = laws_FnThick_vc v w Post := by kernel_rfl
set_option maxRecDepth 100000 in
theorem laws_FnThick_calls (v : Value) (w : World) (Post : Value → World → Prop) (hvc : laws_FnThick_vc v w Post) : Ret Try.prog 5 #[v] w Post :=
  Ret.of (denF_sound mixed (Eq.mpr (laws_FnThick_eq v w Post) hvc))

end Go.Proofs
namespace Go.Proofs.Ytccekkkiaebnmaa.lawFnThick
open Go.Proofs Go.Sx Go.RowKit Go.ChangeShapes Go.WideShapes Go.ChangeAt Go.Joins
theorem walk (v : Value) (zs : List Int) (w : World) (h : RB w v zs) : Val Try.prog 5 #[v] w (.bool true) :=
  Ret.val (laws_FnThick_calls v w _ (by
    unfold laws_FnThick_vc
    refine (laws_big_ret v zs w h).call ?_
    rintro _ w1 ⟨⟨b, rfl⟩, h1⟩
    refine ⟨b, rfl, h1.keeps, fun _ => ⟨rfl, h1⟩, fun _ => ?_⟩
    refine (spec_DrawThickenLock_ret v zs w1 (h.ext h1)).call ?_
    rintro _ w9 ⟨M, l, za, n, rfl, _, va, h9⟩
    have f9 := (Fx.start (h1.trans h9)).addV va
    refine ⟨M.c, M.d, M.s, M.m, M.l, l, n, rfl, h9.keeps, fun w17 h17 w18 h18 w19 b19 => va.rr.oneC fun w20 b20 => ?_⟩
    have f20 := (((f9.ext h17).ext h18).bm b19).bl b20
    refine (impl_ThickenLock_ret M l za n w20 (f20.rr (by simp))).call ?_
    rintro _ w22 ⟨x, rfl, ox, h22⟩
    refine ⟨x, _, rfl, h22.keeps, fun w25 h25 => ox.rr.oneC fun w26 b26 => ?_⟩
    have f26 := (((f20.ext h22).addR ox).ext h25).bl b26
    refine (spec_ThickenLock_ret M l za n w26 (f26.rr (by simp))).call ?_
    rintro _ w28 ⟨x', rfl, ox', h28⟩
    refine ⟨x', _, rfl, h28.keeps, fun w31 h31 => ox'.rr.oneC fun w32 b32 => ?_⟩
    have f32 := (((f26.ext h28).addR ox').ext h31).bl b32
    refine (impl_ThinChambers_ret M.c M.d M.s M.m M.l l za n w32 (f32.rr (by simp))).call ?_
    rintro _ w34 ⟨c, rfl, oc, h34⟩
    have f34 := (f32.ext h34).addI oc
    refine ⟨c, _, rfl, h34.keeps, ?_⟩
    refine (spec_ThinChambers_ret M.c M.d M.s M.m M.l l za n w34 (f34.rr (by simp))).call ?_
    rintro _ w38 ⟨c', rfl, oc', h38⟩
    have f38 := (f34.ext h38).addI oc'
    refine ⟨c', _, rfl, h38.keeps, ?_⟩
    refine (spec_DrawStockOf_ret v zs w38 (h.ext f38.1)).call ?_
    rintro _ w42 ⟨Y, q, lss, rfl, oq, h42⟩
    have f42 := f38.ext h42
    refine ⟨Y.c, Y.d, Y.s, Y.m, Y.l, q, rfl, h42.keeps, fun w49 h49 w50 b50 => ?_⟩
    have f50 := (f42.ext h49).bm b50
    have oq := (oq.ext h49).bxs b50 (by decide) (by decide) (by decide)
    refine (impl_StockOf_ret Y q lss w50 oq.rls).call ?_
    rintro _ w52 ⟨a1, a2, a3, N, rfl, ta, _, h52⟩
    have f52 := (((f50.ext h52).addI ta.b.1).addI ta.w.1).addI ta.d.1
    refine ⟨a1, a2, a3, _, rfl, h52.keeps, ?_⟩
    refine (spec_StockOf_ret Y q lss w52 (oq.rls.ext h52)).call ?_
    rintro _ w58 ⟨b1, b2, b3, N', rfl, tb, _, h58⟩
    have f58 := (((f52.ext h58).addI tb.b.1).addI tb.w.1).addI tb.d.1
    refine ⟨b1, b2, b3, _, rfl, h58.keeps, fun hne => absurd rfl hne, fun _ => ?_⟩
    refine (laws_likeLocks_val x x' _ _ w58 (f58.rr (z := thickR M za n) (by simp)) (f58.rr (z := thickR M za n) (by simp))).call fun w228 h228 => ⟨_, rfl, h228.keeps, fun hb => (by simp at hb), fun _ => ⟨fun hne => absurd rfl hne, fun _ => ?_⟩⟩
    have f228 := f58.ext h228
    refine (laws_likeInts_val c c' _ _ w228 (f228.ri (z := thinR M.c M.d M.s M.m M.l za n) (by simp)) (f228.ri (z := thinR M.c M.d M.s M.m M.l za n) (by simp))).call fun w231 h231 => ⟨_, rfl, h231.keeps, fun hb => (by simp at hb), fun _ => ⟨fun hne => absurd rfl hne, fun _ => ?_⟩⟩
    have f231 := f228.ext h231
    refine (laws_likeInts_val a1 b1 _ _ w231 (f231.ri (z := (stkR Y lss).b) (by simp)) (f231.ri (z := (stkR Y lss).b) (by simp))).call fun w234 h234 => ⟨_, rfl, h234.keeps, fun hb => (by simp at hb), fun _ => ?_⟩
    have f234 := f231.ext h234
    refine (laws_likeInts_val a2 b2 _ _ w234 (f234.ri (z := (stkR Y lss).w) (by simp)) (f234.ri (z := (stkR Y lss).w) (by simp))).call fun w237 h237 => ⟨_, rfl, h237.keeps, fun hb => (by simp at hb), fun _ => ?_⟩
    have f237 := f234.ext h237
    refine (laws_likeInts_val a3 b3 _ _ w237 (f237.ri (z := (stkR Y lss).d) (by simp)) (f237.ri (z := (stkR Y lss).d) (by simp))).call fun w240 h240 => ⟨_, rfl, h240.keeps, fun hb => (by simp at hb), fun _ => ?_⟩
    have f240 := f237.ext h240
    have rq : RLs w240 q lss := oq.rls.ext (((((((h52.trans h58).trans h228).trans h231).trans h234).trans h237).trans h240))
    have last : ∀ W, Ext w240 W → laws_FnThick_k1 w (fun u w' => u = .bool true ∧ Ext w w') n (thinCode M.c M.d M.s M.m M.l za n) c M.c M.d M.s M.m M.l l x W := by
      intro W hW
      have fW := f240.ext hW
      refine ⟨fun _ => ⟨rfl, fW.1⟩, fun h0 => ?_⟩
      have h0 : thinCode M.c M.d M.s M.m M.l za n = 0 := Classical.not_not.1 h0
      obtain ⟨hk, n0, n1⟩ := thinCode_zero h0
      have ex : thickR M za n = za.map (thickS n) := by unfold thickR; rw [if_pos h0]
      have hx := thick_lk hk n0
      have hx0 : thinCode M.c M.d M.s M.m M.l (za.map (thickS n)) n = 0 := by unfold thinCode; rw [if_pos hx, if_pos ⟨n0, n1⟩]
      have rx : RR W x (za.map (thickS n)) := by have := fW.rr (u := x) (z := thickR M za n) (by simp); rwa [ex] at this
      refine (impl_ThinChambers_ret M.c M.d M.s M.m M.l x _ n W rx).call ?_
      rintro _ W1 ⟨d, rfl, od, e1⟩
      rw [hx0]
      have er : thinR M.c M.d M.s M.m M.l (za.map (thickS n)) n = [] := by unfold thinR; rw [if_pos hx0]; exact thinR_thick (M := M)
      rw [er] at od
      refine ⟨d, _, rfl, e1.keeps, ?_⟩
      have f1 := (fW.ext e1).addI od
      refine (impl_MeetLocks_ret M x l _ za W1 (rx.ext e1) (f1.rr (by simp))).call ?_
      rintro _ W2 ⟨y, rfl, oy, e2⟩
      obtain ⟨hmo, hme⟩ := meet_thick hk n0
      obtain ⟨g1, g2⟩ := meetR_yes (M := M) ⟨hx, hk⟩ hmo
      rw [g2]
      rw [g1, hme] at oy
      refine ⟨y, _, rfl, e2.keeps, fun W3 e3 => oy.rr.oneC fun W4 b4 => ?_⟩
      have f4 := (((f1.ext e2).addR oy).ext e3).bl b4
      have rx4 : RR W4 x (za.map (thickS n)) := by have := f4.rr (u := x) (z := thickR M za n) (by simp); rwa [ex] at this
      refine ⟨fun _ => (f4.ri (u := d) (z := []) (by simp)).len ⟨fun _ => ⟨fun _ => ?_, fun hn => absurd rfl hn⟩, fun hn => absurd rfl hn⟩, fun hn => absurd rfl hn⟩
      refine (laws_likeLocks_val y x _ _ W4 (f4.rr (z := za.map (thickS n)) (by simp)) rx4).call fun W5 e5 => ⟨_, rfl, e5.keeps, fun _ => ?_, fun hb => (by simp at hb)⟩
      have f5 := f4.ext e5
      refine (f5.ri (u := c) (z := thinR M.c M.d M.s M.m M.l za n) (by simp)).len ?_
      refine (laws_likeLocks_val x l _ _ W5 (rx4.ext e5) (f5.rr (z := za) (by simp))).call fun W6 e6 => ⟨_, rfl, e6.keeps, ?_, (f5.ext e6).1⟩
      have et : thinR M.c M.d M.s M.m M.l za n = thinsTo n za za.length := by unfold thinR; rw [if_pos h0]
      rw [et]
      refine beq_val (decide_eq_true ?_)
      have := thin_changes hk (n := n)
      rw [Bool.eq_iff_iff, decide_eq_true_iff, Bool.not_eq_true', decide_eq_false_iff_not, ← Ne, ← this]
      omega
    refine ⟨fun h0 => ?_, fun _ W hW => last W hW⟩
    have hL : LksOk Y.c Y.d Y.s Y.m Y.l lss ∧ lss.length ≤ 40 := by
      unfold stkCode at h0
      split at h0
      · rename_i hk
        split at h0
        · rename_i hn; exact ⟨hk, hn⟩
        · cases h0
      · cases h0
    obtain ⟨e1, _⟩ := stk_yes hL.1 hL.2
    obtain ⟨_, _, s1, s2⟩ := stock_sum hL.1 lss.length (Nat.le_refl _)
    rw [List.take_length] at s1 s2
    obtain ⟨p1, p2⟩ := stock_bd hL.1
    have hc := hL.1.1.1
    have hlen : (0 : Int) ≤ lss.length ∧ (lss.length : Int) ≤ 40 := by omega
    have hmul : 0 ≤ (lss.length : Int) * Y.c ∧ (lss.length : Int) * Y.c ≤ 240 := by
      refine ⟨Int.mul_nonneg hlen.1 (by omega), ?_⟩
      have := Int.mul_le_mul (a := (lss.length : Int)) (b := Y.c) (c := 40) (d := 6) hlen.2 (by omega) (by omega) (by omega)
      omega
    have rb : RI w240 a1 (stock Y.d lss).b := by have := f240.ri (u := a1) (z := (stkR Y lss).b) (by simp); rwa [e1] at this
    have rd : RI w240 a3 (stock Y.d lss).d := by have := f240.ri (u := a3) (z := (stkR Y lss).d) (by simp); rwa [e1] at this
    have ib : ∀ k, k ≤ (stock Y.d lss).b.length → I64 ((stock Y.d lss).b.take k).sum := fun k _ => by have := take_sum_le p1 k; unfold I64; omega
    have id : ∀ k, k ≤ (stock Y.d lss).d.length → I64 ((stock Y.d lss).d.take k).sum := fun k _ => by have := take_sum_le p2 k; unfold I64; omega
    refine ⟨(stock Y.d lss).b.sum, fun W hW => (laws_sum_val a1 _ W (rb.ext hW) ib).calls, rq.len ⟨by unfold I64; omega, fun hne => absurd s1 hne, fun _ => ?_⟩⟩
    refine ⟨(stock Y.d lss).d.sum, fun W hW => (laws_sum_val a3 _ W (rd.ext hW) id).calls, (stock Y.d lss).b.sum, fun W hW => (laws_sum_val a1 _ W (rb.ext hW) ib).calls, fun W hW => ⟨fun hne => absurd (by rw [s1, s2]) hne, fun _ => last W hW⟩⟩))
set_option linter.unusedSimpArgs false in
theorem readable : ∀ t ∈ Try.f5.params.toList, Try.prog.readableRec t = true ∧ t < Try.prog.types.size := by
  rw [Try.params5]
  simp only [List.mem_cons, List.not_mem_nil, or_false, forall_eq_or_imp, forall_eq]
  exact ⟨by kernel_rfl, of_decide_eq_true (by kernel_rfl)⟩

set_option maxRecDepth 100000 in
theorem lifted (os : Os) (started : os.Started) (H : Type) (enc : TypeId × Value → H) :
    ReturnsInHanded {} Try.checked os 5 .any (Rows.fnThickSpec.pre6 enc Try.prog Try.f5 Rows.fnThickRow.domain false) (Rows.fnThickSpec.post enc Try.prog Try.f5 false true false false) := by
  refine returnsInHanded_of_change (C := Try.checked) ownKnobNone started (by kernel_rfl) Try.func5
    (ChangeSpec.witness6 (enc := enc) (C := Try.checked) false ⟨#[], #[.slice none 0 0], []⟩ 8 (by kernel_rfl) (by kernel_rfl) (by kernel_rfl) (by kernel_rfl)) ?_
  intro W base args ds gs before hval0 hW hcnd _
  have hval : ∀ (j : Nat) t v, Try.f5.params[j]? = some t → args[j]? = some v → Value.okWide Try.prog W .any base t v := hval0
  have hW' := hW
  obtain ⟨p, q, hA0, hV, rfl, hfz, hnd⟩ := hW
  have hA1 : DataW.TrodAll enc Try.prog W 0 (fun _ => true) true Try.f5.params.toList args.toList ds p := hA0
  have hA := hA1
  rw [Try.params5] at hA hval
  obtain ⟨v0, vs0, d0, ds0, p0, q0, hargs, rfl, rfl, h0, r0⟩ := trodAll_cons hA
  obtain ⟨rfl, rfl, rfl⟩ := trodAll_nil r0
  obtain rfl : args = #[v0] := by cases args; simp_all
  obtain ⟨rfl, rfl⟩ := trodVars_none hV
  obtain ⟨z0, hz0⟩ := open_RB Try.underlying22 Try.underlying5 (by kernel_rfl) (hval 0 22 v0 rfl rfl) h0
  clear hA0 hval0
  refine (Val.calls (walk v0 z0 W hz0)).mono fun e W' ⟨he, hg⟩ => ?_
  subst he
  exact ⟨_, rfl, law_post laidOut readable hW' hA1 Try.underlying4 rfl rfl rfl hg⟩

theorem proved : Rows.FnThickSaid :=
  OpenClaim.holds_of_wide 5 Try.f5 rfl rfl rfl rfl rfl rfl rfl ⟨rfl, rfl, rfl, rfl, rfl⟩ rfl rfl rfl rfl rfl (by kernel_rfl) Try.func5 (by kernel_rfl)
    (of_decide_eq_true (by kernel_rfl)) (by unfold Func.isWrapper; first | (rw [if_pos (by decide +kernel)]; kernel_rfl) | (rw [if_neg (by decide +kernel)]; exact ⟨rfl, rfl⟩))
    (fun os started H enc _ => lifted os started H enc)

end Go.Proofs.Ytccekkkiaebnmaa.lawFnThick
