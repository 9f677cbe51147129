/- The law FnPins: a lock is recovered from its pins and from their text, and each stack has the same height; the tied card. No condition. -/
import Derived.Test.YtjcggcefmpaieaaGreatDoorMc
import Derived.SevenTiedAt
import Derived.Test.YtjcggcefmpaieaaGreatDoorCards
import Derived.Test.YtjcggcefmpaieaaGreatDoorTie
set_option linter.unusedVariables false
namespace Go.Proofs
open Go.Sx Go.RowKit Go.Tx
def laws_sum_A (v : Value) (w : World) : Nat → Ann := fun κ => match κ with
  | 0 => { σ := Nat × Int, sli := [4, 3], slc := fun s => [SV.v (Value.int .i64 (s.1 : Int)), SV.v (Value.int .i64 s.2)], bxi := [], bxc := fun s => [], inv := fun s W => True, μ := fun s W => 0, free := true }
  | _ => { σ := Unit, sli := [], slc := fun _ => [], bxi := [], bxc := fun _ => [], inv := fun _ _ => False, μ := fun _ _ => 0 }
abbrev laws_sum_k0 (v : Value) (s2 : Nat × Int) (w3 : World) (J4 : (Nat × Int) → World → Prop) (m5 : (Nat × Int) → World → Nat) (x7 : Int) (x8 : Int) (w12 : World) : Prop :=
  IxV 1 v x8 (fun ad13 => ∃ n14 : Int, LdV w12 (Value.pointer (some ad13)) (Value.int .i64 n14) ∧ I64 (x7 + n14) ∧ I64 (x8 + 1) ∧ ∃ s15 : (Nat × Int), (Value.int .i64 (x8 + 1)) = (Value.int .i64 (s15.1 : Int)) ∧ (Value.int .i64 (x7 + n14)) = (Value.int .i64 s15.2) ∧ (J4 s15 w12) ∧ (m5 s15 w12) < (m5 s2 w3))
def laws_sum_vc (v : Value) (w : World) (Post : Value → World → Prop) : Prop :=
  (∃ (J4 : (Nat × Int) → World → Prop) (m5 : (Nat × Int) → World → Nat), ((∃ s1 : (Nat × Int), (Value.int .i64 0) = (Value.int .i64 (s1.1 : Int)) ∧ (Value.int .i64 0) = (Value.int .i64 s1.2) ∧ (J4 s1 w)) ∧ ∀ (s2 : (Nat × Int)) (w3 : World), (J4 s2 w3) → LenV v (fun n6 => ((((s2.1 : Int) < n6) → (laws_sum_k0 v s2 w3 J4 m5 s2.2 (s2.1 : Int) w3)) ∧ (¬ ((s2.1 : Int) < n6) → Post (Value.int .i64 s2.2) w3)))))
theorem laws_sum_eq (v : Value) (w : World) (Post : Value → World → Prop) : denF Tryz.prog [] (laws_sum_A v w) 17 [v] w Post = laws_sum_vc v w Post := by kernel_rfl
set_option maxRecDepth 100000 in
theorem laws_sum_calls (v : Value) (w : World) (Post : Value → World → Prop) (hvc : laws_sum_vc v w Post) : Ret Tryz.prog 17 #[v] w Post :=
  Ret.of (denF_sound mixed (Eq.mpr (laws_sum_eq v w Post) hvc))

theorem laws_sum_val (v : Value) (xs : List Int) (w : World) (h : RI w v xs) (hb : ∀ k, k ≤ xs.length → I64 (xs.take k).sum) : Val Tryz.prog 17 #[v] w (.int .i64 xs.sum) :=
  Ret.val (laws_sum_calls v w _ (by
    unfold laws_sum_vc
    have hbd := h.bound
    refine ⟨fun s W => s.1 ≤ xs.length ∧ s.2 = (xs.take s.1).sum ∧ Ext w W, fun s _ => xs.length - s.1, ⟨(0, 0), rfl, rfl, Nat.zero_le _, by simp, .refl w⟩, ?_⟩
    rintro ⟨k, n⟩ w1 ⟨hk, hn, h1⟩
    simp only at hk hn
    subst hn
    refine (h.ext h1).len ⟨fun hlt => ?_, fun hge => ?_⟩
    · have hlt' : k < xs.length := by simp only at hlt; omega
      have hs : (xs.take (k + 1)).sum = (xs.take k).sum + xs[k] := by
        rw [take_snoc xs k hlt', List.sum_append]
        simp
      have := hb (k + 1) hlt'
      rw [hs] at this
      refine (h.ext h1).get k rfl hlt' ⟨this, by unfold I64; simp only; omega, (k + 1, (xs.take (k + 1)).sum), rfl, ieq hs.symm, ⟨hlt', rfl, h1⟩, by simp only; omega⟩
    · have : k = xs.length := by simp only at hge; omega
      subst this
      rw [List.take_length]
      exact ⟨rfl, h1⟩))
def laws_FnPins_A (v : Value) (w : World) : Nat → Ann := fun κ => match κ with
  | 0 => { σ := Nat, sli := [29], slc := fun s => [SV.v (Value.int .i64 (s : Int))], bxi := [], bxc := fun s => [], inv := fun s W => True, μ := fun s W => 0, free := true }
  | _ => { σ := Unit, sli := [], slc := fun _ => [], bxi := [], bxc := fun _ => [], inv := fun _ _ => False, μ := fun _ _ => 0 }
abbrev laws_FnPins_k0 (s1448 : Nat) (w1449 : World) (J1450 : Nat → World → Prop) (m1451 : Nat → World → Nat) (x1465 : Int) (w1476 : World) : Prop :=
  I64 (x1465 + 1) ∧ ∃ s1477 : Nat, (Value.int .i64 (x1465 + 1)) = (Value.int .i64 (s1477 : Int)) ∧ (J1450 s1477 w1476) ∧ (m1451 s1477 w1476) < (m1451 s1448 w1449)
abbrev laws_FnPins_k1 (Post : Value → World → Prop) (x1227 : Value) (x1411 : Int) (s1448 : Nat) (w1449 : World) (J1450 : Nat → World → Prop) (m1451 : Nat → World → Nat) (x1453 : Int) (w1457 : World) : Prop :=
  IxV 1 x1227 x1453 (fun ad1458 => ∃ u1459 : Value, LdV w1457 (Value.pointer (some ad1458)) u1459 ∧ ∃ n1463 : Int, (∀ w1460 : World, Ext w1457 w1460 → Calls Tryz.prog 17 #[u1459] w1460 (fun e1461 w1462 => e1461 = .returned (Value.int .i64 n1463) ∧ Ext w1460 w1462)) ∧ I64 (x1411 - 1) ∧ ∀ w1464 : World, Ext w1457 w1464 → (((n1463 ≠ (x1411 - 1)) → Post (Value.bool false) w1464) ∧ (¬ (n1463 ≠ (x1411 - 1)) → (laws_FnPins_k0 s1448 w1449 J1450 m1451 x1453 w1464))))
abbrev laws_FnPins_k2 (w : World) (Post : Value → World → Prop) (x1491 : Int) (x1493 : Int) (x1494 : Int) (x1711 : Value) (x1726 : Value) (x1727 : Value) (w1728 : World) : Prop :=
  (((x1491 = (0 : Int)) → Calls Tryz.prog 15 #[(Value.agg #[x1726]), (Value.agg #[x1711])] w1728 (fun e1729 w1730 => ∃ b1731 : Bool, e1729 = .returned (Value.bool b1731) ∧ Keeps w.heap.size [25, 28, 25, 28, 28, 25, 28, 28, 28, 28] w1728 w1730 ∧ ((b1731 = true → (((x1493 = (0 : Int)) → (((x1494 = (0 : Int)) → Calls Tryz.prog 15 #[(Value.agg #[x1727]), (Value.agg #[x1711])] w1730 (fun e1732 w1733 => ∃ b1734 : Bool, e1732 = .returned (Value.bool b1734) ∧ Keeps w.heap.size [25, 28, 25, 28, 28, 25, 28, 28, 28, 28] w1730 w1733 ∧ Post (Value.bool b1734) w1733)) ∧ (¬ (x1494 = (0 : Int)) → Post (Value.bool false) w1730))) ∧ (¬ (x1493 = (0 : Int)) → Post (Value.bool false) w1730))) ∧ (b1731 = false → Post (Value.bool false) w1730)))) ∧ (¬ (x1491 = (0 : Int)) → Post (Value.bool false) w1728))
abbrev laws_FnPins_k3 (w : World) (Post : Value → World → Prop) (x1227 : Value) (x1410 : Int) (x1411 : Int) (x1412 : Int) (x1413 : Int) (x1414 : Int) (x1415 : Value) (w1430 : World) : Prop :=
  Calls Tryz.prog 9 #[(Value.agg #[(Value.int .i64 x1410), (Value.int .i64 x1411), (Value.int .i64 x1412), (Value.int .i64 x1413), (Value.int .i64 x1414)]), x1227] w1430 (fun e1431 w1432 => ∃ u1433 : Value, ∃ n1434 : Int, e1431 = .returned (Value.tuple #[(Value.agg #[u1433]), (Value.int .i64 n1434)]) ∧ Keeps w.heap.size [25, 28, 25, 28, 28, 25, 28, 28] w1430 w1432 ∧ ∀ w1435 : World, Ext w1432 w1435 → oneC u1433 (∀ w1436 : World, BxS w.heap.size 28 w1435 w1436 → Calls Tryz.prog 16 #[(Value.agg #[(Value.int .i64 x1410), (Value.int .i64 x1411), (Value.int .i64 x1412), (Value.int .i64 x1413), (Value.int .i64 x1414)]), (Value.agg #[x1415])] w1436 (fun e1437 w1438 => ∃ s1439 : ByteArray, ∃ n1440 : Int, e1437 = .returned (Value.tuple #[(Value.string s1439), (Value.int .i64 n1440)]) ∧ Keeps w.heap.size [25, 28, 25, 28, 28, 25, 28, 28, 28] w1436 w1438 ∧ Calls Tryz.prog 12 #[(Value.agg #[(Value.int .i64 x1410), (Value.int .i64 x1411), (Value.int .i64 x1412), (Value.int .i64 x1413), (Value.int .i64 x1414)]), (Value.string s1439)] w1438 (fun e1441 w1442 => ∃ u1443 : Value, ∃ n1444 : Int, e1441 = .returned (Value.tuple #[(Value.agg #[u1443]), (Value.int .i64 n1444)]) ∧ Keeps w.heap.size [25, 28, 25, 28, 28, 25, 28, 28, 28] w1438 w1442 ∧ ∀ w1445 : World, Ext w1442 w1445 → oneC u1443 (∀ w1446 : World, BxS w.heap.size 28 w1445 w1446 → (∃ (J1450 : Nat → World → Prop) (m1451 : Nat → World → Nat), ((∃ s1447 : Nat, (Value.int .i64 0) = (Value.int .i64 (s1447 : Int)) ∧ (J1450 s1447 w1446)) ∧ ∀ (s1448 : Nat) (w1449 : World), (J1450 s1448 w1449) → LenV x1227 (fun n1452 => ((((s1448 : Int) < n1452) → (laws_FnPins_k1 Post x1227 x1411 s1448 w1449 J1450 m1451 (s1448 : Int) w1449)) ∧ (¬ ((s1448 : Int) < n1452) → (laws_FnPins_k2 w Post n1434 n1440 n1444 x1415 u1433 u1443 w1449)))))))))))
abbrev laws_FnPins_k4 (w : World) (Post : Value → World → Prop) (x1023 : Value) (x1024 : Int) (x1205 : Int) (x1206 : Int) (x1207 : Int) (x1208 : Int) (x1209 : Int) (x1210 : Value) (w1225 : World) : Prop :=
  (((x1024 ≠ (0 : Int)) → Post (Value.bool true) w1225) ∧ (¬ (x1024 ≠ (0 : Int)) → (laws_FnPins_k3 w Post x1023 x1205 x1206 x1207 x1208 x1209 x1210 w1225)))
abbrev laws_FnPins_k5 (w : World) (Post : Value → World → Prop) (x819 : Value) (x820 : Int) (x1000 : Bool) (x1001 : Int) (x1002 : Int) (x1003 : Int) (x1004 : Int) (x1005 : Int) (x1006 : Value) (w1021 : World) : Prop :=
  ((x1000 = true → Post (Value.bool false) w1021) ∧ (x1000 = false → (laws_FnPins_k4 w Post x819 x820 x1001 x1002 x1003 x1004 x1005 x1006 w1021)))
abbrev laws_FnPins_k6 (w : World) (Post : Value → World → Prop) (x431 : Value) (x432 : Int) (x438 : ByteArray) (x439 : Int) (x593 : Int) (x594 : Int) (x595 : Int) (x596 : Int) (x597 : Int) (x598 : Value) (x606 : Int) (x607 : Int) (x608 : Int) (x609 : Int) (x610 : Int) (x611 : Value) (w613 : World) : Prop :=
  (((x439 = (0 : Int)) → Calls Tryz.prog 16 #[(Value.agg #[(Value.int .i64 x606), (Value.int .i64 x607), (Value.int .i64 x608), (Value.int .i64 x609), (Value.int .i64 x610)]), (Value.agg #[x611])] w613 (fun e614 w615 => ∃ s616 : ByteArray, ∃ n617 : Int, e614 = .returned (Value.tuple #[(Value.string s616), (Value.int .i64 n617)]) ∧ Keeps w.heap.size [25, 28, 25, 28, 28, 25, 28, 28] w613 w615 ∧ (((n617 ≠ (0 : Int)) → Post (Value.bool false) w615) ∧ (¬ (n617 ≠ (0 : Int)) → (laws_FnPins_k5 w Post x431 x432 (!(s616.toList == x438.toList)) x593 x594 x595 x596 x597 x598 w615))))) ∧ (¬ (x439 = (0 : Int)) → (laws_FnPins_k4 w Post x431 x432 x593 x594 x595 x596 x597 x598 w613)))
abbrev laws_FnPins_k7 (w : World) (Post : Value → World → Prop) (x247 : Value) (x248 : Int) (x254 : ByteArray) (x255 : Int) (x408 : Bool) (x409 : Int) (x410 : Int) (x411 : Int) (x412 : Int) (x413 : Int) (x414 : Value) (x422 : Int) (x423 : Int) (x424 : Int) (x425 : Int) (x426 : Int) (x427 : Value) (w429 : World) : Prop :=
  ((x408 = true → Post (Value.bool false) w429) ∧ (x408 = false → (laws_FnPins_k6 w Post x247 x248 x254 x255 x409 x410 x411 x412 x413 x414 x422 x423 x424 x425 x426 x427 w429)))
abbrev laws_FnPins_k8 (w : World) (Post : Value → World → Prop) (x4 : Value) (w7 : World) : Prop :=
  Calls Tryz.prog 5 #[x4] w7 (fun e8 w9 => ∃ n10 : Int, ∃ n11 : Int, ∃ n12 : Int, ∃ n13 : Int, ∃ n14 : Int, ∃ u15 : Value, e8 = .returned (Value.tuple #[(Value.agg #[(Value.int .i64 n10), (Value.int .i64 n11), (Value.int .i64 n12), (Value.int .i64 n13), (Value.int .i64 n14)]), (Value.agg #[u15])]) ∧ Keeps w.heap.size [] w7 w9 ∧ ∀ w16 : World, Ext w9 w16 → ∀ w17 : World, Ext w16 w17 → ∀ w18 : World, BxS w.heap.size 25 w17 w18 → oneC u15 (∀ w19 : World, BxS w.heap.size 28 w18 w19 → Calls Tryz.prog 6 #[(Value.agg #[(Value.int .i64 n10), (Value.int .i64 n11), (Value.int .i64 n12), (Value.int .i64 n13), (Value.int .i64 n14)]), (Value.agg #[u15])] w19 (fun e20 w21 => ∃ u22 : Value, ∃ n23 : Int, e20 = .returned (Value.tuple #[u22, (Value.int .i64 n23)]) ∧ Keeps w.heap.size [25, 28] w19 w21 ∧ Calls Tryz.prog 7 #[(Value.agg #[(Value.int .i64 n10), (Value.int .i64 n11), (Value.int .i64 n12), (Value.int .i64 n13), (Value.int .i64 n14)]), (Value.agg #[u15])] w21 (fun e24 w25 => ∃ u26 : Value, ∃ n27 : Int, e24 = .returned (Value.tuple #[u26, (Value.int .i64 n27)]) ∧ Keeps w.heap.size [25, 28] w21 w25 ∧ Calls Tryz.prog 8 #[x4] w25 (fun e28 w29 => ∃ n30 : Int, ∃ n31 : Int, ∃ n32 : Int, ∃ n33 : Int, ∃ n34 : Int, ∃ u35 : Value, e28 = .returned (Value.tuple #[(Value.agg #[(Value.int .i64 n30), (Value.int .i64 n31), (Value.int .i64 n32), (Value.int .i64 n33), (Value.int .i64 n34)]), u35]) ∧ Keeps w.heap.size [25, 28] w25 w29 ∧ ∀ w36 : World, Ext w29 w36 → ∀ w37 : World, BxS w.heap.size 25 w36 w37 → Calls Tryz.prog 9 #[(Value.agg #[(Value.int .i64 n30), (Value.int .i64 n31), (Value.int .i64 n32), (Value.int .i64 n33), (Value.int .i64 n34)]), u35] w37 (fun e38 w39 => ∃ u40 : Value, ∃ n41 : Int, e38 = .returned (Value.tuple #[(Value.agg #[u40]), (Value.int .i64 n41)]) ∧ Keeps w.heap.size [25, 28, 25] w37 w39 ∧ ∀ w42 : World, Ext w39 w42 → oneC u40 (∀ w43 : World, BxS w.heap.size 28 w42 w43 → Calls Tryz.prog 10 #[(Value.agg #[(Value.int .i64 n30), (Value.int .i64 n31), (Value.int .i64 n32), (Value.int .i64 n33), (Value.int .i64 n34)]), u35] w43 (fun e44 w45 => ∃ u46 : Value, ∃ n47 : Int, e44 = .returned (Value.tuple #[(Value.agg #[u46]), (Value.int .i64 n47)]) ∧ Keeps w.heap.size [25, 28, 25, 28] w43 w45 ∧ ∀ w48 : World, Ext w45 w48 → oneC u46 (∀ w49 : World, BxS w.heap.size 28 w48 w49 → Calls Tryz.prog 11 #[x4] w49 (fun e50 w51 => ∃ n52 : Int, ∃ n53 : Int, ∃ n54 : Int, ∃ n55 : Int, ∃ n56 : Int, ∃ s57 : ByteArray, e50 = .returned (Value.tuple #[(Value.agg #[(Value.int .i64 n52), (Value.int .i64 n53), (Value.int .i64 n54), (Value.int .i64 n55), (Value.int .i64 n56)]), (Value.string s57)]) ∧ Keeps w.heap.size [25, 28, 25, 28, 28] w49 w51 ∧ ∀ w58 : World, Ext w51 w58 → ∀ w59 : World, BxS w.heap.size 25 w58 w59 → Calls Tryz.prog 12 #[(Value.agg #[(Value.int .i64 n52), (Value.int .i64 n53), (Value.int .i64 n54), (Value.int .i64 n55), (Value.int .i64 n56)]), (Value.string s57)] w59 (fun e60 w61 => ∃ u62 : Value, ∃ n63 : Int, e60 = .returned (Value.tuple #[(Value.agg #[u62]), (Value.int .i64 n63)]) ∧ Keeps w.heap.size [25, 28, 25, 28, 28, 25] w59 w61 ∧ ∀ w64 : World, Ext w61 w64 → oneC u62 (∀ w65 : World, BxS w.heap.size 28 w64 w65 → Calls Tryz.prog 13 #[(Value.agg #[(Value.int .i64 n52), (Value.int .i64 n53), (Value.int .i64 n54), (Value.int .i64 n55), (Value.int .i64 n56)]), (Value.string s57)] w65 (fun e66 w67 => ∃ u68 : Value, ∃ n69 : Int, e66 = .returned (Value.tuple #[(Value.agg #[u68]), (Value.int .i64 n69)]) ∧ Keeps w.heap.size [25, 28, 25, 28, 28, 25, 28] w65 w67 ∧ ∀ w70 : World, Ext w67 w70 → oneC u68 (∀ w71 : World, BxS w.heap.size 28 w70 w71 → (((n23 ≠ n27) → Post (Value.bool false) w71) ∧ (¬ (n23 ≠ n27) → Calls Tryz.prog 14 #[u22, u26] w71 (fun e237 w238 => ∃ b239 : Bool, e237 = .returned (Value.bool b239) ∧ Keeps w.heap.size [25, 28, 25, 28, 28, 25, 28, 28] w71 w238 ∧ (((!b239) = true → Post (Value.bool false) w238) ∧ ((!b239) = false → (((n41 ≠ n47) → Post (Value.bool false) w238) ∧ (¬ (n41 ≠ n47) → Calls Tryz.prog 15 #[(Value.agg #[u40]), (Value.agg #[u46])] w238 (fun e240 w241 => ∃ b242 : Bool, e240 = .returned (Value.bool b242) ∧ Keeps w.heap.size [25, 28, 25, 28, 28, 25, 28, 28] w238 w241 ∧ (((!b242) = true → Post (Value.bool false) w241) ∧ ((!b242) = false → (((n63 ≠ n69) → Post (Value.bool false) w241) ∧ (¬ (n63 ≠ n69) → Calls Tryz.prog 15 #[(Value.agg #[u62]), (Value.agg #[u68])] w241 (fun e243 w244 => ∃ b245 : Bool, e243 = .returned (Value.bool b245) ∧ Keeps w.heap.size [25, 28, 25, 28, 28, 25, 28, 28] w241 w244 ∧ (laws_FnPins_k7 w Post u22 n23 s57 n63 (!b245) n10 n11 n12 n13 n14 u15 n52 n53 n54 n55 n56 u62 w244))))))))))))))))))))))))))))
def laws_FnPins_vc (v : Value) (w : World) (Post : Value → World → Prop) : Prop :=
  Calls Tryz.prog 4 #[v] w (fun e1 w2 => ∃ b3 : Bool, e1 = .returned (Value.bool b3) ∧ Keeps w.heap.size [] w w2 ∧ ((b3 = true → Post (Value.bool true) w2) ∧ (b3 = false → (laws_FnPins_k8 w Post v w2))))
theorem laws_FnPins_eq (v : Value) (w : World) (Post : Value → World → Prop) : denF Tryz.prog [] (laws_FnPins_A v w) 3 [v] w Post = laws_FnPins_vc v w Post := by kernel_rfl
set_option maxRecDepth 100000 in
theorem laws_FnPins_calls (v : Value) (w : World) (Post : Value → World → Prop) (hvc : laws_FnPins_vc v w Post) : Ret Tryz.prog 3 #[v] w Post :=
  Ret.of (denF_sound mixed (Eq.mpr (laws_FnPins_eq v w Post) hvc))

end Go.Proofs
namespace Go.Proofs.YtjcggcefmpaieaaGreatDoor.lawFnPins
open Go.Proofs Go.Sx Go.RowKit Go.ChangeShapes Go.WideShapes Go.ChangeAt Go.Joins Go.WideMaps Go.WideElems Go.Tx Go.Proofs.YtjcggcefmpaieaaGreatDoor
theorem walk (v : Value) (zs : List Int) (w : World) (h : RB w v zs) (hg : Gs w) : Val Tryz.prog 3 #[v] w (.bool true) :=
  Ret.val (laws_FnPins_calls v w _ (by
    unfold laws_FnPins_vc
    refine (laws_big_ret v zs w h).call ?_
    rintro _ w1 ⟨⟨b, rfl⟩, h1⟩
    refine ⟨b, rfl, h1.keeps, fun _ => ⟨rfl, h1⟩, fun _ => ?_⟩
    unfold laws_FnPins_k8
    refine (spec_DrawPinsOf_ret v zs w1 (h.ext h1)).call ?_
    rintro _ w2 ⟨M, u, za, rfl, vu, h2⟩
    refine ⟨M.c, M.d, M.s, M.m, M.l, u, rfl, h2.keeps, fun w3 h3 w4 h4 w5 b5 => vu.rr.oneC fun w6 b6 => ?_⟩
    have f6 := (((((Fx.start (h1.trans h2)).addV vu).ext h3).ext h4).bm b5).bl b6
    refine (impl_PinsOf_ret M.c M.d M.s M.m M.l u za w6 (f6.rr (by simp))).call ?_
    rintro _ w7 ⟨p, rfl, op, h7⟩
    refine ⟨p, _, rfl, h7.keeps, ?_⟩
    have f7 := (f6.ext h7).addR op
    refine (spec_PinsOf_ret M.c M.d M.s M.m M.l u za w7 (f7.rr (by simp))).call ?_
    rintro _ w8 ⟨p', rfl, op', h8⟩
    refine ⟨p', _, rfl, h8.keeps, ?_⟩
    have f8 := (f7.ext h8).addR op'
    refine (spec_DrawLockOfPins_ret v zs w8 (h.ext f8.1)).call ?_
    rintro _ w9 ⟨N, q, yb, rfl, vq, hl, hz, h9⟩
    refine ⟨N.c, N.d, N.s, N.m, N.l, q, rfl, h9.keeps, fun w10 h10 w11 b11 => ?_⟩
    have f11 := (((f8.ext h9).addV vq).ext h10).bm b11
    refine (impl_LockOfPins_ret N q yb w11 (f11.rr (by simp)) (by omega) (fun z hh => by have := hz z hh; omega)).call ?_
    rintro _ w12 ⟨k, rfl, ok, h12⟩
    refine ⟨k, _, rfl, h12.keeps, fun w13 h13 => ok.rr.oneC fun w14 b14 => ?_⟩
    have f14 := (((f11.ext h12).addR ok).ext h13).bl b14
    refine (spec_LockOfPins_ret N q yb w14 (f14.rr (by simp)) (by omega) (fun z hh => by have := hz z hh; omega)).call ?_
    rintro _ w15 ⟨k', rfl, ok', h15⟩
    refine ⟨k', _, rfl, h15.keeps, fun w16 h16 => ok'.rr.oneC fun w17 b17 => ?_⟩
    have f17 := (((f14.ext h15).addR ok').ext h16).bl b17
    refine (spec_DrawReadPins_ret v zs w17 (h.ext f17.1)).call ?_
    rintro _ w18 ⟨R, x, rfl, hx, h18⟩
    refine ⟨R.c, R.d, R.s, R.m, R.l, _, rfl, h18.keeps, fun w19 h19 w20 b20 => ?_⟩
    have f20 := ((f17.ext h18).ext h19).bm b20
    refine (impl_ReadPins_ret R x w20 (by omega) (hg.ext f20.1)).call ?_
    rintro _ w21 ⟨r, rfl, or, h21⟩
    refine ⟨r, _, rfl, h21.keeps, fun w22 h22 => or.rr.oneC fun w23 b23 => ?_⟩
    have f23 := (((f20.ext h21).addR or).ext h22).bl b23
    refine (spec_ReadPins_ret R x w23 (by omega)).call ?_
    rintro _ w24 ⟨r', rfl, or', h24⟩
    refine ⟨r', _, rfl, h24.keeps, fun w25 h25 => or'.rr.oneC fun w26 b26 => ?_⟩
    have f26 := (((f23.ext h24).addR or').ext h25).bl b26
    refine ⟨fun hne => absurd rfl hne, fun _ => ?_⟩
    refine (laws_likeLists_val p p' _ _ w26 (f26.rr (z := pinsR M.c M.d M.s M.m M.l za) (by simp)) (f26.rr (z := pinsR M.c M.d M.s M.m M.l za) (by simp))).call fun w27 h27 => ⟨_, rfl, h27.keeps, fun hb => (by simp at hb), fun _ => ⟨fun hne => absurd rfl hne, fun _ => ?_⟩⟩
    have f27 := f26.ext h27
    refine (laws_likeLocks_val k k' _ _ w27 (f27.rr (z := lopR N yb) (by simp)) (f27.rr (z := lopR N yb) (by simp))).call fun w28 h28 => ⟨_, rfl, h28.keeps, fun hb => (by simp at hb), fun _ => ⟨fun hne => absurd rfl hne, fun _ => ?_⟩⟩
    have f28 := f27.ext h28
    refine (laws_likeLocks_val r r' _ _ w28 (f28.rr (z := rpR R x) (by simp)) (f28.rr (z := rpR R x) (by simp))).call fun w29 h29 => ⟨_, rfl, h29.keeps, ?_⟩
    have f29 := f28.ext h29
    have tail : ∀ W, Ext w29 W → laws_FnPins_k4 w (fun u w' => u = .bool true ∧ Ext w w') p (lkCode M.c M.d M.s M.m M.l za) M.c M.d M.s M.m M.l u W := by
      intro W hW
      have fW := f29.ext hW
      refine ⟨fun _ => ⟨rfl, fW.1⟩, fun hz0 => ?_⟩
      have hk : LkOk M.c M.d M.s M.m M.l za := Classical.byContradiction fun hn => hz0 (by unfold lkCode; rw [if_neg hn]; decide)
      have hpe : pinsR M.c M.d M.s M.m M.l za = za.map (stack M.d) := by unfold pinsR; rw [if_pos hk]
      have hlo := stacks_lop hk
      have hst := stacks_ok hk
      obtain ⟨e1, e2⟩ := lop_yes hk.1 hlo
      rw [lop_stacks] at e1
      obtain ⟨e3, e4⟩ := pins_read hk
      have htl : (pinsT (za.map (stack M.d))).length ≤ 9000 := by
        have := pinsTx_len M.c M.d M.s M.m M.l za
        unfold pinsTx at this
        rwa [if_pos hk] at this
      have rp : RR W p (za.map (stack M.d)) := by have := fW.rr (u := p) (z := pinsR M.c M.d M.s M.m M.l za) (by simp); rwa [hpe] at this
      unfold laws_FnPins_k3
      refine (impl_LockOfPins_ret M p (za.map (stack M.d)) W rp (by have := hst.1; omega) (fun z hh => by have := (hst.2 z hh).1; omega)).call ?_
      rintro _ v1 ⟨y, rfl, oy, g1⟩
      rw [e1] at oy
      refine ⟨y, 0, (by rw [e2] <;> rfl), g1.keeps, fun v2 g2 => oy.rr.oneC fun v3 c3 => ?_⟩
      have t3 := (((fW.ext g1).addR oy).ext g2).bl c3
      refine (impl_PinsText_val M.c M.d M.s M.m M.l u za v3 (t3.rr (by simp)) (hg.1.ext t3.1)).call fun v4 g4 => ⟨⟨(pinsT (za.map (stack M.d))).toArray⟩, 0, (by rw [pinsV_yes hk] <;> rfl), g4.keeps, ?_⟩
      have t4 := t3.ext g4
      refine (impl_ReadPins_ret M (pinsT (za.map (stack M.d))) v4 (by omega) (hg.ext t4.1)).call ?_
      rintro _ v5 ⟨t, rfl, ot, g5⟩
      rw [e3] at ot
      refine ⟨t, 0, (by rw [e4] <;> rfl), g5.keeps, fun v6 g6 => ot.rr.oneC fun v7 c7 => ?_⟩
      have t7 := (((t4.ext g5).addR ot).ext g6).bl c7
      refine ⟨fun s V => s ≤ (za.map (stack M.d)).length ∧ Ext v7 V, fun s _ => (za.map (stack M.d)).length - s, ⟨0, rfl, Nat.zero_le _, .refl _⟩, ?_⟩
      rintro j v8 ⟨hj, g8⟩
      have t8 := t7.ext g8
      have rp8 : RR v8 p (za.map (stack M.d)) := by have := t8.rr (u := p) (z := pinsR M.c M.d M.s M.m M.l za) (by simp); rwa [hpe] at this
      refine rp8.len ⟨fun hlt => ?_, fun hge => ?_⟩
      · have hj' : j < (za.map (stack M.d)).length := by omega
        have hm := List.getElem_mem hj'
        have hs1 := hst.1
        obtain ⟨hs2, hs3⟩ := hst.2 _ hm
        have hsum := (hlo.1 _ hm).2.2
        have hd := hk.1.2.1
        unfold laws_FnPins_k1
        refine rp8.get j rfl hj' fun x hx => ⟨(za.map (stack M.d))[j].sum, fun V hV => (laws_sum_val x _ V (hx.ext hV) fun k hk => ?_).calls, by unfold I64; omega, fun V hV => ⟨fun hne => absurd hsum hne, fun _ => ?_⟩⟩
        · have := ats_range hs3 k hk
          unfold ats at this
          unfold I64
          omega
        · exact ⟨by unfold I64; omega, j + 1, rfl, ⟨hj', g8.trans hV⟩, by simp only; omega⟩
      · unfold laws_FnPins_k2
        refine ⟨fun _ => ?_, fun hne => absurd rfl hne⟩
        refine (laws_likeLocks_val y u za za v8 (t8.rr (by simp)) (t8.rr (by simp))).call fun v9 g9 => ⟨_, rfl, g9.keeps, fun _ => ⟨fun _ => ⟨fun _ => ?_, fun hne => absurd rfl hne⟩, fun hne => absurd rfl hne⟩, fun hb => (by simp at hb)⟩
        have t9 := t8.ext g9
        refine (laws_likeLocks_val t u za za v9 (t9.rr (by simp)) (t9.rr (by simp))).call fun v10 g10 => ⟨_, rfl, g10.keeps, by simp, (t9.ext g10).1⟩
    unfold laws_FnPins_k7
    refine ⟨fun hb => (by simp at hb), fun _ => ?_⟩
    unfold laws_FnPins_k6
    refine ⟨fun hz0 => ?_, fun _ => tail w29 (.refl _)⟩
    obtain ⟨hk, e⟩ := read_pins hz0
    refine (impl_PinsText_val R.c R.d R.s R.m R.l r (rpR R x) w29 (f29.rr (by simp)) (hg.1.ext f29.1)).call fun w30 h30 => ⟨⟨x.toArray⟩, 0, (by rw [pinsV_yes hk, e] <;> rfl), h30.keeps, fun hne => absurd rfl hne, fun _ => ?_⟩
    unfold laws_FnPins_k5
    exact ⟨fun hf => absurd hf (by simp), fun _ => tail w30 h30⟩))
set_option linter.unusedSimpArgs false in
theorem readable : ∀ t ∈ Tryz.f3.params.toList, Tryz.prog.readableRec t = true ∧ t < Tryz.prog.types.size := by
  rw [Tryz.params3]
  simp only [List.mem_cons, List.not_mem_nil, or_false, forall_eq_or_imp, forall_eq]
  exact ⟨by kernel_rfl, of_decide_eq_true (by kernel_rfl)⟩

set_option maxRecDepth 100000 in
theorem lifted (os : Os) (started : os.Started) (H : Type) (enc : TypeId × Value → H) :
    ReturnsInHanded {} Tryz.checked os 3 .any (fun w args => (Rows.fnPinsSpec.pre enc Tryz.prog Tryz.f3 [] false w args ∧ laidMetH Tryz.prog tabs7 w) ∧ sizedMet enc Tryz.prog Tryz.f3 (OpenSpec.ofChange Rows.fnPinsSpec) false w args)
      (Rows.fnPinsSpec.post enc Tryz.prog Tryz.f3 false true false false) := by
  refine returnsInHanded_both (C := Tryz.checked) (X := fun w _ => laidMetH Tryz.prog tabs7 w) (fun _ _ _ hh h => h.of_heap hh) ownKnobNone started (by kernel_rfl) Tryz.func3
    (ChangeSpec.witness_shaped (enc := enc) (C := Tryz.checked) (os := os) (X := fun w _ => laidMetH Tryz.prog tabs7 w) false (World.laidAll Tryz.prog os tabs7) #[.slice none 0 0] 8 (World.laidAll_os _ _ _) (door_shaped7 os) (by kernel_rfl) (by kernel_rfl) (by kernel_rfl) (door_met7 os _)) ?_
  intro W base args ds gs before hval0 hW hL hsh
  have hval : ∀ (j : Nat) t v, Tryz.f3.params[j]? = some t → args[j]? = some v → Value.okWide Tryz.prog W .any base t v := hval0
  have hW' := hW
  obtain ⟨p, q, hA0, hV, rfl, hfz, hnd⟩ := hW
  have hA1 : DataW.TrodAll enc Tryz.prog W 0 (fun _ => true) true Tryz.f3.params.toList args.toList ds p := hA0
  have hA := hA1
  rw [Tryz.params3] at hA hval
  obtain ⟨v0, vs0, d0, ds0, p0, q0, hargs, rfl, rfl, h0, r0⟩ := trodAll_cons hA
  obtain ⟨rfl, rfl, rfl⟩ := trodAll_nil r0
  obtain rfl : args = #[v0] := by cases args; simp_all
  obtain ⟨rfl, rfl⟩ := trodVars_none hV
  obtain ⟨z0, hz0⟩ := open_RB Tryz.underlying22 Tryz.underlying5 (by kernel_rfl) (hval 0 22 v0 rfl rfl) h0
  clear hA0 hval0
  have hgl := gs_of_laid hL hsh
  refine (Val.calls (walk v0 z0 W hz0 hgl)).mono fun e W' ⟨he, hg⟩ => ?_
  subst he
  exact ⟨_, rfl, law_post laidOut readable hW' hA1 Tryz.underlying4 rfl rfl rfl hg⟩

/-- the row's statement -/
theorem row : Rows.FnPinsSaid :=
  OpenClaim.holds_of_wide 3 Tryz.f3 rfl rfl rfl rfl rfl rfl rfl ⟨rfl, rfl, rfl, rfl, rfl⟩ rfl rfl rfl rfl rfl (by kernel_rfl) Tryz.func3 (by kernel_rfl)
    (of_decide_eq_true (by kernel_rfl)) (by unfold Func.isWrapper; first | (rw [if_pos (by decide +kernel)]; kernel_rfl) | (rw [if_neg (by decide +kernel)]; exact ⟨rfl, rfl⟩))
    (fun os started H enc _ => lifted os started H enc)

theorem proved : Rows.FnPinsCardSaid :=
  Claim7.holds_tied_plain_at .later [] [.data, .data, .data, .data, .sentinel, .sentinel, .pinned] true (true, "f798e424a3e166b50199546517584c8ce2b87e0481cd9afb35a0011d6a1034b8") true
    row (fun _ h => by cases h) (by kernel_rfl) (fun _ h => by cases h) fnPins_row_tie rfl ⟨rfl, rfl⟩ (by kernel_rfl) rfl
    (fun f fn hf hfn => by
      obtain rfl : f = 3 := Option.some.inj ((show Tryz.prog.funcNamed "loop.example/g00947/laws.FnPins" = some 3 by kernel_rfl).symm.trans hf) |>.symm
      obtain rfl : fn = Tryz.f3 := (Option.some.inj (Tryz.func3.symm.trans hfn)).symm
      exact ⟨by kernel_rfl, fun j t ht => by
        rw [Tryz.params3] at ht
        have hm : t ∈ [22] := by simpa using Array.mem_of_getElem? ht
        have hall : ([22].all fun u => !Tryz.prog.wantsStandIn u) = true := by kernel_rfl
        exact (show Tryz.prog.wantsStandIn t = false by simpa using List.all_eq_true.1 hall t hm)⟩)
    (by kernel_rfl)

end Go.Proofs.YtjcggcefmpaieaaGreatDoor.lawFnPins
