/- The law FnExactStockOf: the program's function answers as the reference's, for all arguments. No condition. -/
import Derived.Test.YteolgidmaklbkaaL05f
import Derived.Test.YteolgidmaklbkaaL11
set_option linter.unusedVariables false
namespace Go.Proofs
open Go.Sx Go.RowKit
theorem stk_len (M : Mk) (lss : List (List (List Int))) : (stkR M lss).b.length ≤ 8 ∧ (stkR M lss).w.length ≤ 8 ∧ (stkR M lss).d.length ≤ 8 := by
  have aa : ∀ (sts : List (List Int)) (T : Tri), (T.adds sts).b.length = T.b.length ∧ (T.adds sts).w.length = T.w.length ∧ (T.adds sts).d.length = T.d.length := by
    intro sts
    induction sts with
    | nil => intro T; exact ⟨rfl, rfl, rfl⟩
    | cons st sts ih =>
      intro T
      have := ih (T.add st)
      exact ⟨this.1.trans (bump_length _ _), this.2.1.trans (bumps_length _ _), this.2.2.trans (bump_length _ _)⟩
  have ss : ∀ (d : Int) (l : List (List (List Int))) (T : Tri), (l.foldl (fun T z => T.adds (z.map (stack d))) T).b.length = T.b.length ∧ (l.foldl (fun T z => T.adds (z.map (stack d))) T).w.length = T.w.length ∧ (l.foldl (fun T z => T.adds (z.map (stack d))) T).d.length = T.d.length := by
    intro d l
    induction l with
    | nil => intro T; exact ⟨rfl, rfl, rfl⟩
    | cons z l ih =>
      intro T
      have h1 := ih (T.adds (z.map (stack d)))
      have h2 := aa (z.map (stack d)) T
      exact ⟨h1.1.trans h2.1, h1.2.1.trans h2.2.1, h1.2.2.trans h2.2.2⟩
  unfold stkR
  split
  · rename_i h
    have hd := h.1.2.1
    split
    · have := ss M.d lss (tri0 M.d)
      have hz : (zeros M.d).length = M.d.toNat := by simp [zeros]
      unfold stock
      rw [this.1, this.2.1, this.2.2]
      simp only [tri0, hz]
      omega
    · simp [noTri]
  · simp [noTri]
abbrev laws_FnExactStockOf_k0 (Post : Value → World → Prop) (x2333 : Int) (x2334 : Int) (w2514 : World) : Prop :=
  (((x2334 ≠ x2333) → Post (Value.bool false) w2514) ∧ (¬ (x2334 ≠ x2333) → Post (Value.bool true) w2514))
abbrev laws_FnExactStockOf_k1 (w : World) (Post : Value → World → Prop) (x2132 : Value) (x2135 : Int) (x2136 : Int) (w2312 : World) : Prop :=
  Calls Try.prog 20 #[x2132, (Value.int .i64 x2136)] w2312 (fun e2313 w2314 => ∃ n2315 : Int, e2313 = .returned (Value.int .i64 n2315) ∧ Keeps w.heap.size [48] w2312 w2314 ∧ (((n2315 < (0 : Int)) → Post (Value.bool false) w2314) ∧ (¬ (n2315 < (0 : Int)) → (laws_FnExactStockOf_k0 Post x2135 n2315 w2314))))
abbrev laws_FnExactStockOf_k2 (w : World) (Post : Value → World → Prop) (x1937 : Value) (x1938 : Value) (x1941 : Int) (x1942 : Int) (w2114 : World) : Prop :=
  Calls Try.prog 20 #[x1937, (Value.int .i64 x1942)] w2114 (fun e2115 w2116 => ∃ n2117 : Int, e2115 = .returned (Value.int .i64 n2117) ∧ Keeps w.heap.size [48] w2114 w2116 ∧ (((n2117 < (0 : Int)) → Post (Value.bool false) w2116) ∧ (¬ (n2117 < (0 : Int)) → (laws_FnExactStockOf_k1 w Post x1938 x1941 n2117 w2116))))
abbrev laws_FnExactStockOf_k3 (w : World) (Post : Value → World → Prop) (x1746 : Value) (x1747 : Value) (x1748 : Value) (x1751 : Int) (w1920 : World) : Prop :=
  Calls Try.prog 20 #[x1746, (Value.int .i64 1)] w1920 (fun e1921 w1922 => ∃ n1923 : Int, e1921 = .returned (Value.int .i64 n1923) ∧ Keeps w.heap.size [48] w1920 w1922 ∧ (((n1923 < (0 : Int)) → Post (Value.bool false) w1922) ∧ (¬ (n1923 < (0 : Int)) → (laws_FnExactStockOf_k2 w Post x1747 x1748 x1751 n1923 w1922))))
abbrev laws_FnExactStockOf_k4 (w : World) (Post : Value → World → Prop) (x1214 : Int) (n1362 : Int) (x1559 : Value) (x1560 : Value) (x1561 : Value) (x1564 : Int) (w1733 : World) : Prop :=
  (((n1362 ≠ x1214) → Post (Value.bool false) w1733) ∧ (¬ (n1362 ≠ x1214) → (laws_FnExactStockOf_k3 w Post x1559 x1560 x1561 x1564 w1733)))
abbrev laws_FnExactStockOf_k5 (w : World) (Post : Value → World → Prop) (x1209 : Value) (x1211 : Value) (x1212 : Value) (x1213 : Value) (x1214 : Int) (x1216 : Value) (x1217 : Value) (x1218 : Value) (x1221 : Int) (x1341 : Int) (x1342 : Int) (x1343 : Int) (x1344 : Int) (x1345 : Int) (w1346 : World) : Prop :=
  Calls Try.prog 46 #[(Value.agg #[(Value.int .i64 x1341), (Value.int .i64 x1342), (Value.int .i64 x1343), (Value.int .i64 x1344), (Value.int .i64 x1345)])] w1346 (fun e1347 w1348 => ∃ n1349 : Int, ∃ n1350 : Int, ∃ n1351 : Int, ∃ n1352 : Int, ∃ n1353 : Int, e1347 = .returned (Value.agg #[(Value.int .i64 n1349), (Value.int .i64 n1350), (Value.int .i64 n1351), (Value.int .i64 n1352), (Value.int .i64 n1353)]) ∧ Keeps w.heap.size [48] w1346 w1348 ∧ Calls Try.prog 64 #[x1209] w1348 (fun e1354 w1355 => ∃ u1356 : Value, e1354 = .returned u1356 ∧ Keeps w.heap.size [48] w1348 w1355 ∧ Calls Try.prog 65 #[(Value.agg #[(Value.int .i64 n1349), (Value.int .i64 n1350), (Value.int .i64 n1351), (Value.int .i64 n1352), (Value.int .i64 n1353)]), u1356] w1355 (fun e1357 w1358 => ∃ u1359 : Value, ∃ u1360 : Value, ∃ u1361 : Value, ∃ n1362 : Int, e1357 = .returned (Value.tuple #[u1359, u1360, u1361, (Value.int .i64 n1362)]) ∧ Keeps w.heap.size [48] w1355 w1358 ∧ Calls Try.prog 18 #[u1359, x1211] w1358 (fun e1363 w1364 => ∃ b1365 : Bool, e1363 = .returned (Value.bool b1365) ∧ Keeps w.heap.size [48] w1358 w1364 ∧ (((!b1365) = true → Post (Value.bool false) w1364) ∧ ((!b1365) = false → Calls Try.prog 18 #[u1360, x1212] w1364 (fun e1541 w1542 => ∃ b1543 : Bool, e1541 = .returned (Value.bool b1543) ∧ Keeps w.heap.size [48] w1364 w1542 ∧ (((!b1543) = true → Post (Value.bool false) w1542) ∧ ((!b1543) = false → Calls Try.prog 18 #[u1361, x1213] w1542 (fun e1544 w1545 => ∃ b1546 : Bool, e1544 = .returned (Value.bool b1546) ∧ Keeps w.heap.size [48] w1542 w1545 ∧ (((!b1546) = true → Post (Value.bool false) w1545) ∧ ((!b1546) = false → (laws_FnExactStockOf_k4 w Post x1214 n1362 x1216 x1217 x1218 x1221 w1545)))))))))))))
abbrev laws_FnExactStockOf_k6 (w : World) (Post : Value → World → Prop) (x1068 : Value) (x1070 : Value) (x1071 : Value) (x1072 : Value) (x1073 : Int) (x1075 : Value) (x1076 : Value) (x1077 : Value) (x1080 : Int) (x1081 : Int) (x1198 : Int) (x1199 : Int) (x1200 : Int) (x1201 : Int) (x1202 : Int) (w1203 : World) : Prop :=
  (((x1081 ≠ x1080) → Post (Value.bool false) w1203) ∧ (¬ (x1081 ≠ x1080) → (laws_FnExactStockOf_k5 w Post x1068 x1070 x1071 x1072 x1073 x1075 x1076 x1077 x1080 x1198 x1199 x1200 x1201 x1202 w1203)))
abbrev laws_FnExactStockOf_k7 (w : World) (Post : Value → World → Prop) (x928 : Value) (x930 : Value) (x931 : Value) (x932 : Value) (x933 : Int) (x935 : Value) (x936 : Value) (x937 : Value) (x940 : Int) (x941 : Int) (x1054 : Int) (x1055 : Int) (x1056 : Int) (x1057 : Int) (x1058 : Int) (w1059 : World) : Prop :=
  Calls Try.prog 20 #[x937, (Value.int .i64 x941)] w1059 (fun e1060 w1061 => ∃ n1062 : Int, e1060 = .returned (Value.int .i64 n1062) ∧ Keeps w.heap.size [48] w1059 w1061 ∧ (((n1062 < (0 : Int)) → Post (Value.bool false) w1061) ∧ (¬ (n1062 < (0 : Int)) → (laws_FnExactStockOf_k6 w Post x928 x930 x931 x932 x933 x935 x936 x937 x940 n1062 x1054 x1055 x1056 x1057 x1058 w1061))))
abbrev laws_FnExactStockOf_k8 (w : World) (Post : Value → World → Prop) (x792 : Value) (x794 : Value) (x795 : Value) (x796 : Value) (x797 : Int) (x799 : Value) (x800 : Value) (x801 : Value) (x804 : Int) (x805 : Int) (x914 : Int) (x915 : Int) (x916 : Int) (x917 : Int) (x918 : Int) (w919 : World) : Prop :=
  Calls Try.prog 20 #[x800, (Value.int .i64 x805)] w919 (fun e920 w921 => ∃ n922 : Int, e920 = .returned (Value.int .i64 n922) ∧ Keeps w.heap.size [48] w919 w921 ∧ (((n922 < (0 : Int)) → Post (Value.bool false) w921) ∧ (¬ (n922 < (0 : Int)) → (laws_FnExactStockOf_k7 w Post x792 x794 x795 x796 x797 x799 x800 x801 x804 n922 x914 x915 x916 x917 x918 w921))))
abbrev laws_FnExactStockOf_k9 (w : World) (Post : Value → World → Prop) (x662 : Value) (x664 : Value) (x665 : Value) (x666 : Value) (x667 : Int) (x669 : Value) (x670 : Value) (x671 : Value) (x769 : Int) (x770 : Int) (x771 : Int) (x772 : Int) (x773 : Int) (w774 : World) : Prop :=
  Calls Try.prog 19 #[x669, (Value.int .i64 1)] w774 (fun e775 w776 => ∃ n777 : Int, e775 = .returned (Value.int .i64 n777) ∧ Keeps w.heap.size [48] w774 w776 ∧ Calls Try.prog 19 #[x670, (Value.int .i64 n777)] w776 (fun e778 w779 => ∃ n780 : Int, e778 = .returned (Value.int .i64 n780) ∧ Keeps w.heap.size [48] w776 w779 ∧ Calls Try.prog 19 #[x671, (Value.int .i64 n780)] w779 (fun e781 w782 => ∃ n783 : Int, e781 = .returned (Value.int .i64 n783) ∧ Keeps w.heap.size [48] w779 w782 ∧ Calls Try.prog 20 #[x669, (Value.int .i64 1)] w782 (fun e784 w785 => ∃ n786 : Int, e784 = .returned (Value.int .i64 n786) ∧ Keeps w.heap.size [48] w782 w785 ∧ (((n786 < (0 : Int)) → Post (Value.bool false) w785) ∧ (¬ (n786 < (0 : Int)) → (laws_FnExactStockOf_k8 w Post x662 x664 x665 x666 x667 x669 x670 x671 n783 n786 x769 x770 x771 x772 x773 w785)))))))
abbrev laws_FnExactStockOf_k10 (w : World) (Post : Value → World → Prop) (x340 : Int) (x345 : Int) (x544 : Value) (x546 : Value) (x547 : Value) (x548 : Value) (x549 : Int) (x551 : Value) (x552 : Value) (x553 : Value) (x651 : Int) (x652 : Int) (x653 : Int) (x654 : Int) (x655 : Int) (w656 : World) : Prop :=
  (((x345 ≠ x340) → Post (Value.bool false) w656) ∧ (¬ (x345 ≠ x340) → (laws_FnExactStockOf_k9 w Post x544 x546 x547 x548 x549 x551 x552 x553 x651 x652 x653 x654 x655 w656)))
abbrev laws_FnExactStockOf_k11 (w : World) (Post : Value → World → Prop) (x335 : Value) (x337 : Value) (x338 : Value) (x339 : Value) (x340 : Int) (x341 : Value) (x342 : Value) (x343 : Value) (x344 : Value) (x345 : Int) (x420 : Int) (x421 : Int) (x422 : Int) (x423 : Int) (x424 : Int) (w425 : World) : Prop :=
  Calls Try.prog 67 #[x341, (Value.int .i64 1)] w425 (fun e426 w427 => ∃ n428 : Int, e426 = .returned (Value.int .i64 n428) ∧ Keeps w.heap.size [48] w425 w427 ∧ (((n428 < (0 : Int)) → Post (Value.bool false) w427) ∧ (¬ (n428 < (0 : Int)) → Calls Try.prog 18 #[x342, x337] w427 (fun e530 w531 => ∃ b532 : Bool, e530 = .returned (Value.bool b532) ∧ Keeps w.heap.size [48] w427 w531 ∧ (((!b532) = true → Post (Value.bool false) w531) ∧ ((!b532) = false → Calls Try.prog 18 #[x343, x338] w531 (fun e533 w534 => ∃ b535 : Bool, e533 = .returned (Value.bool b535) ∧ Keeps w.heap.size [48] w531 w534 ∧ (((!b535) = true → Post (Value.bool false) w534) ∧ ((!b535) = false → Calls Try.prog 18 #[x344, x339] w534 (fun e536 w537 => ∃ b538 : Bool, e536 = .returned (Value.bool b538) ∧ Keeps w.heap.size [48] w534 w537 ∧ (((!b538) = true → Post (Value.bool false) w537) ∧ ((!b538) = false → (laws_FnExactStockOf_k10 w Post x340 x345 x335 x337 x338 x339 x340 x342 x343 x344 x420 x421 x422 x423 x424 w537)))))))))))))
abbrev laws_FnExactStockOf_k12 (w : World) (Post : Value → World → Prop) (x238 : Value) (x240 : Value) (x241 : Value) (x242 : Value) (x243 : Int) (x244 : Value) (x245 : Value) (x246 : Value) (x247 : Value) (x248 : Int) (x318 : Int) (x319 : Int) (x320 : Int) (x321 : Int) (x322 : Int) (w323 : World) : Prop :=
  Calls Try.prog 64 #[x238] w323 (fun e324 w325 => ∃ u326 : Value, e324 = .returned u326 ∧ Keeps w.heap.size [48] w323 w325 ∧ Calls Try.prog 66 #[x244, u326] w325 (fun e327 w328 => ∃ b329 : Bool, e327 = .returned (Value.bool b329) ∧ Keeps w.heap.size [48] w325 w328 ∧ (((!b329) = true → Post (Value.bool false) w328) ∧ ((!b329) = false → (laws_FnExactStockOf_k11 w Post x238 x240 x241 x242 x243 x244 x245 x246 x247 x248 x318 x319 x320 x321 x322 w328)))))
abbrev laws_FnExactStockOf_k13 (w : World) (Post : Value → World → Prop) (n37 : Int) (n53 : Int) (x147 : Value) (x149 : Value) (x150 : Value) (x151 : Value) (x152 : Int) (x153 : Value) (x154 : Value) (x155 : Value) (x156 : Value) (x157 : Int) (x227 : Int) (x228 : Int) (x229 : Int) (x230 : Int) (x231 : Int) (w232 : World) : Prop :=
  (((n53 ≠ n37) → Post (Value.bool false) w232) ∧ (¬ (n53 ≠ n37) → (laws_FnExactStockOf_k12 w Post x147 x149 x150 x151 x152 x153 x154 x155 x156 x157 x227 x228 x229 x230 x231 w232)))
abbrev laws_FnExactStockOf_k14 (w : World) (Post : Value → World → Prop) (x10 : Value) (x16 : Int) (x17 : Int) (x18 : Int) (x19 : Int) (x20 : Int) (w21 : World) : Prop :=
  Calls Try.prog 46 #[(Value.agg #[(Value.int .i64 x16), (Value.int .i64 x17), (Value.int .i64 x18), (Value.int .i64 x19), (Value.int .i64 x20)])] w21 (fun e22 w23 => ∃ n24 : Int, ∃ n25 : Int, ∃ n26 : Int, ∃ n27 : Int, ∃ n28 : Int, e22 = .returned (Value.agg #[(Value.int .i64 n24), (Value.int .i64 n25), (Value.int .i64 n26), (Value.int .i64 n27), (Value.int .i64 n28)]) ∧ Keeps w.heap.size [48] w21 w23 ∧ Calls Try.prog 64 #[x10] w23 (fun e29 w30 => ∃ u31 : Value, e29 = .returned u31 ∧ Keeps w.heap.size [48] w23 w30 ∧ Calls Try.prog 63 #[(Value.agg #[(Value.int .i64 n24), (Value.int .i64 n25), (Value.int .i64 n26), (Value.int .i64 n27), (Value.int .i64 n28)]), u31] w30 (fun e32 w33 => ∃ u34 : Value, ∃ u35 : Value, ∃ u36 : Value, ∃ n37 : Int, e32 = .returned (Value.tuple #[u34, u35, u36, (Value.int .i64 n37)]) ∧ Keeps w.heap.size [48] w30 w33 ∧ Calls Try.prog 64 #[x10] w33 (fun e38 w39 => ∃ u40 : Value, e38 = .returned u40 ∧ Keeps w.heap.size [48] w33 w39 ∧ Calls Try.prog 46 #[(Value.agg #[(Value.int .i64 x16), (Value.int .i64 x17), (Value.int .i64 x18), (Value.int .i64 x19), (Value.int .i64 x20)])] w39 (fun e41 w42 => ∃ n43 : Int, ∃ n44 : Int, ∃ n45 : Int, ∃ n46 : Int, ∃ n47 : Int, e41 = .returned (Value.agg #[(Value.int .i64 n43), (Value.int .i64 n44), (Value.int .i64 n45), (Value.int .i64 n46), (Value.int .i64 n47)]) ∧ Keeps w.heap.size [48] w39 w42 ∧ Calls Try.prog 65 #[(Value.agg #[(Value.int .i64 n43), (Value.int .i64 n44), (Value.int .i64 n45), (Value.int .i64 n46), (Value.int .i64 n47)]), u40] w42 (fun e48 w49 => ∃ u50 : Value, ∃ u51 : Value, ∃ u52 : Value, ∃ n53 : Int, e48 = .returned (Value.tuple #[u50, u51, u52, (Value.int .i64 n53)]) ∧ Keeps w.heap.size [48] w42 w49 ∧ Calls Try.prog 18 #[u50, u34] w49 (fun e54 w55 => ∃ b56 : Bool, e54 = .returned (Value.bool b56) ∧ Keeps w.heap.size [48] w49 w55 ∧ (((!b56) = true → Post (Value.bool false) w55) ∧ ((!b56) = false → Calls Try.prog 18 #[u51, u35] w55 (fun e136 w137 => ∃ b138 : Bool, e136 = .returned (Value.bool b138) ∧ Keeps w.heap.size [48] w55 w137 ∧ (((!b138) = true → Post (Value.bool false) w137) ∧ ((!b138) = false → Calls Try.prog 18 #[u52, u36] w137 (fun e139 w140 => ∃ b141 : Bool, e139 = .returned (Value.bool b141) ∧ Keeps w.heap.size [48] w137 w140 ∧ (((!b141) = true → Post (Value.bool false) w140) ∧ ((!b141) = false → (laws_FnExactStockOf_k13 w Post n37 n53 x10 u34 u35 u36 n37 u40 u50 u51 u52 n53 x16 x17 x18 x19 x20 w140))))))))))))))))
def laws_FnExactStockOf_vc (m_Chambers : Int) (m_Depths : Int) (m_Step : Int) (m_Same : Int) (m_Least : Int) (v : Value) (w : World) (Post : Value → World → Prop) : Prop :=
  ∀ w1 : World, Ext w w1 → Calls Try.prog 62 #[v, (Value.int .i64 1048576)] w1 (fun e2 w3 => ∃ n4 : Int, e2 = .returned (Value.int .i64 n4) ∧ Keeps w.heap.size [48] w1 w3 ∧ (((n4 < (0 : Int)) → Post (Value.bool true) w3) ∧ (¬ (n4 < (0 : Int)) → (laws_FnExactStockOf_k14 w Post v m_Chambers m_Depths m_Step m_Same m_Least w3))))
theorem laws_FnExactStockOf_eq (m_Chambers : Int) (m_Depths : Int) (m_Step : Int) (m_Same : Int) (m_Least : Int) (v : Value) (w : World) (Post : Value → World → Prop) : denF Try.prog [1000064, 1000065, 9400000, 9600000, 9800000] noAnn 11 [(Value.agg #[(Value.int .i64 m_Chambers), (Value.int .i64 m_Depths), (Value.int .i64 m_Step), (Value.int .i64 m_Same), (Value.int .i64 m_Least)]), v] w Post = laws_FnExactStockOf_vc m_Chambers m_Depths m_Step m_Same m_Least v w Post := by kernel_rfl
set_option maxRecDepth 100000 in
theorem laws_FnExactStockOf_calls (m_Chambers : Int) (m_Depths : Int) (m_Step : Int) (m_Same : Int) (m_Least : Int) (v : Value) (w : World) (Post : Value → World → Prop) (hvc : laws_FnExactStockOf_vc m_Chambers m_Depths m_Step m_Same m_Least v w Post) : Ret Try.prog 11 #[(Value.agg #[(Value.int .i64 m_Chambers), (Value.int .i64 m_Depths), (Value.int .i64 m_Step), (Value.int .i64 m_Same), (Value.int .i64 m_Least)]), v] w Post :=
  Ret.of (denF_sound mixed (Eq.mpr (laws_FnExactStockOf_eq m_Chambers m_Depths m_Step m_Same m_Least v w Post) hvc))

end Go.Proofs
namespace Go.Proofs.Yteolgidmaklbkaa.lawStockOf
open Go.Proofs Go.Sx Go.RowKit Go.ChangeShapes Go.WideShapes Go.ChangeAt Go.Joins
theorem walk (c : Int) (_ : (Lit.int .i64 c).wf = true) (d : Int) (_ : (Lit.int .i64 d).wf = true) (s : Int) (_ : (Lit.int .i64 s).wf = true) (m : Int) (_ : (Lit.int .i64 m).wf = true) (l : Int) (_ : (Lit.int .i64 l).wf = true) (v : Value) (lss : List (List (List Int))) (w : World) (h : RLs w v lss) : Val Try.prog 11 #[mkV c d s m l, v] w (.bool true) :=
  Ret.val (laws_FnExactStockOf_calls c d s m l v w _ (by
    unfold laws_FnExactStockOf_vc
    intro w1 h1
    refine (laws_szLockS_ret v 1048576 lss w1 (h.ext h1) (by decide) (by decide)).call ?_
    rintro _ w3 ⟨h3, n, rfl, hn, hn'⟩
    have k3 := h1.trans h3
    refine ⟨n, rfl, h3.keeps, fun _ => ⟨rfl, k3⟩, fun hpos => ?_⟩
    obtain ⟨hl, hz⟩ := hn' (by omega)
    have hl' : lss.length ≤ 1048576 := by omega
    have hz' : ∀ z ∈ lss, z.length ≤ 1048576 ∧ ∀ y ∈ z, y.length ≤ 1048576 := fun z hz2 => by
      obtain ⟨a, b⟩ := hz z hz2
      exact ⟨by omega, fun y hy => by have := b y hy; omega⟩
    generalize hM : (⟨c, d, s, m, l⟩ : Mk) = M
    obtain ⟨rfl, rfl, rfl, rfl, rfl⟩ : c = M.c ∧ d = M.d ∧ s = M.s ∧ m = M.m ∧ l = M.l := by subst hM; exact ⟨rfl, rfl, rfl, rfl, rfl⟩
    obtain ⟨lb, lw, ld⟩ := stk_len M lss
    -- the reference
    refine (laws_toMaker_val ..).call fun w23 h23 => ⟨_, _, _, _, _, rfl, h23.keeps, ?_⟩
    have k23 := k3.trans h23
    refine (laws_toLockS_ret v lss w23 (h.ext k23) hl' hz').call ?_
    rintro a w30 ⟨oa, h30⟩
    have k30 := k23.trans h30
    refine ⟨a, rfl, h30.keeps, ?_⟩
    refine (spec_StockOf_ret M a lss w30 oa.rls).call ?_
    rintro _ w33 ⟨s1, s2, s3, N1, rfl, ts, hN1, h33⟩
    have k33 := k30.trans h33
    refine ⟨s1, s2, s3, _, rfl, h33.keeps, ?_⟩
    -- the program
    refine (laws_toLockS_ret v lss w33 (h.ext k33) hl' hz').call ?_
    rintro x w39 ⟨ox, h39⟩
    have k39 := k33.trans h39
    refine ⟨x, rfl, h39.keeps, ?_⟩
    refine (laws_toMaker_val ..).call fun w42 h42 => ⟨_, _, _, _, _, rfl, h42.keeps, ?_⟩
    have k42 := k39.trans h42
    refine (impl_StockOf_ret M x lss w42 (ox.ext h42).rls).call ?_
    rintro _ w49 ⟨g1, g2, g3, N2, rfl, tg, hN2, h49⟩
    have k49 := k42.trans h49
    refine ⟨g1, g2, g3, _, rfl, h49.keeps, ?_⟩
    have ts := ((ts.ext h39).ext h42).ext h49
    have ox := (ox.ext h42).ext h49
    refine (laws_eqInt64S_val g1 s1 _ _ w49 tg.b.1.rd ts.b.1.rd).call fun w55 h55 => ⟨_, rfl, h55.keeps, fun hb => (by simp at hb), fun _ => ?_⟩
    have ts := ts.ext h55
    have tg := tg.ext h55
    have ox := ox.ext h55
    refine (laws_eqInt64S_val g2 s2 _ _ w55 tg.w.1.rd ts.w.1.rd).call fun w137 h137 => ⟨_, rfl, h137.keeps, fun hb => (by simp at hb), fun _ => ?_⟩
    have ts := ts.ext h137
    have tg := tg.ext h137
    have ox := ox.ext h137
    refine (laws_eqInt64S_val g3 s3 _ _ w137 tg.d.1.rd ts.d.1.rd).call fun w140 h140 => ⟨_, rfl, h140.keeps, fun hb => (by simp at hb), fun _ => ⟨fun hne => absurd rfl hne, fun _ => ?_⟩⟩
    have ts := ts.ext h140
    have tg := tg.ext h140
    have ox := ox.ext h140
    have k140 := ((k49.trans h55).trans h137).trans h140
    -- the argument
    refine (laws_toLockS_ret v lss w140 (h.ext k140) hl' hz').call ?_
    rintro q w325 ⟨oq, h325⟩
    refine ⟨q, rfl, h325.keeps, ?_⟩
    refine (laws_eqLockS_val x q lss w325 (ox.ext h325).rls oq.rls).call fun w328 h328 => ⟨_, rfl, h328.keeps, fun hb => (by cases hb), fun _ => ?_⟩
    have ts := (ts.ext h325).ext h328
    have tg := (tg.ext h325).ext h328
    have ox := (ox.ext h325).ext h328
    have k328 := (k140.trans h325).trans h328
    -- it is marked
    refine (laws_markLockS_ret x 1 w33.heap.size w39.heap.size lss w328 ox (by decide) (by omega)).call ?_
    rintro _ w427 ⟨rfl, m427⟩
    refine ⟨_, rfl, m427.2 _ _ (by decide), fun hneg => absurd hneg (by omega), fun _ => ?_⟩
    have hN1' : N1 ≤ w33.heap.size := hN1
    have hs39 : w39.heap.size ≤ w42.heap.size := h42.size
    have k427 : Ext w w427 := m427.ext k328 (Nat.le_trans k30.size h33.size)
    have ts : TriR w30.heap.size N1 w427 s1 s2 s3 (stkR M lss) := ⟨ts.b.rest m427 (.inl hN1'), ts.w.rest m427 (.inl hN1'), ts.d.rest m427 (.inl hN1'), ts.bw, ts.bd, ts.wd⟩
    have tg : TriR w42.heap.size N2 w427 g1 g2 g3 (stkR M lss) := ⟨tg.b.rest m427 (.inr hs39), tg.w.rest m427 (.inr hs39), tg.d.rest m427 (.inr hs39), tg.bw, tg.bd, tg.wd⟩
    refine (laws_eqInt64S_val g1 s1 _ _ w427 tg.b.1.rd ts.b.1.rd).call fun w531 h531 => ⟨_, rfl, h531.keeps, fun hb => (by simp at hb), fun _ => ?_⟩
    have ts := ts.ext h531
    have tg := tg.ext h531
    refine (laws_eqInt64S_val g2 s2 _ _ w531 tg.w.1.rd ts.w.1.rd).call fun w534 h534 => ⟨_, rfl, h534.keeps, fun hb => (by simp at hb), fun _ => ?_⟩
    have ts := ts.ext h534
    have tg := tg.ext h534
    refine (laws_eqInt64S_val g3 s3 _ _ w534 tg.d.1.rd ts.d.1.rd).call fun w537 h537 => ⟨_, rfl, h537.keeps, fun hb => (by simp at hb), fun _ => ⟨fun hne => absurd rfl hne, fun _ => ?_⟩⟩
    have ts := ts.ext h537
    have tg := tg.ext h537
    have k537 := ((k427.trans h531).trans h534).trans h537
    -- the results are marked
    have hbase : w.heap.size ≤ w42.heap.size := k42.size
    have hsb : N1 ≤ w42.heap.size := Nat.le_trans hN1' (Nat.le_trans h39.size h42.size)
    refine (laws_markInt64S_ret g1 1 _ _ w537 tg.b.1 (by decide) (by rw [ints_length]; omega)).call ?_
    rintro _ w776 ⟨rfl, ob, gb⟩
    rw [ints_length] at ob ⊢
    have mb := tg.b.marked gb
    refine ⟨_, rfl, mb.2 _ _ (by decide), ?_⟩
    have tw := tg.w.1.grown gb tg.bw.symm
    have td := tg.d.1.grown gb tg.bd.symm
    have ts : TriR w30.heap.size N1 w776 s1 s2 s3 (stkR M lss) := ⟨ts.b.rest mb (.inl hsb), ts.w.rest mb (.inl hsb), ts.d.rest mb (.inl hsb), ts.bw, ts.bd, ts.wd⟩
    refine (laws_markInt64S_ret g2 _ _ _ w776 tw (by omega) (by rw [ints_length]; omega)).call ?_
    rintro _ w779 ⟨rfl, ow, gw⟩
    rw [ints_length] at ow ⊢
    have mw := OwnI.marked (N := N2) ⟨tw, tg.w.2⟩ gw
    refine ⟨_, rfl, mw.2 _ _ (by decide), ?_⟩
    have ob := ob.grown gw tg.bw
    have td := td.grown gw tg.wd.symm
    have ts : TriR w30.heap.size N1 w779 s1 s2 s3 (stkR M lss) := ⟨ts.b.rest mw (.inl hsb), ts.w.rest mw (.inl hsb), ts.d.rest mw (.inl hsb), ts.bw, ts.bd, ts.wd⟩
    refine (laws_markInt64S_ret g3 _ _ _ w779 td (by omega) (by rw [ints_length]; omega)).call ?_
    rintro _ w782 ⟨rfl, od, gd⟩
    rw [ints_length] at od ⊢
    have md := OwnI.marked (N := N2) ⟨td, tg.d.2⟩ gd
    refine ⟨_, rfl, md.2 _ _ (by decide), ?_⟩
    have ob := ob.grown gd tg.bd
    have ow := ow.grown gd tg.wd
    have ts : TriR w30.heap.size N1 w782 s1 s2 s3 (stkR M lss) := ⟨ts.b.rest md (.inl hsb), ts.w.rest md (.inl hsb), ts.d.rest md (.inl hsb), ts.bw, ts.bd, ts.wd⟩
    have k782 : Ext w w782 := md.ext (mw.ext (mb.ext k537 hbase) hbase) hbase
    -- they are held
    refine (laws_heldInt64S_val g1 1 _ w782 ob.rd (by decide) (by omega)).call fun w785 h785 => ⟨_, rfl, h785.keeps, fun hneg => absurd hneg (by omega), fun _ => ?_⟩
    refine (laws_heldInt64S_val g2 _ _ w785 (ow.ext h785).rd (by omega) (by omega)).call fun w921 h921 => ⟨_, rfl, h921.keeps, fun hneg => absurd hneg (by omega), fun _ => ?_⟩
    have x921 := h785.trans h921
    refine (laws_heldInt64S_val g3 _ _ w921 (od.ext x921).rd (by omega) (by omega)).call fun w1061 h1061 => ⟨_, rfl, h1061.keeps, fun hneg => absurd hneg (by omega), fun _ => ⟨fun hne => absurd rfl hne, fun _ => ?_⟩⟩
    have x1061 := x921.trans h1061
    have k1061 := k782.trans x1061
    -- once more
    refine (laws_toMaker_val ..).call fun w1348 h1348 => ⟨_, _, _, _, _, rfl, h1348.keeps, ?_⟩
    refine (laws_toLockS_ret v lss w1348 (h.ext (k1061.trans h1348)) hl' hz').call ?_
    rintro y w1355 ⟨oy, h1355⟩
    refine ⟨y, rfl, h1355.keeps, ?_⟩
    refine (impl_StockOf_ret M y lss w1355 oy.rls).call ?_
    rintro _ w1358 ⟨e1, e2, e3, N3, rfl, te, hN3, h1358⟩
    refine ⟨e1, e2, e3, _, rfl, h1358.keeps, ?_⟩
    have x1358 := ((x1061.trans h1348).trans h1355).trans h1358
    have ts := ts.ext x1358
    refine (laws_eqInt64S_val e1 s1 _ _ w1358 te.b.1.rd ts.b.1.rd).call fun w1364 h1364 => ⟨_, rfl, h1364.keeps, fun hb => (by simp at hb), fun _ => ?_⟩
    have ts := ts.ext h1364
    have te := te.ext h1364
    refine (laws_eqInt64S_val e2 s2 _ _ w1364 te.w.1.rd ts.w.1.rd).call fun w1542 h1542 => ⟨_, rfl, h1542.keeps, fun hb => (by simp at hb), fun _ => ?_⟩
    have ts := ts.ext h1542
    have te := te.ext h1542
    refine (laws_eqInt64S_val e3 s3 _ _ w1542 te.d.1.rd ts.d.1.rd).call fun w1545 h1545 => ⟨_, rfl, h1545.keeps, fun hb => (by simp at hb), fun _ => ⟨fun hne => absurd rfl hne, fun _ => ?_⟩⟩
    have x1545 := ((x1358.trans h1364).trans h1542).trans h1545
    refine (laws_heldInt64S_val g1 1 _ w1545 (ob.ext x1545).rd (by decide) (by omega)).call fun w1922 h1922 => ⟨_, rfl, h1922.keeps, fun hneg => absurd hneg (by omega), fun _ => ?_⟩
    have x1922 := x1545.trans h1922
    refine (laws_heldInt64S_val g2 _ _ w1922 (ow.ext x1922).rd (by omega) (by omega)).call fun w2116 h2116 => ⟨_, rfl, h2116.keeps, fun hneg => absurd hneg (by omega), fun _ => ?_⟩
    have x2116 := x1922.trans h2116
    refine (laws_heldInt64S_val g3 _ _ w2116 (od.ext x2116).rd (by omega) (by omega)).call fun w2314 h2314 => ⟨_, rfl, h2314.keeps, fun hneg => absurd hneg (by omega), fun _ => ⟨fun hne => absurd rfl hne, fun _ => ⟨rfl, k782.trans (x2116.trans h2314)⟩⟩⟩))
set_option linter.unusedSimpArgs false in
theorem readable : ∀ t ∈ Try.f11.params.toList, Try.prog.readableRec t = true ∧ t < Try.prog.types.size := by
  rw [Try.params11]
  simp only [List.mem_cons, List.not_mem_nil, or_false, forall_eq_or_imp, forall_eq]
  exact ⟨⟨by kernel_rfl, of_decide_eq_true (by kernel_rfl)⟩, ⟨by kernel_rfl, of_decide_eq_true (by kernel_rfl)⟩⟩

set_option maxRecDepth 100000 in
theorem lifted (os : Os) (started : os.Started) (H : Type) (enc : TypeId × Value → H) :
    ReturnsInHanded {} Try.checked os 11 .any (Rows.fnExactStockOfSpec.pre6 enc Try.prog Try.f11 Rows.fnExactStockOfRow.domain false) (Rows.fnExactStockOfSpec.post enc Try.prog Try.f11 false true false false) := by
  refine returnsInHanded_of_change (C := Try.checked) ownKnobNone started (by kernel_rfl) Try.func11
    (ChangeSpec.witness6 (enc := enc) (C := Try.checked) false ⟨#[], #[.agg #[.int .i64 0, .int .i64 0, .int .i64 0, .int .i64 0, .int .i64 0], .slice none 0 0], []⟩ 8 (by kernel_rfl) (by kernel_rfl) (by kernel_rfl) (by kernel_rfl)) ?_
  intro W base args ds gs before hval0 hW hcnd _
  have hval : ∀ (j : Nat) t v, Try.f11.params[j]? = some t → args[j]? = some v → Value.okWide Try.prog W .any base t v := hval0
  have hW' := hW
  obtain ⟨p, q, hA0, hV, rfl, hfz, hnd⟩ := hW
  have hA1 : DataW.TrodAll enc Try.prog W 0 (fun _ => true) true Try.f11.params.toList args.toList ds p := hA0
  have hA := hA1
  rw [Try.params11] at hA hval
  obtain ⟨v0, vs0, d0, ds0, p0, q0, hargs, rfl, rfl, h0, r0⟩ := trodAll_cons hA
  obtain ⟨v1, vs1, d1, ds1, p1, q1, rfl, rfl, rfl, h1, r1⟩ := trodAll_cons r0
  obtain ⟨rfl, rfl, rfl⟩ := trodAll_nil r1
  obtain rfl : args = #[v0, v1] := by cases args; simp_all
  obtain ⟨rfl, rfl⟩ := trodVars_none hV
  obtain ⟨v0_0, v0_1, v0_2, v0_3, v0_4, y0_0, y0_1, y0_2, y0_3, y0_4, m0, rfl, rfl, rfl, g0_0, g0_1, g0_2, g0_3, g0_4⟩ := open_agg5 Try.underlying48 (by kernel_rfl) (by kernel_rfl) (hval 0 48 v0 rfl rfl) h0
  obtain ⟨a0_0, e0_0, rfl, w0_0⟩ := DataW.trod_int Try.underlying2 g0_0
  simp only [List.cons.injEq, and_true] at e0_0
  subst e0_0
  obtain ⟨a0_1, e0_1, rfl, w0_1⟩ := DataW.trod_int Try.underlying2 g0_1
  simp only [List.cons.injEq, and_true] at e0_1
  subst e0_1
  obtain ⟨a0_2, e0_2, rfl, w0_2⟩ := DataW.trod_int Try.underlying2 g0_2
  simp only [List.cons.injEq, and_true] at e0_2
  subst e0_2
  obtain ⟨a0_3, e0_3, rfl, w0_3⟩ := DataW.trod_int Try.underlying2 g0_3
  simp only [List.cons.injEq, and_true] at e0_3
  subst e0_3
  obtain ⟨a0_4, e0_4, rfl, w0_4⟩ := DataW.trod_int Try.underlying2 g0_4
  simp only [List.cons.injEq, and_true] at e0_4
  subst e0_4
  obtain ⟨z1, hz1⟩ := open_RL Try.underlying69 Try.underlying51 rfl rfl (by kernel_rfl) (by kernel_rfl) Try.underlying49 Try.underlying22 Try.underlying2 (by kernel_rfl) (by kernel_rfl) (hval 1 69 v1 rfl rfl) h1
  clear hA0 hval0
  refine (Val.calls (walk a0_0 w0_0 a0_1 w0_1 a0_2 w0_2 a0_3 w0_3 a0_4 w0_4 v1 z1 W hz1)).mono fun e W' ⟨he, hg⟩ => ?_
  subst he
  exact ⟨_, rfl, law_post laidOut readable hW' hA1 Try.underlying4 rfl rfl rfl hg⟩

theorem proved : Rows.FnExactStockOfSaid :=
  OpenClaim.holds_of_wide 11 Try.f11 rfl rfl rfl rfl rfl rfl rfl ⟨rfl, rfl, rfl, rfl, rfl⟩ rfl rfl rfl rfl rfl (by kernel_rfl) Try.func11 (by kernel_rfl)
    (of_decide_eq_true (by kernel_rfl)) (by unfold Func.isWrapper; first | (rw [if_pos (by decide +kernel)]; kernel_rfl) | (rw [if_neg (by decide +kernel)]; exact ⟨rfl, rfl⟩))
    (fun os started H enc _ => lifted os started H enc)

end Go.Proofs.Yteolgidmaklbkaa.lawStockOf
