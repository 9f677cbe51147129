/- The law FnExactMeetLocks: the program's function answers as the reference's, for all arguments. No condition. -/
import Derived.Test.YteolgidmaklbkaaL04e
set_option linter.unusedVariables false
namespace Go.Proofs
open Go.Sx Go.RowKit
abbrev laws_FnExactMeetLocks_k0 (Post : Value → World → Prop) (x1541 : Int) (x1542 : Int) (w1675 : World) : Prop :=
  (((x1542 ≠ x1541) → Post (Value.bool false) w1675) ∧ (¬ (x1542 ≠ x1541) → Post (Value.bool true) w1675))
abbrev laws_FnExactMeetLocks_k1 (w : World) (Post : Value → World → Prop) (x1396 : Int) (x1524 : Value) (w1526 : World) : Prop :=
  Calls Try.prog 51 #[(Value.agg #[x1524]), (Value.int .i64 1)] w1526 (fun e1527 w1528 => ∃ n1529 : Int, e1527 = .returned (Value.int .i64 n1529) ∧ Keeps w.heap.size [48, 51, 51, 53, 53, 53, 53, 53] w1526 w1528 ∧ (((n1529 < (0 : Int)) → Post (Value.bool false) w1528) ∧ (¬ (n1529 < (0 : Int)) → (laws_FnExactMeetLocks_k0 Post x1396 n1529 w1528))))
abbrev laws_FnExactMeetLocks_k2 (w : World) (Post : Value → World → Prop) (x967 : Int) (n1097 : Int) (x1254 : Int) (x1382 : Value) (w1384 : World) : Prop :=
  (((n1097 ≠ x967) → Post (Value.bool false) w1384) ∧ (¬ (n1097 ≠ x967) → (laws_FnExactMeetLocks_k1 w Post x1254 x1382 w1384)))
abbrev laws_FnExactMeetLocks_k3 (w : World) (Post : Value → World → Prop) (x967 : Int) (x970 : Int) (x1061 : Int) (x1062 : Int) (x1063 : Int) (x1064 : Int) (x1065 : Int) (x1066 : Value) (x1067 : Value) (x1068 : Value) (x1071 : Value) (w1072 : World) : Prop :=
  ∀ w1073 : World, Ext w1072 w1073 → ∀ w1074 : World, Ext w1073 w1074 → ∀ w1075 : World, Ext w1074 w1075 → ∀ w1076 : World, Ext w1075 w1076 → ∀ w1077 : World, Ext w1076 w1077 → Calls Try.prog 46 #[(Value.agg #[(Value.int .i64 x1061), (Value.int .i64 x1062), (Value.int .i64 x1063), (Value.int .i64 x1064), (Value.int .i64 x1065)])] w1077 (fun e1078 w1079 => ∃ n1080 : Int, ∃ n1081 : Int, ∃ n1082 : Int, ∃ n1083 : Int, ∃ n1084 : Int, e1078 = .returned (Value.agg #[(Value.int .i64 n1080), (Value.int .i64 n1081), (Value.int .i64 n1082), (Value.int .i64 n1083), (Value.int .i64 n1084)]) ∧ Keeps w.heap.size [53, 48, 51, 51, 53, 53, 53, 53] w1077 w1079 ∧ Ext w1076 w1079 ∧ ∀ w1085 : World, Ext w1079 w1085 → Calls Try.prog 47 #[(Value.agg #[x1066])] w1085 (fun e1086 w1087 => ∃ u1088 : Value, e1086 = .returned (Value.agg #[u1088]) ∧ Keeps w.heap.size [53, 48, 51, 51, 53, 53, 53, 53] w1085 w1087 ∧ Ext w1076 w1087 ∧ ∀ w1089 : World, Ext w1087 w1089 → Calls Try.prog 47 #[(Value.agg #[x1067])] w1089 (fun e1090 w1091 => ∃ u1092 : Value, e1090 = .returned (Value.agg #[u1092]) ∧ Keeps w.heap.size [53, 48, 51, 51, 53, 53, 53, 53] w1089 w1091 ∧ Ext w1076 w1091 ∧ ∀ w1093 : World, Ext w1091 w1093 → Calls Try.prog 55 #[(Value.agg #[(Value.int .i64 n1080), (Value.int .i64 n1081), (Value.int .i64 n1082), (Value.int .i64 n1083), (Value.int .i64 n1084)]), (Value.agg #[u1088]), (Value.agg #[u1092])] w1093 (fun e1094 w1095 => ∃ u1096 : Value, ∃ n1097 : Int, e1094 = .returned (Value.tuple #[(Value.agg #[u1096]), (Value.int .i64 n1097)]) ∧ Keeps w.heap.size [53, 48, 51, 51, 53, 53, 53, 53] w1093 w1095 ∧ Ext w1076 w1095 ∧ ∀ w1098 : World, Ext w1095 w1098 → oneC u1096 (∀ w1099 : World, BxS w.heap.size 53 w1098 w1099 → Calls Try.prog 49 #[(Value.agg #[u1096]), (Value.agg #[x1068])] w1099 (fun e1100 w1101 => ∃ b1102 : Bool, e1100 = .returned (Value.bool b1102) ∧ Keeps w.heap.size [48, 51, 51, 53, 53, 53, 53, 53] w1099 w1101 ∧ (((!b1102) = true → Post (Value.bool false) w1101) ∧ ((!b1102) = false → (laws_FnExactMeetLocks_k2 w Post x967 n1097 x970 x1071 w1101)))))))))
abbrev laws_FnExactMeetLocks_k4 (w : World) (Post : Value → World → Prop) (x855 : Int) (x858 : Int) (x859 : Int) (x947 : Int) (x948 : Int) (x949 : Int) (x950 : Int) (x951 : Int) (x952 : Value) (x953 : Value) (x954 : Value) (x957 : Value) (w958 : World) : Prop :=
  (((x859 ≠ x858) → Post (Value.bool false) w958) ∧ (¬ (x859 ≠ x858) → (laws_FnExactMeetLocks_k3 w Post x855 x858 x947 x948 x949 x950 x951 x952 x953 x954 x957 w958)))
abbrev laws_FnExactMeetLocks_k5 (w : World) (Post : Value → World → Prop) (x746 : Int) (x829 : Int) (x830 : Int) (x831 : Int) (x832 : Int) (x833 : Int) (x834 : Value) (x835 : Value) (x836 : Value) (x839 : Value) (w840 : World) : Prop :=
  Calls Try.prog 50 #[(Value.agg #[x839]), (Value.int .i64 1)] w840 (fun e841 w842 => ∃ n843 : Int, e841 = .returned (Value.int .i64 n843) ∧ Keeps w.heap.size [48, 51, 51, 53, 53, 53, 53] w840 w842 ∧ Calls Try.prog 51 #[(Value.agg #[x839]), (Value.int .i64 1)] w842 (fun e844 w845 => ∃ n846 : Int, e844 = .returned (Value.int .i64 n846) ∧ Keeps w.heap.size [48, 51, 51, 53, 53, 53, 53] w842 w845 ∧ (((n846 < (0 : Int)) → Post (Value.bool false) w845) ∧ (¬ (n846 < (0 : Int)) → (laws_FnExactMeetLocks_k4 w Post x746 n843 n846 x829 x830 x831 x832 x833 x834 x835 x836 x839 w845)))))
abbrev laws_FnExactMeetLocks_k6 (w : World) (Post : Value → World → Prop) (x450 : Int) (x451 : Int) (x643 : Int) (x726 : Int) (x727 : Int) (x728 : Int) (x729 : Int) (x730 : Int) (x731 : Value) (x732 : Value) (x733 : Value) (x736 : Value) (w737 : World) : Prop :=
  (((x451 ≠ x450) → Post (Value.bool false) w737) ∧ (¬ (x451 ≠ x450) → (laws_FnExactMeetLocks_k5 w Post x643 x726 x727 x728 x729 x730 x731 x732 x733 x736 w737)))
abbrev laws_FnExactMeetLocks_k7 (w : World) (Post : Value → World → Prop) (x450 : Int) (x451 : Int) (x518 : Int) (x519 : Int) (x520 : Int) (x521 : Int) (x522 : Int) (x523 : Value) (x524 : Value) (x525 : Value) (x526 : Value) (x527 : Value) (x528 : Value) (w529 : World) : Prop :=
  Calls Try.prog 50 #[(Value.agg #[x526]), (Value.int .i64 1)] w529 (fun e530 w531 => ∃ n532 : Int, e530 = .returned (Value.int .i64 n532) ∧ Keeps w.heap.size [48, 51, 51, 53, 53, 53, 53] w529 w531 ∧ Calls Try.prog 50 #[(Value.agg #[x527]), (Value.int .i64 n532)] w531 (fun e533 w534 => ∃ n535 : Int, e533 = .returned (Value.int .i64 n535) ∧ Keeps w.heap.size [48, 51, 51, 53, 53, 53, 53] w531 w534 ∧ (((n535 < (0 : Int)) → Post (Value.bool false) w534) ∧ (¬ (n535 < (0 : Int)) → Calls Try.prog 49 #[(Value.agg #[x528]), (Value.agg #[x525])] w534 (fun e632 w633 => ∃ b634 : Bool, e632 = .returned (Value.bool b634) ∧ Keeps w.heap.size [48, 51, 51, 53, 53, 53, 53] w534 w633 ∧ (((!b634) = true → Post (Value.bool false) w633) ∧ ((!b634) = false → (laws_FnExactMeetLocks_k6 w Post x450 x451 x450 x518 x519 x520 x521 x522 x523 x524 x525 x528 w633))))))))
abbrev laws_FnExactMeetLocks_k8 (w : World) (Post : Value → World → Prop) (x360 : Int) (x361 : Int) (x423 : Int) (x424 : Int) (x425 : Int) (x426 : Int) (x427 : Int) (x428 : Value) (x429 : Value) (x430 : Value) (x431 : Value) (x432 : Value) (x433 : Value) (w434 : World) : Prop :=
  ∀ w435 : World, Ext w434 w435 → Calls Try.prog 47 #[(Value.agg #[x429])] w435 (fun e436 w437 => ∃ u438 : Value, e436 = .returned (Value.agg #[u438]) ∧ Keeps w.heap.size [48, 51, 51, 53, 53, 53, 53] w435 w437 ∧ Keeps w.heap.size [53] w435 w437 ∧ Calls Try.prog 49 #[(Value.agg #[x432]), (Value.agg #[u438])] w437 (fun e439 w440 => ∃ b441 : Bool, e439 = .returned (Value.bool b441) ∧ Keeps w.heap.size [48, 51, 51, 53, 53, 53, 53] w437 w440 ∧ Keeps w.heap.size [53] w435 w440 ∧ (((!b441) = true → Post (Value.bool false) w440) ∧ ((!b441) = false → (laws_FnExactMeetLocks_k7 w Post x360 x361 x423 x424 x425 x426 x427 x428 x429 x430 x431 x432 x433 w440)))))
abbrev laws_FnExactMeetLocks_k9 (w : World) (Post : Value → World → Prop) (x275 : Int) (x276 : Int) (x333 : Int) (x334 : Int) (x335 : Int) (x336 : Int) (x337 : Int) (x338 : Value) (x339 : Value) (x340 : Value) (x341 : Value) (x342 : Value) (x343 : Value) (w344 : World) : Prop :=
  ∀ w345 : World, Ext w344 w345 → Calls Try.prog 47 #[(Value.agg #[x338])] w345 (fun e346 w347 => ∃ u348 : Value, e346 = .returned (Value.agg #[u348]) ∧ Keeps w.heap.size [48, 51, 51, 53, 53, 53, 53] w345 w347 ∧ Keeps w.heap.size [53] w345 w347 ∧ Calls Try.prog 49 #[(Value.agg #[x341]), (Value.agg #[u348])] w347 (fun e349 w350 => ∃ b351 : Bool, e349 = .returned (Value.bool b351) ∧ Keeps w.heap.size [48, 51, 51, 53, 53, 53, 53] w347 w350 ∧ Keeps w.heap.size [53] w345 w350 ∧ (((!b351) = true → Post (Value.bool false) w350) ∧ ((!b351) = false → (laws_FnExactMeetLocks_k8 w Post x275 x276 x333 x334 x335 x336 x337 x338 x339 x340 x341 x342 x343 w350)))))
abbrev laws_FnExactMeetLocks_k10 (w : World) (Post : Value → World → Prop) (n78 : Int) (n107 : Int) (x197 : Int) (x198 : Int) (x255 : Int) (x256 : Int) (x257 : Int) (x258 : Int) (x259 : Int) (x260 : Value) (x261 : Value) (x262 : Value) (x263 : Value) (x264 : Value) (x265 : Value) (w266 : World) : Prop :=
  (((n107 ≠ n78) → Post (Value.bool false) w266) ∧ (¬ (n107 ≠ n78) → (laws_FnExactMeetLocks_k9 w Post x197 x198 x255 x256 x257 x258 x259 x260 x261 x262 x263 x264 x265 w266)))
abbrev laws_FnExactMeetLocks_k11 (w : World) (Post : Value → World → Prop) (x46 : Int) (x47 : Int) (x48 : Int) (x49 : Int) (x50 : Int) (x51 : Value) (x52 : Value) (w53 : World) : Prop :=
  ∀ w54 : World, Ext w53 w54 → ∀ w55 : World, Ext w54 w55 → ∀ w56 : World, Ext w55 w56 → ∀ w57 : World, Ext w56 w57 → ∀ w58 : World, Ext w57 w58 → Calls Try.prog 46 #[(Value.agg #[(Value.int .i64 x46), (Value.int .i64 x47), (Value.int .i64 x48), (Value.int .i64 x49), (Value.int .i64 x50)])] w58 (fun e59 w60 => ∃ n61 : Int, ∃ n62 : Int, ∃ n63 : Int, ∃ n64 : Int, ∃ n65 : Int, e59 = .returned (Value.agg #[(Value.int .i64 n61), (Value.int .i64 n62), (Value.int .i64 n63), (Value.int .i64 n64), (Value.int .i64 n65)]) ∧ Keeps w.heap.size [53, 48, 51, 51] w58 w60 ∧ Ext w57 w60 ∧ ∀ w66 : World, Ext w60 w66 → Calls Try.prog 47 #[(Value.agg #[x51])] w66 (fun e67 w68 => ∃ u69 : Value, e67 = .returned (Value.agg #[u69]) ∧ Keeps w.heap.size [53, 48, 51, 51] w66 w68 ∧ Ext w57 w68 ∧ ∀ w70 : World, Ext w68 w70 → Calls Try.prog 47 #[(Value.agg #[x52])] w70 (fun e71 w72 => ∃ u73 : Value, e71 = .returned (Value.agg #[u73]) ∧ Keeps w.heap.size [53, 48, 51, 51] w70 w72 ∧ Ext w57 w72 ∧ ∀ w74 : World, Ext w72 w74 → Calls Try.prog 54 #[(Value.agg #[(Value.int .i64 n61), (Value.int .i64 n62), (Value.int .i64 n63), (Value.int .i64 n64), (Value.int .i64 n65)]), (Value.agg #[u69]), (Value.agg #[u73])] w74 (fun e75 w76 => ∃ u77 : Value, ∃ n78 : Int, e75 = .returned (Value.tuple #[(Value.agg #[u77]), (Value.int .i64 n78)]) ∧ Keeps w.heap.size [53, 48, 51, 51] w74 w76 ∧ Ext w57 w76 ∧ ∀ w79 : World, Ext w76 w79 → oneC u77 (∀ w80 : World, BxS w.heap.size 53 w79 w80 → Calls Try.prog 47 #[(Value.agg #[x51])] w80 (fun e81 w82 => ∃ u83 : Value, e81 = .returned (Value.agg #[u83]) ∧ Keeps w.heap.size [48, 51, 51, 53] w80 w82 ∧ ∀ w84 : World, Ext w82 w84 → oneC u83 (∀ w85 : World, BxS w.heap.size 53 w84 w85 → Calls Try.prog 47 #[(Value.agg #[x52])] w85 (fun e86 w87 => ∃ u88 : Value, e86 = .returned (Value.agg #[u88]) ∧ Keeps w.heap.size [48, 51, 51, 53, 53] w85 w87 ∧ ∀ w89 : World, Ext w87 w89 → oneC u88 (∀ w90 : World, BxS w.heap.size 53 w89 w90 → ∀ w91 : World, Ext w90 w91 → ∀ w92 : World, Ext w91 w92 → ∀ w93 : World, Ext w92 w93 → ∀ w94 : World, Ext w93 w94 → ∀ w95 : World, Ext w94 w95 → Calls Try.prog 46 #[(Value.agg #[(Value.int .i64 x46), (Value.int .i64 x47), (Value.int .i64 x48), (Value.int .i64 x49), (Value.int .i64 x50)])] w95 (fun e96 w97 => ∃ n98 : Int, ∃ n99 : Int, ∃ n100 : Int, ∃ n101 : Int, ∃ n102 : Int, e96 = .returned (Value.agg #[(Value.int .i64 n98), (Value.int .i64 n99), (Value.int .i64 n100), (Value.int .i64 n101), (Value.int .i64 n102)]) ∧ Keeps w.heap.size [53, 48, 51, 51, 53, 53, 53] w95 w97 ∧ Ext w94 w97 ∧ ∀ w103 : World, Ext w97 w103 → Calls Try.prog 55 #[(Value.agg #[(Value.int .i64 n98), (Value.int .i64 n99), (Value.int .i64 n100), (Value.int .i64 n101), (Value.int .i64 n102)]), (Value.agg #[u83]), (Value.agg #[u88])] w103 (fun e104 w105 => ∃ u106 : Value, ∃ n107 : Int, e104 = .returned (Value.tuple #[(Value.agg #[u106]), (Value.int .i64 n107)]) ∧ Keeps w.heap.size [53, 48, 51, 51, 53, 53, 53] w103 w105 ∧ Ext w94 w105 ∧ ∀ w108 : World, Ext w105 w108 → oneC u106 (∀ w109 : World, BxS w.heap.size 53 w108 w109 → Calls Try.prog 49 #[(Value.agg #[u106]), (Value.agg #[u77])] w109 (fun e110 w111 => ∃ b112 : Bool, e110 = .returned (Value.bool b112) ∧ Keeps w.heap.size [48, 51, 51, 53, 53, 53, 53] w109 w111 ∧ (((!b112) = true → Post (Value.bool false) w111) ∧ ((!b112) = false → (laws_FnExactMeetLocks_k10 w Post n78 n107 n78 n107 x46 x47 x48 x49 x50 x51 x52 u77 u83 u88 u106 w111))))))))))))))))
abbrev laws_FnExactMeetLocks_k12 (w : World) (Post : Value → World → Prop) (x14 : Int) (x19 : Int) (x20 : Int) (x21 : Int) (x22 : Int) (x23 : Int) (x24 : Value) (x25 : Value) (w26 : World) : Prop :=
  Calls Try.prog 44 #[(Value.agg #[x25]), (Value.int .i64 x14)] w26 (fun e27 w28 => ∃ n29 : Int, e27 = .returned (Value.int .i64 n29) ∧ Keeps w.heap.size [48, 51, 51] w26 w28 ∧ (((n29 < (0 : Int)) → Post (Value.bool true) w28) ∧ (¬ (n29 < (0 : Int)) → (laws_FnExactMeetLocks_k11 w Post x19 x20 x21 x22 x23 x24 x25 w28))))
def laws_FnExactMeetLocks_vc (m_Chambers : Int) (m_Depths : Int) (m_Step : Int) (m_Same : Int) (m_Least : Int) (v0_Sets : Value) (v1_Sets : Value) (w : World) (Post : Value → World → Prop) : Prop :=
  ∀ w1 : World, Ext w w1 → oneC v0_Sets (∀ w2 : World, Ext w1 w2 → oneC v1_Sets (∀ w3 : World, Ext w2 w3 → Calls Try.prog 44 #[(Value.agg #[v0_Sets]), (Value.int .i64 1048576)] w3 (fun e4 w5 => ∃ n6 : Int, e4 = .returned (Value.int .i64 n6) ∧ Keeps w.heap.size [48, 51, 51] w3 w5 ∧ (((n6 < (0 : Int)) → Post (Value.bool true) w5) ∧ (¬ (n6 < (0 : Int)) → (laws_FnExactMeetLocks_k12 w Post n6 m_Chambers m_Depths m_Step m_Same m_Least v0_Sets v1_Sets w5))))))
theorem laws_FnExactMeetLocks_eq (m_Chambers : Int) (m_Depths : Int) (m_Step : Int) (m_Same : Int) (m_Least : Int) (v0_Sets : Value) (v1_Sets : Value) (w : World) (Post : Value → World → Prop) : denF Try.prog [1000047, 1000055, 9400000, 9600000, 9800000] noAnn 9 [(Value.agg #[(Value.int .i64 m_Chambers), (Value.int .i64 m_Depths), (Value.int .i64 m_Step), (Value.int .i64 m_Same), (Value.int .i64 m_Least)]), (Value.agg #[v0_Sets]), (Value.agg #[v1_Sets])] w Post = laws_FnExactMeetLocks_vc m_Chambers m_Depths m_Step m_Same m_Least v0_Sets v1_Sets w Post := by kernel_rfl
set_option maxRecDepth 100000 in
theorem laws_FnExactMeetLocks_calls (m_Chambers : Int) (m_Depths : Int) (m_Step : Int) (m_Same : Int) (m_Least : Int) (v0_Sets : Value) (v1_Sets : Value) (w : World) (Post : Value → World → Prop) (hvc : laws_FnExactMeetLocks_vc m_Chambers m_Depths m_Step m_Same m_Least v0_Sets v1_Sets w Post) : Ret Try.prog 9 #[(Value.agg #[(Value.int .i64 m_Chambers), (Value.int .i64 m_Depths), (Value.int .i64 m_Step), (Value.int .i64 m_Same), (Value.int .i64 m_Least)]), (Value.agg #[v0_Sets]), (Value.agg #[v1_Sets])] w Post :=
  Ret.of (denF_sound mixed (Eq.mpr (laws_FnExactMeetLocks_eq m_Chambers m_Depths m_Step m_Same m_Least v0_Sets v1_Sets w Post) hvc))

end Go.Proofs
namespace Go.Proofs.Yteolgidmaklbkaa.lawMeetLocks
open Go.Proofs Go.Sx Go.RowKit Go.ChangeShapes Go.WideShapes Go.ChangeAt Go.Joins
theorem walk (c : Int) (_ : (Lit.int .i64 c).wf = true) (d : Int) (_ : (Lit.int .i64 d).wf = true) (s : Int) (_ : (Lit.int .i64 s).wf = true) (m : Int) (_ : (Lit.int .i64 m).wf = true) (l : Int) (_ : (Lit.int .i64 l).wf = true) (v0 : Value) (zv0 : List (List Int)) (v1 : Value) (zv1 : List (List Int)) (w : World) (hv0 : RR w v0 zv0) (_ : ∀ z ∈ zv0, ∀ n ∈ z, (Lit.int .i64 n).wf = true) (hv1 : RR w v1 zv1) (_ : ∀ z ∈ zv1, ∀ n ∈ z, (Lit.int .i64 n).wf = true) : Val Try.prog 9 #[mkV c d s m l, lkV v0, lkV v1] w (.bool true) :=
  Ret.val (laws_FnExactMeetLocks_calls c d s m l v0 v1 w _ (by
    unfold laws_FnExactMeetLocks_vc
    have hR := meetR_total ⟨c, d, s, m, l⟩ zv0 zv1
    intro w1 h1
    have k1 := h1
    have z1 := h1.size
    refine hv0.oneC fun w2 h2 => ?_
    have k2 := k1.trans h2
    have z2 := h2.size
    refine hv1.oneC fun w3 h3 => ?_
    have k3 := k2.trans h3
    have z3 := h3.size
    refine (laws_szLock_ret v0 1048576 zv0 w3 (hv0.ext k3) (by omega) (by omega)).call ?_
    rintro _ w4 ⟨h4, nz0, rfl, hnz0, hsz0⟩
    have k4 := k3.trans h4
    have z4 := h4.size
    refine ⟨nz0, rfl, h4.keeps, fun _ => ⟨rfl, k4⟩, fun hp0 => ?_⟩
    obtain ⟨hlv0, hzv0⟩ := hsz0 (by omega)
    have hl1v0 : zv0.length ≤ 1048576 := by omega
    have hz1v0 : ∀ z ∈ zv0, z.length ≤ 1048576 := fun z hh => by have := hzv0 z hh; omega
    have hTv0 := Nat.le_trans (total_max hz1v0) (Nat.mul_le_mul_right 1048576 hl1v0)
    have hl2v0 : zv0.length ≤ 4398046511104 := by omega
    have hz2v0 : ∀ z ∈ zv0, z.length ≤ 4398046511104 := fun z hh => by have := hz1v0 z hh; omega
    refine (laws_szLock_ret v1 nz0 zv1 w4 (hv1.ext k4) (by omega) (by omega)).call ?_
    rintro _ w5 ⟨h5, nz1, rfl, hnz1, hsz1⟩
    have k5 := k4.trans h5
    have z5 := h5.size
    refine ⟨nz1, rfl, h5.keeps, fun _ => ⟨rfl, k5⟩, fun hp1 => ?_⟩
    obtain ⟨hlv1, hzv1⟩ := hsz1 (by omega)
    have hl1v1 : zv1.length ≤ 1048576 := by omega
    have hz1v1 : ∀ z ∈ zv1, z.length ≤ 1048576 := fun z hh => by have := hzv1 z hh; omega
    have hTv1 := Nat.le_trans (total_max hz1v1) (Nat.mul_le_mul_right 1048576 hl1v1)
    have hl2v1 : zv1.length ≤ 4398046511104 := by omega
    have hz2v1 : ∀ z ∈ zv1, z.length ≤ 4398046511104 := fun z hh => by have := hz1v1 z hh; omega
    intro w6 h6
    have k6 := k5.trans h6
    have z6 := h6.size
    intro w7 h7
    have k7 := k6.trans h7
    have z7 := h7.size
    intro w8 h8
    have k8 := k7.trans h8
    have z8 := h8.size
    intro w9 h9
    have k9 := k8.trans h9
    have z9 := h9.size
    intro w10 h10
    have k10 := k9.trans h10
    have z10 := h10.size
    have x10 := h10
    refine (laws_toMaker_val ..).call fun w11 h11 => ⟨_, _, _, _, _, rfl, h11.keeps, (x10.trans h11), ?_⟩
    have k11 := k10.trans h11
    have z11 := h11.size
    have x11 := x10.trans h11
    intro w12 h12
    have k12 := k11.trans h12
    have z12 := h12.size
    have x12 := x11.trans h12
    refine (laws_toLock_ret v0 zv0 w12 (hv0.ext k12) hl2v0 hz2v0).call ?_
    rintro _ w13 ⟨v0s, rfl, qv0s, h13⟩
    refine ⟨v0s, rfl, h13.keeps, (x12.trans h13), ?_⟩
    have k13 := k12.trans h13
    have z13 := h13.size
    have x13 := x12.trans h13
    have ov0s13 := qv0s.m
    intro w14 h14
    have k14 := k13.trans h14
    have z14 := h14.size
    have ov0s14 := ov0s13.ext h14
    have x14 := x13.trans h14
    refine (laws_toLock_ret v1 zv1 w14 (hv1.ext k14) hl2v1 hz2v1).call ?_
    rintro _ w15 ⟨v1s, rfl, qv1s, h15⟩
    refine ⟨v1s, rfl, h15.keeps, (x14.trans h15), ?_⟩
    have k15 := k14.trans h15
    have z15 := h15.size
    have ov0s15 := ov0s14.ext h15
    have x15 := x14.trans h15
    have ov1s15 := qv1s.m
    intro w16 h16
    have k16 := k15.trans h16
    have z16 := h16.size
    have ov0s16 := ov0s15.ext h16
    have ov1s16 := ov1s15.ext h16
    have x16 := x15.trans h16
    refine (spec_MeetLocks_ret ⟨c, d, s, m, l⟩ v0s v1s zv0 zv1 w16 ov0s16.rr ov1s16.rr).call ?_
    rintro _ w17 ⟨a, rfl, qa, h17⟩
    refine ⟨a, _, rfl, h17.keeps, (x16.trans h17), ?_⟩
    have k17 := k16.trans h17
    have z17 := h17.size
    have ov0s17 := ov0s16.ext h17
    have ov1s17 := ov1s16.ext h17
    have x17 := x16.trans h17
    have oa17 := qa.m
    intro w18 h18
    have k18 := k17.trans h18
    have z18 := h18.size
    have oa18 := oa17.ext h18
    refine oa18.rr.oneC fun w19 b19 => ?_
    have k19 := k18.bxs b19
    have z19 := b19.size
    have oa19 := oa18.bxs b19 (by decide) (by decide)
    refine (laws_toLock_ret v0 zv0 w19 (hv0.ext k19) hl2v0 hz2v0).call ?_
    rintro _ w20 ⟨v0x, rfl, qv0x, h20⟩
    refine ⟨v0x, rfl, h20.keeps, ?_⟩
    have k20 := k19.trans h20
    have z20 := h20.size
    have oa20 := oa19.ext h20
    have ov0x20 := qv0x.m
    intro w21 h21
    have k21 := k20.trans h21
    have z21 := h21.size
    have oa21 := oa20.ext h21
    have ov0x21 := ov0x20.ext h21
    refine ov0x21.rr.oneC fun w22 b22 => ?_
    have k22 := k21.bxs b22
    have z22 := b22.size
    have oa22 := oa21.bxs b22 (by decide) (by decide)
    have ov0x22 := ov0x21.bxs b22 (by decide) (by decide)
    refine (laws_toLock_ret v1 zv1 w22 (hv1.ext k22) hl2v1 hz2v1).call ?_
    rintro _ w23 ⟨v1x, rfl, qv1x, h23⟩
    refine ⟨v1x, rfl, h23.keeps, ?_⟩
    have k23 := k22.trans h23
    have z23 := h23.size
    have oa23 := oa22.ext h23
    have ov0x23 := ov0x22.ext h23
    have ov1x23 := qv1x.m
    intro w24 h24
    have k24 := k23.trans h24
    have z24 := h24.size
    have oa24 := oa23.ext h24
    have ov0x24 := ov0x23.ext h24
    have ov1x24 := ov1x23.ext h24
    refine ov1x24.rr.oneC fun w25 b25 => ?_
    have k25 := k24.bxs b25
    have z25 := b25.size
    have oa25 := oa24.bxs b25 (by decide) (by decide)
    have ov0x25 := ov0x24.bxs b25 (by decide) (by decide)
    have ov1x25 := ov1x24.bxs b25 (by decide) (by decide)
    intro w26 h26
    have k26 := k25.trans h26
    have z26 := h26.size
    have oa26 := oa25.ext h26
    have ov0x26 := ov0x25.ext h26
    have ov1x26 := ov1x25.ext h26
    intro w27 h27
    have k27 := k26.trans h27
    have z27 := h27.size
    have oa27 := oa26.ext h27
    have ov0x27 := ov0x26.ext h27
    have ov1x27 := ov1x26.ext h27
    intro w28 h28
    have k28 := k27.trans h28
    have z28 := h28.size
    have oa28 := oa27.ext h28
    have ov0x28 := ov0x27.ext h28
    have ov1x28 := ov1x27.ext h28
    intro w29 h29
    have k29 := k28.trans h29
    have z29 := h29.size
    have oa29 := oa28.ext h29
    have ov0x29 := ov0x28.ext h29
    have ov1x29 := ov1x28.ext h29
    intro w30 h30
    have k30 := k29.trans h30
    have z30 := h30.size
    have oa30 := oa29.ext h30
    have ov0x30 := ov0x29.ext h30
    have ov1x30 := ov1x29.ext h30
    have x30 := h30
    refine (laws_toMaker_val ..).call fun w31 h31 => ⟨_, _, _, _, _, rfl, h31.keeps, (x30.trans h31), ?_⟩
    have k31 := k30.trans h31
    have z31 := h31.size
    have oa31 := oa30.ext h31
    have ov0x31 := ov0x30.ext h31
    have ov1x31 := ov1x30.ext h31
    have x31 := x30.trans h31
    intro w32 h32
    have k32 := k31.trans h32
    have z32 := h32.size
    have oa32 := oa31.ext h32
    have ov0x32 := ov0x31.ext h32
    have ov1x32 := ov1x31.ext h32
    have x32 := x31.trans h32
    refine (impl_MeetLocks_ret ⟨c, d, s, m, l⟩ v0x v1x zv0 zv1 w32 ov0x32.rr ov1x32.rr).call ?_
    rintro _ w33 ⟨b, rfl, qb, h33⟩
    refine ⟨b, _, rfl, h33.keeps, (x32.trans h33), ?_⟩
    have k33 := k32.trans h33
    have z33 := h33.size
    have oa33 := oa32.ext h33
    have ov0x33 := ov0x32.ext h33
    have ov1x33 := ov1x32.ext h33
    have x33 := x32.trans h33
    have ob33 := qb.m
    intro w34 h34
    have k34 := k33.trans h34
    have z34 := h34.size
    have oa34 := oa33.ext h34
    have ov0x34 := ov0x33.ext h34
    have ov1x34 := ov1x33.ext h34
    have ob34 := ob33.ext h34
    refine ob34.rr.oneC fun w35 b35 => ?_
    have k35 := k34.bxs b35
    have z35 := b35.size
    have oa35 := oa34.bxs b35 (by decide) (by decide)
    have ov0x35 := ov0x34.bxs b35 (by decide) (by decide)
    have ov1x35 := ov1x34.bxs b35 (by decide) (by decide)
    have ob35 := ob34.bxs b35 (by decide) (by decide)
    refine (laws_eqLock_val b a _ w35 ob35.rr oa35.rr).call fun w36 h36 => ⟨true, rfl, h36.keeps, fun hh => (by cases hh), fun _ => ?_⟩
    have k36 := k35.trans h36
    have z36 := h36.size
    have oa36 := oa35.ext h36
    have ov0x36 := ov0x35.ext h36
    have ov1x36 := ov1x35.ext h36
    have ob36 := ob35.ext h36
    refine ⟨fun hne => absurd rfl hne, fun _ => ?_⟩
    intro w37 h37
    have k37 := k36.trans h37
    have z37 := h37.size
    have oa37 := oa36.ext h37
    have ov0x37 := ov0x36.ext h37
    have ov1x37 := ov1x36.ext h37
    have ob37 := ob36.ext h37
    refine (laws_toLock_ret v0 zv0 w37 (hv0.ext k37) hl2v0 hz2v0).call ?_
    rintro _ w38 ⟨v0c, rfl, qv0c, h38⟩
    refine ⟨v0c, rfl, h38.keeps, h38.keeps, ?_⟩
    have k38 := k37.trans h38
    have z38 := h38.size
    have oa38 := oa37.ext h38
    have ov0x38 := ov0x37.ext h38
    have ov1x38 := ov1x37.ext h38
    have ob38 := ob37.ext h38
    have x38 := h38
    have ov0c38 := qv0c.m
    refine (laws_eqLock_val v0x v0c zv0 w38 ov0x38.rr ov0c38.rr).call fun w39 h39 => ⟨true, rfl, h39.keeps, (x38.trans h39).keeps, fun hh => (by cases hh), fun _ => ?_⟩
    have k39 := k38.trans h39
    have z39 := h39.size
    have oa39 := oa38.ext h39
    have ov0x39 := ov0x38.ext h39
    have ov1x39 := ov1x38.ext h39
    have ob39 := ob38.ext h39
    have ov0c39 := ov0c38.ext h39
    have x39 := x38.trans h39
    intro w40 h40
    have k40 := k39.trans h40
    have z40 := h40.size
    have oa40 := oa39.ext h40
    have ov0x40 := ov0x39.ext h40
    have ov1x40 := ov1x39.ext h40
    have ob40 := ob39.ext h40
    refine (laws_toLock_ret v1 zv1 w40 (hv1.ext k40) hl2v1 hz2v1).call ?_
    rintro _ w41 ⟨v1c, rfl, qv1c, h41⟩
    refine ⟨v1c, rfl, h41.keeps, h41.keeps, ?_⟩
    have k41 := k40.trans h41
    have z41 := h41.size
    have oa41 := oa40.ext h41
    have ov0x41 := ov0x40.ext h41
    have ov1x41 := ov1x40.ext h41
    have ob41 := ob40.ext h41
    have x41 := h41
    have ov1c41 := qv1c.m
    refine (laws_eqLock_val v1x v1c zv1 w41 ov1x41.rr ov1c41.rr).call fun w42 h42 => ⟨true, rfl, h42.keeps, (x41.trans h42).keeps, fun hh => (by cases hh), fun _ => ?_⟩
    have k42 := k41.trans h42
    have z42 := h42.size
    have oa42 := oa41.ext h42
    have ov0x42 := ov0x41.ext h42
    have ov1x42 := ov1x41.ext h42
    have ob42 := ob41.ext h42
    have ov1c42 := ov1c41.ext h42
    have x42 := x41.trans h42
    refine (laws_markLock_ret v0x (1) _ _ zv0 w42 ov0x42 (by omega) (by omega)).call ?_
    rintro _ w43 ⟨rfl, _, m43⟩
    refine ⟨_, rfl, m43.2 _ _ (by decide), ?_⟩
    have k43 := m43.ext k42 (by omega)
    have z43 := m43.size
    have oa43 := oa42.rest m43 (by omega)
    have ov1x43 := ov1x42.rest m43 (by omega)
    have ob43 := ob42.rest m43 (by omega)
    refine (laws_markLock_ret v1x (1 + total zv0) _ _ zv1 w43 ov1x43 (by omega) (by omega)).call ?_
    rintro _ w44 ⟨rfl, _, m44⟩
    refine ⟨_, rfl, m44.2 _ _ (by decide), ?_⟩
    have k44 := m44.ext k43 (by omega)
    have z44 := m44.size
    have oa44 := oa43.rest m44 (by omega)
    have ob44 := ob43.rest m44 (by omega)
    refine ⟨fun hneg => absurd hneg (by omega), fun _ => ?_⟩
    refine (laws_eqLock_val b a _ w44 ob44.rr oa44.rr).call fun w45 h45 => ⟨true, rfl, h45.keeps, fun hh => (by cases hh), fun _ => ?_⟩
    have k45 := k44.trans h45
    have z45 := h45.size
    have oa45 := oa44.ext h45
    have ob45 := ob44.ext h45
    refine ⟨fun hne => absurd rfl hne, fun _ => ?_⟩
    refine (laws_markLock_ret b 1 _ _ _ w45 ob45 (by decide) (by omega)).call ?_
    rintro _ w46 ⟨rfl, mb46, m46⟩
    refine ⟨_, rfl, m46.2 _ _ (by decide), ?_⟩
    have k46 := m46.ext k45 (by omega)
    have z46 := m46.size
    have oa46 := oa45.rest m46 (by omega)
    refine (laws_heldLock_val b 1 _ w46 mb46.rr (by decide) (by omega)).call fun w47 h47 => ⟨_, rfl, h47.keeps, fun hneg => absurd hneg (by omega), fun _ => ?_⟩
    have k47 := k46.trans h47
    have z47 := h47.size
    have oa47 := oa46.ext h47
    have ob47 := mb46.ext h47
    refine ⟨fun hne => absurd rfl hne, fun _ => ?_⟩
    intro w48 h48
    have k48 := k47.trans h48
    have z48 := h48.size
    have oa48 := oa47.ext h48
    have ob48 := ob47.ext h48
    intro w49 h49
    have k49 := k48.trans h49
    have z49 := h49.size
    have oa49 := oa48.ext h49
    have ob49 := ob48.ext h49
    intro w50 h50
    have k50 := k49.trans h50
    have z50 := h50.size
    have oa50 := oa49.ext h50
    have ob50 := ob49.ext h50
    intro w51 h51
    have k51 := k50.trans h51
    have z51 := h51.size
    have oa51 := oa50.ext h51
    have ob51 := ob50.ext h51
    intro w52 h52
    have k52 := k51.trans h52
    have z52 := h52.size
    have oa52 := oa51.ext h52
    have ob52 := ob51.ext h52
    have x52 := h52
    refine (laws_toMaker_val ..).call fun w53 h53 => ⟨_, _, _, _, _, rfl, h53.keeps, (x52.trans h53), ?_⟩
    have k53 := k52.trans h53
    have z53 := h53.size
    have oa53 := oa52.ext h53
    have ob53 := ob52.ext h53
    have x53 := x52.trans h53
    intro w54 h54
    have k54 := k53.trans h54
    have z54 := h54.size
    have oa54 := oa53.ext h54
    have ob54 := ob53.ext h54
    have x54 := x53.trans h54
    refine (laws_toLock_ret v0 zv0 w54 (hv0.ext k54) hl2v0 hz2v0).call ?_
    rintro _ w55 ⟨v0h, rfl, qv0h, h55⟩
    refine ⟨v0h, rfl, h55.keeps, (x54.trans h55), ?_⟩
    have k55 := k54.trans h55
    have z55 := h55.size
    have oa55 := oa54.ext h55
    have ob55 := ob54.ext h55
    have x55 := x54.trans h55
    have ov0h55 := qv0h.m
    intro w56 h56
    have k56 := k55.trans h56
    have z56 := h56.size
    have oa56 := oa55.ext h56
    have ob56 := ob55.ext h56
    have ov0h56 := ov0h55.ext h56
    have x56 := x55.trans h56
    refine (laws_toLock_ret v1 zv1 w56 (hv1.ext k56) hl2v1 hz2v1).call ?_
    rintro _ w57 ⟨v1h, rfl, qv1h, h57⟩
    refine ⟨v1h, rfl, h57.keeps, (x56.trans h57), ?_⟩
    have k57 := k56.trans h57
    have z57 := h57.size
    have oa57 := oa56.ext h57
    have ob57 := ob56.ext h57
    have ov0h57 := ov0h56.ext h57
    have x57 := x56.trans h57
    have ov1h57 := qv1h.m
    intro w58 h58
    have k58 := k57.trans h58
    have z58 := h58.size
    have oa58 := oa57.ext h58
    have ob58 := ob57.ext h58
    have ov0h58 := ov0h57.ext h58
    have ov1h58 := ov1h57.ext h58
    have x58 := x57.trans h58
    refine (impl_MeetLocks_ret ⟨c, d, s, m, l⟩ v0h v1h zv0 zv1 w58 ov0h58.rr ov1h58.rr).call ?_
    rintro _ w59 ⟨e, rfl, qe, h59⟩
    refine ⟨e, _, rfl, h59.keeps, (x58.trans h59), ?_⟩
    have k59 := k58.trans h59
    have z59 := h59.size
    have oa59 := oa58.ext h59
    have ob59 := ob58.ext h59
    have ov0h59 := ov0h58.ext h59
    have ov1h59 := ov1h58.ext h59
    have x59 := x58.trans h59
    have oe59 := qe.m
    intro w60 h60
    have k60 := k59.trans h60
    have z60 := h60.size
    have oa60 := oa59.ext h60
    have ob60 := ob59.ext h60
    have oe60 := oe59.ext h60
    refine oe60.rr.oneC fun w61 b61 => ?_
    have k61 := k60.bxs b61
    have z61 := b61.size
    have oa61 := oa60.bxs b61 (by decide) (by decide)
    have ob61 := ob60.bxs b61 (by decide) (by decide)
    have oe61 := oe60.bxs b61 (by decide) (by decide)
    refine (laws_eqLock_val e a _ w61 oe61.rr oa61.rr).call fun w62 h62 => ⟨true, rfl, h62.keeps, fun hh => (by cases hh), fun _ => ?_⟩
    have k62 := k61.trans h62
    have z62 := h62.size
    have oa62 := oa61.ext h62
    have ob62 := ob61.ext h62
    have oe62 := oe61.ext h62
    refine ⟨fun hne => absurd rfl hne, fun _ => ?_⟩
    refine (laws_heldLock_val b 1 _ w62 ob62.rr (by decide) (by omega)).call fun w63 h63 => ⟨_, rfl, h63.keeps, fun hneg => absurd hneg (by omega), fun _ => ?_⟩
    have k63 := k62.trans h63
    have z63 := h63.size
    have ob63 := ob62.ext h63
    exact ⟨fun hne => absurd rfl hne, fun _ => ⟨rfl, k63⟩⟩))
set_option linter.unusedSimpArgs false in
theorem readable : ∀ t ∈ Try.f9.params.toList, Try.prog.readableRec t = true ∧ t < Try.prog.types.size := by
  rw [Try.params9]
  simp only [List.mem_cons, List.not_mem_nil, or_false, forall_eq_or_imp, forall_eq]
  exact ⟨⟨by kernel_rfl, of_decide_eq_true (by kernel_rfl)⟩, ⟨by kernel_rfl, of_decide_eq_true (by kernel_rfl)⟩, ⟨by kernel_rfl, of_decide_eq_true (by kernel_rfl)⟩⟩

set_option maxRecDepth 100000 in
theorem lifted (os : Os) (started : os.Started) (H : Type) (enc : TypeId × Value → H) :
    ReturnsInHanded {} Try.checked os 9 .any (Rows.fnExactMeetLocksSpec.pre6 enc Try.prog Try.f9 Rows.fnExactMeetLocksRow.domain false) (Rows.fnExactMeetLocksSpec.post enc Try.prog Try.f9 false true false false) := by
  refine returnsInHanded_of_change (C := Try.checked) ownKnobNone started (by kernel_rfl) Try.func9
    (ChangeSpec.witness6 (enc := enc) (C := Try.checked) false ⟨#[], #[.agg #[.int .i64 0, .int .i64 0, .int .i64 0, .int .i64 0, .int .i64 0], .agg #[.slice none 0 0], .agg #[.slice none 0 0]], []⟩ 8 (by kernel_rfl) (by kernel_rfl) (by kernel_rfl) (by kernel_rfl)) ?_
  intro W base args ds gs before hval0 hW hcnd _
  have hval : ∀ (j : Nat) t v, Try.f9.params[j]? = some t → args[j]? = some v → Value.okWide Try.prog W .any base t v := hval0
  have hW' := hW
  obtain ⟨p, q, hA0, hV, rfl, hfz, hnd⟩ := hW
  have hA1 : DataW.TrodAll enc Try.prog W 0 (fun _ => true) true Try.f9.params.toList args.toList ds p := hA0
  have hA := hA1
  rw [Try.params9] at hA hval
  obtain ⟨v0, vs0, d0, ds0, p0, q0, hargs, rfl, rfl, h0, r0⟩ := trodAll_cons hA
  obtain ⟨v1, vs1, d1, ds1, p1, q1, rfl, rfl, rfl, h1, r1⟩ := trodAll_cons r0
  obtain ⟨v2, vs2, d2, ds2, p2, q2, rfl, rfl, rfl, h2, r2⟩ := trodAll_cons r1
  obtain ⟨rfl, rfl, rfl⟩ := trodAll_nil r2
  obtain rfl : args = #[v0, v1, v2] := by cases args; simp_all
  obtain ⟨rfl, rfl⟩ := trodVars_none hV
  obtain ⟨v0_0, v0_1, v0_2, v0_3, v0_4, y0_0, y0_1, y0_2, y0_3, y0_4, m0, rfl, rfl, rfl, g0_0, g0_1, g0_2, g0_3, g0_4⟩ := open_agg5 Try.underlying48 (by kernel_rfl) (by kernel_rfl) (hval 0 48 v0 rfl rfl) h0
  obtain ⟨a0_0, e0_0, rfl, w0_0⟩ := DataW.trod_int Try.underlying2 g0_0
  simp only [List.cons.injEq, and_true] at e0_0
  subst e0_0
  obtain ⟨a0_1, e0_1, rfl, w0_1⟩ := DataW.trod_int Try.underlying2 g0_1
  simp only [List.cons.injEq, and_true] at e0_1
  subst e0_1
  obtain ⟨a0_2, e0_2, rfl, w0_2⟩ := DataW.trod_int Try.underlying2 g0_2
  simp only [List.cons.injEq, and_true] at e0_2
  subst e0_2
  obtain ⟨a0_3, e0_3, rfl, w0_3⟩ := DataW.trod_int Try.underlying2 g0_3
  simp only [List.cons.injEq, and_true] at e0_3
  subst e0_3
  obtain ⟨a0_4, e0_4, rfl, w0_4⟩ := DataW.trod_int Try.underlying2 g0_4
  simp only [List.cons.injEq, and_true] at e0_4
  subst e0_4
  obtain ⟨x1, z1, rfl, hz1, wz1⟩ := open_lock Try.underlying51 rfl rfl (by kernel_rfl) (by kernel_rfl) Try.underlying49 Try.underlying22 Try.underlying2 (by kernel_rfl) (by kernel_rfl) (hval 1 51 v1 rfl rfl) h1
  obtain ⟨x2, z2, rfl, hz2, wz2⟩ := open_lock Try.underlying51 rfl rfl (by kernel_rfl) (by kernel_rfl) Try.underlying49 Try.underlying22 Try.underlying2 (by kernel_rfl) (by kernel_rfl) (hval 2 51 v2 rfl rfl) h2
  clear hA0 hval0
  refine (Val.calls (walk a0_0 w0_0 a0_1 w0_1 a0_2 w0_2 a0_3 w0_3 a0_4 w0_4 x1 z1 x2 z2 W hz1 wz1 hz2 wz2)).mono fun e W' ⟨he, hg⟩ => ?_
  subst he
  exact ⟨_, rfl, law_post laidOut readable hW' hA1 Try.underlying4 rfl rfl rfl hg⟩

theorem proved : Rows.FnExactMeetLocksSaid :=
  OpenClaim.holds_of_wide 9 Try.f9 rfl rfl rfl rfl rfl rfl rfl ⟨rfl, rfl, rfl, rfl, rfl⟩ rfl rfl rfl rfl rfl (by kernel_rfl) Try.func9 (by kernel_rfl)
    (of_decide_eq_true (by kernel_rfl)) (by unfold Func.isWrapper; first | (rw [if_pos (by decide +kernel)]; kernel_rfl) | (rw [if_neg (by decide +kernel)]; exact ⟨rfl, rfl⟩))
    (fun os started H enc _ => lifted os started H enc)

end Go.Proofs.Yteolgidmaklbkaa.lawMeetLocks
