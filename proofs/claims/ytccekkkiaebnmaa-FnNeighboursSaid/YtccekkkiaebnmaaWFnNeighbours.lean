/- The law FnNeighbours: the keys near a key add up to all keys; the nearest key is another one; a key turned twice is the key. No condition. -/
import Derived.Test.YtccekkkiaebnmaaLawsB
import Derived.Test.YtccekkkiaebnmaaDraw5
import Derived.Test.YtccekkkiaebnmaaP03n
import Derived.Test.YtccekkkiaebnmaaL03r
set_option linter.unusedVariables false
namespace Go.Proofs
open Go.Sx Go.RowKit
def laws_FnNeighbours_A (v : Value) (w : World) : Nat → Ann := fun κ => match κ with
  | 0 => { σ := Int × Int, sli := [25, 24], slc := fun s => [SV.v (Value.int .i64 s.1), SV.v (Value.int .i64 s.2)], bxi := [], bxc := fun s => [], inv := fun s W => True, μ := fun s W => 0, free := true }
  | _ => { σ := Unit, sli := [], slc := fun _ => [], bxi := [], bxc := fun _ => [], inv := fun _ _ => False, μ := fun _ _ => 0 }
abbrev laws_FnNeighbours_k0 (s1932 : Int × Int) (w1933 : World) (J1934 : (Int × Int) → World → Prop) (m1935 : (Int × Int) → World → Nat) (x1966 : Int) (x1967 : Int) (w1989 : World) : Prop :=
  I64 (x1967 + 1) ∧ ∃ s1990 : (Int × Int), (Value.int .i64 (x1967 + 1)) = (Value.int .i64 s1990.1) ∧ (Value.int .i64 x1966) = (Value.int .i64 s1990.2) ∧ (J1934 s1990 w1989) ∧ (m1935 s1990 w1989) < (m1935 s1932 w1933)
abbrev laws_FnNeighbours_k1 (w : World) (Post : Value → World → Prop) (x1709 : Value) (x1915 : Int) (x1916 : Int) (x1917 : Int) (x1918 : Int) (x1919 : Int) (s1932 : Int × Int) (w1933 : World) (J1934 : (Int × Int) → World → Prop) (m1935 : (Int × Int) → World → Nat) (x1936 : Int) (x1937 : Int) (w1940 : World) : Prop :=
  Calls Try.prog 36 #[(Value.agg #[(Value.int .i64 x1915), (Value.int .i64 x1916), (Value.int .i64 x1917), (Value.int .i64 x1918), (Value.int .i64 x1919)]), x1709, (Value.int .i64 x1937)] w1940 (fun e1941 w1942 => ∃ n1943 : Int, ∃ n1944 : Int, e1941 = .returned (Value.tuple #[(Value.int .i64 n1943), (Value.int .i64 n1944)]) ∧ Keeps w.heap.size [25, 25, 25] w1940 w1942 ∧ (((n1944 ≠ (0 : Int)) → Post (Value.bool false) w1942) ∧ (¬ (n1944 ≠ (0 : Int)) → I64 (x1936 + n1943) ∧ (laws_FnNeighbours_k0 s1932 w1933 J1934 m1935 (x1936 + n1943) x1937 w1942))))
abbrev laws_FnNeighbours_k2 (w : World) (Post : Value → World → Prop) (x2010 : Int) (x2202 : Int) (x2203 : Int) (x2204 : Int) (x2205 : Int) (x2206 : Int) (w2217 : World) : Prop :=
  Calls Try.prog 45 #[(Value.agg #[(Value.int .i64 x2202), (Value.int .i64 x2203), (Value.int .i64 x2204), (Value.int .i64 x2205), (Value.int .i64 x2206)])] w2217 (fun e2218 w2219 => ∃ n2220 : Int, ∃ n2221 : Int, e2218 = .returned (Value.tuple #[(Value.int .i64 n2220), (Value.int .i64 n2221)]) ∧ Keeps w.heap.size [25, 25, 25] w2217 w2219 ∧ (((n2221 = (0 : Int)) → Post (Value.bool (decide (x2010 = n2220))) w2219) ∧ (¬ (n2221 = (0 : Int)) → Post (Value.bool false) w2219)))
abbrev laws_FnNeighbours_k3 (w : World) (Post : Value → World → Prop) (x1709 : Value) (x1915 : Int) (x1916 : Int) (x1917 : Int) (x1918 : Int) (x1919 : Int) (w1930 : World) : Prop :=
  (∃ (J1934 : (Int × Int) → World → Prop) (m1935 : (Int × Int) → World → Nat), ((∃ s1931 : (Int × Int), (Value.int .i64 0) = (Value.int .i64 s1931.1) ∧ (Value.int .i64 0) = (Value.int .i64 s1931.2) ∧ (J1934 s1931 w1930)) ∧ ∀ (s1932 : (Int × Int)) (w1933 : World), (J1934 s1932 w1933) → (((s1932.1 ≤ x1915) → (laws_FnNeighbours_k1 w Post x1709 x1915 x1916 x1917 x1918 x1919 s1932 w1933 J1934 m1935 s1932.2 s1932.1 w1933)) ∧ (¬ (s1932.1 ≤ x1915) → (laws_FnNeighbours_k2 w Post s1932.2 x1915 x1916 x1917 x1918 x1919 w1933)))))
abbrev laws_FnNeighbours_k4 (w : World) (Post : Value → World → Prop) (x1487 : Value) (x1490 : Int) (x1692 : Int) (x1693 : Int) (x1694 : Int) (x1695 : Int) (x1696 : Int) (w1707 : World) : Prop :=
  (((x1490 ≠ (0 : Int)) → Post (Value.bool true) w1707) ∧ (¬ (x1490 ≠ (0 : Int)) → (laws_FnNeighbours_k3 w Post x1487 x1692 x1693 x1694 x1695 x1696 w1707)))
abbrev laws_FnNeighbours_k5 (w : World) (Post : Value → World → Prop) (x1265 : Value) (x1268 : Int) (x1469 : Bool) (x1470 : Int) (x1471 : Int) (x1472 : Int) (x1473 : Int) (x1474 : Int) (w1485 : World) : Prop :=
  ((x1469 = true → Post (Value.bool false) w1485) ∧ (x1469 = false → (laws_FnNeighbours_k4 w Post x1265 x1268 x1470 x1471 x1472 x1473 x1474 w1485)))
abbrev laws_FnNeighbours_k6 (w : World) (Post : Value → World → Prop) (x1045 : Value) (x1048 : Int) (x1051 : Value) (x1052 : Value) (x1053 : Int) (x1245 : Int) (x1246 : Int) (x1247 : Int) (x1248 : Int) (x1249 : Int) (w1260 : World) : Prop :=
  (((x1053 = (0 : Int)) → Calls Try.prog 24 #[x1052, x1051] w1260 (fun e1261 w1262 => ∃ b1263 : Bool, e1261 = .returned (Value.bool b1263) ∧ Keeps w.heap.size [25, 25, 25] w1260 w1262 ∧ (laws_FnNeighbours_k5 w Post x1045 x1048 b1263 x1245 x1246 x1247 x1248 x1249 w1262))) ∧ (¬ (x1053 = (0 : Int)) → (laws_FnNeighbours_k4 w Post x1045 x1048 x1245 x1246 x1247 x1248 x1249 w1260)))
abbrev laws_FnNeighbours_k7 (w : World) (Post : Value → World → Prop) (x828 : Value) (x831 : Int) (x834 : Value) (x835 : Value) (x836 : Int) (x1027 : Bool) (x1028 : Int) (x1029 : Int) (x1030 : Int) (x1031 : Int) (x1032 : Int) (w1043 : World) : Prop :=
  ((x1027 = true → Post (Value.bool false) w1043) ∧ (x1027 = false → (laws_FnNeighbours_k6 w Post x828 x831 x834 x835 x836 x1028 x1029 x1030 x1031 x1032 w1043)))
abbrev laws_FnNeighbours_k8 (w : World) (Post : Value → World → Prop) (x428 : Value) (x431 : Int) (x434 : Value) (x435 : Value) (x436 : Int) (x439 : Value) (x440 : Value) (x441 : Int) (x598 : Int) (x599 : Int) (x600 : Int) (x601 : Int) (x602 : Int) (x608 : Int) (x609 : Int) (x610 : Int) (x611 : Int) (x612 : Int) (w613 : World) : Prop :=
  (((x441 = (0 : Int)) → Calls Try.prog 42 #[(Value.agg #[(Value.int .i64 x608), (Value.int .i64 x609), (Value.int .i64 x610), (Value.int .i64 x611), (Value.int .i64 x612)]), x440] w613 (fun e614 w615 => ∃ u616 : Value, ∃ n617 : Int, e614 = .returned (Value.tuple #[u616, (Value.int .i64 n617)]) ∧ Keeps w.heap.size [25, 25, 25] w613 w615 ∧ (((n617 ≠ (0 : Int)) → Post (Value.bool false) w615) ∧ (¬ (n617 ≠ (0 : Int)) → Calls Try.prog 24 #[u616, x439] w615 (fun e821 w822 => ∃ b823 : Bool, e821 = .returned (Value.bool b823) ∧ Keeps w.heap.size [25, 25, 25] w615 w822 ∧ (((!b823) = true → Post (Value.bool false) w822) ∧ ((!b823) = false → Calls Try.prog 44 #[(Value.agg #[(Value.int .i64 x608), (Value.int .i64 x609), (Value.int .i64 x610), (Value.int .i64 x611), (Value.int .i64 x612)]), x440] w822 (fun e824 w825 => ∃ b826 : Bool, e824 = .returned (Value.bool b826) ∧ Keeps w.heap.size [25, 25, 25] w822 w825 ∧ (laws_FnNeighbours_k7 w Post x428 x431 x434 x435 x436 (!b826) x598 x599 x600 x601 x602 w825))))))))) ∧ (¬ (x441 = (0 : Int)) → (laws_FnNeighbours_k6 w Post x428 x431 x434 x435 x436 x598 x599 x600 x601 x602 w613)))
abbrev laws_FnNeighbours_k9 (w : World) (Post : Value → World → Prop) (x241 : Value) (x244 : Int) (x247 : Value) (x248 : Value) (x249 : Int) (x252 : Value) (x253 : Value) (x254 : Int) (x410 : Bool) (x411 : Int) (x412 : Int) (x413 : Int) (x414 : Int) (x415 : Int) (x421 : Int) (x422 : Int) (x423 : Int) (x424 : Int) (x425 : Int) (w426 : World) : Prop :=
  ((x410 = true → Post (Value.bool false) w426) ∧ (x410 = false → (laws_FnNeighbours_k8 w Post x241 x244 x247 x248 x249 x252 x253 x254 x411 x412 x413 x414 x415 x421 x422 x423 x424 x425 w426)))
abbrev laws_FnNeighbours_k10 (w : World) (Post : Value → World → Prop) (x4 : Value) (w7 : World) : Prop :=
  Calls Try.prog 35 #[x4] w7 (fun e8 w9 => ∃ n10 : Int, ∃ n11 : Int, ∃ n12 : Int, ∃ n13 : Int, ∃ n14 : Int, ∃ u15 : Value, ∃ n16 : Int, e8 = .returned (Value.tuple #[(Value.agg #[(Value.int .i64 n10), (Value.int .i64 n11), (Value.int .i64 n12), (Value.int .i64 n13), (Value.int .i64 n14)]), u15, (Value.int .i64 n16)]) ∧ Keeps w.heap.size [] w7 w9 ∧ ∀ w17 : World, Ext w9 w17 → ∀ w18 : World, BxS w.heap.size 25 w17 w18 → Calls Try.prog 36 #[(Value.agg #[(Value.int .i64 n10), (Value.int .i64 n11), (Value.int .i64 n12), (Value.int .i64 n13), (Value.int .i64 n14)]), u15, (Value.int .i64 n16)] w18 (fun e19 w20 => ∃ n21 : Int, ∃ n22 : Int, e19 = .returned (Value.tuple #[(Value.int .i64 n21), (Value.int .i64 n22)]) ∧ Keeps w.heap.size [25] w18 w20 ∧ Calls Try.prog 37 #[(Value.agg #[(Value.int .i64 n10), (Value.int .i64 n11), (Value.int .i64 n12), (Value.int .i64 n13), (Value.int .i64 n14)]), u15, (Value.int .i64 n16)] w20 (fun e23 w24 => ∃ n25 : Int, ∃ n26 : Int, e23 = .returned (Value.tuple #[(Value.int .i64 n25), (Value.int .i64 n26)]) ∧ Keeps w.heap.size [25] w20 w24 ∧ Calls Try.prog 38 #[x4] w24 (fun e27 w28 => ∃ n29 : Int, ∃ n30 : Int, ∃ n31 : Int, ∃ n32 : Int, ∃ n33 : Int, ∃ u34 : Value, e27 = .returned (Value.tuple #[(Value.agg #[(Value.int .i64 n29), (Value.int .i64 n30), (Value.int .i64 n31), (Value.int .i64 n32), (Value.int .i64 n33)]), u34]) ∧ Keeps w.heap.size [25] w24 w28 ∧ ∀ w35 : World, Ext w28 w35 → ∀ w36 : World, BxS w.heap.size 25 w35 w36 → Calls Try.prog 39 #[(Value.agg #[(Value.int .i64 n29), (Value.int .i64 n30), (Value.int .i64 n31), (Value.int .i64 n32), (Value.int .i64 n33)]), u34] w36 (fun e37 w38 => ∃ u39 : Value, ∃ n40 : Int, e37 = .returned (Value.tuple #[u39, (Value.int .i64 n40)]) ∧ Keeps w.heap.size [25, 25] w36 w38 ∧ Calls Try.prog 40 #[(Value.agg #[(Value.int .i64 n29), (Value.int .i64 n30), (Value.int .i64 n31), (Value.int .i64 n32), (Value.int .i64 n33)]), u34] w38 (fun e41 w42 => ∃ u43 : Value, ∃ n44 : Int, e41 = .returned (Value.tuple #[u43, (Value.int .i64 n44)]) ∧ Keeps w.heap.size [25, 25] w38 w42 ∧ Calls Try.prog 41 #[x4] w42 (fun e45 w46 => ∃ n47 : Int, ∃ n48 : Int, ∃ n49 : Int, ∃ n50 : Int, ∃ n51 : Int, ∃ u52 : Value, e45 = .returned (Value.tuple #[(Value.agg #[(Value.int .i64 n47), (Value.int .i64 n48), (Value.int .i64 n49), (Value.int .i64 n50), (Value.int .i64 n51)]), u52]) ∧ Keeps w.heap.size [25, 25] w42 w46 ∧ ∀ w53 : World, Ext w46 w53 → ∀ w54 : World, BxS w.heap.size 25 w53 w54 → Calls Try.prog 42 #[(Value.agg #[(Value.int .i64 n47), (Value.int .i64 n48), (Value.int .i64 n49), (Value.int .i64 n50), (Value.int .i64 n51)]), u52] w54 (fun e55 w56 => ∃ u57 : Value, ∃ n58 : Int, e55 = .returned (Value.tuple #[u57, (Value.int .i64 n58)]) ∧ Keeps w.heap.size [25, 25, 25] w54 w56 ∧ Calls Try.prog 43 #[(Value.agg #[(Value.int .i64 n47), (Value.int .i64 n48), (Value.int .i64 n49), (Value.int .i64 n50), (Value.int .i64 n51)]), u52] w56 (fun e59 w60 => ∃ u61 : Value, ∃ n62 : Int, e59 = .returned (Value.tuple #[u61, (Value.int .i64 n62)]) ∧ Keeps w.heap.size [25, 25, 25] w56 w60 ∧ (((n22 ≠ n26) → Post (Value.bool false) w60) ∧ (¬ (n22 ≠ n26) → (((n21 ≠ n25) → Post (Value.bool false) w60) ∧ (¬ (n21 ≠ n25) → (((n40 ≠ n44) → Post (Value.bool false) w60) ∧ (¬ (n40 ≠ n44) → Calls Try.prog 24 #[u39, u43] w60 (fun e234 w235 => ∃ b236 : Bool, e234 = .returned (Value.bool b236) ∧ Keeps w.heap.size [25, 25, 25] w60 w235 ∧ (((!b236) = true → Post (Value.bool false) w235) ∧ ((!b236) = false → (((n58 ≠ n62) → Post (Value.bool false) w235) ∧ (¬ (n58 ≠ n62) → Calls Try.prog 24 #[u57, u61] w235 (fun e237 w238 => ∃ b239 : Bool, e237 = .returned (Value.bool b239) ∧ Keeps w.heap.size [25, 25, 25] w235 w238 ∧ (laws_FnNeighbours_k9 w Post u15 n22 u34 u39 n40 u52 u57 n58 (!b239) n10 n11 n12 n13 n14 n47 n48 n49 n50 n51 w238))))))))))))))))))))))
def laws_FnNeighbours_vc (v : Value) (w : World) (Post : Value → World → Prop) : Prop :=
  Calls Try.prog 10 #[v] w (fun e1 w2 => ∃ b3 : Bool, e1 = .returned (Value.bool b3) ∧ Keeps w.heap.size [] w w2 ∧ ((b3 = true → Post (Value.bool true) w2) ∧ (b3 = false → (laws_FnNeighbours_k10 w Post v w2))))
theorem laws_FnNeighbours_eq (v : Value) (w : World) (Post : Value → World → Prop) : denF Try.prog [] (laws_FnNeighbours_A v w) 6 [v] w Post = laws_FnNeighbours_vc v w Post := by kernel_rfl
set_option maxRecDepth 100000 in
theorem laws_FnNeighbours_calls (v : Value) (w : World) (Post : Value → World → Prop) (hvc : laws_FnNeighbours_vc v w Post) : Ret Try.prog 6 #[v] w Post :=
  Ret.of (denF_sound mixed (Eq.mpr (laws_FnNeighbours_eq v w Post) hvc))

end Go.Proofs
namespace Go.Proofs.Ytccekkkiaebnmaa.lawFnNeighbours
open Go.Proofs Go.Sx Go.RowKit Go.ChangeShapes Go.WideShapes Go.ChangeAt Go.Joins
theorem walk (v : Value) (zs : List Int) (w : World) (h : RB w v zs) : Val Try.prog 6 #[v] w (.bool true) :=
  Ret.val (laws_FnNeighbours_calls v w _ (by
    unfold laws_FnNeighbours_vc
    refine (laws_big_ret v zs w h).call ?_
    rintro _ w1 ⟨⟨b, rfl⟩, h1⟩
    refine ⟨b, rfl, h1.keeps, fun _ => ⟨rfl, h1⟩, fun _ => ?_⟩
    refine (spec_DrawKeysNear_ret v zs w1 (h.ext h1)).call ?_
    rintro _ w2 ⟨M, p, a, n, rfl, oa, h2⟩
    refine ⟨M.c, M.d, M.s, M.m, M.l, p, n, rfl, h2.keeps, fun w3 h3 w4 b4 => ?_⟩
    have k4 := ((h1.trans h2).trans h3).bxs b4
    have oa := (oa.ext h3).bxs b4 (by decide)
    obtain ⟨x, y, e⟩ := nearR_pair M a n
    refine (impl_KeysNear_val M p a n w4 oa.rd).call fun w5 h5 => ⟨x, y, by rw [e], h5.keeps, ?_⟩
    refine (spec_KeysNear_val M p a n w5 (oa.ext h5).rd).call fun w6 h6 => ⟨x, y, by rw [e], h6.keeps, ?_⟩
    have k6 := (k4.trans h5).trans h6
    have oa := (oa.ext h5).ext h6
    refine (spec_DrawNearestKey_ret v zs w6 (h.ext k6)).call ?_
    rintro _ w7 ⟨N, q, b, rfl, ob, h7⟩
    refine ⟨N.c, N.d, N.s, N.m, N.l, q, rfl, h7.keeps, fun w8 h8 w9 b9 => ?_⟩
    have k9 := ((k6.trans h7).trans h8).bxs b9
    have oa := ((oa.ext h7).ext h8).bxs b9 (by decide)
    have ob := (ob.ext h8).bxs b9 (by decide)
    refine (impl_NearestKey_ret N q b w9 ob.rd).call ?_
    rintro _ w10 ⟨r, rfl, or, h10⟩
    refine ⟨r, _, rfl, h10.keeps, ?_⟩
    refine (spec_NearestKey_ret N q b w10 (ob.ext h10).rd).call ?_
    rintro _ w11 ⟨r', rfl, or', h11⟩
    refine ⟨r', _, rfl, h11.keeps, ?_⟩
    have k11 := (k9.trans h10).trans h11
    refine (spec_DrawReverseKey_ret v zs w11 (h.ext k11)).call ?_
    rintro _ w12 ⟨R, t, c, rfl, oc, h12⟩
    refine ⟨R.c, R.d, R.s, R.m, R.l, t, rfl, h12.keeps, fun w13 h13 w14 b14 => ?_⟩
    have k14 := ((k11.trans h12).trans h13).bxs b14
    have oa := ((((oa.ext h10).ext h11).ext h12).ext h13).bxs b14 (by decide)
    have ob := ((((ob.ext h10).ext h11).ext h12).ext h13).bxs b14 (by decide)
    have or := (((or.ext h11).ext h12).ext h13).bxs b14 (by decide)
    have or' := ((or'.ext h12).ext h13).bxs b14 (by decide)
    have oc := (oc.ext h13).bxs b14 (by decide)
    refine (impl_ReverseKey_ret R t c w14 oc.rd).call ?_
    rintro _ w15 ⟨g, rfl, og, h15⟩
    refine ⟨g, _, rfl, h15.keeps, ?_⟩
    refine (spec_ReverseKey_ret R t c w15 (oc.ext h15).rd).call ?_
    rintro _ w16 ⟨g', rfl, og', h16⟩
    refine ⟨g', _, rfl, h16.keeps, fun hne => absurd rfl hne, fun _ => ⟨fun hne => absurd rfl hne, fun _ => ⟨fun hne => absurd rfl hne, fun _ => ?_⟩⟩⟩
    have x16 := h15.trans h16
    refine (laws_likeInts_val r r' _ _ w16 (or.ext x16).rd (or'.ext x16).rd).call fun w17 h17 => ⟨_, rfl, h17.keeps, fun hb => (by simp at hb), fun _ => ⟨fun hne => absurd rfl hne, fun _ => ?_⟩⟩
    refine (laws_likeInts_val g g' _ _ w17 ((og.ext h16).ext h17).rd (og'.ext h17).rd).call fun w18 h18 => ⟨_, rfl, h18.keeps, fun hb => (by simp at hb), fun _ => ?_⟩
    have x18 := (x16.trans h17).trans h18
    have k18 := k14.trans x18
    have ra : RI w18 p a := (oa.ext x18).rd
    have rb : RI w18 q b := (ob.ext x18).rd
    have rr : RI w18 r _ := (or.ext x18).rd
    have rc : RI w18 t c := (oc.ext x18).rd
    have rg : RI w18 g _ := (((og.ext h16).ext h17).ext h18).rd
    have last : ∀ W, Ext w18 W → laws_FnNeighbours_k4 w (fun u w' => u = .bool true ∧ Ext w w') p y M.c M.d M.s M.m M.l W := by
      intro W hW
      have kW := k18.trans hW
      refine ⟨fun _ => ⟨rfl, kW⟩, fun hy => ?_⟩
      have hy0 : y = 0 := Classical.not_not.1 hy
      subst hy0
      have hk : kCode M [a] = 0 := by
        unfold nearR at e
        split at e
        · rename_i hn
          unfold nearCode at hn
          split at hn
          · assumption
          · exact hn
        · rename_i hn
          simp only [Value.tuple.injEq, Array.mk.injEq, List.cons.injEq, Value.int.injEq, and_true, true_and] at e
          exact absurd e.2 hn
      obtain ⟨hm, hK⟩ := kCode_zero hk
      have hc := hm.1
      have ha := hK a (by simp)
      have hal : (a.length : Int) = M.c := ha.1
      have hmax := keys_max (M := M) hm
      have ra := RI.ext ra hW
      refine ⟨fun s W' => 0 ≤ s.1 ∧ s.1 ≤ M.c + 1 ∧ s.2 = nearTo a s.1 (keys M) ∧ Ext W W', fun s _ => (M.c + 1 - s.1).toNat, ⟨(0, 0), rfl, rfl, Int.le_refl _, by simp only; omega, (nearTo_zero _ _).symm, .refl W⟩, ?_⟩
      rintro ⟨k, t⟩ w2 ⟨hk0, hk1, ht, h2⟩
      simp only at hk0 hk1 ht
      subst ht
      have hr := nearTo_le a k (keys M)
      refine ⟨fun hle => ?_, fun hgt => ?_⟩
      · simp only at hle
        have hnc : nearCode M a k = 0 := by unfold nearCode; rw [if_pos hk, if_pos ⟨hk0, hle⟩]
        have hr' := near_le a k (keys M)
        refine (impl_KeysNear_val M p a k w2 (ra.ext h2)).call fun w3 h3 => ⟨near a k (keys M), 0, by rw [nearR, if_pos hnc], h3.keeps, fun hne => absurd rfl hne, fun _ => ⟨by unfold I64; omega, by unfold I64; omega, (k + 1, nearTo a (k + 1) (keys M)), rfl, ieq (nearTo_succ a k (keys M)).symm, ⟨by simp only; omega, by simp only; omega, rfl, h2.trans h3⟩, by simp only; omega⟩⟩
      · simp only at hgt
        refine (impl_CountKeys_val M.c M.d M.s M.m M.l w2).call fun w3 h3 => ⟨((keys M).length : Int), 0, by rw [countR, if_pos (show MkOk M.c M.d M.s M.m M.l from hm)], h3.keeps, fun _ => ⟨beq_val (decide_eq_true (nearTo_all (by omega) _)), (kW.trans h2).trans h3⟩, fun hn => absurd rfl hn⟩
    have tail : ∀ W, Ext w18 W → laws_FnNeighbours_k6 w (fun u w' => u = .bool true ∧ Ext w w') p y q r (kCode N [b]) M.c M.d M.s M.m M.l W := by
      intro W hW
      refine ⟨fun h0 => ?_, fun _ => last W hW⟩
      refine (laws_likeInts_val r q _ _ W (rr.ext hW) (rb.ext hW)).call fun w19 h19 => ⟨_, rfl, h19.keeps, fun hb => ?_, fun _ => last w19 (hW.trans h19)⟩
      obtain ⟨hm, hK⟩ := kCode_zero h0
      have hc := hm.1
      have hbl : (b.length : Int) = N.c := (hK b (by simp)).1
      have hne : b ≠ [] := fun e => by rw [e] at hbl; simp at hbl; omega
      have hq := of_decide_eq_true hb
      unfold nearestR at hq
      rw [if_pos h0] at hq
      exact absurd hq (nearF_ne hne _)
    refine ⟨fun h0 => ?_, fun _ => tail w18 (.refl _)⟩
    obtain ⟨hm, hK⟩ := kCode_zero h0
    have hc := hK c (by simp)
    have e1 : revR R c = c.reverse := by unfold revR; rw [if_pos h0]
    rw [e1] at rg
    have hrev := rev_isK hm hc
    refine (impl_ReverseKey_ret R g _ w18 rg).call ?_
    rintro _ w19 ⟨g2, rfl, og2, h19⟩
    have h2 : kCode R [c.reverse] = 0 := kCode_ok hm (by simpa using hrev)
    have e2 : revR R c.reverse = c := by unfold revR; rw [if_pos h2, List.reverse_reverse]
    rw [e2] at og2
    refine ⟨g2, _, rfl, h19.keeps, fun hn => absurd h2 hn, fun _ => ?_⟩
    refine (laws_likeInts_val g2 t _ _ w19 og2.rd (rc.ext h19)).call fun w20 h20 => ⟨_, rfl, h20.keeps, fun hb => (by simp at hb), fun _ => ?_⟩
    have x20 := h19.trans h20
    refine (impl_IsKey_val R.c R.d R.s R.m R.l g _ w20 (rg.ext x20)).call fun w21 h21 => ⟨_, rfl, h21.keeps, fun hb => ?_, fun _ => tail w21 (x20.trans h21)⟩
    have : decide (MkOk R.c R.d R.s R.m R.l ∧ IsK ⟨R.c, R.d, R.s, R.m, R.l⟩ c.reverse) = true := decide_eq_true ⟨hm, hrev⟩
    rw [this] at hb
    cases hb))
set_option linter.unusedSimpArgs false in
theorem readable : ∀ t ∈ Try.f6.params.toList, Try.prog.readableRec t = true ∧ t < Try.prog.types.size := by
  rw [Try.params6]
  simp only [List.mem_cons, List.not_mem_nil, or_false, forall_eq_or_imp, forall_eq]
  exact ⟨by kernel_rfl, of_decide_eq_true (by kernel_rfl)⟩

set_option maxRecDepth 100000 in
theorem lifted (os : Os) (started : os.Started) (H : Type) (enc : TypeId × Value → H) :
    ReturnsInHanded {} Try.checked os 6 .any (Rows.fnNeighboursSpec.pre6 enc Try.prog Try.f6 Rows.fnNeighboursRow.domain false) (Rows.fnNeighboursSpec.post enc Try.prog Try.f6 false true false false) := by
  refine returnsInHanded_of_change (C := Try.checked) ownKnobNone started (by kernel_rfl) Try.func6
    (ChangeSpec.witness6 (enc := enc) (C := Try.checked) false ⟨#[], #[.slice none 0 0], []⟩ 8 (by kernel_rfl) (by kernel_rfl) (by kernel_rfl) (by kernel_rfl)) ?_
  intro W base args ds gs before hval0 hW hcnd _
  have hval : ∀ (j : Nat) t v, Try.f6.params[j]? = some t → args[j]? = some v → Value.okWide Try.prog W .any base t v := hval0
  have hW' := hW
  obtain ⟨p, q, hA0, hV, rfl, hfz, hnd⟩ := hW
  have hA1 : DataW.TrodAll enc Try.prog W 0 (fun _ => true) true Try.f6.params.toList args.toList ds p := hA0
  have hA := hA1
  rw [Try.params6] at hA hval
  obtain ⟨v0, vs0, d0, ds0, p0, q0, hargs, rfl, rfl, h0, r0⟩ := trodAll_cons hA
  obtain ⟨rfl, rfl, rfl⟩ := trodAll_nil r0
  obtain rfl : args = #[v0] := by cases args; simp_all
  obtain ⟨rfl, rfl⟩ := trodVars_none hV
  obtain ⟨z0, hz0⟩ := open_RB Try.underlying22 Try.underlying5 (by kernel_rfl) (hval 0 22 v0 rfl rfl) h0
  clear hA0 hval0
  refine (Val.calls (walk v0 z0 W hz0)).mono fun e W' ⟨he, hg⟩ => ?_
  subst he
  exact ⟨_, rfl, law_post laidOut readable hW' hA1 Try.underlying4 rfl rfl rfl hg⟩

theorem proved : Rows.FnNeighboursSaid :=
  OpenClaim.holds_of_wide 6 Try.f6 rfl rfl rfl rfl rfl rfl rfl ⟨rfl, rfl, rfl, rfl, rfl⟩ rfl rfl rfl rfl rfl (by kernel_rfl) Try.func6 (by kernel_rfl)
    (of_decide_eq_true (by kernel_rfl)) (by unfold Func.isWrapper; first | (rw [if_pos (by decide +kernel)]; kernel_rfl) | (rw [if_neg (by decide +kernel)]; exact ⟨rfl, rfl⟩))
    (fun os started H enc _ => lifted os started H enc)

end Go.Proofs.Ytccekkkiaebnmaa.lawFnNeighbours
