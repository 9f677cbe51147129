/- Draws of bases, of digits and of numbers. No condition. -/
import Derived.Test.YteolgidmaklbkaaDraw4
import Derived.Test.YteolgidmaklbkaaMarks
set_option linter.unusedVariables false
namespace Go.Proofs
open Go.Sx Go.RowKit
def spec_l01DrawBases_A (p : Addr) (w : World) : Nat → Ann := fun κ => match κ with
  | 0 => { σ := Int × Value × List Int, sli := [4, 3], slc := fun s => [SV.v (Value.int .i64 s.1), SV.v s.2.1], bxi := [], bxc := fun s => [], inv := fun s W => True, μ := fun s W => 0, free := true }
  | _ => { σ := Unit, sli := [], slc := fun _ => [], bxi := [], bxc := fun _ => [], inv := fun _ _ => False, μ := fun _ _ => 0 }
abbrev spec_l01DrawBases_k0 (p : Addr) (w : World) (s7 : Int × Value × List Int) (w8 : World) (J9 : (Int × Value × List Int) → World → Prop) (m10 : (Int × Value × List Int) → World → Nat) (x11 : Value) (x12 : Int) (w14 : World) : Prop :=
  Calls Try.prog 101 #[(Value.pointer (some p)), (Value.int .i64 100)] w14 (fun e15 w16 => ∃ n17 : Int, e15 = .returned (Value.int .i64 n17) ∧ Keeps w.heap.size [] w14 w16 ∧ I64 (1 + n17) ∧ ∀ (v18 : Value) (w19 : World), Sx.Own w16.heap.size w19 2 v18 [(Value.int .i64 1), (Value.int .i64 2), (Value.int .i64 3), (Value.int .i64 10), (Value.int .i64 (1 + n17))] → Ext w16 w19 → Calls Try.prog 100 #[(Value.pointer (some p)), v18] w19 (fun e20 w21 => ∃ n22 : Int, e20 = .returned (Value.int .i64 n22) ∧ Keeps w.heap.size [] w19 w21 ∧ ∀ (v23 : Value) (w24 : World), Sx.Own w21.heap.size w24 2 v23 [(Value.int .i64 n22)] → Ext w21 w24 → AppV w24 2 x11 v23 (fun v25 w26 => I64 (x12 - 1) ∧ ∃ s27 : (Int × Value × List Int), (Value.int .i64 (x12 - 1)) = (Value.int .i64 s27.1) ∧ v25 = s27.2.1 ∧ (J9 s27 w26) ∧ (m10 s27 w26) < (m10 s7 w8))))
abbrev spec_l01DrawBases_k1 (w : World) (Post : Value → World → Prop) (x28 : Addr) (x29 : Value) (w35 : World) : Prop :=
  Calls Try.prog 101 #[(Value.pointer (some x28)), (Value.int .i64 20)] w35 (fun e36 w37 => ∃ n38 : Int, e36 = .returned (Value.int .i64 n38) ∧ Keeps w.heap.size [] w35 w37 ∧ (((n38 = (0 : Int)) → ∀ (v39 : Value) (w40 : World), Sx.Own w37.heap.size w40 2 v39 [(Value.int .i64 0), (Value.int .i64 101), (Value.int .i64 (-1)), (Value.int .i64 100), (Value.int .i64 100)] → Ext w37 w40 → Calls Try.prog 100 #[(Value.pointer (some x28)), v39] w40 (fun e41 w42 => ∃ n43 : Int, e41 = .returned (Value.int .i64 n43) ∧ Keeps w.heap.size [] w40 w42 ∧ ∀ (v44 : Value) (w45 : World), Sx.Own w42.heap.size w45 2 v44 [(Value.int .i64 n43)] → Ext w42 w45 → AppV w45 2 x29 v44 (fun v46 w47 => Post v46 w47))) ∧ (¬ (n38 = (0 : Int)) → Post x29 w37)))
def spec_l01DrawBases_vc (p : Addr) (w : World) (Post : Value → World → Prop) : Prop :=
  ∀ (v1 : Value) (w2 : World), Sx.Own w.heap.size w2 2 v1 [] → Ext w w2 → Calls Try.prog 101 #[(Value.pointer (some p)), (Value.int .i64 6)] w2 (fun e3 w4 => ∃ n5 : Int, e3 = .returned (Value.int .i64 n5) ∧ Keeps w.heap.size [] w2 w4 ∧ (∃ (J9 : (Int × Value × List Int) → World → Prop) (m10 : (Int × Value × List Int) → World → Nat), ((∃ s6 : (Int × Value × List Int), (Value.int .i64 n5) = (Value.int .i64 s6.1) ∧ v1 = s6.2.1 ∧ (J9 s6 w4)) ∧ ∀ (s7 : (Int × Value × List Int)) (w8 : World), (J9 s7 w8) → ((((0 : Int) < s7.1) → (spec_l01DrawBases_k0 p w s7 w8 J9 m10 s7.2.1 s7.1 w8)) ∧ (¬ ((0 : Int) < s7.1) → (spec_l01DrawBases_k1 w Post p s7.2.1 w8))))))
theorem spec_l01DrawBases_eq (p : Addr) (w : World) (Post : Value → World → Prop) : denF Try.prog [9700000, 9800000] (spec_l01DrawBases_A p w) 106 [(Value.pointer (some p))] w Post = spec_l01DrawBases_vc p w Post := by kernel_rfl
set_option maxRecDepth 100000 in
theorem spec_l01DrawBases_calls (p : Addr) (w : World) (Post : Value → World → Prop) (hvc : spec_l01DrawBases_vc p w Post) : Ret Try.prog 106 #[(Value.pointer (some p))] w Post :=
  Ret.of (denF_sound mixed (Eq.mpr (spec_l01DrawBases_eq p w Post) hvc))

theorem spec_l01DrawBases_ret (wb : World) (b : Nat) (cv : Value) (zs : List Int) (w : World) (hs : Src wb b cv zs w) : Ret Try.prog 106 #[.pointer (some ⟨b, 0, none⟩)] w fun r w' => ∃ xs, Own w.heap.size w' 2 r (ints xs) ∧ xs.length ≤ 6 ∧ (∀ x ∈ xs, -1 ≤ x ∧ x ≤ 101) ∧ Src wb b cv zs w' ∧ Pres (fun k => k ≠ b) w w' :=
  spec_l01DrawBases_calls ⟨b, 0, none⟩ w _ (by
    unfold spec_l01DrawBases_vc
    have hb := hs.lt
    intro v w1 o1 h1
    refine (hs.dr.ext h1).next 6 (by simp) fun n w2 n0 n1 d2 p2 => ?_
    refine ⟨fun s W => 0 ≤ s.1 ∧ s.1 ≤ 5 ∧ (s.2.2.length : Int) + s.1 ≤ 5 ∧ (∀ x ∈ s.2.2, -1 ≤ x ∧ x ≤ 101) ∧ Dr wb b cv zs w W ∧ Own w.heap.size W 2 s.2.1 (ints s.2.2), fun s _ => s.1.toNat, ⟨(n, v, []), rfl, rfl, n0, by simp only; omega, by simp only [List.length_nil]; omega, by simp, d2, o1.dr p2 hb⟩, ?_⟩
    rintro ⟨k, u, xs⟩ w3 ⟨k0, k5, hl, hr, d3, o3⟩
    simp only at k0 k5 hl hr o3
    refine ⟨fun hk => ?_, fun hk => ?_⟩
    · simp only at hk
      refine d3.next 100 (by simp) fun x w4 x0 x1 d4 p4 => ⟨by unfold I64; omega, fun r w5 o5 h5 => ?_⟩
      refine (d4.ext h5).pick [1, 2, 3, 10, 1 + x] o5 d4.size (by simp) (by simp) fun y w6 hy d6 p6 => fun r' w7 o7 h7 => ?_
      have hy' := mem5 hy
      refine (d6.ext h7).push ((((o3.dr p4 hb).ext h5).dr p6 hb).ext h7) o7 (Nat.le_refl _) (d6.ext h7).size (by omega) fun u' w8 d8 o8 _ => ⟨by unfold I64; simp only; omega, (k - 1, u', xs ++ [y]), rfl, rfl, ⟨by simp only; omega, by simp only; omega, by simp only [List.length_append, List.length_singleton]; omega, fun z hz => ?_, d8, o8⟩, by simp only; omega⟩
      rcases List.mem_append.1 hz with hz | hz
      · exact hr z hz
      · simp at hz
        omega
    · refine d3.next 20 (by simp) fun x w4 x0 x1 d4 p4 => ⟨fun _ => ?_, fun _ => ⟨xs, o3.dr p4 hb, by omega, hr, d4.1, d4.2.1⟩⟩
      intro r w5 o5 h5
      refine (d4.ext h5).pick [0, 101, -1, 100, 100] o5 d4.size (by simp) (by simp) fun y w6 hy d6 p6 => fun r' w7 o7 h7 => ?_
      have hy' := mem5 hy
      refine (d6.ext h7).push ((((o3.dr p4 hb).ext h5).dr p6 hb).ext h7) o7 (Nat.le_refl _) (d6.ext h7).size (by omega) fun u' w8 d8 o8 _ => ⟨xs ++ [y], o8, by simp only [List.length_append, List.length_singleton]; omega, fun z hz => ?_, d8.1, d8.2.1⟩
      rcases List.mem_append.1 hz with hz | hz
      · exact hr z hz
      · simp at hz
        omega)
def spec_DrawDigitsOf_vc (v : Value) (w : World) (Post : Value → World → Prop) : Prop :=
  Calls Try.prog 99 #[v] w (fun e1 w2 => ∃ p3 : Addr, e1 = .returned (Value.pointer (some p3)) ∧ Keeps w.heap.size [] w w2 ∧ Calls Try.prog 106 #[(Value.pointer (some p3))] w2 (fun e4 w5 => ∃ u6 : Value, e4 = .returned u6 ∧ Keeps w.heap.size [] w2 w5 ∧ Calls Try.prog 107 #[(Value.pointer (some p3))] w5 (fun e7 w8 => ∃ n9 : Int, e7 = .returned (Value.int .i64 n9) ∧ Keeps w.heap.size [] w5 w8 ∧ Post (Value.tuple #[(Value.int .i64 n9), u6]) w8)))
theorem spec_DrawDigitsOf_eq (v : Value) (w : World) (Post : Value → World → Prop) : denF Try.prog [9700000, 9800000] noAnn 28 [v] w Post = spec_DrawDigitsOf_vc v w Post := by kernel_rfl
set_option maxRecDepth 100000 in
theorem spec_DrawDigitsOf_calls (v : Value) (w : World) (Post : Value → World → Prop) (hvc : spec_DrawDigitsOf_vc v w Post) : Ret Try.prog 28 #[v] w Post :=
  Ret.of (denF_sound mixed (Eq.mpr (spec_DrawDigitsOf_eq v w Post) hvc))

theorem spec_DrawDigitsOf_ret (cv : Value) (zs : List Int) (w : World) (h : RB w cv zs) : Ret Try.prog 28 #[cv] w fun r w' => ∃ u xs, ∃ n : Int, r = .tuple #[.int .i64 n, u] ∧ I64 n ∧ RI w' u xs ∧ Ext w w' :=
  spec_DrawDigitsOf_calls cv w _ (by
    unfold spec_DrawDigitsOf_vc
    refine from_call h (Nat.le_refl _) fun b w1 h1 d1 => ?_
    refine (spec_l01DrawBases_ret w b cv zs w1 d1.1).call ?_
    rintro u w2 ⟨xs, o2, hl, hr, s2, p2⟩
    refine ⟨u, rfl, d1.1.keeps p2 (by simp), ?_⟩
    have d2 := d1.step s2 p2
    refine d2.number (by simp) fun n w3 n0 n1 d3 p3 => ?_
    exact ⟨u, xs, n, rfl, by unfold I64; omega, (o2.dr p3 d1.2.2).rd, d3.base⟩)
/-- 'append(out, n)', beside a row that lies below -/
theorem Dr.push2 {wb w0 w : World} {b : Nat} {v : Value} {zs : List Int} (h : Dr wb b v zs w0 w) {A N B C : Nat} {u r t : Value} {ys : List Value} {e : TypeId} {xs : List Int} {n : Int} (ht : OwnI A N w e t ys) (hN : N ≤ B)
    (ho : Own B w 2 u (ints xs)) (hr : Own C w 2 r [.int .i64 n]) (hB : w0.heap.size ≤ B) (hBw : B ≤ w.heap.size) (hl : xs.length < 4398046511104) {K : Value → World → Prop}
    (hK : ∀ u' w', Dr wb b v zs w0 w' → Own B w' 2 u' (ints (xs ++ [n])) → OwnI A N w' e t ys → w.heap.size ≤ w'.heap.size → K u' w') : AppV w 2 u r K :=
  ho.app1 hr rfl (by simpa using hl) hBw fun u' w' o g _ => hK u' w' (h.grown ho hB g) (by rw [ints_append]; exact o)
    ⟨ht.1.grown g (by
      cases hb : t.ownBlock with
      | none => exact .inl rfl
      | some g' =>
        refine .inr fun he => ?_
        have h1 := ht.2 _ hb
        have h2 := (ho.lt he.symm).1
        omega), ht.2⟩ g.size
theorem _root_.Go.Sx.OwnI.dr {w w' : World} {b : Nat} {B N : Nat} {e : TypeId} {u : Value} {xs : List Value} (h : OwnI B N w e u xs) (p : Pres (fun k => k ≠ b) w w') (hb : b < B) : OwnI B N w' e u xs := ⟨h.1.dr p hb, h.2⟩
def spec_DrawNumberOf_A (v : Value) (w : World) : Nat → Ann := fun κ => match κ with
  | 0 => { σ := Int × Value × List Int, sli := [7, 6], slc := fun s => [SV.v (Value.int .i64 s.1), SV.v s.2.1], bxi := [], bxc := fun s => [], inv := fun s W => True, μ := fun s W => 0, free := true }
  | _ => { σ := Unit, sli := [], slc := fun _ => [], bxi := [], bxc := fun _ => [], inv := fun _ _ => False, μ := fun _ _ => 0 }
abbrev spec_DrawNumberOf_k0 (w : World) (x13 : Addr) (x14 : Value) (s26 : Int × Value × List Int) (w27 : World) (J28 : (Int × Value × List Int) → World → Prop) (m29 : (Int × Value × List Int) → World → Nat) (x31 : Value) (x32 : Int) (w36 : World) : Prop :=
  IxV 1 x14 x32 (fun ad37 => ∃ n38 : Int, LdV w36 (Value.pointer (some ad37)) (Value.int .i64 n38) ∧ Calls Try.prog 101 #[(Value.pointer (some x13)), (Value.int .i64 n38)] w36 (fun e39 w40 => ∃ n41 : Int, e39 = .returned (Value.int .i64 n41) ∧ Keeps w.heap.size [] w36 w40 ∧ Calls Try.prog 101 #[(Value.pointer (some x13)), (Value.int .i64 40)] w40 (fun e42 w43 => ∃ n44 : Int, e42 = .returned (Value.int .i64 n44) ∧ Keeps w.heap.size [] w40 w43 ∧ 0 ≤ n44 ∧ I64 n44 ∧ 0 < (39 : Int) ∧ I64 (n41 + (n44 / 39)) ∧ Calls Try.prog 101 #[(Value.pointer (some x13)), (Value.int .i64 40)] w43 (fun e45 w46 => ∃ n47 : Int, e45 = .returned (Value.int .i64 n47) ∧ Keeps w.heap.size [] w43 w46 ∧ 0 ≤ n47 ∧ I64 n47 ∧ 0 < (39 : Int) ∧ I64 ((n41 + (n44 / 39)) - (n47 / 39)) ∧ ∀ (v48 : Value) (w49 : World), Sx.Own w46.heap.size w49 2 v48 [(Value.int .i64 ((n41 + (n44 / 39)) - (n47 / 39)))] → Ext w46 w49 → AppV w49 2 x31 v48 (fun v50 w51 => I64 (x32 + 1) ∧ ∃ s52 : (Int × Value × List Int), (Value.int .i64 (x32 + 1)) = (Value.int .i64 s52.1) ∧ v50 = s52.2.1 ∧ (J28 s52 w51) ∧ (m29 s52 w51) < (m29 s26 w27))))))
abbrev spec_DrawNumberOf_k1 (w : World) (Post : Value → World → Prop) (x54 : Addr) (x55 : Value) (x56 : Value) (w69 : World) : Prop :=
  Calls Try.prog 101 #[(Value.pointer (some x54)), (Value.int .i64 20)] w69 (fun e70 w71 => ∃ n72 : Int, e70 = .returned (Value.int .i64 n72) ∧ Keeps w.heap.size [] w69 w71 ∧ (((n72 = (0 : Int)) → ∀ (v73 : Value) (w74 : World), Sx.Own w71.heap.size w74 2 v73 [(Value.int .i64 0)] → Ext w71 w74 → AppV w74 2 x56 v73 (fun v75 w76 => Post (Value.tuple #[v75, x55]) w76)) ∧ (¬ (n72 = (0 : Int)) → Post (Value.tuple #[x56, x55]) w71)))
abbrev spec_DrawNumberOf_k2 (w : World) (Post : Value → World → Prop) (x13 : Addr) (x14 : Value) (w22 : World) : Prop :=
  ∀ (v23 : Value) (w24 : World), Sx.Own w22.heap.size w24 2 v23 [] → Ext w22 w24 → (∃ (J28 : (Int × Value × List Int) → World → Prop) (m29 : (Int × Value × List Int) → World → Nat), ((∃ s25 : (Int × Value × List Int), (Value.int .i64 0) = (Value.int .i64 s25.1) ∧ v23 = s25.2.1 ∧ (J28 s25 w24)) ∧ ∀ (s26 : (Int × Value × List Int)) (w27 : World), (J28 s26 w27) → LenV x14 (fun n30 => (((s26.1 < n30) → (spec_DrawNumberOf_k0 w x13 x14 s26 w27 J28 m29 s26.2.1 s26.1 w27)) ∧ (¬ (s26.1 < n30) → (spec_DrawNumberOf_k1 w Post x13 x14 s26.2.1 w27))))))
def spec_DrawNumberOf_vc (v : Value) (w : World) (Post : Value → World → Prop) : Prop :=
  Calls Try.prog 99 #[v] w (fun e1 w2 => ∃ p3 : Addr, e1 = .returned (Value.pointer (some p3)) ∧ Keeps w.heap.size [] w w2 ∧ Calls Try.prog 106 #[(Value.pointer (some p3))] w2 (fun e4 w5 => ∃ u6 : Value, e4 = .returned u6 ∧ Keeps w.heap.size [] w2 w5 ∧ Calls Try.prog 101 #[(Value.pointer (some p3)), (Value.int .i64 12)] w5 (fun e7 w8 => ∃ n9 : Int, e7 = .returned (Value.int .i64 n9) ∧ Keeps w.heap.size [] w5 w8 ∧ (((n9 = (0 : Int)) → ∀ (v10 : Value) (w11 : World), Sx.Own w8.heap.size w11 2 v10 [(Value.int .i64 100), (Value.int .i64 100), (Value.int .i64 100), (Value.int .i64 100), (Value.int .i64 100), (Value.int .i64 100), (Value.int .i64 100)] → Ext w8 w11 → (spec_DrawNumberOf_k2 w Post p3 v10 w11)) ∧ (¬ (n9 = (0 : Int)) → (spec_DrawNumberOf_k2 w Post p3 u6 w8))))))
theorem spec_DrawNumberOf_eq (v : Value) (w : World) (Post : Value → World → Prop) : denF Try.prog [9700000, 9800000] (spec_DrawNumberOf_A v w) 29 [v] w Post = spec_DrawNumberOf_vc v w Post := by kernel_rfl
set_option maxRecDepth 100000 in
theorem spec_DrawNumberOf_calls (v : Value) (w : World) (Post : Value → World → Prop) (hvc : spec_DrawNumberOf_vc v w Post) : Ret Try.prog 29 #[v] w Post :=
  Ret.of (denF_sound mixed (Eq.mpr (spec_DrawNumberOf_eq v w Post) hvc))

theorem spec_DrawNumberOf_ret (cv : Value) (zs : List Int) (w : World) (h : RB w cv zs) : Ret Try.prog 29 #[cv] w fun r w' => ∃ u t, ∃ xs ys : List Int, r = .tuple #[u, t] ∧ RI w' u xs ∧ RI w' t ys ∧ Ext w w' :=
  spec_DrawNumberOf_calls cv w _ (by
    unfold spec_DrawNumberOf_vc
    refine from_call h (Nat.le_refl _) fun b w1 h1 d1 => ?_
    have hb := d1.2.2
    refine (spec_l01DrawBases_ret w b cv zs w1 d1.1).call ?_
    rintro u w2 ⟨xs, o2, hl, hr, s2, p2⟩
    refine ⟨u, rfl, d1.1.keeps p2 (by simp), ?_⟩
    have d2 := d1.step s2 p2
    refine d2.next 12 (by simp) fun n w3 n0 n1 d3 p3 => ?_
    have main : ∀ (t : Value) (ys : List Int) (W : World), Own w1.heap.size W 2 t (ints ys) → ys.length ≤ 7 → (∀ y ∈ ys, y ≤ 101) → Dr w b cv zs w1 W →
        spec_DrawNumberOf_k2 w (fun r w' => ∃ u t, ∃ xs ys : List Int, r = .tuple #[u, t] ∧ RI w' u xs ∧ RI w' t ys ∧ Ext w w') ⟨b, 0, none⟩ t W := by
      intro t ys W ot hly hy dW v w4 o4 h4
      have hbW : b < W.heap.size := Nat.lt_of_lt_of_le hb dW.size
      have ot4 := ot.i.ext h4
      refine ⟨fun s W' => 0 ≤ s.1 ∧ s.1 ≤ ys.length ∧ (s.2.2.length : Int) = s.1 ∧ Dr w b cv zs w1 W' ∧ W.heap.size ≤ W'.heap.size ∧ OwnI w1.heap.size W.heap.size W' 2 t (ints ys) ∧ Own W.heap.size W' 2 s.2.1 (ints s.2.2), fun s _ => ys.length - s.1.toNat, ⟨(0, v, []), rfl, rfl, Int.le_refl _, by simp only; omega, rfl, dW.ext h4, h4.size, ot4, o4⟩, ?_⟩
      rintro ⟨k, a, ds⟩ w5 ⟨k0, k1, hlen, d5, z5, ot5, o5⟩
      simp only at k0 k1 hlen o5
      refine ot5.1.rd.len ?_
      rw [ints_length]
      refine ⟨fun hk => ?_, fun hk => ?_⟩
      · simp only at hk
        have hkn : k.toNat < ys.length := by omega
        refine RI.get (zs := ys) ot5.1.rd k.toNat (by simp only; omega) hkn ?_
        have hy1 := hy _ (List.getElem_mem hkn)
        refine d5.next _ (by simp) fun x w6 x0 x1 d6 p6 => ?_
        refine d6.next 40 (by simp) fun y w7 y0 y1 d7 p7 => ⟨y0, by unfold I64; omega, by omega, by unfold I64; omega, ?_⟩
        refine d7.next 40 (by simp) fun z w8 z0 z1 d8 p8 => ⟨z0, by unfold I64; omega, by omega, by unfold I64; omega, fun r w9 o9 h9 => ?_⟩
        have z9 : W.heap.size ≤ w9.heap.size := Nat.le_trans z5 (Nat.le_trans p6.size (Nat.le_trans p7.size (Nat.le_trans p8.size h9.size)))
        refine (d8.ext h9).push2 ((((ot5.dr p6 hb).dr p7 hb).dr p8 hb).ext h9) (Nat.le_refl _) ((((o5.dr p6 hbW).dr p7 hbW).dr p8 hbW).ext h9) o9 dW.size z9 (by omega) fun u' w10 d10 o10 ot10 z10 => ⟨by unfold I64; simp only; omega, (k + 1, u', ds ++ [_]), rfl, rfl, ⟨by simp only; omega, by simp only; omega, by simp only [List.length_append, List.length_singleton]; omega, d10, Nat.le_trans z9 z10, ot10, o10⟩, by simp only; omega⟩
      · refine d5.next 20 (by simp) fun x w6 x0 x1 d6 p6 => ⟨fun _ => ?_, fun _ => ⟨a, t, ds, ys, rfl, (o5.dr p6 hbW).rd, (ot5.dr p6 hb).1.rd, d6.base⟩⟩
        intro r w7 o7 h7
        have z7 : W.heap.size ≤ w7.heap.size := Nat.le_trans z5 (Nat.le_trans p6.size h7.size)
        refine (d6.ext h7).push2 ((ot5.dr p6 hb).ext h7) (Nat.le_refl _) ((o5.dr p6 hbW).ext h7) o7 dW.size z7 (by omega) fun u' w8 d8 o8 ot8 z8 => ⟨u', t, _, ys, rfl, o8.rd, ot8.1.rd, d8.base⟩
    refine ⟨fun _ v w4 o4 h4 => main v [100, 100, 100, 100, 100, 100, 100] w4 (o4.mono d3.size) (by simp) (by simp) (d3.ext h4), fun _ => main u xs w3 (o2.dr p3 hb) (by omega) (fun y hy => (hr y hy).2) d3⟩)
end Go.Proofs
