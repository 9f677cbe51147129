/- The law FnOpeners: openers open the lock, there are no more of them than combinations, and every key that opens is counted. No condition. -/
import Derived.Test.YtccekkkiaebnmaaLawsC
set_option linter.unusedVariables false
namespace Go.Proofs
open Go.Sx Go.RowKit
def laws_FnOpeners_A (v : Value) (w : World) : Nat → Ann := fun κ => match κ with
  | 0 => { σ := Nat, sli := [25], slc := fun s => [SV.v (Value.int .i64 (s : Int))], bxi := [], bxc := fun s => [], inv := fun s W => True, μ := fun s W => 0, free := true }
  | _ => { σ := Unit, sli := [], slc := fun _ => [], bxi := [], bxc := fun _ => [], inv := fun _ _ => False, μ := fun _ _ => 0 }
abbrev laws_FnOpeners_k0 (s842 : Nat) (w843 : World) (J844 : Nat → World → Prop) (m845 : Nat → World → Nat) (x911 : Int) (w937 : World) : Prop :=
  I64 (x911 + 1) ∧ ∃ s938 : Nat, (Value.int .i64 (x911 + 1)) = (Value.int .i64 (s938 : Int)) ∧ (J844 s938 w937) ∧ (m845 s938 w937) < (m845 s842 w843)
abbrev laws_FnOpeners_k1 (Post : Value → World → Prop) (s842 : Nat) (w843 : World) (J844 : Nat → World → Prop) (m845 : Nat → World → Nat) (x884 : Int) (x909 : Bool) (w910 : World) : Prop :=
  ((x909 = true → Post (Value.bool false) w910) ∧ (x909 = false → (laws_FnOpeners_k0 s842 w843 J844 m845 x884 w910)))
abbrev laws_FnOpeners_k2 (Post : Value → World → Prop) (x645 : Value) (x828 : Int) (x829 : Int) (x830 : Int) (x831 : Int) (x832 : Int) (x833 : Value) (s842 : Nat) (w843 : World) (J844 : Nat → World → Prop) (m845 : Nat → World → Nat) (x847 : Int) (w851 : World) : Prop :=
  IxV 1 x645 x847 (fun ad852 => ∃ u853 : Value, LdV w851 (Value.pointer (some ad852)) u853 ∧ ∃ b857 : Bool, ∃ n858 : Int, (∀ w854 : World, Ext w851 w854 → Calls Try.prog 53 #[(Value.agg #[(Value.int .i64 x828), (Value.int .i64 x829), (Value.int .i64 x830), (Value.int .i64 x831), (Value.int .i64 x832)]), (Value.agg #[x833]), u853] w854 (fun e855 w856 => e855 = .returned (Value.tuple #[(Value.bool b857), (Value.int .i64 n858)]) ∧ Ext w854 w856)) ∧ ∀ w859 : World, Ext w851 w859 → (((n858 ≠ (0 : Int)) → Post (Value.bool false) w859) ∧ (¬ (n858 ≠ (0 : Int)) → (laws_FnOpeners_k1 Post s842 w843 J844 m845 x847 (!b857) w859))))
abbrev laws_FnOpeners_k3 (Post : Value → World → Prop) (x940 : Int) (x941 : Value) (x945 : Int) (x949 : Int) (w1140 : World) : Prop :=
  (((x945 ≤ x949) → LenV x941 (fun n1141 => Post (Value.bool (decide (n1141 = (min x940 x945)))) w1140)) ∧ (¬ (x945 ≤ x949) → Post (Value.bool false) w1140))
abbrev laws_FnOpeners_k4 (Post : Value → World → Prop) (x644 : Int) (x645 : Value) (x649 : Int) (x653 : Int) (x828 : Int) (x829 : Int) (x830 : Int) (x831 : Int) (x832 : Int) (x833 : Value) (w840 : World) : Prop :=
  (∃ (J844 : Nat → World → Prop) (m845 : Nat → World → Nat), ((∃ s841 : Nat, (Value.int .i64 0) = (Value.int .i64 (s841 : Int)) ∧ (J844 s841 w840)) ∧ ∀ (s842 : Nat) (w843 : World), (J844 s842 w843) → LenV x645 (fun n846 => ((((s842 : Int) < n846) → (laws_FnOpeners_k2 Post x645 x828 x829 x830 x831 x832 x833 s842 w843 J844 m845 (s842 : Int) w843)) ∧ (¬ ((s842 : Int) < n846) → (laws_FnOpeners_k3 Post x644 x645 x649 x653 w843))))))
abbrev laws_FnOpeners_k5 (Post : Value → World → Prop) (x447 : Int) (x448 : Value) (x449 : Int) (x452 : Int) (x456 : Int) (x630 : Int) (x631 : Int) (x632 : Int) (x633 : Int) (x634 : Int) (x635 : Value) (w642 : World) : Prop :=
  (((x449 ≠ (0 : Int)) → Post (Value.bool true) w642) ∧ (¬ (x449 ≠ (0 : Int)) → (laws_FnOpeners_k4 Post x447 x448 x452 x456 x630 x631 x632 x633 x634 x635 w642)))
abbrev laws_FnOpeners_k6 (Post : Value → World → Prop) (b60 : Bool) (b64 : Bool) (x250 : Int) (x251 : Value) (x252 : Int) (x255 : Int) (x259 : Int) (x433 : Int) (x434 : Int) (x435 : Int) (x436 : Int) (x437 : Int) (x438 : Value) (w445 : World) : Prop :=
  (((b60 ≠ b64) → Post (Value.bool false) w445) ∧ (¬ (b60 ≠ b64) → (laws_FnOpeners_k5 Post x250 x251 x252 x255 x259 x433 x434 x435 x436 x437 x438 w445)))
abbrev laws_FnOpeners_k7 (w : World) (Post : Value → World → Prop) (x4 : Value) (w7 : World) : Prop :=
  Calls Try.prog 46 #[x4] w7 (fun e8 w9 => ∃ n10 : Int, ∃ n11 : Int, ∃ n12 : Int, ∃ n13 : Int, ∃ n14 : Int, ∃ u15 : Value, ∃ n16 : Int, e8 = .returned (Value.tuple #[(Value.agg #[(Value.int .i64 n10), (Value.int .i64 n11), (Value.int .i64 n12), (Value.int .i64 n13), (Value.int .i64 n14)]), (Value.agg #[u15]), (Value.int .i64 n16)]) ∧ Keeps w.heap.size [] w7 w9 ∧ ∀ w17 : World, Ext w9 w17 → ∀ w18 : World, Ext w17 w18 → ∀ w19 : World, BxS w.heap.size 25 w18 w19 → oneC u15 (∀ w20 : World, BxS w.heap.size 28 w19 w20 → Calls Try.prog 47 #[(Value.agg #[(Value.int .i64 n10), (Value.int .i64 n11), (Value.int .i64 n12), (Value.int .i64 n13), (Value.int .i64 n14)]), (Value.agg #[u15]), (Value.int .i64 n16)] w20 (fun e21 w22 => ∃ u23 : Value, ∃ n24 : Int, e21 = .returned (Value.tuple #[u23, (Value.int .i64 n24)]) ∧ Keeps w.heap.size [25, 28] w20 w22 ∧ Calls Try.prog 48 #[(Value.agg #[(Value.int .i64 n10), (Value.int .i64 n11), (Value.int .i64 n12), (Value.int .i64 n13), (Value.int .i64 n14)]), (Value.agg #[u15]), (Value.int .i64 n16)] w22 (fun e25 w26 => ∃ u27 : Value, ∃ n28 : Int, e25 = .returned (Value.tuple #[u27, (Value.int .i64 n28)]) ∧ Keeps w.heap.size [25, 28] w22 w26 ∧ Calls Try.prog 17 #[(Value.agg #[(Value.int .i64 n10), (Value.int .i64 n11), (Value.int .i64 n12), (Value.int .i64 n13), (Value.int .i64 n14)]), (Value.agg #[u15])] w26 (fun e29 w30 => ∃ n31 : Int, ∃ n32 : Int, e29 = .returned (Value.tuple #[(Value.int .i64 n31), (Value.int .i64 n32)]) ∧ Keeps w.heap.size [25, 28] w26 w30 ∧ Calls Try.prog 49 #[(Value.agg #[(Value.int .i64 n10), (Value.int .i64 n11), (Value.int .i64 n12), (Value.int .i64 n13), (Value.int .i64 n14)]), (Value.agg #[u15])] w30 (fun e33 w34 => ∃ n35 : Int, ∃ n36 : Int, e33 = .returned (Value.tuple #[(Value.int .i64 n35), (Value.int .i64 n36)]) ∧ Keeps w.heap.size [25, 28] w30 w34 ∧ Calls Try.prog 50 #[(Value.agg #[(Value.int .i64 n10), (Value.int .i64 n11), (Value.int .i64 n12), (Value.int .i64 n13), (Value.int .i64 n14)]), (Value.agg #[u15])] w34 (fun e37 w38 => ∃ n39 : Int, ∃ n40 : Int, e37 = .returned (Value.tuple #[(Value.int .i64 n39), (Value.int .i64 n40)]) ∧ Keeps w.heap.size [25, 28] w34 w38 ∧ Calls Try.prog 51 #[(Value.agg #[(Value.int .i64 n10), (Value.int .i64 n11), (Value.int .i64 n12), (Value.int .i64 n13), (Value.int .i64 n14)]), (Value.agg #[u15])] w38 (fun e41 w42 => ∃ n43 : Int, ∃ n44 : Int, e41 = .returned (Value.tuple #[(Value.int .i64 n43), (Value.int .i64 n44)]) ∧ Keeps w.heap.size [25, 28] w38 w42 ∧ Calls Try.prog 52 #[x4] w42 (fun e45 w46 => ∃ n47 : Int, ∃ n48 : Int, ∃ n49 : Int, ∃ n50 : Int, ∃ n51 : Int, ∃ u52 : Value, ∃ u53 : Value, e45 = .returned (Value.tuple #[(Value.agg #[(Value.int .i64 n47), (Value.int .i64 n48), (Value.int .i64 n49), (Value.int .i64 n50), (Value.int .i64 n51)]), (Value.agg #[u52]), u53]) ∧ Keeps w.heap.size [25, 28] w42 w46 ∧ ∀ w54 : World, Ext w46 w54 → ∀ w55 : World, Ext w54 w55 → ∀ w56 : World, BxS w.heap.size 25 w55 w56 → oneC u52 (∀ w57 : World, BxS w.heap.size 28 w56 w57 → Calls Try.prog 53 #[(Value.agg #[(Value.int .i64 n47), (Value.int .i64 n48), (Value.int .i64 n49), (Value.int .i64 n50), (Value.int .i64 n51)]), (Value.agg #[u52]), u53] w57 (fun e58 w59 => ∃ b60 : Bool, ∃ n61 : Int, e58 = .returned (Value.tuple #[(Value.bool b60), (Value.int .i64 n61)]) ∧ Keeps w.heap.size [25, 28, 25, 28] w57 w59 ∧ Calls Try.prog 54 #[(Value.agg #[(Value.int .i64 n47), (Value.int .i64 n48), (Value.int .i64 n49), (Value.int .i64 n50), (Value.int .i64 n51)]), (Value.agg #[u52]), u53] w59 (fun e62 w63 => ∃ b64 : Bool, ∃ n65 : Int, e62 = .returned (Value.tuple #[(Value.bool b64), (Value.int .i64 n65)]) ∧ Keeps w.heap.size [25, 28, 25, 28] w59 w63 ∧ (((n24 ≠ n28) → Post (Value.bool false) w63) ∧ (¬ (n24 ≠ n28) → Calls Try.prog 55 #[u23, u27] w63 (fun e246 w247 => ∃ b248 : Bool, e246 = .returned (Value.bool b248) ∧ Keeps w.heap.size [25, 28, 25, 28] w63 w247 ∧ (((!b248) = true → Post (Value.bool false) w247) ∧ ((!b248) = false → (((n32 ≠ n36) → Post (Value.bool false) w247) ∧ (¬ (n32 ≠ n36) → (((n31 ≠ n35) → Post (Value.bool false) w247) ∧ (¬ (n31 ≠ n35) → (((n40 ≠ n44) → Post (Value.bool false) w247) ∧ (¬ (n40 ≠ n44) → (((n39 ≠ n43) → Post (Value.bool false) w247) ∧ (¬ (n39 ≠ n43) → (((n61 ≠ n65) → Post (Value.bool false) w247) ∧ (¬ (n61 ≠ n65) → (laws_FnOpeners_k6 Post b60 b64 n16 u23 n24 n31 n39 n10 n11 n12 n13 n14 u15 w247))))))))))))))))))))))))))))
def laws_FnOpeners_vc (v : Value) (w : World) (Post : Value → World → Prop) : Prop :=
  Calls Try.prog 10 #[v] w (fun e1 w2 => ∃ b3 : Bool, e1 = .returned (Value.bool b3) ∧ Keeps w.heap.size [] w w2 ∧ ((b3 = true → Post (Value.bool true) w2) ∧ (b3 = false → (laws_FnOpeners_k7 w Post v w2))))
theorem laws_FnOpeners_eq (v : Value) (w : World) (Post : Value → World → Prop) : denF Try.prog [] (laws_FnOpeners_A v w) 7 [v] w Post = laws_FnOpeners_vc v w Post := by kernel_rfl
set_option maxRecDepth 100000 in
theorem laws_FnOpeners_calls (v : Value) (w : World) (Post : Value → World → Prop) (hvc : laws_FnOpeners_vc v w Post) : Ret Try.prog 7 #[v] w Post :=
  Ret.of (denF_sound mixed (Eq.mpr (laws_FnOpeners_eq v w Post) hvc))

end Go.Proofs
namespace Go.Proofs.Ytccekkkiaebnmaa.lawFnOpeners
open Go.Proofs Go.Sx Go.RowKit Go.ChangeShapes Go.WideShapes Go.ChangeAt Go.Joins
theorem walk (v : Value) (zs : List Int) (w : World) (h : RB w v zs) : Val Try.prog 7 #[v] w (.bool true) :=
  Ret.val (laws_FnOpeners_calls v w _ (by
    unfold laws_FnOpeners_vc
    refine (laws_big_ret v zs w h).call ?_
    rintro _ w1 ⟨⟨b, rfl⟩, h1⟩
    refine ⟨b, rfl, h1.keeps, fun _ => ⟨rfl, h1⟩, fun _ => ?_⟩
    refine (spec_DrawOpenersOf_ret v zs w1 (h.ext h1)).call ?_
    rintro _ w2 ⟨M, p, za, n, rfl, _, va, h2⟩
    have f2 := (Fx.start (h1.trans h2)).addV va
    refine ⟨M.c, M.d, M.s, M.m, M.l, p, n, rfl, h2.keeps, fun w17 h17 w18 h18 w19 b19 => va.rr.oneC fun w20 b20 => ?_⟩
    have f20 := (((f2.ext h17).ext h18).bm b19).bl b20
    refine (impl_OpenersOf_ret M.c M.d M.s M.m M.l p za n w20 (f20.rr (by simp))).call ?_
    rintro _ w22 ⟨o, rfl, oo, h22⟩
    have f22 := (f20.ext h22).addR oo
    refine ⟨o, _, rfl, h22.keeps, ?_⟩
    refine (spec_OpenersOf_ret M.c M.d M.s M.m M.l p za n w22 (f22.rr (by simp))).call ?_
    rintro _ w26 ⟨o', rfl, oo', h26⟩
    have f26 := (f22.ext h26).addR oo'
    refine ⟨o', _, rfl, h26.keeps, ?_⟩
    obtain ⟨x, y, e⟩ := coR_pair M.c M.d M.s M.m M.l za
    refine (impl_CountOpeners_val M.c M.d M.s M.m M.l p za w26 (f26.rr (by simp))).call fun w30 h30 => ⟨x, y, by rw [e], h30.keeps, ?_⟩
    have f30 := f26.ext h30
    refine (spec_CountOpeners_val M.c M.d M.s M.m M.l p za w30 (f30.rr (by simp))).call fun w34 h34 => ⟨x, y, by rw [e], h34.keeps, ?_⟩
    have f34 := f30.ext h34
    obtain ⟨x2, y2, e2⟩ := combR_pair M.c M.d M.s M.m M.l za
    refine (impl_CountCombinations_val M.c M.d M.s M.m M.l p za w34 (f34.rr (by simp))).call fun w38 h38 => ⟨x2, y2, by rw [e2], h38.keeps, ?_⟩
    have f38 := f34.ext h38
    refine (spec_CountCombinations_val M.c M.d M.s M.m M.l p za w38 (f38.rr (by simp))).call fun w42 h42 => ⟨x2, y2, by rw [e2], h42.keeps, ?_⟩
    have f42 := f38.ext h42
    refine (spec_DrawOpens_ret v zs w42 (h.ext f42.1)).call ?_
    rintro _ w46 ⟨N, q, k, zb, ks, rfl, vb, vk, h46⟩
    have f46 := ((f42.ext h46).addV vb).addK vk
    refine ⟨N.c, N.d, N.s, N.m, N.l, q, k, rfl, h46.keeps, fun w54 h54 w55 h55 w56 b56 => vb.rr.oneC fun w57 b57 => ?_⟩
    have f57 := (((f46.ext h54).ext h55).bm b56).bl b57
    obtain ⟨t, c, e3⟩ := opensR_pair N.c N.d N.s N.m N.l zb ks
    refine (impl_Opens_val N.c N.d N.s N.m N.l q k zb ks w57 (f57.rr (by simp)) (f57.ri (by simp))).call fun w59 h59 => ⟨t, c, by rw [e3], h59.keeps, ?_⟩
    have f59 := f57.ext h59
    refine (spec_Opens_val N.c N.d N.s N.m N.l q k zb ks w59 (f59.rr (by simp)) (f59.ri (by simp))).call fun w63 h63 => ⟨t, c, by rw [e3], h63.keeps, fun hne => absurd rfl hne, fun _ => ?_⟩
    have f63 := f59.ext h63
    refine (laws_likeLists_val o o' _ _ w63 (f63.rr (z := ooR M.c M.d M.s M.m M.l za n) (by simp)) (f63.rr (z := ooR M.c M.d M.s M.m M.l za n) (by simp))).call fun w247 h247 => ⟨_, rfl, h247.keeps, fun hb => (by simp at hb), fun _ => ⟨fun hne => absurd rfl hne, fun _ => ⟨fun hne => absurd rfl hne, fun _ => ⟨fun hne => absurd rfl hne, fun _ => ⟨fun hne => absurd rfl hne, fun _ => ⟨fun hne => absurd rfl hne, fun _ => ⟨fun hne => absurd rfl hne, fun _ => ?_⟩⟩⟩⟩⟩⟩⟩
    have f247 := f63.ext h247
    refine ⟨fun _ => ⟨rfl, f247.1⟩, fun h0 => ?_⟩
    have h0 : ooCode M.c M.d M.s M.m M.l za n = 0 := Classical.not_not.1 h0
    have hkn : LkOk M.c M.d M.s M.m M.l za ∧ 0 ≤ n ∧ n ≤ 300 := by
      unfold ooCode at h0
      split at h0
      · rename_i hk
        split at h0
        · rename_i hn; exact ⟨hk, hn⟩
        · cases h0
      · cases h0
    obtain ⟨hk, n0, n1⟩ := hkn
    have hc := hk.1.1
    have eo : ooR M.c M.d M.s M.m M.l za n = (openersOf M za).take n.toNat := by unfold ooR; rw [if_pos hk, if_pos ⟨n0, n1⟩]
    rw [coR_yes hk] at e
    have e2' : combR M.c M.d M.s M.m M.l za = .tuple #[.int .i64 (comb za), .int .i64 0] := by unfold combR; rw [if_pos hk]
    rw [e2'] at e2
    simp only [Value.tuple.injEq, Array.mk.injEq, List.cons.injEq, Value.int.injEq, and_true, true_and] at e e2
    obtain ⟨rfl, rfl⟩ := e
    obtain ⟨rfl, rfl⟩ := e2
    have hcomb := openers_comb hk.2.2 hk.2.1
    refine ⟨fun i W => i ≤ (ooR M.c M.d M.s M.m M.l za n).length ∧ Ext w247 W, fun i _ => (ooR M.c M.d M.s M.m M.l za n).length - i, ⟨0, rfl, Nat.zero_le _, .refl _⟩, ?_⟩
    rintro i W ⟨hi, hW⟩
    have fW := f247.ext hW
    have ro : RR W o (ooR M.c M.d M.s M.m M.l za n) := fW.rr (by simp)
    have hbd := ro.bound
    refine ro.len ⟨fun hlt => ?_, fun hge => ⟨fun _ => ro.len ⟨beq_val (decide_eq_true ?_), fW.1⟩, fun hno => absurd hcomb hno⟩⟩
    · have hlt' : i < (ooR M.c M.d M.s M.m M.l za n).length := by omega
      refine ro.get i rfl hlt' fun u hu => ?_
      have hmem : (ooR M.c M.d M.s M.m M.l za n)[i] ∈ openersOf M za := by
        have hsub : ∀ x ∈ ooR M.c M.d M.s M.m M.l za n, x ∈ openersOf M za := by
          rw [eo]
          exact fun x hx => List.mem_of_mem_take hx
        exact hsub _ (List.getElem_mem hlt')
      obtain ⟨hK, hal⟩ := (mem_openers (by omega)).1 hmem
      have hkl : ((ooR M.c M.d M.s M.m M.l za n)[i].length : Int) = M.c := hK.1
      have hop : Opn za (ooR M.c M.d M.s M.m M.l za n)[i] (ooR M.c M.d M.s M.m M.l za n)[i].length := fun j hj => of_decide_eq_true (hal j (by omega))
      have hcode : opCode M.c M.d M.s M.m M.l za (ooR M.c M.d M.s M.m M.l za n)[i] = 0 := by unfold opCode; rw [if_pos hk, if_pos hK]
      have hr : opensR M.c M.d M.s M.m M.l za (ooR M.c M.d M.s M.m M.l za n)[i] = .tuple #[.bool true, .int .i64 0] := by unfold opensR; rw [if_pos hcode, decide_eq_true hop]
      refine ⟨true, 0, fun W1 e1 => ?_, fun W1 e1 => ⟨fun hne => absurd rfl hne, fun _ => ⟨fun hb => (by cases hb), fun _ => ⟨by unfold I64; omega, i + 1, rfl, ⟨hlt', hW.trans e1⟩, by simp only; omega⟩⟩⟩⟩
      have := impl_Opens_val M.c M.d M.s M.m M.l p u za _ W1 ((fW.ext e1).rr (by simp)) (hu.ext e1)
      rw [hr] at this
      exact this.calls
    · rw [eo, List.length_take]
      omega))
set_option linter.unusedSimpArgs false in
theorem readable : ∀ t ∈ Try.f7.params.toList, Try.prog.readableRec t = true ∧ t < Try.prog.types.size := by
  rw [Try.params7]
  simp only [List.mem_cons, List.not_mem_nil, or_false, forall_eq_or_imp, forall_eq]
  exact ⟨by kernel_rfl, of_decide_eq_true (by kernel_rfl)⟩

set_option maxRecDepth 100000 in
theorem lifted (os : Os) (started : os.Started) (H : Type) (enc : TypeId × Value → H) :
    ReturnsInHanded {} Try.checked os 7 .any (Rows.fnOpenersSpec.pre6 enc Try.prog Try.f7 Rows.fnOpenersRow.domain false) (Rows.fnOpenersSpec.post enc Try.prog Try.f7 false true false false) := by
  refine returnsInHanded_of_change (C := Try.checked) ownKnobNone started (by kernel_rfl) Try.func7
    (ChangeSpec.witness6 (enc := enc) (C := Try.checked) false ⟨#[], #[.slice none 0 0], []⟩ 8 (by kernel_rfl) (by kernel_rfl) (by kernel_rfl) (by kernel_rfl)) ?_
  intro W base args ds gs before hval0 hW hcnd _
  have hval : ∀ (j : Nat) t v, Try.f7.params[j]? = some t → args[j]? = some v → Value.okWide Try.prog W .any base t v := hval0
  have hW' := hW
  obtain ⟨p, q, hA0, hV, rfl, hfz, hnd⟩ := hW
  have hA1 : DataW.TrodAll enc Try.prog W 0 (fun _ => true) true Try.f7.params.toList args.toList ds p := hA0
  have hA := hA1
  rw [Try.params7] at hA hval
  obtain ⟨v0, vs0, d0, ds0, p0, q0, hargs, rfl, rfl, h0, r0⟩ := trodAll_cons hA
  obtain ⟨rfl, rfl, rfl⟩ := trodAll_nil r0
  obtain rfl : args = #[v0] := by cases args; simp_all
  obtain ⟨rfl, rfl⟩ := trodVars_none hV
  obtain ⟨z0, hz0⟩ := open_RB Try.underlying22 Try.underlying5 (by kernel_rfl) (hval 0 22 v0 rfl rfl) h0
  clear hA0 hval0
  refine (Val.calls (walk v0 z0 W hz0)).mono fun e W' ⟨he, hg⟩ => ?_
  subst he
  exact ⟨_, rfl, law_post laidOut readable hW' hA1 Try.underlying4 rfl rfl rfl hg⟩

theorem proved : Rows.FnOpenersSaid :=
  OpenClaim.holds_of_wide 7 Try.f7 rfl rfl rfl rfl rfl rfl rfl ⟨rfl, rfl, rfl, rfl, rfl⟩ rfl rfl rfl rfl rfl (by kernel_rfl) Try.func7 (by kernel_rfl)
    (of_decide_eq_true (by kernel_rfl)) (by unfold Func.isWrapper; first | (rw [if_pos (by decide +kernel)]; kernel_rfl) | (rw [if_neg (by decide +kernel)]; exact ⟨rfl, rfl⟩))
    (fun os started H enc _ => lifted os started H enc)

end Go.Proofs.Ytccekkkiaebnmaa.lawFnOpeners
