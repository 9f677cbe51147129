/- The law FnFaults: cuts are a key exactly if they keep all rules, and the first keys are in order. No condition. -/
import Derived.Test.YteolgidmaklbkaaLawsB
import Derived.Test.YteolgidmaklbkaaDraw5
import Derived.Test.YteolgidmaklbkaaL03c
set_option linter.unusedVariables false
namespace Go.Proofs
open Go.Sx Go.RowKit
def laws_FnFaults_A (v : Value) (w : World) : Nat → Ann := fun κ => match κ with
  | 0 => { σ := Nat, sli := [15], slc := fun s => [SV.v (Value.int .i64 (s : Int))], bxi := [], bxc := fun s => [], inv := fun s W => True, μ := fun s W => 0, free := true }
  | _ => { σ := Unit, sli := [], slc := fun _ => [], bxi := [], bxc := fun _ => [], inv := fun _ _ => False, μ := fun _ _ => 0 }
abbrev laws_FnFaults_k0 (s554 : Nat) (w555 : World) (J556 : Nat → World → Prop) (m557 : Nat → World → Nat) (x632 : Int) (w663 : World) : Prop :=
  I64 (x632 + 1) ∧ ∃ s664 : Nat, (Value.int .i64 (x632 + 1)) = (Value.int .i64 (s664 : Int)) ∧ (J556 s664 w663) ∧ (m557 s664 w663) < (m557 s554 w555)
abbrev laws_FnFaults_k1 (Post : Value → World → Prop) (s554 : Nat) (w555 : World) (J556 : Nat → World → Prop) (m557 : Nat → World → Nat) (x600 : Int) (x630 : Bool) (w631 : World) : Prop :=
  ((x630 = true → Post (Value.bool false) w631) ∧ (x630 = false → (laws_FnFaults_k0 s554 w555 J556 m557 x600 w631)))
abbrev laws_FnFaults_k2 (w : World) (Post : Value → World → Prop) (x429 : Value) (x547 : Int) (x548 : Int) (x549 : Int) (x550 : Int) (x551 : Int) (s554 : Nat) (w555 : World) (J556 : Nat → World → Prop) (m557 : Nat → World → Nat) (x559 : Int) (w563 : World) : Prop :=
  ∀ w564 : World, Ext w563 w564 → I64 (x559 - 1) ∧ IxV 1 x429 (x559 - 1) (fun ad565 => ∃ u566 : Value, LdV w564 (Value.pointer (some ad565)) u566 ∧ Calls Try.prog 76 #[(Value.agg #[(Value.int .i64 x547), (Value.int .i64 x548), (Value.int .i64 x549), (Value.int .i64 x550), (Value.int .i64 x551)]), u566] w564 (fun e567 w568 => ∃ u569 : Value, ∃ n570 : Int, e567 = .returned (Value.tuple #[u569, (Value.int .i64 n570)]) ∧ Keeps w.heap.size [56, 56] w564 w568 ∧ Ext w564 w568 ∧ (((n570 ≠ (0 : Int)) → Post (Value.bool false) w568) ∧ (¬ (n570 ≠ (0 : Int)) → IxV 1 x429 x559 (fun ad595 => ∃ u596 : Value, LdV w568 (Value.pointer (some ad595)) u596 ∧ Calls Try.prog 32 #[u569, u596] w568 (fun e597 w598 => ∃ b599 : Bool, e597 = .returned (Value.bool b599) ∧ Keeps w.heap.size [56, 56] w568 w598 ∧ (laws_FnFaults_k1 Post s554 w555 J556 m557 x559 (!b599) w598)))))))
abbrev laws_FnFaults_k3 (Post : Value → World → Prop) (x671 : Int) (x672 : Value) (w799 : World) : Prop :=
  LenV x672 (fun n800 => Post (Value.bool (decide (n800 ≤ x671))) w799)
abbrev laws_FnFaults_k4 (w : World) (Post : Value → World → Prop) (x428 : Int) (x429 : Value) (x547 : Int) (x548 : Int) (x549 : Int) (x550 : Int) (x551 : Int) (w552 : World) : Prop :=
  (∃ (J556 : Nat → World → Prop) (m557 : Nat → World → Nat), ((∃ s553 : Nat, (Value.int .i64 1) = (Value.int .i64 (s553 : Int)) ∧ (J556 s553 w552)) ∧ ∀ (s554 : Nat) (w555 : World), (J556 s554 w555) → LenV x429 (fun n558 => ((((s554 : Int) < n558) → (laws_FnFaults_k2 w Post x429 x547 x548 x549 x550 x551 s554 w555 J556 m557 (s554 : Int) w555)) ∧ (¬ ((s554 : Int) < n558) → (laws_FnFaults_k3 Post x428 x429 w555))))))
abbrev laws_FnFaults_k5 (w : World) (Post : Value → World → Prop) (x298 : Int) (x299 : Value) (x300 : Int) (x416 : Int) (x417 : Int) (x418 : Int) (x419 : Int) (x420 : Int) (w421 : World) : Prop :=
  (((x300 ≠ (0 : Int)) → Post (Value.bool true) w421) ∧ (¬ (x300 ≠ (0 : Int)) → (laws_FnFaults_k4 w Post x298 x299 x416 x417 x418 x419 x420 w421)))
abbrev laws_FnFaults_k6 (w : World) (Post : Value → World → Prop) (n24 : Int) (b161 : Bool) (x168 : Int) (x169 : Value) (x170 : Int) (x286 : Int) (x287 : Int) (x288 : Int) (x289 : Int) (x290 : Int) (w291 : World) : Prop :=
  (((b161 ≠ (decide (n24 = (0 : Int)))) → Post (Value.bool false) w291) ∧ (¬ (b161 ≠ (decide (n24 = (0 : Int)))) → (laws_FnFaults_k5 w Post x168 x169 x170 x286 x287 x288 x289 x290 w291)))
abbrev laws_FnFaults_k7 (w : World) (Post : Value → World → Prop) (b161 : Bool) (x807 : Int) (x808 : Value) (x809 : Int) (x924 : Int) (x925 : Int) (x926 : Int) (x927 : Int) (x928 : Int) (w929 : World) : Prop :=
  (((b161 ≠ false) → Post (Value.bool false) w929) ∧ (¬ (b161 ≠ false) → (laws_FnFaults_k5 w Post x807 x808 x809 x924 x925 x926 x927 x928 w929)))
abbrev laws_FnFaults_k8 (w : World) (Post : Value → World → Prop) (x4 : Value) (w7 : World) : Prop :=
  Calls Try.prog 68 #[x4] w7 (fun e8 w9 => ∃ n10 : Int, ∃ n11 : Int, ∃ n12 : Int, ∃ n13 : Int, ∃ n14 : Int, ∃ u15 : Value, e8 = .returned (Value.tuple #[(Value.agg #[(Value.int .i64 n10), (Value.int .i64 n11), (Value.int .i64 n12), (Value.int .i64 n13), (Value.int .i64 n14)]), u15]) ∧ Keeps w.heap.size [] w7 w9 ∧ ∀ w16 : World, Ext w9 w16 → ∀ w17 : World, BxS w.heap.size 56 w16 w17 → Calls Try.prog 69 #[(Value.agg #[(Value.int .i64 n10), (Value.int .i64 n11), (Value.int .i64 n12), (Value.int .i64 n13), (Value.int .i64 n14)]), u15] w17 (fun e18 w19 => ∃ n20 : Int, ∃ n21 : Int, e18 = .returned (Value.tuple #[(Value.int .i64 n20), (Value.int .i64 n21)]) ∧ Keeps w.heap.size [56] w17 w19 ∧ Calls Try.prog 70 #[(Value.agg #[(Value.int .i64 n10), (Value.int .i64 n11), (Value.int .i64 n12), (Value.int .i64 n13), (Value.int .i64 n14)]), u15] w19 (fun e22 w23 => ∃ n24 : Int, ∃ n25 : Int, e22 = .returned (Value.tuple #[(Value.int .i64 n24), (Value.int .i64 n25)]) ∧ Keeps w.heap.size [56] w19 w23 ∧ Calls Try.prog 71 #[x4] w23 (fun e26 w27 => ∃ n28 : Int, ∃ n29 : Int, ∃ n30 : Int, ∃ n31 : Int, ∃ n32 : Int, ∃ n33 : Int, e26 = .returned (Value.tuple #[(Value.agg #[(Value.int .i64 n28), (Value.int .i64 n29), (Value.int .i64 n30), (Value.int .i64 n31), (Value.int .i64 n32)]), (Value.int .i64 n33)]) ∧ Keeps w.heap.size [56] w23 w27 ∧ ∀ w34 : World, Ext w27 w34 → ∀ w35 : World, BxS w.heap.size 56 w34 w35 → Calls Try.prog 72 #[(Value.agg #[(Value.int .i64 n28), (Value.int .i64 n29), (Value.int .i64 n30), (Value.int .i64 n31), (Value.int .i64 n32)]), (Value.int .i64 n33)] w35 (fun e36 w37 => ∃ u38 : Value, ∃ n39 : Int, e36 = .returned (Value.tuple #[u38, (Value.int .i64 n39)]) ∧ Keeps w.heap.size [56, 56] w35 w37 ∧ Calls Try.prog 73 #[(Value.agg #[(Value.int .i64 n28), (Value.int .i64 n29), (Value.int .i64 n30), (Value.int .i64 n31), (Value.int .i64 n32)]), (Value.int .i64 n33)] w37 (fun e40 w41 => ∃ u42 : Value, ∃ n43 : Int, e40 = .returned (Value.tuple #[u42, (Value.int .i64 n43)]) ∧ Keeps w.heap.size [56, 56] w37 w41 ∧ (((n21 ≠ n25) → Post (Value.bool false) w41) ∧ (¬ (n21 ≠ n25) → (((n20 ≠ n24) → Post (Value.bool false) w41) ∧ (¬ (n20 ≠ n24) → (((n39 ≠ n43) → Post (Value.bool false) w41) ∧ (¬ (n39 ≠ n43) → Calls Try.prog 74 #[u38, u42] w41 (fun e156 w157 => ∃ b158 : Bool, e156 = .returned (Value.bool b158) ∧ Keeps w.heap.size [56, 56] w41 w157 ∧ (((!b158) = true → Post (Value.bool false) w157) ∧ ((!b158) = false → Calls Try.prog 75 #[(Value.agg #[(Value.int .i64 n10), (Value.int .i64 n11), (Value.int .i64 n12), (Value.int .i64 n13), (Value.int .i64 n14)]), u15] w157 (fun e159 w160 => ∃ b161 : Bool, e159 = .returned (Value.bool b161) ∧ Keeps w.heap.size [56, 56] w157 w160 ∧ (((n25 = (0 : Int)) → (laws_FnFaults_k6 w Post n24 b161 n33 u38 n39 n28 n29 n30 n31 n32 w160)) ∧ (¬ (n25 = (0 : Int)) → (laws_FnFaults_k7 w Post b161 n33 u38 n39 n28 n29 n30 n31 n32 w160)))))))))))))))))))
def laws_FnFaults_vc (v : Value) (w : World) (Post : Value → World → Prop) : Prop :=
  Calls Try.prog 21 #[v] w (fun e1 w2 => ∃ b3 : Bool, e1 = .returned (Value.bool b3) ∧ Keeps w.heap.size [] w w2 ∧ ((b3 = true → Post (Value.bool true) w2) ∧ (b3 = false → (laws_FnFaults_k8 w Post v w2))))
theorem laws_FnFaults_eq (v : Value) (w : World) (Post : Value → World → Prop) : denF Try.prog [1000076] (laws_FnFaults_A v w) 12 [v] w Post = laws_FnFaults_vc v w Post := by kernel_rfl
set_option maxRecDepth 100000 in
theorem laws_FnFaults_calls (v : Value) (w : World) (Post : Value → World → Prop) (hvc : laws_FnFaults_vc v w Post) : Ret Try.prog 12 #[v] w Post :=
  Ret.of (denF_sound mixed (Eq.mpr (laws_FnFaults_eq v w Post) hvc))

/-- the key behind number j of the keys -/
theorem next_at {M : Mk} (hm : MkOk M.c M.d M.s M.m M.l) {j : Nat} (hj : j + 1 < (keys M).length) : nextR M (keys M)[j] = (keys M)[j + 1] ∧ nextCode M (keys M)[j] = 0 := by
  have hmem : (keys M)[j] ∈ keys M := List.getElem_mem _
  have hc := hm.1
  have hlen := keys_length (M := M) (by omega) hmem
  have hcut := keys_cuts (M := M) (by omega) hmem
  have e := keys_next (M := M) (j := j) (by omega) (by omega)
  rw [above_zero M _ hlen, List.drop_eq_getElem_cons hj] at e
  unfold nextR nextCode
  rw [if_pos hm, if_pos hm, if_pos ⟨hlen, hcut⟩, if_pos ⟨hlen, hcut⟩, e]
  exact ⟨rfl, if_neg (List.cons_ne_nil _ _)⟩
end Go.Proofs
namespace Go.Proofs.Yteolgidmaklbkaa.lawFnFaults
open Go.Proofs Go.Sx Go.RowKit Go.ChangeShapes Go.WideShapes Go.ChangeAt Go.Joins
theorem walk (v : Value) (zs : List Int) (w : World) (h : RB w v zs) : Val Try.prog 12 #[v] w (.bool true) :=
  Ret.val (laws_FnFaults_calls v w _ (by
    unfold laws_FnFaults_vc
    refine (laws_big_ret v zs w h).call ?_
    rintro _ w1 ⟨⟨b, rfl⟩, h1⟩
    refine ⟨b, rfl, h1.keeps, fun _ => ⟨rfl, h1⟩, fun _ => ?_⟩
    refine (spec_DrawKeyFault_ret v zs w1 (h.ext h1)).call ?_
    rintro _ w2 ⟨M, p, a, rfl, oa, h2⟩
    refine ⟨M.c, M.d, M.s, M.m, M.l, p, rfl, h2.keeps, fun w3 h3 w4 b4 => ?_⟩
    have k4 := ((h1.trans h2).trans h3).bxs b4
    have oa := (oa.ext h3).bxs b4 (by decide)
    obtain ⟨x, y, e⟩ := keyFaultR_pair M.c M.d M.s M.m M.l a
    refine (impl_KeyFault_val M.c M.d M.s M.m M.l p a w4 oa.rd).call fun w5 h5 => ⟨x, y, by rw [e], h5.keeps, ?_⟩
    refine (spec_KeyFault_val M.c M.d M.s M.m M.l p a w5 (oa.ext h5).rd).call fun w6 h6 => ⟨x, y, by rw [e], h6.keeps, ?_⟩
    have k6 := (k4.trans h5).trans h6
    have oa := (oa.ext h5).ext h6
    refine (spec_DrawFirstKeys_ret v zs w6 (h.ext k6)).call ?_
    rintro _ w7 ⟨N, n, rfl, _, h7⟩
    refine ⟨N.c, N.d, N.s, N.m, N.l, n, rfl, h7.keeps, fun w8 h8 w9 b9 => ?_⟩
    have k9 := ((k6.trans h7).trans h8).bxs b9
    have oa := ((oa.ext h7).ext h8).bxs b9 (by decide)
    refine (impl_FirstKeys_ret N n w9).call ?_
    rintro _ w10 ⟨r, rfl, or, h10⟩
    refine ⟨r, _, rfl, h10.keeps, ?_⟩
    refine (spec_FirstKeys_ret N n w10).call ?_
    rintro _ w11 ⟨r', rfl, or', h11⟩
    refine ⟨r', _, rfl, h11.keeps, fun hne => absurd rfl hne, fun _ => ⟨fun hne => absurd rfl hne, fun _ => ⟨fun hne => absurd rfl hne, fun _ => ?_⟩⟩⟩
    refine (laws_likeLists_val r r' _ _ w11 (or.rr.ext h11) or'.rr).call fun w12 h12 => ⟨_, rfl, h12.keeps, fun hb => (by simp at hb), fun _ => ?_⟩
    have k12 := ((k9.trans h10).trans h11).trans h12
    have oa := ((oa.ext h10).ext h11).ext h12
    refine (impl_IsKey_val M.c M.d M.s M.m M.l p a w12 oa.rd).call fun w13 h13 => ⟨_, rfl, h13.keeps, ?_⟩
    have k13 := k12.trans h13
    have rr := ((or.rr.ext h11).ext h12).ext h13
    have tail : ∀ (W : World), Ext w13 W → laws_FnFaults_k5 w (fun u w' => u = .bool true ∧ Ext w w') n r (fkCode N n) N.c N.d N.s N.m N.l W := by
      intro W hW
      have kW := k13.trans hW
      refine ⟨fun _ => ⟨rfl, kW⟩, fun hc => ?_⟩
      have hc0 : fkCode N n = 0 := Classical.not_not.1 hc
      have hN : MkOk N.c N.d N.s N.m N.l ∧ 0 ≤ n ∧ n ≤ 300 := by
        unfold fkCode at hc0
        split at hc0
        · rename_i hm
          split at hc0
          · rename_i hn; exact ⟨hm, hn⟩
          · cases hc0
        · cases hc0
      obtain ⟨hm, n0, n1⟩ := hN
      have ef : fkR N n = (keys N).take n.toNat := by unfold fkR; rw [if_pos hm, if_pos ⟨n0, n1⟩]
      have rrW := rr.ext hW
      rw [ef] at rrW
      have hlen : ((keys N).take n.toNat).length = min n.toNat (keys N).length := List.length_take
      refine ⟨fun s W => 1 ≤ s ∧ s ≤ 301 ∧ Ext w13 W, fun s _ => 301 - s, ⟨1, rfl, Nat.le_refl _, by omega, hW⟩, ?_⟩
      rintro k w14 ⟨hk1, hk, h14⟩
      have rr14 := rr.ext h14
      rw [ef] at rr14
      refine rr14.len ⟨fun hlt => ?_, fun hge => rr14.len ⟨?_, k13.trans h14⟩⟩
      · have hlt' : k < ((keys N).take n.toNat).length := by omega
        intro w15 h15
        have rr15 := rr14.ext h15
        refine ⟨by unfold I64; omega, ?_⟩
        refine rr15.get (k - 1) (by omega) (by omega) fun u hu => ?_
        obtain ⟨j, rfl⟩ : ∃ j, k = j + 1 := ⟨k - 1, by omega⟩
        have hjk : j + 1 < (keys N).length := by omega
        have e1 : ((keys N).take n.toNat)[j + 1 - 1]'(by omega) = (keys N)[j] := by rw [List.getElem_take]; rfl
        have e2 : ((keys N).take n.toNat)[j + 1]'(by omega) = (keys N)[j + 1] := by rw [List.getElem_take]
        rw [e1] at hu
        refine (impl_NextKey_ret N u _ w15 hu).call ?_
        rintro _ w16 ⟨q, rfl, oq, h16⟩
        obtain ⟨hx1, hx2⟩ := next_at hm hjk
        refine ⟨q, _, rfl, h16.keeps, h16, fun hne => absurd hx2 hne, fun _ => ?_⟩
        refine (rr15.ext h16).get (j + 1) rfl hlt' fun u2 hu2 => ?_
        rw [e2] at hu2
        rw [hx1] at oq
        refine (laws_likeInts_val q u2 _ _ w16 oq.rd hu2).call fun w17 h17 => ⟨_, rfl, h17.keeps, fun hb => (by simp at hb), fun _ => ?_⟩
        exact ⟨by unfold I64; omega, j + 2, rfl, ⟨by omega, by omega, ((h14.trans h15).trans h16).trans h17⟩, by simp only; omega⟩
      · refine beq_val (decide_eq_true ?_)
        omega
    unfold keyFaultR at e
    split at e
    · rename_i hM
      simp only [Value.tuple.injEq, Array.mk.injEq, List.cons.injEq, Value.int.injEq, and_true, true_and] at e
      obtain ⟨rfl, rfl⟩ := e
      refine ⟨fun _ => ⟨fun hne => ?_, fun _ => tail w13 (.refl _)⟩, fun hn => absurd rfl hn⟩
      exfalso
      apply hne
      have := fault_zero (M := M) (zs := a)
      exact decide_eq_decide.2 ⟨fun h => this.2 h.2, fun h => ⟨hM, this.1 h⟩⟩
    · rename_i hM
      simp only [Value.tuple.injEq, Array.mk.injEq, List.cons.injEq, Value.int.injEq, and_true, true_and] at e
      obtain ⟨rfl, rfl⟩ := e
      refine ⟨fun hn => absurd hn (by decide), fun _ => ⟨fun hne => ?_, fun _ => tail w13 (.refl _)⟩⟩
      exfalso
      apply hne
      exact decide_eq_false fun h => hM h.1))
set_option linter.unusedSimpArgs false in
theorem readable : ∀ t ∈ Try.f12.params.toList, Try.prog.readableRec t = true ∧ t < Try.prog.types.size := by
  rw [Try.params12]
  simp only [List.mem_cons, List.not_mem_nil, or_false, forall_eq_or_imp, forall_eq]
  exact ⟨by kernel_rfl, of_decide_eq_true (by kernel_rfl)⟩

set_option maxRecDepth 100000 in
theorem lifted (os : Os) (started : os.Started) (H : Type) (enc : TypeId × Value → H) :
    ReturnsInHanded {} Try.checked os 12 .any (Rows.fnFaultsSpec.pre6 enc Try.prog Try.f12 Rows.fnFaultsRow.domain false) (Rows.fnFaultsSpec.post enc Try.prog Try.f12 false true false false) := by
  refine returnsInHanded_of_change (C := Try.checked) ownKnobNone started (by kernel_rfl) Try.func12
    (ChangeSpec.witness6 (enc := enc) (C := Try.checked) false ⟨#[], #[.slice none 0 0], []⟩ 8 (by kernel_rfl) (by kernel_rfl) (by kernel_rfl) (by kernel_rfl)) ?_
  intro W base args ds gs before hval0 hW hcnd _
  have hval : ∀ (j : Nat) t v, Try.f12.params[j]? = some t → args[j]? = some v → Value.okWide Try.prog W .any base t v := hval0
  have hW' := hW
  obtain ⟨p, q, hA0, hV, rfl, hfz, hnd⟩ := hW
  have hA1 : DataW.TrodAll enc Try.prog W 0 (fun _ => true) true Try.f12.params.toList args.toList ds p := hA0
  have hA := hA1
  rw [Try.params12] at hA hval
  obtain ⟨v0, vs0, d0, ds0, p0, q0, hargs, rfl, rfl, h0, r0⟩ := trodAll_cons hA
  obtain ⟨rfl, rfl, rfl⟩ := trodAll_nil r0
  obtain rfl : args = #[v0] := by cases args; simp_all
  obtain ⟨rfl, rfl⟩ := trodVars_none hV
  obtain ⟨z0, hz0⟩ := open_RB Try.underlying29 Try.underlying5 (by kernel_rfl) (hval 0 29 v0 rfl rfl) h0
  clear hA0 hval0
  refine (Val.calls (walk v0 z0 W hz0)).mono fun e W' ⟨he, hg⟩ => ?_
  subst he
  exact ⟨_, rfl, law_post laidOut readable hW' hA1 Try.underlying4 rfl rfl rfl hg⟩

theorem proved : Rows.FnFaultsSaid :=
  OpenClaim.holds_of_wide 12 Try.f12 rfl rfl rfl rfl rfl rfl rfl ⟨rfl, rfl, rfl, rfl, rfl⟩ rfl rfl rfl rfl rfl (by kernel_rfl) Try.func12 (by kernel_rfl)
    (of_decide_eq_true (by kernel_rfl)) (by unfold Func.isWrapper; first | (rw [if_pos (by decide +kernel)]; kernel_rfl) | (rw [if_neg (by decide +kernel)]; exact ⟨rfl, rfl⟩))
    (fun os started H enc _ => lifted os started H enc)

end Go.Proofs.Yteolgidmaklbkaa.lawFnFaults
