/- The hull of keys in the reference: its contract. No condition. -/
import Derived.Test.YtccekkkiaebnmaaL04e
set_option linter.unusedVariables false
namespace Go.Proofs
open Go.Sx Go.RowKit
/-- a key has this cut in this chamber -/
def pH (zss : List (List Int)) : Nat → Int → Bool := fun i x => zss.any fun z => decide (z.getD i 0 = x)
def hullL (M : Mk) (zss : List (List Int)) : List (List Int) := rowsOf (pH zss) M.d M.c.toNat
theorem pH_succ {zss : List (List Int)} {k : Nat} (hk : k < zss.length) (i : Nat) (x : Int) : pH (zss.take (k + 1)) i x = (pH (zss.take k) i x || decide (zss[k].getD i 0 = x)) := by
  unfold pH
  rw [take_snoc zss k hk, List.any_append]
  simp
theorem hullL_length (M : Mk) (zss : List (List Int)) : (hullL M zss).length = M.c.toNat := rowsOf_length _ _ _
def spec_l04Hull_A (m_Chambers : Int) (m_Depths : Int) (m_Step : Int) (m_Same : Int) (m_Least : Int) (v : Value) (w : World) : Nat → Ann := fun κ => match κ with
  | 0 => { σ := Nat × Value, sli := [6, 5], slc := fun s => [SV.v (Value.int .i64 (s.1 : Int)), SV.v s.2], bxi := [], bxc := fun s => [], inv := fun s W => True, μ := fun s W => 0, free := true }
  | 1 => { σ := Nat × Value, sli := [8, 7], slc := fun s => [SV.v (Value.int .i64 (s.1 : Int)), SV.v s.2], bxi := [], bxc := fun s => [], inv := fun s W => True, μ := fun s W => 0, free := true }
  | 2 => { σ := Nat × Bool, sli := [10, 9], slc := fun s => [SV.v (Value.int .i64 (s.1 : Int)), SV.v (Value.bool s.2)], bxi := [], bxc := fun s => [], inv := fun s W => True, μ := fun s W => 0, free := true }
  | _ => { σ := Unit, sli := [], slc := fun _ => [], bxi := [], bxc := fun _ => [], inv := fun _ _ => False, μ := fun _ _ => 0 }
abbrev spec_l04Hull_k0 (s28 : Nat × Bool) (w29 : World) (J30 : (Nat × Bool) → World → Prop) (m31 : (Nat × Bool) → World → Nat) (x39 : Int) (w44 : World) : Prop :=
  I64 (x39 + 1) ∧ ∃ s45 : (Nat × Bool), (Value.int .i64 (x39 + 1)) = (Value.int .i64 (s45.1 : Int)) ∧ (Value.bool true) = (Value.bool s45.2) ∧ (J30 s45 w44) ∧ (m31 s45 w44) < (m31 s28 w29)
abbrev spec_l04Hull_k1 (x23 : Int) (s28 : Nat × Bool) (w29 : World) (J30 : (Nat × Bool) → World → Prop) (m31 : (Nat × Bool) → World → Nat) (n49 : Int) (x50 : Int) (w63 : World) : Prop :=
  I64 (x50 + 1) ∧ ∃ s64 : (Nat × Bool), (Value.int .i64 (x50 + 1)) = (Value.int .i64 (s64.1 : Int)) ∧ (Value.bool (decide (n49 = x23))) = (Value.bool s64.2) ∧ (J30 s64 w63) ∧ (m31 s64 w63) < (m31 s28 w29)
abbrev spec_l04Hull_k2 (v : Value) (x11 : Int) (x23 : Int) (s28 : Nat × Bool) (w29 : World) (J30 : (Nat × Bool) → World → Prop) (m31 : (Nat × Bool) → World → Nat) (x33 : Bool) (x34 : Int) (w38 : World) : Prop :=
  ((x33 = true → (spec_l04Hull_k0 s28 w29 J30 m31 x34 w38)) ∧ (x33 = false → IxV 1 v x34 (fun ad46 => ∃ u47 : Value, LdV w38 (Value.pointer (some ad46)) u47 ∧ IxV 1 u47 x11 (fun ad48 => ∃ n49 : Int, LdV w38 (Value.pointer (some ad48)) (Value.int .i64 n49) ∧ (spec_l04Hull_k1 x23 s28 w29 J30 m31 n49 x34 w38)))))
abbrev spec_l04Hull_k3 (s18 : Nat × Value) (w19 : World) (J20 : (Nat × Value) → World → Prop) (m21 : (Nat × Value) → World → Nat) (x79 : Value) (x80 : Int) (w93 : World) : Prop :=
  I64 (x80 + 1) ∧ ∃ s94 : (Nat × Value), (Value.int .i64 (x80 + 1)) = (Value.int .i64 (s94.1 : Int)) ∧ x79 = s94.2 ∧ (J20 s94 w93) ∧ (m21 s94 w93) < (m21 s18 w19)
abbrev spec_l04Hull_k4 (s18 : Nat × Value) (w19 : World) (J20 : (Nat × Value) → World → Prop) (m21 : (Nat × Value) → World → Nat) (x65 : Value) (x66 : Int) (x67 : Bool) (w74 : World) : Prop :=
  ((x67 = true → ∀ (v75 : Value) (w76 : World), Own w74.heap.size w76 2 v75 [(Value.int .i64 x66)] → Ext w74 w76 → AppV w76 2 x65 v75 (fun v77 w78 => (spec_l04Hull_k3 s18 w19 J20 m21 v77 x66 w78))) ∧ (x67 = false → (spec_l04Hull_k3 s18 w19 J20 m21 x65 x66 w74)))
abbrev spec_l04Hull_k5 (v : Value) (x11 : Int) (s18 : Nat × Value) (w19 : World) (J20 : (Nat × Value) → World → Prop) (m21 : (Nat × Value) → World → Nat) (x22 : Value) (x23 : Int) (w26 : World) : Prop :=
  (∃ (J30 : (Nat × Bool) → World → Prop) (m31 : (Nat × Bool) → World → Nat), ((∃ s27 : (Nat × Bool), (Value.int .i64 0) = (Value.int .i64 (s27.1 : Int)) ∧ (Value.bool false) = (Value.bool s27.2) ∧ (J30 s27 w26)) ∧ ∀ (s28 : (Nat × Bool)) (w29 : World), (J30 s28 w29) → LenV v (fun n32 => ((((s28.1 : Int) < n32) → (spec_l04Hull_k2 v x11 x23 s28 w29 J30 m31 s28.2 (s28.1 : Int) w29)) ∧ (¬ ((s28.1 : Int) < n32) → (spec_l04Hull_k4 s18 w19 J20 m21 x22 x23 s28.2 w29))))))
abbrev spec_l04Hull_k6 (s6 : Nat × Value) (w7 : World) (J8 : (Nat × Value) → World → Prop) (m9 : (Nat × Value) → World → Nat) (x109 : Value) (x110 : Int) (w122 : World) : Prop :=
  I64 (x110 + 1) ∧ ∃ s123 : (Nat × Value), (Value.int .i64 (x110 + 1)) = (Value.int .i64 (s123.1 : Int)) ∧ x109 = s123.2 ∧ (J8 s123 w122) ∧ (m9 s123 w122) < (m9 s6 w7)
abbrev spec_l04Hull_k7 (s6 : Nat × Value) (w7 : World) (J8 : (Nat × Value) → World → Prop) (m9 : (Nat × Value) → World → Nat) (x95 : Value) (x96 : Int) (x97 : Value) (w104 : World) : Prop :=
  oneC x97 (∀ (v105 : Value) (w106 : World), Own w104.heap.size w106 36 v105 [x97] → Ext w104 w106 → AppV w106 36 x95 v105 (fun v107 w108 => (spec_l04Hull_k6 s6 w7 J8 m9 v107 x96 w108)))
abbrev spec_l04Hull_k8 (m_Depths : Int) (v : Value) (s6 : Nat × Value) (w7 : World) (J8 : (Nat × Value) → World → Prop) (m9 : (Nat × Value) → World → Nat) (x10 : Value) (x11 : Int) (w14 : World) : Prop :=
  ∀ (v15 : Value) (w16 : World), Own w14.heap.size w16 2 v15 [] → Ext w14 w16 → (∃ (J20 : (Nat × Value) → World → Prop) (m21 : (Nat × Value) → World → Nat), ((∃ s17 : (Nat × Value), (Value.int .i64 0) = (Value.int .i64 (s17.1 : Int)) ∧ v15 = s17.2 ∧ (J20 s17 w16)) ∧ ∀ (s18 : (Nat × Value)) (w19 : World), (J20 s18 w19) → ((((s18.1 : Int) < m_Depths) → (spec_l04Hull_k5 v x11 s18 w19 J20 m21 s18.2 (s18.1 : Int) w19)) ∧ (¬ ((s18.1 : Int) < m_Depths) → (spec_l04Hull_k7 s6 w7 J8 m9 x10 x11 s18.2 w19)))))
abbrev spec_l04Hull_k9 (w : World) (Post : Value → World → Prop) (x130 : Value) (w140 : World) : Prop :=
  oneC x130 (oneC x130 (∀ w141 : World, BxS w.heap.size 28 w140 w141 → Post (Value.agg #[x130]) w141))
def spec_l04Hull_vc (m_Chambers : Int) (m_Depths : Int) (m_Step : Int) (m_Same : Int) (m_Least : Int) (v : Value) (w : World) (Post : Value → World → Prop) : Prop :=
  ∀ w1 : World, Ext w w1 → ∀ w2 : World, Ext w1 w2 → ∀ (v3 : Value) (w4 : World), Own w2.heap.size w4 36 v3 [] → Ext w2 w4 → (∃ (J8 : (Nat × Value) → World → Prop) (m9 : (Nat × Value) → World → Nat), ((∃ s5 : (Nat × Value), (Value.int .i64 0) = (Value.int .i64 (s5.1 : Int)) ∧ v3 = s5.2 ∧ (J8 s5 w4)) ∧ ∀ (s6 : (Nat × Value)) (w7 : World), (J8 s6 w7) → ((((s6.1 : Int) < m_Chambers) → (spec_l04Hull_k8 m_Depths v s6 w7 J8 m9 s6.2 (s6.1 : Int) w7)) ∧ (¬ ((s6.1 : Int) < m_Chambers) → (spec_l04Hull_k9 w Post s6.2 w7)))))
theorem spec_l04Hull_eq (m_Chambers : Int) (m_Depths : Int) (m_Step : Int) (m_Same : Int) (m_Least : Int) (v : Value) (w : World) (Post : Value → World → Prop) : denF Try.prog [] (spec_l04Hull_A m_Chambers m_Depths m_Step m_Same m_Least v w) 125 [(Value.agg #[(Value.int .i64 m_Chambers), (Value.int .i64 m_Depths), (Value.int .i64 m_Step), (Value.int .i64 m_Same), (Value.int .i64 m_Least)]), v] w Post = spec_l04Hull_vc m_Chambers m_Depths m_Step m_Same m_Least v w Post := by kernel_rfl
set_option maxRecDepth 100000 in
theorem spec_l04Hull_calls (m_Chambers : Int) (m_Depths : Int) (m_Step : Int) (m_Same : Int) (m_Least : Int) (v : Value) (w : World) (Post : Value → World → Prop) (hvc : spec_l04Hull_vc m_Chambers m_Depths m_Step m_Same m_Least v w Post) : Ret Try.prog 125 #[(Value.agg #[(Value.int .i64 m_Chambers), (Value.int .i64 m_Depths), (Value.int .i64 m_Step), (Value.int .i64 m_Same), (Value.int .i64 m_Least)]), v] w Post :=
  Ret.of (denF_sound mixed (Eq.mpr (spec_l04Hull_eq m_Chambers m_Depths m_Step m_Same m_Least v w Post) hvc))

theorem spec_l04Hull_ret (M : Mk) (hc : M.c ≤ 9) (hd : M.d ≤ 9) (v : Value) (zss : List (List Int)) (w : World) (h : RR w v zss) (hl : zss.length ≤ 1000) (hz : ∀ z ∈ zss, M.c ≤ (z.length : Int)) : Ret Try.prog 125 #[M.v, v] w fun r w' => ∃ u, r = lkV u ∧ OwnR w.heap.size w' u (hullL M zss) ∧ Ext w w' :=
  spec_l04Hull_calls M.c M.d M.s M.m M.l v w _ (by
    unfold spec_l04Hull_vc
    intro w1 h1 w2 h2 v3 w4 o4 h4
    have k2 := h1.trans h2
    have k4 := k2.trans h4
    refine ⟨fun s W => s.1 ≤ M.c.toNat ∧ Ext w W ∧ OwnR w.heap.size W s.2 (rowsOf (pH zss) M.d s.1), fun s _ => M.c.toNat - s.1, ⟨(0, v3), rfl, rfl, Nat.zero_le _, k4, OwnR.new o4 k2.size⟩, ?_⟩
    rintro ⟨i, u⟩ w7 ⟨hi, k7, o7⟩
    simp only at hi o7
    refine ⟨fun hlt => ?_, fun hge => ?_⟩
    · have hic : i < M.c.toNat := by simp only at hlt; omega
      intro v15 w16 o16 h16
      refine ⟨fun s W => s.1 ≤ M.d.toNat ∧ Ext w7 W ∧ Own w7.heap.size W 2 s.2 (ints (filt (pH zss i) s.1)), fun s _ => M.d.toNat - s.1, ⟨(0, v15), rfl, rfl, Nat.zero_le _, h16, o16⟩, ?_⟩
      rintro ⟨x, t⟩ w19 ⟨hx, h19, o19⟩
      simp only at hx o19
      have k19 := k7.trans h19
      refine ⟨fun hlt => ?_, fun hge => ?_⟩
      · have hxd : x < M.d.toNat := by simp only at hlt; omega
        refine ⟨fun s W => s.1 ≤ zss.length ∧ s.2 = pH (zss.take s.1) i x ∧ Ext w19 W, fun s _ => zss.length - s.1, ⟨(0, false), rfl, rfl, Nat.zero_le _, by simp [pH], .refl _⟩, ?_⟩
        rintro ⟨k, b⟩ w29 ⟨hk, hb, h29⟩
        simp only at hk hb
        subst hb
        have k29 := k19.trans h29
        refine (h.ext k29).len ⟨fun hlt => ?_, fun hge => ?_⟩
        · have hlt' : k < zss.length := by simp only at hlt; omega
          have hzk := hz _ (List.getElem_mem hlt')
          refine ⟨fun hy => ⟨by unfold I64; simp only; omega, (k + 1, true), rfl, rfl, ⟨hlt', ?_, h29⟩, by simp only; omega⟩, fun hn => ?_⟩
          · simp only at hy ⊢
            rw [pH_succ hlt', hy, Bool.true_or]
          · refine (h.ext k29).get k rfl hlt' fun p hp => hp.get i rfl (by omega) ⟨by unfold I64; simp only; omega, (k + 1, decide (zss[k][i]'(by omega) = (x : Int))), rfl, rfl, ⟨hlt', ?_, h29⟩, by simp only; omega⟩
            simp only at hn ⊢
            rw [pH_succ hlt', hn, Bool.false_or, getD_get]
        · have hke : k = zss.length := by simp only at hge; omega
          subst hke
          rw [List.take_of_length_le (Nat.le_refl _)]
          refine ⟨fun hy r w30 o30 h30 => ?_, fun hn => ⟨by unfold I64; simp only; omega, (x + 1, t), rfl, rfl, ⟨hxd, h19.trans h29, ?_⟩, by simp only; omega⟩⟩
          · have x30 := h29.trans h30
            have hfl := filt_len (pH zss i) x
            refine (o19.ext x30).app1 o30 rfl (by simp; omega) ((h19.trans x30).size) fun t' w31 o31 g31 _ => ⟨by unfold I64; simp only; omega, (x + 1, t'), rfl, rfl, ⟨hxd, (h19.trans x30).grown (o19.ext x30) (Nat.le_refl _) g31, ?_⟩, by simp only; omega⟩
            simp only at hy ⊢
            rw [filt_yes hy, ints_append]
            exact o31
          · simp only at hn ⊢
            rw [filt_no hn]
            exact o19.ext h29
      · have hxe : x = M.d.toNat := by simp only at hge; omega
        subst hxe
        refine o19.rd.oneC fun r2 w20 o20 h20 => ?_
        refine o7.push o19 h19 o20 h20 k7.size (by rw [rowsOf_length]; omega) fun v' w21 o21 hx21 => ⟨by unfold I64; simp only; omega, (i + 1, v'), rfl, rfl, ⟨hic, hx21 w (Nat.le_refl _) (k19.trans h20), ?_⟩, by simp only; omega⟩
        simp only
        rw [rowsOf_succ]
        exact o21
    · have hie : i = M.c.toNat := by simp only at hge; omega
      subst hie
      exact o7.rr.oneC (o7.rr.oneC fun w9 b9 => ⟨u, rfl, o7.bxs b9 (by decide) (by decide), k7.bxs b9⟩))
end Go.Proofs
