/- The thickened lock: contracts. No condition. -/
import Derived.Test.YtccekkkiaebnmaaL04e
import Derived.Test.YtccekkkiaebnmaaL05b
set_option linter.unusedVariables false
namespace Go.Proofs
open Go.Sx Go.RowKit
/-- the first element, full -/
theorem Rd.slFull {w : World} {v : Value} {xs : List Value} (h : Rd w v xs) (h0 : 0 < xs.length) {K : Value → Prop} (hK : ∀ u a, u = .slice (some a) (xs.take 1).length (xs.take 1).length → Rd w u (xs.take 1) → K u) : SlV 1 v none (some 1) (some 1) K := by
  obtain ⟨a, c, rfl, h1, h2, h3⟩ := h
  obtain ⟨ad, rfl, hc⟩ := h3 h0
  have hl : (xs.take 1).length = 1 := by rw [List.length_take]; omega
  refine ⟨some ad, _, c, rfl, by simp, by simp, by simp, by simp; omega, by simp, ?_⟩
  refine hK _ (ad.add 0) (by rw [hl]; simp) ⟨some (ad.add 0), 1, by rw [hl]; simp, by rw [hl]; omega, by omega, fun _ => ⟨_, rfl, fun j u hu => ?_⟩⟩
  rw [add_of_add, Nat.zero_add]
  refine hc j u ?_
  rw [List.getElem?_take] at hu
  split at hu
  · exact hu
  · cases hu
/-- what is kept of a set after k further depths -/
def thick (n : Int) (z : List Int) : Nat → List Int
  | 0 => [z.getD 0 0]
  | k + 1 => if n ≤ z.getD (k + 1) 0 - (thick n z k).getD ((thick n z k).length - 1) 0 then thick n z k ++ [z.getD (k + 1) 0] else thick n z k
theorem take_one {n : Int} {z : List Int} (h : 0 < z.length) : (ints z).take 1 = ints (thick n z 0) := by
  cases z with
  | nil => simp at h
  | cons x r => simp [ints, thick]
theorem thick_len (n : Int) (z : List Int) : ∀ k, 1 ≤ (thick n z k).length ∧ (thick n z k).length ≤ k + 1
  | 0 => by simp [thick]
  | k + 1 => by
    have ih := thick_len n z k
    unfold thick
    split
    · rw [List.length_append]; simp only [List.length_singleton]; omega
    · omega
theorem thick_mem {n : Int} {z : List Int} (hz : ∀ x ∈ z, 0 ≤ x ∧ x ≤ 7) : ∀ k, k < z.length → ∀ x ∈ thick n z k, 0 ≤ x ∧ x ≤ 7
  | 0, hk, x, hx => by
    simp only [thick, List.mem_singleton] at hx
    rw [hx, getD_get hk]
    exact hz _ (List.getElem_mem hk)
  | k + 1, hk, x, hx => by
    unfold thick at hx
    split at hx
    · rcases List.mem_append.1 hx with hx | hx
      · exact thick_mem hz k (by omega) x hx
      · simp only [List.mem_singleton] at hx
        rw [hx, getD_get hk]
        exact hz _ (List.getElem_mem hk)
    · exact thick_mem hz k (by omega) x hx
def thickS (n : Int) (z : List Int) : List Int := thick n z (z.length - 1)
def thickR (M : Mk) (zss : List (List Int)) (n : Int) : List (List Int) := if thinCode M.c M.d M.s M.m M.l zss n = 0 then zss.map (thickS n) else []
theorem thickR_total (M : Mk) (zss : List (List Int)) (n : Int) : total (thickR M zss n) ≤ 1000000 := by
  unfold thickR
  split
  · rename_i h
    obtain ⟨_, h1, h2⟩ := lk_small (thinCode_zero h).1
    have := total_max (zss := zss.map (thickS n)) (n := 101) fun z hz => by
      obtain ⟨x, hx, rfl⟩ := List.mem_map.1 hz
      have := (h2 x hx).2.1
      have := (thick_len n x (x.length - 1)).2
      unfold thickS
      omega
    rw [List.length_map] at this
    omega
  · simp [total]
theorem thickM_succ {n : Int} {zss : List (List Int)} {i : Nat} (hi : i < zss.length) : (zss.take (i + 1)).map (thickS n) = (zss.take i).map (thickS n) ++ [thick n zss[i] (zss[i].length - 1)] := by
  rw [take_snoc zss i hi, List.map_append]
  rfl
def spec_ThickenLock_A (m_Chambers : Int) (m_Depths : Int) (m_Step : Int) (m_Same : Int) (m_Least : Int) (l_Sets : Value) (n : Int) (w : World) : Nat → Ann := fun κ => match κ with
  | 0 => { σ := Nat × Value, sli := [10, 9], slc := fun s => [SV.v (Value.int .i64 (s.1 : Int)), SV.v s.2], bxi := [], bxc := fun s => [], inv := fun s W => True, μ := fun s W => 0, free := true }
  | 1 => { σ := Nat × Value, sli := [12, 11], slc := fun s => [SV.v (Value.int .i64 (s.1 : Int)), SV.v s.2], bxi := [], bxc := fun s => [], inv := fun s W => True, μ := fun s W => 0, free := true }
  | _ => { σ := Unit, sli := [], slc := fun _ => [], bxi := [], bxc := fun _ => [], inv := fun _ _ => False, μ := fun _ _ => 0 }
abbrev spec_ThickenLock_k0 (s54 : Nat × Value) (w55 : World) (J56 : (Nat × Value) → World → Prop) (m57 : (Nat × Value) → World → Nat) (x86 : Value) (x87 : Int) (w119 : World) : Prop :=
  I64 (x87 + 1) ∧ ∃ s120 : (Nat × Value), (Value.int .i64 (x87 + 1)) = (Value.int .i64 (s120.1 : Int)) ∧ x86 = s120.2 ∧ (J56 s120 w119) ∧ (m57 s120 w119) < (m57 s54 w55)
abbrev spec_ThickenLock_k1 (x14 : Int) (x31 : Value) (x42 : Int) (s54 : Nat × Value) (w55 : World) (J56 : (Nat × Value) → World → Prop) (m57 : (Nat × Value) → World → Nat) (x61 : Value) (x62 : Int) (w69 : World) : Prop :=
  IxV 1 x31 x42 (fun ad70 => ∃ u71 : Value, LdV w69 (Value.pointer (some ad70)) u71 ∧ IxV 1 u71 x62 (fun ad72 => ∃ n73 : Int, LdV w69 (Value.pointer (some ad72)) (Value.int .i64 n73) ∧ LenV x61 (fun n74 => I64 (n74 - 1) ∧ IxV 1 x61 (n74 - 1) (fun ad75 => ∃ n76 : Int, LdV w69 (Value.pointer (some ad75)) (Value.int .i64 n76) ∧ I64 (n73 - n76) ∧ ∀ w77 : World, Ext w69 w77 → (((x14 ≤ (n73 - n76)) → IxV 1 x31 x42 (fun ad78 => ∃ u79 : Value, LdV w77 (Value.pointer (some ad78)) u79 ∧ IxV 1 u79 x62 (fun ad80 => ∃ n81 : Int, LdV w77 (Value.pointer (some ad80)) (Value.int .i64 n81) ∧ ∀ (v82 : Value) (w83 : World), Own w77.heap.size w83 2 v82 [(Value.int .i64 n81)] → Ext w77 w83 → AppV w83 2 x61 v82 (fun v84 w85 => (spec_ThickenLock_k0 s54 w55 J56 m57 v84 x62 w85))))) ∧ (¬ (x14 ≤ (n73 - n76)) → (spec_ThickenLock_k0 s54 w55 J56 m57 x61 x62 w77)))))))
abbrev spec_ThickenLock_k2 (s36 : Nat × Value) (w37 : World) (J38 : (Nat × Value) → World → Prop) (m39 : (Nat × Value) → World → Nat) (x146 : Value) (x147 : Int) (w170 : World) : Prop :=
  I64 (x147 + 1) ∧ ∃ s171 : (Nat × Value), (Value.int .i64 (x147 + 1)) = (Value.int .i64 (s171.1 : Int)) ∧ x146 = s171.2 ∧ (J38 s171 w170) ∧ (m39 s171 w170) < (m39 s36 w37)
abbrev spec_ThickenLock_k3 (s36 : Nat × Value) (w37 : World) (J38 : (Nat × Value) → World → Prop) (m39 : (Nat × Value) → World → Nat) (x121 : Value) (x122 : Int) (x123 : Value) (w141 : World) : Prop :=
  oneC x123 (∀ (v142 : Value) (w143 : World), Own w141.heap.size w143 36 v142 [x123] → Ext w141 w143 → AppV w143 36 x121 v142 (fun v144 w145 => (spec_ThickenLock_k2 s36 w37 J38 m39 v144 x122 w145)))
abbrev spec_ThickenLock_k4 (x14 : Int) (x31 : Value) (s36 : Nat × Value) (w37 : World) (J38 : (Nat × Value) → World → Prop) (m39 : (Nat × Value) → World → Nat) (x41 : Value) (x42 : Int) (w46 : World) : Prop :=
  IxV 1 x31 x42 (fun ad47 => ∃ u48 : Value, LdV w46 (Value.pointer (some ad47)) u48 ∧ IxV 1 u48 0 (fun ad49 => ∃ n50 : Int, LdV w46 (Value.pointer (some ad49)) (Value.int .i64 n50) ∧ ∀ (v51 : Value) (w52 : World), Own w46.heap.size w52 2 v51 [(Value.int .i64 n50)] → Ext w46 w52 → (∃ (J56 : (Nat × Value) → World → Prop) (m57 : (Nat × Value) → World → Nat), ((∃ s53 : (Nat × Value), (Value.int .i64 1) = (Value.int .i64 (s53.1 : Int)) ∧ v51 = s53.2 ∧ (J56 s53 w52)) ∧ ∀ (s54 : (Nat × Value)) (w55 : World), (J56 s54 w55) → IxV 1 x31 x42 (fun ad58 => ∃ u59 : Value, LdV w55 (Value.pointer (some ad58)) u59 ∧ LenV u59 (fun n60 => ((((s54.1 : Int) < n60) → (spec_ThickenLock_k1 x14 x31 x42 s54 w55 J56 m57 s54.2 (s54.1 : Int) w55)) ∧ (¬ ((s54.1 : Int) < n60) → (spec_ThickenLock_k3 s36 w37 J38 m39 x41 x42 s54.2 w55)))))))))
abbrev spec_ThickenLock_k5 (w : World) (Post : Value → World → Prop) (x181 : Value) (w202 : World) : Prop :=
  oneC x181 (oneC x181 (∀ w203 : World, BxS w.heap.size 28 w202 w203 → Post (Value.tuple #[(Value.agg #[x181]), (Value.int .i64 0)]) w203))
abbrev spec_ThickenLock_k6 (w : World) (Post : Value → World → Prop) (x14 : Int) (x31 : Value) (w32 : World) : Prop :=
  ∀ (v33 : Value) (w34 : World), Own w32.heap.size w34 36 v33 [] → Ext w32 w34 → (∃ (J38 : (Nat × Value) → World → Prop) (m39 : (Nat × Value) → World → Nat), ((∃ s35 : (Nat × Value), (Value.int .i64 0) = (Value.int .i64 (s35.1 : Int)) ∧ v33 = s35.2 ∧ (J38 s35 w34)) ∧ ∀ (s36 : (Nat × Value)) (w37 : World), (J38 s36 w37) → LenV x31 (fun n40 => ((((s36.1 : Int) < n40) → (spec_ThickenLock_k4 x14 x31 s36 w37 J38 m39 s36.2 (s36.1 : Int) w37)) ∧ (¬ ((s36.1 : Int) < n40) → (spec_ThickenLock_k5 w Post s36.2 w37))))))
def spec_ThickenLock_vc (m_Chambers : Int) (m_Depths : Int) (m_Step : Int) (m_Same : Int) (m_Least : Int) (l_Sets : Value) (n : Int) (w : World) (Post : Value → World → Prop) : Prop :=
  ∀ w1 : World, Ext w w1 → oneC l_Sets (∀ w2 : World, Ext w1 w2 → ∀ w3 : World, Ext w2 w3 → Calls Try.prog 100 #[(Value.agg #[(Value.int .i64 m_Chambers), (Value.int .i64 m_Depths), (Value.int .i64 m_Step), (Value.int .i64 m_Same), (Value.int .i64 m_Least)]), (Value.agg #[l_Sets]), (Value.int .i64 n)] w3 (fun e4 w5 => ∃ n6 : Int, e4 = .returned (Value.int .i64 n6) ∧ Keeps w.heap.size [25, 28, 28] w3 w5 ∧ (((n6 ≠ (0 : Int)) → ∀ w7 : World, BxS w.heap.size 28 w5 w7 → Post (Value.tuple #[(Value.agg #[(Value.slice none 0 0)]), (Value.int .i64 n6)]) w7) ∧ (¬ (n6 ≠ (0 : Int)) → (spec_ThickenLock_k6 w Post n l_Sets w5)))))
theorem spec_ThickenLock_eq (m_Chambers : Int) (m_Depths : Int) (m_Step : Int) (m_Same : Int) (m_Least : Int) (l_Sets : Value) (n : Int) (w : World) (Post : Value → World → Prop) : denF Try.prog [] (spec_ThickenLock_A m_Chambers m_Depths m_Step m_Same m_Least l_Sets n w) 28 [(Value.agg #[(Value.int .i64 m_Chambers), (Value.int .i64 m_Depths), (Value.int .i64 m_Step), (Value.int .i64 m_Same), (Value.int .i64 m_Least)]), (Value.agg #[l_Sets]), (Value.int .i64 n)] w Post = spec_ThickenLock_vc m_Chambers m_Depths m_Step m_Same m_Least l_Sets n w Post := by kernel_rfl
set_option maxRecDepth 100000 in
theorem spec_ThickenLock_calls (m_Chambers : Int) (m_Depths : Int) (m_Step : Int) (m_Same : Int) (m_Least : Int) (l_Sets : Value) (n : Int) (w : World) (Post : Value → World → Prop) (hvc : spec_ThickenLock_vc m_Chambers m_Depths m_Step m_Same m_Least l_Sets n w Post) : Ret Try.prog 28 #[(Value.agg #[(Value.int .i64 m_Chambers), (Value.int .i64 m_Depths), (Value.int .i64 m_Step), (Value.int .i64 m_Same), (Value.int .i64 m_Least)]), (Value.agg #[l_Sets]), (Value.int .i64 n)] w Post :=
  Ret.of (denF_sound mixed (Eq.mpr (spec_ThickenLock_eq m_Chambers m_Depths m_Step m_Same m_Least l_Sets n w Post) hvc))

theorem spec_ThickenLock_ret (M : Mk) (v : Value) (zss : List (List Int)) (n : Int) (w : World) (h : RR w v zss) : LkR 28 #[M.v, lkV v, .int .i64 n] w (thickR M zss n) (thinCode M.c M.d M.s M.m M.l zss n) :=
  spec_ThickenLock_calls M.c M.d M.s M.m M.l v n w _ (by
    unfold spec_ThickenLock_vc
    intro w1 h1
    refine h.oneC fun w2 h2 w3 h3 => ?_
    have k3 := (h1.trans h2).trans h3
    refine (spec_l05Code_val M.c M.d M.s M.m M.l v zss n w3 (h.ext k3)).call fun w5 h5 => ⟨_, rfl, h5.keeps, fun hne w6 b6 => ?_, fun he v2 w6 o6 h6 => ?_⟩
    · unfold thickR; rw [if_neg hne]
      exact ⟨_, rfl, OwnR.nil_ _ _, (k3.trans h5).bxs b6⟩
    have he := Classical.not_not.1 he
    have k5 := k3.trans h5
    obtain ⟨hk, hn1, hn2⟩ := thinCode_zero he
    obtain ⟨p1, p2, p3⟩ := lk_small hk
    unfold thickR
    rw [if_pos he, he]
    refine ⟨fun s W => s.1 ≤ zss.length ∧ Ext w W ∧ OwnR w.heap.size W s.2 ((zss.take s.1).map (thickS n)), fun s _ => zss.length - s.1, ⟨(0, v2), rfl, rfl, Nat.zero_le _, k5.trans h6, OwnR.new o6 k5.size⟩, ?_⟩
    rintro ⟨i, u⟩ w8 ⟨hi, k8, o8⟩
    simp only at hi o8
    refine (h.ext k8).len ⟨fun hlt => ?_, fun hge => ?_⟩
    · have hlt' : i < zss.length := by simp only at hlt; omega
      obtain ⟨q1, q2, q3⟩ := p3 _ (List.getElem_mem hlt')
      refine (h.ext k8).get i rfl hlt' fun p hp => hp.get 0 rfl q1 fun t w10 o10 h10 => ?_
      refine ⟨fun s W => 1 ≤ s.1 ∧ s.1 ≤ zss[i].length ∧ Ext w8 W ∧ Own w8.heap.size W 2 s.2 (ints (thick n zss[i] (s.1 - 1))), fun s _ => zss[i].length - s.1, ⟨(1, t), rfl, rfl, Nat.le_refl _, q1, h10, ?_⟩, ?_⟩
      · have : thick n zss[i] (1 - 1) = [zss[i][0]] := by show [zss[i].getD 0 0] = _; rw [getD_get q1]
        simp only
        rw [this]
        exact o10
      rintro ⟨k, q⟩ w11 ⟨hk1, hk2, h11, o11⟩
      simp only at hk1 hk2 o11
      obtain ⟨j, rfl⟩ : ∃ j, k = j + 1 := ⟨k - 1, by omega⟩
      rw [Nat.add_sub_cancel] at o11
      have k11 := k8.trans h11
      refine (h.ext k11).get i rfl hlt' fun p hp => hp.len ⟨fun hlk => ?_, fun hgk => ?_⟩
      · have hlk' : j + 1 < zss[i].length := by simp only at hlk; omega
        obtain ⟨l1, l2⟩ := thick_len n zss[i] j
        have hx := q3 _ (List.getElem_mem hlk')
        have hy := thick_mem (n := n) q3 j (by omega) _ (List.getElem_mem (show (thick n zss[i] j).length - 1 < (thick n zss[i] j).length by omega))
        refine (h.ext k11).get i rfl hlt' fun p hp => hp.get (j + 1) rfl hlk' ((RI.len o11.rd) ⟨by unfold I64; omega, RI.get o11.rd ((thick n zss[i] j).length - 1) (by omega) (by omega) ⟨by unfold I64; omega, fun w12 h12 => ⟨fun hyes => ?_, fun hno => ?_⟩⟩⟩)
        · have k12 := k11.trans h12
          refine (h.ext k12).get i rfl hlt' fun p hp => hp.get (j + 1) rfl hlk' fun r w13 o13 h13 => ?_
          have x13 := (h11.trans h12).trans h13
          have o11' := (o11.ext h12).ext h13
          refine o11'.app1 o13 rfl (by simp; omega) x13.size fun q' w14 o14 g14 _ => ⟨by unfold I64; (try simp only); omega, (j + 2, q'), rfl, rfl, ⟨by simp only; omega, hlk', x13.grown o11' (Nat.le_refl _) g14, ?_⟩, by simp only; omega⟩
          simp only
          rw [show j + 2 - 1 = j + 1 by omega]
          have e : thick n zss[i] (j + 1) = thick n zss[i] j ++ [zss[i][j + 1]] := by
            simp only [thick]
            rw [getD_get hlk', getD_get (show (thick n zss[i] j).length - 1 < (thick n zss[i] j).length by omega), if_pos hyes]
          rw [e, ints_append]
          exact o14
        · refine ⟨by unfold I64; (try simp only); omega, (j + 2, q), rfl, rfl, ⟨by simp only; omega, hlk', h11.trans h12, ?_⟩, by simp only; omega⟩
          simp only
          rw [show j + 2 - 1 = j + 1 by omega]
          have e : thick n zss[i] (j + 1) = thick n zss[i] j := by
            simp only [thick]
            rw [getD_get hlk', getD_get (show (thick n zss[i] j).length - 1 < (thick n zss[i] j).length by omega), if_neg hno]
          rw [e]
          exact o11.ext h12
      · have hje : j = zss[i].length - 1 := by simp only at hgk; omega
        subst hje
        refine o11.rd.oneC fun r2 w12 o12 h12 => ?_
        refine o8.push o11 h11 o12 h12 k8.size (by rw [List.length_map, List.length_take]; omega) fun v' w13 o13 hx13 => ⟨by unfold I64; (try simp only); omega, (i + 1, v'), rfl, rfl, ⟨hlt', hx13 w (Nat.le_refl _) (k11.trans h12), ?_⟩, by simp only; omega⟩
        simp only
        rw [thickM_succ hlt']
        exact o13
    · have hie : i = zss.length := by simp only at hge; omega
      subst hie
      rw [List.take_of_length_le (Nat.le_refl _)] at o8
      exact o8.rr.oneC (o8.rr.oneC fun w9 b9 => ⟨u, rfl, o8.bxs b9 (by decide) (by decide), k8.bxs b9⟩))
def impl_ThickenLock_A (m_Chambers : Int) (m_Depths : Int) (m_Step : Int) (m_Same : Int) (m_Least : Int) (l_Sets : Value) (n : Int) (w : World) : Nat → Ann := fun κ => match κ with
  | 0 => { σ := Nat × Value, sli := [27], slc := fun s => [SV.v (Value.int .i64 (s.1 : Int))], bxi := [3], bxc := fun s => [[s.2]], inv := fun s W => True, μ := fun s W => 0, free := true }
  | 1 => { σ := Nat × Value, sli := [36, 12], slc := fun s => [SV.v (Value.int .i64 (s.1 : Int)), SV.v s.2], bxi := [], bxc := fun s => [], inv := fun s W => True, μ := fun s W => 0, free := true }
  | _ => { σ := Unit, sli := [], slc := fun _ => [], bxi := [], bxc := fun _ => [], inv := fun _ _ => False, μ := fun _ _ => 0 }
abbrev impl_ThickenLock_k0 (s50 : Nat × Value) (w51 : World) (J52 : (Nat × Value) → World → Prop) (m53 : (Nat × Value) → World → Nat) (x66 : Value) (x68 : Int) (w84 : World) : Prop :=
  I64 (x68 + 1) ∧ ∃ s85 : (Nat × Value), (Value.int .i64 (x68 + 1)) = (Value.int .i64 (s85.1 : Int)) ∧ x66 = s85.2 ∧ (J52 s85 w84) ∧ (m53 s85 w84) < (m53 s50 w51)
abbrev impl_ThickenLock_k1 (x14 : Int) (u47 : Value) (s50 : Nat × Value) (w51 : World) (J52 : (Nat × Value) → World → Prop) (m53 : (Nat × Value) → World → Nat) (x54 : Value) (x55 : Int) (w56 : World) : Prop :=
  IxV 1 u47 x55 (fun ad57 => ∃ n58 : Int, LdV w56 (Value.pointer (some ad57)) (Value.int .i64 n58) ∧ LenV x54 (fun n59 => I64 (n59 - 1) ∧ IxV 1 x54 (n59 - 1) (fun ad60 => ∃ n61 : Int, LdV w56 (Value.pointer (some ad60)) (Value.int .i64 n61) ∧ I64 (n58 - n61) ∧ (((x14 ≤ (n58 - n61)) → ∀ (v62 : Value) (w63 : World), Own w56.heap.size w63 2 v62 [(Value.int .i64 n58)] → Ext w56 w63 → AppV w63 2 x54 v62 (fun v64 w65 => (impl_ThickenLock_k0 s50 w51 J52 m53 v64 x55 w65))) ∧ (¬ (x14 ≤ (n58 - n61)) → (impl_ThickenLock_k0 s50 w51 J52 m53 x54 x55 w56))))))
abbrev impl_ThickenLock_k2 (s37 : Nat × Value) (w38 : World) (J39 : (Nat × Value) → World → Prop) (m40 : (Nat × Value) → World → Nat) (x126 : Int) (x141 : Value) (w142 : World) : Prop :=
  I64 (x126 + 1) ∧ ∃ s143 : (Nat × Value), (Value.int .i64 (x126 + 1)) = (Value.int .i64 (s143.1 : Int)) ∧ x141 = s143.2 ∧ (J39 s143 w142) ∧ (m40 s143 w142) < (m40 s37 w38)
abbrev impl_ThickenLock_k3 (w : World) (s37 : Nat × Value) (w38 : World) (J39 : (Nat × Value) → World → Prop) (m40 : (Nat × Value) → World → Nat) (x102 : Int) (x111 : Value) (x112 : Value) (w114 : World) : Prop :=
  ∀ (v115 : Value) (w116 : World), Own w114.heap.size w116 2 v115 [] → Ext w114 w116 → AppV w116 2 v115 x112 (fun v117 w118 => oneC v117 (∀ (v119 : Value) (w120 : World), Own w118.heap.size w120 36 v119 [v117] → Ext w118 w120 → AppV w120 36 x111 v119 (fun v121 w122 => oneC v121 (∀ w123 : World, BxS w.heap.size 28 w122 w123 → (impl_ThickenLock_k2 s37 w38 J39 m40 x102 v121 w123)))))
abbrev impl_ThickenLock_k4 (w : World) (s37 : Nat × Value) (w38 : World) (J39 : (Nat × Value) → World → Prop) (m40 : (Nat × Value) → World → Nat) (x163 : Int) (x172 : Value) (x173 : Value) (x174 : Value) (w176 : World) : Prop :=
  AppV w176 2 x173 x174 (fun v177 w178 => oneC v177 (∀ (v179 : Value) (w180 : World), Own w178.heap.size w180 36 v179 [v177] → Ext w178 w180 → AppV w180 36 x172 v179 (fun v181 w182 => oneC v181 (∀ w183 : World, BxS w.heap.size 28 w182 w183 → (impl_ThickenLock_k2 s37 w38 J39 m40 x163 v181 w183)))))
abbrev impl_ThickenLock_k5 (w : World) (s37 : Nat × Value) (w38 : World) (J39 : (Nat × Value) → World → Prop) (m40 : (Nat × Value) → World → Nat) (x188 : Int) (x199 : Value) (x200 : Value) (w201 : World) : Prop :=
  oneC x199 (∀ (v202 : Value) (w203 : World), Own w201.heap.size w203 36 v202 [x199] → Ext w201 w203 → AppV w203 36 x200 v202 (fun v204 w205 => oneC v204 (∀ w206 : World, BxS w.heap.size 28 w205 w206 → (impl_ThickenLock_k2 s37 w38 J39 m40 x188 v204 w206))))
abbrev impl_ThickenLock_k6 (w : World) (s37 : Nat × Value) (w38 : World) (J39 : (Nat × Value) → World → Prop) (m40 : (Nat × Value) → World → Nat) (x148 : Int) (x157 : Value) (x158 : Value) (x159 : Value) (w160 : World) : Prop :=
  ((impl_ThickenLock_k4 w s37 w38 J39 m40 x148 x159 x157 x158 w160) ∧ (AppV w160 2 x157 x158 (fun v184 w185 => (impl_ThickenLock_k5 w s37 w38 J39 m40 x148 v184 x159 w185))))
abbrev impl_ThickenLock_k7 (w : World) (s37 : Nat × Value) (w38 : World) (J39 : (Nat × Value) → World → Prop) (m40 : (Nat × Value) → World → Nat) (x87 : Value) (x88 : Int) (x97 : Value) (w98 : World) : Prop :=
  ∀ w99 : World, Ext w98 w99 → ((impl_ThickenLock_k3 w s37 w38 J39 m40 x88 x97 x87 w99) ∧ (∀ (v144 : Value) (w145 : World), Own w99.heap.size w145 2 v144 [] → Ext w99 w145 → (impl_ThickenLock_k6 w s37 w38 J39 m40 x88 v144 x87 x97 w145)))
abbrev impl_ThickenLock_k8 (w : World) (x14 : Int) (x31 : Value) (s37 : Nat × Value) (w38 : World) (J39 : (Nat × Value) → World → Prop) (m40 : (Nat × Value) → World → Nat) (x41 : Int) (x42 : Value) (w43 : World) : Prop :=
  IxV 1 x31 x41 (fun ad44 => ∃ u45 : Value, LdV w43 (Value.pointer (some ad44)) u45 ∧ SlV 1 u45 none (some 1) (some 1) (fun u46 => SlV 1 u45 (some 1) none none (fun u47 => LenV u47 (fun n48 => (∃ (J52 : (Nat × Value) → World → Prop) (m53 : (Nat × Value) → World → Nat), ((∃ s49 : (Nat × Value), (Value.int .i64 0) = (Value.int .i64 (s49.1 : Int)) ∧ u46 = s49.2 ∧ (J52 s49 w43)) ∧ ∀ (s50 : (Nat × Value)) (w51 : World), (J52 s50 w51) → ((((s50.1 : Int) < n48) → (impl_ThickenLock_k1 x14 u47 s50 w51 J52 m53 s50.2 (s50.1 : Int) w51)) ∧ (¬ ((s50.1 : Int) < n48) → (impl_ThickenLock_k7 w s37 w38 J39 m40 s50.2 x41 x42 w51)))))))))
abbrev impl_ThickenLock_k9 (w : World) (Post : Value → World → Prop) (x234 : Value) (w235 : World) : Prop :=
  oneC x234 (∀ w236 : World, BxS w.heap.size 28 w235 w236 → Post (Value.tuple #[(Value.agg #[x234]), (Value.int .i64 0)]) w236)
abbrev impl_ThickenLock_k10 (w : World) (Post : Value → World → Prop) (x14 : Int) (x31 : Value) (w32 : World) : Prop :=
  ∀ w33 : World, Ext w32 w33 → ∀ w34 : World, BxS w.heap.size 28 w33 w34 → LenV x31 (fun n35 => (∃ (J39 : (Nat × Value) → World → Prop) (m40 : (Nat × Value) → World → Nat), ((∃ s36 : (Nat × Value), (Value.int .i64 0) = (Value.int .i64 (s36.1 : Int)) ∧ (Value.slice none 0 0) = s36.2 ∧ (J39 s36 w34)) ∧ ∀ (s37 : (Nat × Value)) (w38 : World), (J39 s37 w38) → ((((s37.1 : Int) < n35) → (impl_ThickenLock_k8 w x14 x31 s37 w38 J39 m40 (s37.1 : Int) s37.2 w38)) ∧ (¬ ((s37.1 : Int) < n35) → (impl_ThickenLock_k9 w Post s37.2 w38))))))
def impl_ThickenLock_vc (m_Chambers : Int) (m_Depths : Int) (m_Step : Int) (m_Same : Int) (m_Least : Int) (l_Sets : Value) (n : Int) (w : World) (Post : Value → World → Prop) : Prop :=
  ∀ w1 : World, Ext w w1 → oneC l_Sets (∀ w2 : World, Ext w1 w2 → ∀ w3 : World, Ext w2 w3 → Calls Try.prog 99 #[(Value.agg #[(Value.int .i64 m_Chambers), (Value.int .i64 m_Depths), (Value.int .i64 m_Step), (Value.int .i64 m_Same), (Value.int .i64 m_Least)]), (Value.agg #[l_Sets]), (Value.int .i64 n)] w3 (fun e4 w5 => ∃ n6 : Int, e4 = .returned (Value.int .i64 n6) ∧ Keeps w.heap.size [25, 28, 28] w3 w5 ∧ (((n6 ≠ (0 : Int)) → ∀ w7 : World, BxS w.heap.size 28 w5 w7 → Post (Value.tuple #[(Value.agg #[(Value.slice none 0 0)]), (Value.int .i64 n6)]) w7) ∧ (¬ (n6 ≠ (0 : Int)) → (impl_ThickenLock_k10 w Post n l_Sets w5)))))
theorem impl_ThickenLock_eq (m_Chambers : Int) (m_Depths : Int) (m_Step : Int) (m_Same : Int) (m_Least : Int) (l_Sets : Value) (n : Int) (w : World) (Post : Value → World → Prop) : denF Try.prog [9400000, 9700000, 9800000] (impl_ThickenLock_A m_Chambers m_Depths m_Step m_Same m_Least l_Sets n w) 27 [(Value.agg #[(Value.int .i64 m_Chambers), (Value.int .i64 m_Depths), (Value.int .i64 m_Step), (Value.int .i64 m_Same), (Value.int .i64 m_Least)]), (Value.agg #[l_Sets]), (Value.int .i64 n)] w Post = impl_ThickenLock_vc m_Chambers m_Depths m_Step m_Same m_Least l_Sets n w Post := by kernel_rfl
set_option maxRecDepth 100000 in
theorem impl_ThickenLock_calls (m_Chambers : Int) (m_Depths : Int) (m_Step : Int) (m_Same : Int) (m_Least : Int) (l_Sets : Value) (n : Int) (w : World) (Post : Value → World → Prop) (hvc : impl_ThickenLock_vc m_Chambers m_Depths m_Step m_Same m_Least l_Sets n w Post) : Ret Try.prog 27 #[(Value.agg #[(Value.int .i64 m_Chambers), (Value.int .i64 m_Depths), (Value.int .i64 m_Step), (Value.int .i64 m_Same), (Value.int .i64 m_Least)]), (Value.agg #[l_Sets]), (Value.int .i64 n)] w Post :=
  Ret.of (denF_sound mixed (Eq.mpr (impl_ThickenLock_eq m_Chambers m_Depths m_Step m_Same m_Least l_Sets n w Post) hvc))

theorem impl_ThickenLock_ret (M : Mk) (v : Value) (zss : List (List Int)) (n : Int) (w : World) (h : RR w v zss) : LkR 27 #[M.v, lkV v, .int .i64 n] w (thickR M zss n) (thinCode M.c M.d M.s M.m M.l zss n) :=
  impl_ThickenLock_calls M.c M.d M.s M.m M.l v n w _ (by
    unfold impl_ThickenLock_vc
    intro w1 h1
    refine h.oneC fun w2 h2 w3 h3 => ?_
    have k3 := (h1.trans h2).trans h3
    refine (impl_thinCode_val M.c M.d M.s M.m M.l v zss n w3 (h.ext k3)).call fun w5 h5 => ⟨_, rfl, h5.keeps, fun hne w6 b6 => ?_, fun he w6 h6 w7 b7 => ?_⟩
    · unfold thickR; rw [if_neg hne]
      exact ⟨_, rfl, OwnR.nil_ _ _, (k3.trans h5).bxs b6⟩
    have he := Classical.not_not.1 he
    have k7 := ((k3.trans h5).trans h6).bxs b7
    obtain ⟨hk, hn1, hn2⟩ := thinCode_zero he
    obtain ⟨p1, p2, p3⟩ := lk_small hk
    unfold thickR
    rw [if_pos he, he]
    refine (h.ext k7).len ⟨fun s W => s.1 ≤ zss.length ∧ Ext w W ∧ OwnR w.heap.size W s.2 ((zss.take s.1).map (thickS n)), fun s _ => zss.length - s.1, ⟨(0, .slice none 0 0), rfl, rfl, Nat.zero_le _, k7, OwnR.nil_ _ _⟩, ?_⟩
    rintro ⟨i, u⟩ w8 ⟨hi, k8, o8⟩
    simp only at hi o8
    refine ⟨fun hlt => ?_, fun hge => ?_⟩
    · have hlt' : i < zss.length := by simp only at hlt; omega
      obtain ⟨q1, q2, q3⟩ := p3 _ (List.getElem_mem hlt')
      refine (h.ext k8).get i rfl hlt' fun p hp => Rd.slFull hp (by rw [ints_length]; exact q1) fun y a hy ry => RI.sl hp 1 zss[i].length rfl (by simp) q1 (Nat.le_refl _) fun z rz => ?_
      have hyl : ((zss[i].take zss[i].length).drop 1).length = zss[i].length - 1 := by simp
      refine rz.len ?_
      rw [hyl]
      have e0 := take_one (n := n) q1
      rw [e0] at ry hy
      refine ⟨fun s W => s.1 ≤ zss[i].length - 1 ∧ Ext w8 W ∧ RI W s.2 (thick n zss[i] s.1) ∧ (Own w8.heap.size W 2 s.2 (ints (thick n zss[i] s.1)) ∨ ∃ a, s.2 = .slice (some a) (ints (thick n zss[i] s.1)).length (ints (thick n zss[i] s.1)).length), fun s _ => zss[i].length - 1 - s.1, ⟨(0, y), rfl, rfl, Nat.zero_le _, .refl _, ry, .inr ⟨a, hy⟩⟩, ?_⟩
      rintro ⟨k, q⟩ w11 ⟨hk, h11, r11, c11⟩
      simp only at hk r11 c11
      refine ⟨fun hlk => ?_, fun hgk => ?_⟩
      · have hlk' : k + 1 < zss[i].length := by simp only at hlk; omega
        obtain ⟨l1, l2⟩ := thick_len n zss[i] k
        have hx := q3 _ (List.getElem_mem hlk')
        have hy := thick_mem (n := n) q3 k (by omega) _ (List.getElem_mem (show (thick n zss[i] k).length - 1 < (thick n zss[i] k).length by omega))
        have next : ∀ (q' : Value) (W : World), Ext w8 W → Own w8.heap.size W 2 q' (ints (thick n zss[i] (k + 1))) → I64 ((k : Int) + 1) ∧ ∃ s' : Nat × Value, Value.int .i64 ((k : Int) + 1) = Value.int .i64 (s'.1 : Int) ∧ q' = s'.2 ∧ (s'.1 ≤ zss[i].length - 1 ∧ Ext w8 W ∧ RI W s'.2 (thick n zss[i] s'.1) ∧ (Own w8.heap.size W 2 s'.2 (ints (thick n zss[i] s'.1)) ∨ ∃ a, s'.2 = .slice (some a) (ints (thick n zss[i] s'.1)).length (ints (thick n zss[i] s'.1)).length)) ∧ zss[i].length - 1 - s'.1 < zss[i].length - 1 - k :=
          fun q' W hW hO => ⟨by unfold I64; omega, (k + 1, q'), rfl, rfl, ⟨by simp only; omega, hW, hO.rd, .inl hO⟩, by simp only; omega⟩
        refine (RI.ext rz h11).get k rfl (by rw [hyl]; omega) ?_
        have e1 : ((zss[i].take zss[i].length).drop 1)[k]'(by rw [hyl]; omega) = zss[i][k + 1] := by simp
        rw [e1]
        refine RI.len r11 ⟨by unfold I64; omega, RI.get r11 ((thick n zss[i] k).length - 1) (by omega) (by omega) ⟨by unfold I64; omega, fun hyes r w12 o12 h12 => ?_, fun hno => ?_⟩⟩
        · have x12 := h11.trans h12
          have e : thick n zss[i] (k + 1) = thick n zss[i] k ++ [zss[i][k + 1]] := by
            simp only [thick]
            rw [getD_get hlk', getD_get (show (thick n zss[i] k).length - 1 < (thick n zss[i] k).length by omega), if_pos hyes]
          rw [e, ints_append] at next
          rcases c11 with o11 | ⟨a, hq⟩
          · exact (o11.ext h12).app1 o12 rfl (by simp; omega) x12.size fun q' w13 o13 g13 _ => next q' w13 (x12.grown (o11.ext h12) (Nat.le_refl _) g13) o13
          · exact Rd.appF (RI.ext r11 h12) hq o12 (by simp; omega) fun q' w13 o13 g13 => next q' w13 (x12.grownNone g13) (o13.mono x12.size)
        · have e : thick n zss[i] (k + 1) = thick n zss[i] k := by
            simp only [thick]
            rw [getD_get hlk', getD_get (show (thick n zss[i] k).length - 1 < (thick n zss[i] k).length by omega), if_neg hno]
          refine ⟨by unfold I64; (try simp only); omega, (k + 1, q), rfl, rfl, ⟨by simp only; omega, h11, ?_, ?_⟩, by simp only; omega⟩
          · simp only; rw [e]; exact r11
          · simp only; rw [e]; exact c11
      · have hke : k = zss[i].length - 1 := by simp only at hgk; omega
        subst hke
        have l2 := (thick_len n zss[i] (zss[i].length - 1)).2
        have fin : ∀ (r : Value) (W : World), Ext w8 W → Own w8.heap.size W 2 r (ints (thick n zss[i] (zss[i].length - 1))) → impl_ThickenLock_k5 w (i, u) w8 (fun s W => s.1 ≤ zss.length ∧ Ext w W ∧ OwnR w.heap.size W s.2 ((zss.take s.1).map (thickS n))) (fun s _ => zss.length - s.1) i r u W := by
          intro r W hW hO
          refine hO.rd.oneC fun r2 w12 o12 h12 => ?_
          refine o8.push hO hW o12 h12 k8.size (by rw [List.length_map, List.length_take]; omega) fun v' w13 o13 hx13 => o13.rr.oneC fun w14 b14 => ⟨by unfold I64; (try simp only); omega, (i + 1, v'), rfl, rfl, ⟨hlt', (hx13 w (Nat.le_refl _) ((k8.trans hW).trans h12)).bxs b14, ?_⟩, by simp only; omega⟩
          simp only
          rw [thickM_succ hlt']
          exact o13.bxs b14 (by decide) (by decide)
        have app : ∀ (r0 : Value) (W0 W : World), Ext w8 W0 → Ext w11 W → Ext w8 W → Own W0.heap.size W 2 r0 [] → AppV W 2 r0 q fun r w' => impl_ThickenLock_k5 w (i, u) w8 (fun s W => s.1 ≤ zss.length ∧ Ext w W ∧ OwnR w.heap.size W s.2 ((zss.take s.1).map (thickS n))) (fun s _ => zss.length - s.1) i r u w' := by
          intro r0 W0 W hW0 h11W hW hO
          have hO' := hO.mono hW0.size
          refine hO'.app (RI.ext r11 h11W) (fun x hx => by obtain ⟨_, _, rfl⟩ := List.mem_map.1 hx; rfl) (by simp; omega) hW.size fun r w' o' g' _ => fin r w' (hW.grown hO' (Nat.le_refl _) g') ?_
          simpa using o'
        intro w12 h12
        have x12 := h11.trans h12
        exact ⟨fun r0 w13 o13 h13 => app r0 w12 w13 x12 (h12.trans h13) (x12.trans h13) o13, fun r0 w13 o13 h13 => ⟨app r0 w12 w13 x12 (h12.trans h13) (x12.trans h13) o13, app r0 w12 w13 x12 (h12.trans h13) (x12.trans h13) o13⟩⟩
    · have hie : i = zss.length := by simp only at hge; omega
      subst hie
      rw [List.take_of_length_le (Nat.le_refl _)] at o8
      exact o8.rr.oneC fun w9 b9 => ⟨u, rfl, o8.bxs b9 (by decide) (by decide), k8.bxs b9⟩)
end Go.Proofs
