/- Contracts: the rank of a key. No condition. -/
import Derived.Test.YtccekkkiaebnmaaL03c
set_option linter.unusedVariables false
namespace Go.Proofs
open Go.Sx Go.RowKit
def rankOf (M : Mk) (ks : List Int) : Int := (((keys M).filter fun k => llt k ks).length : Int)
def rankR (M : Mk) (ks : List Int) : Value := if kCode M [ks] = 0 then .tuple #[.int .i64 (rankOf M ks), .int .i64 0] else .tuple #[.int .i64 0, .int .i64 (kCode M [ks])]
theorem rankR_pair (M : Mk) (ks : List Int) : ∃ x y, rankR M ks = .tuple #[.int .i64 x, .int .i64 y] := by unfold rankR; split <;> exact ⟨_, _, rfl⟩
def spec_l03Rank_A (m_Chambers : Int) (m_Depths : Int) (m_Step : Int) (m_Same : Int) (m_Least : Int) (v : Value) (w : World) : Nat → Ann := fun κ => match κ with
  | 0 => { σ := Nat × Int, sli := [6, 5], slc := fun s => [SV.v (Value.int .i64 (s.1 : Int)), SV.v (Value.int .i64 s.2)], bxi := [], bxc := fun s => [], inv := fun s W => True, μ := fun s W => 0, free := true }
  | 1 => { σ := Int × Int, sli := [7, 5], slc := fun s => [SV.v (Value.int .i64 s.1), SV.v (Value.int .i64 s.2)], bxi := [], bxc := fun s => [], inv := fun s W => True, μ := fun s W => 0, free := true }
  | _ => { σ := Unit, sli := [], slc := fun _ => [], bxi := [], bxc := fun _ => [], inv := fun _ _ => False, μ := fun _ _ => 0 }
abbrev spec_l03Rank_k0 (w : World) (s15 : Int × Int) (w16 : World) (J17 : (Int × Int) → World → Prop) (m18 : (Int × Int) → World → Nat) (w29 : World) (x35 : Int) (x41 : Int) (x42 : Int) (x43 : Int) (x44 : Int) (x45 : Int) (x46 : Int) (x50 : Value) (x51 : Int) (w52 : World) : Prop :=
  ∀ (v53 : Value) (w54 : World), Own w52.heap.size w54 2 v53 [(Value.int .i64 x51)] → Ext w52 w54 → AppV w54 2 x50 v53 (fun v55 w56 => Ext w29 w56 ∧ Calls Try.prog 91 #[(Value.agg #[(Value.int .i64 x42), (Value.int .i64 x43), (Value.int .i64 x44), (Value.int .i64 x45), (Value.int .i64 x46)]), v55] w56 (fun e57 w58 => ∃ n59 : Int, e57 = .returned (Value.int .i64 n59) ∧ Keeps w.heap.size [25] w56 w58 ∧ Ext w29 w58 ∧ I64 (x41 + n59) ∧ I64 (x35 + 1) ∧ ∃ s60 : (Int × Int), (Value.int .i64 (x35 + 1)) = (Value.int .i64 s60.1) ∧ (Value.int .i64 (x41 + n59)) = (Value.int .i64 s60.2) ∧ (J17 s60 w58) ∧ (m18 s60 w58) < (m18 s15 w16)))
abbrev spec_l03Rank_k1 (w : World) (s15 : Int × Int) (w16 : World) (J17 : (Int × Int) → World → Prop) (m18 : (Int × Int) → World → Nat) (w29 : World) (x64 : Int) (x70 : Int) (x71 : Int) (x72 : Int) (x73 : Int) (x74 : Int) (x75 : Int) (x78 : Value) (x80 : Value) (w81 : World) : Prop :=
  Calls Try.prog 95 #[x78] w81 (fun e82 w83 => ∃ u84 : Value, e82 = .returned u84 ∧ Keeps w.heap.size [25] w81 w83 ∧ Ext w29 w83 ∧ AppV w83 2 u84 x80 (fun v85 w86 => Ext w29 w86 ∧ Calls Try.prog 91 #[(Value.agg #[(Value.int .i64 x71), (Value.int .i64 x72), (Value.int .i64 x73), (Value.int .i64 x74), (Value.int .i64 x75)]), v85] w86 (fun e87 w88 => ∃ n89 : Int, e87 = .returned (Value.int .i64 n89) ∧ Keeps w.heap.size [25] w86 w88 ∧ Ext w29 w88 ∧ I64 (x70 + n89) ∧ I64 (x64 + 1) ∧ ∃ s90 : (Int × Int), (Value.int .i64 (x64 + 1)) = (Value.int .i64 s90.1) ∧ (Value.int .i64 (x70 + n89)) = (Value.int .i64 s90.2) ∧ (J17 s90 w88) ∧ (m18 s90 w88) < (m18 s15 w16))))
abbrev spec_l03Rank_k2 (m_Chambers : Int) (m_Depths : Int) (m_Step : Int) (m_Same : Int) (m_Least : Int) (v : Value) (w : World) (x9 : Int) (s15 : Int × Int) (w16 : World) (J17 : (Int × Int) → World → Prop) (m18 : (Int × Int) → World → Nat) (x21 : Int) (x22 : Int) (w28 : World) : Prop :=
  ∀ w29 : World, Ext w28 w29 → SlV 1 v none (some x9) none (fun u30 => ((Calls Try.prog 95 #[u30] w29 (fun e31 w32 => ∃ u33 : Value, e31 = .returned u33 ∧ Keeps w.heap.size [25] w29 w32 ∧ Ext w29 w32 ∧ (spec_l03Rank_k0 w s15 w16 J17 m18 w29 x22 x21 m_Chambers m_Depths m_Step m_Same m_Least u33 x22 w32))) ∧ (∀ (v61 : Value) (w62 : World), Own w29.heap.size w62 2 v61 [(Value.int .i64 x22)] → Ext w29 w62 → (spec_l03Rank_k1 w s15 w16 J17 m18 w29 x22 x21 m_Chambers m_Depths m_Step m_Same m_Least u30 v61 w62))))
abbrev spec_l03Rank_k3 (s3 : Nat × Int) (w4 : World) (J5 : (Nat × Int) → World → Prop) (m6 : (Nat × Int) → World → Nat) (x91 : Int) (x92 : Int) (w102 : World) : Prop :=
  I64 (x92 + 1) ∧ ∃ s103 : (Nat × Int), (Value.int .i64 (x92 + 1)) = (Value.int .i64 (s103.1 : Int)) ∧ (Value.int .i64 x91) = (Value.int .i64 s103.2) ∧ (J5 s103 w102) ∧ (m6 s103 w102) < (m6 s3 w4)
abbrev spec_l03Rank_k4 (m_Chambers : Int) (m_Depths : Int) (m_Step : Int) (m_Same : Int) (m_Least : Int) (v : Value) (w : World) (s3 : Nat × Int) (w4 : World) (J5 : (Nat × Int) → World → Prop) (m6 : (Nat × Int) → World → Nat) (x8 : Int) (x9 : Int) (w13 : World) : Prop :=
  (∃ (J17 : (Int × Int) → World → Prop) (m18 : (Int × Int) → World → Nat), ((∃ s14 : (Int × Int), (Value.int .i64 0) = (Value.int .i64 s14.1) ∧ (Value.int .i64 x8) = (Value.int .i64 s14.2) ∧ (J17 s14 w13)) ∧ ∀ (s15 : (Int × Int)) (w16 : World), (J17 s15 w16) → IxV 1 v x9 (fun ad19 => ∃ n20 : Int, LdV w16 (Value.pointer (some ad19)) (Value.int .i64 n20) ∧ (((s15.1 < n20) → (spec_l03Rank_k2 m_Chambers m_Depths m_Step m_Same m_Least v w x9 s15 w16 J17 m18 s15.2 s15.1 w16)) ∧ (¬ (s15.1 < n20) → (spec_l03Rank_k3 s3 w4 J5 m6 s15.2 x9 w16))))))
def spec_l03Rank_vc (m_Chambers : Int) (m_Depths : Int) (m_Step : Int) (m_Same : Int) (m_Least : Int) (v : Value) (w : World) (Post : Value → World → Prop) : Prop :=
  ∀ w1 : World, Ext w w1 → (∃ (J5 : (Nat × Int) → World → Prop) (m6 : (Nat × Int) → World → Nat), ((∃ s2 : (Nat × Int), (Value.int .i64 0) = (Value.int .i64 (s2.1 : Int)) ∧ (Value.int .i64 0) = (Value.int .i64 s2.2) ∧ (J5 s2 w1)) ∧ ∀ (s3 : (Nat × Int)) (w4 : World), (J5 s3 w4) → LenV v (fun n7 => ((((s3.1 : Int) < n7) → (spec_l03Rank_k4 m_Chambers m_Depths m_Step m_Same m_Least v w s3 w4 J5 m6 s3.2 (s3.1 : Int) w4)) ∧ (¬ ((s3.1 : Int) < n7) → Post (Value.int .i64 s3.2) w4)))))
theorem spec_l03Rank_eq (m_Chambers : Int) (m_Depths : Int) (m_Step : Int) (m_Same : Int) (m_Least : Int) (v : Value) (w : World) (Post : Value → World → Prop) : denF Try.prog [1000095, 9000001] (spec_l03Rank_A m_Chambers m_Depths m_Step m_Same m_Least v w) 90 [(Value.agg #[(Value.int .i64 m_Chambers), (Value.int .i64 m_Depths), (Value.int .i64 m_Step), (Value.int .i64 m_Same), (Value.int .i64 m_Least)]), v] w Post = spec_l03Rank_vc m_Chambers m_Depths m_Step m_Same m_Least v w Post := by kernel_rfl
set_option maxRecDepth 100000 in
theorem spec_l03Rank_calls (m_Chambers : Int) (m_Depths : Int) (m_Step : Int) (m_Same : Int) (m_Least : Int) (v : Value) (w : World) (Post : Value → World → Prop) (hvc : spec_l03Rank_vc m_Chambers m_Depths m_Step m_Same m_Least v w Post) : Ret Try.prog 90 #[(Value.agg #[(Value.int .i64 m_Chambers), (Value.int .i64 m_Depths), (Value.int .i64 m_Step), (Value.int .i64 m_Same), (Value.int .i64 m_Least)]), v] w Post :=
  Ret.of (denF_sound mixed (Eq.mpr (spec_l03Rank_eq m_Chambers m_Depths m_Step m_Same m_Least v w Post) hvc))

theorem spec_l03Rank_val {M : Mk} (hM : M.Ok) (v : Value) (zs : List Int) (w : World) (hl : (zs.length : Int) = M.c) (hc : CutsOk M.d zs) (hv : RI w v zs) : Val Try.prog 90 #[mkV M.c M.d M.s M.m M.l, v] w (.int .i64 (rankOf M zs)) :=
  Ret.val (spec_l03Rank_calls M.c M.d M.s M.m M.l v w _ (by
    unfold spec_l03Rank_vc
    have hmax := keys_max hM
    have hM' := hM
    obtain ⟨hm1, hm2, hm3, hm4, hm5⟩ := hM'
    have hb0 : ((below M zs 0).length : Int) = rankOf M zs := by rw [below_zero M zs hl]; rfl
    have hb1 : (below M zs 0).length ≤ 262144 := by
      rw [below_zero M zs hl]
      exact Nat.le_trans (List.length_filter_le _ _) hmax
    intro w1 h1
    refine ⟨fun s W => s.1 ≤ zs.length ∧ 0 ≤ s.2 ∧ s.2 + ((below M zs s.1).length : Int) = ((below M zs 0).length : Int) ∧ Ext w W, fun s _ => zs.length - s.1, ⟨(0, 0), rfl, rfl, Nat.zero_le _, Int.le_refl _, by simp only; omega, h1⟩, ?_⟩
    rintro ⟨k, n⟩ w2 ⟨hk, hn0, hn, k2⟩
    simp only at hk hn0 hn
    refine (hv.ext k2).len ⟨fun hlt => ?_, fun hge => ⟨ieq ?_, k2⟩⟩
    · have hlt' : k < zs.length := by simp only at hlt; omega
      have hz := hc.get hlt'
      have hzd : zs.getD k 0 = zs[k] := getD_get hlt'
      have hst := congrArg List.length (below_step (M := M) hc hlt')
      rw [List.length_append, hzd] at hst
      change (below M zs k).length = (upto M (zs.length - (k + 1)) (zs.take k) zs[k]).length + _ at hst
      refine ⟨fun s W => 0 ≤ s.1 ∧ s.1 ≤ zs[k] ∧ s.2 = n + ((upto M (zs.length - (k + 1)) (zs.take k) s.1).length : Int) ∧ Ext w W, fun s _ => (zs[k] - s.1).toNat, ⟨(0, n), rfl, rfl, Int.le_refl _, by simp only; omega, by simp [upto, upFrom], k2⟩, ?_⟩
      rintro ⟨x, a⟩ w3 ⟨hx0, hx, ha, k3⟩
      simp only at hx0 hx ha
      refine (hv.ext k3).get k rfl hlt' ⟨fun hxl => ?_, fun hxg => ?_⟩
      · simp only at hxl
        intro w4 h4
        have k4 := k3.trans h4
        refine (hv.ext k4).sl 0 k rfl rfl (Nat.zero_le _) (by omega) fun t ht => ?_
        rw [List.drop_zero] at ht
        refine own_snoc ht (by rw [List.length_take]; omega) fun u w5 o5 h5 => ?_
        refine (spec_l02Count_val hM (zs.length - (k + 1)) (zs.take k ++ [x]) u w5 (by simp; omega) (CutsOk.snoc (fun z hz => hc z (List.mem_of_mem_take hz)) hx0 (by omega)) o5.rd).call fun w6 h6 => ⟨_, rfl, h6.keeps, h5.trans h6, ?_⟩
        have hg1 := G_max (M := M) (by omega) All (n := zs.length - (k + 1) + 1) (by omega) (zs.take k)
        obtain ⟨r, hr⟩ := upto_pre (M := M) (n := zs.length - (k + 1)) (p := zs.take k) (x := x + 1) (by omega)
        have hr' := congrArg List.length hr
        rw [List.length_append, upto_succ hx0, List.length_append] at hr'
        have hg1' : (GA M (zs.length - (k + 1) + 1) (zs.take k)).length ≤ 262144 := hg1
        refine ⟨by unfold I64; simp only; omega, by unfold I64; simp only; omega, (x + 1, _), rfl, rfl, ⟨by simp only; omega, by simp only; omega, ?_, (k4.trans h5).trans h6⟩, by simp only; omega⟩
        simp only
        rw [upto_succ hx0, List.length_append, ha]
        omega
      · simp only at hxg
        have hxe : x = zs[k] := by omega
        rw [hxe] at ha
        refine ⟨by unfold I64; simp only; omega, (k + 1, a), rfl, rfl, ⟨hlt', by simp only; omega, by simp only; omega, k3⟩, by simp only; omega⟩
    · have hke : k = zs.length := by simp only at hge; omega
      rw [hke, below_end] at hn
      simp only [List.length_nil] at hn
      simp only
      omega))
abbrev spec_RankOf_k0 (w : World) (Post : Value → World → Prop) (x10 : Value) (x22 : Int) (x23 : Int) (x24 : Int) (x25 : Int) (x26 : Int) (w27 : World) : Prop :=
  Calls Try.prog 90 #[(Value.agg #[(Value.int .i64 x22), (Value.int .i64 x23), (Value.int .i64 x24), (Value.int .i64 x25), (Value.int .i64 x26)]), x10] w27 (fun e28 w29 => ∃ n30 : Int, e28 = .returned (Value.int .i64 n30) ∧ Keeps w.heap.size [25] w27 w29 ∧ Post (Value.tuple #[(Value.int .i64 n30), (Value.int .i64 0)]) w29)
def spec_RankOf_vc (m_Chambers : Int) (m_Depths : Int) (m_Step : Int) (m_Same : Int) (m_Least : Int) (v : Value) (w : World) (Post : Value → World → Prop) : Prop :=
  ∀ w1 : World, Ext w w1 → Calls Try.prog 89 #[(Value.agg #[(Value.int .i64 m_Chambers), (Value.int .i64 m_Depths), (Value.int .i64 m_Step), (Value.int .i64 m_Same), (Value.int .i64 m_Least)]), v] w1 (fun e2 w3 => ∃ n4 : Int, e2 = .returned (Value.int .i64 n4) ∧ Keeps w.heap.size [25] w1 w3 ∧ (((n4 ≠ (0 : Int)) → Post (Value.tuple #[(Value.int .i64 0), (Value.int .i64 n4)]) w3) ∧ (¬ (n4 ≠ (0 : Int)) → (spec_RankOf_k0 w Post v m_Chambers m_Depths m_Step m_Same m_Least w3))))
theorem spec_RankOf_eq (m_Chambers : Int) (m_Depths : Int) (m_Step : Int) (m_Same : Int) (m_Least : Int) (v : Value) (w : World) (Post : Value → World → Prop) : denF Try.prog [] noAnn 20 [(Value.agg #[(Value.int .i64 m_Chambers), (Value.int .i64 m_Depths), (Value.int .i64 m_Step), (Value.int .i64 m_Same), (Value.int .i64 m_Least)]), v] w Post = spec_RankOf_vc m_Chambers m_Depths m_Step m_Same m_Least v w Post := by kernel_rfl
set_option maxRecDepth 100000 in
theorem spec_RankOf_calls (m_Chambers : Int) (m_Depths : Int) (m_Step : Int) (m_Same : Int) (m_Least : Int) (v : Value) (w : World) (Post : Value → World → Prop) (hvc : spec_RankOf_vc m_Chambers m_Depths m_Step m_Same m_Least v w Post) : Ret Try.prog 20 #[(Value.agg #[(Value.int .i64 m_Chambers), (Value.int .i64 m_Depths), (Value.int .i64 m_Step), (Value.int .i64 m_Same), (Value.int .i64 m_Least)]), v] w Post :=
  Ret.of (denF_sound mixed (Eq.mpr (spec_RankOf_eq m_Chambers m_Depths m_Step m_Same m_Least v w Post) hvc))

theorem spec_RankOf_val (M : Mk) (v : Value) (zs : List Int) (w : World) (hv : RI w v zs) : Val Try.prog 20 #[mkV M.c M.d M.s M.m M.l, v] w (rankR M zs) :=
  Ret.val (spec_RankOf_calls M.c M.d M.s M.m M.l v w _ (by
    unfold spec_RankOf_vc
    intro w1 h1
    refine (spec_l02Code_val M v zs w1 (hv.ext h1)).call fun w2 h2 => ⟨_, rfl, h2.keeps, fun hne => ⟨?_, h1.trans h2⟩, fun he => ?_⟩
    · unfold rankR; rw [if_neg hne]
    have he := Classical.not_not.1 he
    have k2 := h1.trans h2
    obtain ⟨hm, hk⟩ := kCode_zero he
    have hk := hk zs (by simp)
    refine (spec_l03Rank_val hm v zs w2 hk.1 hk.2.1 (hv.ext k2)).call fun w3 h3 => ⟨_, rfl, h3.keeps, ?_, k2.trans h3⟩
    unfold rankR; rw [if_pos he]))
/-! ### the program -/
def cnt (ks : List Int) (done : List (List Int)) : Int := ((done.filter fun k => decide (k ≠ ks)).length : Int)
theorem cnt_same {ks : List Int} (done : List (List Int)) : cnt ks (done ++ [ks]) = cnt ks done := by simp [cnt]
theorem cnt_other {ks k : List Int} (h : k ≠ ks) (done : List (List Int)) : cnt ks (done ++ [k]) = cnt ks done + 1 := by simp [cnt, h]
theorem cnt_le (ks : List Int) (done : List (List Int)) : 0 ≤ cnt ks done ∧ cnt ks done ≤ done.length := by
  have := List.length_filter_le (fun k => decide (k ≠ ks)) done
  unfold cnt
  omega
theorem cnt_not {ks : List Int} {a : List (List Int)} (h : ks ∉ a) : cnt ks a = a.length := by
  unfold cnt
  rw [List.filter_eq_self.2]
  intro k hk
  exact decide_eq_true fun e => h (e ▸ hk)
abbrev impl_RankOf_1_k0 (w : World) (Post : Value → World → Prop) (x7 : Addr) (w11 : World) : Prop :=
  ∃ n12 : Int, LdV w11 (Value.pointer (some x7)) (Value.int .i64 n12) ∧ I64 (n12 + 1) ∧ StV w.heap.size [] w11 (Value.pointer (some x7)) (Value.int .i64 (n12 + 1)) (fun w13 => Post (Value.bool true) w13)
def impl_RankOf_1_vc (v : Value) (b0 : Nat) (b1 : Nat) (w : World) (Post : Value → World → Prop) : Prop :=
  ∃ u1 : Value, LdV w (Value.pointer (some (⟨b0, 0, none⟩))) u1 ∧ Calls Try.prog 88 #[v, u1] w (fun e2 w3 => ∃ b4 : Bool, e2 = .returned (Value.bool b4) ∧ Keeps w.heap.size [] w w3 ∧ ((b4 = true → Post (Value.bool false) w3) ∧ (b4 = false → (impl_RankOf_1_k0 w Post (⟨b1, 0, none⟩) w3))))
theorem impl_RankOf_1_eq (v : Value) (b0 : Nat) (b1 : Nat) (w : World) (Post : Value → World → Prop) : denF Try.prog [] noAnn 87 [v, (Value.pointer (some (⟨b0, 0, none⟩))), (Value.pointer (some (⟨b1, 0, none⟩)))] w Post = impl_RankOf_1_vc v b0 b1 w Post := by kernel_rfl
set_option maxRecDepth 100000 in
theorem impl_RankOf_1_calls (v : Value) (b0 : Nat) (b1 : Nat) (w : World) (Post : Value → World → Prop) (hvc : impl_RankOf_1_vc v b0 b1 w Post) : Ret Try.prog 87 #[v, (Value.pointer (some (⟨b0, 0, none⟩))), (Value.pointer (some (⟨b1, 0, none⟩)))] w Post :=
  Ret.of (denF_sound mixed (Eq.mpr (impl_RankOf_1_eq v b0 b1 w Post) hvc))

def rankJ (wb : World) (b0 b1 : Nat) (kv : Value) (ks : List Int) : (Nat → Prop) → List (List Int) → World → Prop := fun K done w =>
  ¬ K b0 ∧ ¬ K b1 ∧ (∀ b, b < wb.heap.size → ¬ K b) ∧ Ext wb w ∧ w.heap[b0]? = some (.cells #[kv] 36 (0, 0)) ∧ w.heap[b1]? = some (.cells #[.int .i64 (cnt ks done)] 2 (0, 0))
theorem rank_visitor (wb : World) (b0 b1 : Nat) (kv : Value) (ks : List Int) (h0 : wb.heap.size ≤ b0) (h1 : wb.heap.size ≤ b1) (hne : b0 ≠ b1) (hkv : RI wb kv ks) {L : List (List Int)} (hL : L.length ≤ 262144) : Visitor Try.prog 87 [bp b0, bp b1] (rankJ wb b0 b1 kv ks) (fun _ x => !decide (x = ks)) L where
  ok := by kernel_rfl
  env := by
    rintro K done w w' ⟨n0, n1, nb, e, c0, c1⟩ hp
    have hs := e.size
    refine ⟨fun hg => hg.elim n0 fun hg => absurd (heap_lt c0) (by omega), fun hg => hg.elim n1 fun hg => absurd (heap_lt c1) (by omega), fun b hb hg => hg.elim (nb b hb) fun hg => by omega, hp.ext e nb, (hp.block _ (heap_lt c0) n0).trans c0, (hp.block _ (heap_lt c1) n1).trans c1⟩
  call := by
    rintro K done k w v ⟨n0, n1, nb, e, c0, c1⟩ hK hv ⟨r, hr⟩
    have hlen := congrArg List.length hr
    simp only [List.length_append, List.length_cons] at hlen
    have hcl := cnt_le ks done
    refine (impl_RankOf_1_calls v b0 b1 w (fun u w' => u = .bool (!decide (k = ks)) ∧ Pres K w w' ∧ rankJ wb b0 b1 kv ks K (done ++ [k]) w') ?_).call fun u w' h => ⟨by rw [h.1], h.2⟩
    unfold impl_RankOf_1_vc
    refine ⟨kv, ld_one c0, (slices_Equal_val v kv k ks w (hv w (.refl _ _)) (hkv.ext e)).call fun w2 h2 => ⟨_, rfl, h2.keeps, fun hb => ?_, fun hb => ?_⟩⟩
    · have hk := of_decide_eq_true hb
      refine ⟨by rw [hb]; rfl, h2.pres K, n0, n1, nb, e.trans h2, (h2.block _ (heap_lt c0)).trans c0, ?_⟩
      rw [hk, cnt_same]
      exact (h2.block _ (heap_lt c1)).trans c1
    · have hk := of_decide_eq_false hb
      have c1' := (h2.block _ (heap_lt c1)).trans c1
      have c0' := (h2.block _ (heap_lt c0)).trans c0
      refine ⟨_, ld_one c1', by unfold I64; omega, st_one c1' rfl (.inr (by simp)) fun w3 d1 p3 z3 => ⟨by rw [hb]; rfl, (h2.pres K).trans (p3.mono fun b _ hb => ?_), n0, n1, nb, p3.ext (e.trans h2) fun b hb => by omega, (p3.block b0 (heap_lt c0') hne).trans c0', ?_⟩⟩
      · rintro rfl
        exact n1 hb
      · rw [cnt_other hk]
        exact d1
abbrev impl_RankOf_k0 (w : World) (Post : Value → World → Prop) (x16 : Addr) (x29 : Int) (x30 : Int) (x31 : Int) (x32 : Int) (x33 : Int) (w34 : World) : Prop :=
  ∀ (b36 : Nat) (w35 : World), Ext w34 w35 → w34.heap.size ≤ b36 → w35.heap[b36]? = some (.cells #[(Value.int .i64 0)] 2 (0, 0)) → StV w.heap.size [25] w35 (Value.pointer (some (⟨b36, 0, none⟩))) (Value.int .i64 0) (fun w37 => Calls Try.prog 86 #[(Value.agg #[(Value.int .i64 x29), (Value.int .i64 x30), (Value.int .i64 x31), (Value.int .i64 x32), (Value.int .i64 x33)]), (Value.slice none 0 0), Value.nilFunc, (Value.func (.func 87) #[] #[(Value.pointer (some x16)), (Value.pointer (some (⟨b36, 0, none⟩)))])] w37 (fun e38 w39 => e38 = .returned (Value.tuple #[]) ∧ Keeps w.heap.size [25] w37 w39 ∧ ∃ n40 : Int, LdV w39 (Value.pointer (some (⟨b36, 0, none⟩))) (Value.int .i64 n40) ∧ Post (Value.tuple #[(Value.int .i64 n40), (Value.int .i64 0)]) w39))
def impl_RankOf_vc (m_Chambers : Int) (m_Depths : Int) (m_Step : Int) (m_Same : Int) (m_Least : Int) (v : Value) (w : World) (Post : Value → World → Prop) : Prop :=
  ∀ w1 : World, Ext w w1 → oneC v (∀ (b3 : Nat) (w2 : World), Ext w1 w2 → w1.heap.size ≤ b3 → w2.heap[b3]? = some (.cells #[v] 36 (0, 0)) → ∃ u4 : Value, LdV w2 (Value.pointer (some (⟨b3, 0, none⟩))) u4 ∧ oneC u4 (∀ (v5 : Value) (w6 : World), Own w2.heap.size w6 36 v5 [u4] → Ext w2 w6 → Calls Try.prog 85 #[(Value.agg #[(Value.int .i64 m_Chambers), (Value.int .i64 m_Depths), (Value.int .i64 m_Step), (Value.int .i64 m_Same), (Value.int .i64 m_Least)]), v5] w6 (fun e7 w8 => ∃ n9 : Int, e7 = .returned (Value.int .i64 n9) ∧ Keeps w.heap.size [25] w6 w8 ∧ (((n9 ≠ (0 : Int)) → Post (Value.tuple #[(Value.int .i64 0), (Value.int .i64 n9)]) w8) ∧ (¬ (n9 ≠ (0 : Int)) → (impl_RankOf_k0 w Post (⟨b3, 0, none⟩) m_Chambers m_Depths m_Step m_Same m_Least w8))))))
theorem impl_RankOf_eq (m_Chambers : Int) (m_Depths : Int) (m_Step : Int) (m_Same : Int) (m_Least : Int) (v : Value) (w : World) (Post : Value → World → Prop) : denF Try.prog [3, 7] noAnn 19 [(Value.agg #[(Value.int .i64 m_Chambers), (Value.int .i64 m_Depths), (Value.int .i64 m_Step), (Value.int .i64 m_Same), (Value.int .i64 m_Least)]), v] w Post = impl_RankOf_vc m_Chambers m_Depths m_Step m_Same m_Least v w Post := by kernel_rfl
set_option maxRecDepth 100000 in
theorem impl_RankOf_calls (m_Chambers : Int) (m_Depths : Int) (m_Step : Int) (m_Same : Int) (m_Least : Int) (v : Value) (w : World) (Post : Value → World → Prop) (hvc : impl_RankOf_vc m_Chambers m_Depths m_Step m_Same m_Least v w Post) : Ret Try.prog 19 #[(Value.agg #[(Value.int .i64 m_Chambers), (Value.int .i64 m_Depths), (Value.int .i64 m_Step), (Value.int .i64 m_Same), (Value.int .i64 m_Least)]), v] w Post :=
  Ret.of (denF_sound mixed (Eq.mpr (impl_RankOf_eq m_Chambers m_Depths m_Step m_Same m_Least v w Post) hvc))

theorem impl_RankOf_val (M : Mk) (v : Value) (zs : List Int) (w : World) (hv : RI w v zs) : Val Try.prog 19 #[mkV M.c M.d M.s M.m M.l, v] w (rankR M zs) :=
  Ret.val (impl_RankOf_calls M.c M.d M.s M.m M.l v w _ (by
    unfold impl_RankOf_vc
    intro w1 h1
    refine hv.oneC fun b3 w2 h2 g3 c3 => ⟨v, ld_one c3, hv.oneC fun r w4 o4 h4 => ?_⟩
    have k4 := (h1.trans h2).trans h4
    refine (impl_keysCode_val M r [zs] w4 (RR.one1 o4 (hv.ext k4))).call fun w5 h5 => ⟨_, rfl, h5.keeps, fun hne => ⟨?_, k4.trans h5⟩, fun he => ?_⟩
    · unfold rankR; rw [if_neg hne]
    have he := Classical.not_not.1 he
    have k5 := k4.trans h5
    obtain ⟨hm, hk⟩ := kCode_zero he
    have hk := hk zs (by simp)
    have hc := hm.1
    intro b6 w6 h6 g6 c6
    have z1 := h1.size
    have z2 := h2.size
    have z4 := h4.size
    have z5 := h5.size
    have z6 := h6.size
    have s3 := heap_lt c3
    have s6 := heap_lt c6
    have c3' : w6.heap[b3]? = _ := (((h4.trans h5).trans h6).block b3 s3).trans c3
    refine st_one c6 rfl (.inr (by decide)) fun w7 c7 p7 z7 => ?_
    have X7 : Ext w w7 := p7.ext (k5.trans h6) fun b hb => by omega
    have c3'' : w7.heap[b3]? = _ := (p7.block b3 (by omega) (by omega)).trans c3'
    have hG : GT M All [] M.c.toNat [] false = keys M := GT_false _ _ _
    have hev := eachKey_calls (M := M) (al := All) (fr := []) (w := w7) (K0 := fun b => w.heap.size ≤ b ∧ b < w7.heap.size ∧ b ≠ b3 ∧ b ≠ b6) (frv := .slice none 0 0) (alv := .nilFunc) (tight := false) hm
      (rank_visitor w b3 b6 v zs (by omega) (by omega) (by omega) hv (L := GT M All [] M.c.toNat [] false) (by rw [hG]; exact keys_max hm)) (AlOk.all _ _ _ _) NilS.nil_ (fun w' _ => RI.nil_ w' 0 (Nat.zero_le _)) (by intro z hz; simp at hz) (by simp) (fun b hb => hb.2.1)
      ⟨fun h => h.2.2.1 rfl, fun h => h.2.2.2 rfl, fun b hb h => by omega, X7, c3'', c7⟩
    refine hev.mono ?_
    rintro e w8 ⟨rfl, ⟨K, hK, _, _, _, e8, _, c8⟩, hp⟩
    rw [hG] at c8
    have hmem : zs ∈ keys M := (mem_keys (by omega)).2 hk
    obtain ⟨a, b, hab⟩ := mem_split hmem
    have hso := keys_sorted M
    rw [hab] at hso
    have hna := mid_not hso
    rw [hab, vis_to zs a b [] hna, List.nil_append, cnt_same, cnt_not hna] at c8
    have hrank : rankOf M zs = a.length := by
      unfold rankOf
      rw [hab, mid_below hso]
    refine ⟨rfl, hp.keeps fun b cs T fz hb hh hT => ⟨hb, heap_lt hh, ?_, ?_⟩, _, ld_one c8, ?_, e8⟩
    · rintro rfl
      rw [c3''] at hh
      injection hh with hh
      injection hh with _ he _
      rw [← he] at hT
      exact absurd hT (by decide)
    · rintro rfl
      rw [c7] at hh
      injection hh with hh
      injection hh with _ he _
      rw [← he] at hT
      exact absurd hT (by decide)
    · unfold rankR
      rw [if_pos he, hrank]))
end Go.Proofs
