/- Contracts: equal rows, the key behind given cuts. No condition. -/
import Derived.Test.YteolgidmaklbkaaL03b
set_option linter.unusedVariables false
namespace Go.Proofs
open Go.Sx Go.RowKit
def slices_Equal_int64_int64_A (u : Value) (v : Value) (w : World) : Nat → Ann := fun κ => match κ with
  | 0 => { σ := Nat, sli := [13], slc := fun s => [SV.v (Value.int .i64 (s : Int))], bxi := [], bxc := fun s => [], inv := fun s W => True, μ := fun s W => 0, free := true }
  | _ => { σ := Unit, sli := [], slc := fun _ => [], bxi := [], bxc := fun _ => [], inv := fun _ _ => False, μ := fun _ _ => 0 }
abbrev slices_Equal_int64_int64_k0 (s12 : Nat) (w13 : World) (J14 : Nat → World → Prop) (m15 : Nat → World → Nat) (x24 : Int) (w34 : World) : Prop :=
  I64 (x24 + 1) ∧ ∃ s35 : Nat, (Value.int .i64 (x24 + 1)) = (Value.int .i64 (s35 : Int)) ∧ (J14 s35 w34) ∧ (m15 s35 w34) < (m15 s12 w13)
abbrev slices_Equal_int64_int64_k1 (Post : Value → World → Prop) (x3 : Value) (x4 : Value) (s12 : Nat) (w13 : World) (J14 : Nat → World → Prop) (m15 : Nat → World → Nat) (x16 : Int) (w17 : World) : Prop :=
  IxV 1 x3 x16 (fun ad18 => ∃ n19 : Int, LdV w17 (Value.pointer (some ad18)) (Value.int .i64 n19) ∧ IxV 1 x4 x16 (fun ad20 => ∃ n21 : Int, LdV w17 (Value.pointer (some ad20)) (Value.int .i64 n21) ∧ ∀ w22 : World, Ext w17 w22 → (((n19 ≠ n21) → Post (Value.bool false) w22) ∧ (¬ (n19 ≠ n21) → (slices_Equal_int64_int64_k0 s12 w13 J14 m15 x16 w22)))))
abbrev slices_Equal_int64_int64_k2 (Post : Value → World → Prop) (x3 : Value) (x4 : Value) (w9 : World) : Prop :=
  LenV x3 (fun n10 => (∃ (J14 : Nat → World → Prop) (m15 : Nat → World → Nat), ((∃ s11 : Nat, (Value.int .i64 0) = (Value.int .i64 (s11 : Int)) ∧ (J14 s11 w9)) ∧ ∀ (s12 : Nat) (w13 : World), (J14 s12 w13) → ((((s12 : Int) < n10) → (slices_Equal_int64_int64_k1 Post x3 x4 s12 w13 J14 m15 (s12 : Int) w13)) ∧ (¬ ((s12 : Int) < n10) → Post (Value.bool true) w13)))))
def slices_Equal_int64_int64_vc (u : Value) (v : Value) (w : World) (Post : Value → World → Prop) : Prop :=
  LenV u (fun n1 => LenV v (fun n2 => (((n1 ≠ n2) → Post (Value.bool false) w) ∧ (¬ (n1 ≠ n2) → (slices_Equal_int64_int64_k2 Post u v w)))))
theorem slices_Equal_int64_int64_eq (u : Value) (v : Value) (w : World) (Post : Value → World → Prop) : denF Try.prog [] (slices_Equal_int64_int64_A u v w) 141 [u, v] w Post = slices_Equal_int64_int64_vc u v w Post := by kernel_rfl
set_option maxRecDepth 100000 in
theorem slices_Equal_int64_int64_calls (u : Value) (v : Value) (w : World) (Post : Value → World → Prop) (hvc : slices_Equal_int64_int64_vc u v w Post) : Ret Try.prog 141 #[u, v] w Post :=
  Ret.of (denF_sound mixed (Eq.mpr (slices_Equal_int64_int64_eq u v w Post) hvc))

theorem slices_Equal_val (u v : Value) (xs ys : List Int) (w : World) (hu : RI w u xs) (hv : RI w v ys) : Val Try.prog 141 #[u, v] w (.bool (decide (xs = ys))) :=
  Ret.val (slices_Equal_int64_int64_calls u v w _ (by
    unfold slices_Equal_int64_int64_vc
    have hbd := hu.bound
    refine hu.len (hv.len ⟨fun hne => ⟨?_, .refl w⟩, fun heq => ?_⟩)
    · have : xs ≠ ys := fun e => hne (by rw [e])
      simp [this]
    · have hll : xs.length = ys.length := by omega
      refine hu.len ⟨fun k W => k ≤ xs.length ∧ Ext w W ∧ xs.take k = ys.take k, fun k _ => xs.length - k, ⟨0, rfl, Nat.zero_le _, .refl w, by simp⟩, ?_⟩
      rintro k w1 ⟨hk, h1, hpre⟩
      refine ⟨fun hlt => ?_, fun hge => ?_⟩
      · have hlt' : k < xs.length := by omega
        refine (hu.ext h1).get k rfl hlt' ((hv.ext h1).get k rfl (by omega) ?_)
        intro w2 h2
        refine ⟨fun hne => ⟨?_, h1.trans h2⟩, fun heq => ⟨by unfold I64; omega, k + 1, rfl, ⟨hlt', h1.trans h2, ?_⟩, by simp only; omega⟩⟩
        · have : xs ≠ ys := by
            rintro rfl
            exact hne rfl
          simp [this]
        · have e : xs[k] = ys[k] := Classical.not_not.1 heq
          rw [take_snoc xs k hlt', take_snoc ys k (by omega), hpre, e]
      · have hkl : k = xs.length := by omega
        refine ⟨?_, h1⟩
        have : xs = ys := by
          rw [hkl] at hpre
          rw [List.take_of_length_le (Nat.le_refl _), List.take_of_length_le (by omega)] at hpre
          exact hpre
        simp [this]))
def nextR (M : Mk) (zs : List Int) : List Int := if MkOk M.c M.d M.s M.m M.l then (if (zs.length : Int) = M.c ∧ CutsOk M.d zs then ((keys M).filter (llt zs)).headD [] else []) else []
def nextCode (M : Mk) (zs : List Int) : Int := if MkOk M.c M.d M.s M.m M.l then (if (zs.length : Int) = M.c ∧ CutsOk M.d zs then (if (keys M).filter (llt zs) = [] then 4 else 0) else 2) else 1
theorem nextR_len (M : Mk) (zs : List Int) : (nextR M zs).length ≤ 1000 := by
  unfold nextR
  split
  · rename_i hm
    split
    · cases hk : (keys M).filter (llt zs) with
      | nil => simp
      | cons k r =>
        have hmem : k ∈ (keys M).filter (llt zs) := by rw [hk]; exact List.mem_cons_self ..
        have := keys_length (M := M) (by have := hm.1; omega) (List.mem_filter.1 hmem).1
        have := hm.1
        simp only [List.headD_cons]
        omega
    · simp
  · simp
section
variable {P F : List (List Int)} {zs : List Int}
theorem next_found (hP : P = [] ∨ P = [zs]) (hF : zs ∉ F) {k : Nat} (hk : k < ((P ++ F).take 2).length) (hpre : ∀ (i : Nat) (hi : i < ((P ++ F).take 2).length), i < k → ((P ++ F).take 2)[i] = zs) (hne : ((P ++ F).take 2)[k] ≠ zs) : ∃ r, F = ((P ++ F).take 2)[k] :: r := by
  rcases hP with rfl | rfl
  · cases F with
    | nil => simp at hk
    | cons f F =>
      match k, hk, hpre, hne with
      | 0, _, _, _ => exact ⟨F, rfl⟩
      | k + 1, hk, hpre, hne =>
        have := hpre 0 (by omega) (by omega)
        exact absurd (by rw [← this]; exact List.mem_cons_self ..) hF
  · match k, hk, hpre, hne with
    | 0, _, _, hne => exact absurd rfl hne
    | k + 1, hk, hpre, hne =>
      cases F with
      | nil => simp at hk
      | cons f F =>
        match k, hk with
        | 0, _ => exact ⟨F, rfl⟩
        | k + 1, hk => simp at hk; omega
theorem next_none (hP : P = [] ∨ P = [zs]) (hF : zs ∉ F) (hall : ∀ (i : Nat) (hi : i < ((P ++ F).take 2).length), ((P ++ F).take 2)[i] = zs) : F = [] := by
  cases F with
  | nil => rfl
  | cons f F =>
    rcases hP with rfl | rfl
    · have : f = zs := hall 0 (by simp)
      exact absurd (by rw [← this]; exact List.mem_cons_self ..) hF
    · have : f = zs := hall 1 (by simp)
      exact absurd (by rw [← this]; exact List.mem_cons_self ..) hF
end
abbrev spec_NextKey_k0 (w : World) (Post : Value → World → Prop) (x33 : Value) (x50 : Int) (x51 : Int) (x52 : Int) (x53 : Int) (x54 : Int) (w55 : World) : Prop :=
  Calls Try.prog 146 #[(Value.agg #[(Value.int .i64 x50), (Value.int .i64 x51), (Value.int .i64 x52), (Value.int .i64 x53), (Value.int .i64 x54)]), x33] w55 (fun e56 w57 => ∃ u58 : Value, ∃ b59 : Bool, e56 = .returned (Value.tuple #[u58, (Value.bool b59)]) ∧ Keeps w.heap.size [56] w55 w57 ∧ (((!b59) = true → Post (Value.tuple #[(Value.slice none 0 0), (Value.int .i64 4)]) w57) ∧ ((!b59) = false → Post (Value.tuple #[u58, (Value.int .i64 0)]) w57)))
abbrev spec_NextKey_k1 (w : World) (Post : Value → World → Prop) (x10 : Value) (x19 : Int) (x20 : Int) (x21 : Int) (x22 : Int) (x23 : Int) (w24 : World) : Prop :=
  Calls Try.prog 145 #[(Value.agg #[(Value.int .i64 x19), (Value.int .i64 x20), (Value.int .i64 x21), (Value.int .i64 x22), (Value.int .i64 x23)]), x10] w24 (fun e25 w26 => ∃ b27 : Bool, e25 = .returned (Value.bool b27) ∧ Keeps w.heap.size [56] w24 w26 ∧ (((!b27) = true → Post (Value.tuple #[(Value.slice none 0 0), (Value.int .i64 2)]) w26) ∧ ((!b27) = false → (spec_NextKey_k0 w Post x10 x19 x20 x21 x22 x23 w26))))
def spec_NextKey_vc (m_Chambers : Int) (m_Depths : Int) (m_Step : Int) (m_Same : Int) (m_Least : Int) (v : Value) (w : World) (Post : Value → World → Prop) : Prop :=
  ∀ w1 : World, Ext w w1 → Calls Try.prog 85 #[(Value.agg #[(Value.int .i64 m_Chambers), (Value.int .i64 m_Depths), (Value.int .i64 m_Step), (Value.int .i64 m_Same), (Value.int .i64 m_Least)])] w1 (fun e2 w3 => ∃ b4 : Bool, e2 = .returned (Value.bool b4) ∧ Keeps w.heap.size [56] w1 w3 ∧ (((!b4) = true → Post (Value.tuple #[(Value.slice none 0 0), (Value.int .i64 1)]) w3) ∧ ((!b4) = false → (spec_NextKey_k1 w Post v m_Chambers m_Depths m_Step m_Same m_Least w3))))
theorem spec_NextKey_eq (m_Chambers : Int) (m_Depths : Int) (m_Step : Int) (m_Same : Int) (m_Least : Int) (v : Value) (w : World) (Post : Value → World → Prop) : denF Try.prog [] noAnn 81 [(Value.agg #[(Value.int .i64 m_Chambers), (Value.int .i64 m_Depths), (Value.int .i64 m_Step), (Value.int .i64 m_Same), (Value.int .i64 m_Least)]), v] w Post = spec_NextKey_vc m_Chambers m_Depths m_Step m_Same m_Least v w Post := by kernel_rfl
set_option maxRecDepth 100000 in
theorem spec_NextKey_calls (m_Chambers : Int) (m_Depths : Int) (m_Step : Int) (m_Same : Int) (m_Least : Int) (v : Value) (w : World) (Post : Value → World → Prop) (hvc : spec_NextKey_vc m_Chambers m_Depths m_Step m_Same m_Least v w Post) : Ret Try.prog 81 #[(Value.agg #[(Value.int .i64 m_Chambers), (Value.int .i64 m_Depths), (Value.int .i64 m_Step), (Value.int .i64 m_Same), (Value.int .i64 m_Least)]), v] w Post :=
  Ret.of (denF_sound mixed (Eq.mpr (spec_NextKey_eq m_Chambers m_Depths m_Step m_Same m_Least v w Post) hvc))

theorem spec_NextKey_ret (M : Mk) (v : Value) (zs : List Int) (w : World) (hv : RI w v zs) : SlR 81 #[mkV M.c M.d M.s M.m M.l, v] w (nextR M zs) (nextCode M zs) :=
  spec_NextKey_calls M.c M.d M.s M.m M.l v w _ (by
    unfold spec_NextKey_vc
    intro w1 h1
    refine (spec_IsMaker_val ..).call fun w2 h2 => ⟨_, rfl, h2.keeps, fun hb => ?_, fun hb => ?_⟩
    · unfold nextR nextCode; rw [if_neg (nd_t hb), if_neg (nd_t hb)]
      exact ⟨_, rfl, Own.nil_ _ _ _, h1.trans h2⟩
    have hm := nd_f hb
    have k2 := h1.trans h2
    refine (spec_l02Cuts_val M.c M.d M.s M.m M.l v zs w2 (hv.ext k2) (by unfold I64; have := hm.2.1; omega)).call fun w3 h3 => ⟨_, rfl, h3.keeps, fun hb => ?_, fun hb => ?_⟩
    · unfold nextR nextCode; rw [if_pos hm, if_pos hm, if_neg (nd_t hb), if_neg (nd_t hb)]
      exact ⟨_, rfl, Own.nil_ _ _ _, k2.trans h3⟩
    have hc := nd_f hb
    have k3 := k2.trans h3
    refine (spec_l02Next_ret (M := M) hm v zs w3 hc.1 hc.2 (hv.ext k3)).call ?_
    rintro _ w4 ⟨h4, u, ok, rfl, hor⟩
    rw [above_zero M zs hc.1] at hor
    refine ⟨u, ok, rfl, h4.keeps, fun hno => ?_, fun hok => ?_⟩
    · rcases hor with ⟨_, _, hg⟩ | ⟨k, rest, h, _⟩
      · unfold nextR nextCode; rw [if_pos hm, if_pos hm, if_pos hc, if_pos hc, if_pos hg, hg]
        exact ⟨_, rfl, Own.nil_ _ _ _, k3.trans h4⟩
      · rw [h] at hno; cases hno
    · rcases hor with ⟨h, _⟩ | ⟨k, rest, _, hg, ho⟩
      · rw [h] at hok; cases hok
      · unfold nextR nextCode; rw [if_pos hm, if_pos hm, if_pos hc, if_pos hc, if_neg (by rw [hg]; simp), hg]
        exact ⟨u, rfl, ho.mono k3.size, k3.trans h4⟩)
def impl_NextKey_A (m_Chambers : Int) (m_Depths : Int) (m_Step : Int) (m_Same : Int) (m_Least : Int) (v : Value) (w : World) : Nat → Ann := fun κ => match κ with
  | 0 => { σ := Nat, sli := [19], slc := fun s => [SV.v (Value.int .i64 (s : Int))], bxi := [], bxc := fun s => [], inv := fun s W => True, μ := fun s W => 0, free := true }
  | _ => { σ := Unit, sli := [], slc := fun _ => [], bxi := [], bxc := fun _ => [], inv := fun _ _ => False, μ := fun _ _ => 0 }
abbrev impl_NextKey_k0 (s61 : Nat) (w62 : World) (J63 : Nat → World → Prop) (m64 : Nat → World → Nat) (x73 : Int) (w80 : World) : Prop :=
  I64 (x73 + 1) ∧ ∃ s81 : Nat, (Value.int .i64 (x73 + 1)) = (Value.int .i64 (s81 : Int)) ∧ (J63 s81 w80) ∧ (m64 s81 w80) < (m64 s61 w62)
abbrev impl_NextKey_k1 (w : World) (Post : Value → World → Prop) (x33 : Value) (u58 : Value) (s61 : Nat) (w62 : World) (J63 : Nat → World → Prop) (m64 : Nat → World → Nat) (x65 : Int) (w66 : World) : Prop :=
  IxV 1 u58 x65 (fun ad67 => ∃ u68 : Value, LdV w66 (Value.pointer (some ad67)) u68 ∧ Calls Try.prog 141 #[u68, x33] w66 (fun e69 w70 => ∃ b71 : Bool, e69 = .returned (Value.bool b71) ∧ Keeps w.heap.size [56] w66 w70 ∧ (((!b71) = true → Post (Value.tuple #[u68, (Value.int .i64 0)]) w70) ∧ ((!b71) = false → (impl_NextKey_k0 s61 w62 J63 m64 x65 w70)))))
abbrev impl_NextKey_k2 (w : World) (Post : Value → World → Prop) (x33 : Value) (x50 : Int) (x51 : Int) (x52 : Int) (x53 : Int) (x54 : Int) (w55 : World) : Prop :=
  Calls Try.prog 137 #[(Value.agg #[(Value.int .i64 x50), (Value.int .i64 x51), (Value.int .i64 x52), (Value.int .i64 x53), (Value.int .i64 x54)]), x33, Value.nilFunc, (Value.int .i64 2)] w55 (fun e56 w57 => ∃ u58 : Value, e56 = .returned u58 ∧ Keeps w.heap.size [56] w55 w57 ∧ LenV u58 (fun n59 => (∃ (J63 : Nat → World → Prop) (m64 : Nat → World → Nat), ((∃ s60 : Nat, (Value.int .i64 0) = (Value.int .i64 (s60 : Int)) ∧ (J63 s60 w57)) ∧ ∀ (s61 : Nat) (w62 : World), (J63 s61 w62) → ((((s61 : Int) < n59) → (impl_NextKey_k1 w Post x33 u58 s61 w62 J63 m64 (s61 : Int) w62)) ∧ (¬ ((s61 : Int) < n59) → Post (Value.tuple #[(Value.slice none 0 0), (Value.int .i64 4)]) w62))))))
abbrev impl_NextKey_k3 (w : World) (Post : Value → World → Prop) (x10 : Value) (x19 : Int) (x20 : Int) (x21 : Int) (x22 : Int) (x23 : Int) (w24 : World) : Prop :=
  Calls Try.prog 140 #[(Value.agg #[(Value.int .i64 x19), (Value.int .i64 x20), (Value.int .i64 x21), (Value.int .i64 x22), (Value.int .i64 x23)]), x10] w24 (fun e25 w26 => ∃ b27 : Bool, e25 = .returned (Value.bool b27) ∧ Keeps w.heap.size [56] w24 w26 ∧ (((!b27) = true → Post (Value.tuple #[(Value.slice none 0 0), (Value.int .i64 2)]) w26) ∧ ((!b27) = false → (impl_NextKey_k2 w Post x10 x19 x20 x21 x22 x23 w26))))
def impl_NextKey_vc (m_Chambers : Int) (m_Depths : Int) (m_Step : Int) (m_Same : Int) (m_Least : Int) (v : Value) (w : World) (Post : Value → World → Prop) : Prop :=
  ∀ w1 : World, Ext w w1 → Calls Try.prog 84 #[(Value.agg #[(Value.int .i64 m_Chambers), (Value.int .i64 m_Depths), (Value.int .i64 m_Step), (Value.int .i64 m_Same), (Value.int .i64 m_Least)])] w1 (fun e2 w3 => ∃ b4 : Bool, e2 = .returned (Value.bool b4) ∧ Keeps w.heap.size [56] w1 w3 ∧ (((!b4) = true → Post (Value.tuple #[(Value.slice none 0 0), (Value.int .i64 1)]) w3) ∧ ((!b4) = false → (impl_NextKey_k3 w Post v m_Chambers m_Depths m_Step m_Same m_Least w3))))
theorem impl_NextKey_eq (m_Chambers : Int) (m_Depths : Int) (m_Step : Int) (m_Same : Int) (m_Least : Int) (v : Value) (w : World) (Post : Value → World → Prop) : denF Try.prog [] (impl_NextKey_A m_Chambers m_Depths m_Step m_Same m_Least v w) 76 [(Value.agg #[(Value.int .i64 m_Chambers), (Value.int .i64 m_Depths), (Value.int .i64 m_Step), (Value.int .i64 m_Same), (Value.int .i64 m_Least)]), v] w Post = impl_NextKey_vc m_Chambers m_Depths m_Step m_Same m_Least v w Post := by kernel_rfl
set_option maxRecDepth 100000 in
theorem impl_NextKey_calls (m_Chambers : Int) (m_Depths : Int) (m_Step : Int) (m_Same : Int) (m_Least : Int) (v : Value) (w : World) (Post : Value → World → Prop) (hvc : impl_NextKey_vc m_Chambers m_Depths m_Step m_Same m_Least v w Post) : Ret Try.prog 76 #[(Value.agg #[(Value.int .i64 m_Chambers), (Value.int .i64 m_Depths), (Value.int .i64 m_Step), (Value.int .i64 m_Same), (Value.int .i64 m_Least)]), v] w Post :=
  Ret.of (denF_sound mixed (Eq.mpr (impl_NextKey_eq m_Chambers m_Depths m_Step m_Same m_Least v w Post) hvc))

theorem impl_NextKey_ret (M : Mk) (v : Value) (zs : List Int) (w : World) (hv : RI w v zs) : SlR 76 #[mkV M.c M.d M.s M.m M.l, v] w (nextR M zs) (nextCode M zs) :=
  impl_NextKey_calls M.c M.d M.s M.m M.l v w _ (by
    unfold impl_NextKey_vc
    intro w1 h1
    refine (impl_IsMaker_val ..).call fun w2 h2 => ⟨_, rfl, h2.keeps, fun hb => ?_, fun hb => ?_⟩
    · unfold nextR nextCode; rw [if_neg (nd_t hb), if_neg (nd_t hb)]
      exact ⟨_, rfl, Own.nil_ _ _ _, h1.trans h2⟩
    have hm := nd_f hb
    have hm' : M.Ok := hm
    have k2 := h1.trans h2
    refine (impl_areCuts_val M.c M.d M.s M.m M.l v zs w2 (hv.ext k2) (by unfold I64; have := hm.2.1; omega)).call fun w3 h3 => ⟨_, rfl, h3.keeps, fun hb => ?_, fun hb => ?_⟩
    · unfold nextR nextCode; rw [if_pos hm, if_pos hm, if_neg (nd_t hb), if_neg (nd_t hb)]
      exact ⟨_, rfl, Own.nil_ _ _ _, k2.trans h3⟩
    have hc := nd_f hb
    have k3 := k2.trans h3
    have hcm := hm.1
    have hnil : NilS v (!true) := by
      obtain ⟨a, cc, rfl, p1, p2, p3⟩ := id hv
      obtain ⟨ad, rfl, _⟩ := p3 (by rw [ints_length]; have := hc.1; omega)
      exact ⟨_, _, _, rfl, rfl⟩
    refine (impl_firstKeys_ret (M := M) hm' (al := All) (fr := zs) (tight := true) (most := 2) (AlOk.all _ _ _ _) hnil (hv.ext k3) hc.2 (fun _ => hc.1)).call ?_
    rintro r w4 ⟨o4, h4⟩
    have k4 := k3.trans h4
    have eG : GT M All zs M.c.toNat [] true = (if zs ∈ keys M then [zs] else []) ++ (keys M).filter (llt zs) := by
      have e1 := GT_true (M := M) (al := All) hc.2 M.c.toNat 0 (by have := hc.1; omega)
      rw [List.take_zero] at e1
      rw [e1]
      exact from_filter (keys_sorted M) fun x hx => by
        have := keys_length (M := M) (by omega) hx
        have := hc.1
        omega
    rw [eG] at o4
    have hP : (if zs ∈ keys M then [zs] else []) = [] ∨ (if zs ∈ keys M then [zs] else []) = [zs] := by split <;> simp
    have hF : zs ∉ (keys M).filter (llt zs) := fun h => by
      have := (List.mem_filter.1 h).2
      rw [llt_irrefl] at this
      cases this
    revert o4
    generalize (if zs ∈ keys M then [zs] else []) = P at hP
    intro o4
    have o4 : OwnR w3.heap.size w4 r ((P ++ (keys M).filter (llt zs)).take 2) := o4
    refine ⟨r, rfl, h4.keeps, o4.rr.len ⟨fun k W => k ≤ ((P ++ (keys M).filter (llt zs)).take 2).length ∧ Ext w4 W ∧ ∀ (i : Nat) (hi : i < ((P ++ (keys M).filter (llt zs)).take 2).length), i < k → ((P ++ (keys M).filter (llt zs)).take 2)[i] = zs, fun k _ => ((P ++ (keys M).filter (llt zs)).take 2).length - k, ⟨0, rfl, Nat.zero_le _, .refl w4, fun i _ h => absurd h (Nat.not_lt_zero i)⟩, ?_⟩⟩
    have hbd : ((P ++ (keys M).filter (llt zs)).take 2).length ≤ 2 := by rw [List.length_take]; omega
    rintro k w5 ⟨hk, h5, hpre⟩
    refine ⟨fun hlt => ?_, fun hge => ?_⟩
    · have hlt' : k < ((P ++ (keys M).filter (llt zs)).take 2).length := by omega
      refine (o4.ext h5).get k rfl hlt' fun u hu => ?_
      refine (slices_Equal_val u v _ zs w5 hu.rd (hv.ext (k4.trans h5))).call fun w6 h6 => ⟨_, rfl, h6.keeps, fun hb => ?_, fun hb => ?_⟩
      · obtain ⟨r', hr'⟩ := next_found hP hF hlt' hpre (nd_t hb)
        unfold nextR nextCode; rw [if_pos hm, if_pos hm, if_pos hc, if_pos hc, if_neg (fun h => by have := hr'.symm.trans h; cases this)]
        have e : ((keys M).filter (llt zs)).headD [] = ((P ++ (keys M).filter (llt zs)).take 2)[k] := by
          conv => lhs; rw [hr']
          rfl
        rw [e]
        exact ⟨u, rfl, (hu.ext h6).mono k3.size, (k4.trans h5).trans h6⟩
      · have he := nd_f hb
        refine ⟨by unfold I64; omega, k + 1, rfl, ⟨hlt', h5.trans h6, fun i hi h => ?_⟩, by simp only; omega⟩
        rcases Nat.lt_or_ge i k with h' | h'
        · exact hpre i hi h'
        · have : i = k := by omega
          subst this
          exact he
    · have hn := next_none hP hF fun i hi => hpre i hi (by omega)
      unfold nextR nextCode; rw [if_pos hm, if_pos hm, if_pos hc, if_pos hc, if_pos hn, hn]
      exact ⟨_, rfl, Own.nil_ _ _ _, k4.trans h5⟩)
end Go.Proofs
