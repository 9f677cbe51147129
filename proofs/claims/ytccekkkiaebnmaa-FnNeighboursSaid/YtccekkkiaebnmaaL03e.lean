/- Contracts: how many keys are at a difference. No condition. -/
import Derived.Test.YtccekkkiaebnmaaL03d
set_option linter.unusedVariables false
namespace Go.Proofs
open Go.Sx Go.RowKit
def dOf (ks k : List Int) : Int := diffTo ks k ks.length
theorem diffTo_app (ks p t : List Int) : ∀ i : Nat, i ≤ p.length → diffTo ks (p ++ t) i = diffTo ks p i
  | 0, _ => rfl
  | i + 1, h => by
    unfold diffTo
    rw [diffTo_app ks p t i (by omega), app_getD p t i (by omega)]
theorem diffTo_mono (a b : List Int) (i : Nat) : ∀ j : Nat, diffTo a b i ≤ diffTo a b (i + j)
  | 0 => Int.le_refl _
  | j + 1 => by
    have h := diffTo_mono a b i j
    have e : diffTo a b (i + (j + 1)) = if a.getD (i + j) 0 ≠ b.getD (i + j) 0 then diffTo a b (i + j) + 1 else diffTo a b (i + j) := rfl
    rw [e]
    split <;> omega
def near (ks : List Int) (T : Int) (l : List (List Int)) : Int := ((l.filter fun k => decide (dOf ks k = T)).length : Int)
theorem near_app (ks : List Int) (T : Int) (a b : List (List Int)) : near ks T (a ++ b) = near ks T a + near ks T b := by simp [near]
theorem near_le (ks : List Int) (T : Int) (a : List (List Int)) : 0 ≤ near ks T a ∧ near ks T a ≤ a.length := by
  have := List.length_filter_le (fun k => decide (dOf ks k = T)) a
  unfold near
  omega
theorem near_none {ks : List Int} {T : Int} {l : List (List Int)} (h : ∀ k ∈ l, dOf ks k ≠ T) : near ks T l = 0 := by
  unfold near
  rw [List.filter_eq_nil_iff.2]
  · rfl
  · intro k hk
    simp [h k hk]
def nearCode (M : Mk) (ks : List Int) (df : Int) : Int := if kCode M [ks] = 0 then (if 0 ≤ df ∧ df ≤ M.c then 0 else 2) else kCode M [ks]
def nearR (M : Mk) (ks : List Int) (df : Int) : Value := if nearCode M ks df = 0 then .tuple #[.int .i64 (near ks df (keys M)), .int .i64 0] else .tuple #[.int .i64 0, .int .i64 (nearCode M ks df)]
theorem nearR_pair (M : Mk) (ks : List Int) (df : Int) : ∃ x y, nearR M ks df = .tuple #[.int .i64 x, .int .i64 y] := by unfold nearR; split <;> exact ⟨_, _, rfl⟩
theorem dOf_ge {ks p k : List Int} {M : Mk} {n : Nat} (hk : k ∈ GA M n p) (h : p.length ≤ ks.length) : diffTo ks p p.length ≤ dOf ks k := by
  obtain ⟨t, rfl, _⟩ := G_pre hk
  rw [← diffTo_app ks p t p.length (Nat.le_refl _)]
  have := diffTo_mono ks (p ++ t) p.length (ks.length - p.length)
  rw [show p.length + (ks.length - p.length) = ks.length by omega] at this
  exact this
theorem dSnoc (ks p : List Int) (x : Int) (h : p.length < ks.length) : diffTo ks (p ++ [x]) (p ++ [x]).length = if x ≠ ks[p.length] then diffTo ks p p.length + 1 else diffTo ks p p.length := by
  have e : (p ++ [x]).length = p.length + 1 := by simp
  rw [e]
  have e2 : (p ++ [x]).getD p.length 0 = x := by simp [List.getD]
  simp only [diffTo]
  rw [diffTo_app ks p [x] p.length (Nat.le_refl _), getD_get h, e2]
  by_cases hx : x = ks[p.length]
  · rw [if_neg (fun hh => hh hx.symm), if_neg (fun hh => hh hx)]
  · rw [if_pos (fun hh => hx hh.symm), if_pos hx]
def spec_l03Near_A (m_Chambers : Int) (m_Depths : Int) (m_Step : Int) (m_Same : Int) (m_Least : Int) (u : Value) (v : Value) (n : Int) (w : World) : Nat → Ann := fun κ => match κ with
  | 0 => { σ := Int × Int, sli := [10, 9], slc := fun s => [SV.v (Value.int .i64 s.1), SV.v (Value.int .i64 s.2)], bxi := [], bxc := fun s => [], inv := fun s W => True, μ := fun s W => 0, free := true }
  | _ => { σ := Unit, sli := [], slc := fun _ => [], bxi := [], bxc := fun _ => [], inv := fun _ _ => False, μ := fun _ _ => 0 }
abbrev spec_l03Near_k0 (Post : Value → World → Prop) (x74 : Int) (n111 : Int) (w144 : World) : Prop :=
  (((n111 < x74) → Post (Value.int .i64 0) w144) ∧ (¬ (n111 < x74) → Post (Value.int .i64 1) w144))
abbrev spec_l03Near_k1 (s206 : Int × Int) (w207 : World) (J208 : (Int × Int) → World → Prop) (m209 : (Int × Int) → World → Nat) (x270 : Int) (x271 : Int) (w299 : World) : Prop :=
  I64 (x271 + 1) ∧ ∃ s300 : (Int × Int), (Value.int .i64 (x271 + 1)) = (Value.int .i64 s300.1) ∧ (Value.int .i64 x270) = (Value.int .i64 s300.2) ∧ (J208 s300 w299) ∧ (m209 s300 w299) < (m209 s206 w207)
abbrev spec_l03Near_k2 (w : World) (s206 : Int × Int) (w207 : World) (J208 : (Int × Int) → World → Prop) (m209 : (Int × Int) → World → Nat) (w233 : World) (x238 : Int) (x251 : Int) (x252 : Int) (x253 : Int) (x254 : Int) (x255 : Int) (x256 : Int) (x257 : Value) (x259 : Value) (x260 : Int) (x261 : Int) (w262 : World) : Prop :=
  ∀ (v263 : Value) (w264 : World), Own w262.heap.size w264 2 v263 [(Value.int .i64 x260)] → Ext w262 w264 → AppV w264 2 x259 v263 (fun v265 w266 => Ext w233 w266 ∧ Calls Try.prog 108 #[(Value.agg #[(Value.int .i64 x252), (Value.int .i64 x253), (Value.int .i64 x254), (Value.int .i64 x255), (Value.int .i64 x256)]), x257, v265, (Value.int .i64 x261)] w266 (fun e267 w268 => ∃ n269 : Int, e267 = .returned (Value.int .i64 n269) ∧ Keeps w.heap.size [25] w266 w268 ∧ Ext w233 w268 ∧ I64 (x251 + n269) ∧ (spec_l03Near_k1 s206 w207 J208 m209 (x251 + n269) x238 w268)))
abbrev spec_l03Near_k3 (w : World) (s206 : Int × Int) (w207 : World) (J208 : (Int × Int) → World → Prop) (m209 : (Int × Int) → World → Nat) (w233 : World) (x304 : Int) (x317 : Int) (x318 : Int) (x319 : Int) (x320 : Int) (x321 : Int) (x322 : Int) (x323 : Value) (x324 : Value) (x326 : Value) (x327 : Int) (w328 : World) : Prop :=
  Calls Try.prog 95 #[x324] w328 (fun e329 w330 => ∃ u331 : Value, e329 = .returned u331 ∧ Keeps w.heap.size [25] w328 w330 ∧ Ext w233 w330 ∧ AppV w330 2 u331 x326 (fun v332 w333 => Ext w233 w333 ∧ Calls Try.prog 108 #[(Value.agg #[(Value.int .i64 x318), (Value.int .i64 x319), (Value.int .i64 x320), (Value.int .i64 x321), (Value.int .i64 x322)]), x323, v332, (Value.int .i64 x327)] w333 (fun e334 w335 => ∃ n336 : Int, e334 = .returned (Value.int .i64 n336) ∧ Keeps w.heap.size [25] w333 w335 ∧ Ext w233 w335 ∧ I64 (x317 + n336) ∧ (spec_l03Near_k1 s206 w207 J208 m209 (x317 + n336) x304 w335))))
abbrev spec_l03Near_k4 (w : World) (x182 : Value) (x183 : Value) (x199 : Int) (x200 : Int) (x201 : Int) (x202 : Int) (x203 : Int) (s206 : Int × Int) (w207 : World) (J208 : (Int × Int) → World → Prop) (m209 : (Int × Int) → World → Nat) (x218 : Int) (x219 : Int) (x220 : Int) (w232 : World) : Prop :=
  ∀ w233 : World, Ext w232 w233 → ((Calls Try.prog 95 #[x183] w233 (fun e234 w235 => ∃ u236 : Value, e234 = .returned u236 ∧ Keeps w.heap.size [25] w233 w235 ∧ Ext w233 w235 ∧ (spec_l03Near_k2 w s206 w207 J208 m209 w233 x219 x218 x199 x200 x201 x202 x203 x182 u236 x219 x220 w235))) ∧ (∀ (v301 : Value) (w302 : World), Own w233.heap.size w302 2 v301 [(Value.int .i64 x219)] → Ext w233 w302 → (spec_l03Near_k3 w s206 w207 J208 m209 w233 x219 x218 x199 x200 x201 x202 x203 x182 x183 v301 x220 w302)))
abbrev spec_l03Near_k5 (w : World) (x182 : Value) (x183 : Value) (x184 : Int) (x199 : Int) (x200 : Int) (x201 : Int) (x202 : Int) (x203 : Int) (s206 : Int × Int) (w207 : World) (J208 : (Int × Int) → World → Prop) (m209 : (Int × Int) → World → Nat) (x210 : Int) (x211 : Int) (w214 : World) : Prop :=
  LenV x183 (fun n215 => IxV 1 x182 n215 (fun ad216 => ∃ n217 : Int, LdV w214 (Value.pointer (some ad216)) (Value.int .i64 n217) ∧ (((x211 ≠ n217) → I64 (x184 - 1) ∧ (spec_l03Near_k4 w x182 x183 x199 x200 x201 x202 x203 s206 w207 J208 m209 x210 x211 (x184 - 1) w214)) ∧ (¬ (x211 ≠ n217) → (spec_l03Near_k4 w x182 x183 x199 x200 x201 x202 x203 s206 w207 J208 m209 x210 x211 x184 w214)))))
abbrev spec_l03Near_k6 (w : World) (Post : Value → World → Prop) (x182 : Value) (x183 : Value) (x184 : Int) (x199 : Int) (x200 : Int) (x201 : Int) (x202 : Int) (x203 : Int) (w204 : World) : Prop :=
  (∃ (J208 : (Int × Int) → World → Prop) (m209 : (Int × Int) → World → Nat), ((∃ s205 : (Int × Int), (Value.int .i64 0) = (Value.int .i64 s205.1) ∧ (Value.int .i64 0) = (Value.int .i64 s205.2) ∧ (J208 s205 w204)) ∧ ∀ (s206 : (Int × Int)) (w207 : World), (J208 s206 w207) → (((s206.1 < x200) → (spec_l03Near_k5 w x182 x183 x184 x199 x200 x201 x202 x203 s206 w207 J208 m209 s206.2 s206.1 w207)) ∧ (¬ (s206.1 < x200) → Post (Value.int .i64 s206.2) w207))))
abbrev spec_l03Near_k7 (w : World) (Post : Value → World → Prop) (x57 : Value) (x58 : Value) (x59 : Int) (x70 : Int) (x71 : Int) (x72 : Int) (x73 : Int) (x74 : Int) (w75 : World) : Prop :=
  LenV x58 (fun n76 => LenV x57 (fun n77 => (((n76 = n77) → ((((0 : Int) < x59) → ∀ w78 : World, Ext w75 w78 → Post (Value.int .i64 0) w78) ∧ (¬ ((0 : Int) < x59) → ∃ n111 : Int, (∀ w108 : World, Ext w75 w108 → Calls Try.prog 144 #[x58] w108 (fun e109 w110 => e109 = .returned (Value.int .i64 n111) ∧ Ext w108 w110)) ∧ ∀ w112 : World, Ext w75 w112 → (spec_l03Near_k0 Post x74 n111 w112)))) ∧ (¬ (n76 = n77) → (spec_l03Near_k6 w Post x57 x58 x59 x70 x71 x72 x73 x74 w75)))))
abbrev spec_l03Near_k8 (n : Int) (w : World) (Post : Value → World → Prop) (x33 : Value) (x34 : Value) (x35 : Int) (x46 : Int) (x47 : Int) (x48 : Int) (x49 : Int) (x50 : Int) (w51 : World) : Prop :=
  (((n < (0 : Int)) → Post (Value.int .i64 0) w51) ∧ (¬ (n < (0 : Int)) → (spec_l03Near_k7 w Post x33 x34 x35 x46 x47 x48 x49 x50 w51)))
def spec_l03Near_vc (m_Chambers : Int) (m_Depths : Int) (m_Step : Int) (m_Same : Int) (m_Least : Int) (u : Value) (v : Value) (n : Int) (w : World) (Post : Value → World → Prop) : Prop :=
  ∀ w1 : World, Ext w w1 → Calls Try.prog 143 #[(Value.agg #[(Value.int .i64 m_Chambers), (Value.int .i64 m_Depths), (Value.int .i64 m_Step), (Value.int .i64 m_Same), (Value.int .i64 m_Least)]), v] w1 (fun e2 w3 => ∃ b4 : Bool, e2 = .returned (Value.bool b4) ∧ Keeps w.heap.size [25] w1 w3 ∧ (((!b4) = true → Post (Value.int .i64 0) w3) ∧ ((!b4) = false → (spec_l03Near_k8 n w Post u v n m_Chambers m_Depths m_Step m_Same m_Least w3))))
theorem spec_l03Near_eq (m_Chambers : Int) (m_Depths : Int) (m_Step : Int) (m_Same : Int) (m_Least : Int) (u : Value) (v : Value) (n : Int) (w : World) (Post : Value → World → Prop) : denF Try.prog [1000095, 9000001] (spec_l03Near_A m_Chambers m_Depths m_Step m_Same m_Least u v n w) 108 [(Value.agg #[(Value.int .i64 m_Chambers), (Value.int .i64 m_Depths), (Value.int .i64 m_Step), (Value.int .i64 m_Same), (Value.int .i64 m_Least)]), u, v, (Value.int .i64 n)] w Post = spec_l03Near_vc m_Chambers m_Depths m_Step m_Same m_Least u v n w Post := by kernel_rfl
set_option maxRecDepth 100000 in
theorem spec_l03Near_calls (m_Chambers : Int) (m_Depths : Int) (m_Step : Int) (m_Same : Int) (m_Least : Int) (u : Value) (v : Value) (n : Int) (w : World) (Post : Value → World → Prop) (hvc : spec_l03Near_vc m_Chambers m_Depths m_Step m_Same m_Least u v n w Post) : Ret Try.prog 108 #[(Value.agg #[(Value.int .i64 m_Chambers), (Value.int .i64 m_Depths), (Value.int .i64 m_Step), (Value.int .i64 m_Same), (Value.int .i64 m_Least)]), u, v, (Value.int .i64 n)] w Post :=
  Ret.of (denF_sound mixed (Eq.mpr (spec_l03Near_eq m_Chambers m_Depths m_Step m_Same m_Least u v n w Post) hvc))

theorem spec_l03Near_val {M : Mk} (hM : M.Ok) (u : Value) (ks : List Int) (T : Int) (hkl : (ks.length : Int) = M.c) (hT : T ≤ 1000) : ∀ (n : Nat) (p : List Int) (v : Value) (df : Int) (w : World), (p.length : Int) + n = M.c → CutsOk M.d p → RI w v p → RI w u ks → df = T - diffTo ks p p.length →
    Val Try.prog 108 #[mkV M.c M.d M.s M.m M.l, u, v, .int .i64 df] w (.int .i64 (near ks T (GA M n p))) := by
  obtain ⟨hm1, hm2, hm3, hm4, hm5⟩ := hM
  intro n
  induction n with
  | zero =>
    intro p v df w hp hc hv hu hdf
    refine Ret.val (spec_l03Near_calls M.c M.d M.s M.m M.l u v df w _ ?_)
    unfold spec_l03Near_vc
    intro w1 h1
    refine (spec_l02Begins_val M.c M.d M.s M.m M.l v p w1 (hv.ext h1) (by omega) hc).call fun w2 h2 => ⟨_, rfl, h2.keeps, fun hb => ⟨?_, h1.trans h2⟩, fun hb => ?_⟩
    · rw [GA, G_not (nd_t hb)]; rfl
    have k2 := h1.trans h2
    have hpl : p.length = ks.length := by omega
    have hd : dOf ks p = diffTo ks p p.length := by unfold dOf; rw [hpl]
    have hno : df ≠ 0 → near ks T (GA M 0 p) = 0 := fun hne => near_none fun k hk => by
      obtain ⟨t, rfl, ht⟩ := G_pre hk
      have : t = [] := List.eq_nil_of_length_eq_zero ht
      subst this
      rw [List.append_nil, hd]
      omega
    refine ⟨fun hneg => ⟨ieq (hno (by omega)).symm, k2⟩, fun hpos => ?_⟩
    refine (hv.ext k2).len ((hu.ext k2).len ⟨fun _ => ⟨fun hgt w3 h3 => ⟨ieq (hno (by omega)).symm, k2.trans h3⟩, fun hle => ?_⟩, fun hne => absurd (by omega) hne⟩)
    have hz : T = dOf ks p := by omega
    refine ⟨_, fun w3 h3 => (spec_l02Kinds_val v p w3 (hv.ext (k2.trans h3))).call fun _ h => ⟨rfl, h⟩, fun w3 h3 => ⟨fun hlt => ⟨ieq ?_, k2.trans h3⟩, fun hge => ⟨ieq ?_, k2.trans h3⟩⟩⟩
    · simp only [GA, G]; rw [if_neg (by omega)]; rfl
    · simp only [GA, G]; rw [if_pos ⟨nd_f hb, by omega⟩, near, hz]; simp
  | succ n ih =>
    intro p v df w hp hc hv hu hdf
    refine Ret.val (spec_l03Near_calls M.c M.d M.s M.m M.l u v df w _ ?_)
    unfold spec_l03Near_vc
    intro w1 h1
    refine (spec_l02Begins_val M.c M.d M.s M.m M.l v p w1 (hv.ext h1) (by omega) hc).call fun w2 h2 => ⟨_, rfl, h2.keeps, fun hb => ⟨?_, h1.trans h2⟩, fun hb => ?_⟩
    · rw [GA, G_not (nd_t hb)]; rfl
    have k2 := h1.trans h2
    have hpl : p.length < ks.length := by omega
    have hdr := diffTo_range ks p p.length
    refine ⟨fun hneg => ⟨ieq (near_none fun k hk => ?_).symm, k2⟩, fun hpos => ?_⟩
    · have := dOf_ge hk (show p.length ≤ ks.length by omega)
      omega
    refine (hv.ext k2).len ((hu.ext k2).len ⟨fun he => absurd he (by omega), fun _ => ?_⟩)
    refine ⟨fun s W => 0 ≤ s.1 ∧ s.1 ≤ M.d ∧ s.2 = near ks T (upto M n p s.1) ∧ Ext w W, fun s _ => (M.d - s.1).toNat, ⟨(0, 0), rfl, rfl, Int.le_refl _, by simp only; omega, rfl, k2⟩, ?_⟩
    rintro ⟨x, a⟩ w3 ⟨hx0, hx, ha, k3⟩
    simp only at hx0 hx ha
    refine ⟨fun hlt => ?_, fun hge => ⟨ieq ?_, k3⟩⟩
    · simp only at hlt
      refine (hv.ext k3).len ((hu.ext k3).get p.length rfl hpl ?_)
      have hsn := dSnoc ks p x hpl
      have step : ∀ left : Int, left = T - diffTo ks (p ++ [x]) (p ++ [x]).length → spec_l03Near_k4 w u v M.c M.d M.s M.m M.l (x, a) w3 (fun s W => 0 ≤ s.1 ∧ s.1 ≤ M.d ∧ s.2 = near ks T (upto M n p s.1) ∧ Ext w W) (fun s _ => (M.d - s.1).toNat) a x left w3 := by
        intro left hleft w4 h4
        have k4 := k3.trans h4
        refine own_snoc (hv.ext k4) (by omega) fun t w5 o5 h5 => ?_
        refine (ih (p ++ [x]) t left w5 (by simp; omega) (hc.snoc hx0 hlt) o5.rd (hu.ext (k4.trans h5)) hleft).call fun w6 h6 => ⟨_, rfl, h6.keeps, h5.trans h6, ?_⟩
        have hmax := G_max (M := M) (by omega) All (n := n + 1) (by omega) p
        obtain ⟨r, hr⟩ := upto_pre (M := M) (n := n) (p := p) (x := x + 1) (by omega)
        have hr' := congrArg List.length hr
        rw [List.length_append, upto_succ hx0, List.length_append] at hr'
        have hmax' : (GA M (n + 1) p).length ≤ 262144 := hmax
        have e1 := near_le ks T (upto M n p x)
        have e2 := near_le ks T (GA M n (p ++ [x]))
        refine ⟨by unfold I64; omega, by unfold I64; omega, (x + 1, _), rfl, rfl, ⟨by simp only; omega, by simp only; omega, ?_, (k4.trans h5).trans h6⟩, by simp only; omega⟩
        simp only
        rw [upto_succ hx0, near_app, ha]
      refine ⟨fun hne => ⟨by unfold I64; omega, step _ ?_⟩, fun he => step _ ?_⟩
      · rw [hsn, if_pos hne]; omega
      · rw [hsn, if_neg he]; omega
    · simp only at hge
      have : x = M.d := by omega
      simp only
      rw [ha, this, upto_all]
abbrev spec_KeysNear_k0 (w : World) (Post : Value → World → Prop) (x71 : Value) (x72 : Int) (x90 : Int) (x91 : Int) (x92 : Int) (x93 : Int) (x94 : Int) (w95 : World) : Prop :=
  Calls Try.prog 108 #[(Value.agg #[(Value.int .i64 x90), (Value.int .i64 x91), (Value.int .i64 x92), (Value.int .i64 x93), (Value.int .i64 x94)]), x71, (Value.slice none 0 0), (Value.int .i64 x72)] w95 (fun e96 w97 => ∃ n98 : Int, e96 = .returned (Value.int .i64 n98) ∧ Keeps w.heap.size [25] w95 w97 ∧ Post (Value.tuple #[(Value.int .i64 n98), (Value.int .i64 0)]) w97)
abbrev spec_KeysNear_k1 (w : World) (Post : Value → World → Prop) (x42 : Value) (x43 : Int) (x46 : Int) (x60 : Int) (x61 : Int) (x62 : Int) (x63 : Int) (x64 : Int) (w65 : World) : Prop :=
  (((x46 ≠ (0 : Int)) → Post (Value.tuple #[(Value.int .i64 0), (Value.int .i64 x46)]) w65) ∧ (¬ (x46 ≠ (0 : Int)) → (spec_KeysNear_k0 w Post x42 x43 x60 x61 x62 x63 x64 w65)))
abbrev spec_KeysNear_k2 (w : World) (Post : Value → World → Prop) (x13 : Value) (x14 : Int) (x17 : Int) (x30 : Bool) (x31 : Int) (x32 : Int) (x33 : Int) (x34 : Int) (x35 : Int) (w36 : World) : Prop :=
  ((x30 = true → (spec_KeysNear_k1 w Post x13 x14 2 x31 x32 x33 x34 x35 w36)) ∧ (x30 = false → (spec_KeysNear_k1 w Post x13 x14 x17 x31 x32 x33 x34 x35 w36)))
def spec_KeysNear_vc (m_Chambers : Int) (m_Depths : Int) (m_Step : Int) (m_Same : Int) (m_Least : Int) (v : Value) (n : Int) (w : World) (Post : Value → World → Prop) : Prop :=
  ∀ w1 : World, Ext w w1 → Calls Try.prog 89 #[(Value.agg #[(Value.int .i64 m_Chambers), (Value.int .i64 m_Depths), (Value.int .i64 m_Step), (Value.int .i64 m_Same), (Value.int .i64 m_Least)]), v] w1 (fun e2 w3 => ∃ n4 : Int, e2 = .returned (Value.int .i64 n4) ∧ Keeps w.heap.size [25] w1 w3 ∧ (((n4 = (0 : Int)) → Calls Try.prog 107 #[(Value.int .i64 n), (Value.int .i64 0), (Value.int .i64 m_Chambers)] w3 (fun e5 w6 => ∃ b7 : Bool, e5 = .returned (Value.bool b7) ∧ Keeps w.heap.size [25] w3 w6 ∧ (spec_KeysNear_k2 w Post v n n4 (!b7) m_Chambers m_Depths m_Step m_Same m_Least w6))) ∧ (¬ (n4 = (0 : Int)) → (spec_KeysNear_k1 w Post v n n4 m_Chambers m_Depths m_Step m_Same m_Least w3))))
theorem spec_KeysNear_eq (m_Chambers : Int) (m_Depths : Int) (m_Step : Int) (m_Same : Int) (m_Least : Int) (v : Value) (n : Int) (w : World) (Post : Value → World → Prop) : denF Try.prog [] noAnn 37 [(Value.agg #[(Value.int .i64 m_Chambers), (Value.int .i64 m_Depths), (Value.int .i64 m_Step), (Value.int .i64 m_Same), (Value.int .i64 m_Least)]), v, (Value.int .i64 n)] w Post = spec_KeysNear_vc m_Chambers m_Depths m_Step m_Same m_Least v n w Post := by kernel_rfl
set_option maxRecDepth 100000 in
theorem spec_KeysNear_calls (m_Chambers : Int) (m_Depths : Int) (m_Step : Int) (m_Same : Int) (m_Least : Int) (v : Value) (n : Int) (w : World) (Post : Value → World → Prop) (hvc : spec_KeysNear_vc m_Chambers m_Depths m_Step m_Same m_Least v n w Post) : Ret Try.prog 37 #[(Value.agg #[(Value.int .i64 m_Chambers), (Value.int .i64 m_Depths), (Value.int .i64 m_Step), (Value.int .i64 m_Same), (Value.int .i64 m_Least)]), v, (Value.int .i64 n)] w Post :=
  Ret.of (denF_sound mixed (Eq.mpr (spec_KeysNear_eq m_Chambers m_Depths m_Step m_Same m_Least v n w Post) hvc))

theorem spec_KeysNear_val (M : Mk) (v : Value) (zs : List Int) (n : Int) (w : World) (hv : RI w v zs) : Val Try.prog 37 #[mkV M.c M.d M.s M.m M.l, v, .int .i64 n] w (nearR M zs n) :=
  Ret.val (spec_KeysNear_calls M.c M.d M.s M.m M.l v n w _ (by
    unfold spec_KeysNear_vc
    intro w1 h1
    have no : ∀ (x : Int) (W : World), Ext w W → nearCode M zs n = x → x ≠ 0 → spec_KeysNear_k1 w (fun u W => u = nearR M zs n ∧ Ext w W) v n x M.c M.d M.s M.m M.l W := by
      intro x W e hx hne
      refine ⟨fun _ => ⟨?_, e⟩, fun h => absurd hne h⟩
      unfold nearR; rw [if_neg (by rw [hx]; exact hne), hx]
    refine (spec_l02Code_val M v zs w1 (hv.ext h1)).call fun w2 h2 => ⟨_, rfl, h2.keeps, fun he => ?_, fun hne => no _ _ (h1.trans h2) (by unfold nearCode; rw [if_neg hne]) hne⟩
    have k2 := h1.trans h2
    refine (spec_l01In_val ..).call fun w3 h3 => ⟨_, rfl, h3.keeps, fun hb => ?_, fun hb => ?_⟩
    · have hb := nd_t hb
      exact no _ _ (k2.trans h3) (by unfold nearCode; rw [if_pos he, if_neg hb]) (by decide)
    · have hb := nd_f hb
      have k3 := k2.trans h3
      obtain ⟨hm, hk⟩ := kCode_zero he
      have hk := hk zs (by simp)
      have hcm := hm.1
      have hco : nearCode M zs n = 0 := by unfold nearCode; rw [if_pos he, if_pos hb]
      refine ⟨fun hne => absurd he hne, fun _ => ?_⟩
      refine (spec_l03Near_val hm v zs n hk.1 (by omega) M.c.toNat [] (.slice none 0 0) n w3 (by simp; omega) (by intro z hz; simp at hz) (RI.nil_ w3 0 (Nat.zero_le _)) (hv.ext k3) (by simp [diffTo])).call fun w4 h4 => ⟨_, rfl, h4.keeps, ?_, k3.trans h4⟩
      unfold nearR; rw [if_pos hco]))
/-! ### the program -/
def impl_KeysNear_1_vc (v : Value) (b0 : Nat) (b1 : Nat) (b2 : Nat) (w : World) (Post : Value → World → Prop) : Prop :=
  ∃ u1 : Value, LdV w (Value.pointer (some (⟨b0, 0, none⟩))) u1 ∧ ∃ n5 : Int, (∀ w2 : World, Ext w w2 → Calls Try.prog 106 #[u1, v] w2 (fun e3 w4 => e3 = .returned (Value.int .i64 n5) ∧ Ext w2 w4)) ∧ ∃ n6 : Int, LdV w (Value.pointer (some (⟨b1, 0, none⟩))) (Value.int .i64 n6) ∧ ∀ w7 : World, Ext w w7 → (((n5 = n6) → ∃ n8 : Int, LdV w7 (Value.pointer (some (⟨b2, 0, none⟩))) (Value.int .i64 n8) ∧ I64 (n8 + 1) ∧ StV w.heap.size [] w7 (Value.pointer (some (⟨b2, 0, none⟩))) (Value.int .i64 (n8 + 1)) (fun w9 => Post (Value.bool true) w9)) ∧ (¬ (n5 = n6) → Post (Value.bool true) w7))
theorem impl_KeysNear_1_eq (v : Value) (b0 : Nat) (b1 : Nat) (b2 : Nat) (w : World) (Post : Value → World → Prop) : denF Try.prog [] noAnn 105 [v, (Value.pointer (some (⟨b0, 0, none⟩))), (Value.pointer (some (⟨b1, 0, none⟩))), (Value.pointer (some (⟨b2, 0, none⟩)))] w Post = impl_KeysNear_1_vc v b0 b1 b2 w Post := by kernel_rfl
set_option maxRecDepth 100000 in
theorem impl_KeysNear_1_calls (v : Value) (b0 : Nat) (b1 : Nat) (b2 : Nat) (w : World) (Post : Value → World → Prop) (hvc : impl_KeysNear_1_vc v b0 b1 b2 w Post) : Ret Try.prog 105 #[v, (Value.pointer (some (⟨b0, 0, none⟩))), (Value.pointer (some (⟨b1, 0, none⟩))), (Value.pointer (some (⟨b2, 0, none⟩)))] w Post :=
  Ret.of (denF_sound mixed (Eq.mpr (impl_KeysNear_1_eq v b0 b1 b2 w Post) hvc))

def nearJ (wb : World) (b0 b1 b2 : Nat) (kv : Value) (ks : List Int) (df : Int) : (Nat → Prop) → List (List Int) → World → Prop := fun K done w =>
  ¬ K b0 ∧ ¬ K b1 ∧ ¬ K b2 ∧ (∀ b, b < wb.heap.size → ¬ K b) ∧ Ext wb w ∧ w.heap[b0]? = some (.cells #[kv] 36 (0, 0)) ∧ w.heap[b1]? = some (.cells #[.int .i64 df] 2 (0, 0)) ∧ w.heap[b2]? = some (.cells #[.int .i64 (near ks df done)] 2 (0, 0))
theorem near_visitor (wb : World) (b0 b1 b2 : Nat) (kv : Value) (ks : List Int) (df : Int) (h0 : wb.heap.size ≤ b0) (h1 : wb.heap.size ≤ b1) (h2 : wb.heap.size ≤ b2) (hne : b0 ≠ b2) (hne' : b1 ≠ b2) (hkv : RI wb kv ks) {L : List (List Int)} (hL : L.length ≤ 262144) (hkl : ks.length ≤ 100) (hk : ∀ k ∈ L, ks.length = k.length) : Visitor Try.prog 105 [bp b0, bp b1, bp b2] (nearJ wb b0 b1 b2 kv ks df) (fun _ _ => true) L where
  ok := by kernel_rfl
  env := by
    rintro K done w w' ⟨n0, n1, n2, nb, e, c0, c1, c2⟩ hp
    have hs := e.size
    exact ⟨fun hg => hg.elim n0 fun hg => absurd (heap_lt c0) (by omega), fun hg => hg.elim n1 fun hg => absurd (heap_lt c1) (by omega), fun hg => hg.elim n2 fun hg => absurd (heap_lt c2) (by omega), fun b hb hg => hg.elim (nb b hb) fun hg => by omega, hp.ext e nb, (hp.block _ (heap_lt c0) n0).trans c0, (hp.block _ (heap_lt c1) n1).trans c1, (hp.block _ (heap_lt c2) n2).trans c2⟩
  call := by
    rintro K done k w v ⟨n0, n1, n2, nb, e, c0, c1, c2⟩ hK hv ⟨r, hr⟩
    have hlen := congrArg List.length hr
    simp only [List.length_append, List.length_cons] at hlen
    have hkk := hk k (by rw [hr]; simp)
    have hcl := near_le ks df done
    refine (impl_KeysNear_1_calls v b0 b1 b2 w (fun u w' => u = .bool true ∧ Pres K w w' ∧ nearJ wb b0 b1 b2 kv ks df K (done ++ [k]) w') ?_).call fun u w' h => ⟨by rw [h.1], h.2⟩
    unfold impl_KeysNear_1_vc
    refine ⟨kv, ld_one c0, _, fun w2 h2 => (impl_differenceOf_val kv v ks k w2 (hkv.ext (e.trans h2)) (hv w2 (h2.pres K)) hkk hkl).call fun _ hx => ⟨rfl, hx⟩, df, ld_one c1, fun w2 h2 => ?_⟩
    have d0 := (h2.block _ (heap_lt c0)).trans c0
    have d1 := (h2.block _ (heap_lt c1)).trans c1
    have d2 := (h2.block _ (heap_lt c2)).trans c2
    refine ⟨fun heq => ?_, fun hno => ⟨rfl, h2.pres K, n0, n1, n2, nb, e.trans h2, d0, d1, ?_⟩⟩
    · refine ⟨_, ld_one d2, by unfold I64; omega, st_one d2 rfl (.inr (by simp)) fun w3 f2 p3 z3 => ⟨rfl, (h2.pres K).trans (p3.mono fun b _ hb => ?_), n0, n1, n2, nb, p3.ext (e.trans h2) fun b hb => by omega, (p3.block b0 (heap_lt d0) hne).trans d0, (p3.block b1 (heap_lt d1) hne').trans d1, ?_⟩⟩
      · rintro rfl
        exact n2 hb
      · have e1 : near ks df (done ++ [k]) = near ks df done + 1 := by
          rw [near_app]
          congr 1
          have hd : dOf ks k = df := heq
          simp [near, hd]
        rw [e1]
        exact f2
    · have e1 : near ks df (done ++ [k]) = near ks df done := by
        rw [near_app, near_none (l := [k]) fun x hx => by
          simp only [List.mem_singleton] at hx
          subst hx
          exact hno]
        omega
      rw [e1]
      exact d2
abbrev impl_KeysNear_k0 (w : World) (Post : Value → World → Prop) (x50 : Addr) (x51 : Addr) (x68 : Int) (x69 : Int) (x70 : Int) (x71 : Int) (x72 : Int) (w73 : World) : Prop :=
  ∀ (b75 : Nat) (w74 : World), Ext w73 w74 → w73.heap.size ≤ b75 → w74.heap[b75]? = some (.cells #[(Value.int .i64 0)] 2 (0, 0)) → StV w.heap.size [25] w74 (Value.pointer (some (⟨b75, 0, none⟩))) (Value.int .i64 0) (fun w76 => Calls Try.prog 86 #[(Value.agg #[(Value.int .i64 x68), (Value.int .i64 x69), (Value.int .i64 x70), (Value.int .i64 x71), (Value.int .i64 x72)]), (Value.slice none 0 0), Value.nilFunc, (Value.func (.func 105) #[] #[(Value.pointer (some x50)), (Value.pointer (some x51)), (Value.pointer (some (⟨b75, 0, none⟩)))])] w76 (fun e77 w78 => e77 = .returned (Value.tuple #[]) ∧ Keeps w.heap.size [25] w76 w78 ∧ ∃ n79 : Int, LdV w78 (Value.pointer (some (⟨b75, 0, none⟩))) (Value.int .i64 n79) ∧ Post (Value.tuple #[(Value.int .i64 n79), (Value.int .i64 0)]) w78))
abbrev impl_KeysNear_k1 (w : World) (Post : Value → World → Prop) (x19 : Addr) (x20 : Addr) (x33 : Int) (x34 : Int) (x35 : Int) (x36 : Int) (x37 : Int) (w38 : World) : Prop :=
  ∃ n39 : Int, LdV w38 (Value.pointer (some x20)) (Value.int .i64 n39) ∧ Calls Try.prog 104 #[(Value.int .i64 n39), (Value.int .i64 0), (Value.int .i64 x33)] w38 (fun e40 w41 => ∃ b42 : Bool, e40 = .returned (Value.bool b42) ∧ Keeps w.heap.size [25] w38 w41 ∧ (((!b42) = true → Post (Value.tuple #[(Value.int .i64 0), (Value.int .i64 2)]) w41) ∧ ((!b42) = false → (impl_KeysNear_k0 w Post x19 x20 x33 x34 x35 x36 x37 w41))))
def impl_KeysNear_vc (m_Chambers : Int) (m_Depths : Int) (m_Step : Int) (m_Same : Int) (m_Least : Int) (v : Value) (n : Int) (w : World) (Post : Value → World → Prop) : Prop :=
  ∀ w1 : World, Ext w w1 → oneC v (∀ (b3 : Nat) (w2 : World), Ext w1 w2 → w1.heap.size ≤ b3 → w2.heap[b3]? = some (.cells #[v] 36 (0, 0)) → ∀ (b5 : Nat) (w4 : World), Ext w2 w4 → w2.heap.size ≤ b5 → w4.heap[b5]? = some (.cells #[(Value.int .i64 n)] 2 (0, 0)) → ∃ u6 : Value, LdV w4 (Value.pointer (some (⟨b3, 0, none⟩))) u6 ∧ oneC u6 (∀ (v7 : Value) (w8 : World), Own w4.heap.size w8 36 v7 [u6] → Ext w4 w8 → Calls Try.prog 85 #[(Value.agg #[(Value.int .i64 m_Chambers), (Value.int .i64 m_Depths), (Value.int .i64 m_Step), (Value.int .i64 m_Same), (Value.int .i64 m_Least)]), v7] w8 (fun e9 w10 => ∃ n11 : Int, e9 = .returned (Value.int .i64 n11) ∧ Keeps w.heap.size [25] w8 w10 ∧ (((n11 ≠ (0 : Int)) → Post (Value.tuple #[(Value.int .i64 0), (Value.int .i64 n11)]) w10) ∧ (¬ (n11 ≠ (0 : Int)) → (impl_KeysNear_k1 w Post (⟨b3, 0, none⟩) (⟨b5, 0, none⟩) m_Chambers m_Depths m_Step m_Same m_Least w10))))))
theorem impl_KeysNear_eq (m_Chambers : Int) (m_Depths : Int) (m_Step : Int) (m_Same : Int) (m_Least : Int) (v : Value) (n : Int) (w : World) (Post : Value → World → Prop) : denF Try.prog [4, 5, 9] noAnn 36 [(Value.agg #[(Value.int .i64 m_Chambers), (Value.int .i64 m_Depths), (Value.int .i64 m_Step), (Value.int .i64 m_Same), (Value.int .i64 m_Least)]), v, (Value.int .i64 n)] w Post = impl_KeysNear_vc m_Chambers m_Depths m_Step m_Same m_Least v n w Post := by kernel_rfl
set_option maxRecDepth 100000 in
theorem impl_KeysNear_calls (m_Chambers : Int) (m_Depths : Int) (m_Step : Int) (m_Same : Int) (m_Least : Int) (v : Value) (n : Int) (w : World) (Post : Value → World → Prop) (hvc : impl_KeysNear_vc m_Chambers m_Depths m_Step m_Same m_Least v n w Post) : Ret Try.prog 36 #[(Value.agg #[(Value.int .i64 m_Chambers), (Value.int .i64 m_Depths), (Value.int .i64 m_Step), (Value.int .i64 m_Same), (Value.int .i64 m_Least)]), v, (Value.int .i64 n)] w Post :=
  Ret.of (denF_sound mixed (Eq.mpr (impl_KeysNear_eq m_Chambers m_Depths m_Step m_Same m_Least v n w Post) hvc))

theorem impl_KeysNear_val (M : Mk) (v : Value) (zs : List Int) (n : Int) (w : World) (hv : RI w v zs) : Val Try.prog 36 #[mkV M.c M.d M.s M.m M.l, v, .int .i64 n] w (nearR M zs n) :=
  Ret.val (impl_KeysNear_calls M.c M.d M.s M.m M.l v n w _ (by
    unfold impl_KeysNear_vc
    intro w1 h1
    refine hv.oneC fun b3 w2 h2 g3 c3 b5 w3 h3 g5 c5 => ?_
    have c3a : w3.heap[b3]? = _ := (h3.block _ (heap_lt c3)).trans c3
    refine ⟨v, ld_one c3a, hv.oneC fun r w4 o4 h4 => ?_⟩
    have k4 := ((h1.trans h2).trans h3).trans h4
    refine (impl_keysCode_val M r [zs] w4 (RR.one1 o4 (hv.ext k4))).call fun w5 h5 => ⟨_, rfl, h5.keeps, fun hne => ⟨?_, k4.trans h5⟩, fun he => ?_⟩
    · have hco : nearCode M zs n = kCode M [zs] := by unfold nearCode; rw [if_neg hne]
      unfold nearR; rw [if_neg (by rw [hco]; exact hne), hco]
    have he := Classical.not_not.1 he
    have k5 := k4.trans h5
    obtain ⟨hm, hk⟩ := kCode_zero he
    have hk := hk zs (by simp)
    have hc := hm.1
    have c5b : w5.heap[b5]? = _ := ((h4.trans h5).block _ (heap_lt c5)).trans c5
    refine ⟨n, ld_one c5b, ?_⟩
    refine (impl_within_val ..).call fun w55 h55 => ⟨_, rfl, h55.keeps, fun hb => ⟨?_, k5.trans h55⟩, fun hb => ?_⟩
    · have hco : nearCode M zs n = 2 := by unfold nearCode; rw [if_pos he, if_neg (nd_t hb)]
      unfold nearR; rw [hco, if_neg (by decide)]
    have hb := nd_f hb
    have hco : nearCode M zs n = 0 := by unfold nearCode; rw [if_pos he, if_pos hb]
    have k55 := k5.trans h55
    intro b6 w6 h6 g6 c6
    have z1 := h1.size
    have z2 := h2.size
    have z3 := h3.size
    have z4 := h4.size
    have z5 := h5.size
    have z55 := h55.size
    have z6 := h6.size
    have s3 := heap_lt c3
    have s5 := heap_lt c5
    have s6 := heap_lt c6
    have c3' : w6.heap[b3]? = _ := ((((h4.trans h5).trans h55).trans h6).block b3 (heap_lt c3a)).trans c3a
    have c5' : w6.heap[b5]? = _ := ((((h4.trans h5).trans h55).trans h6).block b5 s5).trans c5
    refine st_one c6 rfl (.inr (by decide)) fun w7 c7 p7 z7 => ?_
    have X7 : Ext w w7 := p7.ext (k55.trans h6) fun b hb => by omega
    have c3'' : w7.heap[b3]? = _ := (p7.block b3 (by omega) (by omega)).trans c3'
    have c5'' : w7.heap[b5]? = _ := (p7.block b5 (by omega) (by omega)).trans c5'
    have hG : GT M All [] M.c.toNat [] false = keys M := GT_false _ _ _
    have hev := eachKey_calls (M := M) (al := All) (fr := []) (w := w7) (K0 := fun b => w.heap.size ≤ b ∧ b < w7.heap.size ∧ b ≠ b3 ∧ b ≠ b5 ∧ b ≠ b6) (frv := .slice none 0 0) (alv := .nilFunc) (tight := false) hm
      (near_visitor w b3 b5 b6 v zs n (by omega) (by omega) (by omega) (by omega) (by omega) hv (L := GT M All [] M.c.toNat [] false) (by rw [hG]; exact keys_max hm) (by have := hk.1; omega) (by rw [hG]; intro k hkm; have := keys_length (M := M) (by omega) hkm; have := hk.1; omega)) (AlOk.all _ _ _ _) NilS.nil_ (fun w' _ => RI.nil_ w' 0 (Nat.zero_le _)) (by intro z hz; simp at hz) (by simp) (fun b hb => hb.2.1)
      ⟨fun h => h.2.2.1 rfl, fun h => h.2.2.2.1 rfl, fun h => h.2.2.2.2 rfl, fun b hb h => by omega, X7, c3'', c5'', c7⟩
    refine hev.mono ?_
    rintro e w8 ⟨rfl, ⟨K, hK, _, _, _, _, e8, _, _, c8⟩, hp⟩
    rw [hG, vis_all, List.nil_append] at c8
    refine ⟨rfl, hp.keeps fun b cs T fz hb hh hT => ⟨hb, heap_lt hh, ?_, ?_, ?_⟩, _, ld_one c8, ?_, e8⟩
    · rintro rfl
      rw [c3''] at hh
      injection hh with hh
      injection hh with _ he _
      rw [← he] at hT
      exact absurd hT (by decide)
    · rintro rfl
      rw [c5''] at hh
      injection hh with hh
      injection hh with _ he _
      rw [← he] at hT
      exact absurd hT (by decide)
    · rintro rfl
      rw [c7] at hh
      injection hh with hh
      injection hh with _ he _
      rw [← he] at hT
      exact absurd hT (by decide)
    · unfold nearR
      rw [if_pos hco]))
end Go.Proofs
