/- Contracts: the nearest other key. No condition. -/
import Derived.Test.YtccekkkiaebnmaaL03d
set_option linter.unusedVariables false
namespace Go.Proofs
open Go.Sx Go.RowKit
theorem farTo_comm (a b : List Int) : ∀ k, farTo a b k = farTo b a k
  | 0 => rfl
  | k + 1 => by
    unfold farTo
    rw [farTo_comm a b k]
    omega
theorem farTo_nonneg (a b : List Int) : ∀ k, 0 ≤ farTo a b k
  | 0 => Int.le_refl _
  | k + 1 => by
    have := farTo_nonneg a b k
    unfold farTo
    omega
theorem farTo_same (a : List Int) : ∀ k, farTo a a k = 0
  | 0 => rfl
  | k + 1 => by
    unfold farTo
    rw [farTo_same a k]
    omega
theorem farTo_eq {a b : List Int} : ∀ k, farTo a b k ≤ 0 → ∀ i, i < k → a.getD i 0 = b.getD i 0
  | 0, _, i, hi => absurd hi (Nat.not_lt_zero i)
  | k + 1, h, i, hi => by
    have h0 := farTo_nonneg a b k
    unfold farTo at h
    rcases Nat.lt_or_ge i k with h1 | h1
    · exact farTo_eq k (by omega) i h1
    · have : i = k := by omega
      subst this
      omega
theorem far_pos {a b : List Int} (hl : a.length = b.length) : 0 < farTo a b a.length ↔ b ≠ a := by
  constructor
  · rintro h rfl
    rw [farTo_same] at h
    omega
  · intro h
    rcases Int.lt_or_le 0 (farTo a b a.length) with h1 | h1
    · exact h1
    · refine absurd (List.ext_getElem hl.symm fun i h2 h3 => ?_) h
      have := farTo_eq _ h1 i h3
      rw [getD_get h3, getD_get h2] at this
      exact this.symm
def farOf (ks k : List Int) : Int := farTo ks k ks.length
def nearS (ks best k : List Int) : List Int := if k ≠ ks ∧ (best = [] ∨ farOf ks k < farOf ks best) then k else best
def nearF (ks : List Int) (l : List (List Int)) : List Int := l.foldl (nearS ks) []
theorem nearF_snoc (ks : List Int) (l : List (List Int)) (k : List Int) : nearF ks (l ++ [k]) = nearS ks (nearF ks l) k := by
  unfold nearF
  rw [List.foldl_append]
  rfl
theorem nearF_mem (ks : List Int) (l : List (List Int)) : nearF ks l = [] ∨ nearF ks l ∈ l := by
  have gen : ∀ (l : List (List Int)) (a : List Int), l.foldl (nearS ks) a = a ∨ l.foldl (nearS ks) a ∈ l := by
    intro l
    induction l with
    | nil => intro a; exact .inl rfl
    | cons k l ih =>
      intro a
      rw [List.foldl_cons]
      rcases ih (nearS ks a k) with h | h
      · rw [h]
        unfold nearS
        split
        · exact .inr (List.mem_cons_self ..)
        · exact .inl rfl
      · exact .inr (List.mem_cons_of_mem _ h)
  exact gen l []
def nearestR (M : Mk) (ks : List Int) : List Int := if kCode M [ks] = 0 then nearF ks (keys M) else []
theorem nearestR_len (M : Mk) (ks : List Int) : (nearestR M ks).length ≤ 1000 := by
  unfold nearestR
  split
  · rename_i h
    have hm := (kCode_zero h).1
    have hc := hm.1
    rcases nearF_mem ks (keys M) with h1 | h1
    · rw [h1]; simp
    · have := keys_length (M := M) (by omega) h1
      omega
  · simp
def spec_l01Same_A (a : Value) (b : Value) (w : World) : Nat → Ann := fun κ => match κ with
  | 0 => { σ := Nat, sli := [5], slc := fun s => [SV.v (Value.int .i64 (s : Int))], bxi := [], bxc := fun s => [], inv := fun s W => True, μ := fun s W => 0, free := true }
  | _ => { σ := Unit, sli := [], slc := fun _ => [], bxi := [], bxc := fun _ => [], inv := fun _ _ => False, μ := fun _ _ => 0 }
abbrev spec_l01Same_k0 (s11 : Nat) (w12 : World) (J13 : Nat → World → Prop) (m14 : Nat → World → Nat) (x26 : Int) (w38 : World) : Prop :=
  I64 (x26 + 1) ∧ ∃ s39 : Nat, (Value.int .i64 (x26 + 1)) = (Value.int .i64 (s39 : Int)) ∧ (J13 s39 w38) ∧ (m14 s39 w38) < (m14 s11 w12)
abbrev spec_l01Same_k1 (Post : Value → World → Prop) (x3 : Value) (x4 : Value) (s11 : Nat) (w12 : World) (J13 : Nat → World → Prop) (m14 : Nat → World → Nat) (x16 : Int) (w20 : World) : Prop :=
  IxV 1 x3 x16 (fun ad21 => ∃ n22 : Int, LdV w20 (Value.pointer (some ad21)) (Value.int .i64 n22) ∧ IxV 1 x4 x16 (fun ad23 => ∃ n24 : Int, LdV w20 (Value.pointer (some ad23)) (Value.int .i64 n24) ∧ ∀ w25 : World, Ext w20 w25 → (((n22 ≠ n24) → Post (Value.bool false) w25) ∧ (¬ (n22 ≠ n24) → (spec_l01Same_k0 s11 w12 J13 m14 x16 w25)))))
abbrev spec_l01Same_k2 (Post : Value → World → Prop) (x3 : Value) (x4 : Value) (w9 : World) : Prop :=
  (∃ (J13 : Nat → World → Prop) (m14 : Nat → World → Nat), ((∃ s10 : Nat, (Value.int .i64 0) = (Value.int .i64 (s10 : Int)) ∧ (J13 s10 w9)) ∧ ∀ (s11 : Nat) (w12 : World), (J13 s11 w12) → LenV x3 (fun n15 => ((((s11 : Int) < n15) → (spec_l01Same_k1 Post x3 x4 s11 w12 J13 m14 (s11 : Int) w12)) ∧ (¬ ((s11 : Int) < n15) → Post (Value.bool true) w12)))))
def spec_l01Same_vc (a : Value) (b : Value) (w : World) (Post : Value → World → Prop) : Prop :=
  LenV a (fun n1 => LenV b (fun n2 => (((n1 ≠ n2) → Post (Value.bool false) w) ∧ (¬ (n1 ≠ n2) → (spec_l01Same_k2 Post a b w)))))
theorem spec_l01Same_eq (a : Value) (b : Value) (w : World) (Post : Value → World → Prop) : denF Try.prog [] (spec_l01Same_A a b w) 113 [a, b] w Post = spec_l01Same_vc a b w Post := by kernel_rfl
set_option maxRecDepth 100000 in
theorem spec_l01Same_calls (a : Value) (b : Value) (w : World) (Post : Value → World → Prop) (hvc : spec_l01Same_vc a b w Post) : Ret Try.prog 113 #[a, b] w Post :=
  Ret.of (denF_sound mixed (Eq.mpr (spec_l01Same_eq a b w Post) hvc))

theorem spec_l01Same_val (a b : Value) (xs ys : List Int) (w : World) (ha : RI w a xs) (hb : RI w b ys) : Val Try.prog 113 #[a, b] w (.bool (decide (xs = ys))) :=
  Ret.val (spec_l01Same_calls a b w _ (by
    unfold spec_l01Same_vc
    have hbd := ha.bound
    refine ha.len (hb.len ⟨fun hne => ⟨?_, .refl w⟩, fun heq => ?_⟩)
    · have : xs ≠ ys := fun e => hne (by rw [e])
      simp [this]
    · have hll : xs.length = ys.length := by omega
      refine ⟨fun k W => k ≤ xs.length ∧ Ext w W ∧ xs.take k = ys.take k, fun k _ => xs.length - k, ⟨0, rfl, Nat.zero_le _, .refl w, by simp⟩, ?_⟩
      rintro k w1 ⟨hk, h1, hpre⟩
      refine (ha.ext h1).len ⟨fun hlt => ?_, fun hge => ?_⟩
      · have hlt' : k < xs.length := by omega
        refine (ha.ext h1).get k rfl hlt' ((hb.ext h1).get k rfl (by omega) ?_)
        intro w2 h2
        refine ⟨fun hne => ⟨?_, h1.trans h2⟩, fun heq => ⟨by unfold I64; omega, k + 1, rfl, ⟨hlt', h1.trans h2, ?_⟩, by simp only; omega⟩⟩
        · have : xs ≠ ys := by
            rintro rfl
            exact hne rfl
          simp [this]
        · have e : xs[k] = ys[k] := Classical.not_not.1 heq
          rw [take_snoc xs k hlt', take_snoc ys k (by omega), hpre, e]
      · have hkl : k = xs.length := by omega
        refine ⟨?_, h1⟩
        have : xs = ys := by
          rw [hkl] at hpre
          rw [List.take_of_length_le (Nat.le_refl _), List.take_of_length_le (by omega)] at hpre
          exact hpre
        simp [this]))
/-- the reference's loop -/
def nearLoop (M : Mk) (ks : List Int) (w : World) : (Nat × Bool × Value × Value) → World → Prop := fun s W =>
  Ext w W ∧ s.1 ≤ (keys M).length ∧ Own w.heap.size W 2 s.2.2.1 (ints (nearF ks ((keys M).take s.1))) ∧
    (s.2.1 = true → ∃ hj : s.1 < (keys M).length, Own w.heap.size W 2 s.2.2.2 (ints (keys M)[s.1])) ∧ (s.2.1 = false → (keys M).length ≤ s.1)
def spec_NearestKey_A (m_Chambers : Int) (m_Depths : Int) (m_Step : Int) (m_Same : Int) (m_Least : Int) (v : Value) (w : World) : Nat → Ann := fun κ => match κ with
  | 0 => { σ := Nat × Bool × Value × Value, sli := [9, 7, 8], slc := fun s => [SV.v (Value.bool s.2.1), SV.v s.2.2.1, SV.v s.2.2.2], bxi := [], bxc := fun s => [], inv := fun s W => True, μ := fun s W => 0, free := true }
  | _ => { σ := Unit, sli := [], slc := fun _ => [], bxi := [], bxc := fun _ => [], inv := fun _ _ => False, μ := fun _ _ => 0 }
abbrev spec_NearestKey_k0 (w : World) (x21 : Int) (x22 : Int) (x23 : Int) (x24 : Int) (x25 : Int) (s34 : Nat × Bool × Value × Value) (w35 : World) (J36 : (Nat × Bool × Value × Value) → World → Prop) (m37 : (Nat × Bool × Value × Value) → World → Nat) (x58 : Value) (x59 : Value) (w69 : World) : Prop :=
  Calls Try.prog 115 #[(Value.agg #[(Value.int .i64 x21), (Value.int .i64 x22), (Value.int .i64 x23), (Value.int .i64 x24), (Value.int .i64 x25)]), x59] w69 (fun e70 w71 => ∃ u72 : Value, ∃ b73 : Bool, e70 = .returned (Value.tuple #[u72, (Value.bool b73)]) ∧ Keeps w.heap.size [25] w69 w71 ∧ ∃ s74 : (Nat × Bool × Value × Value), (Value.bool b73) = (Value.bool s74.2.1) ∧ x58 = s74.2.2.1 ∧ u72 = s74.2.2.2 ∧ (J36 s74 w71) ∧ (m37 s74 w71) < (m37 s34 w35))
abbrev spec_NearestKey_k1 (w : World) (x21 : Int) (x22 : Int) (x23 : Int) (x24 : Int) (x25 : Int) (s34 : Nat × Bool × Value × Value) (w35 : World) (J36 : (Nat × Bool × Value × Value) → World → Prop) (m37 : (Nat × Bool × Value × Value) → World → Nat) (n77 : Int) (n80 : Int) (x81 : Value) (x82 : Value) (w97 : World) : Prop :=
  (((n77 < n80) → (spec_NearestKey_k0 w x21 x22 x23 x24 x25 s34 w35 J36 m37 x82 x82 w97)) ∧ (¬ (n77 < n80) → (spec_NearestKey_k0 w x21 x22 x23 x24 x25 s34 w35 J36 m37 x81 x82 w97)))
abbrev spec_NearestKey_k2 (w : World) (x10 : Value) (x21 : Int) (x22 : Int) (x23 : Int) (x24 : Int) (x25 : Int) (s34 : Nat × Bool × Value × Value) (w35 : World) (J36 : (Nat × Bool × Value × Value) → World → Prop) (m37 : (Nat × Bool × Value × Value) → World → Nat) (x38 : Value) (x39 : Value) (w42 : World) : Prop :=
  Calls Try.prog 113 #[x39, x10] w42 (fun e43 w44 => ∃ b45 : Bool, e43 = .returned (Value.bool b45) ∧ Keeps w.heap.size [25] w42 w44 ∧ (((!b45) = true → LenV x38 (fun n46 => (((n46 = (0 : Int)) → (spec_NearestKey_k0 w x21 x22 x23 x24 x25 s34 w35 J36 m37 x39 x39 w44)) ∧ (¬ (n46 = (0 : Int)) → Calls Try.prog 114 #[x39, x10] w44 (fun e75 w76 => ∃ n77 : Int, e75 = .returned (Value.int .i64 n77) ∧ Keeps w.heap.size [25] w44 w76 ∧ Calls Try.prog 114 #[x38, x10] w76 (fun e78 w79 => ∃ n80 : Int, e78 = .returned (Value.int .i64 n80) ∧ Keeps w.heap.size [25] w76 w79 ∧ (spec_NearestKey_k1 w x21 x22 x23 x24 x25 s34 w35 J36 m37 n77 n80 x38 x39 w79))))))) ∧ ((!b45) = false → (spec_NearestKey_k0 w x21 x22 x23 x24 x25 s34 w35 J36 m37 x38 x39 w44))))
abbrev spec_NearestKey_k3 (w : World) (Post : Value → World → Prop) (x10 : Value) (x21 : Int) (x22 : Int) (x23 : Int) (x24 : Int) (x25 : Int) (w26 : World) : Prop :=
  ∀ (v27 : Value) (w28 : World), Own w26.heap.size w28 2 v27 [] → Ext w26 w28 → Calls Try.prog 112 #[(Value.agg #[(Value.int .i64 x21), (Value.int .i64 x22), (Value.int .i64 x23), (Value.int .i64 x24), (Value.int .i64 x25)]), (Value.slice none 0 0)] w28 (fun e29 w30 => ∃ u31 : Value, ∃ b32 : Bool, e29 = .returned (Value.tuple #[u31, (Value.bool b32)]) ∧ Keeps w.heap.size [25] w28 w30 ∧ (∃ (J36 : (Nat × Bool × Value × Value) → World → Prop) (m37 : (Nat × Bool × Value × Value) → World → Nat), ((∃ s33 : (Nat × Bool × Value × Value), (Value.bool b32) = (Value.bool s33.2.1) ∧ v27 = s33.2.2.1 ∧ u31 = s33.2.2.2 ∧ (J36 s33 w30)) ∧ ∀ (s34 : (Nat × Bool × Value × Value)) (w35 : World), (J36 s34 w35) → ((s34.2.1 = true → (spec_NearestKey_k2 w x10 x21 x22 x23 x24 x25 s34 w35 J36 m37 s34.2.2.1 s34.2.2.2 w35)) ∧ (s34.2.1 = false → Post (Value.tuple #[s34.2.2.1, (Value.int .i64 0)]) w35)))))
def spec_NearestKey_vc (m_Chambers : Int) (m_Depths : Int) (m_Step : Int) (m_Same : Int) (m_Least : Int) (v : Value) (w : World) (Post : Value → World → Prop) : Prop :=
  ∀ w1 : World, Ext w w1 → Calls Try.prog 89 #[(Value.agg #[(Value.int .i64 m_Chambers), (Value.int .i64 m_Depths), (Value.int .i64 m_Step), (Value.int .i64 m_Same), (Value.int .i64 m_Least)]), v] w1 (fun e2 w3 => ∃ n4 : Int, e2 = .returned (Value.int .i64 n4) ∧ Keeps w.heap.size [25] w1 w3 ∧ (((n4 ≠ (0 : Int)) → Post (Value.tuple #[(Value.slice none 0 0), (Value.int .i64 n4)]) w3) ∧ (¬ (n4 ≠ (0 : Int)) → (spec_NearestKey_k3 w Post v m_Chambers m_Depths m_Step m_Same m_Least w3))))
theorem spec_NearestKey_eq (m_Chambers : Int) (m_Depths : Int) (m_Step : Int) (m_Same : Int) (m_Least : Int) (v : Value) (w : World) (Post : Value → World → Prop) : denF Try.prog [] (spec_NearestKey_A m_Chambers m_Depths m_Step m_Same m_Least v w) 40 [(Value.agg #[(Value.int .i64 m_Chambers), (Value.int .i64 m_Depths), (Value.int .i64 m_Step), (Value.int .i64 m_Same), (Value.int .i64 m_Least)]), v] w Post = spec_NearestKey_vc m_Chambers m_Depths m_Step m_Same m_Least v w Post := by kernel_rfl
set_option maxRecDepth 100000 in
theorem spec_NearestKey_calls (m_Chambers : Int) (m_Depths : Int) (m_Step : Int) (m_Same : Int) (m_Least : Int) (v : Value) (w : World) (Post : Value → World → Prop) (hvc : spec_NearestKey_vc m_Chambers m_Depths m_Step m_Same m_Least v w Post) : Ret Try.prog 40 #[(Value.agg #[(Value.int .i64 m_Chambers), (Value.int .i64 m_Depths), (Value.int .i64 m_Step), (Value.int .i64 m_Same), (Value.int .i64 m_Least)]), v] w Post :=
  Ret.of (denF_sound mixed (Eq.mpr (spec_NearestKey_eq m_Chambers m_Depths m_Step m_Same m_Least v w Post) hvc))

theorem spec_NearestKey_ret (M : Mk) (v : Value) (zs : List Int) (w : World) (hv : RI w v zs) : SlR 40 #[mkV M.c M.d M.s M.m M.l, v] w (nearestR M zs) (kCode M [zs]) :=
  spec_NearestKey_calls M.c M.d M.s M.m M.l v w _ (by
    unfold spec_NearestKey_vc
    intro w1 h1
    refine (spec_l02Code_val M v zs w1 (hv.ext h1)).call fun w2 h2 => ⟨_, rfl, h2.keeps, fun hne => ?_, fun he => ?_⟩
    · unfold nearestR; rw [if_neg hne]
      exact ⟨_, rfl, Own.nil_ _ _ _, h1.trans h2⟩
    have he := Classical.not_not.1 he
    have k2 := h1.trans h2
    obtain ⟨hm, hk⟩ := kCode_zero he
    have hk := hk zs (by simp)
    have hc := hm.1
    obtain ⟨q1, q2, q3, q4⟩ := hk.small hm
    have hks : ∀ k ∈ keys M, zs.length = k.length ∧ ∀ z ∈ k, 0 ≤ z ∧ z ≤ 7 := fun k hkm => by
      have hk' := (mem_keys (M := M) (by omega)).1 hkm
      obtain ⟨r1, r2, r3, r4⟩ := hk'.small hm
      exact ⟨by omega, r4⟩
    intro best w3 o3 h3
    have k3 := k2.trans h3
    refine (spec_l02First_ret hm M.c.toNat [] (.slice none 0 0) w3 (by simp; omega) (by intro z hz; simp at hz) (RI.nil_ w3 0 (Nat.zero_le _))).call ?_
    rintro _ w4 ⟨h4, u, ok, rfl, hone, hor⟩
    have k4 := k3.trans h4
    have hfirst : ok = true ∧ ∃ hj : 0 < (keys M).length, Own w3.heap.size w4 2 u (ints (keys M)[0]) := by
      rcases hor with ⟨_, hg⟩ | ⟨k, rest, rfl, hg, ⟨h0, _⟩ | ho⟩
      · exact absurd hg (keys_ne hm)
      · omega
      · have hj : 0 < (keys M).length := by rw [keys, hg]; simp
        refine ⟨rfl, hj, ?_⟩
        have e : (keys M)[0] = k := by
          have : (keys M)[0]? = some k := by rw [keys, hg]; rfl
          rw [List.getElem?_eq_getElem hj] at this
          exact Option.some.inj this
        rw [e]
        exact ho
    obtain ⟨rfl, hj0, ho0⟩ := hfirst
    refine ⟨u, true, rfl, h4.keeps, nearLoop M zs w, fun s _ => (keys M).length + 1 - s.1, ⟨(0, true, best, u), rfl, rfl, rfl, k4, Nat.zero_le _, (o3.ext h4).mono k2.size, fun _ => ⟨hj0, ho0.mono k3.size⟩, fun h => by cases h⟩, ?_⟩
    rintro ⟨j, ok, best, other⟩ w5 ⟨k5, hjl, ob, hT, hF⟩
    simp only at hjl ob hT hF
    refine ⟨fun hok => ?_, fun hno => ?_⟩
    · simp only at hok
      subst hok
      obtain ⟨hj, oo⟩ := hT rfl
      have hmem : (keys M)[j] ∈ keys M := List.getElem_mem hj
      obtain ⟨s1, s2⟩ := hks _ hmem
      have hsn : nearF zs ((keys M).take (j + 1)) = nearS zs (nearF zs ((keys M).take j)) (keys M)[j] := by rw [take_snoc _ j hj, nearF_snoc]
      have next : ∀ (b' : Value) (W : World), Ext w5 W → Own w.heap.size W 2 b' (ints (nearF zs ((keys M).take (j + 1)))) → spec_NearestKey_k0 w M.c M.d M.s M.m M.l (j, true, best, other) w5 (nearLoop M zs w) (fun s _ => (keys M).length + 1 - s.1) b' other W := by
        intro b' W x o'
        refine (spec_l02Next_ret hm other (keys M)[j] W (keys_length (by omega) hmem) (keys_cuts (by omega) hmem) (oo.ext x).rd).call ?_
        rintro _ w9 ⟨h9, u, ok, rfl, hor⟩
        rw [keys_next hj (by omega)] at hor
        refine ⟨u, ok, rfl, h9.keeps, (j + 1, ok, b', u), rfl, rfl, rfl, ⟨(k5.trans x).trans h9, by simp only; omega, o'.ext h9, fun hok => ?_, fun hno => ?_⟩, by simp only; omega⟩
        · simp only at hok
          rcases hor with ⟨h, _⟩ | ⟨kk, rest, _, hd, ho'⟩
          · rw [hok] at h; cases h
          · have hj1 : j + 1 < (keys M).length := by
              have := congrArg List.length hd
              rw [List.length_drop, List.length_cons] at this
              omega
            refine ⟨hj1, ?_⟩
            have e : (keys M)[j + 1] = kk := by
              rw [List.drop_eq_getElem_cons hj1] at hd
              injection hd
            simp only
            rw [e]
            exact ho'.mono (k5.trans x).size
        · simp only at hno
          rcases hor with ⟨_, _, hd⟩ | ⟨kk, rest, h, _⟩
          · have := congrArg List.length hd
            rw [List.length_drop, List.length_nil] at this
            simp only
            omega
          · rw [hno] at h; cases h
      have take1 : ∀ W, Ext w5 W → (keys M)[j] ≠ zs → (nearF zs ((keys M).take j) = [] ∨ farOf zs (keys M)[j] < farOf zs (nearF zs ((keys M).take j))) → spec_NearestKey_k0 w M.c M.d M.s M.m M.l (j, true, best, other) w5 (nearLoop M zs w) (fun s _ => (keys M).length + 1 - s.1) other other W := fun W x h1 h2 => next other W x (by rw [hsn, nearS, if_pos ⟨h1, h2⟩]; exact oo.ext x)
      have take0 : ∀ W, Ext w5 W → ¬ ((keys M)[j] ≠ zs ∧ (nearF zs ((keys M).take j) = [] ∨ farOf zs (keys M)[j] < farOf zs (nearF zs ((keys M).take j)))) → spec_NearestKey_k0 w M.c M.d M.s M.m M.l (j, true, best, other) w5 (nearLoop M zs w) (fun s _ => (keys M).length + 1 - s.1) best other W := fun W x h1 => next best W x (by rw [hsn, nearS, if_neg h1]; exact ob.ext x)
      refine (spec_l01Same_val other v (keys M)[j] zs w5 oo.rd (hv.ext k5)).call fun w6 h6 => ⟨_, rfl, h6.keeps, fun hb => ?_, fun hb => take0 w6 h6 fun hh => hh.1 (nd_f hb)⟩
      have hne := nd_t hb
      have rb : RI w6 best (nearF zs ((keys M).take j)) := (ob.ext h6).rd
      refine rb.len ⟨fun h0 => take1 w6 h6 hne (.inl (len_zero h0)), fun hn0 => ?_⟩
      have hnn : nearF zs ((keys M).take j) ≠ [] := fun h => hn0 (by rw [h]; rfl)
      have hbm : nearF zs ((keys M).take j) ∈ keys M := (nearF_mem zs _).elim (fun h => absurd h hnn) fun h => List.mem_of_mem_take h
      obtain ⟨t1, t2⟩ := hks _ hbm
      refine (spec_l03Distance_val other v (keys M)[j] zs w6 (oo.ext h6).rd (hv.ext (k5.trans h6)) s1.symm (by omega) s2 q4).call fun w7 h7 => ⟨_, rfl, h7.keeps, ?_⟩
      refine (spec_l03Distance_val best v (nearF zs ((keys M).take j)) zs w7 (rb.ext h7) (hv.ext ((k5.trans h6).trans h7)) t1.symm (by omega) t2 q4).call fun w8 h8 => ⟨_, rfl, h8.keeps, ?_⟩
      have x8 := (h6.trans h7).trans h8
      have e1 : farTo (keys M)[j] zs (keys M)[j].length = farOf zs (keys M)[j] := by rw [farTo_comm, ← s1]; rfl
      have e2 : farTo (nearF zs ((keys M).take j)) zs (nearF zs ((keys M).take j)).length = farOf zs (nearF zs ((keys M).take j)) := by rw [farTo_comm, ← t1]; rfl
      rw [e1, e2]
      exact ⟨fun hlt => take1 w8 x8 hne (.inr hlt), fun hge => take0 w8 x8 fun hh => hh.2.elim hnn hge⟩
    · simp only at hno
      have hlk := hF hno
      rw [List.take_of_length_le hlk] at ob
      exact ⟨best, by rw [he], by unfold nearestR; rw [if_pos he]; exact ob, k5⟩)
/-! ### the program -/
abbrev impl_NearestKey_1_k0 (w : World) (Post : Value → World → Prop) (x6 : Value) (x8 : Addr) (x9 : Addr) (x10 : Int) (w16 : World) : Prop :=
  Calls Try.prog 94 #[x6] w16 (fun e17 w18 => ∃ u19 : Value, e17 = .returned u19 ∧ Keeps w.heap.size [] w16 w18 ∧ StV w.heap.size [] w18 (Value.pointer (some x9)) u19 (fun w20 => StV w.heap.size [] w20 (Value.pointer (some x8)) (Value.int .i64 x10) (fun w21 => Post (Value.bool true) w21)))
abbrev impl_NearestKey_1_k1 (w : World) (Post : Value → World → Prop) (n4 : Int) (n36 : Int) (x37 : Value) (x39 : Addr) (x40 : Addr) (x41 : Int) (w49 : World) : Prop :=
  (((n4 < n36) → Calls Try.prog 94 #[x37] w49 (fun e50 w51 => ∃ u52 : Value, e50 = .returned u52 ∧ Keeps w.heap.size [] w49 w51 ∧ StV w.heap.size [] w51 (Value.pointer (some x40)) u52 (fun w53 => StV w.heap.size [] w53 (Value.pointer (some x39)) (Value.int .i64 x41) (fun w54 => Post (Value.bool true) w54)))) ∧ (¬ (n4 < n36) → Post (Value.bool true) w49))
def impl_NearestKey_1_vc (v : Value) (b0 : Nat) (b1 : Nat) (b2 : Nat) (w : World) (Post : Value → World → Prop) : Prop :=
  ∃ u1 : Value, LdV w (Value.pointer (some (⟨b0, 0, none⟩))) u1 ∧ Calls Try.prog 111 #[u1, v] w (fun e2 w3 => ∃ n4 : Int, e2 = .returned (Value.int .i64 n4) ∧ Keeps w.heap.size [] w w3 ∧ ((((0 : Int) < n4) → ∃ n5 : Int, LdV w3 (Value.pointer (some (⟨b1, 0, none⟩))) (Value.int .i64 n5) ∧ (((n5 < (0 : Int)) → (impl_NearestKey_1_k0 w Post v (⟨b1, 0, none⟩) (⟨b2, 0, none⟩) n4 w3)) ∧ (¬ (n5 < (0 : Int)) → ∃ n36 : Int, LdV w3 (Value.pointer (some (⟨b1, 0, none⟩))) (Value.int .i64 n36) ∧ (impl_NearestKey_1_k1 w Post n4 n36 v (⟨b1, 0, none⟩) (⟨b2, 0, none⟩) n4 w3)))) ∧ (¬ ((0 : Int) < n4) → Post (Value.bool true) w3)))
theorem impl_NearestKey_1_eq (v : Value) (b0 : Nat) (b1 : Nat) (b2 : Nat) (w : World) (Post : Value → World → Prop) : denF Try.prog [1000094] noAnn 110 [v, (Value.pointer (some (⟨b0, 0, none⟩))), (Value.pointer (some (⟨b1, 0, none⟩))), (Value.pointer (some (⟨b2, 0, none⟩)))] w Post = impl_NearestKey_1_vc v b0 b1 b2 w Post := by kernel_rfl
set_option maxRecDepth 100000 in
theorem impl_NearestKey_1_calls (v : Value) (b0 : Nat) (b1 : Nat) (b2 : Nat) (w : World) (Post : Value → World → Prop) (hvc : impl_NearestKey_1_vc v b0 b1 b2 w Post) : Ret Try.prog 110 #[v, (Value.pointer (some (⟨b0, 0, none⟩))), (Value.pointer (some (⟨b1, 0, none⟩))), (Value.pointer (some (⟨b2, 0, none⟩)))] w Post :=
  Ret.of (denF_sound mixed (Eq.mpr (impl_NearestKey_1_eq v b0 b1 b2 w Post) hvc))

def nearestJ (wb : World) (b0 b1 b2 : Nat) (kv : Value) (ks : List Int) : (Nat → Prop) → List (List Int) → World → Prop := fun K done w =>
  ¬ K b0 ∧ ¬ K b1 ∧ ¬ K b2 ∧ (∀ b, b < wb.heap.size → ¬ K b) ∧ Ext wb w ∧ w.heap[b0]? = some (.cells #[kv] 36 (0, 0)) ∧ w.heap[b1]? = some (.cells #[.int .i64 (if nearF ks done = [] then -1 else farOf ks (nearF ks done))] 2 (0, 0)) ∧
    ∃ nv, w.heap[b2]? = some (.cells #[nv] 36 (0, 0)) ∧ Own wb.heap.size w 2 nv (ints (nearF ks done)) ∧ (∀ g, nv.ownBlock = some g → ¬ K g) ∧ nv.ownBlock ≠ some b1
theorem nearest_visitor (wb : World) (b0 b1 b2 : Nat) (kv : Value) (ks : List Int) (h0 : wb.heap.size ≤ b0) (h1 : wb.heap.size ≤ b1) (h2 : wb.heap.size ≤ b2) (n01 : b0 ≠ b1) (n02 : b0 ≠ b2) (n12 : b1 ≠ b2) (hkv : RI wb kv ks) {L : List (List Int)} (hkl : ks.length ≤ 100) (hk0 : ∀ z ∈ ks, 0 ≤ z ∧ z ≤ 7) (hk : ∀ k ∈ L, ks.length = k.length ∧ k ≠ [] ∧ ∀ z ∈ k, 0 ≤ z ∧ z ≤ 7) : Visitor Try.prog 110 [bp b0, bp b1, bp b2] (nearestJ wb b0 b1 b2 kv ks) (fun _ _ => true) L where
  ok := by kernel_rfl
  env := by
    rintro K done w w' ⟨n0, n1, n2, nb, e, c0, c1, nv, c2, on, hon, hb1⟩ hp
    have hs := e.size
    refine ⟨fun hg => hg.elim n0 fun hg => absurd (heap_lt c0) (by omega), fun hg => hg.elim n1 fun hg => absurd (heap_lt c1) (by omega), fun hg => hg.elim n2 fun hg => absurd (heap_lt c2) (by omega), fun b hb hg => hg.elim (nb b hb) fun hg => by omega, hp.ext e nb, (hp.block _ (heap_lt c0) n0).trans c0, (hp.block _ (heap_lt c1) n1).trans c1, nv, (hp.block _ (heap_lt c2) n2).trans c2, on.keep fun g hg => hp.block g (on.lt hg).2 (hon g hg), fun g hg hgr => ?_, hb1⟩
    rcases hgr with hgr | hgr
    · exact hon g hg hgr
    · have := (on.lt hg).2
      omega
  call := by
    rintro K done k w v ⟨n0, n1, n2, nb, e, c0, c1, nv, c2, on, hon, hb1⟩ hK hv ⟨r, hr⟩
    obtain ⟨hkk, hkn, hk7⟩ := hk k (by rw [hr]; simp)
    refine (impl_NearestKey_1_calls v b0 b1 b2 w (fun u w' => u = .bool true ∧ Pres K w w' ∧ nearestJ wb b0 b1 b2 kv ks K (done ++ [k]) w') ?_).call fun u w' h => ⟨by rw [h.1], h.2⟩
    unfold impl_NearestKey_1_vc
    have stay : ∀ W, Ext w W → ¬ (k ≠ ks ∧ (nearF ks done = [] ∨ farOf ks k < farOf ks (nearF ks done))) → (Value.bool true = .bool true ∧ Pres K w W ∧ nearestJ wb b0 b1 b2 kv ks K (done ++ [k]) W) := by
      intro W x hno
      have e1 : nearF ks (done ++ [k]) = nearF ks done := by rw [nearF_snoc, nearS, if_neg hno]
      refine ⟨rfl, x.pres K, n0, n1, n2, nb, e.trans x, (x.block _ (heap_lt c0)).trans c0, ?_, nv, (x.block _ (heap_lt c2)).trans c2, ?_, hon, hb1⟩
      · rw [e1]; exact (x.block _ (heap_lt c1)).trans c1
      · rw [e1]; exact on.ext x
    have put : ∀ W, Ext w W → (k ≠ ks ∧ (nearF ks done = [] ∨ farOf ks k < farOf ks (nearF ks done))) → impl_NearestKey_1_k0 w (fun u w' => u = .bool true ∧ Pres K w w' ∧ nearestJ wb b0 b1 b2 kv ks K (done ++ [k]) w') v ⟨b1, 0, none⟩ ⟨b2, 0, none⟩ (farOf ks k) W := by
      intro W x hyes
      have e1 : nearF ks (done ++ [k]) = k := by rw [nearF_snoc, nearS, if_pos hyes]
      refine (slices_Clone_ret v k W (hv W (x.pres K)) (by omega) hkn).call ?_
      rintro u w2 ⟨ou, x2⟩
      have d0 := ((x.trans x2).block _ (heap_lt c0)).trans c0
      have d1 := ((x.trans x2).block _ (heap_lt c1)).trans c1
      have d2 := ((x.trans x2).block _ (heap_lt c2)).trans c2
      have hxs := x.size
      have hes := e.size
      have hs1 := heap_lt c1
      have hub2 : u.ownBlock ≠ some b2 := own_type_ne ou d2 (by decide)
      have hub1 : u.ownBlock ≠ some b1 := fun h => by have := (ou.lt h).1; omega
      refine ⟨u, rfl, x2.keeps, st_one d2 ou.rd.one (.inr (by simp)) fun w3 f2 p3 z3 => ?_⟩
      have f1 := (p3.block b1 (heap_lt d1) n12).trans d1
      have f0 := (p3.block b0 (heap_lt d0) n02).trans d0
      have o3 := ou.keep (w' := w3) fun g hg => p3.block g (ou.lt hg).2 (by rintro rfl; exact hub2 hg)
      refine st_one f1 rfl (.inr (by simp)) fun w4 g1 p4 z4 => ?_
      refine ⟨rfl, (((x.trans x2).pres K).trans (p3.mono fun b _ hb => ?_)).trans (p4.mono fun b _ hb => ?_), n0, n1, n2, nb, p4.ext (p3.ext (e.trans (x.trans x2)) fun b hb => by omega) fun b hb => by omega, (p4.block b0 (heap_lt f0) n01).trans f0, ?_, u, (p4.block b2 (heap_lt f2) (Ne.symm n12)).trans f2, ?_, fun g hg hKg => ?_, hub1⟩
      · rintro rfl
        exact n2 hb
      · rintro rfl
        exact n1 hb
      · rw [e1, if_neg hkn]
        exact g1
      · rw [e1]
        exact (o3.keep fun g hg => p4.block g (o3.lt hg).2 (by rintro rfl; exact hub1 hg)).mono (by omega)
      · have := (ou.lt hg).1
        have := hK g hKg
        omega
    refine ⟨kv, ld_one c0, (impl_distanceOf_val kv v ks k w (hkv.ext e) (hv w (.refl _ _)) hkk hkl hk0 hk7).call fun w3 x3 => ⟨_, rfl, x3.keeps, fun hpos => ?_, fun hneg => stay w3 x3 fun hh => hneg ((far_pos hkk).2 hh.1)⟩⟩
    have hkne := (far_pos hkk).1 hpos
    have d1 := (x3.block _ (heap_lt c1)).trans c1
    refine ⟨_, ld_one d1, fun hneg => ?_, fun hge => ⟨_, ld_one d1, fun hlt => ?_, fun hno => ?_⟩⟩
    · refine put w3 x3 ⟨hkne, ?_⟩
      by_cases hn : nearF ks done = []
      · exact .inl hn
      · rw [if_neg hn] at hneg
        have := farTo_nonneg ks (nearF ks done) ks.length
        unfold farOf at hneg
        omega
    · refine put w3 x3 ⟨hkne, ?_⟩
      by_cases hn : nearF ks done = []
      · exact .inl hn
      · rw [if_neg hn] at hlt
        exact .inr hlt
    · refine stay w3 x3 fun hh => ?_
      by_cases hn : nearF ks done = []
      · rw [if_pos hn] at hge
        omega
      · rw [if_neg hn] at hno
        exact hh.2.elim hn hno
abbrev impl_NearestKey_k0 (w : World) (Post : Value → World → Prop) (x16 : Addr) (x28 : Int) (x29 : Int) (x30 : Int) (x31 : Int) (x32 : Int) (w33 : World) : Prop :=
  ∀ (v34 : Value) (w35 : World), Own w33.heap.size w35 2 v34 [] → Ext w33 w35 → ∀ (b37 : Nat) (w36 : World), Ext w35 w36 → w35.heap.size ≤ b37 → w36.heap[b37]? = some (.cells #[(Value.slice none 0 0)] 36 (0, 0)) → ∀ (b39 : Nat) (w38 : World), Ext w36 w38 → w36.heap.size ≤ b39 → w38.heap[b39]? = some (.cells #[(Value.int .i64 0)] 2 (0, 0)) → StV w.heap.size [25] w38 (Value.pointer (some (⟨b37, 0, none⟩))) v34 (fun w40 => StV w.heap.size [25] w40 (Value.pointer (some (⟨b39, 0, none⟩))) (Value.int .i64 (-1)) (fun w41 => Calls Try.prog 86 #[(Value.agg #[(Value.int .i64 x28), (Value.int .i64 x29), (Value.int .i64 x30), (Value.int .i64 x31), (Value.int .i64 x32)]), (Value.slice none 0 0), Value.nilFunc, (Value.func (.func 110) #[] #[(Value.pointer (some x16)), (Value.pointer (some (⟨b39, 0, none⟩))), (Value.pointer (some (⟨b37, 0, none⟩)))])] w41 (fun e42 w43 => e42 = .returned (Value.tuple #[]) ∧ Keeps w.heap.size [25] w41 w43 ∧ ∃ u44 : Value, LdV w43 (Value.pointer (some (⟨b37, 0, none⟩))) u44 ∧ Post (Value.tuple #[u44, (Value.int .i64 0)]) w43)))
def impl_NearestKey_vc (m_Chambers : Int) (m_Depths : Int) (m_Step : Int) (m_Same : Int) (m_Least : Int) (v : Value) (w : World) (Post : Value → World → Prop) : Prop :=
  ∀ w1 : World, Ext w w1 → oneC v (∀ (b3 : Nat) (w2 : World), Ext w1 w2 → w1.heap.size ≤ b3 → w2.heap[b3]? = some (.cells #[v] 36 (0, 0)) → ∃ u4 : Value, LdV w2 (Value.pointer (some (⟨b3, 0, none⟩))) u4 ∧ oneC u4 (∀ (v5 : Value) (w6 : World), Own w2.heap.size w6 36 v5 [u4] → Ext w2 w6 → Calls Try.prog 85 #[(Value.agg #[(Value.int .i64 m_Chambers), (Value.int .i64 m_Depths), (Value.int .i64 m_Step), (Value.int .i64 m_Same), (Value.int .i64 m_Least)]), v5] w6 (fun e7 w8 => ∃ n9 : Int, e7 = .returned (Value.int .i64 n9) ∧ Keeps w.heap.size [25] w6 w8 ∧ (((n9 ≠ (0 : Int)) → Post (Value.tuple #[(Value.slice none 0 0), (Value.int .i64 n9)]) w8) ∧ (¬ (n9 ≠ (0 : Int)) → (impl_NearestKey_k0 w Post (⟨b3, 0, none⟩) m_Chambers m_Depths m_Step m_Same m_Least w8))))))
theorem impl_NearestKey_eq (m_Chambers : Int) (m_Depths : Int) (m_Step : Int) (m_Same : Int) (m_Least : Int) (v : Value) (w : World) (Post : Value → World → Prop) : denF Try.prog [3, 7, 8] noAnn 39 [(Value.agg #[(Value.int .i64 m_Chambers), (Value.int .i64 m_Depths), (Value.int .i64 m_Step), (Value.int .i64 m_Same), (Value.int .i64 m_Least)]), v] w Post = impl_NearestKey_vc m_Chambers m_Depths m_Step m_Same m_Least v w Post := by kernel_rfl
set_option maxRecDepth 100000 in
theorem impl_NearestKey_calls (m_Chambers : Int) (m_Depths : Int) (m_Step : Int) (m_Same : Int) (m_Least : Int) (v : Value) (w : World) (Post : Value → World → Prop) (hvc : impl_NearestKey_vc m_Chambers m_Depths m_Step m_Same m_Least v w Post) : Ret Try.prog 39 #[(Value.agg #[(Value.int .i64 m_Chambers), (Value.int .i64 m_Depths), (Value.int .i64 m_Step), (Value.int .i64 m_Same), (Value.int .i64 m_Least)]), v] w Post :=
  Ret.of (denF_sound mixed (Eq.mpr (impl_NearestKey_eq m_Chambers m_Depths m_Step m_Same m_Least v w Post) hvc))

theorem impl_NearestKey_ret (M : Mk) (v : Value) (zs : List Int) (w : World) (hv : RI w v zs) : SlR 39 #[mkV M.c M.d M.s M.m M.l, v] w (nearestR M zs) (kCode M [zs]) :=
  impl_NearestKey_calls M.c M.d M.s M.m M.l v w _ (by
    unfold impl_NearestKey_vc
    intro w1 h1
    refine hv.oneC fun b3 w2 h2 g3 c3 => ⟨v, ld_one c3, hv.oneC fun r w4 o4 h4 => ?_⟩
    have k4 := (h1.trans h2).trans h4
    refine (impl_keysCode_val M r [zs] w4 (RR.one1 o4 (hv.ext k4))).call fun w5 h5 => ⟨_, rfl, h5.keeps, fun hne => ?_, fun he => ?_⟩
    · unfold nearestR; rw [if_neg hne]
      exact ⟨_, rfl, Own.nil_ _ _ _, k4.trans h5⟩
    have he := Classical.not_not.1 he
    have k5 := k4.trans h5
    obtain ⟨hm, hk⟩ := kCode_zero he
    have hk := hk zs (by simp)
    have hc := hm.1
    obtain ⟨q1, q2, q3, q4⟩ := hk.small hm
    intro nv w6 o6 h6 b7 w7 h7 g7 c7 b8 w8 h8 g8 c8
    have z1 := h1.size
    have z2 := h2.size
    have z4 := h4.size
    have z5 := h5.size
    have z6 := h6.size
    have z7 := h7.size
    have z8 := h8.size
    have s3 := heap_lt c3
    have s7 := heap_lt c7
    have s8 := heap_lt c8
    have c3' : w8.heap[b3]? = _ := (((((h4.trans h5).trans h6).trans h7).trans h8).block b3 s3).trans c3
    have c7' : w8.heap[b7]? = _ := (h8.block b7 s7).trans c7
    have hnb : ∀ g, nv.ownBlock = some g → g < w6.heap.size := fun g hg => (o6.lt hg).2
    refine st_one c7' o6.rd.one (.inr (by decide)) fun w9 d7 p9 z9 => ?_
    have d8 := (p9.block b8 (by omega) (by omega)).trans c8
    have d3 := (p9.block b3 (by omega) (by omega)).trans c3'
    have o9 := ((o6.ext h7).ext h8).keep (w' := w9) fun g hg => p9.block g (by have := hnb g hg; omega) (by have := hnb g hg; omega)
    refine st_one d8 rfl (.inr (by decide)) fun w10 e8 p10 z10 => ?_
    have e7 := (p10.block b7 (by omega) (by omega)).trans d7
    have e3 := (p10.block b3 (by omega) (by omega)).trans d3
    have o10 := o9.keep (w' := w10) fun g hg => p10.block g (by have := hnb g hg; omega) (by have := hnb g hg; omega)
    have X8 := (((k5.trans h6).trans h7).trans h8)
    have X10 : Ext w w10 := p10.ext (p9.ext X8 fun b hb => by omega) fun b hb => by omega
    have hG : GT M All [] M.c.toNat [] false = keys M := GT_false _ _ _
    have hev := eachKey_calls (M := M) (al := All) (fr := []) (w := w10) (K0 := fun b => w.heap.size ≤ b ∧ b < w10.heap.size ∧ b ≠ b3 ∧ b ≠ b8 ∧ b ≠ b7 ∧ nv.ownBlock ≠ some b) (frv := .slice none 0 0) (alv := .nilFunc) (tight := false) hm
      (nearest_visitor w b3 b8 b7 v zs (by omega) (by omega) (by omega) (by omega) (by omega) (by omega) hv (L := GT M All [] M.c.toNat [] false) (by omega) q4 (by
        rw [hG]
        intro k hkm
        have hk' := (mem_keys (M := M) (by omega)).1 hkm
        obtain ⟨r1, r2, r3, r4⟩ := hk'.small hm
        exact ⟨by omega, fun h => by rw [h] at r2; simp at r2, r4⟩)) (AlOk.all _ _ _ _) NilS.nil_ (fun w' _ => RI.nil_ w' 0 (Nat.zero_le _)) (by intro z hz; simp at hz) (by simp) (fun b hb => hb.2.1)
      ⟨fun h => h.2.2.1 rfl, fun h => h.2.2.2.1 rfl, fun h => h.2.2.2.2.1 rfl, fun b hb h => by omega, X10, e3, e8, nv, e7, o10.mono (by omega), fun g hg h => h.2.2.2.2.2 hg, fun h => by have := hnb _ h; omega⟩
    refine hev.mono ?_
    rintro e w11 ⟨rfl, ⟨K, hK, _, _, _, _, e11, _, _, nv', c11, on, _, _⟩, hp⟩
    rw [hG, vis_all, List.nil_append] at on
    refine ⟨rfl, hp.keeps fun b cs T fz hb hh hT => ⟨hb, heap_lt hh, ?_, ?_, ?_, fun hg => ?_⟩, nv', ld_one c11, nv', by rw [he], by unfold nearestR; rw [if_pos he]; exact on, e11⟩
    · rintro rfl
      rw [e3] at hh
      injection hh with hh
      injection hh with _ he _
      rw [← he] at hT
      exact absurd hT (by decide)
    · rintro rfl
      rw [e8] at hh
      injection hh with hh
      injection hh with _ he _
      rw [← he] at hT
      exact absurd hT (by decide)
    · rintro rfl
      rw [e7] at hh
      injection hh with hh
      injection hh with _ he _
      rw [← he] at hT
      exact absurd hT (by decide)
    · refine own_type_ne o10 hh ?_ hg
      rintro rfl
      exact absurd hT (by decide))
end Go.Proofs
