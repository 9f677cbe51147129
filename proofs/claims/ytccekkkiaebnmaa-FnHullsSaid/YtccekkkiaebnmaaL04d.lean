/- Contracts: the keys that a lock opens for. No condition. -/
import Derived.Test.YtccekkkiaebnmaaL05a
import Derived.Test.YtccekkkiaebnmaaL04c
import Derived.Test.YtccekkkiaebnmaaL03b
set_option linter.unusedVariables false
namespace Go.Proofs
open Go.Sx Go.RowKit
theorem up_filter : ∀ (n : Nat) (k : Int) (z : List Int), z.Pairwise (· < ·) → (∀ x ∈ z, k ≤ x ∧ x < k + n) → (upFrom k n).filter (fun x => decide (x ∈ z)) = z
  | 0, k, z, _, h => by
    cases z with
    | nil => rfl
    | cons a z => have := h a (by simp); omega
  | n + 1, k, z, hp, h => by
    rw [upFrom_cons]
    cases z with
    | nil =>
      rw [List.filter_eq_nil_iff]
      intro x _
      simp
    | cons a z =>
      have ha := h a (by simp)
      have hpa := List.pairwise_cons.1 hp
      by_cases e : a = k
      · subst e
        rw [List.filter_cons_of_pos (by simp)]
        congr 1
        have ih := up_filter n (a + 1) z hpa.2 fun x hx => by
          have h1 := h x (by simp [hx])
          have h2 := hpa.1 x hx
          omega
        rw [← ih]
        refine List.filter_congr fun x hx => ?_
        have h1 := (mem_upFrom.1 hx).1
        rw [ih]
        refine decide_eq_decide.2 ⟨fun hh => ?_, fun hh => List.mem_cons_of_mem _ hh⟩
        rcases List.mem_cons.1 hh with hh | hh
        · omega
        · exact hh
      · have hk : k ∉ a :: z := fun hh => by
          rcases List.mem_cons.1 hh with hh | hh
          · exact e hh.symm
          · have := hpa.1 k hh
            omega
        rw [List.filter_cons_of_neg (by simpa using hk)]
        refine up_filter n (k + 1) (a :: z) hp fun x hx => ?_
        have h1 := h x hx
        have : x ≠ k := fun e => hk (e ▸ hx)
        omega
theorem rises_pair {n : Int} {z : List Int} (h : Rises n z z.length) : z.Pairwise (· < ·) := by
  rw [List.pairwise_iff_getElem]
  intro i j hi hj hij
  have key : ∀ t : Nat, ∀ hj : i + t + 1 < z.length, z[i] < z[i + t + 1] := by
    intro t
    induction t with
    | zero =>
      intro hj
      have := (h (i + 0 + 1) hj)
      unfold RiseAt at this
      have := this.2.2 (by omega)
      rw [getD_get hj, Nat.add_sub_cancel, getD_get (show i + 0 < z.length by omega)] at this
      exact this
    | succ t ih =>
      intro hj
      have := (h (i + (t + 1) + 1) hj)
      unfold RiseAt at this
      have := this.2.2 (by omega)
      rw [getD_get hj, Nat.add_sub_cancel, getD_get (show i + (t + 1) < z.length by omega)] at this
      exact Int.lt_trans (ih (by omega)) this
  have := key (j - i - 1) (by omega)
  have e : i + (j - i - 1) + 1 = j := by omega
  simp only [e] at this
  exact this
def Al (zss : List (List Int)) : Nat → Int → Bool := fun i x => decide (x ∈ zss.getD i [])
theorem set_ups {d : Int} {zss : List (List Int)} (hs : SetsOk d zss) {i : Nat} (hi : i < zss.length) : (ups d).filter (Al zss i) = zss[i] := by
  have hz := (hs _ (List.getElem_mem hi)).2
  have e : Al zss i = fun x => decide (x ∈ zss[i]) := by
    funext x
    unfold Al
    rw [List.getD, List.getElem?_eq_getElem hi]
    rfl
  rw [e]
  refine up_filter _ _ _ (rises_pair hz) fun x hx => ?_
  have := rises_in hz x hx
  omega
theorem Rows.append {p : Value → List Int → Prop} {us ys : List Value} {zss yss : List (List Int)} (h : Rows p us zss) (g : Rows p ys yss) : Rows p (us ++ ys) (zss ++ yss) := by
  refine ⟨by rw [List.length_append, List.length_append, h.1, g.1], fun i u z hu hz => ?_⟩
  rcases Nat.lt_or_ge i us.length with hl | hl
  · rw [List.getElem?_append_left hl] at hu
    rw [List.getElem?_append_left (by rw [← h.1]; exact hl)] at hz
    exact h.2 i u z hu hz
  · rw [List.getElem?_append_right hl] at hu
    rw [List.getElem?_append_right (by rw [← h.1]; exact hl), ← h.1] at hz
    exact g.2 _ u z hu hz
theorem OwnR.pushAll {B : Nat} {w3 w4 : World} {v x : Value} {zss yss : List (List Int)} (h : OwnR B w3 v zss) (hx : OwnR w3.heap.size w4 x yss) (e : Ext w3 w4) (hB : B ≤ w3.heap.size) (hl : zss.length + yss.length ≤ 4398046511104) {K : Value → World → Prop}
    (hK : ∀ v' w6, OwnR B w6 v' (zss ++ yss) → (∀ w0 : World, w0.heap.size ≤ B → Ext w0 w4 → Ext w0 w6) → K v' w6) : AppV w4 36 v x K := by
  obtain ⟨us, h1, h2, h3⟩ := h
  obtain ⟨ys, g1, g2, g3⟩ := hx
  have h1' := h1.ext e
  refine h1'.app g1.rd (fun u hu => ?_) (by rw [h2.1, g2.1]; exact hl) (Nat.le_trans hB e.size) fun v' w6 o6 gr hb => hK v' w6 ⟨us ++ ys, o6, Rows.append (h2.map fun a z ha => ?_) (g2.map fun a z ha => ?_), ?_⟩ (fun w0 h0 x => x.grown h1' h0 gr)
  · obtain ⟨i, hi, rfl⟩ := List.getElem_of_mem hu
    exact (g2.get (show i < yss.length by rw [← g2.1]; exact hi)).rd.one
  · exact (ha.ext e).grown gr (Apart.types (ha.ext e) h1' (by decide))
  · exact (ha.mono hB).grown gr (Apart.types ha h1' (by decide))
  · rw [List.pairwise_append]
    refine ⟨h3, g3, fun a ha b hb => ?_⟩
    obtain ⟨i, hi, rfl⟩ := List.getElem_of_mem ha
    obtain ⟨j, hj, rfl⟩ := List.getElem_of_mem hb
    exact Apart.new (h2.get (show i < zss.length by rw [← h2.1]; exact hi)) (g2.get (show j < yss.length by rw [← g2.1]; exact hj))
def spec_l04Openers_A (m_Chambers : Int) (m_Depths : Int) (m_Step : Int) (m_Same : Int) (m_Least : Int) (l_Sets : Value) (v : Value) (n : Int) (w : World) : Nat → Ann := fun κ => match κ with
  | 0 => { σ := Nat × Value, sli := [11, 9], slc := fun s => [SV.v (Value.int .i64 (s.1 : Int)), SV.v s.2], bxi := [], bxc := fun s => [], inv := fun s W => True, μ := fun s W => 0, free := true }
  | _ => { σ := Unit, sli := [], slc := fun _ => [], bxi := [], bxc := fun _ => [], inv := fun _ _ => False, μ := fun _ _ => 0 }
abbrev spec_l04Openers_k0 (Post : Value → World → Prop) (x89 : Value) (w112 : World) : Prop :=
  oneC x89 (∀ (v113 : Value) (w114 : World), Own w112.heap.size w114 36 v113 [x89] → Ext w112 w114 → Post v113 w114)
abbrev spec_l04Openers_k1 (w : World) (s148 : Nat × Value) (w149 : World) (J150 : (Nat × Value) → World → Prop) (m151 : (Nat × Value) → World → Nat) (w159 : World) (x167 : Int) (x171 : Value) (x172 : Int) (x173 : Int) (x174 : Int) (x175 : Int) (x176 : Int) (x177 : Value) (x179 : Value) (x183 : Int) (x187 : Int) (w188 : World) : Prop :=
  ∀ (v189 : Value) (w190 : World), Own w188.heap.size w190 2 v189 [(Value.int .i64 x183)] → Ext w188 w190 → AppV w190 2 x179 v189 (fun v191 w192 => Ext w159 w192 ∧ Calls Try.prog 119 #[(Value.agg #[(Value.int .i64 x172), (Value.int .i64 x173), (Value.int .i64 x174), (Value.int .i64 x175), (Value.int .i64 x176)]), (Value.agg #[x177]), v191, (Value.int .i64 x187)] w192 (fun e193 w194 => ∃ u195 : Value, e193 = .returned u195 ∧ Keeps w.heap.size [25, 28] w192 w194 ∧ Ext w159 w194 ∧ AppV w194 36 x171 u195 (fun v196 w197 => I64 (x167 + 1) ∧ ∃ s198 : (Nat × Value), (Value.int .i64 (x167 + 1)) = (Value.int .i64 (s198.1 : Int)) ∧ v196 = s198.2 ∧ (J150 s198 w197) ∧ (m151 s198 w197) < (m151 s148 w149))))
abbrev spec_l04Openers_k2 (w : World) (s148 : Nat × Value) (w149 : World) (J150 : (Nat × Value) → World → Prop) (m151 : (Nat × Value) → World → Nat) (w159 : World) (x202 : Int) (x206 : Value) (x207 : Int) (x208 : Int) (x209 : Int) (x210 : Int) (x211 : Int) (x212 : Value) (x213 : Value) (x218 : Value) (x222 : Int) (w223 : World) : Prop :=
  Calls Try.prog 95 #[x213] w223 (fun e224 w225 => ∃ u226 : Value, e224 = .returned u226 ∧ Keeps w.heap.size [25, 28] w223 w225 ∧ Ext w159 w225 ∧ AppV w225 2 u226 x218 (fun v227 w228 => Ext w159 w228 ∧ Calls Try.prog 119 #[(Value.agg #[(Value.int .i64 x207), (Value.int .i64 x208), (Value.int .i64 x209), (Value.int .i64 x210), (Value.int .i64 x211)]), (Value.agg #[x212]), v227, (Value.int .i64 x222)] w228 (fun e229 w230 => ∃ u231 : Value, e229 = .returned u231 ∧ Keeps w.heap.size [25, 28] w228 w230 ∧ Ext w159 w230 ∧ AppV w230 36 x206 u231 (fun v232 w233 => I64 (x202 + 1) ∧ ∃ s234 : (Nat × Value), (Value.int .i64 (x202 + 1)) = (Value.int .i64 (s234.1 : Int)) ∧ v232 = s234.2 ∧ (J150 s234 w233) ∧ (m151 s234 w233) < (m151 s148 w149)))))
abbrev spec_l04Openers_k3 (w : World) (x121 : Value) (x122 : Int) (x135 : Int) (x136 : Int) (x137 : Int) (x138 : Int) (x139 : Int) (x140 : Value) (u146 : Value) (s148 : Nat × Value) (w149 : World) (J150 : (Nat × Value) → World → Prop) (m151 : (Nat × Value) → World → Nat) (x153 : Value) (x154 : Int) (w158 : World) : Prop :=
  ∀ w159 : World, Ext w158 w159 → IxV 1 u146 x154 (fun ad160 => ∃ n161 : Int, LdV w159 (Value.pointer (some ad160)) (Value.int .i64 n161) ∧ LenV x153 (fun n162 => I64 (x122 - n162) ∧ ((Calls Try.prog 95 #[x121] w159 (fun e163 w164 => ∃ u165 : Value, e163 = .returned u165 ∧ Keeps w.heap.size [25, 28] w159 w164 ∧ Ext w159 w164 ∧ (spec_l04Openers_k1 w s148 w149 J150 m151 w159 x154 x153 x135 x136 x137 x138 x139 x140 u165 n161 (x122 - n162) w164))) ∧ (∀ (v199 : Value) (w200 : World), Own w159.heap.size w200 2 v199 [(Value.int .i64 n161)] → Ext w159 w200 → (spec_l04Openers_k2 w s148 w149 J150 m151 w159 x154 x153 x135 x136 x137 x138 x139 x140 x121 v199 (x122 - n162) w200)))))
abbrev spec_l04Openers_k4 (w : World) (Post : Value → World → Prop) (x121 : Value) (x122 : Int) (x135 : Int) (x136 : Int) (x137 : Int) (x138 : Int) (x139 : Int) (x140 : Value) (w141 : World) : Prop :=
  ∀ (v142 : Value) (w143 : World), Own w141.heap.size w143 36 v142 [] → Ext w141 w143 → LenV x121 (fun n144 => IxV 1 x140 n144 (fun ad145 => ∃ u146 : Value, LdV w143 (Value.pointer (some ad145)) u146 ∧ (∃ (J150 : (Nat × Value) → World → Prop) (m151 : (Nat × Value) → World → Nat), ((∃ s147 : (Nat × Value), (Value.int .i64 0) = (Value.int .i64 (s147.1 : Int)) ∧ v142 = s147.2 ∧ (J150 s147 w143)) ∧ ∀ (s148 : (Nat × Value)) (w149 : World), (J150 s148 w149) → LenV u146 (fun n152 => ((((s148.1 : Int) < n152) → (spec_l04Openers_k3 w x121 x122 x135 x136 x137 x138 x139 x140 u146 s148 w149 J150 m151 s148.2 (s148.1 : Int) w149)) ∧ (¬ ((s148.1 : Int) < n152) → Post s148.2 w149)))))))
abbrev spec_l04Openers_k5 (w : World) (Post : Value → World → Prop) (x59 : Value) (x60 : Int) (x70 : Int) (x71 : Int) (x72 : Int) (x73 : Int) (x74 : Int) (x75 : Value) (w76 : World) : Prop :=
  LenV x59 (fun n77 => (((n77 = x70) → ∃ n81 : Int, (∀ w78 : World, Ext w76 w78 → Calls Try.prog 144 #[x59] w78 (fun e79 w80 => e79 = .returned (Value.int .i64 n81) ∧ Ext w78 w80)) ∧ ∀ w82 : World, Ext w76 w82 → (((n81 < x74) → Post (Value.slice none 0 0) w82) ∧ (¬ (n81 < x74) → (spec_l04Openers_k0 Post x59 w82)))) ∧ (¬ (n77 = x70) → (spec_l04Openers_k4 w Post x59 x60 x70 x71 x72 x73 x74 x75 w76))))
abbrev spec_l04Openers_k6 (n : Int) (w : World) (Post : Value → World → Prop) (x35 : Value) (x36 : Int) (x46 : Int) (x47 : Int) (x48 : Int) (x49 : Int) (x50 : Int) (x51 : Value) (w52 : World) : Prop :=
  (((n ≤ (0 : Int)) → Post (Value.slice none 0 0) w52) ∧ (¬ (n ≤ (0 : Int)) → (spec_l04Openers_k5 w Post x35 x36 x46 x47 x48 x49 x50 x51 w52)))
def spec_l04Openers_vc (m_Chambers : Int) (m_Depths : Int) (m_Step : Int) (m_Same : Int) (m_Least : Int) (l_Sets : Value) (v : Value) (n : Int) (w : World) (Post : Value → World → Prop) : Prop :=
  ∀ w1 : World, Ext w w1 → oneC l_Sets (∀ w2 : World, Ext w1 w2 → Calls Try.prog 143 #[(Value.agg #[(Value.int .i64 m_Chambers), (Value.int .i64 m_Depths), (Value.int .i64 m_Step), (Value.int .i64 m_Same), (Value.int .i64 m_Least)]), v] w2 (fun e3 w4 => ∃ b5 : Bool, e3 = .returned (Value.bool b5) ∧ Keeps w.heap.size [25, 28] w2 w4 ∧ (((!b5) = true → Post (Value.slice none 0 0) w4) ∧ ((!b5) = false → (spec_l04Openers_k6 n w Post v n m_Chambers m_Depths m_Step m_Same m_Least l_Sets w4)))))
theorem spec_l04Openers_eq (m_Chambers : Int) (m_Depths : Int) (m_Step : Int) (m_Same : Int) (m_Least : Int) (l_Sets : Value) (v : Value) (n : Int) (w : World) (Post : Value → World → Prop) : denF Try.prog [1000095, 1000119, 9000001, 9500061] (spec_l04Openers_A m_Chambers m_Depths m_Step m_Same m_Least l_Sets v n w) 119 [(Value.agg #[(Value.int .i64 m_Chambers), (Value.int .i64 m_Depths), (Value.int .i64 m_Step), (Value.int .i64 m_Same), (Value.int .i64 m_Least)]), (Value.agg #[l_Sets]), v, (Value.int .i64 n)] w Post = spec_l04Openers_vc m_Chambers m_Depths m_Step m_Same m_Least l_Sets v n w Post := by kernel_rfl
set_option maxRecDepth 100000 in
theorem spec_l04Openers_calls (m_Chambers : Int) (m_Depths : Int) (m_Step : Int) (m_Same : Int) (m_Least : Int) (l_Sets : Value) (v : Value) (n : Int) (w : World) (Post : Value → World → Prop) (hvc : spec_l04Openers_vc m_Chambers m_Depths m_Step m_Same m_Least l_Sets v n w Post) : Ret Try.prog 119 #[(Value.agg #[(Value.int .i64 m_Chambers), (Value.int .i64 m_Depths), (Value.int .i64 m_Step), (Value.int .i64 m_Same), (Value.int .i64 m_Least)]), (Value.agg #[l_Sets]), v, (Value.int .i64 n)] w Post :=
  Ret.of (denF_sound mixed (Eq.mpr (spec_l04Openers_eq m_Chambers m_Depths m_Step m_Same m_Least l_Sets v n w Post) hvc))

theorem spec_l04Openers_ret {M : Mk} (hM : M.Ok) (v : Value) (zss : List (List Int)) (hs : SetsOk M.d zss) (hzl : (zss.length : Int) = M.c) : ∀ (n : Nat) (p : List Int) (u : Value) (most : Int) (w : World) (B : Nat), (p.length : Int) + n = M.c → CutsOk M.d p → RI w u p → RR w v zss → most ≤ 1000000 → B ≤ w.heap.size → (n = 0 → Own B w 2 u (ints p)) →
    Ret Try.prog 119 #[mkV M.c M.d M.s M.m M.l, lkV v, u, .int .i64 most] w fun r w' => OwnR B w' r ((G M (Al zss) n p).take most.toNat) ∧ Ext w w' := by
  obtain ⟨hm1, hm2, hm3, hm4, hm5⟩ := hM
  intro n
  induction n with
  | zero =>
    intro p u most w B hp hc hu hv hmost hB hown
    refine spec_l04Openers_calls M.c M.d M.s M.m M.l v u most w _ ?_
    unfold spec_l04Openers_vc
    intro w1 h1
    refine hv.oneC fun w2 h2 => ?_
    have k2 := h1.trans h2
    refine (spec_l02Begins_val M.c M.d M.s M.m M.l u p w2 (hu.ext k2) (by omega) hc).call fun w3 h3 => ⟨_, rfl, h3.keeps, fun hb => ⟨?_, k2.trans h3⟩, fun hb => ?_⟩
    · rw [G_not (nd_t hb), List.take_nil]; exact OwnR.nil_ _ _
    have k3 := k2.trans h3
    refine ⟨fun hle => ⟨?_, k3⟩, fun hgt => ?_⟩
    · rw [show most.toNat = 0 by omega, List.take_zero]; exact OwnR.nil_ _ _
    refine (hu.ext k3).len ⟨fun _ => ⟨_, fun w4 h4 => (spec_l02Kinds_val u p w4 (hu.ext (k3.trans h4))).call fun _ h => ⟨rfl, h⟩, fun w4 h4 => ⟨fun hlt => ⟨?_, k3.trans h4⟩, fun hge => (hu.ext (k3.trans h4)).oneC fun r w5 o5 h5 => ⟨?_, (k3.trans h4).trans h5⟩⟩⟩, fun hne => absurd (by omega) hne⟩
    · simp only [G]; rw [if_neg (by omega), List.take_nil]; exact OwnR.nil_ _ _
    · simp only [G]; rw [if_pos ⟨nd_f hb, by omega⟩, List.take_of_length_le (by simp; omega)]
      exact ⟨[u], o5.mono (Nat.le_trans hB (k3.trans h4).size), Rows.nil_.snoc ((hown rfl).ext ((k3.trans h4).trans h5)), List.pairwise_singleton _ _⟩
  | succ n ih =>
    intro p u most w B hp hc hu hv hmost hB hown
    refine spec_l04Openers_calls M.c M.d M.s M.m M.l v u most w _ ?_
    unfold spec_l04Openers_vc
    intro w1 h1
    refine hv.oneC fun w2 h2 => ?_
    have k2 := h1.trans h2
    refine (spec_l02Begins_val M.c M.d M.s M.m M.l u p w2 (hu.ext k2) (by omega) hc).call fun w3 h3 => ⟨_, rfl, h3.keeps, fun hb => ⟨?_, k2.trans h3⟩, fun hb => ?_⟩
    · rw [G_not (nd_t hb), List.take_nil]; exact OwnR.nil_ _ _
    have k3 := k2.trans h3
    refine ⟨fun hle => ⟨?_, k3⟩, fun hgt => ?_⟩
    · rw [show most.toNat = 0 by omega, List.take_zero]; exact OwnR.nil_ _ _
    refine (hu.ext k3).len ⟨fun he => absurd he (by omega), fun _ => ?_⟩
    intro out w4 o4 h4
    have k4 := k3.trans h4
    have hpl : p.length < zss.length := by omega
    have hset := hs _ (List.getElem_mem hpl)
    have hsl := rises_len hset.2 (by omega)
    have hin := rises_in hset.2
    have hG : G M (Al zss) (n + 1) p = (zss[p.length]).flatMap fun x => G M (Al zss) n (p ++ [x]) := by rw [G_succ, set_ups hs hpl]
    have hGmax := G_max (M := M) (by omega) (Al zss) (n := n + 1) (by omega) p
    refine (hu.ext k4).len ?_
    obtain ⟨us, r1, r2⟩ := id hv
    have hpu : p.length < us.length := by rw [r2.1]; exact hpl
    have hz : RI w us[p.length] zss[p.length] := r2.get hpl
    refine (r1.ext k4).ix p.length rfl hpu fun ad had => ⟨us[p.length], had, ?_⟩
    refine ⟨fun s W => s.1 ≤ (zss[p.length]).length ∧ Ext w W ∧ OwnR w.heap.size W s.2 ((((zss[p.length]).take s.1).flatMap fun x => G M (Al zss) n (p ++ [x])).take most.toNat), fun s _ => (zss[p.length]).length - s.1, ⟨(0, out), rfl, rfl, Nat.zero_le _, k4, ?_⟩, ?_⟩
    · simp only [List.take_zero, List.flatMap_nil, List.take_nil]
      exact ⟨[], o4.mono k3.size, Rows.nil_, .nil⟩
    rintro ⟨k, out⟩ w5 ⟨hk, k5, o5⟩
    simp only at hk o5
    refine (hz.ext k5).len ⟨fun hlt => ?_, fun hge => ?_⟩
    · have hlt' : k < (zss[p.length]).length := by simp only at hlt; omega
      have hx := hin _ (List.getElem_mem hlt')
      intro w6 h6
      have k6 := k5.trans h6
      have hpre : ∃ r, G M (Al zss) (n + 1) p = (((zss[p.length]).take (k + 1)).flatMap fun x => G M (Al zss) n (p ++ [x])) ++ r := by
        refine ⟨((zss[p.length]).drop (k + 1)).flatMap fun x => G M (Al zss) n (p ++ [x]), ?_⟩
        rw [hG, ← List.flatMap_append, List.take_append_drop]
      obtain ⟨r, hr⟩ := hpre
      have hrl := congrArg List.length hr
      rw [List.length_append, take_snoc _ k hlt', List.flatMap_append, List.length_append] at hrl
      simp only [List.flatMap_cons, List.flatMap_nil, List.append_nil] at hrl
      refine (hz.ext k6).get k rfl hlt' ?_
      refine (o5.rr.ext h6).len ⟨by unfold I64; rw [List.length_take]; omega, ?_⟩
      refine own_snoc (hu.ext k6) (by omega) fun t w7 o7 h7 => ?_
      have k7 := k6.trans h7
      refine (ih (p ++ [(zss[p.length])[k]]) t _ w7 w6.heap.size (by simp; omega) (CutsOk.snoc hc hx.1 hx.2) o7.rd (hv.ext k7) (by omega) h7.size (fun _ => o7)).call ?_
      rintro r' w8 ⟨o8, h8⟩
      refine ⟨r', rfl, h8.keeps, h7.trans h8, ?_⟩
      refine (o5.ext h6).pushAll o8 (h7.trans h8) k6.size (by rw [List.length_take, List.length_take]; omega) fun v' w9 o9 hx9 => ?_
      refine ⟨by unfold I64; simp only; omega, (k + 1, v'), rfl, rfl, ⟨hlt', hx9 w (Nat.le_refl _) (k7.trans h8), ?_⟩, by simp only; omega⟩
      simp only
      rw [take_snoc _ k hlt', List.flatMap_append, List.take_append]
      simp only [List.flatMap_cons, List.flatMap_nil, List.append_nil]
      have e : (most - (((((zss[p.length]).take k).flatMap fun x => G M (Al zss) n (p ++ [x])).take most.toNat).length : Int)).toNat = most.toNat - (((zss[p.length]).take k).flatMap fun x => G M (Al zss) n (p ++ [x])).length := by
        rw [List.length_take]
        omega
      rw [e] at o9
      exact o9
    · have e : (zss[p.length]).take k = zss[p.length] := List.take_of_length_le (by simp only at hge; omega)
      rw [e, ← hG] at o5
      exact ⟨o5.mono hB, k5⟩
def openersOf (M : Mk) (zss : List (List Int)) : List (List Int) := G M (Al zss) M.c.toNat []
theorem openers_max {M : Mk} (hM : M.Ok) (zss : List (List Int)) : (openersOf M zss).length ≤ 262144 := G_max (by have := hM.2.1; omega) _ (by have := hM.1; omega) _
def impl_frees_1_vc (i : Int) (x : Int) (b0 : Nat) (w : World) (Post : Value → World → Prop) : Prop :=
  ∃ ad1 : Addr, (Value.pointer (some (⟨b0, 0, none⟩))) = Value.pointer (some ad1) ∧ ∃ u2 : Value, LdV w (Value.pointer (some (ad1.add 0))) u2 ∧ IxV 1 u2 i (fun ad3 => ∃ u4 : Value, LdV w (Value.pointer (some ad3)) u4 ∧ Calls Try.prog 133 #[u4, (Value.int .i64 x)] w (fun e5 w6 => ∃ b7 : Bool, e5 = .returned (Value.bool b7) ∧ Keeps w.heap.size [] w w6 ∧ Post (Value.bool b7) w6))
theorem impl_frees_1_eq (i : Int) (x : Int) (b0 : Nat) (w : World) (Post : Value → World → Prop) : denF Try.prog [] noAnn 136 [(Value.int .i64 i), (Value.int .i64 x), (Value.pointer (some (⟨b0, 0, none⟩)))] w Post = impl_frees_1_vc i x b0 w Post := by kernel_rfl
set_option maxRecDepth 100000 in
theorem impl_frees_1_calls (i : Int) (x : Int) (b0 : Nat) (w : World) (Post : Value → World → Prop) (hvc : impl_frees_1_vc i x b0 w Post) : Ret Try.prog 136 #[(Value.int .i64 i), (Value.int .i64 x), (Value.pointer (some (⟨b0, 0, none⟩)))] w Post :=
  Ret.of (denF_sound mixed (Eq.mpr (impl_frees_1_eq i x b0 w Post) hvc))

def impl_frees_vc (l_Sets : Value) (w : World) (Post : Value → World → Prop) : Prop :=
  oneC l_Sets (∀ (b2 : Nat) (w1 : World), Ext w w1 → w.heap.size ≤ b2 → w1.heap[b2]? = some (.cells #[l_Sets] 28 (0, 0)) → Post (Value.func (.func 136) #[] #[(Value.pointer (some (⟨b2, 0, none⟩)))]) w1)
theorem impl_frees_eq (l_Sets : Value) (w : World) (Post : Value → World → Prop) : denF Try.prog [1] noAnn 82 [(Value.agg #[l_Sets])] w Post = impl_frees_vc l_Sets w Post := by kernel_rfl
set_option maxRecDepth 100000 in
theorem impl_frees_calls (l_Sets : Value) (w : World) (Post : Value → World → Prop) (hvc : impl_frees_vc l_Sets w Post) : Ret Try.prog 82 #[(Value.agg #[l_Sets])] w Post :=
  Ret.of (denF_sound mixed (Eq.mpr (impl_frees_eq l_Sets w Post) hvc))

theorem impl_frees_ret (M : Mk) (v : Value) (zss : List (List Int)) (w : World) (h : RR w v zss) (hzl : (zss.length : Int) = M.c) : Ret Try.prog 82 #[lkV v] w fun r w' => AlOk Try.prog M.c M.d (Al zss) (fun W => Ext w' W) r ∧ Ext w w' :=
  impl_frees_calls v w _ (by
    unfold impl_frees_vc
    refine h.oneC fun b w1 h1 g1 c1 => ⟨.inr ⟨_, _, rfl, by kernel_rfl, fun W i x hW hi h0 hx => ?_⟩, h1⟩
    refine (impl_frees_1_calls i x b W (fun u w' => u = .bool (Al zss i x) ∧ Ext W w') ?_).call fun u w' hh => ⟨by rw [hh.1], hh.2⟩
    unfold impl_frees_1_vc
    have cW := (hW.block _ (heap_lt c1)).trans c1
    have hi' : i < zss.length := by omega
    refine ⟨_, rfl, v, ld_at cW 0 rfl, ((h.ext h1).ext hW).get i rfl hi' fun u hu => ?_⟩
    refine (slices_Contains_val u x zss[i] W hu).call fun w2 h2 => ⟨_, rfl, h2.keeps, ?_, h2⟩
    unfold Al
    rw [List.getD, List.getElem?_eq_getElem hi']
    rfl)
def coR (c d s m l : Int) (zss : List (List Int)) : Value := if LkOk c d s m l zss then .tuple #[.int .i64 ((openersOf ⟨c, d, s, m, l⟩ zss).length : Int), .int .i64 0] else .tuple #[.int .i64 0, .int .i64 1]
theorem coR_pair (c d s m l : Int) (zss : List (List Int)) : ∃ x y, coR c d s m l zss = .tuple #[.int .i64 x, .int .i64 y] := by unfold coR; split <;> exact ⟨_, _, rfl⟩
abbrev spec_CountOpeners_k0 (w : World) (Post : Value → World → Prop) (x22 : Int) (x23 : Int) (x24 : Int) (x25 : Int) (x26 : Int) (x27 : Value) (w28 : World) : Prop :=
  Calls Try.prog 119 #[(Value.agg #[(Value.int .i64 x22), (Value.int .i64 x23), (Value.int .i64 x24), (Value.int .i64 x25), (Value.int .i64 x26)]), (Value.agg #[x27]), (Value.slice none 0 0), (Value.int .i64 1000000)] w28 (fun e29 w30 => ∃ u31 : Value, e29 = .returned u31 ∧ Keeps w.heap.size [25, 28] w28 w30 ∧ LenV u31 (fun n32 => Post (Value.tuple #[(Value.int .i64 n32), (Value.int .i64 0)]) w30))
def spec_CountOpeners_vc (m_Chambers : Int) (m_Depths : Int) (m_Step : Int) (m_Same : Int) (m_Least : Int) (l_Sets : Value) (w : World) (Post : Value → World → Prop) : Prop :=
  ∀ w1 : World, Ext w w1 → oneC l_Sets (∀ w2 : World, Ext w1 w2 → Calls Try.prog 69 #[(Value.agg #[(Value.int .i64 m_Chambers), (Value.int .i64 m_Depths), (Value.int .i64 m_Step), (Value.int .i64 m_Same), (Value.int .i64 m_Least)]), (Value.agg #[l_Sets])] w2 (fun e3 w4 => ∃ b5 : Bool, e3 = .returned (Value.bool b5) ∧ Keeps w.heap.size [25, 28] w2 w4 ∧ (((!b5) = true → Post (Value.tuple #[(Value.int .i64 0), (Value.int .i64 1)]) w4) ∧ ((!b5) = false → (spec_CountOpeners_k0 w Post m_Chambers m_Depths m_Step m_Same m_Least l_Sets w4)))))
theorem spec_CountOpeners_eq (m_Chambers : Int) (m_Depths : Int) (m_Step : Int) (m_Same : Int) (m_Least : Int) (l_Sets : Value) (w : World) (Post : Value → World → Prop) : denF Try.prog [] noAnn 49 [(Value.agg #[(Value.int .i64 m_Chambers), (Value.int .i64 m_Depths), (Value.int .i64 m_Step), (Value.int .i64 m_Same), (Value.int .i64 m_Least)]), (Value.agg #[l_Sets])] w Post = spec_CountOpeners_vc m_Chambers m_Depths m_Step m_Same m_Least l_Sets w Post := by kernel_rfl
set_option maxRecDepth 100000 in
theorem spec_CountOpeners_calls (m_Chambers : Int) (m_Depths : Int) (m_Step : Int) (m_Same : Int) (m_Least : Int) (l_Sets : Value) (w : World) (Post : Value → World → Prop) (hvc : spec_CountOpeners_vc m_Chambers m_Depths m_Step m_Same m_Least l_Sets w Post) : Ret Try.prog 49 #[(Value.agg #[(Value.int .i64 m_Chambers), (Value.int .i64 m_Depths), (Value.int .i64 m_Step), (Value.int .i64 m_Same), (Value.int .i64 m_Least)]), (Value.agg #[l_Sets])] w Post :=
  Ret.of (denF_sound mixed (Eq.mpr (spec_CountOpeners_eq m_Chambers m_Depths m_Step m_Same m_Least l_Sets w Post) hvc))

theorem spec_CountOpeners_val (c d s m l : Int) (v : Value) (zss : List (List Int)) (w : World) (h : RR w v zss) : Val Try.prog 49 #[mkV c d s m l, lkV v] w (coR c d s m l zss) :=
  Ret.val (spec_CountOpeners_calls c d s m l v w _ (by
    unfold spec_CountOpeners_vc
    intro w1 h1
    refine h.oneC fun w2 h2 => ?_
    have k2 := h1.trans h2
    refine (spec_IsLock_val c d s m l v zss w2 (h.ext k2)).call fun w5 h5 => ⟨_, rfl, h5.keeps, fun hb => ⟨?_, k2.trans h5⟩, fun hb => ?_⟩
    · unfold coR; rw [if_neg (nd_t hb)]
    have hk := nd_f hb
    have hm := hk.1.1
    have k5 := k2.trans h5
    refine (spec_l04Openers_ret (M := ⟨c, d, s, m, l⟩) hk.1 v zss hk.2.2 hk.2.1 c.toNat [] (.slice none 0 0) 1000000 w5 w5.heap.size (by simp; omega) (by intro z hz; simp at hz) (RI.nil_ w5 0 (Nat.zero_le _)) (h.ext k5) (by omega) (Nat.le_refl _) (fun h0 => by omega)).call ?_
    rintro u w6 ⟨o6, h6⟩
    refine ⟨u, rfl, h6.keeps, o6.rr.len ⟨?_, k5.trans h6⟩⟩
    have hmax : (G ⟨c, d, s, m, l⟩ (Al zss) c.toNat []).length ≤ 262144 := openers_max (M := ⟨c, d, s, m, l⟩) hk.1 zss
    unfold coR openersOf
    rw [if_pos hk, List.take_of_length_le (by omega)]))
abbrev impl_CountOpeners_k0 (w : World) (Post : Value → World → Prop) (x26 : Int) (x27 : Int) (x28 : Int) (x29 : Int) (x30 : Int) (x31 : Value) (w32 : World) : Prop :=
  ∀ w33 : World, Ext w32 w33 → Calls Try.prog 82 #[(Value.agg #[x31])] w33 (fun e34 w35 => ∃ u36 : Value, e34 = .returned u36 ∧ Keeps w.heap.size [25, 28] w33 w35 ∧ Ext w33 w35 ∧ Calls Try.prog 81 #[(Value.agg #[(Value.int .i64 x26), (Value.int .i64 x27), (Value.int .i64 x28), (Value.int .i64 x29), (Value.int .i64 x30)]), u36] w35 (fun e37 w38 => ∃ n39 : Int, e37 = .returned (Value.int .i64 n39) ∧ Keeps w.heap.size [25, 28] w35 w38 ∧ Ext w33 w38 ∧ Post (Value.tuple #[(Value.int .i64 n39), (Value.int .i64 0)]) w38))
def impl_CountOpeners_vc (m_Chambers : Int) (m_Depths : Int) (m_Step : Int) (m_Same : Int) (m_Least : Int) (l_Sets : Value) (w : World) (Post : Value → World → Prop) : Prop :=
  ∀ w1 : World, Ext w w1 → oneC l_Sets (∀ w2 : World, Ext w1 w2 → oneC l_Sets (∀ (v3 : Value) (w4 : World), Own w2.heap.size w4 28 v3 [l_Sets] → Ext w2 w4 → Calls Try.prog 75 #[(Value.agg #[(Value.int .i64 m_Chambers), (Value.int .i64 m_Depths), (Value.int .i64 m_Step), (Value.int .i64 m_Same), (Value.int .i64 m_Least)]), v3] w4 (fun e5 w6 => ∃ n7 : Int, e5 = .returned (Value.int .i64 n7) ∧ Keeps w.heap.size [25, 28] w4 w6 ∧ (((n7 ≠ (0 : Int)) → Post (Value.tuple #[(Value.int .i64 0), (Value.int .i64 n7)]) w6) ∧ (¬ (n7 ≠ (0 : Int)) → (impl_CountOpeners_k0 w Post m_Chambers m_Depths m_Step m_Same m_Least l_Sets w6))))))
theorem impl_CountOpeners_eq (m_Chambers : Int) (m_Depths : Int) (m_Step : Int) (m_Same : Int) (m_Least : Int) (l_Sets : Value) (w : World) (Post : Value → World → Prop) : denF Try.prog [1000082] noAnn 17 [(Value.agg #[(Value.int .i64 m_Chambers), (Value.int .i64 m_Depths), (Value.int .i64 m_Step), (Value.int .i64 m_Same), (Value.int .i64 m_Least)]), (Value.agg #[l_Sets])] w Post = impl_CountOpeners_vc m_Chambers m_Depths m_Step m_Same m_Least l_Sets w Post := by kernel_rfl
set_option maxRecDepth 100000 in
theorem impl_CountOpeners_calls (m_Chambers : Int) (m_Depths : Int) (m_Step : Int) (m_Same : Int) (m_Least : Int) (l_Sets : Value) (w : World) (Post : Value → World → Prop) (hvc : impl_CountOpeners_vc m_Chambers m_Depths m_Step m_Same m_Least l_Sets w Post) : Ret Try.prog 17 #[(Value.agg #[(Value.int .i64 m_Chambers), (Value.int .i64 m_Depths), (Value.int .i64 m_Step), (Value.int .i64 m_Same), (Value.int .i64 m_Least)]), (Value.agg #[l_Sets])] w Post :=
  Ret.of (denF_sound mixed (Eq.mpr (impl_CountOpeners_eq m_Chambers m_Depths m_Step m_Same m_Least l_Sets w Post) hvc))

theorem impl_CountOpeners_val (c d s m l : Int) (v : Value) (zss : List (List Int)) (w : World) (h : RR w v zss) : Val Try.prog 17 #[mkV c d s m l, lkV v] w (coR c d s m l zss) :=
  Ret.val (impl_CountOpeners_calls c d s m l v w _ (by
    unfold impl_CountOpeners_vc
    intro w1 h1
    refine h.oneC fun w2 h2 => h.oneC fun v3 w4 o4 h4 => ?_
    have k4 := (h1.trans h2).trans h4
    refine (impl_locksCode_val c d s m l v3 [zss] w4 (RLs.one o4 (h.ext k4))).call fun w5 h5 => ⟨_, rfl, h5.keeps, ?_⟩
    rw [locksR_one]
    have k5 := k4.trans h5
    by_cases hk : LkOk c d s m l zss
    · rw [if_pos hk]
      refine ⟨fun hne => absurd rfl hne, fun _ => ?_⟩
      intro w6 h6
      have k6 := k5.trans h6
      refine (impl_frees_ret ⟨c, d, s, m, l⟩ v zss w6 (h.ext k6) hk.2.1).call ?_
      rintro r w7 ⟨ha, h7⟩
      refine ⟨r, rfl, h7.keeps, h7, ?_⟩
      refine (impl_countKeys_val (M := ⟨c, d, s, m, l⟩) hk.1 ha).call fun w8 h8 => ⟨_, rfl, h8.keeps, h7.trans h8, ?_, (k6.trans h7).trans h8⟩
      unfold coR openersOf; rw [if_pos hk]
    · rw [if_neg hk]
      refine ⟨fun _ => ⟨?_, k5⟩, fun hn => absurd (by decide) hn⟩
      unfold coR; rw [if_neg hk]))
def ooCode (c d s m l : Int) (zss : List (List Int)) (n : Int) : Int := if LkOk c d s m l zss then (if 0 ≤ n ∧ n ≤ 300 then 0 else 2) else 1
def ooR (c d s m l : Int) (zss : List (List Int)) (n : Int) : List (List Int) := if LkOk c d s m l zss then (if 0 ≤ n ∧ n ≤ 300 then (openersOf ⟨c, d, s, m, l⟩ zss).take n.toNat else []) else []
theorem ooR_total (c d s m l : Int) (zss : List (List Int)) (n : Int) : total (ooR c d s m l zss n) ≤ 1000000 := by
  unfold ooR
  split
  · rename_i hk
    have hm := hk.1.1
    split
    · rename_i hn
      have h := total_max (zss := (openersOf ⟨c, d, s, m, l⟩ zss).take n.toNat) (n := 6) fun z hz => by
        have := G_length (List.mem_of_mem_take hz)
        simp only [List.length_nil] at this
        omega
      rw [List.length_take] at h
      omega
    · simp [total]
  · simp [total]
abbrev spec_OpenersOf_k0 (w : World) (Post : Value → World → Prop) (x38 : Int) (x51 : Int) (x52 : Int) (x53 : Int) (x54 : Int) (x55 : Int) (x56 : Value) (w57 : World) : Prop :=
  Calls Try.prog 119 #[(Value.agg #[(Value.int .i64 x51), (Value.int .i64 x52), (Value.int .i64 x53), (Value.int .i64 x54), (Value.int .i64 x55)]), (Value.agg #[x56]), (Value.slice none 0 0), (Value.int .i64 x38)] w57 (fun e58 w59 => ∃ u60 : Value, e58 = .returned u60 ∧ Keeps w.heap.size [25, 28] w57 w59 ∧ Post (Value.tuple #[u60, (Value.int .i64 0)]) w59)
abbrev spec_OpenersOf_k1 (w : World) (Post : Value → World → Prop) (x12 : Int) (x22 : Int) (x23 : Int) (x24 : Int) (x25 : Int) (x26 : Int) (x27 : Value) (w28 : World) : Prop :=
  Calls Try.prog 107 #[(Value.int .i64 x12), (Value.int .i64 0), (Value.int .i64 300)] w28 (fun e29 w30 => ∃ b31 : Bool, e29 = .returned (Value.bool b31) ∧ Keeps w.heap.size [25, 28] w28 w30 ∧ (((!b31) = true → Post (Value.tuple #[(Value.slice none 0 0), (Value.int .i64 2)]) w30) ∧ ((!b31) = false → (spec_OpenersOf_k0 w Post x12 x22 x23 x24 x25 x26 x27 w30))))
def spec_OpenersOf_vc (m_Chambers : Int) (m_Depths : Int) (m_Step : Int) (m_Same : Int) (m_Least : Int) (l_Sets : Value) (n : Int) (w : World) (Post : Value → World → Prop) : Prop :=
  ∀ w1 : World, Ext w w1 → oneC l_Sets (∀ w2 : World, Ext w1 w2 → Calls Try.prog 69 #[(Value.agg #[(Value.int .i64 m_Chambers), (Value.int .i64 m_Depths), (Value.int .i64 m_Step), (Value.int .i64 m_Same), (Value.int .i64 m_Least)]), (Value.agg #[l_Sets])] w2 (fun e3 w4 => ∃ b5 : Bool, e3 = .returned (Value.bool b5) ∧ Keeps w.heap.size [25, 28] w2 w4 ∧ (((!b5) = true → Post (Value.tuple #[(Value.slice none 0 0), (Value.int .i64 1)]) w4) ∧ ((!b5) = false → (spec_OpenersOf_k1 w Post n m_Chambers m_Depths m_Step m_Same m_Least l_Sets w4)))))
theorem spec_OpenersOf_eq (m_Chambers : Int) (m_Depths : Int) (m_Step : Int) (m_Same : Int) (m_Least : Int) (l_Sets : Value) (n : Int) (w : World) (Post : Value → World → Prop) : denF Try.prog [] noAnn 48 [(Value.agg #[(Value.int .i64 m_Chambers), (Value.int .i64 m_Depths), (Value.int .i64 m_Step), (Value.int .i64 m_Same), (Value.int .i64 m_Least)]), (Value.agg #[l_Sets]), (Value.int .i64 n)] w Post = spec_OpenersOf_vc m_Chambers m_Depths m_Step m_Same m_Least l_Sets n w Post := by kernel_rfl
set_option maxRecDepth 100000 in
theorem spec_OpenersOf_calls (m_Chambers : Int) (m_Depths : Int) (m_Step : Int) (m_Same : Int) (m_Least : Int) (l_Sets : Value) (n : Int) (w : World) (Post : Value → World → Prop) (hvc : spec_OpenersOf_vc m_Chambers m_Depths m_Step m_Same m_Least l_Sets n w Post) : Ret Try.prog 48 #[(Value.agg #[(Value.int .i64 m_Chambers), (Value.int .i64 m_Depths), (Value.int .i64 m_Step), (Value.int .i64 m_Same), (Value.int .i64 m_Least)]), (Value.agg #[l_Sets]), (Value.int .i64 n)] w Post :=
  Ret.of (denF_sound mixed (Eq.mpr (spec_OpenersOf_eq m_Chambers m_Depths m_Step m_Same m_Least l_Sets n w Post) hvc))

theorem spec_OpenersOf_ret (c d s m l : Int) (v : Value) (zss : List (List Int)) (n : Int) (w : World) (h : RR w v zss) : SsR 48 #[mkV c d s m l, lkV v, .int .i64 n] w (ooR c d s m l zss n) (ooCode c d s m l zss n) :=
  spec_OpenersOf_calls c d s m l v n w _ (by
    unfold spec_OpenersOf_vc
    intro w1 h1
    refine h.oneC fun w2 h2 => ?_
    have k2 := h1.trans h2
    refine (spec_IsLock_val c d s m l v zss w2 (h.ext k2)).call fun w5 h5 => ⟨_, rfl, h5.keeps, fun hb => ?_, fun hb => ?_⟩
    · unfold ooR ooCode; rw [if_neg (nd_t hb), if_neg (nd_t hb)]
      exact ⟨_, rfl, OwnR.nil_ _ _, k2.trans h5⟩
    have hk := nd_f hb
    have hm := hk.1.1
    have k5 := k2.trans h5
    refine (spec_l01In_val ..).call fun w6 h6 => ⟨_, rfl, h6.keeps, fun hb => ?_, fun hb => ?_⟩
    · unfold ooR ooCode; rw [if_pos hk, if_pos hk, if_neg (nd_t hb), if_neg (nd_t hb)]
      exact ⟨_, rfl, OwnR.nil_ _ _, k5.trans h6⟩
    have hn := nd_f hb
    have k6 := k5.trans h6
    refine (spec_l04Openers_ret (M := ⟨c, d, s, m, l⟩) hk.1 v zss hk.2.2 hk.2.1 c.toNat [] (.slice none 0 0) n w6 w6.heap.size (by simp; omega) (by intro z hz; simp at hz) (RI.nil_ w6 0 (Nat.zero_le _)) (h.ext k6) (by omega) (Nat.le_refl _) (fun h0 => by omega)).call ?_
    rintro u w7 ⟨o7, h7⟩
    refine ⟨u, rfl, h7.keeps, ?_⟩
    unfold ooR ooCode; rw [if_pos hk, if_pos hk, if_pos hn, if_pos hn]
    exact ⟨u, rfl, o7.mono k6.size, k6.trans h7⟩)
abbrev impl_OpenersOf_k0 (w : World) (Post : Value → World → Prop) (x42 : Int) (x57 : Int) (x58 : Int) (x59 : Int) (x60 : Int) (x61 : Int) (x62 : Value) (w63 : World) : Prop :=
  ∀ w64 : World, Ext w63 w64 → Calls Try.prog 82 #[(Value.agg #[x62])] w64 (fun e65 w66 => ∃ u67 : Value, e65 = .returned u67 ∧ Keeps w.heap.size [25, 28] w64 w66 ∧ Ext w64 w66 ∧ Calls Try.prog 97 #[(Value.agg #[(Value.int .i64 x57), (Value.int .i64 x58), (Value.int .i64 x59), (Value.int .i64 x60), (Value.int .i64 x61)]), (Value.slice none 0 0), u67, (Value.int .i64 x42)] w66 (fun e68 w69 => ∃ u70 : Value, e68 = .returned u70 ∧ Keeps w.heap.size [25, 28] w66 w69 ∧ Ext w64 w69 ∧ Post (Value.tuple #[u70, (Value.int .i64 0)]) w69))
abbrev impl_OpenersOf_k1 (w : World) (Post : Value → World → Prop) (x14 : Int) (x26 : Int) (x27 : Int) (x28 : Int) (x29 : Int) (x30 : Int) (x31 : Value) (w32 : World) : Prop :=
  Calls Try.prog 104 #[(Value.int .i64 x14), (Value.int .i64 0), (Value.int .i64 300)] w32 (fun e33 w34 => ∃ b35 : Bool, e33 = .returned (Value.bool b35) ∧ Keeps w.heap.size [25, 28] w32 w34 ∧ (((!b35) = true → Post (Value.tuple #[(Value.slice none 0 0), (Value.int .i64 2)]) w34) ∧ ((!b35) = false → (impl_OpenersOf_k0 w Post x14 x26 x27 x28 x29 x30 x31 w34))))
def impl_OpenersOf_vc (m_Chambers : Int) (m_Depths : Int) (m_Step : Int) (m_Same : Int) (m_Least : Int) (l_Sets : Value) (n : Int) (w : World) (Post : Value → World → Prop) : Prop :=
  ∀ w1 : World, Ext w w1 → oneC l_Sets (∀ w2 : World, Ext w1 w2 → oneC l_Sets (∀ (v3 : Value) (w4 : World), Own w2.heap.size w4 28 v3 [l_Sets] → Ext w2 w4 → Calls Try.prog 75 #[(Value.agg #[(Value.int .i64 m_Chambers), (Value.int .i64 m_Depths), (Value.int .i64 m_Step), (Value.int .i64 m_Same), (Value.int .i64 m_Least)]), v3] w4 (fun e5 w6 => ∃ n7 : Int, e5 = .returned (Value.int .i64 n7) ∧ Keeps w.heap.size [25, 28] w4 w6 ∧ (((n7 ≠ (0 : Int)) → Post (Value.tuple #[(Value.slice none 0 0), (Value.int .i64 n7)]) w6) ∧ (¬ (n7 ≠ (0 : Int)) → (impl_OpenersOf_k1 w Post n m_Chambers m_Depths m_Step m_Same m_Least l_Sets w6))))))
theorem impl_OpenersOf_eq (m_Chambers : Int) (m_Depths : Int) (m_Step : Int) (m_Same : Int) (m_Least : Int) (l_Sets : Value) (n : Int) (w : World) (Post : Value → World → Prop) : denF Try.prog [1000082, 1000097] noAnn 47 [(Value.agg #[(Value.int .i64 m_Chambers), (Value.int .i64 m_Depths), (Value.int .i64 m_Step), (Value.int .i64 m_Same), (Value.int .i64 m_Least)]), (Value.agg #[l_Sets]), (Value.int .i64 n)] w Post = impl_OpenersOf_vc m_Chambers m_Depths m_Step m_Same m_Least l_Sets n w Post := by kernel_rfl
set_option maxRecDepth 100000 in
theorem impl_OpenersOf_calls (m_Chambers : Int) (m_Depths : Int) (m_Step : Int) (m_Same : Int) (m_Least : Int) (l_Sets : Value) (n : Int) (w : World) (Post : Value → World → Prop) (hvc : impl_OpenersOf_vc m_Chambers m_Depths m_Step m_Same m_Least l_Sets n w Post) : Ret Try.prog 47 #[(Value.agg #[(Value.int .i64 m_Chambers), (Value.int .i64 m_Depths), (Value.int .i64 m_Step), (Value.int .i64 m_Same), (Value.int .i64 m_Least)]), (Value.agg #[l_Sets]), (Value.int .i64 n)] w Post :=
  Ret.of (denF_sound mixed (Eq.mpr (impl_OpenersOf_eq m_Chambers m_Depths m_Step m_Same m_Least l_Sets n w Post) hvc))

theorem impl_OpenersOf_ret (c d s m l : Int) (v : Value) (zss : List (List Int)) (n : Int) (w : World) (h : RR w v zss) : SsR 47 #[mkV c d s m l, lkV v, .int .i64 n] w (ooR c d s m l zss n) (ooCode c d s m l zss n) :=
  impl_OpenersOf_calls c d s m l v n w _ (by
    unfold impl_OpenersOf_vc
    intro w1 h1
    refine h.oneC fun w2 h2 => h.oneC fun v3 w4 o4 h4 => ?_
    have k4 := (h1.trans h2).trans h4
    refine (impl_locksCode_val c d s m l v3 [zss] w4 (RLs.one o4 (h.ext k4))).call fun w5 h5 => ⟨_, rfl, h5.keeps, ?_⟩
    rw [locksR_one]
    have k5 := k4.trans h5
    by_cases hk : LkOk c d s m l zss
    · rw [if_pos hk]
      refine ⟨fun hne => absurd rfl hne, fun _ => ?_⟩
      refine (impl_within_val ..).call fun w55 h55 => ⟨_, rfl, h55.keeps, fun hb => ?_, fun hb => ?_⟩
      · unfold ooR ooCode; rw [if_pos hk, if_pos hk, if_neg (nd_t hb), if_neg (nd_t hb)]
        exact ⟨_, rfl, OwnR.nil_ _ _, k5.trans h55⟩
      have hn := nd_f hb
      have k55 := k5.trans h55
      intro w6 h6
      have k6 := k55.trans h6
      refine (impl_frees_ret ⟨c, d, s, m, l⟩ v zss w6 (h.ext k6) hk.2.1).call ?_
      rintro r w7 ⟨ha, h7⟩
      refine ⟨r, rfl, h7.keeps, h7, ?_⟩
      refine (impl_firstKeys_ret (M := ⟨c, d, s, m, l⟩) hk.1 (al := Al zss) (fr := []) (tight := false) (most := n) ha NilS.nil_ (RI.nil_ w7 0 (Nat.zero_le _)) (by intro z hz; simp at hz) (by simp)).call ?_
      rintro u w8 ⟨o8, h8⟩
      rw [GT_false] at o8
      refine ⟨u, rfl, h8.keeps, h7.trans h8, ?_⟩
      unfold ooR ooCode; rw [if_pos hk, if_pos hk, if_pos hn, if_pos hn]
      exact ⟨u, rfl, o8.mono (k6.trans h7).size, (k6.trans h7).trans h8⟩
    · rw [if_neg hk]
      refine ⟨fun _ => ?_, fun hn => absurd (by decide) hn⟩
      unfold ooR ooCode; rw [if_neg hk, if_neg hk]
      exact ⟨_, rfl, OwnR.nil_ _ _, k5⟩)
end Go.Proofs
