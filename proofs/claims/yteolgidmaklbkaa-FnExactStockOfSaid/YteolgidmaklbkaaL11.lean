/- The laws' own helpers on slices of locks: the copy, the comparison, the size and the mark. No condition. -/
import Derived.Test.YteolgidmaklbkaaMarks
import Derived.Test.YteolgidmaklbkaaVw
import Derived.Test.YteolgidmaklbkaaL04b
set_option linter.unusedVariables false
namespace Go.Sx
open Go Go.RowKit Go.ChangeShapes Go.WideShapes Go.Deep Go.Proofs
section
variable {H : Type} {enc : TypeId × Value → H} {P : Program} {w : World} {base : Nat} {held : Bool} {r : Reach} {b0 : Nat} {t s u e q : TypeId} {v : Value} {d : DataW H} {ps : List MemPlace}
/-- a slice of locks among the arguments -/
theorem open_RL {f0 : Field} (ht : P.underlying t = some (.slice s)) (hs : P.underlying s = some (.struct #[f0])) (ho : f0.offset = 0) (hf : f0.type = u) (cu : P.cellsOf u = 1) (cs1 : P.cellsOf s = 1) (hu : P.underlying u = some (.slice e)) (he : P.underlying e = some (.slice q)) (hq : P.underlying q = some (.int .i64)) (ce : P.cellsOf e = 1) (cq : P.cellsOf q = 1)
    (hv : Value.okWide P w r b0 t v) (h : DataW.Trod enc P w base (fun _ => true) held t v d ps) : ∃ lss : List (List (List Int)), RLs w v lss := by
  obtain ⟨a, len, cap, rfl⟩ := okWide_slice ht hv
  obtain ⟨fuel, hfu⟩ := h
  rcases open_slice1 ht cs1 hfu with ⟨h0, _⟩ | ⟨a, len, cap, m, n, V, D, Pl, h0, hb, hl, hm, hmm, _, hx⟩
  · simp only [Value.cells, List.cons.injEq, and_true, Value.slice.injEq] at h0
    obtain ⟨rfl, rfl, rfl⟩ := h0
    exact ⟨[], [], Rd.nil_ w 0 (Nat.zero_le _), rfl, fun i u z h => by simp at h⟩
  · simp only [Value.cells, List.cons.injEq, and_true, Value.slice.injEq] at h0
    obtain ⟨rfl, rfl, rfl⟩ := h0
    have hlm : len ≤ m := by rw [hmm]; split <;> omega
    have each : ∀ i, i < len → ∃ zss : List (List Int), RR w (V i) zss := by
      intro i hi
      obtain ⟨_, hd⟩ := hx i (by omega)
      obtain ⟨y0, n', _, _, hy⟩ := trod_struct1 hs hd
      rw [ho, hf, cu] at hy
      have hy : DataW.trod enc P w base (fun _ => true) held n' u [V i] = some y0 := by simpa using hy
      obtain ⟨zss, h1, _⟩ := open_RR1 hu he hq ce cq hy
      exact ⟨zss, h1⟩
    obtain ⟨L, hL⟩ := choose_lt each
    refine ⟨(List.range len).map L, (List.range len).map V, ⟨some a, cap, by simp, by simpa using hl, hm, fun _ => ⟨a, rfl, fun j x hj => ?_⟩⟩, by simp, fun i x z hu' hz => ?_⟩
    · have hjl : j < len := by
        have := (List.getElem?_eq_some_iff.1 hj).1
        simpa using this
      rw [List.getElem?_map, List.getElem?_range hjl] at hj
      simp only [Option.map_some, Option.some.injEq] at hj
      rw [← hj]
      exact (hx j (by omega)).1
    · have hil : i < len := by
        have := (List.getElem?_eq_some_iff.1 hu').1
        simpa using this
      rw [List.getElem?_map, List.getElem?_range hil] at hu' hz
      simp only [Option.map_some, Option.some.injEq] at hu' hz
      rw [← hu', ← hz]
      exact hL i hil
end
end Go.Sx
namespace Go.Proofs
open Go.Sx Go.RowKit
def ltot (lss : List (List (List Int))) : Nat := (lss.map total).sum
theorem ltot_snoc (lss : List (List (List Int))) (k : Nat) (hk : k < lss.length) : ltot (lss.take (k + 1)) = ltot (lss.take k) + total lss[k] := by
  unfold ltot
  rw [take_snoc lss k hk, List.map_append, List.sum_append]
  simp
theorem ltot_le {lss : List (List (List Int))} (k : Nat) : ltot (lss.take k) ≤ ltot lss := by
  conv => rhs; rw [← List.take_append_drop k lss]
  unfold ltot
  rw [List.map_append, List.sum_append]
  omega
theorem mem_total {zss : List (List Int)} {z : List Int} (hz : z ∈ zss) : z.length ≤ total zss := by
  unfold total
  induction zss with
  | nil => cases hz
  | cons y zss ih =>
    simp only [List.map_cons, List.sum_cons]
    rcases List.mem_cons.1 hz with rfl | hz
    · omega
    · have := ih hz; omega
/-! ### sizes, exactly -/
theorem laws_szInt64S_tot (v : Value) (n : Int) (zs : List Int) (w : World) (h : RI w v zs) (hn : 0 ≤ n) (hn' : n ≤ 1048576) :
    Ret Try.prog 126 #[v, .int .i64 n] w fun r w' => Ext w w' ∧ ∃ m : Int, r = .int .i64 m ∧ m ≤ n ∧ (0 ≤ m → m + zs.length ≤ n) :=
  laws_szInt64S_calls v n zs w _ (by
    unfold laws_szInt64S_vc
    have hbd := h.bound
    exact h.len ⟨by unfold I64; omega, fun hlt => ⟨.refl w, -1, rfl, by omega, by omega⟩, fun hge => ⟨.refl w, _, rfl, by omega, by omega⟩⟩)
theorem laws_szInt64SS_tot (v : Value) (n : Int) (zss : List (List Int)) (w : World) (h : RR w v zss) (hn : 0 ≤ n) (hn' : n ≤ 1048576) :
    Ret Try.prog 56 #[v, .int .i64 n] w fun r w' => Ext w w' ∧ ∃ m : Int, r = .int .i64 m ∧ m ≤ n ∧ (0 ≤ m → m + zss.length + total zss ≤ n) :=
  laws_szInt64SS_calls v n zss w _ (by
    unfold laws_szInt64SS_vc
    have hbd := h.bound
    refine h.len ⟨by unfold I64; omega, fun hlt => ⟨.refl w, -1, rfl, by omega, by omega⟩, fun hge => ?_⟩
    refine ⟨fun s W => s.1 ≤ zss.length ∧ Ext w W ∧ 0 ≤ s.2 ∧ s.2 + zss.length + total (zss.take s.1) ≤ n, fun s _ => zss.length - s.1, ⟨(0, n - zss.length), rfl, rfl, Nat.zero_le _, .refl w, by simp only; omega, by simp [total]⟩, ?_⟩
    rintro ⟨k, l⟩ w1 ⟨hk, h1, hl0, hl⟩
    simp only at hk hl0 hl
    refine (h.ext h1).len ⟨fun hlt => ?_, fun hge2 => ?_⟩
    · have hlt' : k < zss.length := by simp only at hlt; omega
      have hts := total_snoc zss k hlt'
      refine (h.ext h1).get k rfl hlt' fun x hx => ?_
      refine (laws_szInt64S_tot x l _ w1 hx hl0 (by omega)).call ?_
      rintro r w2 ⟨h2, m, rfl, hm, hm'⟩
      refine ⟨m, rfl, h2.keeps, fun hneg => ⟨h1.trans h2, -1, rfl, by omega, by omega⟩, fun hpos => ⟨by unfold I64; simp only; omega, (k + 1, m), rfl, rfl, ⟨hlt', h1.trans h2, by simp only; omega, by have := hm' (by omega); simp only; omega⟩, by simp only; omega⟩⟩
    · have hke : k = zss.length := by simp only at hge2; omega
      subst hke
      rw [List.take_length] at hl
      exact ⟨h1, l, rfl, by omega, fun _ => hl⟩)
theorem laws_szLock_tot (v : Value) (n : Int) (zss : List (List Int)) (w : World) (h : RR w v zss) (hn : 0 ≤ n) (hn' : n ≤ 1048576) :
    Ret Try.prog 44 #[lkV v, .int .i64 n] w fun r w' => Ext w w' ∧ ∃ m : Int, r = .int .i64 m ∧ m ≤ n ∧ (0 ≤ m → m + zss.length + total zss ≤ n) :=
  laws_szLock_calls v n zss w _ (by
    unfold laws_szLock_vc
    refine h.oneC fun w1 h1 => ?_
    refine (laws_szInt64SS_tot v n zss w1 (h.ext h1) hn hn').call ?_
    rintro r w2 ⟨h2, m, rfl, hm, hm'⟩
    exact ⟨m, rfl, h2.keeps, fun hneg => ⟨h1.trans h2, -1, rfl, by omega, by omega⟩, fun hpos => ⟨h1.trans h2, m, rfl, hm, hm'⟩⟩)
def laws_szLockS_A (v : Value) (n : Int) (w : World) : Nat → Ann := fun κ => match κ with
  | 0 => { σ := Nat × Int, sli := [5, 1], slc := fun s => [SV.v (Value.int .i64 (s.1 : Int)), SV.v (Value.int .i64 s.2)], bxi := [], bxc := fun s => [], inv := fun s W => True, μ := fun s W => 0, free := true }
  | _ => { σ := Unit, sli := [], slc := fun _ => [], bxi := [], bxc := fun _ => [], inv := fun _ _ => False, μ := fun _ _ => 0 }
abbrev laws_szLockS_k0 (s12 : Nat × Int) (w13 : World) (J14 : (Nat × Int) → World → Prop) (m15 : (Nat × Int) → World → Nat) (x28 : Int) (x29 : Int) (w40 : World) : Prop :=
  I64 (x29 + 1) ∧ ∃ s41 : (Nat × Int), (Value.int .i64 (x29 + 1)) = (Value.int .i64 (s41.1 : Int)) ∧ (Value.int .i64 x28) = (Value.int .i64 s41.2) ∧ (J14 s41 w40) ∧ (m15 s41 w40) < (m15 s12 w13)
abbrev laws_szLockS_k1 (w : World) (Post : Value → World → Prop) (x2 : Value) (s12 : Nat × Int) (w13 : World) (J14 : (Nat × Int) → World → Prop) (m15 : (Nat × Int) → World → Nat) (x17 : Int) (x18 : Int) (w22 : World) : Prop :=
  IxV 1 x2 x18 (fun ad23 => ∃ u24 : Value, LdV w22 (Value.pointer (some ad23)) u24 ∧ Calls Try.prog 44 #[(Value.agg #[u24]), (Value.int .i64 x17)] w22 (fun e25 w26 => ∃ n27 : Int, e25 = .returned (Value.int .i64 n27) ∧ Keeps w.heap.size [] w22 w26 ∧ (((n27 < (0 : Int)) → Post (Value.int .i64 (-1)) w26) ∧ (¬ (n27 < (0 : Int)) → (laws_szLockS_k0 s12 w13 J14 m15 n27 x18 w26)))))
abbrev laws_szLockS_k2 (w : World) (Post : Value → World → Prop) (x2 : Value) (x3 : Int) (w10 : World) : Prop :=
  (∃ (J14 : (Nat × Int) → World → Prop) (m15 : (Nat × Int) → World → Nat), ((∃ s11 : (Nat × Int), (Value.int .i64 0) = (Value.int .i64 (s11.1 : Int)) ∧ (Value.int .i64 x3) = (Value.int .i64 s11.2) ∧ (J14 s11 w10)) ∧ ∀ (s12 : (Nat × Int)) (w13 : World), (J14 s12 w13) → LenV x2 (fun n16 => ((((s12.1 : Int) < n16) → (laws_szLockS_k1 w Post x2 s12 w13 J14 m15 s12.2 (s12.1 : Int) w13)) ∧ (¬ ((s12.1 : Int) < n16) → Post (Value.int .i64 s12.2) w13)))))
def laws_szLockS_vc (v : Value) (n : Int) (w : World) (Post : Value → World → Prop) : Prop :=
  LenV v (fun n1 => I64 (n - n1) ∧ ((((n - n1) < (0 : Int)) → Post (Value.int .i64 (-1)) w) ∧ (¬ ((n - n1) < (0 : Int)) → (laws_szLockS_k2 w Post v (n - n1) w))))
theorem laws_szLockS_eq (v : Value) (n : Int) (w : World) (Post : Value → World → Prop) : denF Try.prog [] (laws_szLockS_A v n w) 62 [v, (Value.int .i64 n)] w Post = laws_szLockS_vc v n w Post := by kernel_rfl
set_option maxRecDepth 100000 in
theorem laws_szLockS_calls (v : Value) (n : Int) (w : World) (Post : Value → World → Prop) (hvc : laws_szLockS_vc v n w Post) : Ret Try.prog 62 #[v, (Value.int .i64 n)] w Post :=
  Ret.of (denF_sound mixed (Eq.mpr (laws_szLockS_eq v n w Post) hvc))

theorem laws_szLockS_ret (v : Value) (n : Int) (lss : List (List (List Int))) (w : World) (h : RLs w v lss) (hn : 0 ≤ n) (hn' : n ≤ 1048576) :
    Ret Try.prog 62 #[v, .int .i64 n] w fun r w' => Ext w w' ∧ ∃ m : Int, r = .int .i64 m ∧ m ≤ n ∧ (0 ≤ m → lss.length + ltot lss ≤ n ∧ ∀ z ∈ lss, z.length ≤ n ∧ ∀ y ∈ z, y.length ≤ n) :=
  laws_szLockS_calls v n w _ (by
    unfold laws_szLockS_vc
    have hbd := h.bound
    refine h.len ⟨by unfold I64; omega, fun hlt => ⟨.refl w, -1, rfl, by omega, by omega⟩, fun hge => ?_⟩
    refine ⟨fun s W => s.1 ≤ lss.length ∧ Ext w W ∧ 0 ≤ s.2 ∧ s.2 + lss.length + ltot (lss.take s.1) ≤ n ∧ ∀ z ∈ lss.take s.1, z.length ≤ n ∧ ∀ y ∈ z, y.length ≤ n, fun s _ => lss.length - s.1, ⟨(0, n - lss.length), rfl, rfl, Nat.zero_le _, .refl w, by simp only; omega, by simp [ltot], by simp⟩, ?_⟩
    rintro ⟨k, l⟩ w1 ⟨hk, h1, hl0, hl, hall⟩
    simp only at hk hl0 hl hall
    refine (h.ext h1).len ⟨fun hlt => ?_, fun hge2 => ?_⟩
    · have hlt' : k < lss.length := by simp only at hlt; omega
      have hts := ltot_snoc lss k hlt'
      refine (h.ext h1).get k rfl hlt' fun x hx => ?_
      refine (laws_szLock_tot x l _ w1 hx hl0 (by omega)).call ?_
      rintro r w2 ⟨h2, m, rfl, hm, hm'⟩
      refine ⟨m, rfl, h2.keeps, fun hneg => ⟨h1.trans h2, -1, rfl, by omega, by omega⟩, fun hpos => ⟨by unfold I64; simp only; omega, (k + 1, m), rfl, rfl, ⟨hlt', h1.trans h2, by simp only; omega, by have := hm' (by omega); simp only; omega, ?_⟩, by simp only; omega⟩⟩
      have hmm := hm' (by omega)
      intro z hz
      simp only at hz
      rw [take_snoc lss k hlt', List.mem_append] at hz
      rcases hz with hz | hz
      · exact hall z hz
      · have : z = lss[k] := by simpa using hz
        subst this
        exact ⟨by omega, fun y hy => by have := mem_total hy; omega⟩
    · have hke : k = lss.length := by simp only at hge2; omega
      subst hke
      rw [List.take_length] at hl hall
      exact ⟨h1, l, rfl, by omega, fun _ => ⟨by omega, hall⟩⟩)
/-! ### slices of locks of the call's own -/
section
variable {B N : Nat} {w w' : World} {v : Value}
theorem OwnM.base {zss : List (List Int)} (h : OwnM B N w v zss) {B' N' : Nat} (hB : B' ≤ B) (hN : N ≤ N') : OwnM B' N' w v zss :=
  let ⟨us, h1, h2, h3⟩ := h
  ⟨us, ⟨h1.1.mono hB, fun g hg => Nat.lt_of_lt_of_le (h1.2 g hg) hN⟩, h2.map fun u z hr => ⟨hr.1.mono hB, fun g hg => Nat.lt_of_lt_of_le (hr.2 g hg) hN⟩, h3⟩
theorem OwnM.grownT {zss : List (List Int)} (h : OwnM B N w v zss) {B' : Nat} {e' : TypeId} {u : Value} {ys : List Value} (o : Own B' w e' u ys) (h1 : 22 ≠ e') (h2 : 2 ≠ e') (g : w.grownBy w' u.ownBlock) : OwnM B N w' v zss :=
  let ⟨us, g1, g2, g3⟩ := h
  ⟨us, ⟨g1.1.grown g (Apart.types g1.1 o h1), g1.2⟩, g2.map fun x z hr => ⟨hr.1.grown g (Apart.types hr.1 o h2), hr.2⟩, g3⟩
/-- each lock in an interval of its own -/
def OwnLM (B N : Nat) (w : World) (v : Value) (lss : List (List (List Int))) : Prop :=
  ∃ (us : List Value) (bs : Nat → Nat), OwnI B N w 53 v us ∧ us.length = lss.length ∧ B ≤ bs 0 ∧ (∀ i, i < lss.length → bs i ≤ bs (i + 1)) ∧ bs lss.length ≤ N ∧ ∀ (i : Nat) (u : Value) (z : List (List Int)), us[i]? = some u → lss[i]? = some z → OwnM (bs i) (bs (i + 1)) w u z
theorem bs_le {bs : Nat → Nat} {n : Nat} (h : ∀ i, i < n → bs i ≤ bs (i + 1)) : ∀ i j, i ≤ j → j ≤ n → bs i ≤ bs j := by
  intro i j hij hj
  induction j with
  | zero => have : i = 0 := by omega
            subst this; exact Nat.le_refl _
  | succ j ih =>
    rcases Nat.lt_or_ge i (j + 1) with h1 | h1
    · exact Nat.le_trans (ih (by omega) (by omega)) (h j (by omega))
    · have : i = j + 1 := by omega
      subst this; exact Nat.le_refl _
theorem OwnLM.rls {lss : List (List (List Int))} (h : OwnLM B N w v lss) : RLs w v lss := let ⟨us, bs, h1, h2, _, _, _, h3⟩ := h; ⟨us, h1.1.rd, h2, fun i u z hu hz => (h3 i u z hu hz).rr⟩
theorem OwnLM.ext {lss : List (List (List Int))} (h : OwnLM B N w v lss) (e : Ext w w') : OwnLM B N w' v lss := let ⟨us, bs, h1, h2, a, b, c, h3⟩ := h; ⟨us, bs, h1.ext e, h2, a, b, c, fun i u z hu hz => (h3 i u z hu hz).ext e⟩
end
def laws_toLockS_A (v : Value) (w : World) : Nat → Ann := fun κ => match κ with
  | 0 => { σ := Nat × Value, sli := [4, 3], slc := fun s => [SV.v (Value.int .i64 (s.1 : Int)), SV.v s.2], bxi := [], bxc := fun s => [], inv := fun s W => True, μ := fun s W => 0, free := true }
  | _ => { σ := Unit, sli := [], slc := fun _ => [], bxi := [], bxc := fun _ => [], inv := fun _ _ => False, μ := fun _ _ => 0 }
abbrev laws_toLockS_k0 (v : Value) (w : World) (s5 : Nat × Value) (w6 : World) (J7 : (Nat × Value) → World → Prop) (m8 : (Nat × Value) → World → Nat) (x10 : Value) (x11 : Int) (w15 : World) : Prop :=
  IxV 1 v x11 (fun ad16 => ∃ u17 : Value, LdV w15 (Value.pointer (some ad16)) u17 ∧ Calls Try.prog 47 #[(Value.agg #[u17])] w15 (fun e18 w19 => ∃ u20 : Value, e18 = .returned (Value.agg #[u20]) ∧ Keeps w.heap.size [] w15 w19 ∧ IxV 1 x10 x11 (fun ad21 => StV w.heap.size [] w19 (Value.pointer (some ad21)) u20 (fun w22 => I64 (x11 + 1) ∧ ∃ s23 : (Nat × Value), (Value.int .i64 (x11 + 1)) = (Value.int .i64 (s23.1 : Int)) ∧ x10 = s23.2 ∧ (J7 s23 w22) ∧ (m8 s23 w22) < (m8 s5 w6)))))
def laws_toLockS_vc (v : Value) (w : World) (Post : Value → World → Prop) : Prop :=
  LenV v (fun n1 => n1 = n1 ∧ 0 ≤ n1 ∧ n1 ≤ 4398046511104 ∧ ∀ (v2 : Value) (w3 : World), Own w.heap.size w3 53 v2 (List.replicate n1.toNat (Value.slice none 0 0)) → Ext w w3 → (∃ (J7 : (Nat × Value) → World → Prop) (m8 : (Nat × Value) → World → Nat), ((∃ s4 : (Nat × Value), (Value.int .i64 0) = (Value.int .i64 (s4.1 : Int)) ∧ v2 = s4.2 ∧ (J7 s4 w3)) ∧ ∀ (s5 : (Nat × Value)) (w6 : World), (J7 s5 w6) → LenV v (fun n9 => ((((s5.1 : Int) < n9) → (laws_toLockS_k0 v w s5 w6 J7 m8 s5.2 (s5.1 : Int) w6)) ∧ (¬ ((s5.1 : Int) < n9) → Post s5.2 w6))))))
theorem laws_toLockS_eq (v : Value) (w : World) (Post : Value → World → Prop) : denF Try.prog [1000047] (laws_toLockS_A v w) 64 [v] w Post = laws_toLockS_vc v w Post := by kernel_rfl
set_option maxRecDepth 100000 in
theorem laws_toLockS_calls (v : Value) (w : World) (Post : Value → World → Prop) (hvc : laws_toLockS_vc v w Post) : Ret Try.prog 64 #[v] w Post :=
  Ret.of (denF_sound mixed (Eq.mpr (laws_toLockS_eq v w Post) hvc))

theorem laws_toLockS_ret (v : Value) (lss : List (List (List Int))) (w : World) (h : RLs w v lss) (hl : lss.length ≤ 1048576) (hz : ∀ z ∈ lss, z.length ≤ 1048576 ∧ ∀ y ∈ z, y.length ≤ 1048576) :
    Ret Try.prog 64 #[v] w fun u w' => OwnLM w.heap.size w'.heap.size w' u lss ∧ Ext w w' :=
  laws_toLockS_calls v w _ (by
    unfold laws_toLockS_vc
    refine h.len ⟨rfl, by omega, by omega, fun v2 w3 o3 h3 => ?_⟩
    rw [Int.toNat_natCast] at o3
    refine ⟨fun s W => s.1 ≤ lss.length ∧ Ext w W ∧ ∃ (us : List Value) (bs : Nat → Nat), Own w.heap.size W 53 s.2 (us ++ List.replicate (lss.length - s.1) (Value.slice none 0 0)) ∧ us.length = s.1 ∧ w.heap.size ≤ bs 0 ∧ (∀ i, i < s.1 → bs i ≤ bs (i + 1)) ∧ bs s.1 ≤ W.heap.size ∧ ∀ (i : Nat) (u : Value) (z : List (List Int)), us[i]? = some u → lss[i]? = some z → OwnM (bs i) (bs (i + 1)) W u z, fun s _ => lss.length - s.1, ⟨(0, v2), rfl, rfl, Nat.zero_le _, h3, [], fun _ => w.heap.size, by simpa using o3, rfl, Nat.le_refl _, fun i hi => absurd hi (Nat.not_lt_zero i), h3.size, fun i u z hu => by simp at hu⟩, ?_⟩
    rintro ⟨k, t⟩ w6 ⟨hk, h6, us, bs, o6, hul, hb0, hbm, hbk, hrows⟩
    simp only at hk o6 hul hbm hbk
    refine (h.ext h6).len ⟨fun hlt => ?_, fun hge => ?_⟩
    · have hlt' : k < lss.length := by simp only at hlt; omega
      obtain ⟨z1, z2⟩ := hz _ (List.getElem_mem hlt')
      refine (h.ext h6).get k rfl hlt' fun a ha => ?_
      refine (laws_toLock_ret a lss[k] w6 ha (by omega) (fun y hy => by have := z2 y hy; omega)).call ?_
      rintro _ w19 ⟨x, rfl, ox, h19⟩
      refine ⟨x, rfl, h19.keeps, ?_⟩
      have o19 := o6.ext h19
      refine o19.setAt k rfl (by simp; omega) ox.vw.one (by simp) fun w22 o22 g22 => ?_
      refine ⟨by unfold I64; simp only; omega, (k + 1, t), rfl, rfl, ⟨hlt', (h6.trans h19).grown o19 (Nat.le_refl _) g22, us ++ [x], fun i => if i ≤ k then bs i else w19.heap.size, ?_, by simp [hul], ?_, ?_, ?_, ?_⟩, by simp only; omega⟩
      · have e : (us ++ List.replicate (lss.length - k) (Value.slice none 0 0)).set k x = us ++ [x] ++ List.replicate (lss.length - (k + 1)) (Value.slice none 0 0) := by
          rw [List.set_append_right _ _ (by omega), show k - us.length = 0 by omega, show lss.length - k = (lss.length - (k + 1)) + 1 by omega, List.replicate_succ]
          simp
        rw [e] at o22
        exact o22
      · simp only [Nat.zero_le, if_true]; exact hb0
      · intro i hi
        simp only at hi
        by_cases hik : i < k
        · simp only [if_pos (show i ≤ k by omega), if_pos (show i + 1 ≤ k by omega)]
          exact hbm i hik
        · have : i = k := by omega
          subst this
          simp only [Nat.le_refl, if_true, if_neg (show ¬ i + 1 ≤ i by omega)]
          exact Nat.le_trans hbk h19.size
      · simp only [if_neg (show ¬ k + 1 ≤ k by omega)]
        exact g22.size
      · intro i u z hu hz'
        rcases Nat.lt_or_ge i us.length with hi | hi
        · rw [List.getElem?_append_left hi] at hu
          simp only [if_pos (show i ≤ k by omega), if_pos (show i + 1 ≤ k by omega)]
          exact ((hrows i u z hu hz').ext h19).grownT o19 (by decide) (by decide) g22
        · rw [List.getElem?_append_right hi] at hu
          match hj : i - us.length, hu with
          | 0, hu =>
            have hik : i = k := by omega
            subst hik
            simp only [List.getElem?_cons_zero, Option.some.injEq] at hu
            subst hu
            rw [List.getElem?_eq_getElem hlt'] at hz'
            injection hz' with hz'
            subst hz'
            simp only [Nat.le_refl, if_true, if_neg (show ¬ i + 1 ≤ i by omega)]
            exact (ox.m.base hbk (Nat.le_refl _)).grownT o19 (by decide) (by decide) g22
          | j + 1, hu => simp at hu
    · have hke : k = lss.length := by simp only at hge; omega
      subst hke
      refine ⟨⟨us, bs, ?_, hul, hb0, hbm, hbk, hrows⟩, h6⟩
      have : us ++ List.replicate (lss.length - lss.length) (Value.slice none 0 0) = us := by simp
      rw [this] at o6
      exact o6.i)
def laws_eqLockS_A (a : Value) (b : Value) (w : World) : Nat → Ann := fun κ => match κ with
  | 0 => { σ := Nat, sli := [5], slc := fun s => [SV.v (Value.int .i64 (s : Int))], bxi := [], bxc := fun s => [], inv := fun s W => True, μ := fun s W => 0, free := true }
  | _ => { σ := Unit, sli := [], slc := fun _ => [], bxi := [], bxc := fun _ => [], inv := fun _ _ => False, μ := fun _ _ => 0 }
abbrev laws_eqLockS_k0 (s11 : Nat) (w12 : World) (J13 : Nat → World → Prop) (m14 : Nat → World → Nat) (x30 : Int) (w44 : World) : Prop :=
  I64 (x30 + 1) ∧ ∃ s45 : Nat, (Value.int .i64 (x30 + 1)) = (Value.int .i64 (s45 : Int)) ∧ (J13 s45 w44) ∧ (m14 s45 w44) < (m14 s11 w12)
abbrev laws_eqLockS_k1 (Post : Value → World → Prop) (x3 : Value) (x4 : Value) (s11 : Nat) (w12 : World) (J13 : Nat → World → Prop) (m14 : Nat → World → Nat) (x16 : Int) (w20 : World) : Prop :=
  IxV 1 x3 x16 (fun ad21 => ∃ u22 : Value, LdV w20 (Value.pointer (some ad21)) u22 ∧ IxV 1 x4 x16 (fun ad23 => ∃ u24 : Value, LdV w20 (Value.pointer (some ad23)) u24 ∧ ∃ b28 : Bool, (∀ w25 : World, Ext w20 w25 → Calls Try.prog 49 #[(Value.agg #[u22]), (Value.agg #[u24])] w25 (fun e26 w27 => e26 = .returned (Value.bool b28) ∧ Ext w25 w27)) ∧ ∀ w29 : World, Ext w20 w29 → (((!b28) = true → Post (Value.bool false) w29) ∧ ((!b28) = false → (laws_eqLockS_k0 s11 w12 J13 m14 x16 w29)))))
abbrev laws_eqLockS_k2 (Post : Value → World → Prop) (x3 : Value) (x4 : Value) (w9 : World) : Prop :=
  (∃ (J13 : Nat → World → Prop) (m14 : Nat → World → Nat), ((∃ s10 : Nat, (Value.int .i64 0) = (Value.int .i64 (s10 : Int)) ∧ (J13 s10 w9)) ∧ ∀ (s11 : Nat) (w12 : World), (J13 s11 w12) → LenV x3 (fun n15 => ((((s11 : Int) < n15) → (laws_eqLockS_k1 Post x3 x4 s11 w12 J13 m14 (s11 : Int) w12)) ∧ (¬ ((s11 : Int) < n15) → Post (Value.bool true) w12)))))
def laws_eqLockS_vc (a : Value) (b : Value) (w : World) (Post : Value → World → Prop) : Prop :=
  LenV a (fun n1 => LenV b (fun n2 => (((n1 ≠ n2) → Post (Value.bool false) w) ∧ (¬ (n1 ≠ n2) → (laws_eqLockS_k2 Post a b w)))))
theorem laws_eqLockS_eq (a : Value) (b : Value) (w : World) (Post : Value → World → Prop) : denF Try.prog [] (laws_eqLockS_A a b w) 66 [a, b] w Post = laws_eqLockS_vc a b w Post := by kernel_rfl
set_option maxRecDepth 100000 in
theorem laws_eqLockS_calls (a : Value) (b : Value) (w : World) (Post : Value → World → Prop) (hvc : laws_eqLockS_vc a b w Post) : Ret Try.prog 66 #[a, b] w Post :=
  Ret.of (denF_sound mixed (Eq.mpr (laws_eqLockS_eq a b w Post) hvc))

theorem laws_eqLockS_val (a b : Value) (lss : List (List (List Int))) (w : World) (ha : RLs w a lss) (hb : RLs w b lss) : Val Try.prog 66 #[a, b] w (.bool true) :=
  Ret.val (laws_eqLockS_calls a b w _ (by
    unfold laws_eqLockS_vc
    have hbd := ha.bound
    refine ha.len (hb.len ⟨fun hne => absurd rfl hne, fun _ => ?_⟩)
    refine ⟨fun s W => s ≤ lss.length ∧ Ext w W, fun s _ => lss.length - s, ⟨0, rfl, Nat.zero_le _, .refl w⟩, ?_⟩
    rintro k w1 ⟨hk, h1⟩
    refine (ha.ext h1).len ⟨fun hlt => ?_, fun hge => ⟨rfl, h1⟩⟩
    have hlt' : k < lss.length := by omega
    refine (ha.ext h1).get k rfl hlt' fun x hx => (hb.ext h1).get k rfl hlt' fun y hy => ?_
    refine ⟨true, fun w2 h2 => (laws_eqLock_val x y _ w2 (hx.ext h2) (hy.ext h2)).calls, fun w2 h2 => ⟨fun h => (by cases h), fun _ => ⟨by unfold I64; omega, k + 1, rfl, ⟨hlt', h1.trans h2⟩, by simp only; omega⟩⟩⟩))
def laws_markLockS_A (v : Value) (n : Int) (w : World) : Nat → Ann := fun κ => match κ with
  | 0 => { σ := Nat × Int, sli := [5, 1], slc := fun s => [SV.v (Value.int .i64 (s.1 : Int)), SV.v (Value.int .i64 s.2)], bxi := [], bxc := fun s => [], inv := fun s W => True, μ := fun s W => 0, free := true }
  | _ => { σ := Unit, sli := [], slc := fun _ => [], bxi := [], bxc := fun _ => [], inv := fun _ _ => False, μ := fun _ _ => 0 }
abbrev laws_markLockS_k0 (v : Value) (w : World) (s2 : Nat × Int) (w3 : World) (J4 : (Nat × Int) → World → Prop) (m5 : (Nat × Int) → World → Nat) (x7 : Int) (x8 : Int) (w12 : World) : Prop :=
  IxV 1 v x8 (fun ad13 => ∃ ad14 : Addr, (Value.pointer (some ad13)) = Value.pointer (some ad14) ∧ ∃ u15 : Value, LdV w12 (Value.pointer (some (ad14.add 0))) u15 ∧ Calls Try.prog 61 #[u15, (Value.int .i64 x7)] w12 (fun e16 w17 => ∃ n18 : Int, e16 = .returned (Value.int .i64 n18) ∧ Keeps w.heap.size [] w12 w17 ∧ I64 (x8 + 1) ∧ ∃ s19 : (Nat × Int), (Value.int .i64 (x8 + 1)) = (Value.int .i64 (s19.1 : Int)) ∧ (Value.int .i64 n18) = (Value.int .i64 s19.2) ∧ (J4 s19 w17) ∧ (m5 s19 w17) < (m5 s2 w3)))
def laws_markLockS_vc (v : Value) (n : Int) (w : World) (Post : Value → World → Prop) : Prop :=
  (∃ (J4 : (Nat × Int) → World → Prop) (m5 : (Nat × Int) → World → Nat), ((∃ s1 : (Nat × Int), (Value.int .i64 0) = (Value.int .i64 (s1.1 : Int)) ∧ (Value.int .i64 n) = (Value.int .i64 s1.2) ∧ (J4 s1 w)) ∧ ∀ (s2 : (Nat × Int)) (w3 : World), (J4 s2 w3) → LenV v (fun n6 => ((((s2.1 : Int) < n6) → (laws_markLockS_k0 v w s2 w3 J4 m5 s2.2 (s2.1 : Int) w3)) ∧ (¬ ((s2.1 : Int) < n6) → Post (Value.int .i64 s2.2) w3)))))
theorem laws_markLockS_eq (v : Value) (n : Int) (w : World) (Post : Value → World → Prop) : denF Try.prog [] (laws_markLockS_A v n w) 67 [v, (Value.int .i64 n)] w Post = laws_markLockS_vc v n w Post := by kernel_rfl
set_option maxRecDepth 100000 in
theorem laws_markLockS_calls (v : Value) (n : Int) (w : World) (Post : Value → World → Prop) (hvc : laws_markLockS_vc v n w Post) : Ret Try.prog 67 #[v, (Value.int .i64 n)] w Post :=
  Ret.of (denF_sound mixed (Eq.mpr (laws_markLockS_eq v n w Post) hvc))

theorem laws_markLockS_ret (v : Value) (n : Int) (B N : Nat) (lss : List (List (List Int))) (w : World) (h : OwnLM B N w v lss) (hn0 : 0 ≤ n) (hn : n + ltot lss ≤ 1000000000000000) :
    Ret Try.prog 67 #[v, .int .i64 n] w fun r w' => r = .int .i64 (n + ltot lss) ∧ Marked 2 B N w w' :=
  laws_markLockS_calls v n w _ (by
    unfold laws_markLockS_vc
    obtain ⟨us, bs, hv, hul, hb0, hbm, hbn, hrows⟩ := h
    have hbd := hv.1.rd.bound
    refine ⟨fun s W => s.1 ≤ lss.length ∧ s.2 = n + ltot (lss.take s.1) ∧ Marked 2 B N w W ∧ Own B W 53 v us ∧ ∀ (i : Nat) (u : Value) (z : List (List Int)), s.1 ≤ i → us[i]? = some u → lss[i]? = some z → OwnM (bs i) (bs (i + 1)) W u z, fun s _ => lss.length - s.1, ⟨(0, n), rfl, rfl, Nat.zero_le _, by simp [ltot], .refl _ _ _ w, hv.1, fun i u z _ hu hz => hrows i u z hu hz⟩, ?_⟩
    rintro ⟨k, x⟩ w3 ⟨hk, hx, m3, o3, r3⟩
    simp only at hk hx r3
    subst hx
    refine o3.rd.len ⟨fun hlt => ?_, fun hge => ?_⟩
    · have hlt' : k < lss.length := by simp only at hlt; omega
      have hku : k < us.length := by omega
      refine o3.rd.ix k rfl hku fun ad had => ⟨ad, rfl, us[k], had, ?_⟩
      have ho := r3 k us[k] lss[k] (Nat.le_refl _) (List.getElem?_eq_getElem hku) (List.getElem?_eq_getElem hlt')
      have htl := ltot_le (lss := lss) (k + 1)
      have hts := ltot_snoc lss k hlt'
      have b1 := bs_le hbm 0 k (Nat.zero_le _) (by omega)
      have b2 := bs_le hbm (k + 1) lss.length (by omega) (Nat.le_refl _)
      refine (laws_markInt64SS_ret us[k] (n + ltot (lss.take k)) (bs k) (bs (k + 1)) _ w3 ho (by omega) (by omega)).call ?_
      rintro _ w17 ⟨rfl, _, m17⟩
      have m17' : Marked 2 B N w3 w17 := ⟨m17.1.mono fun b hb hK => fun hh => hK ⟨by omega, by omega⟩, m17.2⟩
      have k17 : Keeps 0 [53] w3 w17 := m17.2 0 _ (by decide)
      have o17 : Own B w17 53 v us := o3.keep fun g hg => by
        rcases o3.2 with ⟨rfl, _⟩ | ⟨g', cap, cur, rfl, _, hh, _⟩
        · simp [Value.ownBlock] at hg
        · have : g' = g := by simpa [Value.ownBlock] using hg
          subst this
          exact (k17.block g' cur _ _ (by simp) (Nat.zero_le _) hh).trans hh.symm
      refine ⟨_, rfl, m17.2 _ _ (by simp), by unfold I64; simp only; omega, (k + 1, n + ltot (lss.take (k + 1))), rfl, ieq (by simp only; omega), ⟨hlt', rfl, m3.trans m17', o17, fun i u z hi hu hz => ?_⟩, by simp only; omega⟩
      simp only at hi
      have hiz := (List.getElem?_eq_some_iff.1 hz).1
      exact (r3 i u z (by omega) hu hz).rest m17 (.inr (bs_le hbm (k + 1) i hi (by omega)))
    · have : k = lss.length := by simp only at hge; omega
      subst this
      exact ⟨by rw [List.take_length], m3⟩)
end Go.Proofs
