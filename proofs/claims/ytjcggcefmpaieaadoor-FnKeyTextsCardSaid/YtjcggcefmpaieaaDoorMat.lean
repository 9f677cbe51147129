/- Slices of slices of integers: reading, and rows of the call's own. No condition. -/
import Derived.Test.YtjcggcefmpaieaaDoorLaws
set_option linter.unusedVariables false
namespace Go.Proofs
open Go.Sx Go.RowKit
/-- place by place -/
def Rows (p : Value → List Int → Prop) (us : List Value) (zss : List (List Int)) : Prop := us.length = zss.length ∧ ∀ (i : Nat) (u : Value) (z : List Int), us[i]? = some u → zss[i]? = some z → p u z
section
variable {p q : Value → List Int → Prop} {us : List Value} {zss : List (List Int)}
theorem Rows.nil_ : Rows p [] [] := ⟨rfl, fun i u z h => by simp at h⟩
theorem Rows.map (h : Rows p us zss) (hq : ∀ u z, p u z → q u z) : Rows q us zss := ⟨h.1, fun i u z h1 h2 => hq u z (h.2 i u z h1 h2)⟩
theorem Rows.mapI (h : Rows p us zss) (hq : ∀ (i : Nat) (u : Value) (z : List Int), us[i]? = some u → zss[i]? = some z → p u z → q u z) : Rows q us zss := ⟨h.1, fun i u z h1 h2 => hq i u z h1 h2 (h.2 i u z h1 h2)⟩
theorem Rows.snoc (h : Rows p us zss) {u : Value} {z : List Int} (hp : p u z) : Rows p (us ++ [u]) (zss ++ [z]) := by
  refine ⟨by simp [h.1], fun i u' z' h1 h2 => ?_⟩
  rcases Nat.lt_or_ge i us.length with hl | hl
  · rw [List.getElem?_append_left hl] at h1
    rw [List.getElem?_append_left (by rw [← h.1]; exact hl)] at h2
    exact h.2 i u' z' h1 h2
  · rw [List.getElem?_append_right hl] at h1
    rw [List.getElem?_append_right (by rw [← h.1]; exact hl), ← h.1] at h2
    match hi : i - us.length, h1, h2 with
    | 0, h1, h2 =>
      simp at h1 h2
      subst h1 h2
      exact hp
theorem Rows.get (h : Rows p us zss) {k : Nat} (hk : k < zss.length) : p (us[k]'(by rw [h.1]; exact hk)) zss[k] :=
  h.2 k _ _ (List.getElem?_eq_getElem _) (List.getElem?_eq_getElem hk)
end
/-- a slice of slices of integers -/
def RR (w : World) (v : Value) (zss : List (List Int)) : Prop := ∃ us, Rd w v us ∧ Rows (RI w) us zss
section
variable {w w' : World} {v : Value} {zss : List (List Int)}
theorem RR.ext (h : RR w v zss) (e : Ext w w') : RR w' v zss := let ⟨us, h1, h2⟩ := h; ⟨us, h1.ext e, h2.map fun u z hr => hr.ext e⟩
theorem RR.len (h : RR w v zss) {K : Int → Prop} (hK : K (zss.length : Int)) : LenV v K := let ⟨us, h1, h2⟩ := h; h1.len (by rw [h2.1]; exact hK)
theorem RR.bound (h : RR w v zss) : zss.length ≤ 9223372036854775807 := let ⟨us, h1, h2⟩ := h; by rw [← h2.1]; exact h1.bound
theorem RR.oneC (h : RR w v zss) {K : Prop} (hK : K) : oneC v K := let ⟨us, h1, _⟩ := h; h1.oneC hK
theorem RR.get (h : RR w v zss) {i : Int} (k : Nat) (hi : i = k) (hk : k < zss.length) {R : Value → Prop} (hR : ∀ u, RI w u zss[k] → R u) : IxV 1 v i (fun ad => ∃ u : Value, LdV w (.pointer (some ad)) u ∧ R u) := by
  obtain ⟨us, h1, h2⟩ := h
  exact h1.ix k hi (by rw [h2.1]; exact hk) fun ad ha => ⟨_, ha, hR _ (h2.get hk)⟩
theorem RR.nil_ (w : World) : RR w (.slice none 0 0) [] := ⟨[], Rd.nil_ w 0 (Nat.zero_le _), Rows.nil_⟩
end

/-- blocks of different element types are different -/
theorem Apart.types {B B' : Nat} {w : World} {e e' : TypeId} {u v : Value} {xs ys : List Value} (hu : Own B w e u xs) (hv : Own B' w e' v ys) (hne : e ≠ e') : Apart u v := by
  unfold Apart
  rcases hu.2 with ⟨rfl, _⟩ | ⟨g, cap, cur, rfl, hg, hh, _⟩
  · exact .inl rfl
  · rcases hv.2 with ⟨rfl, _⟩ | ⟨g', cap', cur', rfl, hg', hh', _⟩
    · exact .inr (by simp [Value.ownBlock])
    · refine .inr fun h => ?_
      have : g = g' := by simpa [Value.ownBlock] using h
      subst this
      rw [hh] at hh'
      injection hh' with hh'
      injection hh' with _ he _
      exact hne he
theorem Apart.symm {u v : Value} (h : Apart u v) : Apart v u := by
  unfold Apart at *
  rcases hv : v.ownBlock with _ | k
  · exact .inl rfl
  · rw [hv] at h
    rcases h with h | h
    · exact .inr (by rw [h]; simp)
    · exact .inr (Ne.symm h)
/-- rows of the call's own, all in different blocks -/
def OwnR (B : Nat) (w : World) (v : Value) (zss : List (List Int)) : Prop :=
  ∃ us, Own B w 24 v us ∧ Rows (fun u z => Own B w 2 u (ints z)) us zss ∧ us.Pairwise Apart
section
variable {B : Nat} {w w' : World} {v : Value} {zss : List (List Int)}
theorem OwnR.rr (h : OwnR B w v zss) : RR w v zss := let ⟨us, h1, h2, _⟩ := h; ⟨us, h1.rd, h2.map fun u z hr => hr.rd⟩
theorem OwnR.ext (h : OwnR B w v zss) (e : Ext w w') : OwnR B w' v zss := let ⟨us, h1, h2, h3⟩ := h; ⟨us, h1.ext e, h2.map fun u z hr => hr.ext e, h3⟩
theorem OwnR.mono (h : OwnR B w v zss) {B' : Nat} (hB : B' ≤ B) : OwnR B' w v zss := let ⟨us, h1, h2, h3⟩ := h; ⟨us, h1.mono hB, h2.map fun u z hr => hr.mono hB, h3⟩
theorem OwnR.bxs (h : OwnR B w v zss) {n0 : Nat} {T : TypeId} (x : BxS n0 T w w') (hT : 24 ≠ T) (hT' : 2 ≠ T) : OwnR B w' v zss := let ⟨us, h1, h2, h3⟩ := h; ⟨us, h1.bxs x hT, h2.map fun u z hr => hr.bxs x hT', h3⟩
end

end Go.Proofs
namespace Go.Sx
open Go Go.RowKit Go.ChangeShapes Go.WideShapes Go.Deep Go.Proofs
section
variable {H : Type} {enc : TypeId × Value → H} {P : Program} {w : World} {base : Nat} {held : Bool} {r : Reach} {b0 : Nat} {t e q : TypeId} {v : Value} {d : DataW H} {ps : List MemPlace}
theorem open_RR1 {fuel : Nat} {x : DataW H × List MemPlace} (ht : P.underlying t = some (.slice e)) (he : P.underlying e = some (.slice q)) (hq : P.underlying q = some (.int .i64)) (ce : P.cellsOf e = 1) (cq : P.cellsOf q = 1)
    (h : DataW.trod enc P w base (fun _ => true) held fuel t [v] = some x) : ∃ zss : List (List Int), RR w v zss ∧ ∀ z ∈ zss, ∀ n ∈ z, (Lit.int .i64 n).wf = true := by
  rcases open_int_rows ht he hq ce cq h with ⟨h0, _⟩ | ⟨a, len, cap, A, L, C, Z, h0, hb, hl, hm, _, hc⟩
  · simp only [List.cons.injEq, and_true] at h0
    subst h0
    exact ⟨[], RR.nil_ w, by simp⟩
  · simp only [List.cons.injEq, and_true] at h0
    subst h0
    refine ⟨(List.range len).map fun r => (Z r).take (L r), ⟨(List.range len).map fun r => .slice (A r) (L r) (C r), ⟨some a, cap, by simp, by simpa using hl, hm, fun _ => ⟨a, rfl, fun j u hu => ?_⟩⟩, by simp, fun i u z hu hz => ?_⟩, ?_⟩
    · have hj : j < len := by
        have := (List.getElem?_eq_some_iff.1 hu).1
        simpa using this
      rw [(hc j (by omega)).1]
      rw [List.getElem?_map, List.getElem?_range hj] at hu
      simpa using hu
    · have hj : i < len := by
        have := (List.getElem?_eq_some_iff.1 hu).1
        simpa using this
      rw [List.getElem?_map, List.getElem?_range hj] at hu hz
      simp only [Option.map_some, Option.some.injEq] at hu hz
      subst hu hz
      obtain ⟨_, h1, h2, h3, h4, h5, h6⟩ := hc i (by omega)
      have hlen : (ints ((Z i).take (L i))).length = L i := by simp; omega
      refine ⟨A i, C i, by rw [hlen], by omega, h2, fun hp => ?_⟩
      rw [hlen] at hp
      cases hA : A i with
      | none => have := h5 hA; omega
      | some a' =>
        refine ⟨a', rfl, fun j u hu => ?_⟩
        have hjl : j < L i := by
          have := (List.getElem?_eq_some_iff.1 hu).1
          omega
        rw [(h6 a' hA).2 j (by omega)]
        unfold ints at hu
        rw [List.getElem?_map, List.getElem?_take_of_lt hjl, List.getElem?_eq_getElem (by omega)] at hu
        simp only [Option.map_some, Option.some.injEq] at hu
        rw [← hu, List.getD, List.getElem?_eq_getElem (by omega)]
        rfl
    · intro z hz n hn
      obtain ⟨i, hi, rfl⟩ := List.mem_map.1 hz
      have hi := List.mem_range.1 hi
      exact (hc i (by omega)).2.2.2.2.1 n (List.mem_of_mem_take hn)
theorem open_RR (ht : P.underlying t = some (.slice e)) (he : P.underlying e = some (.slice q)) (hq : P.underlying q = some (.int .i64)) (ce : P.cellsOf e = 1) (cq : P.cellsOf q = 1) (hv : Value.okWide P w r b0 t v)
    (h : DataW.Trod enc P w base (fun _ => true) held t v d ps) : ∃ zss : List (List Int), RR w v zss ∧ ∀ z ∈ zss, ∀ n ∈ z, (Lit.int .i64 n).wf = true := by
  obtain ⟨a, len, cap, rfl⟩ := okWide_slice ht hv
  obtain ⟨fuel, hf⟩ := h
  exact open_RR1 ht he hq ce cq hf
theorem open_lock {s : TypeId} {f0 : Field} (hs : P.underlying s = some (.struct #[f0])) (ho : f0.offset = 0) (hf : f0.type = t) (ct : P.cellsOf t = 1) (cs1 : P.cellsOf s = 1) (ht : P.underlying t = some (.slice e)) (he : P.underlying e = some (.slice q)) (hq : P.underlying q = some (.int .i64)) (ce : P.cellsOf e = 1) (cq : P.cellsOf q = 1)
    (hv : Value.okWide P w r b0 s v) (h : DataW.Trod enc P w base (fun _ => true) held s v d ps) : ∃ (x : Value) (zss : List (List Int)), v = .agg #[x] ∧ RR w x zss ∧ ∀ z ∈ zss, ∀ n ∈ z, (Lit.int .i64 n).wf = true := by
  obtain ⟨cs, rfl, hsz⟩ := okWide_struct hs hv
  obtain ⟨l⟩ := cs
  match l, hsz.trans cs1 with
  | [c0], _ =>
    obtain ⟨fuel, hfu⟩ := h
    obtain ⟨y0, n, _, _, hy⟩ := trod_struct1 hs hfu
    subst hf
    rw [ho, ct] at hy
    have hy : DataW.trod enc P w base (fun _ => true) held n f0.type [c0] = some y0 := by simpa [Value.cells] using hy
    obtain ⟨zss, h1, h2⟩ := open_RR1 ht he hq ce cq hy
    exact ⟨c0, zss, rfl, h1, h2⟩
end
end Go.Sx
namespace Go.Proofs
open Go.Sx Go.RowKit

def laws_toInt64SS_A (v : Value) (zss : List (List Int)) (w : World) : Nat → Ann := fun κ => match κ with
  | 0 => { σ := Nat × Value, sli := [4, 3], slc := fun s => [SV.v (Value.int .i64 (s.1 : Int)), SV.v s.2], bxi := [], bxc := fun s => [], inv := fun s W => True, μ := fun s W => 0, free := true }
  | _ => { σ := Unit, sli := [], slc := fun _ => [], bxi := [], bxc := fun _ => [], inv := fun _ _ => False, μ := fun _ _ => 0 }
def laws_toInt64SS_vc (v : Value) (zss : List (List Int)) (w : World) (Post : Value → World → Prop) : Prop :=
  LenV v (fun n1 => n1 = n1 ∧ 0 ≤ n1 ∧ n1 ≤ 4398046511104 ∧ ∀ (v2 : Value) (w3 : World), Sx.Own w.heap.size w3 24 v2 (List.replicate n1.toNat (Value.slice none 0 0)) → Ext w w3 → (∃ (J7 : (Nat × Value) → World → Prop) (m8 : (Nat × Value) → World → Nat), ((∃ s4 : (Nat × Value), (Value.int .i64 0) = (Value.int .i64 (s4.1 : Int)) ∧ v2 = s4.2 ∧ (J7 s4 w3)) ∧ ∀ (s5 : (Nat × Value)) (w6 : World), (J7 s5 w6) → LenV v (fun n9 => ((((s5.1 : Int) < n9) → IxV 1 v (s5.1 : Int) (fun ad10 => ∃ u11 : Value, LdV w6 (Value.pointer (some ad10)) u11 ∧ Calls Tryd.prog 24 #[u11] w6 (fun e12 w13 => ∃ u14 : Value, e12 = .returned u14 ∧ Keeps w.heap.size [] w6 w13 ∧ IxV 1 s5.2 (s5.1 : Int) (fun ad15 => StV w.heap.size [] w13 (Value.pointer (some ad15)) u14 (fun w16 => I64 ((s5.1 : Int) + 1) ∧ ∃ s17 : (Nat × Value), (Value.int .i64 ((s5.1 : Int) + 1)) = (Value.int .i64 (s17.1 : Int)) ∧ s5.2 = s17.2 ∧ (J7 s17 w16) ∧ (m8 s17 w16) < (m8 s5 w6)))))) ∧ (¬ ((s5.1 : Int) < n9) → Post s5.2 w6))))))
theorem laws_toInt64SS_eq (v : Value) (zss : List (List Int)) (w : World) (Post : Value → World → Prop) : denF Tryd.prog [1000024] (laws_toInt64SS_A v zss w) 64 [v] w Post = laws_toInt64SS_vc v zss w Post := by kernel_rfl
set_option maxRecDepth 100000 in
theorem laws_toInt64SS_calls (v : Value) (zss : List (List Int)) (w : World) (Post : Value → World → Prop) (hvc : laws_toInt64SS_vc v zss w Post) : Ret Tryd.prog 64 #[v] w Post :=
  Ret.of (denF_sound mixed (Eq.mpr (laws_toInt64SS_eq v zss w Post) hvc))

theorem laws_toInt64SS_ret (v : Value) (zss : List (List Int)) (w : World) (h : RR w v zss) (hl : zss.length ≤ 4398046511104) (hz : ∀ z ∈ zss, z.length ≤ 4398046511104) :
    Ret Tryd.prog 64 #[v] w fun u w' => OwnR w.heap.size w' u zss ∧ Ext w w' :=
  laws_toInt64SS_calls v zss w _ (by
    unfold laws_toInt64SS_vc
    refine h.len ⟨rfl, by omega, by omega, ?_⟩
    intro u w1 ho h1
    rw [Int.toNat_natCast] at ho
    refine ⟨fun s W => s.1 ≤ zss.length ∧ Ext w W ∧ ∃ us, Own w.heap.size W 24 s.2 (us ++ List.replicate (zss.length - s.1) (Value.slice none 0 0)) ∧ Rows (fun u z => Own w.heap.size W 2 u (ints z)) us (zss.take s.1) ∧ us.Pairwise Apart, fun s _ => zss.length - s.1, ⟨(0, u), rfl, rfl, Nat.zero_le _, h1, [], by simpa using ho, Rows.nil_, .nil⟩, ?_⟩
    rintro ⟨k, u⟩ w2 ⟨hk, h2, us, hou, hrows, hpw⟩
    simp only at hk hou hrows
    have hul : us.length = k := by have := hrows.1; simp at this; omega
    refine (h.ext h2).len ⟨fun hlt => ?_, fun hge => ?_⟩
    · have hlt' : k < zss.length := by omega
      refine (h.ext h2).get k rfl hlt' fun a ha => ?_
      refine (laws_toInt64S_ret a _ w2 ha (hz _ (List.getElem_mem hlt'))).call ?_
      rintro r w3 ⟨or, h3⟩
      refine ⟨r, rfl, h3.keeps, ?_⟩
      have hou3 := hou.ext h3
      refine hou3.setAt k rfl (by simp; omega) or.rd.one (by simp) fun w4 ho4 hg4 => ?_
      refine ⟨by unfold I64; simp only; omega, (k + 1, u), rfl, rfl, ⟨hlt', (h2.trans h3).grown hou3 (Nat.le_refl _) hg4, us ++ [r], ?_, ?_, ?_⟩, by simp only; omega⟩
      · have e : (us ++ List.replicate (zss.length - k) (Value.slice none 0 0)).set k r = us ++ [r] ++ List.replicate (zss.length - (k + 1)) (Value.slice none 0 0) := by
          rw [List.set_append_right _ _ (by omega), show k - us.length = 0 by omega, show zss.length - k = (zss.length - (k + 1)) + 1 by omega, List.replicate_succ]
          simp
        rw [e] at ho4
        exact ho4
      · simp only
        rw [take_snoc zss k hlt']
        refine Rows.snoc (hrows.map fun x z hx => ?_) ?_
        · exact (hx.ext h3).grown hg4 (Apart.types (hx.ext h3) hou3 (by decide))
        · exact (or.mono h2.size).grown hg4 (Apart.types or hou3 (by decide))
      · rw [List.pairwise_append]
        refine ⟨hpw, by simp, fun x hx y hy => ?_⟩
        simp only [List.mem_singleton] at hy
        subst hy
        obtain ⟨i, hi, rfl⟩ := List.getElem_of_mem hx
        have hik : i < (zss.take k).length := by rw [← hrows.1]; exact hi
        exact Apart.new (hrows.get hik) or
    · have : k = zss.length := by omega
      subst this
      refine ⟨⟨us, by simpa using hou, by simpa using hrows, hpw⟩, h2⟩)

def laws_eqInt64SS_A (a : Value) (b : Value) (zss : List (List Int)) (w : World) : Nat → Ann := fun κ => match κ with
  | 0 => { σ := Nat, sli := [5], slc := fun s => [SV.v (Value.int .i64 (s : Int))], bxi := [], bxc := fun s => [], inv := fun s W => True, μ := fun s W => 0, free := true }
  | _ => { σ := Unit, sli := [], slc := fun _ => [], bxi := [], bxc := fun _ => [], inv := fun _ _ => False, μ := fun _ _ => 0 }
def laws_eqInt64SS_vc (a : Value) (b : Value) (zss : List (List Int)) (w : World) (Post : Value → World → Prop) : Prop :=
  LenV a (fun n1 => LenV b (fun n2 => (((n1 ≠ n2) → Post (Value.bool false) w) ∧ (¬ (n1 ≠ n2) → (∃ (J6 : Nat → World → Prop) (m7 : Nat → World → Nat), ((∃ s3 : Nat, (Value.int .i64 0) = (Value.int .i64 (s3 : Int)) ∧ (J6 s3 w)) ∧ ∀ (s4 : Nat) (w5 : World), (J6 s4 w5) → LenV a (fun n8 => ((((s4 : Int) < n8) → IxV 1 a (s4 : Int) (fun ad9 => ∃ u10 : Value, LdV w5 (Value.pointer (some ad9)) u10 ∧ IxV 1 b (s4 : Int) (fun ad11 => ∃ u12 : Value, LdV w5 (Value.pointer (some ad11)) u12 ∧ ∃ b16 : Bool, (∀ w13 : World, Ext w5 w13 → Calls Tryd.prog 25 #[u10, u12] w13 (fun e14 w15 => e14 = .returned (Value.bool b16) ∧ Ext w13 w15)) ∧ ∀ w17 : World, Ext w5 w17 → (((!b16) = true → Post (Value.bool false) w17) ∧ ((!b16) = false → I64 ((s4 : Int) + 1) ∧ ∃ s18 : Nat, (Value.int .i64 ((s4 : Int) + 1)) = (Value.int .i64 (s18 : Int)) ∧ (J6 s18 w17) ∧ (m7 s18 w17) < (m7 s4 w5)))))) ∧ (¬ ((s4 : Int) < n8) → Post (Value.bool true) w5)))))))))
theorem laws_eqInt64SS_eq (a : Value) (b : Value) (zss : List (List Int)) (w : World) (Post : Value → World → Prop) : denF Tryd.prog [] (laws_eqInt64SS_A a b zss w) 54 [a, b] w Post = laws_eqInt64SS_vc a b zss w Post := by kernel_rfl
set_option maxRecDepth 100000 in
theorem laws_eqInt64SS_calls (a : Value) (b : Value) (zss : List (List Int)) (w : World) (Post : Value → World → Prop) (hvc : laws_eqInt64SS_vc a b zss w Post) : Ret Tryd.prog 54 #[a, b] w Post :=
  Ret.of (denF_sound mixed (Eq.mpr (laws_eqInt64SS_eq a b zss w Post) hvc))

theorem laws_eqInt64SS_val (a b : Value) (zss : List (List Int)) (w : World) (ha : RR w a zss) (hb : RR w b zss) :
    Val Tryd.prog 54 #[a, b] w (.bool true) :=
  Ret.val (laws_eqInt64SS_calls a b zss w _ (by
    unfold laws_eqInt64SS_vc
    have hbd := ha.bound
    refine ha.len (hb.len ⟨fun hne => absurd rfl hne, fun _ => ?_⟩)
    refine ⟨fun s W => s ≤ zss.length ∧ Ext w W, fun s _ => zss.length - s, ⟨0, rfl, Nat.zero_le _, .refl w⟩, ?_⟩
    rintro k w1 ⟨hk, h1⟩
    refine (ha.ext h1).len ⟨fun hlt => ?_, fun hge => ⟨rfl, h1⟩⟩
    have hlt' : k < zss.length := by omega
    refine (ha.ext h1).get k rfl hlt' fun x hx => (hb.ext h1).get k rfl hlt' fun y hy => ?_
    refine ⟨true, fun w2 h2 => eq_same (hx.ext h2) (hy.ext h2) fun w3 h3 => ⟨rfl, h3⟩, fun w2 h2 => ⟨fun h => (by cases h), fun _ => ⟨by unfold I64; omega, k + 1, rfl, ⟨hlt', h1.trans h2⟩, by simp only; omega⟩⟩⟩))

def laws_szInt64S_vc (v : Value) (n : Int) (zs : List Int) (w : World) (Post : Value → World → Prop) : Prop :=
  LenV v (fun n1 => I64 (n - n1) ∧ ((((n - n1) < (0 : Int)) → Post (Value.int .i64 (-1)) w) ∧ (¬ ((n - n1) < (0 : Int)) → Post (Value.int .i64 (n - n1)) w)))
theorem laws_szInt64S_eq (v : Value) (n : Int) (zs : List Int) (w : World) (Post : Value → World → Prop) : denF Tryd.prog [] noAnn 90 [v, (Value.int .i64 n)] w Post = laws_szInt64S_vc v n zs w Post := by kernel_rfl
set_option maxRecDepth 100000 in
theorem laws_szInt64S_calls (v : Value) (n : Int) (zs : List Int) (w : World) (Post : Value → World → Prop) (hvc : laws_szInt64S_vc v n zs w Post) : Ret Tryd.prog 90 #[v, (Value.int .i64 n)] w Post :=
  Ret.of (denF_sound mixed (Eq.mpr (laws_szInt64S_eq v n zs w Post) hvc))

theorem laws_szInt64S_ret (v : Value) (n : Int) (zs : List Int) (w : World) (h : RI w v zs) (hn : 0 ≤ n) (hn' : n ≤ 1048576) :
    Ret Tryd.prog 90 #[v, .int .i64 n] w fun r w' => Ext w w' ∧ ∃ m : Int, r = .int .i64 m ∧ m ≤ n ∧ (0 ≤ m → (zs.length : Int) ≤ n) :=
  laws_szInt64S_calls v n zs w _ (by
    unfold laws_szInt64S_vc
    have hbd := h.bound
    exact h.len ⟨by unfold I64; omega, fun hlt => ⟨.refl w, -1, rfl, by omega, by omega⟩, fun hge => ⟨.refl w, _, rfl, by omega, by omega⟩⟩)
def laws_szInt64SS_A (v : Value) (n : Int) (zss : List (List Int)) (w : World) : Nat → Ann := fun κ => match κ with
  | 0 => { σ := Nat × Int, sli := [5, 1], slc := fun s => [SV.v (Value.int .i64 (s.1 : Int)), SV.v (Value.int .i64 s.2)], bxi := [], bxc := fun s => [], inv := fun s W => True, μ := fun s W => 0, free := true }
  | _ => { σ := Unit, sli := [], slc := fun _ => [], bxi := [], bxc := fun _ => [], inv := fun _ _ => False, μ := fun _ _ => 0 }
def laws_szInt64SS_vc (v : Value) (n : Int) (zss : List (List Int)) (w : World) (Post : Value → World → Prop) : Prop :=
  LenV v (fun n1 => I64 (n - n1) ∧ ((((n - n1) < (0 : Int)) → Post (Value.int .i64 (-1)) w) ∧ (¬ ((n - n1) < (0 : Int)) → (∃ (J5 : (Nat × Int) → World → Prop) (m6 : (Nat × Int) → World → Nat), ((∃ s2 : (Nat × Int), (Value.int .i64 0) = (Value.int .i64 (s2.1 : Int)) ∧ (Value.int .i64 (n - n1)) = (Value.int .i64 s2.2) ∧ (J5 s2 w)) ∧ ∀ (s3 : (Nat × Int)) (w4 : World), (J5 s3 w4) → LenV v (fun n7 => ((((s3.1 : Int) < n7) → IxV 1 v (s3.1 : Int) (fun ad8 => ∃ u9 : Value, LdV w4 (Value.pointer (some ad8)) u9 ∧ Calls Tryd.prog 90 #[u9, (Value.int .i64 s3.2)] w4 (fun e10 w11 => ∃ n12 : Int, e10 = .returned (Value.int .i64 n12) ∧ Keeps w.heap.size [] w4 w11 ∧ (((n12 < (0 : Int)) → Post (Value.int .i64 (-1)) w11) ∧ (¬ (n12 < (0 : Int)) → I64 ((s3.1 : Int) + 1) ∧ ∃ s13 : (Nat × Int), (Value.int .i64 ((s3.1 : Int) + 1)) = (Value.int .i64 (s13.1 : Int)) ∧ (Value.int .i64 n12) = (Value.int .i64 s13.2) ∧ (J5 s13 w11) ∧ (m6 s13 w11) < (m6 s3 w4)))))) ∧ (¬ ((s3.1 : Int) < n7) → Post (Value.int .i64 s3.2) w4))))))))
theorem laws_szInt64SS_eq (v : Value) (n : Int) (zss : List (List Int)) (w : World) (Post : Value → World → Prop) : denF Tryd.prog [] (laws_szInt64SS_A v n zss w) 60 [v, (Value.int .i64 n)] w Post = laws_szInt64SS_vc v n zss w Post := by kernel_rfl
set_option maxRecDepth 100000 in
theorem laws_szInt64SS_calls (v : Value) (n : Int) (zss : List (List Int)) (w : World) (Post : Value → World → Prop) (hvc : laws_szInt64SS_vc v n zss w Post) : Ret Tryd.prog 60 #[v, (Value.int .i64 n)] w Post :=
  Ret.of (denF_sound mixed (Eq.mpr (laws_szInt64SS_eq v n zss w Post) hvc))

theorem laws_szInt64SS_ret (v : Value) (n : Int) (zss : List (List Int)) (w : World) (h : RR w v zss) (hn : 0 ≤ n) (hn' : n ≤ 1048576) :
    Ret Tryd.prog 60 #[v, .int .i64 n] w fun r w' => Ext w w' ∧ ∃ m : Int, r = .int .i64 m ∧ m ≤ n ∧ (0 ≤ m → (zss.length : Int) ≤ n ∧ ∀ z ∈ zss, (z.length : Int) ≤ n) :=
  laws_szInt64SS_calls v n zss w _ (by
    unfold laws_szInt64SS_vc
    have hbd := h.bound
    refine h.len ⟨by unfold I64; omega, fun hlt => ⟨.refl w, -1, rfl, by omega, by omega⟩, fun hge => ?_⟩
    refine ⟨fun s W => s.1 ≤ zss.length ∧ Ext w W ∧ 0 ≤ s.2 ∧ s.2 ≤ n ∧ ∀ z ∈ zss.take s.1, (z.length : Int) ≤ n, fun s _ => zss.length - s.1, ⟨(0, n - zss.length), rfl, rfl, Nat.zero_le _, .refl w, by simp only; omega, by simp only; omega, by simp⟩, ?_⟩
    rintro ⟨k, l⟩ w1 ⟨hk, h1, hl0, hl, hall⟩
    simp only at hk hl0 hl hall
    refine (h.ext h1).len ⟨fun hlt => ?_, fun hge2 => ?_⟩
    · have hlt' : k < zss.length := by omega
      refine (h.ext h1).get k rfl hlt' fun x hx => ?_
      refine (laws_szInt64S_ret x l _ w1 hx hl0 (by omega)).call ?_
      rintro r w2 ⟨h2, m, rfl, hm, hm'⟩
      refine ⟨m, rfl, h2.keeps, fun hneg => ⟨h1.trans h2, -1, rfl, by omega, by omega⟩, fun hpos => ⟨by unfold I64; simp only; omega, (k + 1, m), rfl, rfl, ⟨hlt', h1.trans h2, by simp only; omega, by simp only; omega, ?_⟩, by simp only; omega⟩⟩
      intro z hz
      simp only at hz
      rw [take_snoc zss k hlt', List.mem_append] at hz
      rcases hz with hz | hz
      · exact hall z hz
      · simp only [List.mem_singleton] at hz
        subst hz
        have := hm' (by omega)
        omega
    · have : k = zss.length := by omega
      subst this
      refine ⟨h1, l, rfl, hl, fun _ => ⟨by omega, by simpa using hall⟩⟩)
end Go.Proofs
