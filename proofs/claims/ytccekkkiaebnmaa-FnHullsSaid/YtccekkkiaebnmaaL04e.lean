/- Joined and met locks: their contracts. No condition. -/
import Derived.Test.YtccekkkiaebnmaaL04d
import Derived.Test.YtccekkkiaebnmaaL05a
set_option linter.unusedVariables false
namespace Go.Proofs
open Go.Sx Go.RowKit
/-- a call hands back a lock of its own and a code -/
def LkR (f : FuncId) (args : Array Value) (w : World) (zss : List (List Int)) (code : Int) : Prop :=
  Ret Try.prog f args w fun r w' => ∃ u, r = .tuple #[lkV u, .int .i64 code] ∧ OwnR w.heap.size w' u zss ∧ Ext w w'
/-- the depths below n that p holds of -/
def filt (p : Int → Bool) (n : Nat) : List Int := (upFrom 0 n).filter p
theorem filt_zero (p : Int → Bool) : filt p 0 = [] := rfl
theorem filt_yes {p : Int → Bool} {n : Nat} (h : p n = true) : filt p (n + 1) = filt p n ++ [(n : Int)] := by
  unfold filt
  rw [upFrom_succ, List.filter_append, Int.zero_add]
  simp [h]
theorem filt_no {p : Int → Bool} {n : Nat} (h : p n = false) : filt p (n + 1) = filt p n := by
  unfold filt
  rw [upFrom_succ, List.filter_append, Int.zero_add]
  simp [h]
theorem filt_len (p : Int → Bool) (n : Nat) : (filt p n).length ≤ n := by
  unfold filt
  exact Nat.le_trans (List.length_filter_le _ _) (by simp)
theorem filt_rises (p : Int → Bool) (n : Nat) : Rises n (filt p n) (filt p n).length := by
  have hs : (filt p n).Pairwise (· < ·) := (upFrom_sorted 0 n).filter _
  intro i hi
  have hm := List.mem_filter.1 (List.getElem_mem hi)
  have := mem_upFrom.1 hm.1
  unfold RiseAt
  rw [getD_get hi]
  refine ⟨by omega, by omega, fun h0 => ?_⟩
  rw [getD_get (show i - 1 < (filt p n).length by omega)]
  exact List.pairwise_iff_getElem.1 hs (i - 1) i (by omega) hi (by omega)
/-- the sets of n chambers -/
def rowsOf (p : Nat → Int → Bool) (d : Int) (n : Nat) : List (List Int) := (List.range n).map fun i => filt (p i) d.toNat
theorem rowsOf_length (p : Nat → Int → Bool) (d : Int) (n : Nat) : (rowsOf p d n).length = n := by simp [rowsOf]
theorem rowsOf_succ (p : Nat → Int → Bool) (d : Int) (n : Nat) : rowsOf p d (n + 1) = rowsOf p d n ++ [filt (p n) d.toNat] := by simp [rowsOf, List.range_succ]
theorem rowsOf_setsOk {p : Nat → Int → Bool} {d : Int} (hd : 0 ≤ d) {n : Nat} (h : ∀ i, i < n → filt (p i) d.toNat ≠ []) : SetsOk d (rowsOf p d n) := by
  intro z hz
  obtain ⟨i, hi, rfl⟩ := List.mem_map.1 hz
  have hi := List.mem_range.1 hi
  refine ⟨h i hi, ?_⟩
  have := filt_rises (p i) d.toNat
  rwa [show ((d.toNat : Nat) : Int) = d by omega] at this
def pJ (za zb : List (List Int)) : Nat → Int → Bool := fun i x => Al za i x || Al zb i x
def pM (za zb : List (List Int)) : Nat → Int → Bool := fun i x => Al za i x && Al zb i x
theorem al_get {za : List (List Int)} {i : Nat} (hi : i < za.length) (x : Int) : Al za i x = decide (x ∈ za[i]) := by
  unfold Al
  rw [List.getD, List.getElem?_eq_getElem hi]
  rfl
theorem filter_set {d : Int} {za : List (List Int)} (hs : SetsOk d za) {i : Nat} (hi : i < za.length) (q : Int → Bool) : za[i].filter q = filt (fun x => Al za i x && q x) d.toNat := by
  unfold filt
  have := set_ups hs hi
  unfold ups at this
  rw [← this, List.filter_filter]
  congr 1
  funext x
  exact Bool.and_comm ..
abbrev Lk2 (M : Mk) (za zb : List (List Int)) : Prop := LkOk M.c M.d M.s M.m M.l za ∧ LkOk M.c M.d M.s M.m M.l zb
def joinR (M : Mk) (za zb : List (List Int)) : List (List Int) := if Lk2 M za zb then rowsOf (pJ za zb) M.d M.c.toNat else []
def joinCode (M : Mk) (za zb : List (List Int)) : Int := if Lk2 M za zb then 0 else 1
def meetOk (M : Mk) (za zb : List (List Int)) : Prop := ∀ i, i < M.c.toNat → filt (pM za zb i) M.d.toNat ≠ []
instance (M : Mk) (za zb : List (List Int)) : Decidable (meetOk M za zb) := inferInstanceAs (Decidable (∀ i, i < _ → _))
def meetR (M : Mk) (za zb : List (List Int)) : List (List Int) := if Lk2 M za zb then (if meetOk M za zb then rowsOf (pM za zb) M.d M.c.toNat else []) else []
def meetCode (M : Mk) (za zb : List (List Int)) : Int := if Lk2 M za zb then (if meetOk M za zb then 0 else 4) else 1
theorem joinR_yes {M : Mk} {za zb : List (List Int)} (h : Lk2 M za zb) : joinR M za zb = rowsOf (pJ za zb) M.d M.c.toNat ∧ joinCode M za zb = 0 := by unfold joinR joinCode; rw [if_pos h, if_pos h]; exact ⟨rfl, rfl⟩
theorem joinR_no {M : Mk} {za zb : List (List Int)} (h : ¬ Lk2 M za zb) : joinR M za zb = [] ∧ joinCode M za zb = 1 := by unfold joinR joinCode; rw [if_neg h, if_neg h]; exact ⟨rfl, rfl⟩
theorem meetR_yes {M : Mk} {za zb : List (List Int)} (h : Lk2 M za zb) (h2 : meetOk M za zb) : meetR M za zb = rowsOf (pM za zb) M.d M.c.toNat ∧ meetCode M za zb = 0 := by unfold meetR meetCode; rw [if_pos h, if_pos h, if_pos h2, if_pos h2]; exact ⟨rfl, rfl⟩
theorem meetR_none {M : Mk} {za zb : List (List Int)} (h : Lk2 M za zb) (h2 : ¬ meetOk M za zb) : meetR M za zb = [] ∧ meetCode M za zb = 4 := by unfold meetR meetCode; rw [if_pos h, if_pos h, if_neg h2, if_neg h2]; exact ⟨rfl, rfl⟩
theorem meetR_no {M : Mk} {za zb : List (List Int)} (h : ¬ Lk2 M za zb) : meetR M za zb = [] ∧ meetCode M za zb = 1 := by unfold meetR meetCode; rw [if_neg h, if_neg h]; exact ⟨rfl, rfl⟩
theorem lk2_lks {M : Mk} {za zb : List (List Int)} : LksOk M.c M.d M.s M.m M.l [za, zb] ↔ Lk2 M za zb := by
  unfold LksOk Lk2 LkOk
  simp only [List.mem_cons, List.not_mem_nil, or_false, forall_eq_or_imp, forall_eq]
  constructor
  · rintro ⟨h1, h2, h3⟩
    exact ⟨⟨h1, h2⟩, h1, h3⟩
  · rintro ⟨⟨h1, h2⟩, _, h3⟩
    exact ⟨h1, h2, h3⟩
theorem OwnR.new {B : Nat} {w0 w : World} {u : Value} (o : Own B w 36 u []) (h : w0.heap.size ≤ B) : OwnR w0.heap.size w u [] := ⟨[], o.mono h, Rows.nil_, .nil⟩
def spec_JoinLocks_A (m_Chambers : Int) (m_Depths : Int) (m_Step : Int) (m_Same : Int) (m_Least : Int) (a_Sets : Value) (b_Sets : Value) (w : World) : Nat → Ann := fun κ => match κ with
  | 0 => { σ := Nat × Value, sli := [9, 8], slc := fun s => [SV.v (Value.int .i64 (s.1 : Int)), SV.v s.2], bxi := [], bxc := fun s => [], inv := fun s W => True, μ := fun s W => 0, free := true }
  | 1 => { σ := Nat × Value, sli := [11, 10], slc := fun s => [SV.v (Value.int .i64 (s.1 : Int)), SV.v s.2], bxi := [], bxc := fun s => [], inv := fun s W => True, μ := fun s W => 0, free := true }
  | _ => { σ := Unit, sli := [], slc := fun _ => [], bxi := [], bxc := fun _ => [], inv := fun _ _ => False, μ := fun _ _ => 0 }
abbrev spec_JoinLocks_k0 (w : World) (Post : Value → World → Prop) (w31 : World) : Prop :=
  ∀ w32 : World, BxS w.heap.size 28 w31 w32 → Post (Value.tuple #[(Value.agg #[(Value.slice none 0 0)]), (Value.int .i64 1)]) w32
abbrev spec_JoinLocks_k1 (s120 : Nat × Value) (w121 : World) (J122 : (Nat × Value) → World → Prop) (m123 : (Nat × Value) → World → Nat) (x149 : Value) (x150 : Int) (w163 : World) : Prop :=
  I64 (x150 + 1) ∧ ∃ s164 : (Nat × Value), (Value.int .i64 (x150 + 1)) = (Value.int .i64 (s164.1 : Int)) ∧ x149 = s164.2 ∧ (J122 s164 w163) ∧ (m123 s164 w163) < (m123 s120 w121)
abbrev spec_JoinLocks_k2 (s120 : Nat × Value) (w121 : World) (J122 : (Nat × Value) → World → Prop) (m123 : (Nat × Value) → World → Nat) (x134 : Value) (x135 : Int) (w144 : World) : Prop :=
  ∀ (v145 : Value) (w146 : World), Own w144.heap.size w146 2 v145 [(Value.int .i64 x135)] → Ext w144 w146 → AppV w146 2 x134 v145 (fun v147 w148 => (spec_JoinLocks_k1 s120 w121 J122 m123 v147 x135 w148))
abbrev spec_JoinLocks_k3 (s120 : Nat × Value) (w121 : World) (J122 : (Nat × Value) → World → Prop) (m123 : (Nat × Value) → World → Nat) (x170 : Value) (x171 : Int) (x186 : Bool) (w187 : World) : Prop :=
  ((x186 = true → ∀ (v188 : Value) (w189 : World), Own w187.heap.size w189 2 v188 [(Value.int .i64 x171)] → Ext w187 w189 → AppV w189 2 x170 v188 (fun v190 w191 => (spec_JoinLocks_k1 s120 w121 J122 m123 v190 x171 w191))) ∧ (x186 = false → (spec_JoinLocks_k1 s120 w121 J122 m123 x170 x171 w187)))
abbrev spec_JoinLocks_k4 (w : World) (x100 : Value) (x101 : Value) (x112 : Int) (s120 : Nat × Value) (w121 : World) (J122 : (Nat × Value) → World → Prop) (m123 : (Nat × Value) → World → Nat) (x124 : Value) (x125 : Int) (w128 : World) : Prop :=
  IxV 1 x100 x112 (fun ad129 => ∃ u130 : Value, LdV w128 (Value.pointer (some ad129)) u130 ∧ Calls Try.prog 79 #[u130, (Value.int .i64 x125)] w128 (fun e131 w132 => ∃ b133 : Bool, e131 = .returned (Value.bool b133) ∧ Keeps w.heap.size [25, 28, 28, 28] w128 w132 ∧ ((b133 = true → (spec_JoinLocks_k2 s120 w121 J122 m123 x124 x125 w132)) ∧ (b133 = false → IxV 1 x101 x112 (fun ad165 => ∃ u166 : Value, LdV w132 (Value.pointer (some ad165)) u166 ∧ Calls Try.prog 79 #[u166, (Value.int .i64 x125)] w132 (fun e167 w168 => ∃ b169 : Bool, e167 = .returned (Value.bool b169) ∧ Keeps w.heap.size [25, 28, 28, 28] w132 w168 ∧ (spec_JoinLocks_k3 s120 w121 J122 m123 x124 x125 b169 w168)))))))
abbrev spec_JoinLocks_k5 (s106 : Nat × Value) (w107 : World) (J108 : (Nat × Value) → World → Prop) (m109 : (Nat × Value) → World → Nat) (x207 : Value) (x208 : Int) (w221 : World) : Prop :=
  I64 (x208 + 1) ∧ ∃ s222 : (Nat × Value), (Value.int .i64 (x208 + 1)) = (Value.int .i64 (s222.1 : Int)) ∧ x207 = s222.2 ∧ (J108 s222 w221) ∧ (m109 s222 w221) < (m109 s106 w107)
abbrev spec_JoinLocks_k6 (s106 : Nat × Value) (w107 : World) (J108 : (Nat × Value) → World → Prop) (m109 : (Nat × Value) → World → Nat) (x192 : Value) (x193 : Int) (x194 : Value) (w202 : World) : Prop :=
  oneC x194 (∀ (v203 : Value) (w204 : World), Own w202.heap.size w204 36 v203 [x194] → Ext w202 w204 → AppV w204 36 x192 v203 (fun v205 w206 => (spec_JoinLocks_k5 s106 w107 J108 m109 v205 x193 w206)))
abbrev spec_JoinLocks_k7 (w : World) (x96 : Int) (x100 : Value) (x101 : Value) (s106 : Nat × Value) (w107 : World) (J108 : (Nat × Value) → World → Prop) (m109 : (Nat × Value) → World → Nat) (x111 : Value) (x112 : Int) (w116 : World) : Prop :=
  ∀ (v117 : Value) (w118 : World), Own w116.heap.size w118 2 v117 [] → Ext w116 w118 → (∃ (J122 : (Nat × Value) → World → Prop) (m123 : (Nat × Value) → World → Nat), ((∃ s119 : (Nat × Value), (Value.int .i64 0) = (Value.int .i64 (s119.1 : Int)) ∧ v117 = s119.2 ∧ (J122 s119 w118)) ∧ ∀ (s120 : (Nat × Value)) (w121 : World), (J122 s120 w121) → ((((s120.1 : Int) < x96) → (spec_JoinLocks_k4 w x100 x101 x112 s120 w121 J122 m123 s120.2 (s120.1 : Int) w121)) ∧ (¬ ((s120.1 : Int) < x96) → (spec_JoinLocks_k6 s106 w107 J108 m109 x111 x112 s120.2 w121)))))
abbrev spec_JoinLocks_k8 (w : World) (Post : Value → World → Prop) (x231 : Value) (w261 : World) : Prop :=
  oneC x231 (oneC x231 (∀ w262 : World, BxS w.heap.size 28 w261 w262 → Post (Value.tuple #[(Value.agg #[x231]), (Value.int .i64 0)]) w262))
abbrev spec_JoinLocks_k9 (w : World) (Post : Value → World → Prop) (x96 : Int) (x100 : Value) (x101 : Value) (w102 : World) : Prop :=
  ∀ (v103 : Value) (w104 : World), Own w102.heap.size w104 36 v103 [] → Ext w102 w104 → (∃ (J108 : (Nat × Value) → World → Prop) (m109 : (Nat × Value) → World → Nat), ((∃ s105 : (Nat × Value), (Value.int .i64 0) = (Value.int .i64 (s105.1 : Int)) ∧ v103 = s105.2 ∧ (J108 s105 w104)) ∧ ∀ (s106 : (Nat × Value)) (w107 : World), (J108 s106 w107) → LenV x100 (fun n110 => ((((s106.1 : Int) < n110) → (spec_JoinLocks_k7 w x96 x100 x101 s106 w107 J108 m109 s106.2 (s106.1 : Int) w107)) ∧ (¬ ((s106.1 : Int) < n110) → (spec_JoinLocks_k8 w Post s106.2 w107))))))
abbrev spec_JoinLocks_k10 (w : World) (Post : Value → World → Prop) (x60 : Bool) (x62 : Int) (x66 : Value) (x67 : Value) (w68 : World) : Prop :=
  ((x60 = true → ∀ w69 : World, BxS w.heap.size 28 w68 w69 → Post (Value.tuple #[(Value.agg #[(Value.slice none 0 0)]), (Value.int .i64 1)]) w69) ∧ (x60 = false → (spec_JoinLocks_k9 w Post x62 x66 x67 w68)))
def spec_JoinLocks_vc (m_Chambers : Int) (m_Depths : Int) (m_Step : Int) (m_Same : Int) (m_Least : Int) (a_Sets : Value) (b_Sets : Value) (w : World) (Post : Value → World → Prop) : Prop :=
  ∀ w1 : World, Ext w w1 → oneC a_Sets (∀ w2 : World, Ext w1 w2 → oneC b_Sets (∀ w3 : World, Ext w2 w3 → ∀ w4 : World, Ext w3 w4 → Calls Try.prog 69 #[(Value.agg #[(Value.int .i64 m_Chambers), (Value.int .i64 m_Depths), (Value.int .i64 m_Step), (Value.int .i64 m_Same), (Value.int .i64 m_Least)]), (Value.agg #[a_Sets])] w4 (fun e5 w6 => ∃ b7 : Bool, e5 = .returned (Value.bool b7) ∧ Keeps w.heap.size [25, 28, 28, 28] w4 w6 ∧ (((!b7) = true → (spec_JoinLocks_k0 w Post w6)) ∧ ((!b7) = false → Calls Try.prog 69 #[(Value.agg #[(Value.int .i64 m_Chambers), (Value.int .i64 m_Depths), (Value.int .i64 m_Step), (Value.int .i64 m_Same), (Value.int .i64 m_Least)]), (Value.agg #[b_Sets])] w6 (fun e33 w34 => ∃ b35 : Bool, e33 = .returned (Value.bool b35) ∧ Keeps w.heap.size [25, 28, 28, 28] w6 w34 ∧ (spec_JoinLocks_k10 w Post (!b35) m_Depths a_Sets b_Sets w34)))))))
theorem spec_JoinLocks_eq (m_Chambers : Int) (m_Depths : Int) (m_Step : Int) (m_Same : Int) (m_Least : Int) (a_Sets : Value) (b_Sets : Value) (w : World) (Post : Value → World → Prop) : denF Try.prog [] (spec_JoinLocks_A m_Chambers m_Depths m_Step m_Same m_Least a_Sets b_Sets w) 15 [(Value.agg #[(Value.int .i64 m_Chambers), (Value.int .i64 m_Depths), (Value.int .i64 m_Step), (Value.int .i64 m_Same), (Value.int .i64 m_Least)]), (Value.agg #[a_Sets]), (Value.agg #[b_Sets])] w Post = spec_JoinLocks_vc m_Chambers m_Depths m_Step m_Same m_Least a_Sets b_Sets w Post := by kernel_rfl
set_option maxRecDepth 100000 in
theorem spec_JoinLocks_calls (m_Chambers : Int) (m_Depths : Int) (m_Step : Int) (m_Same : Int) (m_Least : Int) (a_Sets : Value) (b_Sets : Value) (w : World) (Post : Value → World → Prop) (hvc : spec_JoinLocks_vc m_Chambers m_Depths m_Step m_Same m_Least a_Sets b_Sets w Post) : Ret Try.prog 15 #[(Value.agg #[(Value.int .i64 m_Chambers), (Value.int .i64 m_Depths), (Value.int .i64 m_Step), (Value.int .i64 m_Same), (Value.int .i64 m_Least)]), (Value.agg #[a_Sets]), (Value.agg #[b_Sets])] w Post :=
  Ret.of (denF_sound mixed (Eq.mpr (spec_JoinLocks_eq m_Chambers m_Depths m_Step m_Same m_Least a_Sets b_Sets w Post) hvc))

theorem spec_JoinLocks_ret (M : Mk) (a b : Value) (za zb : List (List Int)) (w : World) (ha : RR w a za) (hb : RR w b zb) : LkR 15 #[M.v, lkV a, lkV b] w (joinR M za zb) (joinCode M za zb) :=
  spec_JoinLocks_calls M.c M.d M.s M.m M.l a b w _ (by
    unfold spec_JoinLocks_vc
    intro w1 h1
    refine ha.oneC fun w2 h2 => hb.oneC fun w3 h3 w4 h4 => ?_
    have k4 := ((h1.trans h2).trans h3).trans h4
    refine (spec_IsLock_val M.c M.d M.s M.m M.l a za w4 (ha.ext k4)).call fun w5 h5 => ⟨_, rfl, h5.keeps, fun hno w6 b6 => ?_, fun hya => ?_⟩
    · obtain ⟨e1, e2⟩ := joinR_no (M := M) (zb := zb) fun hh => nd_t hno hh.1
      rw [e1, e2]
      exact ⟨_, rfl, OwnR.nil_ _ _, (k4.trans h5).bxs b6⟩
    have hA := nd_f hya
    have k5 := k4.trans h5
    refine (spec_IsLock_val M.c M.d M.s M.m M.l b zb w5 (hb.ext k5)).call fun w6 h6 => ⟨_, rfl, h6.keeps, fun hno w7 b7 => ?_, fun hyb => ?_⟩
    · obtain ⟨e1, e2⟩ := joinR_no (M := M) (za := za) fun hh => nd_t hno hh.2
      rw [e1, e2]
      exact ⟨_, rfl, OwnR.nil_ _ _, (k5.trans h6).bxs b7⟩
    have hB := nd_f hyb
    obtain ⟨e1, e2⟩ := joinR_yes (M := M) ⟨hA, hB⟩
    rw [e1, e2]
    have k6 := k5.trans h6
    have hc := hA.1.1
    have hd := hA.1.2.1
    have la := hA.2.1
    have lb := hB.2.1
    intro v w7 o7 h7
    have k7 := k6.trans h7
    refine ⟨fun s W => s.1 ≤ za.length ∧ Ext w W ∧ OwnR w.heap.size W s.2 (rowsOf (pJ za zb) M.d s.1), fun s _ => za.length - s.1, ⟨(0, v), rfl, rfl, Nat.zero_le _, k7, OwnR.new o7 k6.size⟩, ?_⟩
    rintro ⟨i, u⟩ w8 ⟨hi, k8, o8⟩
    simp only at hi o8
    refine (ha.ext k8).len ⟨fun hlt => ?_, fun hge => ?_⟩
    · have hia : i < za.length := by simp only at hlt; omega
      have hib : i < zb.length := by omega
      intro r w9 o9 h9
      have k9 := k8.trans h9
      refine ⟨fun s W => s.1 ≤ M.d.toNat ∧ Ext w8 W ∧ Own w8.heap.size W 2 s.2 (ints (filt (pJ za zb i) s.1)), fun s _ => M.d.toNat - s.1, ⟨(0, r), rfl, rfl, Nat.zero_le _, h9, o9⟩, ?_⟩
      rintro ⟨x, t⟩ w10 ⟨hx, h10, o10⟩
      simp only at hx o10
      have k10 := k8.trans h10
      have next : ∀ (t' : Value) (W : World), Ext w8 W → Own w8.heap.size W 2 t' (ints (filt (pJ za zb i) (x + 1))) → x < M.d.toNat →
          I64 ((x : Int) + 1) ∧ ∃ s' : Nat × Value, Value.int .i64 ((x : Int) + 1) = Value.int .i64 (s'.1 : Int) ∧ t' = s'.2 ∧ (s'.1 ≤ M.d.toNat ∧ Ext w8 W ∧ Own w8.heap.size W 2 s'.2 (ints (filt (pJ za zb i) s'.1))) ∧ M.d.toNat - s'.1 < M.d.toNat - x :=
        fun t' W hW hO hlt => ⟨by unfold I64; omega, (x + 1, t'), rfl, rfl, ⟨hlt, hW, hO⟩, by simp only; omega⟩
      refine ⟨fun hlt => ?_, fun hge => ?_⟩
      · have hxd : x < M.d.toNat := by simp only at hlt; omega
        have push : ∀ (W : World), Ext w10 W → pJ za zb i x = true → ∀ (v188 : Value) (w189 : World), Own W.heap.size w189 2 v188 [(Value.int .i64 (x : Int))] → Ext W w189 → AppV w189 2 t v188 fun v190 w191 =>
            I64 ((x : Int) + 1) ∧ ∃ s' : Nat × Value, Value.int .i64 ((x : Int) + 1) = Value.int .i64 (s'.1 : Int) ∧ v190 = s'.2 ∧ (s'.1 ≤ M.d.toNat ∧ Ext w8 w191 ∧ Own w8.heap.size w191 2 s'.2 (ints (filt (pJ za zb i) s'.1))) ∧ M.d.toNat - s'.1 < M.d.toNat - x := by
          intro W hW hp r2 w11 o11 h11
          have x11 := hW.trans h11
          have hl := filt_len (pJ za zb i) x
          refine (o10.ext x11).app1 o11 rfl (by simp; omega) ((h10.trans x11).size) fun t' w12 o12 g12 _ => next t' w12 ((h10.trans x11).grown (o10.ext x11) (Nat.le_refl _) g12) ?_ hxd
          rw [filt_yes hp, ints_append]
          exact o12
        refine (ha.ext k10).get i rfl hia fun p hp => ?_
        refine (spec_l01Has_val p x za[i] w10 hp).call fun w11 h11 => ⟨_, rfl, h11.keeps, fun hy => ?_, fun hn => ?_⟩
        · exact push w11 h11 (by unfold pJ; rw [al_get hia, hy]; rfl)
        · refine (hb.ext (k10.trans h11)).get i rfl hib fun q hq => ?_
          refine (spec_l01Has_val q x zb[i] w11 hq).call fun w12 h12 => ⟨_, rfl, h12.keeps, fun hy => ?_, fun hn2 => ?_⟩
          · exact push w12 (h11.trans h12) (by unfold pJ; rw [al_get hia, al_get hib, hn, hy]; rfl)
          · refine next t w12 (h10.trans (h11.trans h12)) ?_ hxd
            rw [filt_no (by unfold pJ; rw [al_get hia, al_get hib, hn, hn2]; rfl)]
            exact o10.ext (h11.trans h12)
      · have hxe : x = M.d.toNat := by simp only at hge; omega
        subst hxe
        refine o10.rd.oneC fun r2 w11 o11 h11 => ?_
        refine o8.push o10 h10 o11 h11 k8.size (by rw [rowsOf_length]; omega) fun v' w12 o12 hx12 => ⟨by unfold I64; simp only; omega, (i + 1, v'), rfl, rfl, ⟨hia, hx12 w (Nat.le_refl _) (k10.trans h11), ?_⟩, by simp only; omega⟩
        simp only
        rw [rowsOf_succ]
        exact o12
    · have hie : i = M.c.toNat := by simp only at hge; omega
      subst hie
      refine o8.rr.oneC (o8.rr.oneC fun w9 b9 => ⟨u, rfl, o8.bxs b9 (by decide) (by decide), k8.bxs b9⟩))
def impl_JoinLocks1_vc (x : Bool) (y : Bool) (w : World) (Post : Value → World → Prop) : Prop :=
  ((x = true → Post (Value.bool true) w) ∧ (x = false → Post (Value.bool y) w))
theorem impl_JoinLocks1_eq (x : Bool) (y : Bool) (w : World) (Post : Value → World → Prop) : denF Try.prog [] noAnn 80 [(Value.bool x), (Value.bool y)] w Post = impl_JoinLocks1_vc x y w Post := by kernel_rfl
set_option maxRecDepth 100000 in
theorem impl_JoinLocks1_calls (x : Bool) (y : Bool) (w : World) (Post : Value → World → Prop) (hvc : impl_JoinLocks1_vc x y w Post) : Ret Try.prog 80 #[(Value.bool x), (Value.bool y)] w Post :=
  Ret.of (denF_sound mixed (Eq.mpr (impl_JoinLocks1_eq x y w Post) hvc))

theorem impl_JoinLocks1_val (x y : Bool) (w : World) : Val Try.prog 80 #[.bool x, .bool y] w (.bool (x || y)) :=
  Ret.val (impl_JoinLocks1_calls x y w _ (by
    unfold impl_JoinLocks1_vc
    exact ⟨fun h => ⟨by rw [h]; rfl, .refl w⟩, fun h => ⟨by rw [h]; rfl, .refl w⟩⟩))
def impl_combinepJ_A (m_Chambers : Int) (m_Depths : Int) (m_Step : Int) (m_Same : Int) (m_Least : Int) (a_Sets : Value) (b_Sets : Value) (w : World) : Nat → Ann := fun κ => match κ with
  | 0 => { σ := Nat × Value, sli := [16], slc := fun s => [SV.v (Value.int .i64 (s.1 : Int))], bxi := [4], bxc := fun s => [[s.2]], inv := fun s W => True, μ := fun s W => 0, free := true }
  | 1 => { σ := Nat × Value, sli := [22, 11], slc := fun s => [SV.v (Value.int .i64 (s.1 : Int)), SV.v s.2], bxi := [], bxc := fun s => [], inv := fun s W => True, μ := fun s W => 0, free := true }
  | _ => { σ := Unit, sli := [], slc := fun _ => [], bxi := [], bxc := fun _ => [], inv := fun _ _ => False, μ := fun _ _ => 0 }
abbrev impl_combinepJ_k0 (s18 : Nat × Value) (w19 : World) (J20 : (Nat × Value) → World → Prop) (m21 : (Nat × Value) → World → Nat) (x46 : Value) (x48 : Int) (w67 : World) : Prop :=
  I64 (x48 + 1) ∧ ∃ s68 : (Nat × Value), (Value.int .i64 (x48 + 1)) = (Value.int .i64 (s68.1 : Int)) ∧ x46 = s68.2 ∧ (J20 s68 w67) ∧ (m21 s68 w67) < (m21 s18 w19)
abbrev impl_combinepJ_k1 (a_Sets : Value) (b_Sets : Value) (x12 : Int) (s18 : Nat × Value) (w19 : World) (J20 : (Nat × Value) → World → Prop) (m21 : (Nat × Value) → World → Nat) (x22 : Value) (x23 : Int) (w24 : World) : Prop :=
  IxV 1 a_Sets x12 (fun ad25 => ∃ u26 : Value, LdV w24 (Value.pointer (some ad25)) u26 ∧ ∃ b30 : Bool, (∀ w27 : World, Ext w24 w27 → Calls Try.prog 133 #[u26, (Value.int .i64 x23)] w27 (fun e28 w29 => e28 = .returned (Value.bool b30) ∧ Ext w27 w29)) ∧ IxV 1 b_Sets x12 (fun ad31 => ∃ u32 : Value, LdV w24 (Value.pointer (some ad31)) u32 ∧ ∃ b36 : Bool, (∀ w33 : World, Ext w24 w33 → Calls Try.prog 133 #[u32, (Value.int .i64 x23)] w33 (fun e34 w35 => e34 = .returned (Value.bool b36) ∧ Ext w33 w35)) ∧ ∃ b40 : Bool, (∀ w37 : World, Ext w24 w37 → Calls Try.prog 80 #[(Value.bool b30), (Value.bool b36)] w37 (fun e38 w39 => e38 = .returned (Value.bool b40) ∧ Ext w37 w39)) ∧ ∀ w41 : World, Ext w24 w41 → ((b40 = true → ∀ (v42 : Value) (w43 : World), Own w41.heap.size w43 2 v42 [(Value.int .i64 x23)] → Ext w41 w43 → AppV w43 2 x22 v42 (fun v44 w45 => (impl_combinepJ_k0 s18 w19 J20 m21 v44 x23 w45))) ∧ (b40 = false → (impl_combinepJ_k0 s18 w19 J20 m21 x22 x23 w41)))))
abbrev impl_combinepJ_k2 (s8 : Nat × Value) (w9 : World) (J10 : (Nat × Value) → World → Prop) (m11 : (Nat × Value) → World → Nat) (x85 : Int) (x94 : Value) (w95 : World) : Prop :=
  I64 (x85 + 1) ∧ ∃ s96 : (Nat × Value), (Value.int .i64 (x85 + 1)) = (Value.int .i64 (s96.1 : Int)) ∧ x94 = s96.2 ∧ (J10 s96 w95) ∧ (m11 s96 w95) < (m11 s8 w9)
abbrev impl_combinepJ_k3 (w : World) (s8 : Nat × Value) (w9 : World) (J10 : (Nat × Value) → World → Prop) (m11 : (Nat × Value) → World → Nat) (x70 : Value) (x71 : Int) (x76 : Value) (w77 : World) : Prop :=
  oneC x70 (∀ (v78 : Value) (w79 : World), Own w77.heap.size w79 36 v78 [x70] → Ext w77 w79 → AppV w79 36 x76 v78 (fun v80 w81 => oneC v80 (∀ w82 : World, BxS w.heap.size 28 w81 w82 → (impl_combinepJ_k2 s8 w9 J10 m11 x71 v80 w82))))
abbrev impl_combinepJ_k4 (m_Depths : Int) (a_Sets : Value) (b_Sets : Value) (w : World) (s8 : Nat × Value) (w9 : World) (J10 : (Nat × Value) → World → Prop) (m11 : (Nat × Value) → World → Nat) (x12 : Int) (x13 : Value) (w14 : World) : Prop :=
  ∀ (v15 : Value) (w16 : World), Own w14.heap.size w16 2 v15 [] → Ext w14 w16 → (∃ (J20 : (Nat × Value) → World → Prop) (m21 : (Nat × Value) → World → Nat), ((∃ s17 : (Nat × Value), (Value.int .i64 0) = (Value.int .i64 (s17.1 : Int)) ∧ v15 = s17.2 ∧ (J20 s17 w16)) ∧ ∀ (s18 : (Nat × Value)) (w19 : World), (J20 s18 w19) → ((((s18.1 : Int) < m_Depths) → (impl_combinepJ_k1 a_Sets b_Sets x12 s18 w19 J20 m21 s18.2 (s18.1 : Int) w19)) ∧ (¬ ((s18.1 : Int) < m_Depths) → (impl_combinepJ_k3 w s8 w9 J10 m11 s18.2 x12 x13 w19)))))
abbrev impl_combinepJ_k5 (w : World) (Post : Value → World → Prop) (x113 : Value) (w114 : World) : Prop :=
  oneC x113 (∀ w115 : World, BxS w.heap.size 28 w114 w115 → Post (Value.agg #[x113]) w115)
def impl_combinepJ_vc (m_Chambers : Int) (m_Depths : Int) (m_Step : Int) (m_Same : Int) (m_Least : Int) (a_Sets : Value) (b_Sets : Value) (w : World) (Post : Value → World → Prop) : Prop :=
  ∀ w1 : World, Ext w w1 → oneC a_Sets (∀ w2 : World, Ext w1 w2 → oneC b_Sets (∀ w3 : World, Ext w2 w3 → ∀ w4 : World, Ext w3 w4 → ∀ w5 : World, Ext w4 w5 → ∀ w6 : World, BxS w.heap.size 28 w5 w6 → (∃ (J10 : (Nat × Value) → World → Prop) (m11 : (Nat × Value) → World → Nat), ((∃ s7 : (Nat × Value), (Value.int .i64 0) = (Value.int .i64 (s7.1 : Int)) ∧ (Value.slice none 0 0) = s7.2 ∧ (J10 s7 w6)) ∧ ∀ (s8 : (Nat × Value)) (w9 : World), (J10 s8 w9) → ((((s8.1 : Int) < m_Chambers) → (impl_combinepJ_k4 m_Depths a_Sets b_Sets w s8 w9 J10 m11 (s8.1 : Int) s8.2 w9)) ∧ (¬ ((s8.1 : Int) < m_Chambers) → (impl_combinepJ_k5 w Post s8.2 w9)))))))
theorem impl_combinepJ_eq (m_Chambers : Int) (m_Depths : Int) (m_Step : Int) (m_Same : Int) (m_Least : Int) (a_Sets : Value) (b_Sets : Value) (w : World) (Post : Value → World → Prop) : denF Try.prog [] (impl_combinepJ_A m_Chambers m_Depths m_Step m_Same m_Least a_Sets b_Sets w) 76 [(Value.agg #[(Value.int .i64 m_Chambers), (Value.int .i64 m_Depths), (Value.int .i64 m_Step), (Value.int .i64 m_Same), (Value.int .i64 m_Least)]), (Value.agg #[a_Sets]), (Value.agg #[b_Sets]), (Value.func (.func 80) #[] #[])] w Post = impl_combinepJ_vc m_Chambers m_Depths m_Step m_Same m_Least a_Sets b_Sets w Post := by kernel_rfl
set_option maxRecDepth 100000 in
theorem impl_combinepJ_calls (m_Chambers : Int) (m_Depths : Int) (m_Step : Int) (m_Same : Int) (m_Least : Int) (a_Sets : Value) (b_Sets : Value) (w : World) (Post : Value → World → Prop) (hvc : impl_combinepJ_vc m_Chambers m_Depths m_Step m_Same m_Least a_Sets b_Sets w Post) : Ret Try.prog 76 #[(Value.agg #[(Value.int .i64 m_Chambers), (Value.int .i64 m_Depths), (Value.int .i64 m_Step), (Value.int .i64 m_Same), (Value.int .i64 m_Least)]), (Value.agg #[a_Sets]), (Value.agg #[b_Sets]), (Value.func (.func 80) #[] #[])] w Post :=
  Ret.of (denF_sound mixed (Eq.mpr (impl_combinepJ_eq m_Chambers m_Depths m_Step m_Same m_Least a_Sets b_Sets w Post) hvc))

theorem impl_combinepJ_ret (M : Mk) (a b : Value) (za zb : List (List Int)) (w : World) (ha : RR w a za) (hb : RR w b zb) (hk : Lk2 M za zb) : Ret Try.prog 76 #[M.v, lkV a, lkV b, .func (.func 80) #[] #[]] w fun r w' => ∃ u, r = lkV u ∧ OwnR w.heap.size w' u (rowsOf (pJ za zb) M.d M.c.toNat) ∧ Ext w w' :=
  impl_combinepJ_calls M.c M.d M.s M.m M.l a b w _ (by
    unfold impl_combinepJ_vc
    obtain ⟨hA, hB⟩ := hk
    have hc := hA.1.1
    have hd := hA.1.2.1
    have la := hA.2.1
    have lb := hB.2.1
    intro w1 h1
    refine ha.oneC fun w2 h2 => hb.oneC fun w3 h3 w4 h4 w5 h5 w6 b6 => ?_
    have k6 := ((((h1.trans h2).trans h3).trans h4).trans h5).bxs b6
    refine ⟨fun s W => s.1 ≤ M.c.toNat ∧ Ext w W ∧ OwnR w.heap.size W s.2 (rowsOf (pJ za zb) M.d s.1), fun s _ => M.c.toNat - s.1, ⟨(0, .slice none 0 0), rfl, rfl, Nat.zero_le _, k6, OwnR.nil_ _ _⟩, ?_⟩
    rintro ⟨i, u⟩ w8 ⟨hi, k8, o8⟩
    simp only at hi o8
    refine ⟨fun hlt => ?_, fun hge => ?_⟩
    · have hia : i < za.length := by simp only at hlt; omega
      have hib : i < zb.length := by omega
      intro r w9 o9 h9
      have k9 := k8.trans h9
      refine ⟨fun s W => s.1 ≤ M.d.toNat ∧ Ext w8 W ∧ Own w8.heap.size W 2 s.2 (ints (filt (pJ za zb i) s.1)), fun s _ => M.d.toNat - s.1, ⟨(0, r), rfl, rfl, Nat.zero_le _, h9, o9⟩, ?_⟩
      rintro ⟨x, t⟩ w10 ⟨hx, h10, o10⟩
      simp only at hx o10
      have k10 := k8.trans h10
      have next : ∀ (t' : Value) (W : World), Ext w8 W → Own w8.heap.size W 2 t' (ints (filt (pJ za zb i) (x + 1))) → x < M.d.toNat →
          I64 ((x : Int) + 1) ∧ ∃ s' : Nat × Value, Value.int .i64 ((x : Int) + 1) = Value.int .i64 (s'.1 : Int) ∧ t' = s'.2 ∧ (s'.1 ≤ M.d.toNat ∧ Ext w8 W ∧ Own w8.heap.size W 2 s'.2 (ints (filt (pJ za zb i) s'.1))) ∧ M.d.toNat - s'.1 < M.d.toNat - x :=
        fun t' W hW hO hlt => ⟨by unfold I64; omega, (x + 1, t'), rfl, rfl, ⟨hlt, hW, hO⟩, by simp only; omega⟩
      refine ⟨fun hlt => ?_, fun hge => ?_⟩
      · have hxd : x < M.d.toNat := by simp only at hlt; omega
        refine (ha.ext k10).get i rfl hia fun p hp => ⟨decide ((x : Int) ∈ za[i]), fun W hW => (slices_Contains_val p x za[i] W (hp.ext hW)).calls, ?_⟩
        refine (hb.ext k10).get i rfl hib fun q hq => ⟨decide ((x : Int) ∈ zb[i]), fun W hW => (slices_Contains_val q x zb[i] W (hq.ext hW)).calls, pJ za zb i x, fun W hW => ?_, fun w11 h11 => ⟨fun hy r2 w12 o12 h12 => ?_, fun hn => ?_⟩⟩
        · have := impl_JoinLocks1_val (decide ((x : Int) ∈ za[i])) (decide ((x : Int) ∈ zb[i])) W
          rw [← al_get hia, ← al_get hib] at this
          rw [← al_get hia, ← al_get hib]
          exact this.calls
        · have x12 := h11.trans h12
          have hl := filt_len (pJ za zb i) x
          refine (o10.ext x12).app1 o12 rfl (by simp; omega) ((h10.trans x12).size) fun t' w13 o13 g13 _ => next t' w13 ((h10.trans x12).grown (o10.ext x12) (Nat.le_refl _) g13) ?_ hxd
          rw [filt_yes hy, ints_append]
          exact o13
        · refine next t w11 (h10.trans h11) ?_ hxd
          rw [filt_no hn]
          exact o10.ext h11
      · have hxe : x = M.d.toNat := by simp only at hge; omega
        subst hxe
        refine o10.rd.oneC fun r2 w11 o11 h11 => ?_
        refine o8.push o10 h10 o11 h11 k8.size (by rw [rowsOf_length]; omega) fun v' w12 o12 hx12 => o12.rr.oneC fun w13 b13 => ⟨by unfold I64; simp only; omega, (i + 1, v'), rfl, rfl, ⟨by simp only at hlt; omega, (hx12 w (Nat.le_refl _) (k10.trans h11)).bxs b13, ?_⟩, by simp only at hlt; simp only; omega⟩
        simp only
        rw [rowsOf_succ]
        exact o12.bxs b13 (by decide) (by decide)
    · have hie : i = M.c.toNat := by simp only at hge; omega
      subst hie
      refine o8.rr.oneC fun w9 b9 => ⟨u, rfl, o8.bxs b9 (by decide) (by decide), k8.bxs b9⟩)
abbrev impl_JoinLocks_k0 (w : World) (Post : Value → World → Prop) (x30 : Int) (x31 : Int) (x32 : Int) (x33 : Int) (x34 : Int) (x35 : Value) (x36 : Value) (w37 : World) : Prop :=
  Calls Try.prog 76 #[(Value.agg #[(Value.int .i64 x30), (Value.int .i64 x31), (Value.int .i64 x32), (Value.int .i64 x33), (Value.int .i64 x34)]), (Value.agg #[x35]), (Value.agg #[x36]), (Value.func (.func 80) #[] #[])] w37 (fun e38 w39 => ∃ u40 : Value, e38 = .returned (Value.agg #[u40]) ∧ Keeps w.heap.size [25, 28, 28, 28] w37 w39 ∧ oneC u40 (∀ w41 : World, BxS w.heap.size 28 w39 w41 → Post (Value.tuple #[(Value.agg #[u40]), (Value.int .i64 0)]) w41))
def impl_JoinLocks_vc (m_Chambers : Int) (m_Depths : Int) (m_Step : Int) (m_Same : Int) (m_Least : Int) (a_Sets : Value) (b_Sets : Value) (w : World) (Post : Value → World → Prop) : Prop :=
  ∀ w1 : World, Ext w w1 → oneC a_Sets (∀ w2 : World, Ext w1 w2 → oneC b_Sets (∀ w3 : World, Ext w2 w3 → ∀ w4 : World, Ext w3 w4 → oneC a_Sets (oneC b_Sets (∀ (v5 : Value) (w6 : World), Own w4.heap.size w6 28 v5 [a_Sets, b_Sets] → Ext w4 w6 → Calls Try.prog 75 #[(Value.agg #[(Value.int .i64 m_Chambers), (Value.int .i64 m_Depths), (Value.int .i64 m_Step), (Value.int .i64 m_Same), (Value.int .i64 m_Least)]), v5] w6 (fun e7 w8 => ∃ n9 : Int, e7 = .returned (Value.int .i64 n9) ∧ Keeps w.heap.size [25, 28, 28, 28] w6 w8 ∧ (((n9 ≠ (0 : Int)) → ∀ w10 : World, BxS w.heap.size 28 w8 w10 → Post (Value.tuple #[(Value.agg #[(Value.slice none 0 0)]), (Value.int .i64 n9)]) w10) ∧ (¬ (n9 ≠ (0 : Int)) → (impl_JoinLocks_k0 w Post m_Chambers m_Depths m_Step m_Same m_Least a_Sets b_Sets w8))))))))
theorem impl_JoinLocks_eq (m_Chambers : Int) (m_Depths : Int) (m_Step : Int) (m_Same : Int) (m_Least : Int) (a_Sets : Value) (b_Sets : Value) (w : World) (Post : Value → World → Prop) : denF Try.prog [] noAnn 14 [(Value.agg #[(Value.int .i64 m_Chambers), (Value.int .i64 m_Depths), (Value.int .i64 m_Step), (Value.int .i64 m_Same), (Value.int .i64 m_Least)]), (Value.agg #[a_Sets]), (Value.agg #[b_Sets])] w Post = impl_JoinLocks_vc m_Chambers m_Depths m_Step m_Same m_Least a_Sets b_Sets w Post := by kernel_rfl
set_option maxRecDepth 100000 in
theorem impl_JoinLocks_calls (m_Chambers : Int) (m_Depths : Int) (m_Step : Int) (m_Same : Int) (m_Least : Int) (a_Sets : Value) (b_Sets : Value) (w : World) (Post : Value → World → Prop) (hvc : impl_JoinLocks_vc m_Chambers m_Depths m_Step m_Same m_Least a_Sets b_Sets w Post) : Ret Try.prog 14 #[(Value.agg #[(Value.int .i64 m_Chambers), (Value.int .i64 m_Depths), (Value.int .i64 m_Step), (Value.int .i64 m_Same), (Value.int .i64 m_Least)]), (Value.agg #[a_Sets]), (Value.agg #[b_Sets])] w Post :=
  Ret.of (denF_sound mixed (Eq.mpr (impl_JoinLocks_eq m_Chambers m_Depths m_Step m_Same m_Least a_Sets b_Sets w Post) hvc))

theorem impl_JoinLocks_ret (M : Mk) (a b : Value) (za zb : List (List Int)) (w : World) (ha : RR w a za) (hb : RR w b zb) : LkR 14 #[M.v, lkV a, lkV b] w (joinR M za zb) (joinCode M za zb) :=
  impl_JoinLocks_calls M.c M.d M.s M.m M.l a b w _ (by
    unfold impl_JoinLocks_vc
    intro w1 h1
    refine ha.oneC fun w2 h2 => hb.oneC fun w3 h3 w4 h4 => ha.oneC (hb.oneC fun v w5 o5 h5 => ?_)
    have k5 := (((h1.trans h2).trans h3).trans h4).trans h5
    refine (impl_locksCode_val M.c M.d M.s M.m M.l v [za, zb] w5 (RLs.two o5 (ha.ext k5) (hb.ext k5))).call fun w6 h6 => ⟨_, rfl, h6.keeps, ?_⟩
    have k6 := k5.trans h6
    by_cases hk : Lk2 M za zb
    · have e : locksR M.c M.d M.s M.m M.l [za, zb] = 0 := by unfold locksR; rw [if_pos (lk2_lks.2 hk)]
      rw [e]
      refine ⟨fun hne => absurd rfl hne, fun _ => ?_⟩
      obtain ⟨e1, e2⟩ := joinR_yes hk
      rw [e1, e2]
      refine (impl_combinepJ_ret M a b za zb w6 (ha.ext k6) (hb.ext k6) hk).call ?_
      rintro _ w7 ⟨u, rfl, o7, h7⟩
      exact ⟨u, rfl, h7.keeps, o7.rr.oneC fun w8 b8 => ⟨u, rfl, (o7.mono k6.size).bxs b8 (by decide) (by decide), (k6.trans h7).bxs b8⟩⟩
    · have e : locksR M.c M.d M.s M.m M.l [za, zb] = 1 := by unfold locksR; rw [if_neg fun h => hk (lk2_lks.1 h)]
      rw [e]
      refine ⟨fun _ w7 b7 => ?_, fun hn => absurd (by decide) hn⟩
      obtain ⟨e1, e2⟩ := joinR_no hk
      rw [e1, e2]
      exact ⟨_, rfl, OwnR.nil_ _ _, k6.bxs b7⟩)
def spec_MeetLocks_A (m_Chambers : Int) (m_Depths : Int) (m_Step : Int) (m_Same : Int) (m_Least : Int) (a_Sets : Value) (b_Sets : Value) (w : World) : Nat → Ann := fun κ => match κ with
  | 0 => { σ := Nat × Value, sli := [9, 8], slc := fun s => [SV.v (Value.int .i64 (s.1 : Int)), SV.v s.2], bxi := [3], bxc := fun s => [[(Value.slice none 0 0)]], inv := fun s W => True, μ := fun s W => 0, free := true }
  | 1 => { σ := Nat × Value, sli := [11, 10], slc := fun s => [SV.v (Value.int .i64 (s.1 : Int)), SV.v s.2], bxi := [], bxc := fun s => [], inv := fun s W => True, μ := fun s W => 0, free := true }
  | _ => { σ := Unit, sli := [], slc := fun _ => [], bxi := [], bxc := fun _ => [], inv := fun _ _ => False, μ := fun _ _ => 0 }
abbrev spec_MeetLocks_k0 (w : World) (Post : Value → World → Prop) (w31 : World) : Prop :=
  ∀ w32 : World, BxS w.heap.size 28 w31 w32 → Post (Value.tuple #[(Value.agg #[(Value.slice none 0 0)]), (Value.int .i64 1)]) w32
abbrev spec_MeetLocks_k1 (s120 : Nat × Value) (w121 : World) (J122 : (Nat × Value) → World → Prop) (m123 : (Nat × Value) → World → Nat) (x155 : Value) (x156 : Int) (w185 : World) : Prop :=
  I64 (x156 + 1) ∧ ∃ s186 : (Nat × Value), (Value.int .i64 (x156 + 1)) = (Value.int .i64 (s186.1 : Int)) ∧ x155 = s186.2 ∧ (J122 s186 w185) ∧ (m123 s186 w185) < (m123 s120 w121)
abbrev spec_MeetLocks_k2 (x100 : Value) (x101 : Value) (x112 : Int) (s120 : Nat × Value) (w121 : World) (J122 : (Nat × Value) → World → Prop) (m123 : (Nat × Value) → World → Nat) (x127 : Value) (x128 : Int) (w135 : World) : Prop :=
  IxV 1 x101 x112 (fun ad136 => ∃ u137 : Value, LdV w135 (Value.pointer (some ad136)) u137 ∧ IxV 1 x100 x112 (fun ad138 => ∃ u139 : Value, LdV w135 (Value.pointer (some ad138)) u139 ∧ IxV 1 u139 x128 (fun ad140 => ∃ n141 : Int, LdV w135 (Value.pointer (some ad140)) (Value.int .i64 n141) ∧ ∃ b145 : Bool, (∀ w142 : World, Ext w135 w142 → Calls Try.prog 79 #[u137, (Value.int .i64 n141)] w142 (fun e143 w144 => e143 = .returned (Value.bool b145) ∧ Ext w142 w144)) ∧ ∀ w146 : World, Ext w135 w146 → ((b145 = true → IxV 1 x100 x112 (fun ad147 => ∃ u148 : Value, LdV w146 (Value.pointer (some ad147)) u148 ∧ IxV 1 u148 x128 (fun ad149 => ∃ n150 : Int, LdV w146 (Value.pointer (some ad149)) (Value.int .i64 n150) ∧ ∀ (v151 : Value) (w152 : World), Own w146.heap.size w152 2 v151 [(Value.int .i64 n150)] → Ext w146 w152 → AppV w152 2 x127 v151 (fun v153 w154 => (spec_MeetLocks_k1 s120 w121 J122 m123 v153 x128 w154))))) ∧ (b145 = false → (spec_MeetLocks_k1 s120 w121 J122 m123 x127 x128 w146))))))
abbrev spec_MeetLocks_k3 (s106 : Nat × Value) (w107 : World) (J108 : (Nat × Value) → World → Prop) (m109 : (Nat × Value) → World → Nat) (x225 : Value) (x226 : Int) (w245 : World) : Prop :=
  I64 (x226 + 1) ∧ ∃ s246 : (Nat × Value), (Value.int .i64 (x226 + 1)) = (Value.int .i64 (s246.1 : Int)) ∧ x225 = s246.2 ∧ (Value.slice none 0 0) = (Value.slice none 0 0) ∧ (J108 s246 w245) ∧ (m109 s246 w245) < (m109 s106 w107)
abbrev spec_MeetLocks_k4 (s106 : Nat × Value) (w107 : World) (J108 : (Nat × Value) → World → Prop) (m109 : (Nat × Value) → World → Nat) (x204 : Value) (x205 : Int) (x206 : Value) (w220 : World) : Prop :=
  oneC x206 (∀ (v221 : Value) (w222 : World), Own w220.heap.size w222 36 v221 [x206] → Ext w220 w222 → AppV w222 36 x204 v221 (fun v223 w224 => (spec_MeetLocks_k3 s106 w107 J108 m109 v223 x205 w224)))
abbrev spec_MeetLocks_k5 (w : World) (Post : Value → World → Prop) (s106 : Nat × Value) (w107 : World) (J108 : (Nat × Value) → World → Prop) (m109 : (Nat × Value) → World → Nat) (x187 : Value) (x188 : Int) (x189 : Value) (w201 : World) : Prop :=
  LenV x189 (fun n202 => (((n202 = (0 : Int)) → ∀ w203 : World, BxS w.heap.size 28 w201 w203 → Post (Value.tuple #[(Value.agg #[(Value.slice none 0 0)]), (Value.int .i64 4)]) w203) ∧ (¬ (n202 = (0 : Int)) → (spec_MeetLocks_k4 s106 w107 J108 m109 x187 x188 x189 w201))))
abbrev spec_MeetLocks_k6 (w : World) (Post : Value → World → Prop) (x100 : Value) (x101 : Value) (s106 : Nat × Value) (w107 : World) (J108 : (Nat × Value) → World → Prop) (m109 : (Nat × Value) → World → Nat) (x111 : Value) (x112 : Int) (w116 : World) : Prop :=
  ∀ (v117 : Value) (w118 : World), Own w116.heap.size w118 2 v117 [] → Ext w116 w118 → (∃ (J122 : (Nat × Value) → World → Prop) (m123 : (Nat × Value) → World → Nat), ((∃ s119 : (Nat × Value), (Value.int .i64 0) = (Value.int .i64 (s119.1 : Int)) ∧ v117 = s119.2 ∧ (J122 s119 w118)) ∧ ∀ (s120 : (Nat × Value)) (w121 : World), (J122 s120 w121) → IxV 1 x100 x112 (fun ad124 => ∃ u125 : Value, LdV w121 (Value.pointer (some ad124)) u125 ∧ LenV u125 (fun n126 => ((((s120.1 : Int) < n126) → (spec_MeetLocks_k2 x100 x101 x112 s120 w121 J122 m123 s120.2 (s120.1 : Int) w121)) ∧ (¬ ((s120.1 : Int) < n126) → (spec_MeetLocks_k5 w Post s106 w107 J108 m109 x111 x112 s120.2 w121)))))))
abbrev spec_MeetLocks_k7 (w : World) (Post : Value → World → Prop) (x254 : Value) (w284 : World) : Prop :=
  oneC x254 (oneC x254 (∀ w285 : World, BxS w.heap.size 28 w284 w285 → Post (Value.tuple #[(Value.agg #[x254]), (Value.int .i64 0)]) w285))
abbrev spec_MeetLocks_k8 (w : World) (Post : Value → World → Prop) (x100 : Value) (x101 : Value) (w102 : World) : Prop :=
  ∀ (v103 : Value) (w104 : World), Own w102.heap.size w104 36 v103 [] → Ext w102 w104 → (∃ (J108 : (Nat × Value) → World → Prop) (m109 : (Nat × Value) → World → Nat), ((∃ s105 : (Nat × Value), (Value.int .i64 0) = (Value.int .i64 (s105.1 : Int)) ∧ v103 = s105.2 ∧ (Value.slice none 0 0) = (Value.slice none 0 0) ∧ (J108 s105 w104)) ∧ ∀ (s106 : (Nat × Value)) (w107 : World), (J108 s106 w107) → LenV x100 (fun n110 => ((((s106.1 : Int) < n110) → (spec_MeetLocks_k6 w Post x100 x101 s106 w107 J108 m109 s106.2 (s106.1 : Int) w107)) ∧ (¬ ((s106.1 : Int) < n110) → (spec_MeetLocks_k7 w Post s106.2 w107))))))
abbrev spec_MeetLocks_k9 (w : World) (Post : Value → World → Prop) (x60 : Bool) (x66 : Value) (x67 : Value) (w68 : World) : Prop :=
  ((x60 = true → ∀ w69 : World, BxS w.heap.size 28 w68 w69 → Post (Value.tuple #[(Value.agg #[(Value.slice none 0 0)]), (Value.int .i64 1)]) w69) ∧ (x60 = false → (spec_MeetLocks_k8 w Post x66 x67 w68)))
def spec_MeetLocks_vc (m_Chambers : Int) (m_Depths : Int) (m_Step : Int) (m_Same : Int) (m_Least : Int) (a_Sets : Value) (b_Sets : Value) (w : World) (Post : Value → World → Prop) : Prop :=
  ∀ w1 : World, Ext w w1 → oneC a_Sets (∀ w2 : World, Ext w1 w2 → oneC b_Sets (∀ w3 : World, Ext w2 w3 → ∀ w4 : World, Ext w3 w4 → Calls Try.prog 69 #[(Value.agg #[(Value.int .i64 m_Chambers), (Value.int .i64 m_Depths), (Value.int .i64 m_Step), (Value.int .i64 m_Same), (Value.int .i64 m_Least)]), (Value.agg #[a_Sets])] w4 (fun e5 w6 => ∃ b7 : Bool, e5 = .returned (Value.bool b7) ∧ Keeps w.heap.size [25, 28, 28, 28] w4 w6 ∧ (((!b7) = true → (spec_MeetLocks_k0 w Post w6)) ∧ ((!b7) = false → Calls Try.prog 69 #[(Value.agg #[(Value.int .i64 m_Chambers), (Value.int .i64 m_Depths), (Value.int .i64 m_Step), (Value.int .i64 m_Same), (Value.int .i64 m_Least)]), (Value.agg #[b_Sets])] w6 (fun e33 w34 => ∃ b35 : Bool, e33 = .returned (Value.bool b35) ∧ Keeps w.heap.size [25, 28, 28, 28] w6 w34 ∧ (spec_MeetLocks_k9 w Post (!b35) a_Sets b_Sets w34)))))))
theorem spec_MeetLocks_eq (m_Chambers : Int) (m_Depths : Int) (m_Step : Int) (m_Same : Int) (m_Least : Int) (a_Sets : Value) (b_Sets : Value) (w : World) (Post : Value → World → Prop) : denF Try.prog [] (spec_MeetLocks_A m_Chambers m_Depths m_Step m_Same m_Least a_Sets b_Sets w) 13 [(Value.agg #[(Value.int .i64 m_Chambers), (Value.int .i64 m_Depths), (Value.int .i64 m_Step), (Value.int .i64 m_Same), (Value.int .i64 m_Least)]), (Value.agg #[a_Sets]), (Value.agg #[b_Sets])] w Post = spec_MeetLocks_vc m_Chambers m_Depths m_Step m_Same m_Least a_Sets b_Sets w Post := by kernel_rfl
set_option maxRecDepth 100000 in
theorem spec_MeetLocks_calls (m_Chambers : Int) (m_Depths : Int) (m_Step : Int) (m_Same : Int) (m_Least : Int) (a_Sets : Value) (b_Sets : Value) (w : World) (Post : Value → World → Prop) (hvc : spec_MeetLocks_vc m_Chambers m_Depths m_Step m_Same m_Least a_Sets b_Sets w Post) : Ret Try.prog 13 #[(Value.agg #[(Value.int .i64 m_Chambers), (Value.int .i64 m_Depths), (Value.int .i64 m_Step), (Value.int .i64 m_Same), (Value.int .i64 m_Least)]), (Value.agg #[a_Sets]), (Value.agg #[b_Sets])] w Post :=
  Ret.of (denF_sound mixed (Eq.mpr (spec_MeetLocks_eq m_Chambers m_Depths m_Step m_Same m_Least a_Sets b_Sets w Post) hvc))

theorem spec_MeetLocks_ret (M : Mk) (a b : Value) (za zb : List (List Int)) (w : World) (ha : RR w a za) (hb : RR w b zb) : LkR 13 #[M.v, lkV a, lkV b] w (meetR M za zb) (meetCode M za zb) :=
  spec_MeetLocks_calls M.c M.d M.s M.m M.l a b w _ (by
    unfold spec_MeetLocks_vc
    intro w1 h1
    refine ha.oneC fun w2 h2 => hb.oneC fun w3 h3 w4 h4 => ?_
    have k4 := ((h1.trans h2).trans h3).trans h4
    refine (spec_IsLock_val M.c M.d M.s M.m M.l a za w4 (ha.ext k4)).call fun w5 h5 => ⟨_, rfl, h5.keeps, fun hno w6 b6 => ?_, fun hya => ?_⟩
    · obtain ⟨e1, e2⟩ := meetR_no (M := M) (zb := zb) fun hh => nd_t hno hh.1
      rw [e1, e2]
      exact ⟨_, rfl, OwnR.nil_ _ _, (k4.trans h5).bxs b6⟩
    have hA := nd_f hya
    have k5 := k4.trans h5
    refine (spec_IsLock_val M.c M.d M.s M.m M.l b zb w5 (hb.ext k5)).call fun w6 h6 => ⟨_, rfl, h6.keeps, fun hno w7 b7 => ?_, fun hyb => ?_⟩
    · obtain ⟨e1, e2⟩ := meetR_no (M := M) (za := za) fun hh => nd_t hno hh.2
      rw [e1, e2]
      exact ⟨_, rfl, OwnR.nil_ _ _, (k5.trans h6).bxs b7⟩
    have hB := nd_f hyb
    have k6 := k5.trans h6
    have hc := hA.1.1
    have hd := hA.1.2.1
    have la := hA.2.1
    have lb := hB.2.1
    obtain ⟨_, _, small⟩ := lk_small hA
    intro v w7 o7 h7
    have k7 := k6.trans h7
    refine ⟨fun s W => s.1 ≤ za.length ∧ Ext w W ∧ OwnR w.heap.size W s.2 (rowsOf (pM za zb) M.d s.1) ∧ ∀ i, i < s.1 → filt (pM za zb i) M.d.toNat ≠ [], fun s _ => za.length - s.1, ⟨(0, v), rfl, rfl, rfl, Nat.zero_le _, k7, OwnR.new o7 k6.size, fun i hi => absurd hi (Nat.not_lt_zero i)⟩, ?_⟩
    rintro ⟨i, u⟩ w8 ⟨hi, k8, o8, hne⟩
    simp only at hi o8 hne
    refine (ha.ext k8).len ⟨fun hlt => ?_, fun hge => ?_⟩
    · have hia : i < za.length := by simp only at hlt; omega
      have hib : i < zb.length := by omega
      have hset : za[i].filter (fun x => decide (x ∈ zb[i])) = filt (pM za zb i) M.d.toNat := by
        rw [filter_set hA.2.2 hia]
        congr 1
        funext x
        unfold pM
        rw [al_get hib]
      intro r w9 o9 h9
      have k9 := k8.trans h9
      refine ⟨fun s W => s.1 ≤ za[i].length ∧ Ext w8 W ∧ Own w8.heap.size W 2 s.2 (ints ((za[i].take s.1).filter fun x => decide (x ∈ zb[i]))), fun s _ => za[i].length - s.1, ⟨(0, r), rfl, rfl, Nat.zero_le _, h9, o9⟩, ?_⟩
      rintro ⟨x, t⟩ w10 ⟨hx, h10, o10⟩
      simp only at hx o10
      have k10 := k8.trans h10
      have z100 := (small _ (List.getElem_mem hia)).2.1
      refine (ha.ext k10).get i rfl hia fun p hp => hp.len ⟨fun hlt => ?_, fun hge => ?_⟩
      · have hxl : x < za[i].length := by simp only at hlt; omega
        refine (hb.ext k10).get i rfl hib fun q hq => (ha.ext k10).get i rfl hia fun p2 hp2 => hp2.get x rfl hxl ⟨decide (za[i][x] ∈ zb[i]), fun W hW => (spec_l01Has_val q _ zb[i] W (hq.ext hW)).calls, fun w11 h11 => ⟨fun hy => ?_, fun hn => ?_⟩⟩
        · refine (ha.ext (k10.trans h11)).get i rfl hia fun p3 hp3 => hp3.get x rfl hxl fun r2 w12 o12 h12 => ?_
          have x12 := h11.trans h12
          refine (o10.ext x12).app1 o12 rfl (by have := List.length_filter_le (fun x => decide (x ∈ zb[i])) (za[i].take x); simp at this ⊢; omega) ((h10.trans x12).size) fun t' w13 o13 g13 _ => ⟨by unfold I64; simp only; omega, (x + 1, t'), rfl, rfl, ⟨hxl, (h10.trans x12).grown (o10.ext x12) (Nat.le_refl _) g13, ?_⟩, by simp only; omega⟩
          simp only
          rw [take_snoc za[i] x hxl, List.filter_append, ints_append]
          have e : [za[i][x]].filter (fun x => decide (x ∈ zb[i])) = [za[i][x]] := by simp [hy]
          rw [e]
          exact o13
        · refine ⟨by unfold I64; simp only; omega, (x + 1, t), rfl, rfl, ⟨hxl, h10.trans h11, ?_⟩, by simp only; omega⟩
          simp only
          rw [take_snoc za[i] x hxl, List.filter_append]
          have e : [za[i][x]].filter (fun x => decide (x ∈ zb[i])) = [] := by simp [hn]
          rw [e, List.append_nil]
          exact o10.ext h11
      · have hxe : x = za[i].length := by simp only at hge; omega
        subst hxe
        rw [List.take_of_length_le (Nat.le_refl _), hset] at o10
        refine o10.rd.len ?_
        rw [ints_length]
        refine ⟨fun h0 w11 b11 => ?_, fun h0 => ?_⟩
        · obtain ⟨e1, e2⟩ := meetR_none (M := M) ⟨hA, hB⟩ fun hm => hm i (by omega) (List.eq_nil_of_length_eq_zero (by omega))
          rw [e1, e2]
          exact ⟨_, rfl, OwnR.nil_ _ _, k10.bxs b11⟩
        · refine o10.rd.oneC fun r2 w11 o11 h11 => ?_
          refine o8.push o10 h10 o11 h11 k8.size (by rw [rowsOf_length]; omega) fun v' w12 o12 hx12 => ⟨by unfold I64; simp only; omega, (i + 1, v'), rfl, rfl, rfl, ⟨hia, hx12 w (Nat.le_refl _) (k10.trans h11), ?_, fun j hj => ?_⟩, by simp only; omega⟩
          · simp only
            rw [rowsOf_succ]
            exact o12
          · simp only at hj
            rcases Nat.lt_or_ge j i with h | h
            · exact hne j h
            · have : j = i := by omega
              subst this
              intro e
              rw [e] at h0
              exact h0 rfl
    · have hie : i = M.c.toNat := by simp only at hge; omega
      subst hie
      obtain ⟨e1, e2⟩ := meetR_yes (M := M) ⟨hA, hB⟩ hne
      rw [e1, e2]
      refine o8.rr.oneC (o8.rr.oneC fun w9 b9 => ⟨u, rfl, o8.bxs b9 (by decide) (by decide), k8.bxs b9⟩))
def impl_MeetLocks1_vc (x : Bool) (y : Bool) (w : World) (Post : Value → World → Prop) : Prop :=
  ((x = true → Post (Value.bool y) w) ∧ (x = false → Post (Value.bool false) w))
theorem impl_MeetLocks1_eq (x : Bool) (y : Bool) (w : World) (Post : Value → World → Prop) : denF Try.prog [] noAnn 77 [(Value.bool x), (Value.bool y)] w Post = impl_MeetLocks1_vc x y w Post := by kernel_rfl
set_option maxRecDepth 100000 in
theorem impl_MeetLocks1_calls (x : Bool) (y : Bool) (w : World) (Post : Value → World → Prop) (hvc : impl_MeetLocks1_vc x y w Post) : Ret Try.prog 77 #[(Value.bool x), (Value.bool y)] w Post :=
  Ret.of (denF_sound mixed (Eq.mpr (impl_MeetLocks1_eq x y w Post) hvc))

theorem impl_MeetLocks1_val (x y : Bool) (w : World) : Val Try.prog 77 #[.bool x, .bool y] w (.bool (x && y)) :=
  Ret.val (impl_MeetLocks1_calls x y w _ (by
    unfold impl_MeetLocks1_vc
    exact ⟨fun h => ⟨by rw [h]; rfl, .refl w⟩, fun h => ⟨by rw [h]; rfl, .refl w⟩⟩))
def impl_combinepM_A (m_Chambers : Int) (m_Depths : Int) (m_Step : Int) (m_Same : Int) (m_Least : Int) (a_Sets : Value) (b_Sets : Value) (w : World) : Nat → Ann := fun κ => match κ with
  | 0 => { σ := Nat × Value, sli := [16], slc := fun s => [SV.v (Value.int .i64 (s.1 : Int))], bxi := [4], bxc := fun s => [[s.2]], inv := fun s W => True, μ := fun s W => 0, free := true }
  | 1 => { σ := Nat × Value, sli := [22, 11], slc := fun s => [SV.v (Value.int .i64 (s.1 : Int)), SV.v s.2], bxi := [], bxc := fun s => [], inv := fun s W => True, μ := fun s W => 0, free := true }
  | _ => { σ := Unit, sli := [], slc := fun _ => [], bxi := [], bxc := fun _ => [], inv := fun _ _ => False, μ := fun _ _ => 0 }
abbrev impl_combinepM_k0 (s18 : Nat × Value) (w19 : World) (J20 : (Nat × Value) → World → Prop) (m21 : (Nat × Value) → World → Nat) (x46 : Value) (x48 : Int) (w67 : World) : Prop :=
  I64 (x48 + 1) ∧ ∃ s68 : (Nat × Value), (Value.int .i64 (x48 + 1)) = (Value.int .i64 (s68.1 : Int)) ∧ x46 = s68.2 ∧ (J20 s68 w67) ∧ (m21 s68 w67) < (m21 s18 w19)
abbrev impl_combinepM_k1 (a_Sets : Value) (b_Sets : Value) (x12 : Int) (s18 : Nat × Value) (w19 : World) (J20 : (Nat × Value) → World → Prop) (m21 : (Nat × Value) → World → Nat) (x22 : Value) (x23 : Int) (w24 : World) : Prop :=
  IxV 1 a_Sets x12 (fun ad25 => ∃ u26 : Value, LdV w24 (Value.pointer (some ad25)) u26 ∧ ∃ b30 : Bool, (∀ w27 : World, Ext w24 w27 → Calls Try.prog 133 #[u26, (Value.int .i64 x23)] w27 (fun e28 w29 => e28 = .returned (Value.bool b30) ∧ Ext w27 w29)) ∧ IxV 1 b_Sets x12 (fun ad31 => ∃ u32 : Value, LdV w24 (Value.pointer (some ad31)) u32 ∧ ∃ b36 : Bool, (∀ w33 : World, Ext w24 w33 → Calls Try.prog 133 #[u32, (Value.int .i64 x23)] w33 (fun e34 w35 => e34 = .returned (Value.bool b36) ∧ Ext w33 w35)) ∧ ∃ b40 : Bool, (∀ w37 : World, Ext w24 w37 → Calls Try.prog 77 #[(Value.bool b30), (Value.bool b36)] w37 (fun e38 w39 => e38 = .returned (Value.bool b40) ∧ Ext w37 w39)) ∧ ∀ w41 : World, Ext w24 w41 → ((b40 = true → ∀ (v42 : Value) (w43 : World), Own w41.heap.size w43 2 v42 [(Value.int .i64 x23)] → Ext w41 w43 → AppV w43 2 x22 v42 (fun v44 w45 => (impl_combinepM_k0 s18 w19 J20 m21 v44 x23 w45))) ∧ (b40 = false → (impl_combinepM_k0 s18 w19 J20 m21 x22 x23 w41)))))
abbrev impl_combinepM_k2 (s8 : Nat × Value) (w9 : World) (J10 : (Nat × Value) → World → Prop) (m11 : (Nat × Value) → World → Nat) (x85 : Int) (x94 : Value) (w95 : World) : Prop :=
  I64 (x85 + 1) ∧ ∃ s96 : (Nat × Value), (Value.int .i64 (x85 + 1)) = (Value.int .i64 (s96.1 : Int)) ∧ x94 = s96.2 ∧ (J10 s96 w95) ∧ (m11 s96 w95) < (m11 s8 w9)
abbrev impl_combinepM_k3 (w : World) (s8 : Nat × Value) (w9 : World) (J10 : (Nat × Value) → World → Prop) (m11 : (Nat × Value) → World → Nat) (x70 : Value) (x71 : Int) (x76 : Value) (w77 : World) : Prop :=
  oneC x70 (∀ (v78 : Value) (w79 : World), Own w77.heap.size w79 36 v78 [x70] → Ext w77 w79 → AppV w79 36 x76 v78 (fun v80 w81 => oneC v80 (∀ w82 : World, BxS w.heap.size 28 w81 w82 → (impl_combinepM_k2 s8 w9 J10 m11 x71 v80 w82))))
abbrev impl_combinepM_k4 (m_Depths : Int) (a_Sets : Value) (b_Sets : Value) (w : World) (s8 : Nat × Value) (w9 : World) (J10 : (Nat × Value) → World → Prop) (m11 : (Nat × Value) → World → Nat) (x12 : Int) (x13 : Value) (w14 : World) : Prop :=
  ∀ (v15 : Value) (w16 : World), Own w14.heap.size w16 2 v15 [] → Ext w14 w16 → (∃ (J20 : (Nat × Value) → World → Prop) (m21 : (Nat × Value) → World → Nat), ((∃ s17 : (Nat × Value), (Value.int .i64 0) = (Value.int .i64 (s17.1 : Int)) ∧ v15 = s17.2 ∧ (J20 s17 w16)) ∧ ∀ (s18 : (Nat × Value)) (w19 : World), (J20 s18 w19) → ((((s18.1 : Int) < m_Depths) → (impl_combinepM_k1 a_Sets b_Sets x12 s18 w19 J20 m21 s18.2 (s18.1 : Int) w19)) ∧ (¬ ((s18.1 : Int) < m_Depths) → (impl_combinepM_k3 w s8 w9 J10 m11 s18.2 x12 x13 w19)))))
abbrev impl_combinepM_k5 (w : World) (Post : Value → World → Prop) (x113 : Value) (w114 : World) : Prop :=
  oneC x113 (∀ w115 : World, BxS w.heap.size 28 w114 w115 → Post (Value.agg #[x113]) w115)
def impl_combinepM_vc (m_Chambers : Int) (m_Depths : Int) (m_Step : Int) (m_Same : Int) (m_Least : Int) (a_Sets : Value) (b_Sets : Value) (w : World) (Post : Value → World → Prop) : Prop :=
  ∀ w1 : World, Ext w w1 → oneC a_Sets (∀ w2 : World, Ext w1 w2 → oneC b_Sets (∀ w3 : World, Ext w2 w3 → ∀ w4 : World, Ext w3 w4 → ∀ w5 : World, Ext w4 w5 → ∀ w6 : World, BxS w.heap.size 28 w5 w6 → (∃ (J10 : (Nat × Value) → World → Prop) (m11 : (Nat × Value) → World → Nat), ((∃ s7 : (Nat × Value), (Value.int .i64 0) = (Value.int .i64 (s7.1 : Int)) ∧ (Value.slice none 0 0) = s7.2 ∧ (J10 s7 w6)) ∧ ∀ (s8 : (Nat × Value)) (w9 : World), (J10 s8 w9) → ((((s8.1 : Int) < m_Chambers) → (impl_combinepM_k4 m_Depths a_Sets b_Sets w s8 w9 J10 m11 (s8.1 : Int) s8.2 w9)) ∧ (¬ ((s8.1 : Int) < m_Chambers) → (impl_combinepM_k5 w Post s8.2 w9)))))))
theorem impl_combinepM_eq (m_Chambers : Int) (m_Depths : Int) (m_Step : Int) (m_Same : Int) (m_Least : Int) (a_Sets : Value) (b_Sets : Value) (w : World) (Post : Value → World → Prop) : denF Try.prog [] (impl_combinepM_A m_Chambers m_Depths m_Step m_Same m_Least a_Sets b_Sets w) 76 [(Value.agg #[(Value.int .i64 m_Chambers), (Value.int .i64 m_Depths), (Value.int .i64 m_Step), (Value.int .i64 m_Same), (Value.int .i64 m_Least)]), (Value.agg #[a_Sets]), (Value.agg #[b_Sets]), (Value.func (.func 77) #[] #[])] w Post = impl_combinepM_vc m_Chambers m_Depths m_Step m_Same m_Least a_Sets b_Sets w Post := by kernel_rfl
set_option maxRecDepth 100000 in
theorem impl_combinepM_calls (m_Chambers : Int) (m_Depths : Int) (m_Step : Int) (m_Same : Int) (m_Least : Int) (a_Sets : Value) (b_Sets : Value) (w : World) (Post : Value → World → Prop) (hvc : impl_combinepM_vc m_Chambers m_Depths m_Step m_Same m_Least a_Sets b_Sets w Post) : Ret Try.prog 76 #[(Value.agg #[(Value.int .i64 m_Chambers), (Value.int .i64 m_Depths), (Value.int .i64 m_Step), (Value.int .i64 m_Same), (Value.int .i64 m_Least)]), (Value.agg #[a_Sets]), (Value.agg #[b_Sets]), (Value.func (.func 77) #[] #[])] w Post :=
  Ret.of (denF_sound mixed (Eq.mpr (impl_combinepM_eq m_Chambers m_Depths m_Step m_Same m_Least a_Sets b_Sets w Post) hvc))

theorem impl_combinepM_ret (M : Mk) (a b : Value) (za zb : List (List Int)) (w : World) (ha : RR w a za) (hb : RR w b zb) (hk : Lk2 M za zb) : Ret Try.prog 76 #[M.v, lkV a, lkV b, .func (.func 77) #[] #[]] w fun r w' => ∃ u, r = lkV u ∧ OwnR w.heap.size w' u (rowsOf (pM za zb) M.d M.c.toNat) ∧ Ext w w' :=
  impl_combinepM_calls M.c M.d M.s M.m M.l a b w _ (by
    unfold impl_combinepM_vc
    obtain ⟨hA, hB⟩ := hk
    have hc := hA.1.1
    have hd := hA.1.2.1
    have la := hA.2.1
    have lb := hB.2.1
    intro w1 h1
    refine ha.oneC fun w2 h2 => hb.oneC fun w3 h3 w4 h4 w5 h5 w6 b6 => ?_
    have k6 := ((((h1.trans h2).trans h3).trans h4).trans h5).bxs b6
    refine ⟨fun s W => s.1 ≤ M.c.toNat ∧ Ext w W ∧ OwnR w.heap.size W s.2 (rowsOf (pM za zb) M.d s.1), fun s _ => M.c.toNat - s.1, ⟨(0, .slice none 0 0), rfl, rfl, Nat.zero_le _, k6, OwnR.nil_ _ _⟩, ?_⟩
    rintro ⟨i, u⟩ w8 ⟨hi, k8, o8⟩
    simp only at hi o8
    refine ⟨fun hlt => ?_, fun hge => ?_⟩
    · have hia : i < za.length := by simp only at hlt; omega
      have hib : i < zb.length := by omega
      intro r w9 o9 h9
      have k9 := k8.trans h9
      refine ⟨fun s W => s.1 ≤ M.d.toNat ∧ Ext w8 W ∧ Own w8.heap.size W 2 s.2 (ints (filt (pM za zb i) s.1)), fun s _ => M.d.toNat - s.1, ⟨(0, r), rfl, rfl, Nat.zero_le _, h9, o9⟩, ?_⟩
      rintro ⟨x, t⟩ w10 ⟨hx, h10, o10⟩
      simp only at hx o10
      have k10 := k8.trans h10
      have next : ∀ (t' : Value) (W : World), Ext w8 W → Own w8.heap.size W 2 t' (ints (filt (pM za zb i) (x + 1))) → x < M.d.toNat →
          I64 ((x : Int) + 1) ∧ ∃ s' : Nat × Value, Value.int .i64 ((x : Int) + 1) = Value.int .i64 (s'.1 : Int) ∧ t' = s'.2 ∧ (s'.1 ≤ M.d.toNat ∧ Ext w8 W ∧ Own w8.heap.size W 2 s'.2 (ints (filt (pM za zb i) s'.1))) ∧ M.d.toNat - s'.1 < M.d.toNat - x :=
        fun t' W hW hO hlt => ⟨by unfold I64; omega, (x + 1, t'), rfl, rfl, ⟨hlt, hW, hO⟩, by simp only; omega⟩
      refine ⟨fun hlt => ?_, fun hge => ?_⟩
      · have hxd : x < M.d.toNat := by simp only at hlt; omega
        refine (ha.ext k10).get i rfl hia fun p hp => ⟨decide ((x : Int) ∈ za[i]), fun W hW => (slices_Contains_val p x za[i] W (hp.ext hW)).calls, ?_⟩
        refine (hb.ext k10).get i rfl hib fun q hq => ⟨decide ((x : Int) ∈ zb[i]), fun W hW => (slices_Contains_val q x zb[i] W (hq.ext hW)).calls, pM za zb i x, fun W hW => ?_, fun w11 h11 => ⟨fun hy r2 w12 o12 h12 => ?_, fun hn => ?_⟩⟩
        · have := impl_MeetLocks1_val (decide ((x : Int) ∈ za[i])) (decide ((x : Int) ∈ zb[i])) W
          rw [← al_get hia, ← al_get hib] at this
          rw [← al_get hia, ← al_get hib]
          exact this.calls
        · have x12 := h11.trans h12
          have hl := filt_len (pM za zb i) x
          refine (o10.ext x12).app1 o12 rfl (by simp; omega) ((h10.trans x12).size) fun t' w13 o13 g13 _ => next t' w13 ((h10.trans x12).grown (o10.ext x12) (Nat.le_refl _) g13) ?_ hxd
          rw [filt_yes hy, ints_append]
          exact o13
        · refine next t w11 (h10.trans h11) ?_ hxd
          rw [filt_no hn]
          exact o10.ext h11
      · have hxe : x = M.d.toNat := by simp only at hge; omega
        subst hxe
        refine o10.rd.oneC fun r2 w11 o11 h11 => ?_
        refine o8.push o10 h10 o11 h11 k8.size (by rw [rowsOf_length]; omega) fun v' w12 o12 hx12 => o12.rr.oneC fun w13 b13 => ⟨by unfold I64; simp only; omega, (i + 1, v'), rfl, rfl, ⟨by simp only at hlt; omega, (hx12 w (Nat.le_refl _) (k10.trans h11)).bxs b13, ?_⟩, by simp only at hlt; simp only; omega⟩
        simp only
        rw [rowsOf_succ]
        exact o12.bxs b13 (by decide) (by decide)
    · have hie : i = M.c.toNat := by simp only at hge; omega
      subst hie
      refine o8.rr.oneC fun w9 b9 => ⟨u, rfl, o8.bxs b9 (by decide) (by decide), k8.bxs b9⟩)
abbrev impl_MeetLocks_k0 (w : World) (Post : Value → World → Prop) (x89 : Value) (w90 : World) : Prop :=
  oneC x89 (∀ w91 : World, BxS w.heap.size 28 w90 w91 → Post (Value.tuple #[(Value.agg #[x89]), (Value.int .i64 0)]) w91)
abbrev impl_MeetLocks_k1 (w : World) (Post : Value → World → Prop) (x30 : Int) (x31 : Int) (x32 : Int) (x33 : Int) (x34 : Int) (x35 : Value) (x36 : Value) (w37 : World) : Prop :=
  Calls Try.prog 76 #[(Value.agg #[(Value.int .i64 x30), (Value.int .i64 x31), (Value.int .i64 x32), (Value.int .i64 x33), (Value.int .i64 x34)]), (Value.agg #[x35]), (Value.agg #[x36]), (Value.func (.func 77) #[] #[])] w37 (fun e38 w39 => ∃ u40 : Value, e38 = .returned (Value.agg #[u40]) ∧ Keeps w.heap.size [25, 28, 28, 28] w37 w39 ∧ ∀ w41 : World, Ext w39 w41 → oneC u40 (∀ w42 : World, BxS w.heap.size 28 w41 w42 → Calls Try.prog 78 #[(Value.agg #[(Value.int .i64 x30), (Value.int .i64 x31), (Value.int .i64 x32), (Value.int .i64 x33), (Value.int .i64 x34)]), (Value.agg #[u40])] w42 (fun e43 w44 => ∃ b45 : Bool, e43 = .returned (Value.bool b45) ∧ Keeps w.heap.size [25, 28, 28, 28, 28] w42 w44 ∧ (((!b45) = true → ∀ w46 : World, BxS w.heap.size 28 w44 w46 → Post (Value.tuple #[(Value.agg #[(Value.slice none 0 0)]), (Value.int .i64 4)]) w46) ∧ ((!b45) = false → (impl_MeetLocks_k0 w Post u40 w44))))))
def impl_MeetLocks_vc (m_Chambers : Int) (m_Depths : Int) (m_Step : Int) (m_Same : Int) (m_Least : Int) (a_Sets : Value) (b_Sets : Value) (w : World) (Post : Value → World → Prop) : Prop :=
  ∀ w1 : World, Ext w w1 → oneC a_Sets (∀ w2 : World, Ext w1 w2 → oneC b_Sets (∀ w3 : World, Ext w2 w3 → ∀ w4 : World, Ext w3 w4 → oneC a_Sets (oneC b_Sets (∀ (v5 : Value) (w6 : World), Own w4.heap.size w6 28 v5 [a_Sets, b_Sets] → Ext w4 w6 → Calls Try.prog 75 #[(Value.agg #[(Value.int .i64 m_Chambers), (Value.int .i64 m_Depths), (Value.int .i64 m_Step), (Value.int .i64 m_Same), (Value.int .i64 m_Least)]), v5] w6 (fun e7 w8 => ∃ n9 : Int, e7 = .returned (Value.int .i64 n9) ∧ Keeps w.heap.size [25, 28, 28, 28] w6 w8 ∧ (((n9 ≠ (0 : Int)) → ∀ w10 : World, BxS w.heap.size 28 w8 w10 → Post (Value.tuple #[(Value.agg #[(Value.slice none 0 0)]), (Value.int .i64 n9)]) w10) ∧ (¬ (n9 ≠ (0 : Int)) → (impl_MeetLocks_k1 w Post m_Chambers m_Depths m_Step m_Same m_Least a_Sets b_Sets w8))))))))
theorem impl_MeetLocks_eq (m_Chambers : Int) (m_Depths : Int) (m_Step : Int) (m_Same : Int) (m_Least : Int) (a_Sets : Value) (b_Sets : Value) (w : World) (Post : Value → World → Prop) : denF Try.prog [] noAnn 12 [(Value.agg #[(Value.int .i64 m_Chambers), (Value.int .i64 m_Depths), (Value.int .i64 m_Step), (Value.int .i64 m_Same), (Value.int .i64 m_Least)]), (Value.agg #[a_Sets]), (Value.agg #[b_Sets])] w Post = impl_MeetLocks_vc m_Chambers m_Depths m_Step m_Same m_Least a_Sets b_Sets w Post := by kernel_rfl
set_option maxRecDepth 100000 in
theorem impl_MeetLocks_calls (m_Chambers : Int) (m_Depths : Int) (m_Step : Int) (m_Same : Int) (m_Least : Int) (a_Sets : Value) (b_Sets : Value) (w : World) (Post : Value → World → Prop) (hvc : impl_MeetLocks_vc m_Chambers m_Depths m_Step m_Same m_Least a_Sets b_Sets w Post) : Ret Try.prog 12 #[(Value.agg #[(Value.int .i64 m_Chambers), (Value.int .i64 m_Depths), (Value.int .i64 m_Step), (Value.int .i64 m_Same), (Value.int .i64 m_Least)]), (Value.agg #[a_Sets]), (Value.agg #[b_Sets])] w Post :=
  Ret.of (denF_sound mixed (Eq.mpr (impl_MeetLocks_eq m_Chambers m_Depths m_Step m_Same m_Least a_Sets b_Sets w Post) hvc))

theorem meet_isLock {M : Mk} {za zb : List (List Int)} (hA : LkOk M.c M.d M.s M.m M.l za) : (((rowsOf (pM za zb) M.d M.c.toNat).length : Int) = M.c ∧ SetsOk M.d (rowsOf (pM za zb) M.d M.c.toNat)) ↔ meetOk M za zb := by
  have hc := hA.1.1
  have hd := hA.1.2.1
  constructor
  · rintro ⟨_, hs⟩ i hi
    exact (hs _ (List.mem_map.2 ⟨i, List.mem_range.2 hi, rfl⟩)).1
  · intro h
    exact ⟨by rw [rowsOf_length]; omega, rowsOf_setsOk (by omega) h⟩
theorem impl_MeetLocks_ret (M : Mk) (a b : Value) (za zb : List (List Int)) (w : World) (ha : RR w a za) (hb : RR w b zb) : LkR 12 #[M.v, lkV a, lkV b] w (meetR M za zb) (meetCode M za zb) :=
  impl_MeetLocks_calls M.c M.d M.s M.m M.l a b w _ (by
    unfold impl_MeetLocks_vc
    intro w1 h1
    refine ha.oneC fun w2 h2 => hb.oneC fun w3 h3 w4 h4 => ha.oneC (hb.oneC fun v w5 o5 h5 => ?_)
    have k5 := (((h1.trans h2).trans h3).trans h4).trans h5
    refine (impl_locksCode_val M.c M.d M.s M.m M.l v [za, zb] w5 (RLs.two o5 (ha.ext k5) (hb.ext k5))).call fun w6 h6 => ⟨_, rfl, h6.keeps, ?_⟩
    have k6 := k5.trans h6
    by_cases hk : Lk2 M za zb
    · have e : locksR M.c M.d M.s M.m M.l [za, zb] = 0 := by unfold locksR; rw [if_pos (lk2_lks.2 hk)]
      rw [e]
      refine ⟨fun hne => absurd rfl hne, fun _ => ?_⟩
      refine (impl_combinepM_ret M a b za zb w6 (ha.ext k6) (hb.ext k6) hk).call ?_
      rintro _ w7 ⟨u, rfl, o7, h7⟩
      refine ⟨u, rfl, h7.keeps, fun w8 h8 => o7.rr.oneC fun w9 b9 => ?_⟩
      have k9 := ((k6.trans h7).trans h8).bxs b9
      have o9 := ((o7.mono k6.size).ext h8).bxs b9 (by decide) (by decide)
      refine (impl_isLock_val M.c M.d M.s M.m M.l u _ w9 o9.rr).call fun w10 h10 => ⟨_, rfl, h10.keeps, fun hno w11 b11 => ?_, fun hyes => ?_⟩
      · obtain ⟨e1, e2⟩ := meetR_none hk fun hm => nd_t hno ((meet_isLock hk.1).2 hm)
        rw [e1, e2]
        exact ⟨_, rfl, OwnR.nil_ _ _, (k9.trans h10).bxs b11⟩
      · obtain ⟨e1, e2⟩ := meetR_yes hk ((meet_isLock hk.1).1 (nd_f hyes))
        rw [e1, e2]
        exact o9.rr.oneC fun w11 b11 => ⟨u, rfl, (o9.ext h10).bxs b11 (by decide) (by decide), (k9.trans h10).bxs b11⟩
    · have e : locksR M.c M.d M.s M.m M.l [za, zb] = 1 := by unfold locksR; rw [if_neg fun h => hk (lk2_lks.1 h)]
      rw [e]
      refine ⟨fun _ w7 b7 => ?_, fun hn => absurd (by decide) hn⟩
      obtain ⟨e1, e2⟩ := meetR_no hk
      rw [e1, e2]
      exact ⟨_, rfl, OwnR.nil_ _ _, k6.bxs b7⟩)
theorem rowsOf_total {p : Nat → Int → Bool} {d : Int} (hd : d ≤ 8) {n : Nat} (hn : n ≤ 6) : total (rowsOf p d n) ≤ 48 := by
  have := total_max (zss := rowsOf p d n) (n := 8) fun z hz => by
    obtain ⟨i, hi, rfl⟩ := List.mem_map.1 hz
    have := filt_len (p i) d.toNat
    omega
  rw [rowsOf_length] at this
  omega
theorem joinR_total (M : Mk) (za zb : List (List Int)) : total (joinR M za zb) ≤ 1000000 := by
  unfold joinR
  split
  · rename_i h
    have hc := h.1.1.1
    have hd := h.1.1.2.1
    have := rowsOf_total (p := pJ za zb) (d := M.d) (by omega) (n := M.c.toNat) (by omega)
    omega
  · simp [total]
theorem meetR_total (M : Mk) (za zb : List (List Int)) : total (meetR M za zb) ≤ 1000000 := by
  unfold meetR
  split
  · rename_i h
    split
    · have hc := h.1.1.1
      have hd := h.1.1.2.1
      have := rowsOf_total (p := pM za zb) (d := M.d) (by omega) (n := M.c.toNat) (by omega)
      omega
    · simp [total]
  · simp [total]
end Go.Proofs
