/- Contracts: the program's key with a rank; the keys with a text. No condition. -/
import Derived.Test.YtjcggcefmpaieaaDoorL02e
set_option linter.unusedVariables false
namespace Go.Proofs
open Go.Sx Go.RowKit
theorem vis_congr {α : Type} {go go' : List α → α → Bool} : ∀ {l done : List α} (n : Nat), (∀ d k, d.length < n → go d k = go' d k) → done.length + l.length ≤ n → vis go done l = vis go' done l
  | [], _, _, _, _ => rfl
  | k :: l, done, n, h, hn => by
    simp only [List.length_cons] at hn
    simp only [vis]
    rw [h done k (by omega), vis_congr (l := l) (done := done ++ [k]) n h (by simp; omega)]
/-- what is left of a rank, in int64 -/
def rk (r : Int) (n : Nat) : Int := IntKind.wrap .i64 (r - n)
theorem rk_succ (r : Int) (n : Nat) : IntKind.wrap .i64 (rk r n - 1) = rk r (n + 1) := by
  unfold rk
  rw [IntKind.wrap_i64, IntKind.wrap_i64, IntKind.wrap_i64]
  omega
theorem rk_zero {r : Int} (h : I64 r) {n : Nat} (hn : n ≤ 1000000) : rk r n = 0 ↔ r = n := by
  unfold rk
  rw [IntKind.wrap_i64]
  unfold I64 at h
  omega
theorem rk_pos {r : Int} (h : I64 r) (h0 : 0 ≤ r) {n : Nat} (hn : n ≤ 1000000) : rk r n = r - n := by
  unfold rk
  rw [IntKind.wrap_i64]
  unfold I64 at h
  omega
def keyAtJ (B b0 b1 : Nat) (r : Int) : (Nat → Prop) → List (List Int) → World → Prop := fun K done w =>
  ¬ K b0 ∧ ¬ K b1 ∧ w.heap[b0]? = some (.cells #[.int .i64 (rk r done.length)] 2 (0, 0)) ∧ ∃ v, w.heap[b1]? = some (.cells #[v] 24 (0, 0)) ∧
    (∀ g, v.ownBlock = some g → ¬ K g) ∧ Own B w 2 v (ints ((if 0 ≤ r then done[r.toNat]? else none).getD [])) ∧ ((if 0 ≤ r then done[r.toNat]? else none) = none → v = .slice none 0 0) ∧ v.ownBlock ≠ some b0
/-! ### the key with a text -/
/-- byte i of a text -/
def byteAt (t : ByteArray) (i : Nat) : Int := ((t[i]?.getD 0).toNat : Int)
theorem byteAt_get {t : ByteArray} {i : Nat} (h : i < t.size) : ∃ c : UInt8, t[i]? = some c ∧ (c.toNat : Int) = byteAt t i :=
  ⟨t[i], getElem?_pos t i h, by unfold byteAt; rw [getElem?_pos t i h]; rfl⟩
theorem byteAt_range (t : ByteArray) (i : Nat) : 0 ≤ byteAt t i ∧ byteAt t i < 256 := by
  unfold byteAt
  have := (t[i]?.getD 0).toNat_lt
  omega
/-- the first n bytes as digits -/
def digs (t : ByteArray) (n : Nat) : List Int := (List.range n).map fun i => byteAt t i - 48
@[simp] theorem digs_length (t : ByteArray) (n : Nat) : (digs t n).length = n := by simp [digs]
theorem digs_succ (t : ByteArray) (n : Nat) : digs t (n + 1) = digs t n ++ [byteAt t n - 48] := by simp [digs, List.range_succ]
theorem digs_mem {t : ByteArray} {n i : Nat} (h : i < n) : byteAt t i - 48 ∈ digs t n := List.mem_map.2 ⟨i, List.mem_range.2 h, rfl⟩
def readKey (M : Mk) (t : ByteArray) : List Int := if MkOk M.c M.d M.s M.m M.l then (if IsK M (digs t t.size) then digs t t.size else []) else []
def readKeyCode (M : Mk) (t : ByteArray) : Int := if MkOk M.c M.d M.s M.m M.l then (if IsK M (digs t t.size) then 0 else 6) else 1
theorem readKey_len (M : Mk) (t : ByteArray) : (readKey M t).length ≤ 1000 := by
  unfold readKey
  split
  · rename_i hm
    split
    · rename_i hk
      have := hk.1
      have := hm.1
      omega
    · simp
  · simp
def impl_readKey_A (m_Chambers : Int) (m_Depths : Int) (m_Step : Int) (m_Same : Int) (m_Least : Int) (t : ByteArray) (w : World) : Nat → Ann := fun κ => match κ with
  | 0 => { σ := Int × Value, sli := [11, 6], slc := fun s => [SV.v (Value.int .i64 s.1), SV.v s.2], bxi := [], bxc := fun s => [], inv := fun s W => True, μ := fun s W => 0, free := true }
  | _ => { σ := Unit, sli := [], slc := fun _ => [], bxi := [], bxc := fun _ => [], inv := fun _ _ => False, μ := fun _ _ => 0 }
abbrev impl_readKey_k0 (t : ByteArray) (s5 : Int × Value) (w6 : World) (J7 : (Int × Value) → World → Prop) (m8 : (Int × Value) → World → Nat) (x9 : Value) (x10 : Int) (w11 : World) : Prop :=
  0 ≤ x10 ∧ ∃ c12 : UInt8, t[x10.toNat]? = some c12 ∧ I64 (c12.toNat : Int) ∧ I64 ((c12.toNat : Int) - 48) ∧ ∀ (v13 : Value) (w14 : World), Sx.Own w11.heap.size w14 2 v13 [(Value.int .i64 ((c12.toNat : Int) - 48))] → Ext w11 w14 → AppV w14 2 x9 v13 (fun v15 w16 => I64 (x10 + 1) ∧ ∃ s17 : (Int × Value), (Value.int .i64 (x10 + 1)) = (Value.int .i64 s17.1) ∧ v15 = s17.2 ∧ (J7 s17 w16) ∧ (m8 s17 w16) < (m8 s5 w6))
abbrev impl_readKey_k1 (w : World) (Post : Value → World → Prop) (x24 : Value) (x29 : Int) (x30 : Int) (x31 : Int) (x32 : Int) (x33 : Int) (w34 : World) : Prop :=
  Calls Tryd.prog 89 #[(Value.agg #[(Value.int .i64 x29), (Value.int .i64 x30), (Value.int .i64 x31), (Value.int .i64 x32), (Value.int .i64 x33)]), x24] w34 (fun e35 w36 => ∃ b37 : Bool, e35 = .returned (Value.bool b37) ∧ Keeps w.heap.size [39] w34 w36 ∧ Post (Value.tuple #[x24, (Value.bool b37)]) w36)
def impl_readKey_vc (m_Chambers : Int) (m_Depths : Int) (m_Step : Int) (m_Same : Int) (m_Least : Int) (t : ByteArray) (w : World) (Post : Value → World → Prop) : Prop :=
  ∀ w1 : World, Ext w w1 → ∀ (v2 : Value) (w3 : World), Sx.Own w1.heap.size w3 2 v2 [] → Ext w1 w3 → (∃ (J7 : (Int × Value) → World → Prop) (m8 : (Int × Value) → World → Nat), ((∃ s4 : (Int × Value), (Value.int .i64 0) = (Value.int .i64 s4.1) ∧ v2 = s4.2 ∧ (J7 s4 w3)) ∧ ∀ (s5 : (Int × Value)) (w6 : World), (J7 s5 w6) → (((s5.1 < (t.size : Int)) → (impl_readKey_k0 t s5 w6 J7 m8 s5.2 s5.1 w6)) ∧ (¬ (s5.1 < (t.size : Int)) → (impl_readKey_k1 w Post s5.2 m_Chambers m_Depths m_Step m_Same m_Least w6)))))
theorem impl_readKey_eq (m_Chambers : Int) (m_Depths : Int) (m_Step : Int) (m_Same : Int) (m_Least : Int) (t : ByteArray) (w : World) (Post : Value → World → Prop) : denF Tryd.prog [] (impl_readKey_A m_Chambers m_Depths m_Step m_Same m_Least t w) 70 [(Value.agg #[(Value.int .i64 m_Chambers), (Value.int .i64 m_Depths), (Value.int .i64 m_Step), (Value.int .i64 m_Same), (Value.int .i64 m_Least)]), (Value.string t)] w Post = impl_readKey_vc m_Chambers m_Depths m_Step m_Same m_Least t w Post := by kernel_rfl
set_option maxRecDepth 100000 in
theorem impl_readKey_calls (m_Chambers : Int) (m_Depths : Int) (m_Step : Int) (m_Same : Int) (m_Least : Int) (t : ByteArray) (w : World) (Post : Value → World → Prop) (hvc : impl_readKey_vc m_Chambers m_Depths m_Step m_Same m_Least t w Post) : Ret Tryd.prog 70 #[(Value.agg #[(Value.int .i64 m_Chambers), (Value.int .i64 m_Depths), (Value.int .i64 m_Step), (Value.int .i64 m_Same), (Value.int .i64 m_Least)]), (Value.string t)] w Post :=
  Ret.of (denF_sound mixed (Eq.mpr (impl_readKey_eq m_Chambers m_Depths m_Step m_Same m_Least t w Post) hvc))

theorem impl_readKey_ret {M : Mk} (hm : M.Ok) (t : ByteArray) (ht : t.size ≤ 1048576) (w : World) : Ret Tryd.prog 70 #[mkV M.c M.d M.s M.m M.l, .string t] w fun r w' => ∃ u, r = .tuple #[u, .bool (decide (IsK M (digs t t.size)))] ∧ Own w.heap.size w' 2 u (ints (digs t t.size)) ∧ Ext w w' :=
  impl_readKey_calls M.c M.d M.s M.m M.l t w _ (by
    unfold impl_readKey_vc
    intro w1 h1 v2 w3 o3 h3
    refine ⟨fun s W => ∃ n : Nat, s.1 = n ∧ n ≤ t.size ∧ Own w.heap.size W 2 s.2 (ints (digs t n)) ∧ Ext w W, fun s _ => t.size - s.1.toNat, ⟨(0, v2), rfl, rfl, 0, rfl, Nat.zero_le _, o3.mono h1.size, h1.trans h3⟩, ?_⟩
    rintro ⟨x, v⟩ w4 ⟨n, rfl, hn, o4, h4⟩
    simp only at o4
    refine ⟨fun hlt => ?_, fun hge => ?_⟩
    · simp only at hlt
      obtain ⟨c, hc, hcb⟩ := byteAt_get (t := t) (i := n) (by omega)
      have hr := byteAt_range t n
      refine ⟨by simp only; omega, c, by simp only [Int.toNat_natCast]; exact hc, by unfold I64; omega, by unfold I64; omega, fun v5 w5 o5 h5 => ?_⟩
      have o4' := o4.ext h5
      refine o4'.app1 o5 rfl (by simp; omega) (h4.trans h5).size fun v6 w6 o6 g6 _ => ⟨by unfold I64; simp only; omega, (((n + 1 : Nat) : Int), v6), ieq (by simp), rfl, ⟨n + 1, rfl, by omega, ?_, (h4.trans h5).grown o4' (Nat.le_refl _) g6⟩, by simp only; omega⟩
      simp only
      rw [digs_succ, ints_append, ← hcb]
      exact o6
    · simp only at hge
      have : n = t.size := by omega
      subst this
      exact (impl_isKey_val M.c M.d M.s M.m M.l v _ w4 o4.rd hm).call fun w5 h5 => ⟨_, rfl, h5.keeps, v, rfl, o4.ext h5, h4.trans h5⟩)
abbrev impl_ReadKey_k0 (w : World) (Post : Value → World → Prop) (x10 : ByteArray) (x19 : Int) (x20 : Int) (x21 : Int) (x22 : Int) (x23 : Int) (w24 : World) : Prop :=
  Calls Tryd.prog 70 #[(Value.agg #[(Value.int .i64 x19), (Value.int .i64 x20), (Value.int .i64 x21), (Value.int .i64 x22), (Value.int .i64 x23)]), (Value.string x10)] w24 (fun e25 w26 => ∃ u27 : Value, ∃ b28 : Bool, e25 = .returned (Value.tuple #[u27, (Value.bool b28)]) ∧ Keeps w.heap.size [39] w24 w26 ∧ (((!b28) = true → Post (Value.tuple #[(Value.slice none 0 0), (Value.int .i64 6)]) w26) ∧ ((!b28) = false → Post (Value.tuple #[u27, (Value.int .i64 0)]) w26)))
def impl_ReadKey_vc (m_Chambers : Int) (m_Depths : Int) (m_Step : Int) (m_Same : Int) (m_Least : Int) (t : ByteArray) (w : World) (Post : Value → World → Prop) : Prop :=
  ∀ w1 : World, Ext w w1 → Calls Tryd.prog 51 #[(Value.agg #[(Value.int .i64 m_Chambers), (Value.int .i64 m_Depths), (Value.int .i64 m_Step), (Value.int .i64 m_Same), (Value.int .i64 m_Least)])] w1 (fun e2 w3 => ∃ b4 : Bool, e2 = .returned (Value.bool b4) ∧ Keeps w.heap.size [39] w1 w3 ∧ (((!b4) = true → Post (Value.tuple #[(Value.slice none 0 0), (Value.int .i64 1)]) w3) ∧ ((!b4) = false → (impl_ReadKey_k0 w Post t m_Chambers m_Depths m_Step m_Same m_Least w3))))
theorem impl_ReadKey_eq (m_Chambers : Int) (m_Depths : Int) (m_Step : Int) (m_Same : Int) (m_Least : Int) (t : ByteArray) (w : World) (Post : Value → World → Prop) : denF Tryd.prog [] noAnn 34 [(Value.agg #[(Value.int .i64 m_Chambers), (Value.int .i64 m_Depths), (Value.int .i64 m_Step), (Value.int .i64 m_Same), (Value.int .i64 m_Least)]), (Value.string t)] w Post = impl_ReadKey_vc m_Chambers m_Depths m_Step m_Same m_Least t w Post := by kernel_rfl
set_option maxRecDepth 100000 in
theorem impl_ReadKey_calls (m_Chambers : Int) (m_Depths : Int) (m_Step : Int) (m_Same : Int) (m_Least : Int) (t : ByteArray) (w : World) (Post : Value → World → Prop) (hvc : impl_ReadKey_vc m_Chambers m_Depths m_Step m_Same m_Least t w Post) : Ret Tryd.prog 34 #[(Value.agg #[(Value.int .i64 m_Chambers), (Value.int .i64 m_Depths), (Value.int .i64 m_Step), (Value.int .i64 m_Same), (Value.int .i64 m_Least)]), (Value.string t)] w Post :=
  Ret.of (denF_sound mixed (Eq.mpr (impl_ReadKey_eq m_Chambers m_Depths m_Step m_Same m_Least t w Post) hvc))

theorem impl_ReadKey_ret (M : Mk) (t : ByteArray) (w : World) (ht : t.size ≤ 1048576) : SlR 34 #[mkV M.c M.d M.s M.m M.l, .string t] w (readKey M t) (readKeyCode M t) :=
  impl_ReadKey_calls M.c M.d M.s M.m M.l t w _ (by
    unfold impl_ReadKey_vc
    intro w1 h1
    refine (impl_IsMaker_val ..).call fun w2 h2 => ⟨_, rfl, h2.keeps, fun hb => ?_, fun hb => ?_⟩
    · have hm := nd_t hb
      unfold readKey readKeyCode
      rw [if_neg hm, if_neg hm]
      exact ⟨_, rfl, Own.nil_ _ _ _, h1.trans h2⟩
    have hm := nd_f hb
    unfold readKey readKeyCode
    rw [if_pos hm, if_pos hm]
    refine (impl_readKey_ret (M := M) hm t ht w2).call ?_
    rintro _ w3 ⟨u, rfl, ou, h3⟩
    refine ⟨u, _, rfl, h3.keeps, fun hb2 => ?_, fun hb2 => ?_⟩
    · rw [if_neg (nd_t hb2), if_neg (nd_t hb2)]
      exact ⟨_, rfl, Own.nil_ _ _ _, (h1.trans h2).trans h3⟩
    · rw [if_pos (nd_f hb2), if_pos (nd_f hb2)]
      exact ⟨u, rfl, ou.mono (h1.trans h2).size, (h1.trans h2).trans h3⟩)
def spec_l02Read_A (t : ByteArray) (w : World) : Nat → Ann := fun κ => match κ with
  | 0 => { σ := Int × Value, sli := [5, 4], slc := fun s => [SV.v (Value.int .i64 s.1), SV.v s.2], bxi := [], bxc := fun s => [], inv := fun s W => True, μ := fun s W => 0, free := true }
  | _ => { σ := Unit, sli := [], slc := fun _ => [], bxi := [], bxc := fun _ => [], inv := fun _ _ => False, μ := fun _ _ => 0 }
abbrev spec_l02Read_k0 (s4 : Int × Value) (w5 : World) (J6 : (Int × Value) → World → Prop) (m7 : (Int × Value) → World → Nat) (x54 : Value) (x55 : Int) (w73 : World) : Prop :=
  I64 (x55 + 1) ∧ ∃ s74 : (Int × Value), (Value.int .i64 (x55 + 1)) = (Value.int .i64 s74.1) ∧ x54 = s74.2 ∧ (J6 s74 w73) ∧ (m7 s74 w73) < (m7 s4 w5)
abbrev spec_l02Read_k1 (t : ByteArray) (s4 : Int × Value) (w5 : World) (J6 : (Int × Value) → World → Prop) (m7 : (Int × Value) → World → Nat) (x37 : Value) (x38 : Int) (w48 : World) : Prop :=
  0 ≤ x38 ∧ ∃ c49 : UInt8, t[x38.toNat]? = some c49 ∧ I64 (IntKind.wrap .u8 ((c49.toNat : Int) - 48)) ∧ ∀ (v50 : Value) (w51 : World), Sx.Own w48.heap.size w51 2 v50 [(Value.int .i64 (IntKind.wrap .u8 ((c49.toNat : Int) - 48)))] → Ext w48 w51 → AppV w51 2 x37 v50 (fun v52 w53 => (spec_l02Read_k0 s4 w5 J6 m7 v52 x38 w53))
abbrev spec_l02Read_k2 (t : ByteArray) (Post : Value → World → Prop) (s4 : Int × Value) (w5 : World) (J6 : (Int × Value) → World → Prop) (m7 : (Int × Value) → World → Nat) (c24 : UInt8) (x25 : Value) (x26 : Int) (w36 : World) : Prop :=
  ((((57 : Int) < (c24.toNat : Int)) → Post (Value.tuple #[(Value.slice none 0 0), (Value.bool false)]) w36) ∧ (¬ ((57 : Int) < (c24.toNat : Int)) → (spec_l02Read_k1 t s4 w5 J6 m7 x25 x26 w36)))
abbrev spec_l02Read_k3 (t : ByteArray) (Post : Value → World → Prop) (s4 : Int × Value) (w5 : World) (J6 : (Int × Value) → World → Prop) (m7 : (Int × Value) → World → Nat) (x8 : Value) (x9 : Int) (w13 : World) : Prop :=
  0 ≤ x9 ∧ ∃ c14 : UInt8, t[x9.toNat]? = some c14 ∧ ((((c14.toNat : Int) < (48 : Int)) → Post (Value.tuple #[(Value.slice none 0 0), (Value.bool false)]) w13) ∧ (¬ ((c14.toNat : Int) < (48 : Int)) → 0 ≤ x9 ∧ ∃ c24 : UInt8, t[x9.toNat]? = some c24 ∧ (spec_l02Read_k2 t Post s4 w5 J6 m7 c24 x8 x9 w13)))
def spec_l02Read_vc (t : ByteArray) (w : World) (Post : Value → World → Prop) : Prop :=
  ∀ (v1 : Value) (w2 : World), Sx.Own w.heap.size w2 2 v1 [] → Ext w w2 → (∃ (J6 : (Int × Value) → World → Prop) (m7 : (Int × Value) → World → Nat), ((∃ s3 : (Int × Value), (Value.int .i64 0) = (Value.int .i64 s3.1) ∧ v1 = s3.2 ∧ (J6 s3 w2)) ∧ ∀ (s4 : (Int × Value)) (w5 : World), (J6 s4 w5) → (((s4.1 < (t.size : Int)) → (spec_l02Read_k3 t Post s4 w5 J6 m7 s4.2 s4.1 w5)) ∧ (¬ (s4.1 < (t.size : Int)) → Post (Value.tuple #[s4.2, (Value.bool true)]) w5))))
theorem spec_l02Read_eq (t : ByteArray) (w : World) (Post : Value → World → Prop) : denF Tryd.prog [] (spec_l02Read_A t w) 71 [(Value.string t)] w Post = spec_l02Read_vc t w Post := by kernel_rfl
set_option maxRecDepth 100000 in
theorem spec_l02Read_calls (t : ByteArray) (w : World) (Post : Value → World → Prop) (hvc : spec_l02Read_vc t w Post) : Ret Tryd.prog 71 #[(Value.string t)] w Post :=
  Ret.of (denF_sound mixed (Eq.mpr (spec_l02Read_eq t w Post) hvc))

theorem spec_l02Read_ret (t : ByteArray) (ht : t.size ≤ 1048576) (w : World) : Ret Tryd.prog 71 #[.string t] w fun r w' => Ext w w' ∧ ((∃ u, r = .tuple #[u, .bool true] ∧ Own w.heap.size w' 2 u (ints (digs t t.size))) ∨ (r = .tuple #[.slice none 0 0, .bool false] ∧ ∃ i, i < t.size ∧ (byteAt t i < 48 ∨ 57 < byteAt t i))) :=
  spec_l02Read_calls t w _ (by
    unfold spec_l02Read_vc
    intro v2 w3 o3 h3
    refine ⟨fun s W => ∃ n : Nat, s.1 = n ∧ n ≤ t.size ∧ Own w.heap.size W 2 s.2 (ints (digs t n)) ∧ Ext w W, fun s _ => t.size - s.1.toNat, ⟨(0, v2), rfl, rfl, 0, rfl, Nat.zero_le _, o3, h3⟩, ?_⟩
    rintro ⟨x, v⟩ w4 ⟨n, rfl, hn, o4, h4⟩
    simp only at o4
    refine ⟨fun hlt => ?_, fun hge => ?_⟩
    · simp only at hlt
      obtain ⟨c, hc, hcb⟩ := byteAt_get (t := t) (i := n) (by omega)
      have hr := byteAt_range t n
      refine ⟨by simp only; omega, c, by simp only [Int.toNat_natCast]; exact hc, fun hlo => ⟨h4, .inr ⟨rfl, n, by omega, by omega⟩⟩, fun hlo => ⟨by simp only; omega, c, by simp only [Int.toNat_natCast]; exact hc, fun hhi => ⟨h4, .inr ⟨rfl, n, by omega, by omega⟩⟩, fun hhi => ?_⟩⟩
      have hw : IntKind.wrap .u8 ((c.toNat : Int) - 48) = byteAt t n - 48 := by
        rw [hcb]
        exact IntWalk.u8_in _ ⟨by omega, by omega⟩
      refine ⟨by simp only; omega, c, by simp only [Int.toNat_natCast]; exact hc, ?_⟩
      rw [hw]
      refine ⟨by unfold I64; omega, fun v5 w5 o5 h5 => ?_⟩
      have o4' := o4.ext h5
      refine o4'.app1 o5 rfl (by simp; omega) (h4.trans h5).size fun v6 w6 o6 g6 _ => ⟨by unfold I64; simp only; omega, (((n + 1 : Nat) : Int), v6), ieq (by simp), rfl, ⟨n + 1, rfl, by omega, ?_, (h4.trans h5).grown o4' (Nat.le_refl _) g6⟩, by simp only; omega⟩
      simp only
      rw [digs_succ, ints_append]
      exact o6
    · simp only at hge
      have : n = t.size := by omega
      subst this
      exact ⟨h4, .inl ⟨v, rfl, o4⟩⟩)
abbrev spec_ReadKey_k0 (Post : Value → World → Prop) (n62 : Int) (x70 : Value) (w100 : World) : Prop :=
  (((n62 ≠ (0 : Int)) → Post (Value.tuple #[(Value.slice none 0 0), (Value.int .i64 6)]) w100) ∧ (¬ (n62 ≠ (0 : Int)) → Post (Value.tuple #[x70, (Value.int .i64 0)]) w100))
abbrev spec_ReadKey_k1 (w : World) (Post : Value → World → Prop) (x10 : ByteArray) (x19 : Int) (x20 : Int) (x21 : Int) (x22 : Int) (x23 : Int) (w24 : World) : Prop :=
  Calls Tryd.prog 71 #[(Value.string x10)] w24 (fun e25 w26 => ∃ u27 : Value, ∃ b28 : Bool, e25 = .returned (Value.tuple #[u27, (Value.bool b28)]) ∧ Keeps w.heap.size [39] w24 w26 ∧ (((!b28) = true → Post (Value.tuple #[(Value.slice none 0 0), (Value.int .i64 6)]) w26) ∧ ((!b28) = false → Calls Tryd.prog 72 #[(Value.agg #[(Value.int .i64 x19), (Value.int .i64 x20), (Value.int .i64 x21), (Value.int .i64 x22), (Value.int .i64 x23)]), u27] w26 (fun e60 w61 => ∃ n62 : Int, e60 = .returned (Value.int .i64 n62) ∧ Keeps w.heap.size [39] w26 w61 ∧ (spec_ReadKey_k0 Post n62 u27 w61)))))
def spec_ReadKey_vc (m_Chambers : Int) (m_Depths : Int) (m_Step : Int) (m_Same : Int) (m_Least : Int) (t : ByteArray) (w : World) (Post : Value → World → Prop) : Prop :=
  ∀ w1 : World, Ext w w1 → Calls Tryd.prog 48 #[(Value.agg #[(Value.int .i64 m_Chambers), (Value.int .i64 m_Depths), (Value.int .i64 m_Step), (Value.int .i64 m_Same), (Value.int .i64 m_Least)])] w1 (fun e2 w3 => ∃ b4 : Bool, e2 = .returned (Value.bool b4) ∧ Keeps w.heap.size [39] w1 w3 ∧ (((!b4) = true → Post (Value.tuple #[(Value.slice none 0 0), (Value.int .i64 1)]) w3) ∧ ((!b4) = false → (spec_ReadKey_k1 w Post t m_Chambers m_Depths m_Step m_Same m_Least w3))))
theorem spec_ReadKey_eq (m_Chambers : Int) (m_Depths : Int) (m_Step : Int) (m_Same : Int) (m_Least : Int) (t : ByteArray) (w : World) (Post : Value → World → Prop) : denF Tryd.prog [] noAnn 35 [(Value.agg #[(Value.int .i64 m_Chambers), (Value.int .i64 m_Depths), (Value.int .i64 m_Step), (Value.int .i64 m_Same), (Value.int .i64 m_Least)]), (Value.string t)] w Post = spec_ReadKey_vc m_Chambers m_Depths m_Step m_Same m_Least t w Post := by kernel_rfl
set_option maxRecDepth 100000 in
theorem spec_ReadKey_calls (m_Chambers : Int) (m_Depths : Int) (m_Step : Int) (m_Same : Int) (m_Least : Int) (t : ByteArray) (w : World) (Post : Value → World → Prop) (hvc : spec_ReadKey_vc m_Chambers m_Depths m_Step m_Same m_Least t w Post) : Ret Tryd.prog 35 #[(Value.agg #[(Value.int .i64 m_Chambers), (Value.int .i64 m_Depths), (Value.int .i64 m_Step), (Value.int .i64 m_Same), (Value.int .i64 m_Least)]), (Value.string t)] w Post :=
  Ret.of (denF_sound mixed (Eq.mpr (spec_ReadKey_eq m_Chambers m_Depths m_Step m_Same m_Least t w Post) hvc))

theorem spec_ReadKey_ret (M : Mk) (t : ByteArray) (w : World) (ht : t.size ≤ 1048576) : SlR 35 #[mkV M.c M.d M.s M.m M.l, .string t] w (readKey M t) (readKeyCode M t) :=
  spec_ReadKey_calls M.c M.d M.s M.m M.l t w _ (by
    unfold spec_ReadKey_vc
    intro w1 h1
    refine (spec_IsMaker_val ..).call fun w2 h2 => ⟨_, rfl, h2.keeps, fun hb => ?_, fun hb => ?_⟩
    · have hm := nd_t hb
      unfold readKey readKeyCode
      rw [if_neg hm, if_neg hm]
      exact ⟨_, rfl, Own.nil_ _ _ _, h1.trans h2⟩
    have hm := nd_f hb
    unfold readKey readKeyCode
    rw [if_pos hm, if_pos hm]
    refine (spec_l02Read_ret t ht w2).call ?_
    rintro _ w3 ⟨h3, ⟨u, rfl, ou⟩ | ⟨rfl, i, hi, hbad⟩⟩
    · refine ⟨u, _, rfl, h3.keeps, fun hb2 => (by cases hb2), fun _ => ?_⟩
      refine (spec_l02Fault_val M.c M.d M.s M.m M.l u _ w3 ou.rd hm).call fun w4 h4 => ⟨_, rfl, h4.keeps, fun hne => ?_, fun he => ?_⟩
      · have hn : ¬ IsK M (digs t t.size) := fun hk => hne (fault_zero.2 hk)
        rw [if_neg hn, if_neg hn]
        exact ⟨_, rfl, Own.nil_ _ _ _, ((h1.trans h2).trans h3).trans h4⟩
      · have hk : IsK M (digs t t.size) := fault_zero.1 (Classical.not_not.1 he)
        rw [if_pos hk, if_pos hk]
        exact ⟨u, rfl, (ou.mono (h1.trans h2).size).ext h4, ((h1.trans h2).trans h3).trans h4⟩
    · refine ⟨_, _, rfl, h3.keeps, fun _ => ?_, fun hb2 => (by cases hb2)⟩
      have hn : ¬ IsK M (digs t t.size) := fun hk => by
        have := hk.2.1 _ (digs_mem hi)
        have := hm.2.1
        omega
      rw [if_neg hn, if_neg hn]
      exact ⟨_, rfl, Own.nil_ _ _ _, (h1.trans h2).trans h3⟩)
theorem wf_i64 {n : Int} (h : (Lit.int .i64 n).wf = true) : I64 n := bounds_i64 h
end Go.Proofs
