/- Contracts: the program's key with a rank; the keys with a text. No condition. -/
import Derived.Test.YtlppnjnimjbloaaL02e
set_option linter.unusedVariables false
namespace Go.Proofs
open Go.Sx Go.RowKit
theorem vis_congr {α : Type} {go go' : List α → α → Bool} : ∀ {l done : List α} (n : Nat), (∀ d k, d.length < n → go d k = go' d k) → done.length + l.length ≤ n → vis go done l = vis go' done l
  | [], _, _, _, _ => rfl
  | k :: l, done, n, h, hn => by
    simp only [List.length_cons] at hn
    simp only [vis]
    rw [h done k (by omega), vis_congr (l := l) (done := done ++ [k]) n h (by simp; omega)]
/-- what is left of a rank, in int64 -/
def rk (r : Int) (n : Nat) : Int := IntKind.wrap .i64 (r - n)
theorem rk_succ (r : Int) (n : Nat) : IntKind.wrap .i64 (rk r n - 1) = rk r (n + 1) := by
  unfold rk
  rw [IntKind.wrap_i64, IntKind.wrap_i64, IntKind.wrap_i64]
  omega
theorem rk_zero {r : Int} (h : I64 r) {n : Nat} (hn : n ≤ 1000000) : rk r n = 0 ↔ r = n := by
  unfold rk
  rw [IntKind.wrap_i64]
  unfold I64 at h
  omega
theorem rk_pos {r : Int} (h : I64 r) (h0 : 0 ≤ r) {n : Nat} (hn : n ≤ 1000000) : rk r n = r - n := by
  unfold rk
  rw [IntKind.wrap_i64]
  unfold I64 at h
  omega
abbrev impl_KeyAt_1_k0 (w : World) (Post : Value → World → Prop) (x7 : Addr) (w12 : World) : Prop :=
  ∃ n13 : Int, LdV w12 (Value.pointer (some x7)) (Value.int .i64 n13) ∧ StV w.heap.size [] w12 (Value.pointer (some x7)) (Value.int .i64 (IntKind.wrap .i64 (n13 - 1))) (fun w14 => ∃ n15 : Int, LdV w14 (Value.pointer (some x7)) (Value.int .i64 n15) ∧ Post (Value.bool (decide ((0 : Int) ≤ n15))) w14)
def impl_KeyAt_1_vc (k : Value) (b0 : Nat) (b1 : Nat) (w : World) (Post : Value → World → Prop) : Prop :=
  ∃ n1 : Int, LdV w (Value.pointer (some (⟨b0, 0, none⟩))) (Value.int .i64 n1) ∧ (((n1 = (0 : Int)) → Calls Try.prog 87 #[k] w (fun e2 w3 => ∃ u4 : Value, e2 = .returned u4 ∧ Keeps w.heap.size [] w w3 ∧ StV w.heap.size [] w3 (Value.pointer (some (⟨b1, 0, none⟩))) u4 (fun w5 => (impl_KeyAt_1_k0 w Post (⟨b0, 0, none⟩) w5)))) ∧ (¬ (n1 = (0 : Int)) → (impl_KeyAt_1_k0 w Post (⟨b0, 0, none⟩) w)))
theorem impl_KeyAt_1_eq (k : Value) (b0 : Nat) (b1 : Nat) (w : World) (Post : Value → World → Prop) : denF Try.prog [9000000] noAnn 86 [k, (Value.pointer (some (⟨b0, 0, none⟩))), (Value.pointer (some (⟨b1, 0, none⟩)))] w Post = impl_KeyAt_1_vc k b0 b1 w Post := by kernel_rfl
set_option maxRecDepth 100000 in
theorem impl_KeyAt_1_calls (k : Value) (b0 : Nat) (b1 : Nat) (w : World) (Post : Value → World → Prop) (hvc : impl_KeyAt_1_vc k b0 b1 w Post) : Ret Try.prog 86 #[k, (Value.pointer (some (⟨b0, 0, none⟩))), (Value.pointer (some (⟨b1, 0, none⟩)))] w Post :=
  Ret.of (denF_sound mixed (Eq.mpr (impl_KeyAt_1_eq k b0 b1 w Post) hvc))

def keyAtJ (B b0 b1 : Nat) (r : Int) : (Nat → Prop) → List (List Int) → World → Prop := fun K done w =>
  ¬ K b0 ∧ ¬ K b1 ∧ w.heap[b0]? = some (.cells #[.int .i64 (rk r done.length)] 2 (0, 0)) ∧ ∃ v, w.heap[b1]? = some (.cells #[v] 29 (0, 0)) ∧
    (∀ g, v.ownBlock = some g → ¬ K g) ∧ Own B w 2 v (ints ((if 0 ≤ r then done[r.toNat]? else none).getD [])) ∧ ((if 0 ≤ r then done[r.toNat]? else none) = none → v = .slice none 0 0) ∧ v.ownBlock ≠ some b0
theorem keyAt_visitor (B b0 b1 : Nat) (hB : B ≤ b0) (hne : b0 ≠ b1) {r : Int} (hr : I64 r) {L : List (List Int)} (hL : L.length ≤ 262144) (hk : ∀ k ∈ L, k ≠ [] ∧ k.length ≤ 100) : Visitor Try.prog 86 [bp b0, bp b1] (keyAtJ B b0 b1 r) (fun done _ => decide (0 ≤ rk r (done.length + 1))) L where
  ok := by kernel_rfl
  env := by
    rintro K done w w' ⟨h1, h2, h3, v, h4, h5, h6, h7, h8⟩ hp
    refine ⟨fun hg => hg.elim h1 fun hg => absurd (heap_lt h3) (by omega), fun hg => hg.elim h2 fun hg => absurd (heap_lt h4) (by omega), (hp.block _ (heap_lt h3) h1).trans h3, v, (hp.block _ (heap_lt h4) h2).trans h4, fun g hg hgr => ?_, h6.keep fun g hg => hp.block g (h6.lt hg).2 (h5 g hg), h7, h8⟩
    rcases hgr with hgr | hgr
    · exact h5 g hg hgr
    · have := (h6.lt hg).2
      omega
  call := by
    rintro K done k w v ⟨h1, h2, h3, fv, h4, h5, h6, h7, h8⟩ hK hv ⟨rr, hrr⟩
    have hlen := congrArg List.length hrr
    simp only [List.length_append, List.length_cons] at hlen
    obtain ⟨hk1, hk2⟩ := hk k (by rw [hrr]; simp)
    have hz0 := heap_lt h3
    refine (impl_KeyAt_1_calls v b0 b1 w (fun u w' => u = .bool (decide (0 ≤ rk r (done.length + 1))) ∧ Pres K w w' ∧ keyAtJ B b0 b1 r K (done ++ [k]) w') ?_).call fun u w' h => ⟨by rw [h.1], h.2⟩
    unfold impl_KeyAt_1_vc
    have tail : ∀ (W : World) (fv' : Value), Pres K w W → W.heap[b0]? = some (.cells #[.int .i64 (rk r done.length)] 2 (0, 0)) → W.heap[b1]? = some (.cells #[fv'] 29 (0, 0)) → (∀ g, fv'.ownBlock = some g → ¬ K g) → Own B W 2 fv' (ints ((if 0 ≤ r then (done ++ [k])[r.toNat]? else none).getD [])) → ((if 0 ≤ r then (done ++ [k])[r.toNat]? else none) = none → fv' = .slice none 0 0) → fv'.ownBlock ≠ some b0 →
        impl_KeyAt_1_k0 w (fun u w' => u = .bool (decide (0 ≤ rk r (done.length + 1))) ∧ Pres K w w' ∧ keyAtJ B b0 b1 r K (done ++ [k]) w') ⟨b0, 0, none⟩ W := by
      intro W fv' hp c0 c1 hb ho hn hb0
      refine ⟨_, ld_one c0, st_one c0 rfl (.inr (by simp)) fun w2 d0 p2 z2 => ?_⟩
      rw [rk_succ] at d0
      have d1 := (p2.block b1 (heap_lt c1) (Ne.symm hne)).trans c1
      refine ⟨_, ld_one d0, rfl, hp.trans (p2.mono fun b _ hb => ?_), h1, h2, ?_, fv', d1, hb, ho.keep fun g hg => p2.block g (ho.lt hg).2 (by rintro rfl; exact hb0 hg), hn, hb0⟩
      · rintro rfl
        exact h1 hb
      · rw [List.length_append]
        exact d0
    refine ⟨_, ld_one h3, fun hz => ?_, fun hz => ?_⟩
    · have hrd : r = done.length := (rk_zero hr (by omega)).1 hz
      refine (slices_Clone_ret v k w (hv w (.refl _ _)) (by omega) hk1).call ?_
      rintro u w2 ⟨ou, e2⟩
      have c0 := (e2.block _ (heap_lt h3)).trans h3
      have c1 := (e2.block _ (heap_lt h4)).trans h4
      refine ⟨u, rfl, e2.keeps, st_one c1 ou.rd.one (.inr (by simp)) fun w3 d1 p3 z3 => ?_⟩
      have hget : (if 0 ≤ r then (done ++ [k])[r.toNat]? else none) = some k := by
        rw [if_pos (by omega), List.getElem?_append_right (by omega), show r.toNat - done.length = 0 by omega]
        rfl
      have hsz := e2.size
      have hub : u.ownBlock ≠ some b1 := own_type_ne ou c1 (by decide)
      refine tail w3 u ((e2.pres K).trans (p3.mono fun b _ hb => ?_)) ((p3.block b0 (heap_lt c0) hne).trans c0) d1 (fun g hg hKg => ?_) ?_ (fun h => by rw [hget] at h; cases h) (fun h => by have := (ou.lt h).1; omega)
      · rintro rfl
        exact h2 hb
      · have := (ou.lt hg).1
        have := hK g hKg
        omega
      · rw [hget]
        exact (ou.mono (show B ≤ w.heap.size by omega)).keep fun g hg => p3.block g (ou.lt hg).2 (by rintro rfl; exact hub hg)
    · have hne2 : r ≠ done.length := fun h => hz ((rk_zero hr (by omega)).2 h)
      have hsame : (if 0 ≤ r then (done ++ [k])[r.toNat]? else none) = (if 0 ≤ r then done[r.toNat]? else none) := by
        split
        · rcases Nat.lt_or_ge r.toNat done.length with h | h
          · rw [List.getElem?_append_left h]
          · rw [List.getElem?_eq_none h, List.getElem?_eq_none (by simp; omega)]
        · rfl
      refine tail w fv (.refl _ _) h3 h4 h5 (by rw [hsame]; exact h6) (by rw [hsame]; exact h7) h8
abbrev impl_KeyAt_k0 (Post : Value → World → Prop) (x42 : Addr) (w62 : World) : Prop :=
  ∃ u63 : Value, LdV w62 (Value.pointer (some x42)) u63 ∧ Post (Value.tuple #[u63, (Value.int .i64 0)]) w62
abbrev impl_KeyAt_k1 (w : World) (Post : Value → World → Prop) (x13 : Addr) (x22 : Int) (x23 : Int) (x24 : Int) (x25 : Int) (x26 : Int) (w27 : World) : Prop :=
  ∀ (b29 : Nat) (w28 : World), Ext w27 w28 → w27.heap.size ≤ b29 → w28.heap[b29]? = some (.cells #[(Value.slice none 0 0)] 29 (0, 0)) → Calls Try.prog 85 #[(Value.agg #[(Value.int .i64 x22), (Value.int .i64 x23), (Value.int .i64 x24), (Value.int .i64 x25), (Value.int .i64 x26)]), (Value.slice none 0 0), Value.nilFunc, (Value.func (.func 86) #[] #[(Value.pointer (some x13)), (Value.pointer (some (⟨b29, 0, none⟩)))])] w28 (fun e30 w31 => e30 = .returned (Value.tuple #[]) ∧ Keeps w.heap.size [26] w28 w31 ∧ ∃ u32 : Value, LdV w31 (Value.pointer (some (⟨b29, 0, none⟩))) u32 ∧ ∃ b33 : Bool, NilS u32 b33 ∧ ((b33 = true → Post (Value.tuple #[(Value.slice none 0 0), (Value.int .i64 4)]) w31) ∧ (b33 = false → (impl_KeyAt_k0 Post (⟨b29, 0, none⟩) w31))))
def impl_KeyAt_vc (m_Chambers : Int) (m_Depths : Int) (m_Step : Int) (m_Same : Int) (m_Least : Int) (rank : Int) (w : World) (Post : Value → World → Prop) : Prop :=
  ∀ w1 : World, Ext w w1 → ∀ (b3 : Nat) (w2 : World), Ext w1 w2 → w1.heap.size ≤ b3 → w2.heap[b3]? = some (.cells #[(Value.int .i64 rank)] 2 (0, 0)) → Calls Try.prog 58 #[(Value.agg #[(Value.int .i64 m_Chambers), (Value.int .i64 m_Depths), (Value.int .i64 m_Step), (Value.int .i64 m_Same), (Value.int .i64 m_Least)])] w2 (fun e4 w5 => ∃ b6 : Bool, e4 = .returned (Value.bool b6) ∧ Keeps w.heap.size [26] w2 w5 ∧ (((!b6) = true → Post (Value.tuple #[(Value.slice none 0 0), (Value.int .i64 1)]) w5) ∧ ((!b6) = false → (impl_KeyAt_k1 w Post (⟨b3, 0, none⟩) m_Chambers m_Depths m_Step m_Same m_Least w5))))
theorem impl_KeyAt_eq (m_Chambers : Int) (m_Depths : Int) (m_Step : Int) (m_Same : Int) (m_Least : Int) (rank : Int) (w : World) (Post : Value → World → Prop) : denF Try.prog [3, 6] noAnn 42 [(Value.agg #[(Value.int .i64 m_Chambers), (Value.int .i64 m_Depths), (Value.int .i64 m_Step), (Value.int .i64 m_Same), (Value.int .i64 m_Least)]), (Value.int .i64 rank)] w Post = impl_KeyAt_vc m_Chambers m_Depths m_Step m_Same m_Least rank w Post := by kernel_rfl
set_option maxRecDepth 100000 in
theorem impl_KeyAt_calls (m_Chambers : Int) (m_Depths : Int) (m_Step : Int) (m_Same : Int) (m_Least : Int) (rank : Int) (w : World) (Post : Value → World → Prop) (hvc : impl_KeyAt_vc m_Chambers m_Depths m_Step m_Same m_Least rank w Post) : Ret Try.prog 42 #[(Value.agg #[(Value.int .i64 m_Chambers), (Value.int .i64 m_Depths), (Value.int .i64 m_Step), (Value.int .i64 m_Same), (Value.int .i64 m_Least)]), (Value.int .i64 rank)] w Post :=
  Ret.of (denF_sound mixed (Eq.mpr (impl_KeyAt_eq m_Chambers m_Depths m_Step m_Same m_Least rank w Post) hvc))

theorem impl_KeyAt_ret (M : Mk) (rank : Int) (w : World) (hr : I64 rank) : SlR 42 #[mkV M.c M.d M.s M.m M.l, .int .i64 rank] w (keyAt M rank) (keyAtCode M rank) :=
  impl_KeyAt_calls M.c M.d M.s M.m M.l rank w _ (by
    unfold impl_KeyAt_vc
    intro w1 h1 b3 w2 h2 g3 c3
    refine (impl_IsMaker_val ..).call fun w3 h3 => ⟨_, rfl, h3.keeps, fun hb => ?_, fun hb => ?_⟩
    · have hm := nd_t hb
      unfold keyAt keyAtCode
      rw [if_neg hm, if_neg hm]
      exact ⟨_, rfl, Own.nil_ _ _ _, (h1.trans h2).trans h3⟩
    have hm' := nd_f hb
    have hm : M.Ok := hm'
    obtain ⟨m1, m2, _⟩ := id hm
    unfold keyAt keyAtCode
    rw [if_pos hm', if_pos hm']
    intro b6 w4 h4 g6 c6
    have z1 := h1.size
    have z2 := h2.size
    have z3 := h3.size
    have z4 := h4.size
    have s3 := heap_lt c3
    have s6 := heap_lt c6
    have c3' : w4.heap[b3]? = _ := ((h3.trans h4).block b3 s3).trans c3
    have X4 := ((h1.trans h2).trans h3).trans h4
    have hmax : (keys M).length ≤ 262144 := G_max (by omega) _ (by omega) _
    have hlen : ∀ k ∈ keys M, k ≠ [] ∧ k.length ≤ 100 := by
      intro k hk
      have := keys_length (M := M) (by omega) hk
      exact ⟨fun h => by rw [h] at this; simp at this; omega, by omega⟩
    have hP : ∀ W, Pres (fun b => b < w4.heap.size ∧ b ≠ b3 ∧ b ≠ b6) w4 W → Ext w W := fun W hp => hp.ext X4 fun b hb => ⟨by omega, by omega, by omega⟩
    have hG : GT M All [] M.c.toNat [] false = keys M := GT_false _ _ _
    have hw0 : rk rank ([] : List (List Int)).length = rank := by
      unfold rk
      rw [List.length_nil, show rank - ((0 : Nat) : Int) = rank by omega, hr.wrap]
    have hc := eachKey_calls (M := M) (al := All) (fr := []) (w := w4) (K0 := fun b => b < w4.heap.size ∧ b ≠ b3 ∧ b ≠ b6) (frv := .slice none 0 0) (alv := .nilFunc) (tight := false) hm
      (keyAt_visitor w.heap.size b3 b6 (by omega) (by omega) hr (L := GT M All [] M.c.toNat [] false) (by rw [hG]; exact hmax) (by rw [hG]; exact hlen)) (AlOk.all _ _ _ _) NilS.nil_ (fun w' _ => RI.nil_ w' 0 (Nat.zero_le _)) (by intro z hz; simp at hz) (by simp) (fun b hb => hb.1)
      ⟨fun h => h.2.1 rfl, fun h => h.2.2 rfl, by rw [hw0]; exact c3', _, c6, fun g hg => by simp [Value.ownBlock] at hg, by simp only [List.getElem?_nil, ite_self, Option.getD_none]; exact Own.nil_ _ _ _, fun _ => rfl, by simp [Value.ownBlock]⟩
    refine hc.mono ?_
    rintro e w5 ⟨rfl, ⟨K, hK, _, _, _, v, c5, hvK, ov, hvn, _⟩, hp⟩
    rw [hG] at ov hvn
    have hkeep : Keeps w.heap.size [26] w4 w5 := hp.keeps fun b cs T fz hb hh hT => by
      refine ⟨heap_lt hh, ?_, ?_⟩
      · rintro rfl
        rw [c3'] at hh
        injection hh with hh
        injection hh with _ he _
        rw [← he] at hT
        exact absurd hT (by decide)
      · rintro rfl
        rw [c6] at hh
        injection hh with hh
        injection hh with _ he _
        rw [← he] at hT
        exact absurd hT (by decide)
    have hfound : (if 0 ≤ rank then (vis (fun done _ => decide (0 ≤ rk rank (done.length + 1))) [] (keys M)).1[rank.toNat]? else none) = keyAtO M rank := by
      unfold keyAtO
      split
      · rename_i h0
        rw [vis_congr (go' := fun d _ => decide (d.length + 1 < rank.toNat + 1)) 262144 (fun d _ hd => ?_) (by simpa using hmax), vis_most _ _ _ (by simp), List.nil_append, List.getElem?_take_of_lt (by simp)]
        rw [rk_pos hr h0 (by omega)]
        exact decide_eq_decide.2 ⟨fun h => by omega, fun h => by omega⟩
      · rfl
    rw [hfound] at ov hvn
    refine ⟨rfl, hkeep, v, ld_one c5, ?_⟩
    cases hk : keyAtO M rank with
    | none =>
      rw [hvn hk]
      exact ⟨true, ⟨_, _, _, rfl, rfl⟩, fun _ => ⟨_, rfl, Own.nil_ _ _ _, hP w5 hp⟩, fun h => (by cases h)⟩
    | some k =>
      rw [hk] at ov
      have hkm : k ∈ keys M := by
        unfold keyAtO at hk
        split at hk
        · exact List.mem_of_getElem? hk
        · cases hk
      have hkl := (hlen k hkm).1
      obtain ⟨a, cc, hve, _, _, h3'⟩ := ov.rd
      have hpos : 0 < (ints k).length := by rw [ints_length]; exact List.length_pos_iff.2 hkl
      obtain ⟨ad, rfl, _⟩ := h3' hpos
      refine ⟨false, ⟨_, _, _, hve, rfl⟩, fun h => (by cases h), fun _ => ⟨v, ld_one c5, v, rfl, ov, hP w5 hp⟩⟩)

/-! ### the key with a text -/
/-- byte i of a text -/
def byteAt (t : ByteArray) (i : Nat) : Int := ((t[i]?.getD 0).toNat : Int)
theorem byteAt_get {t : ByteArray} {i : Nat} (h : i < t.size) : ∃ c : UInt8, t[i]? = some c ∧ (c.toNat : Int) = byteAt t i :=
  ⟨t[i], getElem?_pos t i h, by unfold byteAt; rw [getElem?_pos t i h]; rfl⟩
theorem byteAt_range (t : ByteArray) (i : Nat) : 0 ≤ byteAt t i ∧ byteAt t i < 256 := by
  unfold byteAt
  have := (t[i]?.getD 0).toNat_lt
  omega
/-- the first n bytes as digits -/
def digs (t : ByteArray) (n : Nat) : List Int := (List.range n).map fun i => byteAt t i - 48
@[simp] theorem digs_length (t : ByteArray) (n : Nat) : (digs t n).length = n := by simp [digs]
theorem digs_succ (t : ByteArray) (n : Nat) : digs t (n + 1) = digs t n ++ [byteAt t n - 48] := by simp [digs, List.range_succ]
theorem digs_mem {t : ByteArray} {n i : Nat} (h : i < n) : byteAt t i - 48 ∈ digs t n := List.mem_map.2 ⟨i, List.mem_range.2 h, rfl⟩
def readKey (M : Mk) (t : ByteArray) : List Int := if MkOk M.c M.d M.s M.m M.l then (if IsK M (digs t t.size) then digs t t.size else []) else []
def readKeyCode (M : Mk) (t : ByteArray) : Int := if MkOk M.c M.d M.s M.m M.l then (if IsK M (digs t t.size) then 0 else 6) else 1
theorem readKey_len (M : Mk) (t : ByteArray) : (readKey M t).length ≤ 1000 := by
  unfold readKey
  split
  · rename_i hm
    split
    · rename_i hk
      have := hk.1
      have := hm.1
      omega
    · simp
  · simp
def impl_readKey_A (m_Chambers : Int) (m_Depths : Int) (m_Step : Int) (m_Same : Int) (m_Least : Int) (t : ByteArray) (w : World) : Nat → Ann := fun κ => match κ with
  | 0 => { σ := Int × Value, sli := [11, 6], slc := fun s => [SV.v (Value.int .i64 s.1), SV.v s.2], bxi := [], bxc := fun s => [], inv := fun s W => True, μ := fun s W => 0, free := true }
  | _ => { σ := Unit, sli := [], slc := fun _ => [], bxi := [], bxc := fun _ => [], inv := fun _ _ => False, μ := fun _ _ => 0 }
abbrev impl_readKey_k0 (t : ByteArray) (s5 : Int × Value) (w6 : World) (J7 : (Int × Value) → World → Prop) (m8 : (Int × Value) → World → Nat) (x9 : Value) (x10 : Int) (w11 : World) : Prop :=
  0 ≤ x10 ∧ ∃ c12 : UInt8, t[x10.toNat]? = some c12 ∧ I64 (c12.toNat : Int) ∧ I64 ((c12.toNat : Int) - 48) ∧ ∀ (v13 : Value) (w14 : World), Own w11.heap.size w14 2 v13 [(Value.int .i64 ((c12.toNat : Int) - 48))] → Ext w11 w14 → AppV w14 2 x9 v13 (fun v15 w16 => I64 (x10 + 1) ∧ ∃ s17 : (Int × Value), (Value.int .i64 (x10 + 1)) = (Value.int .i64 s17.1) ∧ v15 = s17.2 ∧ (J7 s17 w16) ∧ (m8 s17 w16) < (m8 s5 w6))
abbrev impl_readKey_k1 (w : World) (Post : Value → World → Prop) (x24 : Value) (x29 : Int) (x30 : Int) (x31 : Int) (x32 : Int) (x33 : Int) (w34 : World) : Prop :=
  Calls Try.prog 61 #[(Value.agg #[(Value.int .i64 x29), (Value.int .i64 x30), (Value.int .i64 x31), (Value.int .i64 x32), (Value.int .i64 x33)]), x24] w34 (fun e35 w36 => ∃ b37 : Bool, e35 = .returned (Value.bool b37) ∧ Keeps w.heap.size [26] w34 w36 ∧ Post (Value.tuple #[x24, (Value.bool b37)]) w36)
def impl_readKey_vc (m_Chambers : Int) (m_Depths : Int) (m_Step : Int) (m_Same : Int) (m_Least : Int) (t : ByteArray) (w : World) (Post : Value → World → Prop) : Prop :=
  ∀ w1 : World, Ext w w1 → ∀ (v2 : Value) (w3 : World), Own w1.heap.size w3 2 v2 [] → Ext w1 w3 → (∃ (J7 : (Int × Value) → World → Prop) (m8 : (Int × Value) → World → Nat), ((∃ s4 : (Int × Value), (Value.int .i64 0) = (Value.int .i64 s4.1) ∧ v2 = s4.2 ∧ (J7 s4 w3)) ∧ ∀ (s5 : (Int × Value)) (w6 : World), (J7 s5 w6) → (((s5.1 < (t.size : Int)) → (impl_readKey_k0 t s5 w6 J7 m8 s5.2 s5.1 w6)) ∧ (¬ (s5.1 < (t.size : Int)) → (impl_readKey_k1 w Post s5.2 m_Chambers m_Depths m_Step m_Same m_Least w6)))))
theorem impl_readKey_eq (m_Chambers : Int) (m_Depths : Int) (m_Step : Int) (m_Same : Int) (m_Least : Int) (t : ByteArray) (w : World) (Post : Value → World → Prop) : denF Try.prog [] (impl_readKey_A m_Chambers m_Depths m_Step m_Same m_Least t w) 89 [(Value.agg #[(Value.int .i64 m_Chambers), (Value.int .i64 m_Depths), (Value.int .i64 m_Step), (Value.int .i64 m_Same), (Value.int .i64 m_Least)]), (Value.string t)] w Post = impl_readKey_vc m_Chambers m_Depths m_Step m_Same m_Least t w Post := by kernel_rfl
set_option maxRecDepth 100000 in
theorem impl_readKey_calls (m_Chambers : Int) (m_Depths : Int) (m_Step : Int) (m_Same : Int) (m_Least : Int) (t : ByteArray) (w : World) (Post : Value → World → Prop) (hvc : impl_readKey_vc m_Chambers m_Depths m_Step m_Same m_Least t w Post) : Ret Try.prog 89 #[(Value.agg #[(Value.int .i64 m_Chambers), (Value.int .i64 m_Depths), (Value.int .i64 m_Step), (Value.int .i64 m_Same), (Value.int .i64 m_Least)]), (Value.string t)] w Post :=
  Ret.of (denF_sound mixed (Eq.mpr (impl_readKey_eq m_Chambers m_Depths m_Step m_Same m_Least t w Post) hvc))

theorem impl_readKey_ret {M : Mk} (hm : M.Ok) (t : ByteArray) (ht : t.size ≤ 1048576) (w : World) : Ret Try.prog 89 #[mkV M.c M.d M.s M.m M.l, .string t] w fun r w' => ∃ u, r = .tuple #[u, .bool (decide (IsK M (digs t t.size)))] ∧ Own w.heap.size w' 2 u (ints (digs t t.size)) ∧ Ext w w' :=
  impl_readKey_calls M.c M.d M.s M.m M.l t w _ (by
    unfold impl_readKey_vc
    intro w1 h1 v2 w3 o3 h3
    refine ⟨fun s W => ∃ n : Nat, s.1 = n ∧ n ≤ t.size ∧ Own w.heap.size W 2 s.2 (ints (digs t n)) ∧ Ext w W, fun s _ => t.size - s.1.toNat, ⟨(0, v2), rfl, rfl, 0, rfl, Nat.zero_le _, o3.mono h1.size, h1.trans h3⟩, ?_⟩
    rintro ⟨x, v⟩ w4 ⟨n, rfl, hn, o4, h4⟩
    simp only at o4
    refine ⟨fun hlt => ?_, fun hge => ?_⟩
    · simp only at hlt
      obtain ⟨c, hc, hcb⟩ := byteAt_get (t := t) (i := n) (by omega)
      have hr := byteAt_range t n
      refine ⟨by simp only; omega, c, by simp only [Int.toNat_natCast]; exact hc, by unfold I64; omega, by unfold I64; omega, fun v5 w5 o5 h5 => ?_⟩
      have o4' := o4.ext h5
      refine o4'.app1 o5 rfl (by simp; omega) (h4.trans h5).size fun v6 w6 o6 g6 _ => ⟨by unfold I64; simp only; omega, (((n + 1 : Nat) : Int), v6), ieq (by simp), rfl, ⟨n + 1, rfl, by omega, ?_, (h4.trans h5).grown o4' (Nat.le_refl _) g6⟩, by simp only; omega⟩
      simp only
      rw [digs_succ, ints_append, ← hcb]
      exact o6
    · simp only at hge
      have : n = t.size := by omega
      subst this
      exact (impl_isKey_val M.c M.d M.s M.m M.l v _ w4 o4.rd hm).call fun w5 h5 => ⟨_, rfl, h5.keeps, v, rfl, o4.ext h5, h4.trans h5⟩)
abbrev impl_ReadKey_k0 (w : World) (Post : Value → World → Prop) (x10 : ByteArray) (x19 : Int) (x20 : Int) (x21 : Int) (x22 : Int) (x23 : Int) (w24 : World) : Prop :=
  Calls Try.prog 89 #[(Value.agg #[(Value.int .i64 x19), (Value.int .i64 x20), (Value.int .i64 x21), (Value.int .i64 x22), (Value.int .i64 x23)]), (Value.string x10)] w24 (fun e25 w26 => ∃ u27 : Value, ∃ b28 : Bool, e25 = .returned (Value.tuple #[u27, (Value.bool b28)]) ∧ Keeps w.heap.size [26] w24 w26 ∧ (((!b28) = true → Post (Value.tuple #[(Value.slice none 0 0), (Value.int .i64 6)]) w26) ∧ ((!b28) = false → Post (Value.tuple #[u27, (Value.int .i64 0)]) w26)))
def impl_ReadKey_vc (m_Chambers : Int) (m_Depths : Int) (m_Step : Int) (m_Same : Int) (m_Least : Int) (t : ByteArray) (w : World) (Post : Value → World → Prop) : Prop :=
  ∀ w1 : World, Ext w w1 → Calls Try.prog 58 #[(Value.agg #[(Value.int .i64 m_Chambers), (Value.int .i64 m_Depths), (Value.int .i64 m_Step), (Value.int .i64 m_Same), (Value.int .i64 m_Least)])] w1 (fun e2 w3 => ∃ b4 : Bool, e2 = .returned (Value.bool b4) ∧ Keeps w.heap.size [26] w1 w3 ∧ (((!b4) = true → Post (Value.tuple #[(Value.slice none 0 0), (Value.int .i64 1)]) w3) ∧ ((!b4) = false → (impl_ReadKey_k0 w Post t m_Chambers m_Depths m_Step m_Same m_Least w3))))
theorem impl_ReadKey_eq (m_Chambers : Int) (m_Depths : Int) (m_Step : Int) (m_Same : Int) (m_Least : Int) (t : ByteArray) (w : World) (Post : Value → World → Prop) : denF Try.prog [] noAnn 44 [(Value.agg #[(Value.int .i64 m_Chambers), (Value.int .i64 m_Depths), (Value.int .i64 m_Step), (Value.int .i64 m_Same), (Value.int .i64 m_Least)]), (Value.string t)] w Post = impl_ReadKey_vc m_Chambers m_Depths m_Step m_Same m_Least t w Post := by kernel_rfl
set_option maxRecDepth 100000 in
theorem impl_ReadKey_calls (m_Chambers : Int) (m_Depths : Int) (m_Step : Int) (m_Same : Int) (m_Least : Int) (t : ByteArray) (w : World) (Post : Value → World → Prop) (hvc : impl_ReadKey_vc m_Chambers m_Depths m_Step m_Same m_Least t w Post) : Ret Try.prog 44 #[(Value.agg #[(Value.int .i64 m_Chambers), (Value.int .i64 m_Depths), (Value.int .i64 m_Step), (Value.int .i64 m_Same), (Value.int .i64 m_Least)]), (Value.string t)] w Post :=
  Ret.of (denF_sound mixed (Eq.mpr (impl_ReadKey_eq m_Chambers m_Depths m_Step m_Same m_Least t w Post) hvc))

theorem impl_ReadKey_ret (M : Mk) (t : ByteArray) (w : World) (ht : t.size ≤ 1048576) : SlR 44 #[mkV M.c M.d M.s M.m M.l, .string t] w (readKey M t) (readKeyCode M t) :=
  impl_ReadKey_calls M.c M.d M.s M.m M.l t w _ (by
    unfold impl_ReadKey_vc
    intro w1 h1
    refine (impl_IsMaker_val ..).call fun w2 h2 => ⟨_, rfl, h2.keeps, fun hb => ?_, fun hb => ?_⟩
    · have hm := nd_t hb
      unfold readKey readKeyCode
      rw [if_neg hm, if_neg hm]
      exact ⟨_, rfl, Own.nil_ _ _ _, h1.trans h2⟩
    have hm := nd_f hb
    unfold readKey readKeyCode
    rw [if_pos hm, if_pos hm]
    refine (impl_readKey_ret (M := M) hm t ht w2).call ?_
    rintro _ w3 ⟨u, rfl, ou, h3⟩
    refine ⟨u, _, rfl, h3.keeps, fun hb2 => ?_, fun hb2 => ?_⟩
    · rw [if_neg (nd_t hb2), if_neg (nd_t hb2)]
      exact ⟨_, rfl, Own.nil_ _ _ _, (h1.trans h2).trans h3⟩
    · rw [if_pos (nd_f hb2), if_pos (nd_f hb2)]
      exact ⟨u, rfl, ou.mono (h1.trans h2).size, (h1.trans h2).trans h3⟩)
def spec_l02Read_A (t : ByteArray) (w : World) : Nat → Ann := fun κ => match κ with
  | 0 => { σ := Int × Value, sli := [5, 4], slc := fun s => [SV.v (Value.int .i64 s.1), SV.v s.2], bxi := [], bxc := fun s => [], inv := fun s W => True, μ := fun s W => 0, free := true }
  | _ => { σ := Unit, sli := [], slc := fun _ => [], bxi := [], bxc := fun _ => [], inv := fun _ _ => False, μ := fun _ _ => 0 }
abbrev spec_l02Read_k0 (s4 : Int × Value) (w5 : World) (J6 : (Int × Value) → World → Prop) (m7 : (Int × Value) → World → Nat) (x54 : Value) (x55 : Int) (w73 : World) : Prop :=
  I64 (x55 + 1) ∧ ∃ s74 : (Int × Value), (Value.int .i64 (x55 + 1)) = (Value.int .i64 s74.1) ∧ x54 = s74.2 ∧ (J6 s74 w73) ∧ (m7 s74 w73) < (m7 s4 w5)
abbrev spec_l02Read_k1 (t : ByteArray) (s4 : Int × Value) (w5 : World) (J6 : (Int × Value) → World → Prop) (m7 : (Int × Value) → World → Nat) (x37 : Value) (x38 : Int) (w48 : World) : Prop :=
  0 ≤ x38 ∧ ∃ c49 : UInt8, t[x38.toNat]? = some c49 ∧ I64 (IntKind.wrap .u8 ((c49.toNat : Int) - 48)) ∧ ∀ (v50 : Value) (w51 : World), Own w48.heap.size w51 2 v50 [(Value.int .i64 (IntKind.wrap .u8 ((c49.toNat : Int) - 48)))] → Ext w48 w51 → AppV w51 2 x37 v50 (fun v52 w53 => (spec_l02Read_k0 s4 w5 J6 m7 v52 x38 w53))
abbrev spec_l02Read_k2 (t : ByteArray) (Post : Value → World → Prop) (s4 : Int × Value) (w5 : World) (J6 : (Int × Value) → World → Prop) (m7 : (Int × Value) → World → Nat) (c24 : UInt8) (x25 : Value) (x26 : Int) (w36 : World) : Prop :=
  ((((57 : Int) < (c24.toNat : Int)) → Post (Value.tuple #[(Value.slice none 0 0), (Value.bool false)]) w36) ∧ (¬ ((57 : Int) < (c24.toNat : Int)) → (spec_l02Read_k1 t s4 w5 J6 m7 x25 x26 w36)))
abbrev spec_l02Read_k3 (t : ByteArray) (Post : Value → World → Prop) (s4 : Int × Value) (w5 : World) (J6 : (Int × Value) → World → Prop) (m7 : (Int × Value) → World → Nat) (x8 : Value) (x9 : Int) (w13 : World) : Prop :=
  0 ≤ x9 ∧ ∃ c14 : UInt8, t[x9.toNat]? = some c14 ∧ ((((c14.toNat : Int) < (48 : Int)) → Post (Value.tuple #[(Value.slice none 0 0), (Value.bool false)]) w13) ∧ (¬ ((c14.toNat : Int) < (48 : Int)) → 0 ≤ x9 ∧ ∃ c24 : UInt8, t[x9.toNat]? = some c24 ∧ (spec_l02Read_k2 t Post s4 w5 J6 m7 c24 x8 x9 w13)))
def spec_l02Read_vc (t : ByteArray) (w : World) (Post : Value → World → Prop) : Prop :=
  ∀ (v1 : Value) (w2 : World), Own w.heap.size w2 2 v1 [] → Ext w w2 → (∃ (J6 : (Int × Value) → World → Prop) (m7 : (Int × Value) → World → Nat), ((∃ s3 : (Int × Value), (Value.int .i64 0) = (Value.int .i64 s3.1) ∧ v1 = s3.2 ∧ (J6 s3 w2)) ∧ ∀ (s4 : (Int × Value)) (w5 : World), (J6 s4 w5) → (((s4.1 < (t.size : Int)) → (spec_l02Read_k3 t Post s4 w5 J6 m7 s4.2 s4.1 w5)) ∧ (¬ (s4.1 < (t.size : Int)) → Post (Value.tuple #[s4.2, (Value.bool true)]) w5))))
theorem spec_l02Read_eq (t : ByteArray) (w : World) (Post : Value → World → Prop) : denF Try.prog [] (spec_l02Read_A t w) 88 [(Value.string t)] w Post = spec_l02Read_vc t w Post := by kernel_rfl
set_option maxRecDepth 100000 in
theorem spec_l02Read_calls (t : ByteArray) (w : World) (Post : Value → World → Prop) (hvc : spec_l02Read_vc t w Post) : Ret Try.prog 88 #[(Value.string t)] w Post :=
  Ret.of (denF_sound mixed (Eq.mpr (spec_l02Read_eq t w Post) hvc))

theorem spec_l02Read_ret (t : ByteArray) (ht : t.size ≤ 1048576) (w : World) : Ret Try.prog 88 #[.string t] w fun r w' => Ext w w' ∧ ((∃ u, r = .tuple #[u, .bool true] ∧ Own w.heap.size w' 2 u (ints (digs t t.size))) ∨ (r = .tuple #[.slice none 0 0, .bool false] ∧ ∃ i, i < t.size ∧ (byteAt t i < 48 ∨ 57 < byteAt t i))) :=
  spec_l02Read_calls t w _ (by
    unfold spec_l02Read_vc
    intro v2 w3 o3 h3
    refine ⟨fun s W => ∃ n : Nat, s.1 = n ∧ n ≤ t.size ∧ Own w.heap.size W 2 s.2 (ints (digs t n)) ∧ Ext w W, fun s _ => t.size - s.1.toNat, ⟨(0, v2), rfl, rfl, 0, rfl, Nat.zero_le _, o3, h3⟩, ?_⟩
    rintro ⟨x, v⟩ w4 ⟨n, rfl, hn, o4, h4⟩
    simp only at o4
    refine ⟨fun hlt => ?_, fun hge => ?_⟩
    · simp only at hlt
      obtain ⟨c, hc, hcb⟩ := byteAt_get (t := t) (i := n) (by omega)
      have hr := byteAt_range t n
      refine ⟨by simp only; omega, c, by simp only [Int.toNat_natCast]; exact hc, fun hlo => ⟨h4, .inr ⟨rfl, n, by omega, by omega⟩⟩, fun hlo => ⟨by simp only; omega, c, by simp only [Int.toNat_natCast]; exact hc, fun hhi => ⟨h4, .inr ⟨rfl, n, by omega, by omega⟩⟩, fun hhi => ?_⟩⟩
      have hw : IntKind.wrap .u8 ((c.toNat : Int) - 48) = byteAt t n - 48 := by
        rw [hcb]
        exact IntWalk.u8_in _ ⟨by omega, by omega⟩
      refine ⟨by simp only; omega, c, by simp only [Int.toNat_natCast]; exact hc, ?_⟩
      rw [hw]
      refine ⟨by unfold I64; omega, fun v5 w5 o5 h5 => ?_⟩
      have o4' := o4.ext h5
      refine o4'.app1 o5 rfl (by simp; omega) (h4.trans h5).size fun v6 w6 o6 g6 _ => ⟨by unfold I64; simp only; omega, (((n + 1 : Nat) : Int), v6), ieq (by simp), rfl, ⟨n + 1, rfl, by omega, ?_, (h4.trans h5).grown o4' (Nat.le_refl _) g6⟩, by simp only; omega⟩
      simp only
      rw [digs_succ, ints_append]
      exact o6
    · simp only at hge
      have : n = t.size := by omega
      subst this
      exact ⟨h4, .inl ⟨v, rfl, o4⟩⟩)
abbrev spec_ReadKey_k0 (Post : Value → World → Prop) (n62 : Int) (x70 : Value) (w100 : World) : Prop :=
  (((n62 ≠ (0 : Int)) → Post (Value.tuple #[(Value.slice none 0 0), (Value.int .i64 6)]) w100) ∧ (¬ (n62 ≠ (0 : Int)) → Post (Value.tuple #[x70, (Value.int .i64 0)]) w100))
abbrev spec_ReadKey_k1 (w : World) (Post : Value → World → Prop) (x10 : ByteArray) (x19 : Int) (x20 : Int) (x21 : Int) (x22 : Int) (x23 : Int) (w24 : World) : Prop :=
  Calls Try.prog 88 #[(Value.string x10)] w24 (fun e25 w26 => ∃ u27 : Value, ∃ b28 : Bool, e25 = .returned (Value.tuple #[u27, (Value.bool b28)]) ∧ Keeps w.heap.size [26] w24 w26 ∧ (((!b28) = true → Post (Value.tuple #[(Value.slice none 0 0), (Value.int .i64 6)]) w26) ∧ ((!b28) = false → Calls Try.prog 60 #[(Value.agg #[(Value.int .i64 x19), (Value.int .i64 x20), (Value.int .i64 x21), (Value.int .i64 x22), (Value.int .i64 x23)]), u27] w26 (fun e60 w61 => ∃ n62 : Int, e60 = .returned (Value.int .i64 n62) ∧ Keeps w.heap.size [26] w26 w61 ∧ (spec_ReadKey_k0 Post n62 u27 w61)))))
def spec_ReadKey_vc (m_Chambers : Int) (m_Depths : Int) (m_Step : Int) (m_Same : Int) (m_Least : Int) (t : ByteArray) (w : World) (Post : Value → World → Prop) : Prop :=
  ∀ w1 : World, Ext w w1 → Calls Try.prog 56 #[(Value.agg #[(Value.int .i64 m_Chambers), (Value.int .i64 m_Depths), (Value.int .i64 m_Step), (Value.int .i64 m_Same), (Value.int .i64 m_Least)])] w1 (fun e2 w3 => ∃ b4 : Bool, e2 = .returned (Value.bool b4) ∧ Keeps w.heap.size [26] w1 w3 ∧ (((!b4) = true → Post (Value.tuple #[(Value.slice none 0 0), (Value.int .i64 1)]) w3) ∧ ((!b4) = false → (spec_ReadKey_k1 w Post t m_Chambers m_Depths m_Step m_Same m_Least w3))))
theorem spec_ReadKey_eq (m_Chambers : Int) (m_Depths : Int) (m_Step : Int) (m_Same : Int) (m_Least : Int) (t : ByteArray) (w : World) (Post : Value → World → Prop) : denF Try.prog [] noAnn 43 [(Value.agg #[(Value.int .i64 m_Chambers), (Value.int .i64 m_Depths), (Value.int .i64 m_Step), (Value.int .i64 m_Same), (Value.int .i64 m_Least)]), (Value.string t)] w Post = spec_ReadKey_vc m_Chambers m_Depths m_Step m_Same m_Least t w Post := by kernel_rfl
set_option maxRecDepth 100000 in
theorem spec_ReadKey_calls (m_Chambers : Int) (m_Depths : Int) (m_Step : Int) (m_Same : Int) (m_Least : Int) (t : ByteArray) (w : World) (Post : Value → World → Prop) (hvc : spec_ReadKey_vc m_Chambers m_Depths m_Step m_Same m_Least t w Post) : Ret Try.prog 43 #[(Value.agg #[(Value.int .i64 m_Chambers), (Value.int .i64 m_Depths), (Value.int .i64 m_Step), (Value.int .i64 m_Same), (Value.int .i64 m_Least)]), (Value.string t)] w Post :=
  Ret.of (denF_sound mixed (Eq.mpr (spec_ReadKey_eq m_Chambers m_Depths m_Step m_Same m_Least t w Post) hvc))

theorem spec_ReadKey_ret (M : Mk) (t : ByteArray) (w : World) (ht : t.size ≤ 1048576) : SlR 43 #[mkV M.c M.d M.s M.m M.l, .string t] w (readKey M t) (readKeyCode M t) :=
  spec_ReadKey_calls M.c M.d M.s M.m M.l t w _ (by
    unfold spec_ReadKey_vc
    intro w1 h1
    refine (spec_IsMaker_val ..).call fun w2 h2 => ⟨_, rfl, h2.keeps, fun hb => ?_, fun hb => ?_⟩
    · have hm := nd_t hb
      unfold readKey readKeyCode
      rw [if_neg hm, if_neg hm]
      exact ⟨_, rfl, Own.nil_ _ _ _, h1.trans h2⟩
    have hm := nd_f hb
    unfold readKey readKeyCode
    rw [if_pos hm, if_pos hm]
    refine (spec_l02Read_ret t ht w2).call ?_
    rintro _ w3 ⟨h3, ⟨u, rfl, ou⟩ | ⟨rfl, i, hi, hbad⟩⟩
    · refine ⟨u, _, rfl, h3.keeps, fun hb2 => (by cases hb2), fun _ => ?_⟩
      refine (spec_l02Fault_val M.c M.d M.s M.m M.l u _ w3 ou.rd hm).call fun w4 h4 => ⟨_, rfl, h4.keeps, fun hne => ?_, fun he => ?_⟩
      · have hn : ¬ IsK M (digs t t.size) := fun hk => hne (fault_zero.2 hk)
        rw [if_neg hn, if_neg hn]
        exact ⟨_, rfl, Own.nil_ _ _ _, ((h1.trans h2).trans h3).trans h4⟩
      · have hk : IsK M (digs t t.size) := fault_zero.1 (Classical.not_not.1 he)
        rw [if_pos hk, if_pos hk]
        exact ⟨u, rfl, (ou.mono (h1.trans h2).size).ext h4, ((h1.trans h2).trans h3).trans h4⟩
    · refine ⟨_, _, rfl, h3.keeps, fun _ => ?_, fun hb2 => (by cases hb2)⟩
      have hn : ¬ IsK M (digs t t.size) := fun hk => by
        have := hk.2.1 _ (digs_mem hi)
        have := hm.2.1
        omega
      rw [if_neg hn, if_neg hn]
      exact ⟨_, rfl, Own.nil_ _ _ _, (h1.trans h2).trans h3⟩)
theorem wf_i64 {n : Int} (h : (Lit.int .i64 n).wf = true) : I64 n := bounds_i64 h
end Go.Proofs
