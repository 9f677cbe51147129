/- Contracts: the program's key with a rank; the keys with a text. No condition. -/
import Derived.Test.YtccekkkiaebnmaaL02e
set_option linter.unusedVariables false
namespace Go.Proofs
open Go.Sx Go.RowKit
theorem vis_congr {α : Type} {go go' : List α → α → Bool} : ∀ {l done : List α} (n : Nat), (∀ d k, d.length < n → go d k = go' d k) → done.length + l.length ≤ n → vis go done l = vis go' done l
  | [], _, _, _, _ => rfl
  | k :: l, done, n, h, hn => by
    simp only [List.length_cons] at hn
    simp only [vis]
    rw [h done k (by omega), vis_congr (l := l) (done := done ++ [k]) n h (by simp; omega)]
/-- what is left of a rank, in int64 -/
def rk (r : Int) (n : Nat) : Int := IntKind.wrap .i64 (r - n)
theorem rk_succ (r : Int) (n : Nat) : IntKind.wrap .i64 (rk r n - 1) = rk r (n + 1) := by
  unfold rk
  rw [IntKind.wrap_i64, IntKind.wrap_i64, IntKind.wrap_i64]
  omega
theorem rk_zero {r : Int} (h : I64 r) {n : Nat} (hn : n ≤ 1000000) : rk r n = 0 ↔ r = n := by
  unfold rk
  rw [IntKind.wrap_i64]
  unfold I64 at h
  omega
theorem rk_pos {r : Int} (h : I64 r) (h0 : 0 ≤ r) {n : Nat} (hn : n ≤ 1000000) : rk r n = r - n := by
  unfold rk
  rw [IntKind.wrap_i64]
  unfold I64 at h
  omega
abbrev impl_KeyAt_1_k0 (w : World) (Post : Value → World → Prop) (x7 : Addr) (w12 : World) : Prop :=
  ∃ n13 : Int, LdV w12 (Value.pointer (some x7)) (Value.int .i64 n13) ∧ StV w.heap.size [] w12 (Value.pointer (some x7)) (Value.int .i64 (IntKind.wrap .i64 (n13 - 1))) (fun w14 => ∃ n15 : Int, LdV w14 (Value.pointer (some x7)) (Value.int .i64 n15) ∧ Post (Value.bool (decide ((0 : Int) ≤ n15))) w14)
def impl_KeyAt_1_vc (k : Value) (b0 : Nat) (b1 : Nat) (w : World) (Post : Value → World → Prop) : Prop :=
  ∃ n1 : Int, LdV w (Value.pointer (some (⟨b0, 0, none⟩))) (Value.int .i64 n1) ∧ (((n1 = (0 : Int)) → Calls Try.prog 94 #[k] w (fun e2 w3 => ∃ u4 : Value, e2 = .returned u4 ∧ Keeps w.heap.size [] w w3 ∧ StV w.heap.size [] w3 (Value.pointer (some (⟨b1, 0, none⟩))) u4 (fun w5 => (impl_KeyAt_1_k0 w Post (⟨b0, 0, none⟩) w5)))) ∧ (¬ (n1 = (0 : Int)) → (impl_KeyAt_1_k0 w Post (⟨b0, 0, none⟩) w)))
theorem impl_KeyAt_1_eq (k : Value) (b0 : Nat) (b1 : Nat) (w : World) (Post : Value → World → Prop) : denF Try.prog [9000000] noAnn 93 [k, (Value.pointer (some (⟨b0, 0, none⟩))), (Value.pointer (some (⟨b1, 0, none⟩)))] w Post = impl_KeyAt_1_vc k b0 b1 w Post := by kernel_rfl
set_option maxRecDepth 100000 in
theorem impl_KeyAt_1_calls (k : Value) (b0 : Nat) (b1 : Nat) (w : World) (Post : Value → World → Prop) (hvc : impl_KeyAt_1_vc k b0 b1 w Post) : Ret Try.prog 93 #[k, (Value.pointer (some (⟨b0, 0, none⟩))), (Value.pointer (some (⟨b1, 0, none⟩)))] w Post :=
  Ret.of (denF_sound mixed (Eq.mpr (impl_KeyAt_1_eq k b0 b1 w Post) hvc))

def keyAtJ (B b0 b1 : Nat) (r : Int) : (Nat → Prop) → List (List Int) → World → Prop := fun K done w =>
  ¬ K b0 ∧ ¬ K b1 ∧ w.heap[b0]? = some (.cells #[.int .i64 (rk r done.length)] 2 (0, 0)) ∧ ∃ v, w.heap[b1]? = some (.cells #[v] 36 (0, 0)) ∧
    (∀ g, v.ownBlock = some g → ¬ K g) ∧ Own B w 2 v (ints ((if 0 ≤ r then done[r.toNat]? else none).getD [])) ∧ ((if 0 ≤ r then done[r.toNat]? else none) = none → v = .slice none 0 0) ∧ v.ownBlock ≠ some b0
theorem keyAt_visitor (B b0 b1 : Nat) (hB : B ≤ b0) (hne : b0 ≠ b1) {r : Int} (hr : I64 r) {L : List (List Int)} (hL : L.length ≤ 262144) (hk : ∀ k ∈ L, k ≠ [] ∧ k.length ≤ 100) : Visitor Try.prog 93 [bp b0, bp b1] (keyAtJ B b0 b1 r) (fun done _ => decide (0 ≤ rk r (done.length + 1))) L where
  ok := by kernel_rfl
  env := by
    rintro K done w w' ⟨h1, h2, h3, v, h4, h5, h6, h7, h8⟩ hp
    refine ⟨fun hg => hg.elim h1 fun hg => absurd (heap_lt h3) (by omega), fun hg => hg.elim h2 fun hg => absurd (heap_lt h4) (by omega), (hp.block _ (heap_lt h3) h1).trans h3, v, (hp.block _ (heap_lt h4) h2).trans h4, fun g hg hgr => ?_, h6.keep fun g hg => hp.block g (h6.lt hg).2 (h5 g hg), h7, h8⟩
    rcases hgr with hgr | hgr
    · exact h5 g hg hgr
    · have := (h6.lt hg).2
      omega
  call := by
    rintro K done k w v ⟨h1, h2, h3, fv, h4, h5, h6, h7, h8⟩ hK hv ⟨rr, hrr⟩
    have hlen := congrArg List.length hrr
    simp only [List.length_append, List.length_cons] at hlen
    obtain ⟨hk1, hk2⟩ := hk k (by rw [hrr]; simp)
    have hz0 := heap_lt h3
    refine (impl_KeyAt_1_calls v b0 b1 w (fun u w' => u = .bool (decide (0 ≤ rk r (done.length + 1))) ∧ Pres K w w' ∧ keyAtJ B b0 b1 r K (done ++ [k]) w') ?_).call fun u w' h => ⟨by rw [h.1], h.2⟩
    unfold impl_KeyAt_1_vc
    have tail : ∀ (W : World) (fv' : Value), Pres K w W → W.heap[b0]? = some (.cells #[.int .i64 (rk r done.length)] 2 (0, 0)) → W.heap[b1]? = some (.cells #[fv'] 36 (0, 0)) → (∀ g, fv'.ownBlock = some g → ¬ K g) → Own B W 2 fv' (ints ((if 0 ≤ r then (done ++ [k])[r.toNat]? else none).getD [])) → ((if 0 ≤ r then (done ++ [k])[r.toNat]? else none) = none → fv' = .slice none 0 0) → fv'.ownBlock ≠ some b0 →
        impl_KeyAt_1_k0 w (fun u w' => u = .bool (decide (0 ≤ rk r (done.length + 1))) ∧ Pres K w w' ∧ keyAtJ B b0 b1 r K (done ++ [k]) w') ⟨b0, 0, none⟩ W := by
      intro W fv' hp c0 c1 hb ho hn hb0
      refine ⟨_, ld_one c0, st_one c0 rfl (.inr (by simp)) fun w2 d0 p2 z2 => ?_⟩
      rw [rk_succ] at d0
      have d1 := (p2.block b1 (heap_lt c1) (Ne.symm hne)).trans c1
      refine ⟨_, ld_one d0, rfl, hp.trans (p2.mono fun b _ hb => ?_), h1, h2, ?_, fv', d1, hb, ho.keep fun g hg => p2.block g (ho.lt hg).2 (by rintro rfl; exact hb0 hg), hn, hb0⟩
      · rintro rfl
        exact h1 hb
      · rw [List.length_append]
        exact d0
    refine ⟨_, ld_one h3, fun hz => ?_, fun hz => ?_⟩
    · have hrd : r = done.length := (rk_zero hr (by omega)).1 hz
      refine (slices_Clone_ret v k w (hv w (.refl _ _)) (by omega) hk1).call ?_
      rintro u w2 ⟨ou, e2⟩
      have c0 := (e2.block _ (heap_lt h3)).trans h3
      have c1 := (e2.block _ (heap_lt h4)).trans h4
      refine ⟨u, rfl, e2.keeps, st_one c1 ou.rd.one (.inr (by simp)) fun w3 d1 p3 z3 => ?_⟩
      have hget : (if 0 ≤ r then (done ++ [k])[r.toNat]? else none) = some k := by
        rw [if_pos (by omega), List.getElem?_append_right (by omega), show r.toNat - done.length = 0 by omega]
        rfl
      have hsz := e2.size
      have hub : u.ownBlock ≠ some b1 := own_type_ne ou c1 (by decide)
      refine tail w3 u ((e2.pres K).trans (p3.mono fun b _ hb => ?_)) ((p3.block b0 (heap_lt c0) hne).trans c0) d1 (fun g hg hKg => ?_) ?_ (fun h => by rw [hget] at h; cases h) (fun h => by have := (ou.lt h).1; omega)
      · rintro rfl
        exact h2 hb
      · have := (ou.lt hg).1
        have := hK g hKg
        omega
      · rw [hget]
        exact (ou.mono (show B ≤ w.heap.size by omega)).keep fun g hg => p3.block g (ou.lt hg).2 (by rintro rfl; exact hub hg)
    · have hne2 : r ≠ done.length := fun h => hz ((rk_zero hr (by omega)).2 h)
      have hsame : (if 0 ≤ r then (done ++ [k])[r.toNat]? else none) = (if 0 ≤ r then done[r.toNat]? else none) := by
        split
        · rcases Nat.lt_or_ge r.toNat done.length with h | h
          · rw [List.getElem?_append_left h]
          · rw [List.getElem?_eq_none h, List.getElem?_eq_none (by simp; omega)]
        · rfl
      refine tail w fv (.refl _ _) h3 h4 h5 (by rw [hsame]; exact h6) (by rw [hsame]; exact h7) h8
abbrev impl_KeyAt_k0 (Post : Value → World → Prop) (x42 : Addr) (w62 : World) : Prop :=
  ∃ u63 : Value, LdV w62 (Value.pointer (some x42)) u63 ∧ Post (Value.tuple #[u63, (Value.int .i64 0)]) w62
abbrev impl_KeyAt_k1 (w : World) (Post : Value → World → Prop) (x13 : Addr) (x22 : Int) (x23 : Int) (x24 : Int) (x25 : Int) (x26 : Int) (w27 : World) : Prop :=
  ∀ (b29 : Nat) (w28 : World), Ext w27 w28 → w27.heap.size ≤ b29 → w28.heap[b29]? = some (.cells #[(Value.slice none 0 0)] 36 (0, 0)) → Calls Try.prog 86 #[(Value.agg #[(Value.int .i64 x22), (Value.int .i64 x23), (Value.int .i64 x24), (Value.int .i64 x25), (Value.int .i64 x26)]), (Value.slice none 0 0), Value.nilFunc, (Value.func (.func 93) #[] #[(Value.pointer (some x13)), (Value.pointer (some (⟨b29, 0, none⟩)))])] w28 (fun e30 w31 => e30 = .returned (Value.tuple #[]) ∧ Keeps w.heap.size [25] w28 w31 ∧ ∃ u32 : Value, LdV w31 (Value.pointer (some (⟨b29, 0, none⟩))) u32 ∧ ∃ b33 : Bool, NilS u32 b33 ∧ ((b33 = true → Post (Value.tuple #[(Value.slice none 0 0), (Value.int .i64 4)]) w31) ∧ (b33 = false → (impl_KeyAt_k0 Post (⟨b29, 0, none⟩) w31))))
def impl_KeyAt_vc (m_Chambers : Int) (m_Depths : Int) (m_Step : Int) (m_Same : Int) (m_Least : Int) (rank : Int) (w : World) (Post : Value → World → Prop) : Prop :=
  ∀ w1 : World, Ext w w1 → ∀ (b3 : Nat) (w2 : World), Ext w1 w2 → w1.heap.size ≤ b3 → w2.heap[b3]? = some (.cells #[(Value.int .i64 rank)] 2 (0, 0)) → Calls Try.prog 92 #[(Value.agg #[(Value.int .i64 m_Chambers), (Value.int .i64 m_Depths), (Value.int .i64 m_Step), (Value.int .i64 m_Same), (Value.int .i64 m_Least)])] w2 (fun e4 w5 => ∃ b6 : Bool, e4 = .returned (Value.bool b6) ∧ Keeps w.heap.size [25] w2 w5 ∧ (((!b6) = true → Post (Value.tuple #[(Value.slice none 0 0), (Value.int .i64 1)]) w5) ∧ ((!b6) = false → (impl_KeyAt_k1 w Post (⟨b3, 0, none⟩) m_Chambers m_Depths m_Step m_Same m_Least w5))))
theorem impl_KeyAt_eq (m_Chambers : Int) (m_Depths : Int) (m_Step : Int) (m_Same : Int) (m_Least : Int) (rank : Int) (w : World) (Post : Value → World → Prop) : denF Try.prog [3, 6] noAnn 22 [(Value.agg #[(Value.int .i64 m_Chambers), (Value.int .i64 m_Depths), (Value.int .i64 m_Step), (Value.int .i64 m_Same), (Value.int .i64 m_Least)]), (Value.int .i64 rank)] w Post = impl_KeyAt_vc m_Chambers m_Depths m_Step m_Same m_Least rank w Post := by kernel_rfl
set_option maxRecDepth 100000 in
theorem impl_KeyAt_calls (m_Chambers : Int) (m_Depths : Int) (m_Step : Int) (m_Same : Int) (m_Least : Int) (rank : Int) (w : World) (Post : Value → World → Prop) (hvc : impl_KeyAt_vc m_Chambers m_Depths m_Step m_Same m_Least rank w Post) : Ret Try.prog 22 #[(Value.agg #[(Value.int .i64 m_Chambers), (Value.int .i64 m_Depths), (Value.int .i64 m_Step), (Value.int .i64 m_Same), (Value.int .i64 m_Least)]), (Value.int .i64 rank)] w Post :=
  Ret.of (denF_sound mixed (Eq.mpr (impl_KeyAt_eq m_Chambers m_Depths m_Step m_Same m_Least rank w Post) hvc))

theorem impl_KeyAt_ret (M : Mk) (rank : Int) (w : World) (hr : I64 rank) : SlR 22 #[mkV M.c M.d M.s M.m M.l, .int .i64 rank] w (keyAt M rank) (keyAtCode M rank) :=
  impl_KeyAt_calls M.c M.d M.s M.m M.l rank w _ (by
    unfold impl_KeyAt_vc
    intro w1 h1 b3 w2 h2 g3 c3
    refine (impl_IsMaker_val ..).call fun w3 h3 => ⟨_, rfl, h3.keeps, fun hb => ?_, fun hb => ?_⟩
    · have hm := nd_t hb
      unfold keyAt keyAtCode
      rw [if_neg hm, if_neg hm]
      exact ⟨_, rfl, Own.nil_ _ _ _, (h1.trans h2).trans h3⟩
    have hm' := nd_f hb
    have hm : M.Ok := hm'
    obtain ⟨m1, m2, _⟩ := id hm
    unfold keyAt keyAtCode
    rw [if_pos hm', if_pos hm']
    intro b6 w4 h4 g6 c6
    have z1 := h1.size
    have z2 := h2.size
    have z3 := h3.size
    have z4 := h4.size
    have s3 := heap_lt c3
    have s6 := heap_lt c6
    have c3' : w4.heap[b3]? = _ := ((h3.trans h4).block b3 s3).trans c3
    have X4 := ((h1.trans h2).trans h3).trans h4
    have hmax : (keys M).length ≤ 262144 := G_max (by omega) _ (by omega) _
    have hlen : ∀ k ∈ keys M, k ≠ [] ∧ k.length ≤ 100 := by
      intro k hk
      have := keys_length (M := M) (by omega) hk
      exact ⟨fun h => by rw [h] at this; simp at this; omega, by omega⟩
    have hP : ∀ W, Pres (fun b => b < w4.heap.size ∧ b ≠ b3 ∧ b ≠ b6) w4 W → Ext w W := fun W hp => hp.ext X4 fun b hb => ⟨by omega, by omega, by omega⟩
    have hG : GT M All [] M.c.toNat [] false = keys M := GT_false _ _ _
    have hw0 : rk rank ([] : List (List Int)).length = rank := by
      unfold rk
      rw [List.length_nil, show rank - ((0 : Nat) : Int) = rank by omega, hr.wrap]
    have hc := eachKey_calls (M := M) (al := All) (fr := []) (w := w4) (K0 := fun b => b < w4.heap.size ∧ b ≠ b3 ∧ b ≠ b6) (frv := .slice none 0 0) (alv := .nilFunc) (tight := false) hm
      (keyAt_visitor w.heap.size b3 b6 (by omega) (by omega) hr (L := GT M All [] M.c.toNat [] false) (by rw [hG]; exact hmax) (by rw [hG]; exact hlen)) (AlOk.all _ _ _ _) NilS.nil_ (fun w' _ => RI.nil_ w' 0 (Nat.zero_le _)) (by intro z hz; simp at hz) (by simp) (fun b hb => hb.1)
      ⟨fun h => h.2.1 rfl, fun h => h.2.2 rfl, by rw [hw0]; exact c3', _, c6, fun g hg => by simp [Value.ownBlock] at hg, by simp only [List.getElem?_nil, ite_self, Option.getD_none]; exact Own.nil_ _ _ _, fun _ => rfl, by simp [Value.ownBlock]⟩
    refine hc.mono ?_
    rintro e w5 ⟨rfl, ⟨K, hK, _, _, _, v, c5, hvK, ov, hvn, _⟩, hp⟩
    rw [hG] at ov hvn
    have hkeep : Keeps w.heap.size [25] w4 w5 := hp.keeps fun b cs T fz hb hh hT => by
      refine ⟨heap_lt hh, ?_, ?_⟩
      · rintro rfl
        rw [c3'] at hh
        injection hh with hh
        injection hh with _ he _
        rw [← he] at hT
        exact absurd hT (by decide)
      · rintro rfl
        rw [c6] at hh
        injection hh with hh
        injection hh with _ he _
        rw [← he] at hT
        exact absurd hT (by decide)
    have hfound : (if 0 ≤ rank then (vis (fun done _ => decide (0 ≤ rk rank (done.length + 1))) [] (keys M)).1[rank.toNat]? else none) = keyAtO M rank := by
      unfold keyAtO
      split
      · rename_i h0
        rw [vis_congr (go' := fun d _ => decide (d.length + 1 < rank.toNat + 1)) 262144 (fun d _ hd => ?_) (by simpa using hmax), vis_most _ _ _ (by simp), List.nil_append, List.getElem?_take_of_lt (by simp)]
        rw [rk_pos hr h0 (by omega)]
        exact decide_eq_decide.2 ⟨fun h => by omega, fun h => by omega⟩
      · rfl
    rw [hfound] at ov hvn
    refine ⟨rfl, hkeep, v, ld_one c5, ?_⟩
    cases hk : keyAtO M rank with
    | none =>
      rw [hvn hk]
      exact ⟨true, ⟨_, _, _, rfl, rfl⟩, fun _ => ⟨_, rfl, Own.nil_ _ _ _, hP w5 hp⟩, fun h => (by cases h)⟩
    | some k =>
      rw [hk] at ov
      have hkm : k ∈ keys M := by
        unfold keyAtO at hk
        split at hk
        · exact List.mem_of_getElem? hk
        · cases hk
      have hkl := (hlen k hkm).1
      obtain ⟨a, cc, hve, _, _, h3'⟩ := ov.rd
      have hpos : 0 < (ints k).length := by rw [ints_length]; exact List.length_pos_iff.2 hkl
      obtain ⟨ad, rfl, _⟩ := h3' hpos
      refine ⟨false, ⟨_, _, _, hve, rfl⟩, fun h => (by cases h), fun _ => ⟨v, ld_one c5, v, rfl, ov, hP w5 hp⟩⟩)

/-! ### the key with a text -/
/-- byte i of a text -/
def byteAt (t : ByteArray) (i : Nat) : Int := ((t[i]?.getD 0).toNat : Int)
theorem byteAt_get {t : ByteArray} {i : Nat} (h : i < t.size) : ∃ c : UInt8, t[i]? = some c ∧ (c.toNat : Int) = byteAt t i :=
  ⟨t[i], getElem?_pos t i h, by unfold byteAt; rw [getElem?_pos t i h]; rfl⟩
theorem byteAt_range (t : ByteArray) (i : Nat) : 0 ≤ byteAt t i ∧ byteAt t i < 256 := by
  unfold byteAt
  have := (t[i]?.getD 0).toNat_lt
  omega
/-- the first n bytes as digits -/
def digs (t : ByteArray) (n : Nat) : List Int := (List.range n).map fun i => byteAt t i - 48
@[simp] theorem digs_length (t : ByteArray) (n : Nat) : (digs t n).length = n := by simp [digs]
theorem digs_succ (t : ByteArray) (n : Nat) : digs t (n + 1) = digs t n ++ [byteAt t n - 48] := by simp [digs, List.range_succ]
theorem digs_mem {t : ByteArray} {n i : Nat} (h : i < n) : byteAt t i - 48 ∈ digs t n := List.mem_map.2 ⟨i, List.mem_range.2 h, rfl⟩
def readKey (M : Mk) (t : ByteArray) : List Int := if MkOk M.c M.d M.s M.m M.l then (if IsK M (digs t t.size) then digs t t.size else []) else []
def readKeyCode (M : Mk) (t : ByteArray) : Int := if MkOk M.c M.d M.s M.m M.l then (if IsK M (digs t t.size) then 0 else 6) else 1
theorem readKey_len (M : Mk) (t : ByteArray) : (readKey M t).length ≤ 1000 := by
  unfold readKey
  split
  · rename_i hm
    split
    · rename_i hk
      have := hk.1
      have := hm.1
      omega
    · simp
  · simp
theorem wf_i64 {n : Int} (h : (Lit.int .i64 n).wf = true) : I64 n := bounds_i64 h
end Go.Proofs
