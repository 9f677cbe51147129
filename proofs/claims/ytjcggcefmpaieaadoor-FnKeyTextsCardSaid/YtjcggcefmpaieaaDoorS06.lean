/- A key as a text: contracts of both. No condition. -/
import Derived.Test.YtjcggcefmpaieaaDoorS04
import Derived.Test.YtjcggcefmpaieaaDoorL03a
import Derived.Test.YtjcggcefmpaieaaDoorL02f
set_option linter.unusedVariables false
namespace Go.Proofs
open Go.Sx Go.RowKit Go.Tx

/-- a slice of bytes reads as a text -/
theorem rd_byt {w : World} {v : Value} {l : List UInt8} (h : Rd w v (l.map fun b => Value.int .u8 (b.toNat : Int))) {K : ByteArray → Prop} (hK : K ⟨l.toArray⟩) : BytV w v K := by
  obtain ⟨a, c, rfl, _, _, h3⟩ := h
  rw [List.length_map] at h3 ⊢
  refine ⟨a, c, l, rfl, fun h0 => ?_, hK⟩
  obtain ⟨ad, rfl, hc⟩ := h3 h0
  exact ⟨ad, rfl, fun j hj => hc j _ (by simp [hj])⟩
def dig (z : Int) : UInt8 := UInt8.ofNat (48 + z.toNat)
theorem dig_itoa {z : Int} (h : 0 ≤ z ∧ z < 10) : Lib.itoa z = [dig z] := by
  rw [itoa_pos h.1, dd_small (by omega)]
  rfl
theorem dig_nat {z : Int} (h : 0 ≤ z ∧ z < 10) : IntKind.u8.wrap (48 + z) = ((dig z).toNat : Int) := by
  unfold dig
  rw [digit_nat _ (by omega)]
  simp only [IntKind.wrap, IntKind.bits, IntKind.signed]
  simp
  omega
theorem join_digs {zs : List Int} (h : ∀ z ∈ zs, 0 ≤ z ∧ z < 10) : Lib.join (zs.map Lib.itoa) [] = zs.map dig := by
  match zs with
  | [] => rfl
  | z :: zs =>
    rw [List.map_cons, Lib.join_cons, dig_itoa (h z (by simp)), List.map_cons]
    have : Lib.joinTail [] (zs.map Lib.itoa) = zs.map dig := by
      have h' : ∀ z ∈ zs, 0 ≤ z ∧ z < 10 := fun z hz => h z (List.mem_cons_of_mem _ hz)
      clear h
      unfold Lib.joinTail
      induction zs with
      | nil => rfl
      | cons y ys ih =>
        have := ih fun z hz => h' z (List.mem_cons_of_mem _ hz)
        rw [List.map_cons, List.map_cons, List.flatten_cons, this, List.nil_append, dig_itoa (h' y (by simp)), List.map_cons]
        rfl
    rw [this]
    rfl
/-- the text of a key's cuts -/
def keyT (M : Mk) (zs : List Int) : List UInt8 := if kCode M [zs] = 0 then zs.map dig else []
def keyV (M : Mk) (zs : List Int) : Value := .tuple #[txt (keyT M zs), .int .i64 (kCode M [zs])]
theorem key_digs {M : Mk} {zs : List Int} (h : kCode M [zs] = 0) : (∀ z ∈ zs, 0 ≤ z ∧ z < 10) ∧ zs.length ≤ 6 := by
  obtain ⟨hm, hk⟩ := kCode_zero h
  have hz := hk zs (by simp)
  obtain ⟨m1, m2, m3, m4, m5⟩ := hm
  exact ⟨fun z h => by have := hz.2.1 z h; omega, by have := hz.1; omega⟩
def spec_l02Text_A (v : Value) (w : World) : Nat → Ann := fun κ => match κ with
  | 0 => { σ := Nat × Value, sli := [4, 3], slc := fun s => [SV.v (Value.int .i64 (s.1 : Int)), SV.v s.2], bxi := [], bxc := fun s => [], inv := fun s W => True, μ := fun s W => 0, free := true }
  | _ => { σ := Unit, sli := [], slc := fun _ => [], bxi := [], bxc := fun _ => [], inv := fun _ _ => False, μ := fun _ _ => 0 }
abbrev spec_l02Text_k0 (v : Value) (s4 : Nat × Value) (w5 : World) (J6 : (Nat × Value) → World → Prop) (m7 : (Nat × Value) → World → Nat) (x9 : Value) (x10 : Int) (w14 : World) : Prop :=
  IxV 1 v x10 (fun ad15 => ∃ n16 : Int, LdV w14 (Value.pointer (some ad15)) (Value.int .i64 n16) ∧ I64 (48 + n16) ∧ ∀ (v17 : Value) (w18 : World), Sx.Own w14.heap.size w18 5 v17 [(Value.int .u8 (IntKind.wrap .u8 (48 + n16)))] → Ext w14 w18 → AppV w18 5 x9 v17 (fun v19 w20 => I64 (x10 + 1) ∧ ∃ s21 : (Nat × Value), (Value.int .i64 (x10 + 1)) = (Value.int .i64 (s21.1 : Int)) ∧ v19 = s21.2 ∧ (J6 s21 w20) ∧ (m7 s21 w20) < (m7 s4 w5)))
abbrev spec_l02Text_k1 (Post : Value → World → Prop) (x24 : Value) (w30 : World) : Prop :=
  BytV w30 x24 (fun s31 => Post (Value.string s31) w30)
def spec_l02Text_vc (v : Value) (w : World) (Post : Value → World → Prop) : Prop :=
  ∀ (v1 : Value) (w2 : World), Sx.Own w.heap.size w2 5 v1 [] → Ext w w2 → (∃ (J6 : (Nat × Value) → World → Prop) (m7 : (Nat × Value) → World → Nat), ((∃ s3 : (Nat × Value), (Value.int .i64 0) = (Value.int .i64 (s3.1 : Int)) ∧ v1 = s3.2 ∧ (J6 s3 w2)) ∧ ∀ (s4 : (Nat × Value)) (w5 : World), (J6 s4 w5) → LenV v (fun n8 => ((((s4.1 : Int) < n8) → (spec_l02Text_k0 v s4 w5 J6 m7 s4.2 (s4.1 : Int) w5)) ∧ (¬ ((s4.1 : Int) < n8) → (spec_l02Text_k1 Post s4.2 w5))))))
theorem spec_l02Text_eq (v : Value) (w : World) (Post : Value → World → Prop) : denF Tryd.prog [] (spec_l02Text_A v w) 58 [v] w Post = spec_l02Text_vc v w Post := by kernel_rfl
set_option maxRecDepth 100000 in
theorem spec_l02Text_calls (v : Value) (w : World) (Post : Value → World → Prop) (hvc : spec_l02Text_vc v w Post) : Ret Tryd.prog 58 #[v] w Post :=
  Ret.of (denF_sound mixed (Eq.mpr (spec_l02Text_eq v w Post) hvc))

theorem spec_l02Text_val (v : Value) (zs : List Int) (w : World) (hv : RI w v zs) (hz : ∀ z ∈ zs, 0 ≤ z ∧ z < 10) (hl : zs.length ≤ 1000) : Val Tryd.prog 58 #[v] w (txt (zs.map dig)) :=
  Ret.val (spec_l02Text_calls v w _ (by
    unfold spec_l02Text_vc
    intro u w1 o1 h1
    refine ⟨fun s W => s.1 ≤ zs.length ∧ Own w.heap.size W 5 s.2 (((zs.take s.1).map dig).map fun b => Value.int .u8 (b.toNat : Int)) ∧ Ext w W, fun s _ => zs.length - s.1, ⟨(0, u), rfl, rfl, Nat.zero_le _, o1, h1⟩, ?_⟩
    rintro ⟨k, a⟩ w2 ⟨hk, o2, h2⟩
    simp only at hk o2
    refine (hv.ext h2).len ⟨fun hlt => ?_, fun hge => ?_⟩
    · simp only at hlt
      have hk' : k < zs.length := by omega
      have hzk := hz _ (List.getElem_mem hk')
      unfold spec_l02Text_k0
      refine (hv.ext h2).get k rfl hk' ⟨by unfold I64; omega, fun x w3 o3 h3 => ?_⟩
      have k3 := h2.trans h3
      refine (o2.ext h3).app1 o3 rfl (by rw [List.length_map, List.length_map, List.length_take]; omega) k3.size fun v' w4 o4 g4 _ => ⟨by unfold I64; omega, (k + 1, v'), rfl, rfl, ⟨hk', ?_, k3.grown (o2.ext h3) (Nat.le_refl _) g4⟩, by simp only; omega⟩
      simp only
      rw [take_snoc zs k hk', List.map_append, List.map_append, List.map_cons, List.map_nil, List.map_cons, List.map_nil, ← dig_nat hzk]
      exact o4
    · simp only at hge
      obtain rfl : k = zs.length := by omega
      rw [List.take_length] at o2
      exact rd_byt o2.rd ⟨rfl, h2⟩))
abbrev spec_KeyText_k0 (w : World) (Post : Value → World → Prop) (x10 : Value) (w27 : World) : Prop :=
  Calls Tryd.prog 58 #[x10] w27 (fun e28 w29 => ∃ s30 : ByteArray, e28 = .returned (Value.string s30) ∧ Keeps w.heap.size [39] w27 w29 ∧ Post (Value.tuple #[(Value.string s30), (Value.int .i64 0)]) w29)
def spec_KeyText_vc (m_Chambers : Int) (m_Depths : Int) (m_Step : Int) (m_Same : Int) (m_Least : Int) (v : Value) (w : World) (Post : Value → World → Prop) : Prop :=
  ∀ w1 : World, Ext w w1 → Calls Tryd.prog 57 #[(Value.agg #[(Value.int .i64 m_Chambers), (Value.int .i64 m_Depths), (Value.int .i64 m_Step), (Value.int .i64 m_Same), (Value.int .i64 m_Least)]), v] w1 (fun e2 w3 => ∃ n4 : Int, e2 = .returned (Value.int .i64 n4) ∧ Keeps w.heap.size [39] w1 w3 ∧ (((n4 ≠ (0 : Int)) → Post (Value.tuple #[(Value.string (⟨#[]⟩ : ByteArray)), (Value.int .i64 n4)]) w3) ∧ (¬ (n4 ≠ (0 : Int)) → (spec_KeyText_k0 w Post v w3))))
theorem spec_KeyText_eq (m_Chambers : Int) (m_Depths : Int) (m_Step : Int) (m_Same : Int) (m_Least : Int) (v : Value) (w : World) (Post : Value → World → Prop) : denF Tryd.prog [] noAnn 26 [(Value.agg #[(Value.int .i64 m_Chambers), (Value.int .i64 m_Depths), (Value.int .i64 m_Step), (Value.int .i64 m_Same), (Value.int .i64 m_Least)]), v] w Post = spec_KeyText_vc m_Chambers m_Depths m_Step m_Same m_Least v w Post := by kernel_rfl
set_option maxRecDepth 100000 in
theorem spec_KeyText_calls (m_Chambers : Int) (m_Depths : Int) (m_Step : Int) (m_Same : Int) (m_Least : Int) (v : Value) (w : World) (Post : Value → World → Prop) (hvc : spec_KeyText_vc m_Chambers m_Depths m_Step m_Same m_Least v w Post) : Ret Tryd.prog 26 #[(Value.agg #[(Value.int .i64 m_Chambers), (Value.int .i64 m_Depths), (Value.int .i64 m_Step), (Value.int .i64 m_Same), (Value.int .i64 m_Least)]), v] w Post :=
  Ret.of (denF_sound mixed (Eq.mpr (spec_KeyText_eq m_Chambers m_Depths m_Step m_Same m_Least v w Post) hvc))

theorem spec_KeyText_val (M : Mk) (v : Value) (zs : List Int) (w : World) (hv : RI w v zs) : Val Tryd.prog 26 #[mkV M.c M.d M.s M.m M.l, v] w (keyV M zs) :=
  Ret.val (spec_KeyText_calls M.c M.d M.s M.m M.l v w _ (by
    unfold spec_KeyText_vc
    intro w1 h1
    refine (spec_l02Code_val M v zs w1 (hv.ext h1)).call fun w2 h2 => ⟨_, rfl, h2.keeps, fun hne => ⟨?_, h1.trans h2⟩, fun hz => ?_⟩
    · unfold keyV keyT
      rw [if_neg hne]
    · have hz : kCode M [zs] = 0 := Classical.not_not.1 hz
      obtain ⟨hd, hl⟩ := key_digs hz
      refine (spec_l02Text_val v zs w2 ((hv.ext h1).ext h2) hd (by omega)).call fun w3 h3 => ⟨_, rfl, h3.keeps, ?_, (h1.trans h2).trans h3⟩
      unfold keyV keyT
      rw [if_pos hz, hz]))
abbrev impl_KeyText_k0 (w : World) (Post : Value → World → Prop) (x12 : Value) (w30 : World) : Prop :=
  Calls Tryd.prog 41 #[x12, (Value.string (⟨#[]⟩ : ByteArray))] w30 (fun e31 w32 => ∃ s33 : ByteArray, e31 = .returned (Value.string s33) ∧ Keeps w.heap.size [39] w30 w32 ∧ Post (Value.tuple #[(Value.string s33), (Value.int .i64 0)]) w32)
def impl_KeyText_vc (m_Chambers : Int) (m_Depths : Int) (m_Step : Int) (m_Same : Int) (m_Least : Int) (v : Value) (w : World) (Post : Value → World → Prop) : Prop :=
  ∀ w1 : World, Ext w w1 → oneC v (∀ (v2 : Value) (w3 : World), Sx.Own w1.heap.size w3 24 v2 [v] → Ext w1 w3 → Calls Tryd.prog 59 #[(Value.agg #[(Value.int .i64 m_Chambers), (Value.int .i64 m_Depths), (Value.int .i64 m_Step), (Value.int .i64 m_Same), (Value.int .i64 m_Least)]), v2] w3 (fun e4 w5 => ∃ n6 : Int, e4 = .returned (Value.int .i64 n6) ∧ Keeps w.heap.size [39] w3 w5 ∧ (((n6 ≠ (0 : Int)) → Post (Value.tuple #[(Value.string (⟨#[]⟩ : ByteArray)), (Value.int .i64 n6)]) w5) ∧ (¬ (n6 ≠ (0 : Int)) → (impl_KeyText_k0 w Post v w5)))))
theorem impl_KeyText_eq (m_Chambers : Int) (m_Depths : Int) (m_Step : Int) (m_Same : Int) (m_Least : Int) (v : Value) (w : World) (Post : Value → World → Prop) : denF Tryd.prog [] noAnn 27 [(Value.agg #[(Value.int .i64 m_Chambers), (Value.int .i64 m_Depths), (Value.int .i64 m_Step), (Value.int .i64 m_Same), (Value.int .i64 m_Least)]), v] w Post = impl_KeyText_vc m_Chambers m_Depths m_Step m_Same m_Least v w Post := by kernel_rfl
set_option maxRecDepth 100000 in
theorem impl_KeyText_calls (m_Chambers : Int) (m_Depths : Int) (m_Step : Int) (m_Same : Int) (m_Least : Int) (v : Value) (w : World) (Post : Value → World → Prop) (hvc : impl_KeyText_vc m_Chambers m_Depths m_Step m_Same m_Least v w Post) : Ret Tryd.prog 27 #[(Value.agg #[(Value.int .i64 m_Chambers), (Value.int .i64 m_Depths), (Value.int .i64 m_Step), (Value.int .i64 m_Same), (Value.int .i64 m_Least)]), v] w Post :=
  Ret.of (denF_sound mixed (Eq.mpr (impl_KeyText_eq m_Chambers m_Depths m_Step m_Same m_Least v w Post) hvc))

theorem impl_KeyText_val (M : Mk) (v : Value) (zs : List Int) (w : World) (hv : RI w v zs) (hg : Gl w) : Val Tryd.prog 27 #[mkV M.c M.d M.s M.m M.l, v] w (keyV M zs) :=
  Ret.val (impl_KeyText_calls M.c M.d M.s M.m M.l v w _ (by
    unfold impl_KeyText_vc
    intro w1 h1
    refine (hv.oneC (fun x w2 o2 h2 => ?_))
    have k2 := h1.trans h2
    refine (impl_keysCode_val M x [zs] w2 (RR.one1 o2 (hv.ext k2))).call fun w3 h3 => ⟨_, rfl, h3.keeps, fun hne => ⟨?_, k2.trans h3⟩, fun hz => ?_⟩
    · unfold keyV keyT
      rw [if_neg hne]
    · have hz : kCode M [zs] = 0 := Classical.not_not.1 hz
      obtain ⟨hd, hl⟩ := key_digs hz
      have k3 := k2.trans h3
      unfold impl_KeyText_k0
      refine (impl_joined_val v zs ⟨#[]⟩ w3 (hv.ext k3) (fun z h => by have := hd z h; unfold I64; omega) (by omega) (by decide) (hg.ext k3)).call fun w4 h4 => ⟨_, rfl, h4.keeps, ?_, k3.trans h4⟩
      unfold keyV keyT
      rw [if_pos hz, hz]
      have : (⟨#[]⟩ : ByteArray).data.toList = [] := rfl
      rw [this, join_digs hd]))
end Go.Proofs
