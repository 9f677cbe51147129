/- A list of numbers as a text: contracts of both. No condition. -/
import Derived.Test.YtjcggcefmpaieaaDoorS04
set_option linter.unusedVariables false
namespace Go.Proofs
open Go.Sx Go.RowKit Go.Tx

/-- numbers with commas between them, or a dash -/
def textL (zs : List Int) : List UInt8 := if zs = [] then [45] else Lib.join (zs.map Lib.itoa) [44]
def listT (zs : List Int) : List UInt8 := if Nums zs then textL zs else []
def listC (zs : List Int) : Int := if Nums zs then 0 else 2
def pairT (t : List UInt8) (c : Int) : Value := .tuple #[txt t, .int .i64 c]
theorem join_take (f : Int → List UInt8) (zs : List Int) (sep : List UInt8) {k : Nat} (hk : k < zs.length) :
    Lib.join ((zs.take (k + 1)).map f) sep = (if 0 < k then Lib.join ((zs.take k).map f) sep ++ sep else []) ++ f zs[k] := by
  rw [take_snoc zs k hk, List.map_append, List.map_cons, List.map_nil]
  split
  · rename_i h
    rw [join_snoc]
    intro h0
    have := congrArg List.length h0
    rw [List.length_map, List.length_take, List.length_nil] at this
    omega
  · obtain rfl : k = 0 := by omega
    rw [List.take_zero, List.map_nil, List.nil_append, Lib.join_one, List.nil_append]
theorem itoa13 {n : Int} (h : 0 ≤ n ∧ n ≤ Mx) : (Lib.itoa n).length ≤ 13 := by
  simp only [Mx] at h
  rw [itoa_pos h.1]
  exact dd_length _ 13 (by decide) (by omega)
theorem join13 {zs : List Int} (h : Nums zs) (k : Nat) : (Lib.join ((zs.take k).map Lib.itoa) [44]).length ≤ 2000 := by
  have h1 := join_length (ws := (zs.take k).map Lib.itoa) (sep := [44]) (k := 13) (by
    intro x hx
    obtain ⟨z, hz, rfl⟩ := List.mem_map.1 hx
    exact itoa13 (h.2 z (List.mem_of_mem_take hz)))
  have h2 := h.1
  have h3 : ((zs.take k).map Lib.itoa).length ≤ 100 := by simp; omega
  refine Nat.le_trans h1 (Nat.le_trans (Nat.mul_le_mul h3 (Nat.le_refl _)) (by decide))
def spec_l01Text_A (v : Value) (w : World) : Nat → Ann := fun κ => match κ with
  | 0 => { σ := Nat × List UInt8, sli := [4, 3], slc := fun s => [SV.v (Value.int .i64 (s.1 : Int)), SV.v (Value.string (⟨s.2.toArray⟩ : ByteArray))], bxi := [], bxc := fun s => [], inv := fun s W => True, μ := fun s W => 0, free := true }
  | _ => { σ := Unit, sli := [], slc := fun _ => [], bxi := [], bxc := fun _ => [], inv := fun _ _ => False, μ := fun _ _ => 0 }
abbrev spec_l01Text_k0 (s8 : Nat × List UInt8) (w9 : World) (J10 : (Nat × List UInt8) → World → Prop) (m11 : (Nat × List UInt8) → World → Nat) (x33 : ByteArray) (x34 : Int) (w48 : World) : Prop :=
  I64 (x34 + 1) ∧ ∃ s49 : (Nat × List UInt8), (Value.int .i64 (x34 + 1)) = (Value.int .i64 (s49.1 : Int)) ∧ (Value.string x33) = (Value.string (⟨s49.2.toArray⟩ : ByteArray)) ∧ (J10 s49 w48) ∧ (m11 s49 w48) < (m11 s8 w9)
abbrev spec_l01Text_k1 (w : World) (x2 : Value) (s8 : Nat × List UInt8) (w9 : World) (J10 : (Nat × List UInt8) → World → Prop) (m11 : (Nat × List UInt8) → World → Nat) (x19 : ByteArray) (x20 : Int) (w27 : World) : Prop :=
  IxV 1 x2 x20 (fun ad28 => ∃ n29 : Int, LdV w27 (Value.pointer (some ad28)) (Value.int .i64 n29) ∧ Calls Tryd.prog 77 #[(Value.int .i64 n29)] w27 (fun e30 w31 => ∃ s32 : ByteArray, e30 = .returned (Value.string s32) ∧ Keeps w.heap.size [] w27 w31 ∧ I64 ((x19.size + s32.size : Nat) : Int) ∧ (spec_l01Text_k0 s8 w9 J10 m11 (x19 ++ s32) x20 w31)))
abbrev spec_l01Text_k2 (w : World) (x2 : Value) (s8 : Nat × List UInt8) (w9 : World) (J10 : (Nat × List UInt8) → World → Prop) (m11 : (Nat × List UInt8) → World → Nat) (x13 : ByteArray) (x14 : Int) (w18 : World) : Prop :=
  ((((0 : Int) < x14) → I64 ((x13.size + (⟨#[44]⟩ : ByteArray).size : Nat) : Int) ∧ (spec_l01Text_k1 w x2 s8 w9 J10 m11 (x13 ++ (⟨#[44]⟩ : ByteArray)) x14 w18)) ∧ (¬ ((0 : Int) < x14) → (spec_l01Text_k1 w x2 s8 w9 J10 m11 x13 x14 w18)))
abbrev spec_l01Text_k3 (w : World) (Post : Value → World → Prop) (x2 : Value) (w6 : World) : Prop :=
  (∃ (J10 : (Nat × List UInt8) → World → Prop) (m11 : (Nat × List UInt8) → World → Nat), ((∃ s7 : (Nat × List UInt8), (Value.int .i64 0) = (Value.int .i64 (s7.1 : Int)) ∧ (Value.string (⟨#[]⟩ : ByteArray)) = (Value.string (⟨s7.2.toArray⟩ : ByteArray)) ∧ (J10 s7 w6)) ∧ ∀ (s8 : (Nat × List UInt8)) (w9 : World), (J10 s8 w9) → LenV x2 (fun n12 => ((((s8.1 : Int) < n12) → (spec_l01Text_k2 w x2 s8 w9 J10 m11 (⟨s8.2.toArray⟩ : ByteArray) (s8.1 : Int) w9)) ∧ (¬ ((s8.1 : Int) < n12) → Post (Value.string (⟨s8.2.toArray⟩ : ByteArray)) w9)))))
def spec_l01Text_vc (v : Value) (w : World) (Post : Value → World → Prop) : Prop :=
  LenV v (fun n1 => (((n1 = (0 : Int)) → Post (Value.string (⟨#[45]⟩ : ByteArray)) w) ∧ (¬ (n1 = (0 : Int)) → (spec_l01Text_k3 w Post v w))))
theorem spec_l01Text_eq (v : Value) (w : World) (Post : Value → World → Prop) : denF Tryd.prog [] (spec_l01Text_A v w) 43 [v] w Post = spec_l01Text_vc v w Post := by kernel_rfl
set_option maxRecDepth 100000 in
theorem spec_l01Text_calls (v : Value) (w : World) (Post : Value → World → Prop) (hvc : spec_l01Text_vc v w Post) : Ret Tryd.prog 43 #[v] w Post :=
  Ret.of (denF_sound mixed (Eq.mpr (spec_l01Text_eq v w Post) hvc))

theorem spec_l01Text_val (v : Value) (zs : List Int) (w : World) (hv : RI w v zs) (hz : Nums zs) : Val Tryd.prog 43 #[v] w (txt (textL zs)) :=
  Ret.val (spec_l01Text_calls v w _ (by
    unfold spec_l01Text_vc
    refine hv.len ⟨fun h => ⟨?_, .refl w⟩, fun h => ?_⟩
    · obtain rfl : zs = [] := List.length_eq_zero_iff.1 (by omega)
      rfl
    · have hne : zs ≠ [] := fun e => h (by rw [e]; rfl)
      unfold spec_l01Text_k3
      refine ⟨fun s W => s.1 ≤ zs.length ∧ s.2 = Lib.join ((zs.take s.1).map Lib.itoa) [44] ∧ Ext w W, fun s _ => zs.length - s.1, ⟨(0, []), rfl, rfl, Nat.zero_le _, rfl, .refl w⟩, ?_⟩
      rintro ⟨k, t⟩ w2 ⟨hk, ht, h2⟩
      simp only at hk ht
      subst ht
      have hlen := join13 hz k
      have hzl := hz.1
      refine (hv.ext h2).len ⟨fun hlt => ?_, fun hge => ?_⟩
      · simp only at hlt
        have hk' : k < zs.length := by omega
        have hzk := hz.2 _ (List.getElem_mem hk')
        have hlz := itoa13 hzk
        have tail : ∀ (t : List UInt8), t = (if 0 < k then Lib.join ((zs.take k).map Lib.itoa) [44] ++ [44] else []) →
            spec_l01Text_k1 w v (k, Lib.join ((zs.take k).map Lib.itoa) [44]) w2 (fun s W => s.1 ≤ zs.length ∧ s.2 = Lib.join ((zs.take s.1).map Lib.itoa) [44] ∧ Ext w W) (fun s _ => zs.length - s.1) ⟨t.toArray⟩ (k : Int) w2 := by
          intro t ht
          have htl : t.length ≤ 2001 := by
            rw [ht]
            split
            · rw [List.length_append, show ([44] : List UInt8).length = 1 from rfl]; omega
            · exact Nat.zero_le _
          unfold spec_l01Text_k1
          refine (hv.ext h2).get k rfl hk' ?_
          have := spec_l01Dec_val (zs[k].toNat + 1) zs[k] w2 (by omega) hzk.1 (by have := hzk.2; simp only [Mx] at this; omega)
          rw [← itoa_pos hzk.1] at this
          refine this.call fun w3 h3 => ⟨_, rfl, h3.keeps, ?_, ?_⟩
          · simp only [I64, ByteArray.size, List.size_toArray]
            omega
          · rw [ByteArray.mk_append_mk]
            refine ⟨by unfold I64; omega, (k + 1, t ++ Lib.itoa zs[k]), rfl, rfl, ⟨hk', ?_, h2.trans h3⟩, by simp only; omega⟩
            simp only
            rw [join_take _ _ _ hk', ht]
        refine ⟨fun hpos => ⟨?_, ?_⟩, fun hno => ?_⟩
        · simp only [I64, ByteArray.size, List.size_toArray]
          have : ([(44 : UInt8)]).length = 1 := rfl
          omega
        · have e : (⟨(Lib.join ((zs.take k).map Lib.itoa) [44]).toArray⟩ ++ ⟨#[44]⟩ : ByteArray) = ⟨(Lib.join ((zs.take k).map Lib.itoa) [44] ++ [44]).toArray⟩ := ByteArray.mk_append_mk _ [44]
          simp only at hpos ⊢
          rw [e]
          exact tail _ (by rw [if_pos (by omega)])
        · simp only at hno
          refine tail _ ?_
          rw [if_neg (by omega)]
          obtain rfl : k = 0 := by omega
          rfl
      · simp only at hge
        obtain rfl : k = zs.length := by omega
        rw [List.take_length]
        exact ⟨by unfold textL; rw [if_neg hne], h2⟩))
theorem pairT_eq (t : List UInt8) (c : Int) : pairT t c = .tuple #[txt t, .int .i64 c] := rfl
abbrev spec_ListText_k0 (w : World) (Post : Value → World → Prop) (x4 : Value) (w10 : World) : Prop :=
  Calls Tryd.prog 43 #[x4] w10 (fun e11 w12 => ∃ s13 : ByteArray, e11 = .returned (Value.string s13) ∧ Keeps w.heap.size [] w10 w12 ∧ Post (Value.tuple #[(Value.string s13), (Value.int .i64 0)]) w12)
def spec_ListText_vc (v : Value) (w : World) (Post : Value → World → Prop) : Prop :=
  Calls Tryd.prog 42 #[v] w (fun e1 w2 => ∃ b3 : Bool, e1 = .returned (Value.bool b3) ∧ Keeps w.heap.size [] w w2 ∧ (((!b3) = true → Post (Value.tuple #[(Value.string (⟨#[]⟩ : ByteArray)), (Value.int .i64 2)]) w2) ∧ ((!b3) = false → (spec_ListText_k0 w Post v w2))))
theorem spec_ListText_eq (v : Value) (w : World) (Post : Value → World → Prop) : denF Tryd.prog [] noAnn 13 [v] w Post = spec_ListText_vc v w Post := by kernel_rfl
set_option maxRecDepth 100000 in
theorem spec_ListText_calls (v : Value) (w : World) (Post : Value → World → Prop) (hvc : spec_ListText_vc v w Post) : Ret Tryd.prog 13 #[v] w Post :=
  Ret.of (denF_sound mixed (Eq.mpr (spec_ListText_eq v w Post) hvc))

theorem spec_ListText_val (v : Value) (zs : List Int) (w : World) (hv : RI w v zs) : Val Tryd.prog 13 #[v] w (pairT (listT zs) (listC zs)) :=
  Ret.val (spec_ListText_calls v w _ (by
    unfold spec_ListText_vc
    refine (spec_l01Numbers_val v zs w hv).call fun w1 h1 => ⟨_, rfl, h1.keeps, fun hb => ⟨?_, h1⟩, fun hb => ?_⟩
    · unfold listT listC
      rw [if_neg (nd_t hb), if_neg (nd_t hb)]
      rfl
    · have hz := nd_f hb
      refine (spec_l01Text_val v zs w1 (hv.ext h1) hz).call fun w2 h2 => ⟨_, rfl, h2.keeps, ?_, h1.trans h2⟩
      unfold listT listC
      rw [if_pos hz, if_pos hz]
      rfl))
abbrev impl_ListText_k0 (w : World) (Post : Value → World → Prop) (x12 : Value) (w20 : World) : Prop :=
  Calls Tryd.prog 41 #[x12, (Value.string (⟨#[44]⟩ : ByteArray))] w20 (fun e21 w22 => ∃ s23 : ByteArray, e21 = .returned (Value.string s23) ∧ Keeps w.heap.size [] w20 w22 ∧ Post (Value.tuple #[(Value.string s23), (Value.int .i64 0)]) w22)
abbrev impl_ListText_k1 (w : World) (Post : Value → World → Prop) (x4 : Value) (w10 : World) : Prop :=
  LenV x4 (fun n11 => (((n11 = (0 : Int)) → Post (Value.tuple #[(Value.string (⟨#[45]⟩ : ByteArray)), (Value.int .i64 0)]) w10) ∧ (¬ (n11 = (0 : Int)) → (impl_ListText_k0 w Post x4 w10))))
def impl_ListText_vc (v : Value) (w : World) (Post : Value → World → Prop) : Prop :=
  Calls Tryd.prog 40 #[v] w (fun e1 w2 => ∃ b3 : Bool, e1 = .returned (Value.bool b3) ∧ Keeps w.heap.size [] w w2 ∧ (((!b3) = true → Post (Value.tuple #[(Value.string (⟨#[]⟩ : ByteArray)), (Value.int .i64 2)]) w2) ∧ ((!b3) = false → (impl_ListText_k1 w Post v w2))))
theorem impl_ListText_eq (v : Value) (w : World) (Post : Value → World → Prop) : denF Tryd.prog [] noAnn 12 [v] w Post = impl_ListText_vc v w Post := by kernel_rfl
set_option maxRecDepth 100000 in
theorem impl_ListText_calls (v : Value) (w : World) (Post : Value → World → Prop) (hvc : impl_ListText_vc v w Post) : Ret Tryd.prog 12 #[v] w Post :=
  Ret.of (denF_sound mixed (Eq.mpr (impl_ListText_eq v w Post) hvc))

theorem impl_ListText_val (v : Value) (zs : List Int) (w : World) (hv : RI w v zs) (hg : Gl w) : Val Tryd.prog 12 #[v] w (pairT (listT zs) (listC zs)) :=
  Ret.val (impl_ListText_calls v w _ (by
    unfold impl_ListText_vc
    refine (impl_areNumbers_val v zs w hv).call fun w1 h1 => ⟨_, rfl, h1.keeps, fun hb => ⟨?_, h1⟩, fun hb => ?_⟩
    · unfold listT listC
      rw [if_neg (nd_t hb), if_neg (nd_t hb)]
      rfl
    · have hz := nd_f hb
      have hzl := hz.1
      have e1 : listT zs = textL zs := if_pos hz
      have e2 : listC zs = 0 := if_pos hz
      rw [e1, e2]
      unfold impl_ListText_k1
      refine (hv.ext h1).len ⟨fun h0 => ⟨?_, h1⟩, fun h0 => ?_⟩
      · obtain rfl : zs = [] := List.length_eq_zero_iff.1 (by omega)
        rfl
      · have hne : zs ≠ [] := fun e => h0 (by rw [e]; rfl)
        refine (impl_joined_val v zs ⟨#[44]⟩ w1 (hv.ext h1) (fun z h => by have := hz.2 z h; simp only [Mx] at this; unfold I64; omega) (by omega) (by decide) (hg.ext h1)).call fun w2 h2 => ⟨_, rfl, h2.keeps, ?_, h1.trans h2⟩
        unfold textL
        rw [if_neg hne]
        rfl))
end Go.Proofs
