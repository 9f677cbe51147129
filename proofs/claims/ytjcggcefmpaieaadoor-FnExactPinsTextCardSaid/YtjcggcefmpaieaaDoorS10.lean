/- The pins of a lock as a text: contracts of both. No condition. -/
import Derived.Test.YtjcggcefmpaieaaDoorS05
import Derived.Test.YtjcggcefmpaieaaDoorL05e
set_option linter.unusedVariables false
namespace Go.Proofs
open Go.Sx Go.RowKit Go.Tx

/-- one stack -/
def stT (z : List Int) : List UInt8 := Lib.join (z.map Lib.itoa) [43]
/-- stacks with blanks between them -/
def pinsT (zss : List (List Int)) : List UInt8 := Lib.join (zss.map stT) [32]
theorem join_take' {α : Type} (f : α → List UInt8) (zs : List α) (sep : List UInt8) {k : Nat} (hk : k < zs.length) :
    Lib.join ((zs.take (k + 1)).map f) sep = (if 0 < k then Lib.join ((zs.take k).map f) sep ++ sep else []) ++ f zs[k] := by
  rw [List.take_add_one, List.getElem?_eq_getElem hk, Option.toList_some, List.map_append, List.map_cons, List.map_nil]
  split
  · rename_i h
    rw [join_snoc]
    intro h0
    have := congrArg List.length h0
    rw [List.length_map, List.length_take, List.length_nil] at this
    omega
  · obtain rfl : k = 0 := by omega
    rw [List.take_zero, List.map_nil, List.nil_append, Lib.join_one, List.nil_append]
/-- stacks that are small -/
def StOk (zss : List (List Int)) : Prop := zss.length ≤ 100 ∧ ∀ z ∈ zss, z.length ≤ 1000 ∧ ∀ x ∈ z, 0 ≤ x ∧ x ≤ 8
theorem st_len {z : List Int} (hl : z.length ≤ 1000) (hz : ∀ x ∈ z, 0 ≤ x ∧ x ≤ 8) (k : Nat) : (Lib.join ((z.take k).map Lib.itoa) [43]).length ≤ 14000 := by
  have h1 := join_length (ws := (z.take k).map Lib.itoa) (sep := [43]) (k := 13) (by
    intro x hx
    obtain ⟨y, hy, rfl⟩ := List.mem_map.1 hx
    have := hz y (List.mem_of_mem_take hy)
    exact itoa13 (by simp only [Mx]; omega))
  have h3 : ((z.take k).map Lib.itoa).length ≤ 1000 := by simp; omega
  refine Nat.le_trans h1 (Nat.le_trans (Nat.mul_le_mul h3 (Nat.le_refl _)) (by decide))
theorem stT_len {z : List Int} (hl : z.length ≤ 1000) (hz : ∀ x ∈ z, 0 ≤ x ∧ x ≤ 8) : (stT z).length ≤ 14000 := by
  have := st_len hl hz z.length
  rw [List.take_length] at this
  exact this
theorem pins_len {zss : List (List Int)} (h : StOk zss) (k : Nat) : (Lib.join ((zss.take k).map stT) [32]).length ≤ 1400100 := by
  have h1 := join_length (ws := (zss.take k).map stT) (sep := [32]) (k := 14000) (by
    intro x hx
    obtain ⟨y, hy, rfl⟩ := List.mem_map.1 hx
    have := h.2 y (List.mem_of_mem_take hy)
    exact stT_len this.1 this.2)
  have h2 := h.1
  have h3 : ((zss.take k).map stT).length ≤ 100 := by simp; omega
  refine Nat.le_trans h1 (Nat.le_trans (Nat.mul_le_mul h3 (Nat.le_refl _)) (by decide))
def spec_l05Text_A (v : Value) (w : World) : Nat → Ann := fun κ => match κ with
  | 0 => { σ := Nat × List UInt8, sli := [4, 3], slc := fun s => [SV.v (Value.int .i64 (s.1 : Int)), SV.v (Value.string (⟨s.2.toArray⟩ : ByteArray))], bxi := [], bxc := fun s => [], inv := fun s W => True, μ := fun s W => 0, free := true }
  | 1 => { σ := Nat × List UInt8, sli := [5, 3], slc := fun s => [SV.v (Value.int .i64 (s.1 : Int)), SV.v (Value.string (⟨s.2.toArray⟩ : ByteArray))], bxi := [], bxc := fun s => [], inv := fun s W => True, μ := fun s W => 0, free := true }
  | _ => { σ := Unit, sli := [], slc := fun _ => [], bxi := [], bxc := fun _ => [], inv := fun _ _ => False, μ := fun _ _ => 0 }
abbrev spec_l05Text_k0 (s23 : Nat × List UInt8) (w24 : World) (J25 : (Nat × List UInt8) → World → Prop) (m26 : (Nat × List UInt8) → World → Nat) (x58 : ByteArray) (x59 : Int) (w79 : World) : Prop :=
  I64 (x59 + 1) ∧ ∃ s80 : (Nat × List UInt8), (Value.int .i64 (x59 + 1)) = (Value.int .i64 (s80.1 : Int)) ∧ (Value.string x58) = (Value.string (⟨s80.2.toArray⟩ : ByteArray)) ∧ (J25 s80 w79) ∧ (m26 s80 w79) < (m26 s23 w24)
abbrev spec_l05Text_k1 (v : Value) (w : World) (x14 : Int) (s23 : Nat × List UInt8) (w24 : World) (J25 : (Nat × List UInt8) → World → Prop) (m26 : (Nat × List UInt8) → World → Nat) (x39 : ByteArray) (x40 : Int) (w50 : World) : Prop :=
  IxV 1 v x14 (fun ad51 => ∃ u52 : Value, LdV w50 (Value.pointer (some ad51)) u52 ∧ IxV 1 u52 x40 (fun ad53 => ∃ n54 : Int, LdV w50 (Value.pointer (some ad53)) (Value.int .i64 n54) ∧ Calls Tryd.prog 77 #[(Value.int .i64 n54)] w50 (fun e55 w56 => ∃ s57 : ByteArray, e55 = .returned (Value.string s57) ∧ Keeps w.heap.size [] w50 w56 ∧ I64 ((x39.size + s57.size : Nat) : Int) ∧ (spec_l05Text_k0 s23 w24 J25 m26 (x39 ++ s57) x40 w56))))
abbrev spec_l05Text_k2 (v : Value) (w : World) (x14 : Int) (s23 : Nat × List UInt8) (w24 : World) (J25 : (Nat × List UInt8) → World → Prop) (m26 : (Nat × List UInt8) → World → Nat) (x30 : ByteArray) (x31 : Int) (w38 : World) : Prop :=
  ((((0 : Int) < x31) → I64 ((x30.size + (⟨#[43]⟩ : ByteArray).size : Nat) : Int) ∧ (spec_l05Text_k1 v w x14 s23 w24 J25 m26 (x30 ++ (⟨#[43]⟩ : ByteArray)) x31 w38)) ∧ (¬ ((0 : Int) < x31) → (spec_l05Text_k1 v w x14 s23 w24 J25 m26 x30 x31 w38)))
abbrev spec_l05Text_k3 (s2 : Nat × List UInt8) (w3 : World) (J4 : (Nat × List UInt8) → World → Prop) (m5 : (Nat × List UInt8) → World → Nat) (x81 : ByteArray) (x82 : Int) (w96 : World) : Prop :=
  I64 (x82 + 1) ∧ ∃ s97 : (Nat × List UInt8), (Value.int .i64 (x82 + 1)) = (Value.int .i64 (s97.1 : Int)) ∧ (Value.string x81) = (Value.string (⟨s97.2.toArray⟩ : ByteArray)) ∧ (J4 s97 w96) ∧ (m5 s97 w96) < (m5 s2 w3)
abbrev spec_l05Text_k4 (v : Value) (w : World) (s2 : Nat × List UInt8) (w3 : World) (J4 : (Nat × List UInt8) → World → Prop) (m5 : (Nat × List UInt8) → World → Nat) (x13 : ByteArray) (x14 : Int) (w21 : World) : Prop :=
  (∃ (J25 : (Nat × List UInt8) → World → Prop) (m26 : (Nat × List UInt8) → World → Nat), ((∃ s22 : (Nat × List UInt8), (Value.int .i64 0) = (Value.int .i64 (s22.1 : Int)) ∧ (Value.string x13) = (Value.string (⟨s22.2.toArray⟩ : ByteArray)) ∧ (J25 s22 w21)) ∧ ∀ (s23 : (Nat × List UInt8)) (w24 : World), (J25 s23 w24) → IxV 1 v x14 (fun ad27 => ∃ u28 : Value, LdV w24 (Value.pointer (some ad27)) u28 ∧ LenV u28 (fun n29 => ((((s23.1 : Int) < n29) → (spec_l05Text_k2 v w x14 s23 w24 J25 m26 (⟨s23.2.toArray⟩ : ByteArray) (s23.1 : Int) w24)) ∧ (¬ ((s23.1 : Int) < n29) → (spec_l05Text_k3 s2 w3 J4 m5 (⟨s23.2.toArray⟩ : ByteArray) x14 w24)))))))
abbrev spec_l05Text_k5 (v : Value) (w : World) (s2 : Nat × List UInt8) (w3 : World) (J4 : (Nat × List UInt8) → World → Prop) (m5 : (Nat × List UInt8) → World → Nat) (x7 : ByteArray) (x8 : Int) (w12 : World) : Prop :=
  ((((0 : Int) < x8) → I64 ((x7.size + (⟨#[32]⟩ : ByteArray).size : Nat) : Int) ∧ (spec_l05Text_k4 v w s2 w3 J4 m5 (x7 ++ (⟨#[32]⟩ : ByteArray)) x8 w12)) ∧ (¬ ((0 : Int) < x8) → (spec_l05Text_k4 v w s2 w3 J4 m5 x7 x8 w12)))
def spec_l05Text_vc (v : Value) (w : World) (Post : Value → World → Prop) : Prop :=
  (∃ (J4 : (Nat × List UInt8) → World → Prop) (m5 : (Nat × List UInt8) → World → Nat), ((∃ s1 : (Nat × List UInt8), (Value.int .i64 0) = (Value.int .i64 (s1.1 : Int)) ∧ (Value.string (⟨#[]⟩ : ByteArray)) = (Value.string (⟨s1.2.toArray⟩ : ByteArray)) ∧ (J4 s1 w)) ∧ ∀ (s2 : (Nat × List UInt8)) (w3 : World), (J4 s2 w3) → LenV v (fun n6 => ((((s2.1 : Int) < n6) → (spec_l05Text_k5 v w s2 w3 J4 m5 (⟨s2.2.toArray⟩ : ByteArray) (s2.1 : Int) w3)) ∧ (¬ ((s2.1 : Int) < n6) → Post (Value.string (⟨s2.2.toArray⟩ : ByteArray)) w3)))))
theorem spec_l05Text_eq (v : Value) (w : World) (Post : Value → World → Prop) : denF Tryd.prog [] (spec_l05Text_A v w) 62 [v] w Post = spec_l05Text_vc v w Post := by kernel_rfl
set_option maxRecDepth 100000 in
theorem spec_l05Text_calls (v : Value) (w : World) (Post : Value → World → Prop) (hvc : spec_l05Text_vc v w Post) : Ret Tryd.prog 62 #[v] w Post :=
  Ret.of (denF_sound mixed (Eq.mpr (spec_l05Text_eq v w Post) hvc))

theorem spec_l05Text_val (v : Value) (zss : List (List Int)) (w : World) (hv : RR w v zss) (hz : StOk zss) : Val Tryd.prog 62 #[v] w (txt (pinsT zss)) :=
  Ret.val (spec_l05Text_calls v w _ (by
    unfold spec_l05Text_vc
    refine ⟨fun s W => s.1 ≤ zss.length ∧ s.2 = Lib.join ((zss.take s.1).map stT) [32] ∧ Ext w W, fun s _ => zss.length - s.1, ⟨(0, []), rfl, rfl, Nat.zero_le _, rfl, .refl w⟩, ?_⟩
    rintro ⟨k, t⟩ w2 ⟨hk, ht, h2⟩
    simp only at hk ht
    subst ht
    have hlen := pins_len hz k
    have hzl := hz.1
    refine (hv.ext h2).len ⟨fun hlt => ?_, fun hge => ?_⟩
    · simp only at hlt
      have hk' : k < zss.length := by omega
      obtain ⟨hl1, hx1⟩ := hz.2 _ (List.getElem_mem hk')
      have tail : ∀ (t : List UInt8), t = (if 0 < k then Lib.join ((zss.take k).map stT) [32] ++ [32] else []) →
          spec_l05Text_k4 v w (k, Lib.join ((zss.take k).map stT) [32]) w2 (fun s W => s.1 ≤ zss.length ∧ s.2 = Lib.join ((zss.take s.1).map stT) [32] ∧ Ext w W) (fun s _ => zss.length - s.1) ⟨t.toArray⟩ (k : Int) w2 := by
        intro t ht
        have htl : t.length ≤ 1400101 := by
          rw [ht]
          split
          · rw [List.length_append, show ([32] : List UInt8).length = 1 from rfl]; omega
          · exact Nat.zero_le _
        unfold spec_l05Text_k4
        refine ⟨fun s W => s.1 ≤ zss[k].length ∧ s.2 = t ++ Lib.join ((zss[k].take s.1).map Lib.itoa) [43] ∧ Ext w W, fun s _ => zss[k].length - s.1, ⟨(0, t), rfl, rfl, Nat.zero_le _, by simp [Lib.join_nil], h2⟩, ?_⟩
        rintro ⟨j, u⟩ w3 ⟨hj, hu, h3⟩
        simp only at hj hu
        subst hu
        have hlj := st_len hl1 hx1 j
        refine (hv.ext h3).get k rfl hk' fun x hx => hx.len ⟨fun hlt => ?_, fun hge => ?_⟩
        · simp only at hlt
          have hj' : j < zss[k].length := by omega
          have hzj := hx1 _ (List.getElem_mem hj')
          have hlz := itoa13 (n := zss[k][j]) (by simp only [Mx]; omega)
          have inner : ∀ (q : List UInt8), q = t ++ (if 0 < j then Lib.join ((zss[k].take j).map Lib.itoa) [43] ++ [43] else []) →
              spec_l05Text_k1 v w (k : Int) (j, t ++ Lib.join ((zss[k].take j).map Lib.itoa) [43]) w3 (fun s W => s.1 ≤ zss[k].length ∧ s.2 = t ++ Lib.join ((zss[k].take s.1).map Lib.itoa) [43] ∧ Ext w W) (fun s _ => zss[k].length - s.1) ⟨q.toArray⟩ (j : Int) w3 := by
            intro q hq
            have hql : q.length ≤ 1500000 := by
              rw [hq, List.length_append]
              split
              · rw [List.length_append, show ([43] : List UInt8).length = 1 from rfl]; omega
              · simp; omega
            unfold spec_l05Text_k1
            refine (hv.ext h3).get k rfl hk' fun x hx => hx.get j rfl hj' ?_
            have := spec_l01Dec_val (zss[k][j].toNat + 1) zss[k][j] w3 (by omega) hzj.1 (by omega)
            rw [← itoa_pos hzj.1] at this
            refine this.call fun w4 h4 => ⟨_, rfl, h4.keeps, ?_, ?_⟩
            · simp only [I64, ByteArray.size, List.size_toArray]
              omega
            · rw [ByteArray.mk_append_mk]
              refine ⟨by unfold I64; omega, (j + 1, q ++ Lib.itoa zss[k][j]), rfl, rfl, ⟨hj', ?_, h3.trans h4⟩, by simp only; omega⟩
              simp only
              rw [join_take' _ _ _ hj', hq, List.append_assoc]
          refine ⟨fun hpos => ⟨?_, ?_⟩, fun hno => ?_⟩
          · simp only [I64, ByteArray.size, List.size_toArray, List.length_append]
            have : ([(43 : UInt8)]).length = 1 := rfl
            omega
          · have e : (⟨(t ++ Lib.join ((zss[k].take j).map Lib.itoa) [43]).toArray⟩ ++ ⟨#[43]⟩ : ByteArray) = ⟨(t ++ Lib.join ((zss[k].take j).map Lib.itoa) [43] ++ [43]).toArray⟩ := ByteArray.mk_append_mk _ [43]
            simp only at hpos ⊢
            rw [e]
            exact inner _ (by rw [if_pos (by omega), List.append_assoc])
          · simp only at hno
            refine inner _ ?_
            rw [if_neg (by omega)]
            obtain rfl : j = 0 := by omega
            rfl
        · simp only at hge
          obtain rfl : j = zss[k].length := by omega
          unfold spec_l05Text_k3
          rw [List.take_length]
          refine ⟨by unfold I64; omega, (k + 1, t ++ stT zss[k]), rfl, rfl, ⟨hk', ?_, h3⟩, by simp only; omega⟩
          simp only
          rw [join_take' _ _ _ hk', ht]
      refine ⟨fun hpos => ⟨?_, ?_⟩, fun hno => ?_⟩
      · simp only [I64, ByteArray.size, List.size_toArray]
        have : ([(32 : UInt8)]).length = 1 := rfl
        omega
      · have e : (⟨(Lib.join ((zss.take k).map stT) [32]).toArray⟩ ++ ⟨#[32]⟩ : ByteArray) = ⟨(Lib.join ((zss.take k).map stT) [32] ++ [32]).toArray⟩ := ByteArray.mk_append_mk _ [32]
        simp only at hpos ⊢
        rw [e]
        exact tail _ (by rw [if_pos (by omega)])
      · simp only at hno
        refine tail _ ?_
        rw [if_neg (by omega)]
        obtain rfl : k = 0 := by omega
        rfl
    · simp only at hge
      obtain rfl : k = zss.length := by omega
      rw [List.take_length]
      exact ⟨rfl, h2⟩))
theorem stacks_ok {c d s m l : Int} {zss : List (List Int)} (h : LkOk c d s m l zss) : StOk (zss.map (stack d)) := by
  have hd := h.1.2.1
  obtain ⟨h1, h2, h3⟩ := lk_small h
  refine ⟨by rw [List.length_map]; omega, fun z hz => ?_⟩
  obtain ⟨x, hx, rfl⟩ := List.mem_map.1 hz
  obtain ⟨hne, hr⟩ := h.2.2 x hx
  have := h3 x hx
  refine ⟨by rw [stack_length]; omega, fun y hy => ?_⟩
  have := stack_in hne hr y hy
  omega
/-- the text of a lock's pins -/
def pinsTx (c d s m l : Int) (zss : List (List Int)) : List UInt8 := if LkOk c d s m l zss then pinsT (zss.map (stack d)) else []
def pinsV (c d s m l : Int) (zss : List (List Int)) : Value := pairT (pinsTx c d s m l zss) (lkCode c d s m l zss)
theorem pinsV_no {c d s m l : Int} {zss : List (List Int)} (h : ¬ LkOk c d s m l zss) : pinsV c d s m l zss = pairT [] 1 := by unfold pinsV pinsTx lkCode; rw [if_neg h, if_neg h]
theorem pinsV_yes {c d s m l : Int} {zss : List (List Int)} (h : LkOk c d s m l zss) : pinsV c d s m l zss = pairT (pinsT (zss.map (stack d))) 0 := by unfold pinsV pinsTx lkCode; rw [if_pos h, if_pos h]
abbrev spec_PinsText_k0 (w : World) (Post : Value → World → Prop) (x22 : Int) (x23 : Int) (x24 : Int) (x25 : Int) (x26 : Int) (x27 : Value) (w28 : World) : Prop :=
  Calls Tryd.prog 63 #[(Value.agg #[(Value.int .i64 x22), (Value.int .i64 x23), (Value.int .i64 x24), (Value.int .i64 x25), (Value.int .i64 x26)]), (Value.agg #[x27])] w28 (fun e29 w30 => ∃ u31 : Value, e29 = .returned u31 ∧ Keeps w.heap.size [39, 36] w28 w30 ∧ Calls Tryd.prog 62 #[u31] w30 (fun e32 w33 => ∃ s34 : ByteArray, e32 = .returned (Value.string s34) ∧ Keeps w.heap.size [39, 36] w30 w33 ∧ Post (Value.tuple #[(Value.string s34), (Value.int .i64 0)]) w33))
def spec_PinsText_vc (m_Chambers : Int) (m_Depths : Int) (m_Step : Int) (m_Same : Int) (m_Least : Int) (l_Sets : Value) (w : World) (Post : Value → World → Prop) : Prop :=
  ∀ w1 : World, Ext w w1 → oneC l_Sets (∀ w2 : World, Ext w1 w2 → Calls Tryd.prog 61 #[(Value.agg #[(Value.int .i64 m_Chambers), (Value.int .i64 m_Depths), (Value.int .i64 m_Step), (Value.int .i64 m_Same), (Value.int .i64 m_Least)]), (Value.agg #[l_Sets])] w2 (fun e3 w4 => ∃ b5 : Bool, e3 = .returned (Value.bool b5) ∧ Keeps w.heap.size [39, 36] w2 w4 ∧ (((!b5) = true → Post (Value.tuple #[(Value.string (⟨#[]⟩ : ByteArray)), (Value.int .i64 1)]) w4) ∧ ((!b5) = false → (spec_PinsText_k0 w Post m_Chambers m_Depths m_Step m_Same m_Least l_Sets w4)))))
theorem spec_PinsText_eq (m_Chambers : Int) (m_Depths : Int) (m_Step : Int) (m_Same : Int) (m_Least : Int) (l_Sets : Value) (w : World) (Post : Value → World → Prop) : denF Tryd.prog [] noAnn 29 [(Value.agg #[(Value.int .i64 m_Chambers), (Value.int .i64 m_Depths), (Value.int .i64 m_Step), (Value.int .i64 m_Same), (Value.int .i64 m_Least)]), (Value.agg #[l_Sets])] w Post = spec_PinsText_vc m_Chambers m_Depths m_Step m_Same m_Least l_Sets w Post := by kernel_rfl
set_option maxRecDepth 100000 in
theorem spec_PinsText_calls (m_Chambers : Int) (m_Depths : Int) (m_Step : Int) (m_Same : Int) (m_Least : Int) (l_Sets : Value) (w : World) (Post : Value → World → Prop) (hvc : spec_PinsText_vc m_Chambers m_Depths m_Step m_Same m_Least l_Sets w Post) : Ret Tryd.prog 29 #[(Value.agg #[(Value.int .i64 m_Chambers), (Value.int .i64 m_Depths), (Value.int .i64 m_Step), (Value.int .i64 m_Same), (Value.int .i64 m_Least)]), (Value.agg #[l_Sets])] w Post :=
  Ret.of (denF_sound mixed (Eq.mpr (spec_PinsText_eq m_Chambers m_Depths m_Step m_Same m_Least l_Sets w Post) hvc))

theorem spec_PinsText_val (c d s m l : Int) (v : Value) (zss : List (List Int)) (w : World) (h : RR w v zss) : Val Tryd.prog 29 #[mkV c d s m l, lkV v] w (pinsV c d s m l zss) :=
  Ret.val (spec_PinsText_calls c d s m l v w _ (by
    unfold spec_PinsText_vc
    intro w1 h1
    refine h.oneC fun w2 h2 => ?_
    have k2 := h1.trans h2
    refine (spec_IsLock_val c d s m l v zss w2 (h.ext k2)).call fun w5 h5 => ⟨_, rfl, h5.keeps, fun hb => ?_, fun hb => ?_⟩
    · rw [pinsV_no (nd_t hb)]
      exact ⟨rfl, k2.trans h5⟩
    have hk := nd_f hb
    have k5 := k2.trans h5
    obtain ⟨p1, p2, p3⟩ := lk_small hk
    unfold spec_PinsText_k0
    refine (spec_l05Pins_ret c d s m l v zss w5 (h.ext k5) p1 p2 p3).call ?_
    rintro u w6 ⟨o6, h6⟩
    refine ⟨u, rfl, h6.keeps, ?_⟩
    refine (spec_l05Text_val u _ w6 o6.rr (stacks_ok hk)).call fun w7 h7 => ⟨_, rfl, h7.keeps, ?_, (k5.trans h6).trans h7⟩
    rw [pinsV_yes hk]
    rfl))
def impl_PinsText_A (m_Chambers : Int) (m_Depths : Int) (m_Step : Int) (m_Same : Int) (m_Least : Int) (l_Sets : Value) (w : World) : Nat → Ann := fun κ => match κ with
  | 0 => { σ := Nat × Value, sli := [22, 7], slc := fun s => [SV.v (Value.int .i64 (s.1 : Int)), SV.v s.2], bxi := [], bxc := fun s => [], inv := fun s W => True, μ := fun s W => 0, free := true }
  | _ => { σ := Unit, sli := [], slc := fun _ => [], bxi := [], bxc := fun _ => [], inv := fun _ _ => False, μ := fun _ _ => 0 }
abbrev impl_PinsText_k0 (w : World) (u37 : Value) (s40 : Nat × Value) (w41 : World) (J42 : (Nat × Value) → World → Prop) (m43 : (Nat × Value) → World → Nat) (x44 : Value) (x45 : Int) (w46 : World) : Prop :=
  IxV 1 u37 x45 (fun ad47 => ∃ u48 : Value, LdV w46 (Value.pointer (some ad47)) u48 ∧ Calls Tryd.prog 41 #[u48, (Value.string (⟨#[43]⟩ : ByteArray))] w46 (fun e49 w50 => ∃ s51 : ByteArray, e49 = .returned (Value.string s51) ∧ Keeps w.heap.size [39, 36] w46 w50 ∧ ∀ (v52 : Value) (w53 : World), Sx.Own w50.heap.size w53 9 v52 [(Value.string s51)] → Ext w50 w53 → AppV w53 9 x44 v52 (fun v54 w55 => I64 (x45 + 1) ∧ ∃ s56 : (Nat × Value), (Value.int .i64 (x45 + 1)) = (Value.int .i64 (s56.1 : Int)) ∧ v54 = s56.2 ∧ (J42 s56 w55) ∧ (m43 s56 w55) < (m43 s40 w41))))
abbrev impl_PinsText_k1 (w : World) (Post : Value → World → Prop) (x66 : Value) (w92 : World) : Prop :=
  Calls Tryd.prog 67 #[x66, (Value.string (⟨#[32]⟩ : ByteArray))] w92 (fun e93 w94 => ∃ s95 : ByteArray, e93 = .returned (Value.string s95) ∧ Keeps w.heap.size [39, 36] w92 w94 ∧ Post (Value.tuple #[(Value.string s95), (Value.int .i64 0)]) w94)
abbrev impl_PinsText_k2 (w : World) (Post : Value → World → Prop) (x26 : Int) (x27 : Int) (x28 : Int) (x29 : Int) (x30 : Int) (x31 : Value) (w32 : World) : Prop :=
  ∀ (v33 : Value) (w34 : World), Sx.Own w32.heap.size w34 9 v33 [] → Ext w32 w34 → Calls Tryd.prog 66 #[(Value.agg #[(Value.int .i64 x26), (Value.int .i64 x27), (Value.int .i64 x28), (Value.int .i64 x29), (Value.int .i64 x30)]), (Value.agg #[x31])] w34 (fun e35 w36 => ∃ u37 : Value, e35 = .returned u37 ∧ Keeps w.heap.size [39, 36] w34 w36 ∧ LenV u37 (fun n38 => (∃ (J42 : (Nat × Value) → World → Prop) (m43 : (Nat × Value) → World → Nat), ((∃ s39 : (Nat × Value), (Value.int .i64 0) = (Value.int .i64 (s39.1 : Int)) ∧ v33 = s39.2 ∧ (J42 s39 w36)) ∧ ∀ (s40 : (Nat × Value)) (w41 : World), (J42 s40 w41) → ((((s40.1 : Int) < n38) → (impl_PinsText_k0 w u37 s40 w41 J42 m43 s40.2 (s40.1 : Int) w41)) ∧ (¬ ((s40.1 : Int) < n38) → (impl_PinsText_k1 w Post s40.2 w41)))))))
def impl_PinsText_vc (m_Chambers : Int) (m_Depths : Int) (m_Step : Int) (m_Same : Int) (m_Least : Int) (l_Sets : Value) (w : World) (Post : Value → World → Prop) : Prop :=
  ∀ w1 : World, Ext w w1 → oneC l_Sets (∀ w2 : World, Ext w1 w2 → oneC l_Sets (∀ (v3 : Value) (w4 : World), Sx.Own w2.heap.size w4 36 v3 [l_Sets] → Ext w2 w4 → Calls Tryd.prog 65 #[(Value.agg #[(Value.int .i64 m_Chambers), (Value.int .i64 m_Depths), (Value.int .i64 m_Step), (Value.int .i64 m_Same), (Value.int .i64 m_Least)]), v3] w4 (fun e5 w6 => ∃ n7 : Int, e5 = .returned (Value.int .i64 n7) ∧ Keeps w.heap.size [39, 36] w4 w6 ∧ (((n7 ≠ (0 : Int)) → Post (Value.tuple #[(Value.string (⟨#[]⟩ : ByteArray)), (Value.int .i64 n7)]) w6) ∧ (¬ (n7 ≠ (0 : Int)) → (impl_PinsText_k2 w Post m_Chambers m_Depths m_Step m_Same m_Least l_Sets w6))))))
theorem impl_PinsText_eq (m_Chambers : Int) (m_Depths : Int) (m_Step : Int) (m_Same : Int) (m_Least : Int) (l_Sets : Value) (w : World) (Post : Value → World → Prop) : denF Tryd.prog [] (impl_PinsText_A m_Chambers m_Depths m_Step m_Same m_Least l_Sets w) 31 [(Value.agg #[(Value.int .i64 m_Chambers), (Value.int .i64 m_Depths), (Value.int .i64 m_Step), (Value.int .i64 m_Same), (Value.int .i64 m_Least)]), (Value.agg #[l_Sets])] w Post = impl_PinsText_vc m_Chambers m_Depths m_Step m_Same m_Least l_Sets w Post := by kernel_rfl
set_option maxRecDepth 100000 in
theorem impl_PinsText_calls (m_Chambers : Int) (m_Depths : Int) (m_Step : Int) (m_Same : Int) (m_Least : Int) (l_Sets : Value) (w : World) (Post : Value → World → Prop) (hvc : impl_PinsText_vc m_Chambers m_Depths m_Step m_Same m_Least l_Sets w Post) : Ret Tryd.prog 31 #[(Value.agg #[(Value.int .i64 m_Chambers), (Value.int .i64 m_Depths), (Value.int .i64 m_Step), (Value.int .i64 m_Same), (Value.int .i64 m_Least)]), (Value.agg #[l_Sets])] w Post :=
  Ret.of (denF_sound mixed (Eq.mpr (impl_PinsText_eq m_Chambers m_Depths m_Step m_Same m_Least l_Sets w Post) hvc))

theorem impl_PinsText_val (c d s m l : Int) (v : Value) (zss : List (List Int)) (w : World) (h : RR w v zss) (hg : Gl w) : Val Tryd.prog 31 #[mkV c d s m l, lkV v] w (pinsV c d s m l zss) :=
  Ret.val (impl_PinsText_calls c d s m l v w _ (by
    unfold impl_PinsText_vc
    intro w1 h1
    refine h.oneC fun w2 h2 => h.oneC fun v3 w4 o4 h4 => ?_
    have k4 := (h1.trans h2).trans h4
    refine (impl_locksCode_val c d s m l v3 [zss] w4 (RLs.one o4 (h.ext k4))).call fun w5 h5 => ⟨_, rfl, h5.keeps, ?_⟩
    rw [locksR_one]
    have k5 := k4.trans h5
    by_cases hk : LkOk c d s m l zss
    · rw [if_pos hk, pinsV_yes hk]
      refine ⟨fun hne => absurd rfl hne, fun _ => ?_⟩
      obtain ⟨p1, p2, p3⟩ := lk_small hk
      have hst := stacks_ok hk
      unfold impl_PinsText_k2
      intro a w6 o6 h6
      have k6 := k5.trans h6
      refine (impl_pinsOf_ret c d s m l v zss w6 (h.ext k6) p1 p2 p3).call ?_
      rintro u w7 ⟨o7, h7⟩
      have k7 := k6.trans h7
      generalize zss.map (stack d) = yss at o7 hst ⊢
      refine ⟨u, rfl, h7.keeps, o7.rr.len ⟨fun s W => s.1 ≤ yss.length ∧ Own w.heap.size W 9 s.2 (strs ((yss.take s.1).map stT)) ∧ OwnR w.heap.size W u yss ∧ Ext w W, fun s _ => yss.length - s.1, ⟨(0, a), rfl, rfl, Nat.zero_le _, (o6.mono k5.size).ext h7, o7.mono k6.size, k7⟩, ?_⟩⟩
      rintro ⟨k, q⟩ w8 ⟨hk8, o8, u8, k8⟩
      simp only at hk8 o8
      have hyl := hst.1
      refine ⟨fun hlt => ?_, fun hge => ?_⟩
      · simp only at hlt
        have hk' : k < yss.length := by omega
        obtain ⟨hl1, hx1⟩ := hst.2 _ (List.getElem_mem hk')
        unfold impl_PinsText_k0
        refine u8.rr.get k rfl hk' fun x hx => ?_
        refine (impl_joined_val x yss[k] ⟨#[43]⟩ w8 hx (fun z h => by have := hx1 z h; unfold I64; omega) (by omega) (by decide) (hg.ext k8)).call fun w9 h9 => ⟨_, rfl, h9.keeps, fun r w10 o10 h10 => ?_⟩
        have k10 := (k8.trans h9).trans h10
        have o810 := (o8.ext h9).ext h10
        refine o810.app1 o10 rfl (by rw [strs_length, List.length_map, List.length_take]; omega) k10.size fun v' w11 o11 g11 _ => ⟨by unfold I64; omega, (k + 1, v'), rfl, rfl, ⟨hk', ?_, ?_, k10.grown o810 (Nat.le_refl _) g11⟩, by simp only; omega⟩
        · simp only
          rw [take_snoc yss k hk', List.map_append, strs_append]
          exact o11
        · obtain ⟨us, r1, r2, r3⟩ := (u8.ext h9).ext h10
          exact ⟨us, r1.grown g11 (Apart.types r1 o810 (by decide)), r2.map fun x z hr => hr.grown g11 (Apart.types hr o810 (by decide)), r3⟩
      · simp only at hge
        unfold impl_PinsText_k1
        obtain rfl : k = yss.length := by omega
        rw [List.take_length] at o8
        have hlen := pins_len hst yss.length
        rw [List.take_length] at hlen
        refine (join_call ⟨#[32]⟩ w8 o8 (Nat.le_trans hlen (by decide)) (by rw [List.length_map]; omega)).call fun w9 h9 => ⟨_, rfl, h9.keeps, rfl, k8.trans h9⟩
    · rw [if_neg hk, pinsV_no hk]
      exact ⟨fun _ => ⟨rfl, k5⟩, fun hh => absurd (fun e => by cases e) hh⟩))
end Go.Proofs
