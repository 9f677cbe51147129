/- A list of numbers read out of a text: contracts of both. No condition. -/
import Derived.Test.YtjcggcefmpaieaaDoorS08
import Derived.Test.YtjcggcefmpaieaaDoorMat
import Derived.Test.YtjcggcefmpaieaaDoorL02d
set_option linter.unusedVariables false
namespace Go.Proofs
open Go.Sx Go.RowKit Go.Tx

theorem cut_small {b : UInt8} {l x : List UInt8} (h : x ∈ cutAt b l) : x.length ≤ l.length := by
  have h2 := Tx.join_cut b l
  generalize cutAt b l = ws at h h2
  rw [← h2]
  clear h2
  induction ws with
  | nil => cases h
  | cons y ys ih =>
    rw [Lib.join_cons, List.length_append]
    rcases List.mem_cons.1 h with rfl | h
    · omega
    · match ys, h with
      | z :: zs, h =>
        have := ih h
        rw [Lib.join_cons, List.length_append] at this
        simp only [Lib.joinTail, List.map_cons, List.flatten_cons, List.length_append, List.length_cons] at this ⊢
        omega
/-- what the library's reader of a text of numbers gives -/
def PartP (B : Nat) (r : Value) (w' : World) (o : Option (List Int)) : Prop := (∃ u zs, r = .tuple #[u, .bool true] ∧ Own B w' 2 u (ints zs) ∧ o = some zs) ∨ (r = .tuple #[.slice none 0 0, .bool false] ∧ o = none)
def impl_parted_A (t : ByteArray) (b : ByteArray) (w : World) : Nat → Ann := fun κ => match κ with
  | 0 => { σ := Nat × Value, sli := [16, 6], slc := fun s => [SV.v (Value.int .i64 (s.1 : Int)), SV.v s.2], bxi := [], bxc := fun s => [], inv := fun s W => True, μ := fun s W => 0, free := true }
  | _ => { σ := Unit, sli := [], slc := fun _ => [], bxi := [], bxc := fun _ => [], inv := fun _ _ => False, μ := fun _ _ => 0 }
abbrev impl_parted_k0 (s8 : Nat × Value) (w9 : World) (J10 : (Nat × Value) → World → Prop) (m11 : (Nat × Value) → World → Nat) (x42 : Value) (x46 : Int) (w62 : World) : Prop :=
  I64 (x46 + 1) ∧ ∃ s63 : (Nat × Value), (Value.int .i64 (x46 + 1)) = (Value.int .i64 (s63.1 : Int)) ∧ x42 = s63.2 ∧ (J10 s63 w62) ∧ (m11 s63 w62) < (m11 s8 w9)
abbrev impl_parted_k1 (s8 : Nat × Value) (w9 : World) (J10 : (Nat × Value) → World → Prop) (m11 : (Nat × Value) → World → Nat) (x21 : Value) (x23 : Int) (x25 : Int) (w37 : World) : Prop :=
  ∀ (v38 : Value) (w39 : World), Sx.Own w37.heap.size w39 2 v38 [(Value.int .i64 x23)] → Ext w37 w39 → AppV w39 2 x21 v38 (fun v40 w41 => (impl_parted_k0 s8 w9 J10 m11 v40 x25 w41))
abbrev impl_parted_k2 (w : World) (Post : Value → World → Prop) (u5 : Value) (s8 : Nat × Value) (w9 : World) (J10 : (Nat × Value) → World → Prop) (m11 : (Nat × Value) → World → Nat) (x12 : Value) (x13 : Int) (w14 : World) : Prop :=
  IxV 1 u5 x13 (fun ad15 => ∃ s16 : ByteArray, LdV w14 (Value.pointer (some ad15)) (Value.string s16) ∧ Calls Tryd.prog 78 #[(Value.string s16)] w14 (fun e17 w18 => ∃ n19 : Int, ∃ b20 : Bool, e17 = .returned (Value.tuple #[(Value.int .i64 n19), (Value.bool b20)]) ∧ Keeps w.heap.size [] w14 w18 ∧ (((!b20) = true → Post (Value.tuple #[(Value.slice none 0 0), (Value.bool false)]) w18) ∧ ((!b20) = false → (impl_parted_k1 s8 w9 J10 m11 x12 n19 x13 w18)))))
def impl_parted_vc (t : ByteArray) (b : ByteArray) (w : World) (Post : Value → World → Prop) : Prop :=
  ∀ (v1 : Value) (w2 : World), Sx.Own w.heap.size w2 2 v1 [] → Ext w w2 → Calls Tryd.prog 52 #[(Value.string t), (Value.string b)] w2 (fun e3 w4 => ∃ u5 : Value, e3 = .returned u5 ∧ Keeps w.heap.size [] w2 w4 ∧ LenV u5 (fun n6 => (∃ (J10 : (Nat × Value) → World → Prop) (m11 : (Nat × Value) → World → Nat), ((∃ s7 : (Nat × Value), (Value.int .i64 0) = (Value.int .i64 (s7.1 : Int)) ∧ v1 = s7.2 ∧ (J10 s7 w4)) ∧ ∀ (s8 : (Nat × Value)) (w9 : World), (J10 s8 w9) → ((((s8.1 : Int) < n6) → (impl_parted_k2 w Post u5 s8 w9 J10 m11 s8.2 (s8.1 : Int) w9)) ∧ (¬ ((s8.1 : Int) < n6) → Post (Value.tuple #[s8.2, (Value.bool true)]) w9))))))
theorem impl_parted_eq (t : ByteArray) (b : ByteArray) (w : World) (Post : Value → World → Prop) : denF Tryd.prog [] (impl_parted_A t b w) 46 [(Value.string t), (Value.string b)] w Post = impl_parted_vc t b w Post := by kernel_rfl
set_option maxRecDepth 100000 in
theorem impl_parted_calls (t : ByteArray) (b : ByteArray) (w : World) (Post : Value → World → Prop) (hvc : impl_parted_vc t b w Post) : Ret Tryd.prog 46 #[(Value.string t), (Value.string b)] w Post :=
  Ret.of (denF_sound mixed (Eq.mpr (impl_parted_eq t b w Post) hvc))

theorem impl_parted_ret (l : List UInt8) (b : UInt8) (w : World) (hl : l.length ≤ 1048576) (hg : Gs w) : Ret Tryd.prog 46 #[txt l, .string ⟨#[b]⟩] w fun r w' => PartP w.heap.size r w' (rds (cutAt b l)) ∧ Ext w w' :=
  impl_parted_calls ⟨l.toArray⟩ ⟨#[b]⟩ w _ (by
    unfold impl_parted_vc
    intro v1 w1 o1 h1
    refine (split_ret l b w1 (hg.ext h1) hl).call ?_
    rintro u w2 ⟨ou, h2⟩
    have k2 := h1.trans h2
    have hcl := cutAt_length b l
    have ou := ou.mono h1.size
    refine ⟨u, rfl, h2.keeps, RS.len ou.rd ⟨fun s W => s.1 ≤ (cutAt b l).length ∧ (∃ zs, rds ((cutAt b l).take s.1) = some zs ∧ zs.length = s.1 ∧ Own w.heap.size W 2 s.2 (ints zs)) ∧ Own w.heap.size W 9 u (strs (cutAt b l)) ∧ Ext w W, fun s _ => (cutAt b l).length - s.1, ⟨(0, v1), rfl, rfl, Nat.zero_le _, ⟨[], rfl, rfl, o1.ext h2⟩, ou, k2⟩, ?_⟩⟩
    rintro ⟨k, v⟩ w3 ⟨hk, ⟨zs, hr, hzl, o3⟩, u3, k3⟩
    simp only at hk hr o3 hzl
    refine ⟨fun hlt => ?_, fun hge => ?_⟩
    · simp only at hlt
      have hk' : k < (cutAt b l).length := by omega
      have hm := List.getElem_mem hk'
      refine RS.get u3.rd k rfl hk' ?_
      refine (impl_number_ret (cutAt b l)[k] w3 (by have := cut_small hm; omega) (hg.ext k3)).call ?_
      rintro _ w4 ⟨⟨n, ok, rfl, hy, hn⟩, h4⟩
      refine ⟨n, ok, rfl, h4.keeps, fun hb => ⟨.inr ⟨rfl, rds_bad hm (hn (by simpa using hb))⟩, k3.trans h4⟩, fun hb v5 w5 o5 h5 => ?_⟩
      have k5 := (k3.trans h4).trans h5
      refine ((o3.ext h4).ext h5).app1 o5 rfl (by simp; omega) k5.size fun v' w6 o6 g6 _ => ⟨by unfold I64; simp only; omega, (k + 1, v'), rfl, rfl, ⟨hk', ⟨zs ++ [n], ?_, by simp [hzl], by rw [ints_append]; exact o6⟩, ?_⟩, by simp only; omega⟩
      · simp only
        rw [List.take_add_one, List.getElem?_eq_getElem hk']
        exact rds_snoc hr (hy (by simpa using hb))
      · exact ⟨((u3.ext h4).ext h5).grown g6 (Apart.types ((u3.ext h4).ext h5) ((o3.ext h4).ext h5) (by decide)), k5.grown ((o3.ext h4).ext h5) (Nat.le_refl _) g6⟩
    · simp only at hge
      obtain rfl : k = (cutAt b l).length := by omega
      rw [List.take_length] at hr
      exact ⟨.inl ⟨v, zs, rfl, o3, hr⟩, k3⟩)
def spec_l01Read_A (t : ByteArray) (w : World) : Nat → Ann := fun κ => match κ with
  | 0 => { σ := Nat × Value, sli := [6, 5], slc := fun s => [SV.v (Value.int .i64 (s.1 : Int)), SV.v s.2], bxi := [], bxc := fun s => [], inv := fun s W => True, μ := fun s W => 0, free := true }
  | _ => { σ := Unit, sli := [], slc := fun _ => [], bxi := [], bxc := fun _ => [], inv := fun _ _ => False, μ := fun _ _ => 0 }
abbrev spec_l01Read_k0 (s13 : Nat × Value) (w14 : World) (J15 : (Nat × Value) → World → Prop) (m16 : (Nat × Value) → World → Nat) (x54 : Value) (x55 : Int) (w77 : World) : Prop :=
  I64 (x55 + 1) ∧ ∃ s78 : (Nat × Value), (Value.int .i64 (x55 + 1)) = (Value.int .i64 (s78.1 : Int)) ∧ x54 = s78.2 ∧ (J15 s78 w77) ∧ (m16 s78 w77) < (m16 s13 w14)
abbrev spec_l01Read_k1 (s13 : Nat × Value) (w14 : World) (J15 : (Nat × Value) → World → Prop) (m16 : (Nat × Value) → World → Nat) (x30 : Value) (x31 : Int) (x32 : Int) (w49 : World) : Prop :=
  ∀ (v50 : Value) (w51 : World), Sx.Own w49.heap.size w51 2 v50 [(Value.int .i64 x32)] → Ext w49 w51 → AppV w51 2 x30 v50 (fun v52 w53 => (spec_l01Read_k0 s13 w14 J15 m16 v52 x31 w53))
abbrev spec_l01Read_k2 (w : World) (Post : Value → World → Prop) (u9 : Value) (s13 : Nat × Value) (w14 : World) (J15 : (Nat × Value) → World → Prop) (m16 : (Nat × Value) → World → Nat) (x18 : Value) (x19 : Int) (w23 : World) : Prop :=
  IxV 1 u9 x19 (fun ad24 => ∃ s25 : ByteArray, LdV w23 (Value.pointer (some ad24)) (Value.string s25) ∧ Calls Tryd.prog 80 #[(Value.string s25)] w23 (fun e26 w27 => ∃ n28 : Int, ∃ b29 : Bool, e26 = .returned (Value.tuple #[(Value.int .i64 n28), (Value.bool b29)]) ∧ Keeps w.heap.size [] w23 w27 ∧ (((!b29) = true → Post (Value.tuple #[(Value.slice none 0 0), (Value.bool false)]) w27) ∧ ((!b29) = false → (spec_l01Read_k1 s13 w14 J15 m16 x18 x19 n28 w27)))))
abbrev spec_l01Read_k3 (w : World) (Post : Value → World → Prop) (x3 : ByteArray) (w6 : World) : Prop :=
  Calls Tryd.prog 79 #[(Value.string x3), (Value.int .u8 44)] w6 (fun e7 w8 => ∃ u9 : Value, e7 = .returned u9 ∧ Keeps w.heap.size [] w6 w8 ∧ ∀ (v10 : Value) (w11 : World), Sx.Own w8.heap.size w11 2 v10 [] → Ext w8 w11 → (∃ (J15 : (Nat × Value) → World → Prop) (m16 : (Nat × Value) → World → Nat), ((∃ s12 : (Nat × Value), (Value.int .i64 0) = (Value.int .i64 (s12.1 : Int)) ∧ v10 = s12.2 ∧ (J15 s12 w11)) ∧ ∀ (s13 : (Nat × Value)) (w14 : World), (J15 s13 w14) → LenV u9 (fun n17 => ((((s13.1 : Int) < n17) → (spec_l01Read_k2 w Post u9 s13 w14 J15 m16 s13.2 (s13.1 : Int) w14)) ∧ (¬ ((s13.1 : Int) < n17) → Post (Value.tuple #[s13.2, (Value.bool true)]) w14))))))
def spec_l01Read_vc (t : ByteArray) (w : World) (Post : Value → World → Prop) : Prop :=
  (((t.toList == (⟨#[45]⟩ : ByteArray).toList) = true → ∀ (v1 : Value) (w2 : World), Sx.Own w.heap.size w2 2 v1 [] → Ext w w2 → Post (Value.tuple #[v1, (Value.bool true)]) w2) ∧ ((t.toList == (⟨#[45]⟩ : ByteArray).toList) = false → (spec_l01Read_k3 w Post t w)))
theorem spec_l01Read_eq (t : ByteArray) (w : World) (Post : Value → World → Prop) : denF Tryd.prog [] (spec_l01Read_A t w) 47 [(Value.string t)] w Post = spec_l01Read_vc t w Post := by kernel_rfl
set_option maxRecDepth 100000 in
theorem spec_l01Read_calls (t : ByteArray) (w : World) (Post : Value → World → Prop) (hvc : spec_l01Read_vc t w Post) : Ret Tryd.prog 47 #[(Value.string t)] w Post :=
  Ret.of (denF_sound mixed (Eq.mpr (spec_l01Read_eq t w Post) hvc))

theorem spec_l01Read_ret (l : List UInt8) (w : World) (hl : l.length ≤ 1048576) : Ret Tryd.prog 47 #[txt l] w fun r w' => Ext w w' ∧ ((∃ u zs, r = .tuple #[u, .bool true] ∧ Own w.heap.size w' 2 u (ints zs) ∧ ((l = [45] ∧ zs = []) ∨ (l ≠ [45] ∧ rds (cutAt 44 l) = some zs))) ∨ (r = .tuple #[.slice none 0 0, .bool false] ∧ l ≠ [45] ∧ ∃ x ∈ cutAt 44 l, rd13 x = none)) :=
  spec_l01Read_calls ⟨l.toArray⟩ w _ (by
    unfold spec_l01Read_vc
    have h45 : (((⟨l.toArray⟩ : ByteArray).toList == (⟨#[45]⟩ : ByteArray).toList)) = decide (l = [45]) := ba_beq l [45]
    rw [h45]
    refine ⟨fun h v1 w1 o1 h1 => ⟨h1, .inl ⟨v1, [], rfl, o1, .inl ⟨of_decide_eq_true h, rfl⟩⟩⟩, fun h => ?_⟩
    have hne := of_decide_eq_false h
    unfold spec_l01Read_k3
    refine (spec_l01Split_ret l 44 w hl).call ?_
    rintro u w2 ⟨ou, h2⟩
    have hcl := cutAt_length 44 l
    refine ⟨u, rfl, h2.keeps, fun v1 w3 o3 h3 => ?_⟩
    have k3 := h2.trans h3
    refine ⟨fun s W => s.1 ≤ (cutAt 44 l).length ∧ (∃ zs, rds ((cutAt 44 l).take s.1) = some zs ∧ zs.length = s.1 ∧ Own w.heap.size W 2 s.2 (ints zs)) ∧ Own w.heap.size W 9 u (strs (cutAt 44 l)) ∧ Ext w W, fun s _ => (cutAt 44 l).length - s.1, ⟨(0, v1), rfl, rfl, Nat.zero_le _, ⟨[], rfl, rfl, o3.mono h2.size⟩, ou.ext h3, k3⟩, ?_⟩
    rintro ⟨k, v⟩ w4 ⟨hk, ⟨zs, hr, hzl, o4⟩, u4, k4⟩
    simp only at hk hr o4 hzl
    refine RS.len u4.rd ⟨fun hlt => ?_, fun hge => ?_⟩
    · simp only at hlt
      have hk' : k < (cutAt 44 l).length := by omega
      have hm := List.getElem_mem hk'
      refine RS.get u4.rd k rfl hk' ?_
      refine (spec_l01Value_ret (cutAt 44 l)[k] w4).call ?_
      rintro _ w5 ⟨⟨n, ok, rfl, hy, hn⟩, h5⟩
      refine ⟨n, ok, rfl, h5.keeps, fun hb => ⟨k4.trans h5, .inr ⟨rfl, hne, _, hm, hn (by simpa using hb)⟩⟩, fun hb v5 w6 o6 h6 => ?_⟩
      have k6 := (k4.trans h5).trans h6
      refine ((o4.ext h5).ext h6).app1 o6 rfl (by simp; omega) k6.size fun v' w7 o7 g7 _ => ⟨by unfold I64; simp only; omega, (k + 1, v'), rfl, rfl, ⟨hk', ⟨zs ++ [n], ?_, by simp [hzl], by rw [ints_append]; exact o7⟩, ?_⟩, by simp only; omega⟩
      · simp only
        rw [List.take_add_one, List.getElem?_eq_getElem hk']
        exact rds_snoc hr (rd13_rd (hy (by simpa using hb)))
      · exact ⟨((u4.ext h5).ext h6).grown g7 (Apart.types ((u4.ext h5).ext h6) ((o4.ext h5).ext h6) (by decide)), k6.grown ((o4.ext h5).ext h6) (Nat.le_refl _) g7⟩
    · simp only at hge
      obtain rfl : k = (cutAt 44 l).length := by omega
      rw [List.take_length] at hr
      exact ⟨k4, .inl ⟨v, zs, rfl, o4, .inr ⟨hne, hr⟩⟩⟩)
/-! ### the list with a text -/
def listO (l : List UInt8) : Option (List Int) := if l = [45] then some [] else match rds (cutAt 44 l) with
  | some zs => if Nums zs then some zs else none
  | none => none
def readL (l : List UInt8) : List Int := (listO l).getD []
def readC (l : List UInt8) : Int := if (listO l).isSome then 0 else 6
theorem listO_nums {l : List UInt8} {zs : List Int} (h : listO l = some zs) : Nums zs := by
  unfold listO at h
  split at h
  · injection h with h
    subst h
    exact ⟨by simp, fun z hz => (by cases hz)⟩
  · split at h
    · split at h
      · rename_i hn
        injection h with h
        subst h
        exact hn
      · cases h
    · cases h
theorem readL_len (l : List UInt8) : (readL l).length ≤ 100 := by
  unfold readL
  cases h : listO l with
  | none => simp
  | some zs => exact (listO_nums h).1
theorem slr_some {w w' : World} {l : List UInt8} {zs : List Int} (h : listO l = some zs) {u : Value} (o : Own w.heap.size w' 2 u (ints zs)) (e : Ext w w') : ∃ x, Value.tuple #[u, .int .i64 0] = .tuple #[x, .int .i64 (readC l)] ∧ Own w.heap.size w' 2 x (ints (readL l)) ∧ Ext w w' := by
  unfold readC readL
  rw [h]
  exact ⟨u, rfl, o, e⟩
theorem slr_none {w w' : World} {l : List UInt8} (h : listO l = none) (e : Ext w w') : ∃ x, Value.tuple #[.slice none 0 0, .int .i64 6] = .tuple #[x, .int .i64 (readC l)] ∧ Own w.heap.size w' 2 x (ints (readL l)) ∧ Ext w w' := by
  unfold readC readL
  rw [h]
  exact ⟨_, rfl, Own.nil_ _ _ _, e⟩
abbrev spec_ReadList_k0 (Post : Value → World → Prop) (x24 : Value) (x38 : Bool) (w39 : World) : Prop :=
  ((x38 = true → Post (Value.tuple #[(Value.slice none 0 0), (Value.int .i64 6)]) w39) ∧ (x38 = false → Post (Value.tuple #[x24, (Value.int .i64 0)]) w39))
def spec_ReadList_vc (t : ByteArray) (w : World) (Post : Value → World → Prop) : Prop :=
  Calls Tryd.prog 47 #[(Value.string t)] w (fun e1 w2 => ∃ u3 : Value, ∃ b4 : Bool, e1 = .returned (Value.tuple #[u3, (Value.bool b4)]) ∧ Keeps w.heap.size [] w w2 ∧ (((!b4) = true → Post (Value.tuple #[(Value.slice none 0 0), (Value.int .i64 6)]) w2) ∧ ((!b4) = false → Calls Tryd.prog 42 #[u3] w2 (fun e19 w20 => ∃ b21 : Bool, e19 = .returned (Value.bool b21) ∧ Keeps w.heap.size [] w2 w20 ∧ (spec_ReadList_k0 Post u3 (!b21) w20)))))
theorem spec_ReadList_eq (t : ByteArray) (w : World) (Post : Value → World → Prop) : denF Tryd.prog [] noAnn 16 [(Value.string t)] w Post = spec_ReadList_vc t w Post := by kernel_rfl
set_option maxRecDepth 100000 in
theorem spec_ReadList_calls (t : ByteArray) (w : World) (Post : Value → World → Prop) (hvc : spec_ReadList_vc t w Post) : Ret Tryd.prog 16 #[(Value.string t)] w Post :=
  Ret.of (denF_sound mixed (Eq.mpr (spec_ReadList_eq t w Post) hvc))

theorem spec_ReadList_ret (l : List UInt8) (w : World) (hl : l.length ≤ 1048576) : SlR 16 #[txt l] w (readL l) (readC l) :=
  spec_ReadList_calls ⟨l.toArray⟩ w _ (by
    unfold spec_ReadList_vc
    refine (spec_l01Read_ret l w hl).call ?_
    rintro _ w2 ⟨h2, ⟨u, zs, rfl, o2, hz⟩ | ⟨rfl, hne, x, hx, hbad⟩⟩
    · refine ⟨u, true, rfl, h2.keeps, fun h => (by cases h), fun _ => ?_⟩
      refine (spec_l01Numbers_val u zs w2 o2.rd).call fun w3 h3 => ⟨_, rfl, h3.keeps, fun hb => ?_, fun hb => ?_⟩
      · refine slr_none ?_ (h2.trans h3)
        rcases hz with ⟨rfl, rfl⟩ | ⟨hne, hr⟩
        · exact absurd ⟨by simp, fun z hz => (by cases hz)⟩ (nd_t hb)
        · unfold listO
          rw [if_neg hne, hr]
          simp only
          rw [if_neg (nd_t hb)]
      · refine slr_some ?_ (o2.ext h3) (h2.trans h3)
        rcases hz with ⟨rfl, rfl⟩ | ⟨hne, hr⟩
        · rfl
        · unfold listO
          rw [if_neg hne, hr]
          simp only
          rw [if_pos (nd_f hb)]
    · refine ⟨_, false, rfl, h2.keeps, fun _ => slr_none ?_ h2, fun h => (by cases h)⟩
      unfold listO
      rw [if_neg hne]
      split
      · rename_i zs hr
        obtain ⟨z, hz, hs⟩ := rds_no13 hx hbad hr
        rw [if_neg fun hn => hs (by have := hn.2 z hz; simp only [Mx] at this; unfold Sml; omega)]
      · rfl)
abbrev impl_ReadList_k0 (Post : Value → World → Prop) (x31 : Value) (x47 : Bool) (w48 : World) : Prop :=
  ((x47 = true → Post (Value.tuple #[(Value.slice none 0 0), (Value.int .i64 6)]) w48) ∧ (x47 = false → Post (Value.tuple #[x31, (Value.int .i64 0)]) w48))
abbrev impl_ReadList_k1 (w : World) (Post : Value → World → Prop) (x1 : ByteArray) (w5 : World) : Prop :=
  Calls Tryd.prog 46 #[(Value.string x1), (Value.string (⟨#[44]⟩ : ByteArray))] w5 (fun e6 w7 => ∃ u8 : Value, ∃ b9 : Bool, e6 = .returned (Value.tuple #[u8, (Value.bool b9)]) ∧ Keeps w.heap.size [] w5 w7 ∧ (((!b9) = true → Post (Value.tuple #[(Value.slice none 0 0), (Value.int .i64 6)]) w7) ∧ ((!b9) = false → Calls Tryd.prog 40 #[u8] w7 (fun e26 w27 => ∃ b28 : Bool, e26 = .returned (Value.bool b28) ∧ Keeps w.heap.size [] w7 w27 ∧ (impl_ReadList_k0 Post u8 (!b28) w27)))))
def impl_ReadList_vc (t : ByteArray) (w : World) (Post : Value → World → Prop) : Prop :=
  (((t.toList == (⟨#[45]⟩ : ByteArray).toList) = true → Post (Value.tuple #[(Value.slice none 0 0), (Value.int .i64 0)]) w) ∧ ((t.toList == (⟨#[45]⟩ : ByteArray).toList) = false → (impl_ReadList_k1 w Post t w)))
theorem impl_ReadList_eq (t : ByteArray) (w : World) (Post : Value → World → Prop) : denF Tryd.prog [] noAnn 15 [(Value.string t)] w Post = impl_ReadList_vc t w Post := by kernel_rfl
set_option maxRecDepth 100000 in
theorem impl_ReadList_calls (t : ByteArray) (w : World) (Post : Value → World → Prop) (hvc : impl_ReadList_vc t w Post) : Ret Tryd.prog 15 #[(Value.string t)] w Post :=
  Ret.of (denF_sound mixed (Eq.mpr (impl_ReadList_eq t w Post) hvc))

theorem impl_ReadList_ret (l : List UInt8) (w : World) (hl : l.length ≤ 1048576) (hg : Gs w) : SlR 15 #[txt l] w (readL l) (readC l) :=
  impl_ReadList_calls ⟨l.toArray⟩ w _ (by
    unfold impl_ReadList_vc
    have h45 : (((⟨l.toArray⟩ : ByteArray).toList == (⟨#[45]⟩ : ByteArray).toList)) = decide (l = [45]) := ba_beq l [45]
    rw [h45]
    refine ⟨fun h => ?_, fun h => ?_⟩
    · refine slr_some (zs := []) ?_ (Own.nil_ _ _ _) (.refl w)
      unfold listO
      rw [if_pos (of_decide_eq_true h)]
    have hne := of_decide_eq_false h
    unfold impl_ReadList_k1
    refine (impl_parted_ret l 44 w hl hg).call ?_
    rintro _ w2 ⟨⟨u, zs, rfl, o2, hr⟩ | ⟨rfl, hr⟩, h2⟩
    · refine ⟨u, true, rfl, h2.keeps, fun h => (by cases h), fun _ => ?_⟩
      refine (impl_areNumbers_val u zs w2 o2.rd).call fun w3 h3 => ⟨_, rfl, h3.keeps, fun hb => ?_, fun hb => ?_⟩
      · refine slr_none ?_ (h2.trans h3)
        unfold listO
        rw [if_neg hne, hr]
        simp only
        rw [if_neg (nd_t hb)]
      · refine slr_some ?_ (o2.ext h3) (h2.trans h3)
        unfold listO
        rw [if_neg hne, hr]
        simp only
        rw [if_pos (nd_f hb)]
    · refine ⟨_, false, rfl, h2.keeps, fun _ => slr_none ?_ h2, fun h => (by cases h)⟩
      unfold listO
      rw [if_neg hne, hr])
end Go.Proofs
