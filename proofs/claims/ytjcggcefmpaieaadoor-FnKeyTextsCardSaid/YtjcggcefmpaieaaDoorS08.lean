/- A list of numbers read out of a text: contracts of both. No condition. -/
import Derived.Test.YtjcggcefmpaieaaDoorS05
import Derived.Test.YtjcggcefmpaieaaDoorS07
import Derived.Test.YtjcggcefmpaieaaDoorShf
import Derived.Lib.SplitLaws
import Derived.Lib.AtoiErrMem
set_option linter.unusedVariables false
namespace Go.Tx
open Go Go.Lib Go.Sx
theorem drop_split (l : List UInt8) {f i : Nat} (hf : f ≤ i) (hi : i < l.length) : l.drop f = (l.take i).drop f ++ l[i] :: l.drop (i + 1) := by
  conv => lhs; rw [← List.take_append_drop i l, List.drop_eq_getElem_cons hi]
  rw [List.drop_append_of_le_length (by rw [List.length_take]; omega)]
/-- the words between two marks -/
theorem split_words (b : UInt8) (l : List UInt8) : splitB ⟨#[b]⟩ 0 (countB ⟨l.toArray⟩ ⟨#[b]⟩) ⟨l.toArray⟩ = (cutAt b l).map fun x => ⟨x.toArray⟩ := by
  have h := splitB_data ⟨#[b]⟩ 0 (countB ⟨l.toArray⟩ ⟨#[b]⟩) ⟨l.toArray⟩
  have h2 : countB ⟨l.toArray⟩ ⟨#[b]⟩ = count l [b] := rfl
  rw [show (⟨l.toArray⟩ : ByteArray).data.toList = l from rfl, show (⟨#[b]⟩ : ByteArray).data.toList = [b] from rfl] at h
  rw [h2] at h ⊢
  rw [splitK_cut b l.length l (Nat.le_refl _)] at h
  rw [← h, List.map_map]
  conv => lhs; rw [← List.map_id (splitB _ _ _ _)]
  refine List.map_congr_left fun x _ => ?_
  exact (ba_eta x).symm
end Go.Tx
namespace Go.Proofs
open Go.Sx Go.RowKit Go.Tx

/-- the library's variables that a reader of texts meets -/
def Gs (w : World) : Prop := Gl w ∧ (∃ m : Int, w.cell? ⟨0, 0, none⟩ = some (.int .i64 m)) ∧
  (∃ ev, w.cell? ⟨2, 0, none⟩ = some ev ∧ (ev = .nilIface ∨ ∃ te pe, ev = .iface te pe)) ∧ (∃ ev, w.cell? ⟨3, 0, none⟩ = some ev ∧ (ev = .nilIface ∨ ∃ te pe, ev = .iface te pe))
theorem Gs.ext {w w' : World} (h : Gs w) (e : Ext w w') : Gs w' := by
  obtain ⟨h1, ⟨m, hm⟩, ⟨a, ha, ha'⟩, ⟨b, hb, hb'⟩⟩ := h
  exact ⟨h1.ext e, ⟨m, e.cell hm⟩, ⟨a, e.cell ha, ha'⟩, ⟨b, e.cell hb, hb'⟩⟩
/-- 'strings.Split(s, b)' -/
theorem split_ret (l : List UInt8) (b : UInt8) (w : World) (hg : Gs w) (hl : l.length ≤ 1048576) : Ret Tryd.prog 52 #[txt l, .string ⟨#[b]⟩] w fun v w' => Own w.heap.size w' 9 v (strs (cutAt b l)) ∧ Ext w w' := by
  obtain ⟨_, ⟨m, hm⟩, _⟩ := hg
  refine Ret.of ((Tryd.strings_Split ⟨l.toArray⟩ ⟨#[b]⟩ m w (by rw [ba_size]; omega) hm (Nat.le_refl 1)).mono ?_)
  rintro e w' ⟨rfl, rfl⟩
  have hc : Lib.countB ⟨l.toArray⟩ ⟨#[b]⟩ + 1 = (strs (cutAt b l)).length := by
    rw [← Lib.splitB_all ⟨#[b]⟩ (Nat.le_refl 1) 0 _ ⟨l.toArray⟩ rfl, split_words, strs_length, List.length_map]
  have hle := cutAt_length b l
  have hcells : (((Lib.splitB ⟨#[b]⟩ 0 (Lib.countB ⟨l.toArray⟩ ⟨#[b]⟩) ⟨l.toArray⟩).map Value.string).toArray) = (strs (cutAt b l)).toArray := by
    rw [split_words, List.map_map]
    rfl
  refine ⟨_, rfl, ?_, Ext.alloc _ _⟩
  rw [hc, hcells]
  have hh : (w.alloc (.cells (strs (cutAt b l)).toArray 9)).heap[w.heap.size]? = some (.cells (strs (cutAt b l)).toArray 9 (0, 0)) := by
    show (w.heap.push _)[w.heap.size]? = _
    simp
  exact ⟨by simp, .inr ⟨w.heap.size, _, _, rfl, Nat.le_refl _, hh, Nat.le_refl _, by rw [strs_length]; unfold maxLen; omega, by simp, by simp⟩⟩
def spec_l01Split_A (t : ByteArray) (c : Int) (w : World) : Nat → Ann := fun κ => match κ with
  | 0 => { σ := Nat × Value × Nat, sli := [7, 5, 6], slc := fun s => [SV.v (Value.int .i64 (s.1 : Int)), SV.v s.2.1, SV.v (Value.int .i64 (s.2.2 : Int))], bxi := [], bxc := fun s => [], inv := fun s W => True, μ := fun s W => 0, free := true }
  | _ => { σ := Unit, sli := [], slc := fun _ => [], bxi := [], bxc := fun _ => [], inv := fun _ _ => False, μ := fun _ _ => 0 }
abbrev spec_l01Split_k0 (s4 : Nat × Value × Nat) (w5 : World) (J6 : (Nat × Value × Nat) → World → Prop) (m7 : (Nat × Value × Nat) → World → Nat) (x29 : Value) (x30 : Int) (x31 : Int) (w47 : World) : Prop :=
  I64 (x31 + 1) ∧ ∃ s48 : (Nat × Value × Nat), (Value.int .i64 (x31 + 1)) = (Value.int .i64 (s48.1 : Int)) ∧ x29 = s48.2.1 ∧ (Value.int .i64 x30) = (Value.int .i64 (s48.2.2 : Int)) ∧ (J6 s48 w47) ∧ (m7 s48 w47) < (m7 s4 w5)
abbrev spec_l01Split_k1 (t : ByteArray) (s4 : Nat × Value × Nat) (w5 : World) (J6 : (Nat × Value × Nat) → World → Prop) (m7 : (Nat × Value × Nat) → World → Nat) (x15 : Value) (x16 : Int) (x17 : Int) (w24 : World) : Prop :=
  0 ≤ x16 ∧ x16 ≤ x17 ∧ x17 ≤ (t.size : Int) ∧ ∀ (v25 : Value) (w26 : World), Sx.Own w24.heap.size w26 9 v25 [(Value.string (t.extract x16.toNat x17.toNat))] → Ext w24 w26 → AppV w26 9 x15 v25 (fun v27 w28 => I64 (x17 + 1) ∧ (spec_l01Split_k0 s4 w5 J6 m7 v27 (x17 + 1) x17 w28))
abbrev spec_l01Split_k2 (t : ByteArray) (c : Int) (s4 : Nat × Value × Nat) (w5 : World) (J6 : (Nat × Value × Nat) → World → Prop) (m7 : (Nat × Value × Nat) → World → Nat) (c49 : UInt8) (x50 : Value) (x51 : Int) (x52 : Int) (w63 : World) : Prop :=
  ((((c49.toNat : Int) = c) → 0 ≤ x51 ∧ x51 ≤ x52 ∧ x52 ≤ (t.size : Int) ∧ ∀ (v64 : Value) (w65 : World), Sx.Own w63.heap.size w65 9 v64 [(Value.string (t.extract x51.toNat x52.toNat))] → Ext w63 w65 → AppV w65 9 x50 v64 (fun v66 w67 => I64 (x52 + 1) ∧ (spec_l01Split_k0 s4 w5 J6 m7 v66 (x52 + 1) x52 w67))) ∧ (¬ ((c49.toNat : Int) = c) → (spec_l01Split_k0 s4 w5 J6 m7 x50 x51 x52 w63)))
abbrev spec_l01Split_k3 (t : ByteArray) (c : Int) (s4 : Nat × Value × Nat) (w5 : World) (J6 : (Nat × Value × Nat) → World → Prop) (m7 : (Nat × Value × Nat) → World → Nat) (x8 : Value) (x9 : Int) (x10 : Int) (w14 : World) : Prop :=
  (((x10 = (t.size : Int)) → (spec_l01Split_k1 t s4 w5 J6 m7 x8 x9 x10 w14)) ∧ (¬ (x10 = (t.size : Int)) → 0 ≤ x10 ∧ ∃ c49 : UInt8, t[x10.toNat]? = some c49 ∧ (spec_l01Split_k2 t c s4 w5 J6 m7 c49 x8 x9 x10 w14)))
def spec_l01Split_vc (t : ByteArray) (c : Int) (w : World) (Post : Value → World → Prop) : Prop :=
  ∀ (v1 : Value) (w2 : World), Sx.Own w.heap.size w2 9 v1 [] → Ext w w2 → (∃ (J6 : (Nat × Value × Nat) → World → Prop) (m7 : (Nat × Value × Nat) → World → Nat), ((∃ s3 : (Nat × Value × Nat), (Value.int .i64 0) = (Value.int .i64 (s3.1 : Int)) ∧ v1 = s3.2.1 ∧ (Value.int .i64 0) = (Value.int .i64 (s3.2.2 : Int)) ∧ (J6 s3 w2)) ∧ ∀ (s4 : (Nat × Value × Nat)) (w5 : World), (J6 s4 w5) → ((((s4.1 : Int) ≤ (t.size : Int)) → (spec_l01Split_k3 t c s4 w5 J6 m7 s4.2.1 (s4.2.2 : Int) (s4.1 : Int) w5)) ∧ (¬ ((s4.1 : Int) ≤ (t.size : Int)) → Post s4.2.1 w5))))
theorem spec_l01Split_eq (t : ByteArray) (c : Int) (w : World) (Post : Value → World → Prop) : denF Tryd.prog [] (spec_l01Split_A t c w) 79 [(Value.string t), (Value.int .u8 c)] w Post = spec_l01Split_vc t c w Post := by kernel_rfl
set_option maxRecDepth 100000 in
theorem spec_l01Split_calls (t : ByteArray) (c : Int) (w : World) (Post : Value → World → Prop) (hvc : spec_l01Split_vc t c w Post) : Ret Tryd.prog 79 #[(Value.string t), (Value.int .u8 c)] w Post :=
  Ret.of (denF_sound mixed (Eq.mpr (spec_l01Split_eq t c w Post) hvc))

theorem spec_l01Split_ret (l : List UInt8) (b : UInt8) (w : World) (hl : l.length ≤ 1048576) : Ret Tryd.prog 79 #[txt l, .int .u8 (b.toNat : Int)] w fun v w' => Own w.heap.size w' 9 v (strs (cutAt b l)) ∧ Ext w w' :=
  spec_l01Split_calls ⟨l.toArray⟩ (b.toNat : Int) w _ (by
    unfold spec_l01Split_vc
    have hbs := ba_size l
    rw [ba_size]
    intro v1 w1 o1 h1
    refine ⟨fun s W => ∃ ws : List (List UInt8), Own w.heap.size W 9 s.2.1 (strs ws) ∧ Ext w W ∧ ws.length ≤ s.1 ∧ ((s.1 ≤ l.length ∧ s.2.2 ≤ s.1 ∧ cutAt b l = ws ++ cutAt b (l.drop s.2.2) ∧ b ∉ (l.take s.1).drop s.2.2) ∨ (s.1 = l.length + 1 ∧ ws = cutAt b l)), fun s _ => l.length + 1 - s.1, ⟨(0, v1, 0), rfl, rfl, rfl, [], o1, h1, Nat.le_refl _, .inl ⟨Nat.zero_le _, Nat.le_refl _, rfl, by simp⟩⟩, ?_⟩
    rintro ⟨i, v, f⟩ w2 ⟨ws, o2, h2, hw, hor⟩
    simp only at o2 hor hw
    refine ⟨fun hle => ?_, fun hgt => ?_⟩
    · simp only at hle
      rcases hor with ⟨hi, hf, hcut, hno⟩ | ⟨hi, _⟩
      rotate_left
      · omega
      have add : ∀ (x : List UInt8) (W : World), Ext w2 W → x = (l.take i).drop f → ∀ (v3 : Value) (w3 : World), Own W.heap.size w3 9 v3 [txt x] → Ext W w3 → ∀ {K : Value → World → Prop}, (∀ v' w', Own w.heap.size w' 9 v' (strs (ws ++ [x])) → Ext w w' → K v' w') → AppV w3 9 v v3 K := by
        intro x W hW hx v3 w3 o3 h3 K hK
        have k3 := (h2.trans hW).trans h3
        refine ((o2.ext hW).ext h3).app1 o3 rfl (by rw [strs_length]; omega) k3.size fun v' w' o g _ => hK v' w' (by rw [strs_append]; exact o) (k3.grown ((o2.ext hW).ext h3) (Nat.le_refl _) g)
      refine ⟨fun heq => ?_, fun hne => ?_⟩
      · have hil : i = l.length := by omega
        refine ⟨by (try simp only); omega, by (try simp only); omega, by (try simp only); omega, fun v3 w3 o3 h3 => ?_⟩
        rw [show ((f : Int)).toNat = f by omega, show ((i : Int)).toNat = i by omega, ba_extract l hf hi] at o3
        refine add _ w2 (.refl _) rfl v3 w3 o3 h3 fun v' w' o' h' => ⟨by unfold I64; omega, by unfold I64; omega, (i + 1, v', i + 1), rfl, rfl, rfl, ⟨_, o', h', by rw [List.length_append]; simp only [List.length_cons, List.length_nil]; omega, .inr ⟨by simp only; omega, ?_⟩⟩, by simp only; omega⟩
        subst hil
        rw [List.take_length] at hno ⊢
        rw [hcut, cutAt_none hno]
      · have hil : i < l.length := by omega
        refine ⟨by omega, l[i], by rw [show ((i : Int)).toNat = i by omega]; exact ba_get hil, fun hb => ?_, fun hb => ?_⟩
        · refine ⟨by (try simp only); omega, by (try simp only); omega, by (try simp only); omega, fun v3 w3 o3 h3 => ?_⟩
          rw [show ((f : Int)).toNat = f by omega, show ((i : Int)).toNat = i by omega, ba_extract l hf hi] at o3
          refine add _ w2 (.refl _) rfl v3 w3 o3 h3 fun v' w' o' h' => ⟨by unfold I64; omega, by unfold I64; omega, (i + 1, v', i + 1), rfl, rfl, rfl, ⟨_, o', h', by rw [List.length_append]; simp only [List.length_cons, List.length_nil]; omega, .inl ⟨hil, Nat.le_refl _, ?_, by simp⟩⟩, by simp only; omega⟩
          have hbe : l[i] = b := by
            apply UInt8.toNat_inj.1
            omega
          rw [hcut, drop_split l hf hil, hbe, cutAt_hit hno, List.append_assoc]
          rfl
        · refine ⟨by unfold I64; omega, (i + 1, v, f), rfl, rfl, rfl, ⟨ws, o2, h2, by simp only; omega, .inl ⟨hil, by simp only; omega, hcut, ?_⟩⟩, by simp only; omega⟩
          simp only
          rw [List.take_add_one, List.getElem?_eq_getElem hil, List.drop_append_of_le_length (by rw [List.length_take]; omega)]
          intro hm
          rcases List.mem_append.1 hm with hm | hm
          · exact hno hm
          · simp at hm
            exact hb (by rw [hm])
    · simp only at hgt
      rcases hor with ⟨hi, _⟩ | ⟨_, rfl⟩
      · omega
      · exact ⟨o2, h2⟩)
/-- a number, if there is one -/
def NumP (r : Value) (o : Option Int) : Prop := ∃ (n : Int) (b : Bool), r = .tuple #[.int .i64 n, .bool b] ∧ (b = true → o = some n) ∧ (b = false → o = none)
def spec_l01Value_A (t : ByteArray) (w : World) : Nat → Ann := fun κ => match κ with
  | 0 => { σ := Nat × Int, sli := [5, 4], slc := fun s => [SV.v (Value.int .i64 (s.1 : Int)), SV.v (Value.int .i64 s.2)], bxi := [], bxc := fun s => [], inv := fun s W => True, μ := fun s W => 0, free := true }
  | _ => { σ := Unit, sli := [], slc := fun _ => [], bxi := [], bxc := fun _ => [], inv := fun _ _ => False, μ := fun _ _ => 0 }
abbrev spec_l01Value_k0 (s21 : Nat × Int) (w22 : World) (J23 : (Nat × Int) → World → Prop) (m24 : (Nat × Int) → World → Nat) (x67 : Int) (x68 : Int) (w86 : World) : Prop :=
  I64 (x68 + 1) ∧ ∃ s87 : (Nat × Int), (Value.int .i64 (x68 + 1)) = (Value.int .i64 (s87.1 : Int)) ∧ (Value.int .i64 x67) = (Value.int .i64 s87.2) ∧ (J23 s87 w86) ∧ (m24 s87 w86) < (m24 s21 w22)
abbrev spec_l01Value_k1 (x13 : ByteArray) (s21 : Nat × Int) (w22 : World) (J23 : (Nat × Int) → World → Prop) (m24 : (Nat × Int) → World → Nat) (x54 : Int) (x55 : Int) (w65 : World) : Prop :=
  I64 (10 * x54) ∧ 0 ≤ x55 ∧ ∃ c66 : UInt8, x13[x55.toNat]? = some c66 ∧ I64 (IntKind.wrap .u8 ((c66.toNat : Int) - 48)) ∧ I64 ((10 * x54) + (IntKind.wrap .u8 ((c66.toNat : Int) - 48))) ∧ (spec_l01Value_k0 s21 w22 J23 m24 ((10 * x54) + (IntKind.wrap .u8 ((c66.toNat : Int) - 48))) x55 w65)
abbrev spec_l01Value_k2 (Post : Value → World → Prop) (x13 : ByteArray) (s21 : Nat × Int) (w22 : World) (J23 : (Nat × Int) → World → Prop) (m24 : (Nat × Int) → World → Nat) (c41 : UInt8) (x42 : Int) (x43 : Int) (w53 : World) : Prop :=
  ((((57 : Int) < (c41.toNat : Int)) → Post (Value.tuple #[(Value.int .i64 0), (Value.bool false)]) w53) ∧ (¬ ((57 : Int) < (c41.toNat : Int)) → (spec_l01Value_k1 x13 s21 w22 J23 m24 x42 x43 w53)))
abbrev spec_l01Value_k3 (Post : Value → World → Prop) (x13 : ByteArray) (s21 : Nat × Int) (w22 : World) (J23 : (Nat × Int) → World → Prop) (m24 : (Nat × Int) → World → Nat) (x25 : Int) (x26 : Int) (w30 : World) : Prop :=
  0 ≤ x26 ∧ ∃ c31 : UInt8, x13[x26.toNat]? = some c31 ∧ ((((c31.toNat : Int) < (48 : Int)) → Post (Value.tuple #[(Value.int .i64 0), (Value.bool false)]) w30) ∧ (¬ ((c31.toNat : Int) < (48 : Int)) → 0 ≤ x26 ∧ ∃ c41 : UInt8, x13[x26.toNat]? = some c41 ∧ (spec_l01Value_k2 Post x13 s21 w22 J23 m24 c41 x25 x26 w30)))
abbrev spec_l01Value_k4 (w : World) (Post : Value → World → Prop) (x88 : ByteArray) (x89 : Int) (w98 : World) : Prop :=
  Calls Tryd.prog 77 #[(Value.int .i64 x89)] w98 (fun e99 w100 => ∃ s101 : ByteArray, e99 = .returned (Value.string s101) ∧ Keeps w.heap.size [] w98 w100 ∧ Post (Value.tuple #[(Value.int .i64 x89), (Value.bool (s101.toList == x88.toList))]) w100)
abbrev spec_l01Value_k5 (w : World) (Post : Value → World → Prop) (x13 : ByteArray) (w19 : World) : Prop :=
  (∃ (J23 : (Nat × Int) → World → Prop) (m24 : (Nat × Int) → World → Nat), ((∃ s20 : (Nat × Int), (Value.int .i64 0) = (Value.int .i64 (s20.1 : Int)) ∧ (Value.int .i64 0) = (Value.int .i64 s20.2) ∧ (J23 s20 w19)) ∧ ∀ (s21 : (Nat × Int)) (w22 : World), (J23 s21 w22) → ((((s21.1 : Int) < (x13.size : Int)) → (spec_l01Value_k3 Post x13 s21 w22 J23 m24 s21.2 (s21.1 : Int) w22)) ∧ (¬ ((s21.1 : Int) < (x13.size : Int)) → (spec_l01Value_k4 w Post x13 s21.2 w22)))))
abbrev spec_l01Value_k6 (t : ByteArray) (w : World) (Post : Value → World → Prop) (x6 : ByteArray) (w12 : World) : Prop :=
  ((((13 : Int) < (t.size : Int)) → Post (Value.tuple #[(Value.int .i64 0), (Value.bool false)]) w12) ∧ (¬ ((13 : Int) < (t.size : Int)) → (spec_l01Value_k5 w Post x6 w12)))
def spec_l01Value_vc (t : ByteArray) (w : World) (Post : Value → World → Prop) : Prop :=
  ((((t.size : Int) < (1 : Int)) → Post (Value.tuple #[(Value.int .i64 0), (Value.bool false)]) w) ∧ (¬ ((t.size : Int) < (1 : Int)) → (spec_l01Value_k6 t w Post t w)))
theorem spec_l01Value_eq (t : ByteArray) (w : World) (Post : Value → World → Prop) : denF Tryd.prog [] (spec_l01Value_A t w) 80 [(Value.string t)] w Post = spec_l01Value_vc t w Post := by kernel_rfl
set_option maxRecDepth 100000 in
theorem spec_l01Value_calls (t : ByteArray) (w : World) (Post : Value → World → Prop) (hvc : spec_l01Value_vc t w Post) : Ret Tryd.prog 80 #[(Value.string t)] w Post :=
  Ret.of (denF_sound mixed (Eq.mpr (spec_l01Value_eq t w Post) hvc))

theorem spec_l01Value_ret (l : List UInt8) (w : World) : Ret Tryd.prog 80 #[txt l] w fun r w' => NumP r (rd13 l) ∧ Ext w w' :=
  spec_l01Value_calls ⟨l.toArray⟩ w _ (by
    unfold spec_l01Value_vc
    have hbs := ba_size l
    rw [ba_size]
    have no : ∀ (W : World), Ext w W → (∀ n, Sml n → l ≠ Lib.itoa n) → NumP (Value.tuple #[.int .i64 0, .bool false]) (rd13 l) ∧ Ext w W := fun W hW h => ⟨⟨0, false, rfl, fun h => (by cases h), fun _ => rd13_none h⟩, hW⟩
    refine ⟨fun h => no w (.refl _) fun n hn e => ?_, fun h => ⟨fun h2 => no w (.refl _) fun n hn e => ?_, fun h2 => ?_⟩⟩
    · have := (sml_dec hn).2.1
      rw [← e] at this
      omega
    · have := (sml_dec hn).2.2.1
      rw [← e] at this
      omega
    unfold spec_l01Value_k5
    rw [ba_size]
    refine ⟨fun s W => s.1 ≤ l.length ∧ s.2 = (valD 0 (l.take s.1) : Int) ∧ (∀ c ∈ l.take s.1, isDig c) ∧ Ext w W, fun s _ => l.length - s.1, ⟨(0, 0), rfl, rfl, Nat.zero_le _, rfl, by simp, .refl _⟩, ?_⟩
    rintro ⟨k, n⟩ w2 ⟨hk, hn, hd, k2⟩
    simp only at hk hn hd
    subst hn
    have hsz := valD_sml hd (by rw [List.length_take]; omega)
    refine ⟨fun hlt => ?_, fun hge => ?_⟩
    · simp only at hlt
      have hk' : k < l.length := by omega
      have hg : (⟨l.toArray⟩ : ByteArray)[((k : Int)).toNat]? = some l[k] := by rw [show ((k : Int)).toNat = k by omega]; exact ba_get hk'
      have bad : ¬ isDig l[k] → ∀ n, Sml n → l ≠ Lib.itoa n := fun h n hn e => h ((sml_dec hn).2.2.2 _ (by rw [← e]; exact List.getElem_mem hk'))
      refine ⟨by omega, l[k], hg, fun hlo => no w2 k2 (bad fun hh => by unfold isDig at hh; omega), fun hlo => ⟨by omega, l[k], hg, fun hhi => no w2 k2 (bad fun hh => by unfold isDig at hh; omega), fun hhi => ?_⟩⟩
      have hdk : isDig l[k] := by unfold isDig; omega
      have hw : IntKind.wrap .u8 ((l[k].toNat : Int) - 48) = (l[k].toNat : Int) - 48 := IntWalk.u8_in _ ⟨by omega, by omega⟩
      unfold spec_l01Value_k1
      refine ⟨by unfold I64; omega, by omega, l[k], hg, ?_⟩
      rw [hw]
      refine ⟨by unfold I64; omega, by unfold I64; omega, by unfold I64; omega, (k + 1, _), rfl, rfl, ⟨hk', ?_, ?_, k2⟩, by simp only; omega⟩
      · simp only
        rw [valD_snoc l hk']
        omega
      · intro c hc
        simp only at hc
        rw [List.take_add_one, List.getElem?_eq_getElem hk'] at hc
        rcases List.mem_append.1 hc with hc | hc
        · exact hd c hc
        · simp at hc
          rw [hc]
          exact hdk
    · simp only at hge
      obtain rfl : k = l.length := by omega
      rw [List.take_length] at hd hsz ⊢
      unfold spec_l01Value_k4
      refine (spec_l01Dec_val ((valD 0 l : Int).toNat + 1) (valD 0 l : Int) w2 (by omega) (by omega) (by omega)).call fun w3 h3 => ⟨_, rfl, h3.keeps, ⟨_, _, rfl, fun hb => ?_, fun hb => ?_⟩, k2.trans h3⟩
      · rw [ba_beq] at hb
        have hb := of_decide_eq_true hb
        exact rd13_some.2 ⟨⟨by omega, by omega⟩, by rw [itoa_pos (by omega)]; exact hb.symm⟩
      · rw [ba_beq] at hb
        refine rd13_none fun n hn e => of_decide_eq_false hb ?_
        have := sml_val hn
        rw [← e] at this
        rw [this, (show ((n.toNat : Int)).toNat = n.toNat by omega), ← (sml_dec hn).1]
        exact e.symm)
def impl_number_vc (t : ByteArray) (w : World) (Post : Value → World → Prop) : Prop :=
  Calls Tryd.prog 105 #[(Value.string t), (Value.int .i64 10), (Value.int .i64 64)] w (fun e1 w2 => ∃ n3 : Int, ∃ u4 : Value, e1 = .returned (Value.tuple #[(Value.int .i64 n3), u4]) ∧ Keeps w.heap.size [] w w2 ∧ ∃ b5 : Bool, NilI u4 b5 ∧ ((b5 = true → Calls Tryd.prog 75 #[(Value.int .i64 n3)] w2 (fun e6 w7 => ∃ s8 : ByteArray, e6 = .returned (Value.string s8) ∧ Keeps w.heap.size [] w2 w7 ∧ Post (Value.tuple #[(Value.int .i64 n3), (Value.bool (s8.toList == t.toList))]) w7)) ∧ (b5 = false → Post (Value.tuple #[(Value.int .i64 n3), (Value.bool false)]) w2)))
theorem impl_number_eq (t : ByteArray) (w : World) (Post : Value → World → Prop) : denF Tryd.prog [] noAnn 78 [(Value.string t)] w Post = impl_number_vc t w Post := by kernel_rfl
set_option maxRecDepth 100000 in
theorem impl_number_calls (t : ByteArray) (w : World) (Post : Value → World → Prop) (hvc : impl_number_vc t w Post) : Ret Tryd.prog 78 #[(Value.string t)] w Post :=
  Ret.of (denF_sound mixed (Eq.mpr (impl_number_eq t w Post) hvc))

theorem impl_number_ret (l : List UInt8) (w : World) (hl : l.length ≤ 1048576) (hg : Gs w) : Ret Tryd.prog 78 #[txt l] w fun r w' => NumP r (rd l) ∧ Ext w w' :=
  impl_number_calls ⟨l.toArray⟩ w _ (by
    unfold impl_number_vc
    have hs : (⟨l.toArray⟩ : ByteArray).size ≤ 1048576 := by rw [ba_size]; exact hl
    have hdl : (⟨l.toArray⟩ : ByteArray).data.toList = l := rfl
    rcases hp : Lib.parseIntB 64 l with n | _ | _
    · have hr := parse_range hp
      refine (Tryd.strconv_ParseInt_10_at64_ok ⟨l.toArray⟩ (by omega) n hp w).mono ?_
      rintro e w1 ⟨rfl, hw⟩
      have h1 : Ext w w1 := by
        rcases hw with rfl | ⟨t, rfl⟩
        · exact .refl _
        · exact Lib.bytesWorld_below _ _ _
      refine ⟨n, _, rfl, h1.keeps, true, .inl ⟨rfl, rfl⟩, fun _ => ?_, fun h => (by cases h)⟩
      refine (impl_text_val n w1 hr (hg.1.ext h1)).call fun w2 h2 => ⟨_, rfl, h2.keeps, ⟨_, _, rfl, fun hb => ?_, fun hb => ?_⟩, h1.trans h2⟩
      · rw [ba_beq] at hb
        rw [← of_decide_eq_true hb]
        exact rd_itoa hr
      · rw [ba_beq] at hb
        unfold rd
        rw [hp]
        simp only
        rw [if_neg (of_decide_eq_false hb)]
    · obtain ⟨_, _, ⟨ev, hv, hev⟩, _⟩ := hg
      refine Calls.mono (Go.Proofs.Any.strconv_ParseInt_10_at64_syntax Tryd.laysC174 ⟨l.toArray⟩ (by omega) hp ev w hv hev) ?_
      rintro e w1 ⟨N, rfl, _, _, h1⟩
      have h1 : Ext w w1 := h1
      refine ⟨_, _, rfl, h1.keeps, false, .inr ⟨⟨_, _, rfl⟩, rfl⟩, fun h => (by cases h), fun _ => ⟨⟨_, _, rfl, fun h => (by cases h), fun _ => ?_⟩, h1⟩⟩
      unfold rd
      rw [hp]
    · obtain ⟨_, _, _, ⟨ev, hv, hev⟩⟩ := hg
      refine (Tryd.strconv_ParseInt_10_at64_range ⟨l.toArray⟩ (by omega) hp ev w hv hev).mono ?_
      rintro e w1 ⟨N, rfl, _, _, h1⟩
      have h1 : Ext w w1 := h1
      refine ⟨_, _, rfl, h1.keeps, false, .inr ⟨⟨_, _, rfl⟩, rfl⟩, fun h => (by cases h), fun _ => ⟨⟨_, _, rfl, fun h => (by cases h), fun _ => ?_⟩, h1⟩⟩
      unfold rd
      rw [hp])
end Go.Proofs
