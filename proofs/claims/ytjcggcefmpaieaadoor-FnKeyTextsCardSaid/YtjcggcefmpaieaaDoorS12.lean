/- Draws of texts, of lists and of keys: their contracts. No condition. -/
import Derived.Test.YtjcggcefmpaieaaDoorS09
import Derived.Test.YtjcggcefmpaieaaDoorS06
import Derived.Test.YtjcggcefmpaieaaDoorDraw5
set_option linter.unusedVariables false
namespace Go.Proofs
open Go.Sx Go.RowKit Go.Tx

/-- any text, as a list of bytes -/
theorem as_txt {n : Nat} (s : ByteArray) (h : s.size ≤ n) : ∃ x : List UInt8, Value.string s = txt x ∧ x.length ≤ n :=
  ⟨s.data.toList, (congrArg Value.string (ba_eta s)).symm, by rw [Array.length_toList]; exact h⟩
def dmg : List (List UInt8) := [[48], [35], [46], [47], [32], [97], [45], [10]]
theorem dmg_one : ∀ x ∈ dmg, x.length = 1 := by decide
abbrev spec_l01Damage_k0 (w : World) (Post : Value → World → Prop) (x23 : ByteArray) (x24 : Value) (x25 : Addr) (x28 : ByteArray) (w29 : World) : Prop :=
  Calls Tryd.prog 44 #[(Value.pointer (some x25)), (Value.int .i64 8)] w29 (fun e30 w31 => ∃ n32 : Int, e30 = .returned (Value.int .i64 n32) ∧ Keeps w.heap.size [] w29 w31 ∧ IxV 1 x24 n32 (fun ad33 => ∃ s34 : ByteArray, LdV w31 (Value.pointer (some ad33)) (Value.string s34) ∧ I64 ((x23.size + s34.size : Nat) : Int) ∧ I64 (((x23 ++ s34).size + x28.size : Nat) : Int) ∧ Post (Value.string ((x23 ++ s34) ++ x28)) w31))
abbrev spec_l01Damage_k1 (Post : Value → World → Prop) (x51 : ByteArray) (x53 : Int) (x56 : ByteArray) (w57 : World) : Prop :=
  ∀ (v58 : Value) (w59 : World), Sx.Own w57.heap.size w59 9 v58 [(Value.string (⟨#[48]⟩ : ByteArray)), (Value.string (⟨#[35]⟩ : ByteArray)), (Value.string (⟨#[46]⟩ : ByteArray)), (Value.string (⟨#[47]⟩ : ByteArray)), (Value.string (⟨#[32]⟩ : ByteArray)), (Value.string (⟨#[97]⟩ : ByteArray)), (Value.string (⟨#[45]⟩ : ByteArray)), (Value.string (⟨#[10]⟩ : ByteArray))] → Ext w57 w59 → IxV 1 v58 x53 (fun ad60 => ∃ s61 : ByteArray, LdV w59 (Value.pointer (some ad60)) (Value.string s61) ∧ I64 ((x51.size + s61.size : Nat) : Int) ∧ I64 (((x51 ++ s61).size + x56.size : Nat) : Int) ∧ Post (Value.string ((x51 ++ s61) ++ x56)) w59)
def spec_l01Damage_vc (p : Addr) (t : ByteArray) (w : World) (Post : Value → World → Prop) : Prop :=
  I64 ((t.size : Int) + 1) ∧ Calls Tryd.prog 44 #[(Value.pointer (some p)), (Value.int .i64 ((t.size : Int) + 1))] w (fun e1 w2 => ∃ n3 : Int, e1 = .returned (Value.int .i64 n3) ∧ Keeps w.heap.size [] w w2 ∧ Calls Tryd.prog 44 #[(Value.pointer (some p)), (Value.int .i64 8)] w2 (fun e4 w5 => ∃ n6 : Int, e4 = .returned (Value.int .i64 n6) ∧ Keeps w.heap.size [] w2 w5 ∧ (((n6 = (0 : Int)) → 0 ≤ (0 : Int) ∧ (0 : Int) ≤ n3 ∧ n3 ≤ (t.size : Int) ∧ Post (Value.string (t.extract (0 : Int).toNat n3.toNat)) w5) ∧ (¬ (n6 = (0 : Int)) → (((n6 = (1 : Int)) → ∀ w7 : World, Ext w5 w7 → 0 ≤ (0 : Int) ∧ (0 : Int) ≤ n3 ∧ n3 ≤ (t.size : Int) ∧ 0 ≤ n3 ∧ n3 ≤ (t.size : Int) ∧ (t.size : Int) ≤ (t.size : Int) ∧ ((∀ (v8 : Value) (w9 : World), Sx.Own w7.heap.size w9 9 v8 [(Value.string (⟨#[48]⟩ : ByteArray)), (Value.string (⟨#[35]⟩ : ByteArray)), (Value.string (⟨#[46]⟩ : ByteArray)), (Value.string (⟨#[47]⟩ : ByteArray)), (Value.string (⟨#[32]⟩ : ByteArray)), (Value.string (⟨#[97]⟩ : ByteArray)), (Value.string (⟨#[45]⟩ : ByteArray)), (Value.string (⟨#[10]⟩ : ByteArray))] → Ext w7 w9 → (spec_l01Damage_k0 w Post (t.extract (0 : Int).toNat n3.toNat) v8 p (t.extract n3.toNat (t.size : Int).toNat) w9)) ∧ (Calls Tryd.prog 44 #[(Value.pointer (some p)), (Value.int .i64 8)] w7 (fun e35 w36 => ∃ n37 : Int, e35 = .returned (Value.int .i64 n37) ∧ Keeps w.heap.size [] w7 w36 ∧ (spec_l01Damage_k1 Post (t.extract (0 : Int).toNat n3.toNat) n37 (t.extract n3.toNat (t.size : Int).toNat) w36))))) ∧ (¬ (n6 = (1 : Int)) → (((n6 = (2 : Int)) → (((n3 < (t.size : Int)) → ∀ w62 : World, Ext w5 w62 → 0 ≤ (0 : Int) ∧ (0 : Int) ≤ n3 ∧ n3 ≤ (t.size : Int) ∧ I64 (n3 + 1) ∧ 0 ≤ (n3 + 1) ∧ (n3 + 1) ≤ (t.size : Int) ∧ (t.size : Int) ≤ (t.size : Int) ∧ I64 (((t.extract (0 : Int).toNat n3.toNat).size + (t.extract (n3 + 1).toNat (t.size : Int).toNat).size : Nat) : Int) ∧ Post (Value.string ((t.extract (0 : Int).toNat n3.toNat) ++ (t.extract (n3 + 1).toNat (t.size : Int).toNat))) w62) ∧ (¬ (n3 < (t.size : Int)) → Post (Value.string t) w5))) ∧ (¬ (n6 = (2 : Int)) → Post (Value.string t) w5))))))))
theorem spec_l01Damage_eq (p : Addr) (t : ByteArray) (w : World) (Post : Value → World → Prop) : denF Tryd.prog [9400000, 9700000, 9800000] noAnn 45 [(Value.pointer (some p)), (Value.string t)] w Post = spec_l01Damage_vc p t w Post := by kernel_rfl
set_option maxRecDepth 100000 in
theorem spec_l01Damage_calls (p : Addr) (t : ByteArray) (w : World) (Post : Value → World → Prop) (hvc : spec_l01Damage_vc p t w Post) : Ret Tryd.prog 45 #[(Value.pointer (some p)), (Value.string t)] w Post :=
  Ret.of (denF_sound mixed (Eq.mpr (spec_l01Damage_eq p t w Post) hvc))

theorem spec_l01Damage_ret (wb : World) (b : Nat) (cv : Value) (zs : List Int) (w : World) (hs : Src wb b cv zs w) (l : List UInt8) (hl : l.length ≤ 1000000) : Ret Tryd.prog 45 #[.pointer (some ⟨b, 0, none⟩), txt l] w fun r w' => ∃ x : List UInt8, r = txt x ∧ x.length ≤ l.length + 1 ∧ Src wb b cv zs w' ∧ Pres (fun k => k ≠ b) w w' :=
  spec_l01Damage_calls ⟨b, 0, none⟩ ⟨l.toArray⟩ w _ (by
    unfold spec_l01Damage_vc
    have hbs := ba_size l
    have hb := hs.lt
    rw [hbs]
    have fin : ∀ (s : ByteArray) (W : World), s.size ≤ l.length + 1 → Dr wb b cv zs w W → ∃ x : List UInt8, Value.string s = txt x ∧ x.length ≤ l.length + 1 ∧ Src wb b cv zs W ∧ Pres (fun k => k ≠ b) w W := fun s W h d => by
      obtain ⟨x, e, hx⟩ := as_txt s h
      exact ⟨x, e, hx, d.1, d.2.1⟩
    have ex : ∀ i j : Nat, i ≤ j → j ≤ l.length → ((⟨l.toArray⟩ : ByteArray).extract i j).size = j - i := fun i j hi hj => by rw [ByteArray.size_extract, hbs]; omega
    refine ⟨by unfold I64; omega, ?_⟩
    refine hs.dr.next _ (by simp) fun n w2 n0 n1 d2 p2 => ?_
    refine d2.next 8 (by simp) fun q w3 q0 q1 d3 p3 => ?_
    have hn : n ≤ (l.length : Int) := by omega
    have hn' : n.toNat ≤ l.length := by omega
    have e0 : ((⟨l.toArray⟩ : ByteArray).extract (0 : Int).toNat n.toNat).size = n.toNat := by rw [ex _ _ (by omega) hn']; omega
    have e1 : ((⟨l.toArray⟩ : ByteArray).extract n.toNat (l.length : Int).toNat).size = l.length - n.toNat := by rw [ex _ _ (by omega) (by omega)]; omega
    refine ⟨fun _ => ⟨by omega, n0, hn, fin _ _ (by rw [e0]; omega) d3⟩, fun _ => ⟨fun _ w4 h4 => ?_, fun _ => ⟨fun _ => ⟨fun hlt w4 h4 => ?_, fun _ => fin _ _ (by rw [hbs]; omega) d3⟩, fun _ => fin _ _ (by rw [hbs]; omega) d3⟩⟩⟩
    · have d4 := d3.ext h4
      refine ⟨by omega, n0, hn, n0, hn, Int.le_refl _, ?_, ?_⟩
      · intro v5 w5 o5 h5
        unfold spec_l01Damage_k0
        refine (d4.ext h5).next 8 (by simp) fun r w6 r0 r1 d6 p6 => ?_
        have hr : RS w6 v5 dmg := (o5.dr p6 (Nat.lt_of_lt_of_le hb d4.size)).rd
        have hrk : r.toNat < dmg.length := by simp only [dmg, List.length_cons, List.length_nil]; omega
        have h1 := dmg_one _ (List.getElem_mem hrk)
        have h1s : (⟨dmg[r.toNat].toArray⟩ : ByteArray).size = 1 := by rw [ba_size]; exact h1
        refine hr.get r.toNat (by omega) hrk ⟨by rw [e0, h1s]; unfold I64; omega, by rw [ByteArray.size_append, e0, h1s, e1]; unfold I64; omega, fin _ _ (by rw [ByteArray.size_append, ByteArray.size_append, e0, h1s, e1]; omega) d6⟩
      · refine d4.next 8 (by simp) fun r w6 r0 r1 d6 p6 => ?_
        unfold spec_l01Damage_k1
        intro v5 w7 o7 h7
        have d7 := d6.ext h7
        have hr : RS w7 v5 dmg := o7.rd
        have hrk : r.toNat < dmg.length := by simp only [dmg, List.length_cons, List.length_nil]; omega
        have h1 := dmg_one _ (List.getElem_mem hrk)
        have h1s : (⟨dmg[r.toNat].toArray⟩ : ByteArray).size = 1 := by rw [ba_size]; exact h1
        refine hr.get r.toNat (by omega) hrk ⟨by rw [e0, h1s]; unfold I64; omega, by rw [ByteArray.size_append, e0, h1s, e1]; unfold I64; omega, fin _ _ (by rw [ByteArray.size_append, ByteArray.size_append, e0, h1s, e1]; omega) d7⟩
    · have d4 := d3.ext h4
      have e2 : ((⟨l.toArray⟩ : ByteArray).extract (n + 1).toNat (l.length : Int).toNat).size = l.length - (n.toNat + 1) := by rw [ex _ _ (by omega) (by omega)]; omega
      refine ⟨by omega, n0, hn, by unfold I64; omega, by omega, by omega, Int.le_refl _, by rw [e0, e2]; unfold I64; omega, fin _ _ (by rw [ByteArray.size_append, e0, e2]; omega) d4⟩)
theorem textL_len {zs : List Int} (h : Nums zs) : (textL zs).length ≤ 2000 := by
  unfold textL
  split
  · simp
  · have := join13 h zs.length
    rw [List.take_length] at this
    exact this
theorem listT_len (zs : List Int) : (listT zs).length ≤ 2000 := by
  unfold listT
  split
  · rename_i h; exact textL_len h
  · simp
def spec_DrawListText_vc (v : Value) (w : World) (Post : Value → World → Prop) : Prop :=
  Calls Tryd.prog 39 #[v] w (fun e1 w2 => ∃ p3 : Addr, e1 = .returned (Value.pointer (some p3)) ∧ Keeps w.heap.size [] w w2 ∧ Calls Tryd.prog 38 #[(Value.pointer (some p3))] w2 (fun e4 w5 => ∃ u6 : Value, e4 = .returned u6 ∧ Keeps w.heap.size [] w2 w5 ∧ Post u6 w5))
theorem spec_DrawListText_eq (v : Value) (w : World) (Post : Value → World → Prop) : denF Tryd.prog [9400000, 9700000, 9800000] noAnn 11 [v] w Post = spec_DrawListText_vc v w Post := by kernel_rfl
set_option maxRecDepth 100000 in
theorem spec_DrawListText_calls (v : Value) (w : World) (Post : Value → World → Prop) (hvc : spec_DrawListText_vc v w Post) : Ret Tryd.prog 11 #[v] w Post :=
  Ret.of (denF_sound mixed (Eq.mpr (spec_DrawListText_eq v w Post) hvc))

theorem spec_DrawListText_ret (cv : Value) (zs : List Int) (w : World) (h : RB w cv zs) : Ret Tryd.prog 11 #[cv] w fun r w' => ∃ xs, Own w.heap.size w' 2 r (ints xs) ∧ xs.length ≤ 101 ∧ Ext w w' :=
  spec_DrawListText_calls cv w _ (by
    unfold spec_DrawListText_vc
    refine from_call h (Nat.le_refl _) fun b w1 h1 d1 => ?_
    refine (spec_l01DrawList_ret w b cv zs w1 d1.1).call ?_
    rintro u w2 ⟨xs, o2, hl, s2, p2⟩
    exact ⟨u, rfl, d1.1.keeps p2 (by simp), xs, o2.mono h1.size, hl, s2.1⟩)
/-- what a draw of a text gives -/
def DrT (f : FuncId) (args : Array Value) (w : World) : Prop := Ret Tryd.prog f args w fun r w' => ∃ x : List UInt8, r = txt x ∧ x.length ≤ 10000 ∧ Ext w w'
def spec_DrawReadList_vc (v : Value) (w : World) (Post : Value → World → Prop) : Prop :=
  Calls Tryd.prog 39 #[v] w (fun e1 w2 => ∃ p3 : Addr, e1 = .returned (Value.pointer (some p3)) ∧ Keeps w.heap.size [] w w2 ∧ Calls Tryd.prog 38 #[(Value.pointer (some p3))] w2 (fun e4 w5 => ∃ u6 : Value, e4 = .returned u6 ∧ Keeps w.heap.size [] w2 w5 ∧ Calls Tryd.prog 13 #[u6] w5 (fun e7 w8 => ∃ s9 : ByteArray, ∃ n10 : Int, e7 = .returned (Value.tuple #[(Value.string s9), (Value.int .i64 n10)]) ∧ Keeps w.heap.size [] w5 w8 ∧ Calls Tryd.prog 44 #[(Value.pointer (some p3)), (Value.int .i64 3)] w8 (fun e11 w12 => ∃ n13 : Int, e11 = .returned (Value.int .i64 n13) ∧ Keeps w.heap.size [] w8 w12 ∧ (((n13 = (0 : Int)) → Calls Tryd.prog 45 #[(Value.pointer (some p3)), (Value.string s9)] w12 (fun e14 w15 => ∃ s16 : ByteArray, e14 = .returned (Value.string s16) ∧ Keeps w.heap.size [] w12 w15 ∧ Post (Value.string s16) w15)) ∧ (¬ (n13 = (0 : Int)) → Post (Value.string s9) w12))))))
theorem spec_DrawReadList_eq (v : Value) (w : World) (Post : Value → World → Prop) : denF Tryd.prog [9400000, 9700000, 9800000] noAnn 14 [v] w Post = spec_DrawReadList_vc v w Post := by kernel_rfl
set_option maxRecDepth 100000 in
theorem spec_DrawReadList_calls (v : Value) (w : World) (Post : Value → World → Prop) (hvc : spec_DrawReadList_vc v w Post) : Ret Tryd.prog 14 #[v] w Post :=
  Ret.of (denF_sound mixed (Eq.mpr (spec_DrawReadList_eq v w Post) hvc))

theorem spec_DrawReadList_ret (cv : Value) (zs : List Int) (w : World) (h : RB w cv zs) : DrT 14 #[cv] w :=
  spec_DrawReadList_calls cv w _ (by
    unfold spec_DrawReadList_vc
    refine from_call h (Nat.le_refl _) fun b w1 h1 d1 => ?_
    refine (spec_l01DrawList_ret w b cv zs w1 d1.1).call ?_
    rintro u w2 ⟨xs, o2, hl, s2, p2⟩
    refine ⟨u, rfl, d1.1.keeps p2 (by simp), ?_⟩
    have d2 := d1.step s2 p2
    have hlt := listT_len xs
    refine (spec_ListText_val u xs w2 o2.rd).call fun w3 h3 => ⟨_, _, rfl, h3.keeps, ?_⟩
    have d3 := d2.ext h3
    refine d3.next 3 (by simp) fun n w4 n0 n1 d4 p4 => ⟨fun _ => ?_, fun _ => ⟨_, rfl, by omega, d4.base⟩⟩
    refine (spec_l01Damage_ret w b cv zs w4 d4.1 (listT xs) (by omega)).call ?_
    rintro _ w5 ⟨x, rfl, hx, s5, p5⟩
    exact ⟨_, rfl, d4.1.keeps p5 (by simp), x, rfl, by omega, s5.1⟩)
def spec_DrawKeyText_vc (v : Value) (w : World) (Post : Value → World → Prop) : Prop :=
  ∀ w1 : World, Ext w w1 → Calls Tryd.prog 39 #[v] w1 (fun e2 w3 => ∃ p4 : Addr, e2 = .returned (Value.pointer (some p4)) ∧ Keeps w.heap.size [39] w1 w3 ∧ Calls Tryd.prog 68 #[(Value.pointer (some p4))] w3 (fun e5 w6 => ∃ n7 : Int, ∃ n8 : Int, ∃ n9 : Int, ∃ n10 : Int, ∃ n11 : Int, e5 = .returned (Value.agg #[(Value.int .i64 n7), (Value.int .i64 n8), (Value.int .i64 n9), (Value.int .i64 n10), (Value.int .i64 n11)]) ∧ Keeps w.heap.size [39] w3 w6 ∧ ∀ w12 : World, Ext w6 w12 → ∀ w13 : World, BxS w.heap.size 39 w12 w13 → ∀ w14 : World, Ext w13 w14 → Calls Tryd.prog 69 #[(Value.pointer (some p4)), (Value.agg #[(Value.int .i64 n7), (Value.int .i64 n8), (Value.int .i64 n9), (Value.int .i64 n10), (Value.int .i64 n11)])] w14 (fun e15 w16 => ∃ u17 : Value, e15 = .returned u17 ∧ Keeps w.heap.size [39, 39] w14 w16 ∧ Keeps w.heap.size [39] w14 w16 ∧ ∀ w18 : World, BxS w.heap.size 39 w16 w18 → Post (Value.tuple #[(Value.agg #[(Value.int .i64 n7), (Value.int .i64 n8), (Value.int .i64 n9), (Value.int .i64 n10), (Value.int .i64 n11)]), u17]) w18)))
theorem spec_DrawKeyText_eq (v : Value) (w : World) (Post : Value → World → Prop) : denF Tryd.prog [9400000, 9700000, 9800000] noAnn 32 [v] w Post = spec_DrawKeyText_vc v w Post := by kernel_rfl
set_option maxRecDepth 100000 in
theorem spec_DrawKeyText_calls (v : Value) (w : World) (Post : Value → World → Prop) (hvc : spec_DrawKeyText_vc v w Post) : Ret Tryd.prog 32 #[v] w Post :=
  Ret.of (denF_sound mixed (Eq.mpr (spec_DrawKeyText_eq v w Post) hvc))

theorem spec_DrawKeyText_ret (cv : Value) (zs : List Int) (w : World) (h : RB w cv zs) : DrMS 32 #[cv] w :=
  spec_DrawKeyText_calls cv w _ (by
    unfold spec_DrawKeyText_vc
    intro w1 h1
    refine from_q h h1 fun b w2 d2 => ?_
    refine d2.maker (by decide) fun M w3 hM d3 p3 => fun w4 h4 w5 b5 w6 h6 => ?_
    have d6 := ((d3.ext h4).bxs (Nat.le_refl _) b5 (by decide)).ext h6
    refine d6.list (spec_l02DrawKey_ret w b cv zs w6 d6.1 M hM) (by simp) fun u xs w7 o7 d7 p7 => ⟨d6.kp p7 (by simp), fun w8 b8 => ?_⟩
    exact ⟨M, u, xs, rfl, (o7.bxs b8 (by decide)).mono d2.base.size, d7.base.bxs b8⟩)
/-- of a maker and a text -/
def DrMT (f : FuncId) (args : Array Value) (w : World) : Prop := Ret Tryd.prog f args w fun r w' => ∃ (M : Mk) (x : List UInt8), r = .tuple #[M.v, txt x] ∧ x.length ≤ 10000 ∧ Ext w w'
theorem keyT_len (M : Mk) (zs : List Int) : (keyT M zs).length ≤ 6 := by
  unfold keyT
  split
  · rename_i h
    rw [List.length_map]
    exact (key_digs h).2
  · simp
abbrev spec_DrawReadKey_k0 (w : World) (Post : Value → World → Prop) (x33 : ByteArray) (x68 : Int) (x69 : Int) (x70 : Int) (x71 : Int) (x72 : Int) (w73 : World) : Prop :=
  ∀ w74 : World, BxS w.heap.size 39 w73 w74 → Post (Value.tuple #[(Value.agg #[(Value.int .i64 x68), (Value.int .i64 x69), (Value.int .i64 x70), (Value.int .i64 x71), (Value.int .i64 x72)]), (Value.string x33)]) w74
def spec_DrawReadKey_vc (v : Value) (w : World) (Post : Value → World → Prop) : Prop :=
  ∀ w1 : World, Ext w w1 → Calls Tryd.prog 39 #[v] w1 (fun e2 w3 => ∃ p4 : Addr, e2 = .returned (Value.pointer (some p4)) ∧ Keeps w.heap.size [39] w1 w3 ∧ Calls Tryd.prog 68 #[(Value.pointer (some p4))] w3 (fun e5 w6 => ∃ n7 : Int, ∃ n8 : Int, ∃ n9 : Int, ∃ n10 : Int, ∃ n11 : Int, e5 = .returned (Value.agg #[(Value.int .i64 n7), (Value.int .i64 n8), (Value.int .i64 n9), (Value.int .i64 n10), (Value.int .i64 n11)]) ∧ Keeps w.heap.size [39] w3 w6 ∧ ∀ w12 : World, Ext w6 w12 → ∀ w13 : World, BxS w.heap.size 39 w12 w13 → ∀ w14 : World, Ext w13 w14 → Calls Tryd.prog 69 #[(Value.pointer (some p4)), (Value.agg #[(Value.int .i64 n7), (Value.int .i64 n8), (Value.int .i64 n9), (Value.int .i64 n10), (Value.int .i64 n11)])] w14 (fun e15 w16 => ∃ u17 : Value, e15 = .returned u17 ∧ Keeps w.heap.size [39, 39] w14 w16 ∧ Keeps w.heap.size [39] w14 w16 ∧ Calls Tryd.prog 26 #[(Value.agg #[(Value.int .i64 n7), (Value.int .i64 n8), (Value.int .i64 n9), (Value.int .i64 n10), (Value.int .i64 n11)]), u17] w16 (fun e18 w19 => ∃ s20 : ByteArray, ∃ n21 : Int, e18 = .returned (Value.tuple #[(Value.string s20), (Value.int .i64 n21)]) ∧ Keeps w.heap.size [39, 39] w16 w19 ∧ Keeps w.heap.size [39] w14 w19 ∧ Calls Tryd.prog 44 #[(Value.pointer (some p4)), (Value.int .i64 4)] w19 (fun e22 w23 => ∃ n24 : Int, e22 = .returned (Value.int .i64 n24) ∧ Keeps w.heap.size [39, 39] w19 w23 ∧ (((n24 = (0 : Int)) → ∀ w25 : World, Ext w23 w25 → Calls Tryd.prog 45 #[(Value.pointer (some p4)), (Value.string s20)] w25 (fun e26 w27 => ∃ s28 : ByteArray, e26 = .returned (Value.string s28) ∧ Keeps w.heap.size [39, 39] w25 w27 ∧ Keeps w.heap.size [39] w25 w27 ∧ ∀ w29 : World, BxS w.heap.size 39 w27 w29 → Post (Value.tuple #[(Value.agg #[(Value.int .i64 n7), (Value.int .i64 n8), (Value.int .i64 n9), (Value.int .i64 n10), (Value.int .i64 n11)]), (Value.string s28)]) w29)) ∧ (¬ (n24 = (0 : Int)) → (spec_DrawReadKey_k0 w Post s20 n7 n8 n9 n10 n11 w23))))))))
theorem spec_DrawReadKey_eq (v : Value) (w : World) (Post : Value → World → Prop) : denF Tryd.prog [9400000, 9700000, 9800000] noAnn 33 [v] w Post = spec_DrawReadKey_vc v w Post := by kernel_rfl
set_option maxRecDepth 100000 in
theorem spec_DrawReadKey_calls (v : Value) (w : World) (Post : Value → World → Prop) (hvc : spec_DrawReadKey_vc v w Post) : Ret Tryd.prog 33 #[v] w Post :=
  Ret.of (denF_sound mixed (Eq.mpr (spec_DrawReadKey_eq v w Post) hvc))

theorem spec_DrawReadKey_ret (cv : Value) (zs : List Int) (w : World) (h : RB w cv zs) : DrMT 33 #[cv] w :=
  spec_DrawReadKey_calls cv w _ (by
    unfold spec_DrawReadKey_vc
    intro w1 h1
    refine from_q h h1 fun b w2 d2 => ?_
    refine d2.maker (by decide) fun M w3 hM d3 p3 => fun w4 h4 w5 b5 w6 h6 => ?_
    have d6 := ((d3.ext h4).bxs (Nat.le_refl _) b5 (by decide)).ext h6
    refine d6.list (spec_l02DrawKey_ret w b cv zs w6 d6.1 M hM) (by simp) fun u xs w7 o7 d7 p7 => ⟨d6.kp p7 (by simp), ?_⟩
    have hk := keyT_len M xs
    refine (spec_KeyText_val M u xs w7 o7.rd).call fun w8 h8 => ⟨_, _, rfl, h8.keeps, d6.kp (p7.trans (h8.pres _)) (by simp), ?_⟩
    have d8 := d7.ext h8
    refine d8.next 4 (by simp) fun n w9 n0 n1 d9 p9 _ => ⟨fun _ w10 h10 => ?_, fun _ => ?_⟩
    · have d10 := d9.ext h10
      refine (spec_l01Damage_ret w b cv zs w10 d10.1 (keyT M xs) (by omega)).call ?_
      rintro _ w11 ⟨x, rfl, hx, s11, p11⟩
      refine ⟨_, rfl, d10.1.keeps p11 (by simp), d10.kp p11 (by simp), fun w12 b12 => ⟨M, x, rfl, by omega, s11.1.bxs b12⟩⟩
    · unfold spec_DrawReadKey_k0
      intro w10 b10
      exact ⟨M, _, rfl, by omega, d9.base.bxs b10⟩)
end Go.Proofs
