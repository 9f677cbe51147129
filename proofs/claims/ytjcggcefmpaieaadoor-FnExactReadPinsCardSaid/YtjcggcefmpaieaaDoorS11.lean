/- The pins read out of a text: contracts of both. No condition. -/
import Derived.Test.YtjcggcefmpaieaaDoorS09
import Derived.Test.YtjcggcefmpaieaaDoorL05d
set_option linter.unusedVariables false
namespace Go.Tx
open Go Go.Lib Go.Sx
/-- the stacks that these words spell -/
def rdss : List (List UInt8) → Option (List (List Int))
  | [] => some []
  | x :: xs => match rds (cutAt 43 x), rdss xs with
    | some z, some zs => some (z :: zs)
    | _, _ => none
theorem rdss_bad : ∀ {ws : List (List UInt8)} {x : List UInt8}, x ∈ ws → rds (cutAt 43 x) = none → rdss ws = none
  | y :: ys, x, hx, h => by
    rw [rdss]
    rcases List.mem_cons.1 hx with rfl | hx
    · rw [h]
    · rw [rdss_bad hx h]
      split
      · rename_i h2; cases h2
      · rfl
theorem rdss_snoc : ∀ {ws : List (List UInt8)} {zss : List (List Int)} {x : List UInt8} {z : List Int}, rdss ws = some zss → rds (cutAt 43 x) = some z → rdss (ws ++ [x]) = some (zss ++ [z])
  | [], zss, x, z, h, hx => by
    injection h with h
    subst h
    simp only [List.nil_append, rdss, hx]
  | y :: ys, zss, x, z, h, hx => by
    rw [rdss] at h
    split at h
    · rename_i a b h1 h2
      injection h with h
      subst h
      rw [List.cons_append, rdss, h1, rdss_snoc h2 hx]
      rfl
    · cases h
theorem rdss_len : ∀ {ws : List (List UInt8)} {zss : List (List Int)}, rdss ws = some zss → zss.length = ws.length
  | [], zss, h => by
    injection h with h
    subst h
    rfl
  | y :: ys, zss, h => by
    rw [rdss] at h
    split at h
    · rename_i a b h1 h2
      injection h with h
      subst h
      rw [List.length_cons, List.length_cons, rdss_len h2]
    · cases h
/-- each stack comes from a word -/
theorem rdss_mem : ∀ {ws : List (List UInt8)} {zss : List (List Int)}, rdss ws = some zss → (∀ z ∈ zss, ∃ x ∈ ws, rds (cutAt 43 x) = some z) ∧ ∀ x ∈ ws, ∃ z ∈ zss, rds (cutAt 43 x) = some z
  | [], zss, h => by
    injection h with h
    subst h
    exact ⟨fun z hz => (by cases hz), fun z hz => (by cases hz)⟩
  | y :: ys, zss, h => by
    rw [rdss] at h
    split at h
    · rename_i a b h1 h2
      injection h with h
      subst h
      obtain ⟨i1, i2⟩ := rdss_mem h2
      refine ⟨fun z hz => ?_, fun x hx => ?_⟩
      · rcases List.mem_cons.1 hz with rfl | hz
        · exact ⟨y, by simp, h1⟩
        · obtain ⟨x, hx, e⟩ := i1 z hz
          exact ⟨x, List.mem_cons_of_mem _ hx, e⟩
      · rcases List.mem_cons.1 hx with rfl | hx
        · exact ⟨a, by simp, h1⟩
        · obtain ⟨z, hz, e⟩ := i2 x hx
          exact ⟨z, List.mem_cons_of_mem _ hz, e⟩
    · cases h
theorem rds_len {ws : List (List UInt8)} {zs : List Int} (h : rds ws = some zs) : zs.length = ws.length := by
  have := congrArg List.length (rds_some h).1
  rw [List.length_map] at this
  exact this.symm
end Go.Tx
namespace Go.Proofs
open Go.Sx Go.RowKit Go.Tx

/-- the stacks of a text are not too long -/
theorem rdss_small {l : List UInt8} {zss : List (List Int)} (hl : l.length ≤ 1048576) (h : rdss (cutAt 32 l) = some zss) : zss.length ≤ 1048600 ∧ ∀ z ∈ zss, z.length ≤ 1048600 := by
  have h1 := rdss_len h
  have h2 := cutAt_length 32 l
  refine ⟨by omega, fun z hz => ?_⟩
  obtain ⟨x, hx, e⟩ := (rdss_mem h).1 z hz
  have h3 := rds_len e
  have h4 := cutAt_length 43 x
  have h5 := cut_small hx
  omega
/-- a row of the call's own, put at the end of a slice of rows; what else is there stays -/
theorem OwnR.push' {B C : Nat} {w3 w4 w5 : World} {v u r : Value} {zss : List (List Int)} {z : List Int} (h : OwnR B w3 v zss) (hu : Own w3.heap.size w4 2 u (ints z)) (e4 : Ext w3 w4) (hr : Own C w5 24 r [u]) (e5 : Ext w4 w5) (hB : B ≤ w3.heap.size) (hl : zss.length < 4398046511104) {K : Value → World → Prop}
    (hK : ∀ v' w6, OwnR B w6 v' (zss ++ [z]) → (∀ w0 : World, w0.heap.size ≤ B → Ext w0 w5 → Ext w0 w6) → (∀ (B' : Nat) (e : TypeId) (x : Value) (xs : List Value), e ≠ 24 → Own B' w5 e x xs → Own B' w6 e x xs) → K v' w6) : AppV w5 24 v r K := by
  obtain ⟨us, h1, h2, h3⟩ := h
  have e := e4.trans e5
  have h1' := h1.ext e
  have hu' := (hu.ext e5)
  refine h1'.app1 hr hu.rd.one (by rw [h2.1]; exact hl) (Nat.le_trans hB e.size) fun v' w6 o6 g6 hb => hK v' w6 ⟨us ++ [u], o6, ?_, ?_⟩ (fun w0 h0 x => x.grown h1' h0 g6) fun B' e x xs hne o => o.grown g6 (Apart.types o h1' hne)
  · refine (h2.map fun x zx hx => ((hx.ext e).grown g6 (Apart.types (hx.ext e) h1' (by decide)))).snoc ?_
    exact (hu'.mono hB).grown g6 (Apart.types hu' h1' (by decide))
  · rw [List.pairwise_append]
    refine ⟨h3, by simp, fun x hx y hy => ?_⟩
    simp only [List.mem_singleton] at hy
    subst hy
    obtain ⟨i, hi, rfl⟩ := List.getElem_of_mem hx
    have hik : i < zss.length := by rw [← h2.1]; exact hi
    exact Apart.new (h2.get hik) hu
def spec_l05Read_A (t : ByteArray) (w : World) : Nat → Ann := fun κ => match κ with
  | 0 => { σ := Nat × Value, sli := [6, 5], slc := fun s => [SV.v (Value.int .i64 (s.1 : Int)), SV.v s.2], bxi := [], bxc := fun s => [], inv := fun s W => True, μ := fun s W => 0, free := true }
  | 1 => { σ := Nat × Value, sli := [9, 8], slc := fun s => [SV.v (Value.int .i64 (s.1 : Int)), SV.v s.2], bxi := [], bxc := fun s => [], inv := fun s W => True, μ := fun s W => 0, free := true }
  | _ => { σ := Unit, sli := [], slc := fun _ => [], bxi := [], bxc := fun _ => [], inv := fun _ _ => False, μ := fun _ _ => 0 }
abbrev spec_l05Read_k0 (s26 : Nat × Value) (w27 : World) (J28 : (Nat × Value) → World → Prop) (m29 : (Nat × Value) → World → Nat) (x67 : Value) (x68 : Int) (w90 : World) : Prop :=
  I64 (x68 + 1) ∧ ∃ s91 : (Nat × Value), (Value.int .i64 (x68 + 1)) = (Value.int .i64 (s91.1 : Int)) ∧ x67 = s91.2 ∧ (J28 s91 w90) ∧ (m29 s91 w90) < (m29 s26 w27)
abbrev spec_l05Read_k1 (s26 : Nat × Value) (w27 : World) (J28 : (Nat × Value) → World → Prop) (m29 : (Nat × Value) → World → Nat) (x43 : Value) (x44 : Int) (x45 : Int) (w62 : World) : Prop :=
  ∀ (v63 : Value) (w64 : World), Sx.Own w62.heap.size w64 2 v63 [(Value.int .i64 x45)] → Ext w62 w64 → AppV w64 2 x43 v63 (fun v65 w66 => (spec_l05Read_k0 s26 w27 J28 m29 v65 x44 w66))
abbrev spec_l05Read_k2 (w : World) (Post : Value → World → Prop) (u22 : Value) (s26 : Nat × Value) (w27 : World) (J28 : (Nat × Value) → World → Prop) (m29 : (Nat × Value) → World → Nat) (x31 : Value) (x32 : Int) (w36 : World) : Prop :=
  IxV 1 u22 x32 (fun ad37 => ∃ s38 : ByteArray, LdV w36 (Value.pointer (some ad37)) (Value.string s38) ∧ Calls Tryd.prog 80 #[(Value.string s38)] w36 (fun e39 w40 => ∃ n41 : Int, ∃ b42 : Bool, e39 = .returned (Value.tuple #[(Value.int .i64 n41), (Value.bool b42)]) ∧ Keeps w.heap.size [] w36 w40 ∧ (((!b42) = true → Post (Value.tuple #[(Value.slice none 0 0), (Value.bool false)]) w40) ∧ ((!b42) = false → (spec_l05Read_k1 s26 w27 J28 m29 x31 x32 n41 w40)))))
abbrev spec_l05Read_k3 (s7 : Nat × Value) (w8 : World) (J9 : (Nat × Value) → World → Prop) (m10 : (Nat × Value) → World → Nat) (x114 : Value) (x115 : Int) (w135 : World) : Prop :=
  I64 (x115 + 1) ∧ ∃ s136 : (Nat × Value), (Value.int .i64 (x115 + 1)) = (Value.int .i64 (s136.1 : Int)) ∧ x114 = s136.2 ∧ (J9 s136 w135) ∧ (m10 s136 w135) < (m10 s7 w8)
abbrev spec_l05Read_k4 (s7 : Nat × Value) (w8 : World) (J9 : (Nat × Value) → World → Prop) (m10 : (Nat × Value) → World → Nat) (x92 : Value) (x93 : Int) (x95 : Value) (w109 : World) : Prop :=
  oneC x95 (∀ (v110 : Value) (w111 : World), Sx.Own w109.heap.size w111 24 v110 [x95] → Ext w109 w111 → AppV w111 24 x92 v110 (fun v112 w113 => (spec_l05Read_k3 s7 w8 J9 m10 v112 x93 w113)))
abbrev spec_l05Read_k5 (w : World) (Post : Value → World → Prop) (u3 : Value) (s7 : Nat × Value) (w8 : World) (J9 : (Nat × Value) → World → Prop) (m10 : (Nat × Value) → World → Nat) (x12 : Value) (x13 : Int) (w17 : World) : Prop :=
  IxV 1 u3 x13 (fun ad18 => ∃ s19 : ByteArray, LdV w17 (Value.pointer (some ad18)) (Value.string s19) ∧ Calls Tryd.prog 79 #[(Value.string s19), (Value.int .u8 43)] w17 (fun e20 w21 => ∃ u22 : Value, e20 = .returned u22 ∧ Keeps w.heap.size [] w17 w21 ∧ ∀ (v23 : Value) (w24 : World), Sx.Own w21.heap.size w24 2 v23 [] → Ext w21 w24 → (∃ (J28 : (Nat × Value) → World → Prop) (m29 : (Nat × Value) → World → Nat), ((∃ s25 : (Nat × Value), (Value.int .i64 0) = (Value.int .i64 (s25.1 : Int)) ∧ v23 = s25.2 ∧ (J28 s25 w24)) ∧ ∀ (s26 : (Nat × Value)) (w27 : World), (J28 s26 w27) → LenV u22 (fun n30 => ((((s26.1 : Int) < n30) → (spec_l05Read_k2 w Post u22 s26 w27 J28 m29 s26.2 (s26.1 : Int) w27)) ∧ (¬ ((s26.1 : Int) < n30) → (spec_l05Read_k4 s7 w8 J9 m10 x12 x13 s26.2 w27))))))))
def spec_l05Read_vc (t : ByteArray) (w : World) (Post : Value → World → Prop) : Prop :=
  Calls Tryd.prog 79 #[(Value.string t), (Value.int .u8 32)] w (fun e1 w2 => ∃ u3 : Value, e1 = .returned u3 ∧ Keeps w.heap.size [] w w2 ∧ ∀ (v4 : Value) (w5 : World), Sx.Own w2.heap.size w5 24 v4 [] → Ext w2 w5 → (∃ (J9 : (Nat × Value) → World → Prop) (m10 : (Nat × Value) → World → Nat), ((∃ s6 : (Nat × Value), (Value.int .i64 0) = (Value.int .i64 (s6.1 : Int)) ∧ v4 = s6.2 ∧ (J9 s6 w5)) ∧ ∀ (s7 : (Nat × Value)) (w8 : World), (J9 s7 w8) → LenV u3 (fun n11 => ((((s7.1 : Int) < n11) → (spec_l05Read_k5 w Post u3 s7 w8 J9 m10 s7.2 (s7.1 : Int) w8)) ∧ (¬ ((s7.1 : Int) < n11) → Post (Value.tuple #[s7.2, (Value.bool true)]) w8))))))
theorem spec_l05Read_eq (t : ByteArray) (w : World) (Post : Value → World → Prop) : denF Tryd.prog [] (spec_l05Read_A t w) 49 [(Value.string t)] w Post = spec_l05Read_vc t w Post := by kernel_rfl
set_option maxRecDepth 100000 in
theorem spec_l05Read_calls (t : ByteArray) (w : World) (Post : Value → World → Prop) (hvc : spec_l05Read_vc t w Post) : Ret Tryd.prog 49 #[(Value.string t)] w Post :=
  Ret.of (denF_sound mixed (Eq.mpr (spec_l05Read_eq t w Post) hvc))

theorem spec_l05Read_ret (l : List UInt8) (w : World) (hl : l.length ≤ 1048576) : Ret Tryd.prog 49 #[txt l] w fun r w' => Ext w w' ∧ ((∃ u zss, r = .tuple #[u, .bool true] ∧ OwnR w.heap.size w' u zss ∧ rdss (cutAt 32 l) = some zss) ∨ (r = .tuple #[.slice none 0 0, .bool false] ∧ ∃ x ∈ cutAt 32 l, ∃ y ∈ cutAt 43 x, rd13 y = none)) :=
  spec_l05Read_calls ⟨l.toArray⟩ w _ (by
    unfold spec_l05Read_vc
    refine (spec_l01Split_ret l 32 w hl).call ?_
    rintro u w2 ⟨ou, h2⟩
    have hcl := cutAt_length 32 l
    refine ⟨u, rfl, h2.keeps, fun v1 w3 o3 h3 => ?_⟩
    refine ⟨fun s W => s.1 ≤ (cutAt 32 l).length ∧ (∃ zss, rdss ((cutAt 32 l).take s.1) = some zss ∧ zss.length = s.1 ∧ OwnR w2.heap.size W s.2 zss) ∧ Ext w2 W, fun s _ => (cutAt 32 l).length - s.1, ⟨(0, v1), rfl, rfl, Nat.zero_le _, ⟨[], rfl, rfl, [], o3, Rows.nil_, .nil⟩, h3⟩, ?_⟩
    rintro ⟨k, v⟩ w4 ⟨hk, ⟨zss, hr, hzl, o4⟩, h4⟩
    simp only at hk hr o4 hzl
    have k4 := h2.trans h4
    refine RS.len (ou.ext h4).rd ⟨fun hlt => ?_, fun hge => ?_⟩
    · simp only at hlt
      have hk' : k < (cutAt 32 l).length := by omega
      have hm := List.getElem_mem hk'
      have hwl := cut_small hm
      refine RS.get (ou.ext h4).rd k rfl hk' ?_
      generalize hx : (cutAt 32 l)[k] = x at hm hwl
      refine (spec_l01Split_ret x 43 w4 (by omega)).call ?_
      rintro q w5 ⟨oq, h5⟩
      have hcx := cutAt_length 43 x
      refine ⟨q, rfl, h5.keeps, fun v5 w6 o6 h6 => ?_⟩
      have k5 := k4.trans h5
      refine ⟨fun s W => s.1 ≤ (cutAt 43 x).length ∧ (∃ zs, rds ((cutAt 43 x).take s.1) = some zs ∧ zs.length = s.1 ∧ Own w5.heap.size W 2 s.2 (ints zs)) ∧ Ext w5 W, fun s _ => (cutAt 43 x).length - s.1, ⟨(0, v5), rfl, rfl, Nat.zero_le _, ⟨[], rfl, rfl, o6⟩, h6⟩, ?_⟩
      rintro ⟨j, p⟩ w7 ⟨hj, ⟨zs, hrj, hzj, o7⟩, h7⟩
      simp only at hj hrj o7 hzj
      have k7 := k5.trans h7
      refine RS.len (oq.ext h7).rd ⟨fun hlt => ?_, fun hge => ?_⟩
      · simp only at hlt
        have hj' : j < (cutAt 43 x).length := by omega
        have hmj := List.getElem_mem hj'
        refine RS.get (oq.ext h7).rd j rfl hj' ?_
        refine (spec_l01Value_ret (cutAt 43 x)[j] w7).call ?_
        rintro _ w8 ⟨⟨n, ok, rfl, hy, hn⟩, h8⟩
        refine ⟨n, ok, rfl, h8.keeps, fun hb => ⟨k7.trans h8, .inr ⟨rfl, x, hm, _, hmj, hn (by simpa using hb)⟩⟩, fun hb v8 w9 o9 h9 => ?_⟩
        have h79 := (h7.trans h8).trans h9
        refine ((o7.ext h8).ext h9).app1 o9 rfl (by simp; omega) h79.size fun v' w10 o10 g10 _ => ⟨by unfold I64; simp only; omega, (j + 1, v'), rfl, rfl, ⟨hj', ⟨zs ++ [n], ?_, by simp [hzj], by rw [ints_append]; exact o10⟩, h79.grown ((o7.ext h8).ext h9) (Nat.le_refl _) g10⟩, by simp only; omega⟩
        simp only
        rw [List.take_add_one, List.getElem?_eq_getElem hj']
        exact rds_snoc hrj (rd13_rd (hy (by simpa using hb)))
      · simp only at hge
        obtain rfl : j = (cutAt 43 x).length := by omega
        rw [List.take_length] at hrj
        refine o7.rd.oneC fun r w8 o8 h8 => ?_
        refine (o4.ext h5).push o7 h7 o8 h8 (Nat.le_trans h4.size h5.size) (by omega) fun v' w9 o9 hx9 => ⟨by unfold I64; simp only; omega, (k + 1, v'), rfl, rfl, ⟨hk', ⟨zss ++ [zs], ?_, by simp [hzl], o9⟩, hx9 w2 (Nat.le_refl _) (((h4.trans h5).trans h7).trans h8)⟩, by simp only; omega⟩
        simp only
        rw [List.take_add_one, List.getElem?_eq_getElem hk', hx]
        exact rdss_snoc hr hrj
    · simp only at hge
      obtain rfl : k = (cutAt 32 l).length := by omega
      rw [List.take_length] at hr
      exact ⟨k4, .inl ⟨v, zss, rfl, o4.mono h2.size, hr⟩⟩)
/-! ### the lock with a text -/
def pinsO (M : Mk) (l : List UInt8) : Option (List (List Int)) := match rdss (cutAt 32 l) with
  | some zss => if lopOk M zss then some (lop zss) else none
  | none => none
def rpR (M : Mk) (l : List UInt8) : List (List Int) := if MkOk M.c M.d M.s M.m M.l then (pinsO M l).getD [] else []
def rpC (M : Mk) (l : List UInt8) : Int := if MkOk M.c M.d M.s M.m M.l then (if (pinsO M l).isSome then 0 else 6) else 1
theorem rp_no {M : Mk} {l : List UInt8} (h : ¬ MkOk M.c M.d M.s M.m M.l) : rpR M l = [] ∧ rpC M l = 1 := by unfold rpR rpC; rw [if_neg h, if_neg h]; exact ⟨rfl, rfl⟩
theorem rp_bad {M : Mk} {l : List UInt8} (h : MkOk M.c M.d M.s M.m M.l) (h2 : pinsO M l = none) : rpR M l = [] ∧ rpC M l = 6 := by unfold rpR rpC; rw [if_pos h, if_pos h, h2]; exact ⟨rfl, rfl⟩
theorem rp_yes {M : Mk} {l : List UInt8} {zss : List (List Int)} (h : MkOk M.c M.d M.s M.m M.l) (h2 : pinsO M l = some zss) : rpR M l = zss ∧ rpC M l = 0 := by unfold rpR rpC; rw [if_pos h, if_pos h, h2]; exact ⟨rfl, rfl⟩
theorem pinsO_lock {M : Mk} {l : List UInt8} {zss : List (List Int)} (h : MkOk M.c M.d M.s M.m M.l) (h2 : pinsO M l = some zss) : LkOk M.c M.d M.s M.m M.l zss := by
  unfold pinsO at h2
  split at h2
  · split at h2
    · rename_i hl
      injection h2 with h2
      subst h2
      exact ((lop_iff h).1 hl).2.1
    · cases h2
  · cases h2
theorem rpR_total (M : Mk) (l : List UInt8) : total (rpR M l) ≤ 1000000 := by
  by_cases hm : MkOk M.c M.d M.s M.m M.l
  · cases ho : pinsO M l with
    | none => rw [(rp_bad hm ho).1]; simp [total]
    | some zss =>
      rw [(rp_yes hm ho).1]
      obtain ⟨_, h1, h2⟩ := lk_small (pinsO_lock hm ho)
      have := total_max (zss := zss) (n := 100) fun z hz => (h2 z hz).2.1
      omega
  · rw [(rp_no hm).1]; simp [total]
def impl_ReadPins_A (m_Chambers : Int) (m_Depths : Int) (m_Step : Int) (m_Same : Int) (m_Least : Int) (t : ByteArray) (w : World) : Nat → Ann := fun κ => match κ with
  | 0 => { σ := Nat × Value, sli := [21, 6], slc := fun s => [SV.v (Value.int .i64 (s.1 : Int)), SV.v s.2], bxi := [1], bxc := fun s => [[(Value.slice none 0 0)]], inv := fun s W => True, μ := fun s W => 0, free := true }
  | _ => { σ := Unit, sli := [], slc := fun _ => [], bxi := [], bxc := fun _ => [], inv := fun _ _ => False, μ := fun _ _ => 0 }
abbrev impl_ReadPins_k0 (s34 : Nat × Value) (w35 : World) (J36 : (Nat × Value) → World → Prop) (m37 : (Nat × Value) → World → Nat) (x69 : Value) (x73 : Int) (w89 : World) : Prop :=
  I64 (x73 + 1) ∧ ∃ s90 : (Nat × Value), (Value.int .i64 (x73 + 1)) = (Value.int .i64 (s90.1 : Int)) ∧ x69 = s90.2 ∧ (Value.slice none 0 0) = (Value.slice none 0 0) ∧ (J36 s90 w89) ∧ (m37 s90 w89) < (m37 s34 w35)
abbrev impl_ReadPins_k1 (s34 : Nat × Value) (w35 : World) (J36 : (Nat × Value) → World → Prop) (m37 : (Nat × Value) → World → Nat) (x48 : Value) (x50 : Value) (x52 : Int) (w64 : World) : Prop :=
  oneC x50 (∀ (v65 : Value) (w66 : World), Sx.Own w64.heap.size w66 24 v65 [x50] → Ext w64 w66 → AppV w66 24 x48 v65 (fun v67 w68 => (impl_ReadPins_k0 s34 w35 J36 m37 v67 x52 w68)))
abbrev impl_ReadPins_k2 (w : World) (Post : Value → World → Prop) (u31 : Value) (s34 : Nat × Value) (w35 : World) (J36 : (Nat × Value) → World → Prop) (m37 : (Nat × Value) → World → Nat) (x38 : Value) (x39 : Int) (w40 : World) : Prop :=
  IxV 1 u31 x39 (fun ad41 => ∃ s42 : ByteArray, LdV w40 (Value.pointer (some ad41)) (Value.string s42) ∧ Calls Tryd.prog 46 #[(Value.string s42), (Value.string (⟨#[43]⟩ : ByteArray))] w40 (fun e43 w44 => ∃ u45 : Value, ∃ b46 : Bool, e43 = .returned (Value.tuple #[u45, (Value.bool b46)]) ∧ Keeps w.heap.size [39, 36] w40 w44 ∧ (((!b46) = true → ∀ w47 : World, BxS w.heap.size 36 w44 w47 → Post (Value.tuple #[(Value.agg #[(Value.slice none 0 0)]), (Value.int .i64 6)]) w47) ∧ ((!b46) = false → (impl_ReadPins_k1 s34 w35 J36 m37 x38 u45 x39 w44)))))
abbrev impl_ReadPins_k3 (w : World) (Post : Value → World → Prop) (x162 : Value) (w163 : World) : Prop :=
  oneC x162 (∀ w164 : World, BxS w.heap.size 36 w163 w164 → Post (Value.tuple #[(Value.agg #[x162]), (Value.int .i64 0)]) w164)
abbrev impl_ReadPins_k4 (w : World) (Post : Value → World → Prop) (x97 : Value) (x110 : Int) (x111 : Int) (x112 : Int) (x113 : Int) (x114 : Int) (w115 : World) : Prop :=
  Calls Tryd.prog 53 #[(Value.agg #[(Value.int .i64 x110), (Value.int .i64 x111), (Value.int .i64 x112), (Value.int .i64 x113), (Value.int .i64 x114)]), x97] w115 (fun e116 w117 => ∃ u118 : Value, ∃ b119 : Bool, e116 = .returned (Value.tuple #[(Value.agg #[u118]), (Value.bool b119)]) ∧ Keeps w.heap.size [39, 36] w115 w117 ∧ ∀ w120 : World, Ext w117 w120 → oneC u118 (∀ w121 : World, BxS w.heap.size 36 w120 w121 → (((!b119) = true → ∀ w122 : World, BxS w.heap.size 36 w121 w122 → Post (Value.tuple #[(Value.agg #[(Value.slice none 0 0)]), (Value.int .i64 6)]) w122) ∧ ((!b119) = false → (impl_ReadPins_k3 w Post u118 w121)))))
abbrev impl_ReadPins_k5 (w : World) (Post : Value → World → Prop) (x12 : ByteArray) (x21 : Int) (x22 : Int) (x23 : Int) (x24 : Int) (x25 : Int) (w26 : World) : Prop :=
  ∀ (v27 : Value) (w28 : World), Sx.Own w26.heap.size w28 24 v27 [] → Ext w26 w28 → Calls Tryd.prog 52 #[(Value.string x12), (Value.string (⟨#[32]⟩ : ByteArray))] w28 (fun e29 w30 => ∃ u31 : Value, e29 = .returned u31 ∧ Keeps w.heap.size [39, 36] w28 w30 ∧ LenV u31 (fun n32 => (∃ (J36 : (Nat × Value) → World → Prop) (m37 : (Nat × Value) → World → Nat), ((∃ s33 : (Nat × Value), (Value.int .i64 0) = (Value.int .i64 (s33.1 : Int)) ∧ v27 = s33.2 ∧ (Value.slice none 0 0) = (Value.slice none 0 0) ∧ (J36 s33 w30)) ∧ ∀ (s34 : (Nat × Value)) (w35 : World), (J36 s34 w35) → ((((s34.1 : Int) < n32) → (impl_ReadPins_k2 w Post u31 s34 w35 J36 m37 s34.2 (s34.1 : Int) w35)) ∧ (¬ ((s34.1 : Int) < n32) → (impl_ReadPins_k4 w Post s34.2 x21 x22 x23 x24 x25 w35)))))))
def impl_ReadPins_vc (m_Chambers : Int) (m_Depths : Int) (m_Step : Int) (m_Same : Int) (m_Least : Int) (t : ByteArray) (w : World) (Post : Value → World → Prop) : Prop :=
  ∀ w1 : World, Ext w w1 → ∀ w2 : World, Ext w1 w2 → Calls Tryd.prog 51 #[(Value.agg #[(Value.int .i64 m_Chambers), (Value.int .i64 m_Depths), (Value.int .i64 m_Step), (Value.int .i64 m_Same), (Value.int .i64 m_Least)])] w2 (fun e3 w4 => ∃ b5 : Bool, e3 = .returned (Value.bool b5) ∧ Keeps w.heap.size [39, 36] w2 w4 ∧ (((!b5) = true → ∀ w6 : World, BxS w.heap.size 36 w4 w6 → Post (Value.tuple #[(Value.agg #[(Value.slice none 0 0)]), (Value.int .i64 1)]) w6) ∧ ((!b5) = false → (impl_ReadPins_k5 w Post t m_Chambers m_Depths m_Step m_Same m_Least w4))))
theorem impl_ReadPins_eq (m_Chambers : Int) (m_Depths : Int) (m_Step : Int) (m_Same : Int) (m_Least : Int) (t : ByteArray) (w : World) (Post : Value → World → Prop) : denF Tryd.prog [] (impl_ReadPins_A m_Chambers m_Depths m_Step m_Same m_Least t w) 20 [(Value.agg #[(Value.int .i64 m_Chambers), (Value.int .i64 m_Depths), (Value.int .i64 m_Step), (Value.int .i64 m_Same), (Value.int .i64 m_Least)]), (Value.string t)] w Post = impl_ReadPins_vc m_Chambers m_Depths m_Step m_Same m_Least t w Post := by kernel_rfl
set_option maxRecDepth 100000 in
theorem impl_ReadPins_calls (m_Chambers : Int) (m_Depths : Int) (m_Step : Int) (m_Same : Int) (m_Least : Int) (t : ByteArray) (w : World) (Post : Value → World → Prop) (hvc : impl_ReadPins_vc m_Chambers m_Depths m_Step m_Same m_Least t w Post) : Ret Tryd.prog 20 #[(Value.agg #[(Value.int .i64 m_Chambers), (Value.int .i64 m_Depths), (Value.int .i64 m_Step), (Value.int .i64 m_Same), (Value.int .i64 m_Least)]), (Value.string t)] w Post :=
  Ret.of (denF_sound mixed (Eq.mpr (impl_ReadPins_eq m_Chambers m_Depths m_Step m_Same m_Least t w Post) hvc))

theorem impl_ReadPins_ret (M : Mk) (l : List UInt8) (w : World) (hl : l.length ≤ 1048576) (hg : Gs w) : LkR 20 #[M.v, txt l] w (rpR M l) (rpC M l) :=
  impl_ReadPins_calls M.c M.d M.s M.m M.l ⟨l.toArray⟩ w _ (by
    unfold impl_ReadPins_vc
    intro w1 h1 w2 h2
    have k2 := h1.trans h2
    refine (impl_IsMaker_val ..).call fun w4 h4 => ⟨_, rfl, h4.keeps, fun hb w5 b5 => ?_, fun hb => ?_⟩
    · obtain ⟨e1, e2⟩ := rp_no (M := M) (l := l) (nd_t hb)
      rw [e1, e2]
      exact ⟨_, rfl, OwnR.nil_ _ _, (k2.trans h4).bxs b5⟩
    have hm := nd_f hb
    have k4 := k2.trans h4
    unfold impl_ReadPins_k5
    intro v5 w5 o5 h5
    have k5 := k4.trans h5
    refine (split_ret l 32 w5 (hg.ext k5) hl).call ?_
    rintro u w6 ⟨ou, h6⟩
    have k6 := k5.trans h6
    have hcl := cutAt_length 32 l
    refine ⟨u, rfl, h6.keeps, RS.len ou.rd ⟨fun s W => s.1 ≤ (cutAt 32 l).length ∧ (∃ zss, rdss ((cutAt 32 l).take s.1) = some zss ∧ zss.length = s.1 ∧ OwnR w4.heap.size W s.2 zss) ∧ Own w5.heap.size W 9 u (strs (cutAt 32 l)) ∧ Ext w4 W, fun s _ => (cutAt 32 l).length - s.1, ⟨(0, v5), rfl, rfl, rfl, Nat.zero_le _, ⟨[], rfl, rfl, [], o5.ext h6, Rows.nil_, .nil⟩, ou, h5.trans h6⟩, ?_⟩⟩
    rintro ⟨k, v⟩ w7 ⟨hk, ⟨zss, hr, hzl, o7⟩, u7, j7⟩
    simp only at hk hr o7 hzl
    have k7 := k4.trans j7
    refine ⟨fun hlt => ?_, fun hge => ?_⟩
    · simp only at hlt
      have hk' : k < (cutAt 32 l).length := by omega
      have hmem := List.getElem_mem hk'
      have hwl := cut_small hmem
      unfold impl_ReadPins_k2
      refine RS.get u7.rd k rfl hk' ?_
      generalize hx : (cutAt 32 l)[k] = x at hmem hwl
      refine (impl_parted_ret x 43 w7 (by omega) (hg.ext k7)).call ?_
      rintro _ w8 ⟨⟨p, zs, rfl, o8, hrx⟩ | ⟨rfl, hrx⟩, h8⟩
      · refine ⟨p, true, rfl, h8.keeps, fun h => (by cases h), fun _ => ?_⟩
        unfold impl_ReadPins_k1
        refine o8.rd.oneC fun r w9 o9 h9 => ?_
        have k9 := (k7.trans h8).trans h9
        refine o7.push' o8 h8 o9 h9 j7.size (by omega) fun v' w10 o10 hx10 keep => ⟨by unfold I64; simp only; omega, (k + 1, v'), rfl, rfl, rfl, ⟨hk', ⟨zss ++ [zs], ?_, by simp [hzl], o10⟩, keep _ _ _ _ (by decide) ((u7.ext h8).ext h9), hx10 w4 (Nat.le_refl _) ((j7.trans h8).trans h9)⟩, by simp only; omega⟩
        simp only
        rw [List.take_add_one, List.getElem?_eq_getElem hk', hx]
        exact rdss_snoc hr hrx
      · refine ⟨_, false, rfl, h8.keeps, fun _ w9 b9 => ?_, fun h => (by cases h)⟩
        obtain ⟨e1, e2⟩ := rp_bad (l := l) hm (show pinsO M l = none by unfold pinsO; rw [rdss_bad hmem hrx])
        rw [e1, e2]
        exact ⟨_, rfl, OwnR.nil_ _ _, (k7.trans h8).bxs b9⟩
    · simp only at hge
      obtain rfl : k = (cutAt 32 l).length := by omega
      rw [List.take_length] at hr
      obtain ⟨s1, s2⟩ := rdss_small hl hr
      unfold impl_ReadPins_k4
      refine (impl_lockOfPinsp_ret M hm v zss w7 o7.rr s1 s2).call ?_
      rintro _ w8 ⟨q, rfl, o8, h8⟩
      refine ⟨q, _, rfl, h8.keeps, fun w9 h9 => (o8.ext h9).rr.oneC fun w10 b10 => ?_⟩
      have k10 := ((k7.trans h8).trans h9).bxs b10
      have o10 := (o8.ext h9).bxs b10 (by decide) (by decide)
      refine ⟨fun hb w11 b11 => ?_, fun hb => ?_⟩
      · obtain ⟨e1, e2⟩ := rp_bad (l := l) hm (show pinsO M l = none by unfold pinsO; rw [hr]; simp only; rw [if_neg (nd_t hb)])
        rw [e1, e2]
        exact ⟨_, rfl, OwnR.nil_ _ _, k10.bxs b11⟩
      · have hok := nd_f hb
        obtain ⟨e1, e2⟩ := rp_yes (l := l) hm (show pinsO M l = some (lop zss) by unfold pinsO; rw [hr]; simp only; rw [if_pos hok])
        rw [e1, e2]
        rw [if_pos hok.1] at o10
        unfold impl_ReadPins_k3
        exact o10.rr.oneC fun w11 b11 => ⟨q, rfl, (o10.mono k7.size).bxs b11 (by decide) (by decide), k10.bxs b11⟩)
abbrev spec_ReadPins_k0 (w : World) (Post : Value → World → Prop) (w81 : World) : Prop :=
  ∀ w82 : World, BxS w.heap.size 36 w81 w82 → Post (Value.tuple #[(Value.agg #[(Value.slice none 0 0)]), (Value.int .i64 6)]) w82
abbrev spec_ReadPins_k1 (w : World) (Post : Value → World → Prop) (x174 : Value) (w175 : World) : Prop :=
  oneC x174 (∀ w176 : World, BxS w.heap.size 36 w175 w176 → Post (Value.tuple #[(Value.agg #[x174]), (Value.int .i64 0)]) w176)
abbrev spec_ReadPins_k2 (w : World) (Post : Value → World → Prop) (n34 : Int) (x127 : Value) (w128 : World) : Prop :=
  (((n34 ≠ (0 : Int)) → ∀ w129 : World, BxS w.heap.size 36 w128 w129 → Post (Value.tuple #[(Value.agg #[(Value.slice none 0 0)]), (Value.int .i64 6)]) w129) ∧ (¬ (n34 ≠ (0 : Int)) → (spec_ReadPins_k1 w Post x127 w128)))
abbrev spec_ReadPins_k3 (w : World) (Post : Value → World → Prop) (x12 : ByteArray) (x21 : Int) (x22 : Int) (x23 : Int) (x24 : Int) (x25 : Int) (w26 : World) : Prop :=
  Calls Tryd.prog 49 #[(Value.string x12)] w26 (fun e27 w28 => ∃ u29 : Value, ∃ b30 : Bool, e27 = .returned (Value.tuple #[u29, (Value.bool b30)]) ∧ Keeps w.heap.size [39, 36] w26 w28 ∧ Calls Tryd.prog 50 #[(Value.agg #[(Value.int .i64 x21), (Value.int .i64 x22), (Value.int .i64 x23), (Value.int .i64 x24), (Value.int .i64 x25)]), u29] w28 (fun e31 w32 => ∃ u33 : Value, ∃ n34 : Int, e31 = .returned (Value.tuple #[(Value.agg #[u33]), (Value.int .i64 n34)]) ∧ Keeps w.heap.size [39, 36] w28 w32 ∧ ∀ w35 : World, Ext w32 w35 → oneC u33 (∀ w36 : World, BxS w.heap.size 36 w35 w36 → (((!b30) = true → (spec_ReadPins_k0 w Post w36)) ∧ ((!b30) = false → (spec_ReadPins_k2 w Post n34 u33 w36))))))
def spec_ReadPins_vc (m_Chambers : Int) (m_Depths : Int) (m_Step : Int) (m_Same : Int) (m_Least : Int) (t : ByteArray) (w : World) (Post : Value → World → Prop) : Prop :=
  ∀ w1 : World, Ext w w1 → ∀ w2 : World, Ext w1 w2 → Calls Tryd.prog 48 #[(Value.agg #[(Value.int .i64 m_Chambers), (Value.int .i64 m_Depths), (Value.int .i64 m_Step), (Value.int .i64 m_Same), (Value.int .i64 m_Least)])] w2 (fun e3 w4 => ∃ b5 : Bool, e3 = .returned (Value.bool b5) ∧ Keeps w.heap.size [39, 36] w2 w4 ∧ (((!b5) = true → ∀ w6 : World, BxS w.heap.size 36 w4 w6 → Post (Value.tuple #[(Value.agg #[(Value.slice none 0 0)]), (Value.int .i64 1)]) w6) ∧ ((!b5) = false → (spec_ReadPins_k3 w Post t m_Chambers m_Depths m_Step m_Same m_Least w4))))
theorem spec_ReadPins_eq (m_Chambers : Int) (m_Depths : Int) (m_Step : Int) (m_Same : Int) (m_Least : Int) (t : ByteArray) (w : World) (Post : Value → World → Prop) : denF Tryd.prog [] noAnn 18 [(Value.agg #[(Value.int .i64 m_Chambers), (Value.int .i64 m_Depths), (Value.int .i64 m_Step), (Value.int .i64 m_Same), (Value.int .i64 m_Least)]), (Value.string t)] w Post = spec_ReadPins_vc m_Chambers m_Depths m_Step m_Same m_Least t w Post := by kernel_rfl
set_option maxRecDepth 100000 in
theorem spec_ReadPins_calls (m_Chambers : Int) (m_Depths : Int) (m_Step : Int) (m_Same : Int) (m_Least : Int) (t : ByteArray) (w : World) (Post : Value → World → Prop) (hvc : spec_ReadPins_vc m_Chambers m_Depths m_Step m_Same m_Least t w Post) : Ret Tryd.prog 18 #[(Value.agg #[(Value.int .i64 m_Chambers), (Value.int .i64 m_Depths), (Value.int .i64 m_Step), (Value.int .i64 m_Same), (Value.int .i64 m_Least)]), (Value.string t)] w Post :=
  Ret.of (denF_sound mixed (Eq.mpr (spec_ReadPins_eq m_Chambers m_Depths m_Step m_Same m_Least t w Post) hvc))

theorem spec_ReadPins_ret (M : Mk) (l : List UInt8) (w : World) (hl : l.length ≤ 1048576) : LkR 18 #[M.v, txt l] w (rpR M l) (rpC M l) :=
  spec_ReadPins_calls M.c M.d M.s M.m M.l ⟨l.toArray⟩ w _ (by
    unfold spec_ReadPins_vc
    intro w1 h1 w2 h2
    have k2 := h1.trans h2
    refine (spec_IsMaker_val ..).call fun w4 h4 => ⟨_, rfl, h4.keeps, fun hb w5 b5 => ?_, fun hb => ?_⟩
    · obtain ⟨e1, e2⟩ := rp_no (M := M) (l := l) (nd_t hb)
      rw [e1, e2]
      exact ⟨_, rfl, OwnR.nil_ _ _, (k2.trans h4).bxs b5⟩
    have hm := nd_f hb
    have k4 := k2.trans h4
    unfold spec_ReadPins_k3
    refine (spec_l05Read_ret l w4 hl).call ?_
    rintro _ w5 ⟨h5, ⟨u, zss, rfl, o5, hr⟩ | ⟨rfl, x, hx, y, hy, hbad⟩⟩
    · have k5 := k4.trans h5
      obtain ⟨s1, s2⟩ := rdss_small hl hr
      refine ⟨u, true, rfl, h5.keeps, ?_⟩
      refine (spec_LockOfPins_ret M u zss w5 o5.rr s1 s2).call ?_
      rintro _ w6 ⟨q, rfl, o6, h6⟩
      refine ⟨q, _, rfl, h6.keeps, fun w7 h7 => (o6.ext h7).rr.oneC fun w8 b8 => ⟨fun h => (by cases h), fun _ => ?_⟩⟩
      have k8 := ((k5.trans h6).trans h7).bxs b8
      have o8 := (o6.ext h7).bxs b8 (by decide) (by decide)
      unfold spec_ReadPins_k2
      refine ⟨fun hne w9 b9 => ?_, fun he => ?_⟩
      · have hno : ¬ lopOk M zss := fun hok => hne (lop_yes hm hok).2
        obtain ⟨e1, e2⟩ := rp_bad (l := l) hm (show pinsO M l = none by unfold pinsO; rw [hr]; simp only; rw [if_neg hno])
        rw [e1, e2]
        exact ⟨_, rfl, OwnR.nil_ _ _, k8.bxs b9⟩
      · have hok : lopOk M zss := Classical.byContradiction fun hno => by
          have := (lop_bad hm hno).2
          omega
        obtain ⟨e1, e2⟩ := rp_yes (l := l) hm (show pinsO M l = some (lop zss) by unfold pinsO; rw [hr]; simp only; rw [if_pos hok])
        rw [e1, e2]
        rw [(lop_yes hm hok).1] at o8
        unfold spec_ReadPins_k1
        exact o8.rr.oneC fun w9 b9 => ⟨q, rfl, (o8.mono k5.size).bxs b9 (by decide) (by decide), k8.bxs b9⟩
    · have k5 := k4.trans h5
      have hnone : pinsO M l = none := by
        unfold pinsO
        split
        · rename_i zss hr
          obtain ⟨z, hz, hrz⟩ := (rdss_mem hr).2 x hx
          obtain ⟨n, hn, hs⟩ := rds_no13 hy hbad hrz
          rw [if_neg fun hok => hs (by
            have := (hok.1 z hz).1 n hn
            have := hm.2.1
            unfold Sml
            omega)]
        · rfl
      obtain ⟨e1, e2⟩ := rp_bad (l := l) hm hnone
      refine ⟨_, false, rfl, h5.keeps, ?_⟩
      refine (spec_LockOfPins_ret M _ [] w5 (OwnR.nil_ 0 w5).rr (by simp) (by simp)).call ?_
      rintro _ w6 ⟨q, rfl, o6, h6⟩
      refine ⟨q, _, rfl, h6.keeps, fun w7 h7 => (o6.ext h7).rr.oneC fun w8 b8 => ⟨fun _ => ?_, fun h => (by cases h)⟩⟩
      unfold spec_ReadPins_k0
      intro w9 b9
      rw [e1, e2]
      exact ⟨_, rfl, OwnR.nil_ _ _, (((k5.trans h6).trans h7).bxs b8).bxs b9⟩)
end Go.Proofs
