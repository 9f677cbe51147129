/- Contracts: the next key, the first keys. No condition. -/
import Derived.Test.YtjcggcefmpaieaaDoorL03a
import Derived.Test.YtjcggcefmpaieaaDoorMarks
set_option linter.unusedVariables false
namespace Go.Proofs
open Go.Sx Go.RowKit
def midTo (M : Mk) (zs : List Int) (k : Nat) (x : Int) : List (List Int) := (upFrom (zs.getD k 0 + 1) (x - (zs.getD k 0 + 1)).toNat).flatMap fun y => GA M (zs.length - (k + 1)) (zs.take k ++ [y])
section
variable {M : Mk} {zs : List Int} {k : Nat} {x y : Int}
theorem midTo_zero : midTo M zs k (zs.getD k 0 + 1) = [] := by
  unfold midTo
  rw [show (zs.getD k 0 + 1 - (zs.getD k 0 + 1)).toNat = 0 by omega]
  rfl
theorem midTo_succ (h : zs.getD k 0 + 1 ≤ x) : midTo M zs k (x + 1) = midTo M zs k x ++ GA M (zs.length - (k + 1)) (zs.take k ++ [x]) := by
  unfold midTo
  rw [show (x + 1 - (zs.getD k 0 + 1)).toNat = (x - (zs.getD k 0 + 1)).toNat + 1 by omega, upFrom_succ, List.flatMap_append]
  congr 1
  rw [show zs.getD k 0 + 1 + (((x - (zs.getD k 0 + 1)).toNat : Nat) : Int) = x by omega]
  simp
theorem midTo_pre (h : zs.getD k 0 + 1 ≤ x) (hx : x ≤ y) : ∃ r, midTo M zs k y = midTo M zs k x ++ r := by
  unfold midTo
  rw [show (y - (zs.getD k 0 + 1)).toNat = (x - (zs.getD k 0 + 1)).toNat + (y - x).toNat by omega, upFrom_split, List.flatMap_append]
  exact ⟨_, rfl⟩
end
def spec_l02Next_A (m_Chambers : Int) (m_Depths : Int) (m_Step : Int) (m_Same : Int) (m_Least : Int) (v : Value) (w : World) : Nat → Ann := fun κ => match κ with
  | 0 => { σ := Int, sli := [6], slc := fun s => [SV.v (Value.int .i64 s)], bxi := [], bxc := fun s => [], inv := fun s W => True, μ := fun s W => 0, free := true }
  | 1 => { σ := Int, sli := [7], slc := fun s => [SV.v (Value.int .i64 s)], bxi := [], bxc := fun s => [], inv := fun s W => True, μ := fun s W => 0, free := true }
  | _ => { σ := Unit, sli := [], slc := fun _ => [], bxi := [], bxc := fun _ => [], inv := fun _ _ => False, μ := fun _ _ => 0 }
abbrev spec_l02Next_k0 (s14 : Int) (w15 : World) (J16 : Int → World → Prop) (m17 : Int → World → Nat) (x49 : Int) (w73 : World) : Prop :=
  I64 (x49 + 1) ∧ ∃ s74 : Int, (Value.int .i64 (x49 + 1)) = (Value.int .i64 s74) ∧ (J16 s74 w73) ∧ (m17 s74 w73) < (m17 s14 w15)
abbrev spec_l02Next_k1 (w : World) (Post : Value → World → Prop) (s14 : Int) (w15 : World) (J16 : Int → World → Prop) (m17 : Int → World → Nat) (w22 : World) (x27 : Int) (x30 : Int) (x31 : Int) (x32 : Int) (x33 : Int) (x34 : Int) (x38 : Value) (x39 : Int) (w40 : World) : Prop :=
  ∀ (v41 : Value) (w42 : World), Sx.Own w40.heap.size w42 2 v41 [(Value.int .i64 x39)] → Ext w40 w42 → AppV w42 2 x38 v41 (fun v43 w44 => Ext w22 w44 ∧ Calls Tryd.prog 115 #[(Value.agg #[(Value.int .i64 x30), (Value.int .i64 x31), (Value.int .i64 x32), (Value.int .i64 x33), (Value.int .i64 x34)]), v43] w44 (fun e45 w46 => ∃ u47 : Value, ∃ b48 : Bool, e45 = .returned (Value.tuple #[u47, (Value.bool b48)]) ∧ Keeps w.heap.size [39] w44 w46 ∧ Ext w22 w46 ∧ ((b48 = true → Post (Value.tuple #[u47, (Value.bool true)]) w46) ∧ (b48 = false → (spec_l02Next_k0 s14 w15 J16 m17 x27 w46)))))
abbrev spec_l02Next_k2 (w : World) (Post : Value → World → Prop) (s14 : Int) (w15 : World) (J16 : Int → World → Prop) (m17 : Int → World → Nat) (w22 : World) (x77 : Int) (x80 : Int) (x81 : Int) (x82 : Int) (x83 : Int) (x84 : Int) (x87 : Value) (x89 : Value) (w90 : World) : Prop :=
  Calls Tryd.prog 130 #[x87] w90 (fun e91 w92 => ∃ u93 : Value, e91 = .returned u93 ∧ Keeps w.heap.size [39] w90 w92 ∧ Ext w22 w92 ∧ AppV w92 2 u93 x89 (fun v94 w95 => Ext w22 w95 ∧ Calls Tryd.prog 115 #[(Value.agg #[(Value.int .i64 x80), (Value.int .i64 x81), (Value.int .i64 x82), (Value.int .i64 x83), (Value.int .i64 x84)]), v94] w95 (fun e96 w97 => ∃ u98 : Value, ∃ b99 : Bool, e96 = .returned (Value.tuple #[u98, (Value.bool b99)]) ∧ Keeps w.heap.size [39] w95 w97 ∧ Ext w22 w97 ∧ ((b99 = true → Post (Value.tuple #[u98, (Value.bool true)]) w97) ∧ (b99 = false → (spec_l02Next_k0 s14 w15 J16 m17 x77 w97))))))
abbrev spec_l02Next_k3 (m_Chambers : Int) (m_Depths : Int) (m_Step : Int) (m_Same : Int) (m_Least : Int) (v : Value) (w : World) (Post : Value → World → Prop) (x8 : Int) (s14 : Int) (w15 : World) (J16 : Int → World → Prop) (m17 : Int → World → Nat) (x18 : Int) (w21 : World) : Prop :=
  ∀ w22 : World, Ext w21 w22 → SlV 1 v none (some x8) none (fun u23 => ((Calls Tryd.prog 130 #[u23] w22 (fun e24 w25 => ∃ u26 : Value, e24 = .returned u26 ∧ Keeps w.heap.size [39] w22 w25 ∧ Ext w22 w25 ∧ (spec_l02Next_k1 w Post s14 w15 J16 m17 w22 x18 m_Chambers m_Depths m_Step m_Same m_Least u26 x18 w25))) ∧ (∀ (v75 : Value) (w76 : World), Sx.Own w22.heap.size w76 2 v75 [(Value.int .i64 x18)] → Ext w22 w76 → (spec_l02Next_k2 w Post s14 w15 J16 m17 w22 x18 m_Chambers m_Depths m_Step m_Same m_Least u23 v75 w76))))
abbrev spec_l02Next_k4 (s4 : Int) (w5 : World) (J6 : Int → World → Prop) (m7 : Int → World → Nat) (x100 : Int) (w110 : World) : Prop :=
  I64 (x100 - 1) ∧ ∃ s111 : Int, (Value.int .i64 (x100 - 1)) = (Value.int .i64 s111) ∧ (J6 s111 w110) ∧ (m7 s111 w110) < (m7 s4 w5)
abbrev spec_l02Next_k5 (m_Chambers : Int) (m_Depths : Int) (m_Step : Int) (m_Same : Int) (m_Least : Int) (v : Value) (w : World) (Post : Value → World → Prop) (s4 : Int) (w5 : World) (J6 : Int → World → Prop) (m7 : Int → World → Nat) (x8 : Int) (w10 : World) : Prop :=
  IxV 1 v x8 (fun ad11 => ∃ n12 : Int, LdV w10 (Value.pointer (some ad11)) (Value.int .i64 n12) ∧ I64 (n12 + 1) ∧ (∃ (J16 : Int → World → Prop) (m17 : Int → World → Nat), ((∃ s13 : Int, (Value.int .i64 (n12 + 1)) = (Value.int .i64 s13) ∧ (J16 s13 w10)) ∧ ∀ (s14 : Int) (w15 : World), (J16 s14 w15) → (((s14 < m_Depths) → (spec_l02Next_k3 m_Chambers m_Depths m_Step m_Same m_Least v w Post x8 s14 w15 J16 m17 s14 w15)) ∧ (¬ (s14 < m_Depths) → (spec_l02Next_k4 s4 w5 J6 m7 x8 w15))))))
def spec_l02Next_vc (m_Chambers : Int) (m_Depths : Int) (m_Step : Int) (m_Same : Int) (m_Least : Int) (v : Value) (w : World) (Post : Value → World → Prop) : Prop :=
  ∀ w1 : World, Ext w w1 → LenV v (fun n2 => I64 (n2 - 1) ∧ (∃ (J6 : Int → World → Prop) (m7 : Int → World → Nat), ((∃ s3 : Int, (Value.int .i64 (n2 - 1)) = (Value.int .i64 s3) ∧ (J6 s3 w1)) ∧ ∀ (s4 : Int) (w5 : World), (J6 s4 w5) → ((((0 : Int) ≤ s4) → (spec_l02Next_k5 m_Chambers m_Depths m_Step m_Same m_Least v w Post s4 w5 J6 m7 s4 w5)) ∧ (¬ ((0 : Int) ≤ s4) → Post (Value.tuple #[(Value.slice none 0 0), (Value.bool false)]) w5)))))
theorem spec_l02Next_eq (m_Chambers : Int) (m_Depths : Int) (m_Step : Int) (m_Same : Int) (m_Least : Int) (v : Value) (w : World) (Post : Value → World → Prop) : denF Tryd.prog [1000130, 9000001] (spec_l02Next_A m_Chambers m_Depths m_Step m_Same m_Least v w) 114 [(Value.agg #[(Value.int .i64 m_Chambers), (Value.int .i64 m_Depths), (Value.int .i64 m_Step), (Value.int .i64 m_Same), (Value.int .i64 m_Least)]), v] w Post = spec_l02Next_vc m_Chambers m_Depths m_Step m_Same m_Least v w Post := by kernel_rfl
set_option maxRecDepth 100000 in
theorem spec_l02Next_calls (m_Chambers : Int) (m_Depths : Int) (m_Step : Int) (m_Same : Int) (m_Least : Int) (v : Value) (w : World) (Post : Value → World → Prop) (hvc : spec_l02Next_vc m_Chambers m_Depths m_Step m_Same m_Least v w Post) : Ret Tryd.prog 114 #[(Value.agg #[(Value.int .i64 m_Chambers), (Value.int .i64 m_Depths), (Value.int .i64 m_Step), (Value.int .i64 m_Same), (Value.int .i64 m_Least)]), v] w Post :=
  Ret.of (denF_sound mixed (Eq.mpr (spec_l02Next_eq m_Chambers m_Depths m_Step m_Same m_Least v w Post) hvc))

theorem spec_l02Next_ret {M : Mk} (hM : M.Ok) (v : Value) (zs : List Int) (w : World) (hl : (zs.length : Int) = M.c) (hc : CutsOk M.d zs) (hv : RI w v zs) :
    Ret Tryd.prog 114 #[mkV M.c M.d M.s M.m M.l, v] w fun r w' => Ext w w' ∧ ∃ u ok, r = .tuple #[u, .bool ok] ∧ ((ok = false ∧ u = .slice none 0 0 ∧ above M zs 0 = []) ∨ ∃ k rest, ok = true ∧ above M zs 0 = k :: rest ∧ Own w.heap.size w' 2 u (ints k)) :=
  spec_l02Next_calls M.c M.d M.s M.m M.l v w _ (by
    unfold spec_l02Next_vc
    have hM' := hM
    obtain ⟨hm1, hm2, hm3, hm4, hm5⟩ := hM'
    intro w1 h1
    refine (hv.ext h1).len ⟨by unfold I64; omega, fun s W => -1 ≤ s ∧ s ≤ zs.length - 1 ∧ above M zs (s + 1).toNat = [] ∧ Ext w W, fun s _ => (s + 1).toNat, ⟨zs.length - 1, rfl, by omega, Int.le_refl _, by rw [show ((zs.length : Int) - 1 + 1).toNat = zs.length by omega]; exact above_end, h1⟩, ?_⟩
    rintro s w2 ⟨hs, hs2, ha, k2⟩
    refine ⟨fun h0 => ?_, fun hneg => ⟨k2, _, false, rfl, .inl ⟨rfl, rfl, by rw [show (s + 1).toNat = 0 by omega] at ha; exact ha⟩⟩⟩
    obtain ⟨k, rfl⟩ := Int.eq_ofNat_of_zero_le h0
    rw [show ((k : Int) + 1).toNat = k + 1 by omega] at ha
    have hk : k < zs.length := by omega
    have hz := hc.get hk
    have hzd : zs.getD k 0 = zs[k] := getD_get hk
    refine (hv.ext k2).get k rfl hk ⟨by unfold I64; omega, fun x W => zs[k] + 1 ≤ x ∧ x ≤ M.d ∧ midTo M zs k x = [] ∧ Ext w W, fun x _ => (M.d - x).toNat, ⟨zs[k] + 1, rfl, Int.le_refl _, by omega, by rw [← hzd]; exact midTo_zero, k2⟩, ?_⟩
    rintro x w3 ⟨hx0, hx, hmid, k3⟩
    refine ⟨fun hlt => ?_, fun hge => ?_⟩
    · intro w4 h4
      have k4 := k3.trans h4
      refine (hv.ext k4).sl 0 k rfl rfl (Nat.zero_le _) (by omega) fun t ht => ?_
      rw [List.drop_zero] at ht
      refine own_snoc ht (by rw [List.length_take]; omega) fun u w5 o5 h5 => ?_
      refine (spec_l02First_ret hM (zs.length - (k + 1)) (zs.take k ++ [x]) u w5 (by simp; omega) (CutsOk.snoc (fun z hz => hc z (List.mem_of_mem_take hz)) (by omega) hlt) o5.rd).call ?_
      rintro _ w6 ⟨h6, u6, ok, rfl, hone, hor⟩
      have k6 := (k4.trans h5).trans h6
      refine ⟨u6, ok, rfl, h6.keeps, h5.trans h6, fun hok => ⟨k6, u6, true, rfl, .inr ?_⟩, fun hno => ?_⟩
      · rcases hor with ⟨h, _⟩ | ⟨kk, rest, _, hg, ho⟩
        · rw [hok] at h; cases h
        · have e1 := midTo_succ (M := M) (zs := zs) (k := k) (x := x) (by omega)
          rw [hmid, hg, List.nil_append] at e1
          obtain ⟨r, hr⟩ := midTo_pre (M := M) (zs := zs) (k := k) (x := x + 1) (y := M.d) (by omega) (by omega)
          obtain ⟨r', hr'⟩ := above_pre (M := M) hc (show k ≤ zs.length by omega)
          have e2 := above_step (M := M) hc hk
          rw [ha, List.nil_append] at e2
          change above M zs k = midTo M zs k M.d at e2
          rw [hr, e1] at e2
          rw [e2] at hr'
          refine ⟨kk, rest ++ r ++ r', rfl, by rw [hr']; simp, ?_⟩
          rcases ho with ⟨hn, rfl⟩ | ho
          · have hkp : kk = zs.take k ++ [x] := by
              have hmem : kk ∈ GA M (zs.length - (k + 1)) (zs.take k ++ [x]) := by rw [hg]; exact List.mem_cons_self ..
              obtain ⟨t, ht, hl⟩ := G_pre hmem
              have : t = [] := List.eq_nil_of_length_eq_zero (by omega)
              rw [ht, this, List.append_nil]
            rw [hkp]
            exact (o5.ext h6).mono k4.size
          · exact ho.mono ((k4.trans h5).size)
      · rcases hor with ⟨_, hg⟩ | ⟨kk, rest, h, _⟩
        · refine ⟨by unfold I64; omega, x + 1, rfl, ⟨by omega, by omega, ?_, k6⟩, by simp only; omega⟩
          rw [midTo_succ (by omega), hmid, hg]
          rfl
        · rw [hno] at h; cases h
    · have hxd : x = M.d := by omega
      rw [hxd] at hmid
      refine ⟨by unfold I64; omega, (k : Int) - 1, rfl, ⟨by omega, by omega, ?_, k3⟩, by simp only; omega⟩
      rw [show ((k : Int) - 1 + 1).toNat = k by omega, above_step hc hk, ha, List.nil_append]
      exact hmid)
theorem keys_next {M : Mk} {j : Nat} (hj : j < (keys M).length) (hc : 0 ≤ M.c) : above M (keys M)[j] 0 = (keys M).drop (j + 1) := by
  have hmem : (keys M)[j] ∈ keys M := List.getElem_mem hj
  rw [above_zero M _ (keys_length hc hmem)]
  have hs := get_split (List.getElem?_eq_getElem hj)
  have hp := keys_sorted M
  rw [hs] at hp
  have e := mid_above hp
  rw [← hs] at e
  exact e
/-- as 'push', with what the row reads as behind it -/
theorem OwnR.push2 {B C : Nat} {w3 w4 w5 : World} {v u r : Value} {zss : List (List Int)} {z : List Int} (h : OwnR B w3 v zss) (hu : Own w3.heap.size w4 2 u (ints z)) (e4 : Ext w3 w4) (hr : Own C w5 24 r [u]) (e5 : Ext w4 w5) (hB : B ≤ w3.heap.size) (hl : zss.length < 4398046511104) {K : Value → World → Prop}
    (hK : ∀ v' w6, OwnR B w6 v' (zss ++ [z]) → (∀ w0 : World, w0.heap.size ≤ B → Ext w0 w5 → Ext w0 w6) → RI w6 u z → K v' w6) : AppV w5 24 v r K := by
  obtain ⟨us, h1, h2, h3⟩ := h
  have e := e4.trans e5
  have h1' := h1.ext e
  have hu' := (hu.ext e5)
  refine h1'.app1 hr hu.rd.one (by rw [h2.1]; exact hl) (Nat.le_trans hB e.size) fun v' w6 o6 g6 hb => hK v' w6 ⟨us ++ [u], o6, ?_, ?_⟩ (fun w0 h0 x => x.grown h1' h0 g6) ?_
  · refine (h2.map fun x zx hx => ((hx.ext e).grown g6 (Apart.types (hx.ext e) h1' (by decide)))).snoc ?_
    exact (hu'.mono hB).grown g6 (Apart.types hu' h1' (by decide))
  · rw [List.pairwise_append]
    refine ⟨h3, by simp, fun x hx y hy => ?_⟩
    simp only [List.mem_singleton] at hy
    subst hy
    obtain ⟨i, hi, rfl⟩ := List.getElem_of_mem hx
    have hik : i < zss.length := by rw [← h2.1]; exact hi
    exact Apart.new (h2.get hik) hu
  · exact (hu'.grown g6 (Apart.types hu' h1' (by decide))).rd
theorem keys_max {M : Mk} (hM : M.Ok) : (keys M).length ≤ 262144 := G_max (by have := hM.2.1; omega) _ (by have := hM.1; omega) _
def fkCode (M : Mk) (n : Int) : Int := if MkOk M.c M.d M.s M.m M.l then (if 0 ≤ n ∧ n ≤ 300 then 0 else 2) else 1
def fkR (M : Mk) (n : Int) : List (List Int) := if MkOk M.c M.d M.s M.m M.l then (if 0 ≤ n ∧ n ≤ 300 then (keys M).take n.toNat else []) else []
theorem fkR_total (M : Mk) (n : Int) : total (fkR M n) ≤ 1000000 := by
  unfold fkR
  split
  · rename_i hm
    split
    · rename_i hn
      have h := total_max (zss := (keys M).take n.toNat) (n := 6) fun z hz => by
        have := keys_length (M := M) (by have := hm.1; omega) (List.mem_of_mem_take hz)
        have := hm.1
        omega
      rw [List.length_take] at h
      omega
    · simp [total]
  · simp [total]
end Go.Proofs
