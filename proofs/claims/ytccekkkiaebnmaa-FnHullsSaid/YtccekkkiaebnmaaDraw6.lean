/- Draws of locks: what a lock drawn reads as, and the contracts of the draws. No condition. -/
import Derived.Test.YtccekkkiaebnmaaDraw5
import Derived.Test.YtccekkkiaebnmaaL04h
import Derived.Test.YtccekkkiaebnmaaVw
set_option linter.unusedVariables false
namespace Go.Proofs
open Go.Sx Go.RowKit
section
variable {B : Nat} {w w' : World} {v : Value} {zss : List (List Int)}
theorem OwnR.dr (h : OwnR B w v zss) {b : Nat} (p : Pres (fun k => k ≠ b) w w') (hb : b < B) : OwnR B w' v zss := let ⟨us, h1, h2, h3⟩ := h; ⟨us, h1.dr p hb, h2.map fun u z hr => hr.dr p hb, h3⟩
end
/-- a row put into a slice of rows of the call's own -/
theorem OwnR.put {B C : Nat} {w : World} {v x : Value} {zss : List (List Int)} {z : List Int} (h : OwnR B w v zss) {i : Int} (k : Nat) (hi : i = k) (hk : k < zss.length) (hx : Vw C w 2 x (ints z)) (hC : B ≤ C) {n0 : Nat} {Ts : List TypeId} (hT : 36 ∉ Ts) {K : World → Prop}
    (hK : ∀ w', VwR B w' v (zss.set k z) → Pres (fun b => b < B) w w' → (∀ n0 Ts, 36 ∉ Ts → Keeps n0 Ts w w') → K w') : IxV 1 v i (fun ad => StV n0 Ts w (.pointer (some ad)) x K) := by
  obtain ⟨us, h1, h2, h3⟩ := h
  have he := h2.1
  refine h1.setAt k hi (by omega) hx.one hT fun w' o' g => hK w' ⟨us.set k x, o'.vw, ?_⟩ (grown_pres g fun b hb hlt => by have := (h1.lt hb).1; omega) fun n0 Ts hT => h1.keepsG g hT
  refine ⟨by simp [he], fun j u y hu hy => ?_⟩
  rw [List.getElem?_set] at hu hy
  by_cases hjk : k = j
  · subst hjk
    rw [if_pos rfl, if_pos (by omega)] at hu
    rw [if_pos rfl, if_pos hk] at hy
    injection hu with hu
    injection hy with hy
    subst hu hy
    exact (hx.mono hC).grown h1 (by decide) g
  · rw [if_neg hjk] at hu hy
    exact (h2.2 j u y hu hy).vw.grown h1 (by decide) g
/-- a row put at the end of a slice of rows behind a draw -/
theorem OwnR.pushD {B C b : Nat} {w3 w4 w5 : World} {v u r : Value} {zss : List (List Int)} {z : List Int} (h : OwnR B w3 v zss) (hu : Own w3.heap.size w4 2 u (ints z)) (p4 : Pres (fun k => k ≠ b) w3 w4) (hb : b < B) (hr : Own C w5 36 r [u]) (e5 : Ext w4 w5) (hB : B ≤ w3.heap.size) (hl : zss.length < 4398046511104) {K : Value → World → Prop}
    (hK : ∀ v' w6, OwnR B w6 v' (zss ++ [z]) → Pres (fun k => k < B) w5 w6 → w5.heap.size ≤ w6.heap.size → K v' w6) : AppV w5 36 v r K := by
  obtain ⟨us, h1, h2, h3⟩ := h
  have h1' := (h1.dr p4 hb).ext e5
  have hu' := hu.ext e5
  have h5 := Nat.le_trans p4.size e5.size
  refine h1'.app1 hr hu.rd.one (by rw [h2.1]; exact hl) (Nat.le_trans hB h5) fun v' w6 o6 g6 _ => hK v' w6 ⟨us ++ [u], o6, ?_, ?_⟩ (grown_pres g6 fun k hk hlt => by have := (h1'.lt hk).1; omega) g6.size
  · refine (h2.map fun x zx hx => ((((hx.dr p4 hb).ext e5)).grown g6 (Apart.types ((hx.dr p4 hb).ext e5) h1' (by decide)))).snoc ?_
    exact (hu'.mono hB).grown g6 (Apart.types hu' h1' (by decide))
  · rw [List.pairwise_append]
    refine ⟨h3, by simp, fun x hx y hy => ?_⟩
    simp only [List.mem_singleton] at hy
    subst hy
    obtain ⟨i, hi, rfl⟩ := List.getElem_of_mem hx
    have hik : i < zss.length := by rw [← h2.1]; exact hi
    exact Apart.new (h2.get hik) hu
def spec_l04Valid_A (p : Addr) (m_Chambers : Int) (m_Depths : Int) (m_Step : Int) (m_Same : Int) (m_Least : Int) (w : World) : Nat → Ann := fun κ => match κ with
  | 0 => { σ := Nat × Value × List (List Int), sli := [6, 5], slc := fun s => [SV.v (Value.int .i64 (s.1 : Int)), SV.v s.2.1], bxi := [], bxc := fun s => [], inv := fun s W => True, μ := fun s W => 0, free := true }
  | _ => { σ := Unit, sli := [], slc := fun _ => [], bxi := [], bxc := fun _ => [], inv := fun _ _ => False, μ := fun _ _ => 0 }
abbrev spec_l04Valid_k0 (p : Addr) (m_Chambers : Int) (m_Depths : Int) (m_Step : Int) (m_Same : Int) (m_Least : Int) (w : World) (s9 : Nat × Value × List (List Int)) (w10 : World) (J11 : (Nat × Value × List (List Int)) → World → Prop) (m12 : (Nat × Value × List (List Int)) → World → Nat) (x13 : Value) (x14 : Int) (w16 : World) : Prop :=
  Calls Try.prog 131 #[(Value.pointer (some p)), (Value.agg #[(Value.int .i64 m_Chambers), (Value.int .i64 m_Depths), (Value.int .i64 m_Step), (Value.int .i64 m_Same), (Value.int .i64 m_Least)])] w16 (fun e17 w18 => ∃ u19 : Value, e17 = .returned u19 ∧ Keeps w.heap.size [25, 28] w16 w18 ∧ oneC u19 (∀ (v20 : Value) (w21 : World), Own w18.heap.size w21 36 v20 [u19] → Ext w18 w21 → AppV w21 36 x13 v20 (fun v22 w23 => I64 (x14 - 1) ∧ ∃ s24 : (Nat × Value × List (List Int)), (Value.int .i64 (x14 - 1)) = (Value.int .i64 (s24.1 : Int)) ∧ v22 = s24.2.1 ∧ (J11 s24 w23) ∧ (m12 s24 w23) < (m12 s9 w10))))
abbrev spec_l04Valid_k1 (w : World) (Post : Value → World → Prop) (x31 : Value) (x38 : Int) (x39 : Int) (x40 : Int) (x41 : Int) (x42 : Int) (w43 : World) : Prop :=
  Calls Try.prog 125 #[(Value.agg #[(Value.int .i64 x38), (Value.int .i64 x39), (Value.int .i64 x40), (Value.int .i64 x41), (Value.int .i64 x42)]), x31] w43 (fun e44 w45 => ∃ u46 : Value, e44 = .returned (Value.agg #[u46]) ∧ Keeps w.heap.size [25, 28] w43 w45 ∧ oneC u46 (∀ w47 : World, BxS w.heap.size 28 w45 w47 → Post (Value.agg #[u46]) w47))
def spec_l04Valid_vc (p : Addr) (m_Chambers : Int) (m_Depths : Int) (m_Step : Int) (m_Same : Int) (m_Least : Int) (w : World) (Post : Value → World → Prop) : Prop :=
  ∀ w1 : World, Ext w w1 → ∀ w2 : World, Ext w1 w2 → ∀ (v3 : Value) (w4 : World), Own w2.heap.size w4 36 v3 [] → Ext w2 w4 → Calls Try.prog 74 #[(Value.pointer (some p)), (Value.int .i64 3)] w4 (fun e5 w6 => ∃ n7 : Int, e5 = .returned (Value.int .i64 n7) ∧ Keeps w.heap.size [25, 28] w4 w6 ∧ I64 (1 + n7) ∧ (∃ (J11 : (Nat × Value × List (List Int)) → World → Prop) (m12 : (Nat × Value × List (List Int)) → World → Nat), ((∃ s8 : (Nat × Value × List (List Int)), (Value.int .i64 (1 + n7)) = (Value.int .i64 (s8.1 : Int)) ∧ v3 = s8.2.1 ∧ (J11 s8 w6)) ∧ ∀ (s9 : (Nat × Value × List (List Int))) (w10 : World), (J11 s9 w10) → ((((0 : Int) < (s9.1 : Int)) → (spec_l04Valid_k0 p m_Chambers m_Depths m_Step m_Same m_Least w s9 w10 J11 m12 s9.2.1 (s9.1 : Int) w10)) ∧ (¬ ((0 : Int) < (s9.1 : Int)) → (spec_l04Valid_k1 w Post s9.2.1 m_Chambers m_Depths m_Step m_Same m_Least w10))))))
theorem spec_l04Valid_eq (p : Addr) (m_Chambers : Int) (m_Depths : Int) (m_Step : Int) (m_Same : Int) (m_Least : Int) (w : World) (Post : Value → World → Prop) : denF Try.prog [9400000, 9700000, 9800000] (spec_l04Valid_A p m_Chambers m_Depths m_Step m_Same m_Least w) 73 [(Value.pointer (some p)), (Value.agg #[(Value.int .i64 m_Chambers), (Value.int .i64 m_Depths), (Value.int .i64 m_Step), (Value.int .i64 m_Same), (Value.int .i64 m_Least)])] w Post = spec_l04Valid_vc p m_Chambers m_Depths m_Step m_Same m_Least w Post := by kernel_rfl
set_option maxRecDepth 100000 in
theorem spec_l04Valid_calls (p : Addr) (m_Chambers : Int) (m_Depths : Int) (m_Step : Int) (m_Same : Int) (m_Least : Int) (w : World) (Post : Value → World → Prop) (hvc : spec_l04Valid_vc p m_Chambers m_Depths m_Step m_Same m_Least w Post) : Ret Try.prog 73 #[(Value.pointer (some p)), (Value.agg #[(Value.int .i64 m_Chambers), (Value.int .i64 m_Depths), (Value.int .i64 m_Step), (Value.int .i64 m_Same), (Value.int .i64 m_Least)])] w Post :=
  Ret.of (denF_sound mixed (Eq.mpr (spec_l04Valid_eq p m_Chambers m_Depths m_Step m_Same m_Least w Post) hvc))

theorem spec_l04Valid_ret (wb : World) (b : Nat) (cv : Value) (zs : List Int) (w : World) (hs : Src wb b cv zs w) (M : Mk) (hM : M.Ok) : Ret Try.prog 73 #[.pointer (some ⟨b, 0, none⟩), M.v] w fun r w' => ∃ u zss, r = lkV u ∧ (zss.length : Int) = M.c ∧ OwnR w.heap.size w' u zss ∧ Src wb b cv zs w' ∧ Pres (fun k => k ≠ b) w w' :=
  spec_l04Valid_calls ⟨b, 0, none⟩ M.c M.d M.s M.m M.l w _ (by
    unfold spec_l04Valid_vc
    have hM' := hM
    obtain ⟨hm1, hm2, hm3, hm4, hm5⟩ := hM'
    have hb := hs.lt
    intro w1 h1 w2 h2 v3 w4 o4 h4
    have d4 := ((hs.dr.ext h1).ext h2).ext h4
    refine d4.next 3 (by simp) fun n w6 n0 n1 d6 p6 => ⟨by unfold I64; omega, ?_⟩
    refine ⟨fun s W => s.1 ≤ 3 ∧ s.2.2.length + s.1 ≤ 3 ∧ (∀ z ∈ s.2.2, IsK M z) ∧ Dr wb b cv zs w W ∧ OwnR w.heap.size W s.2.1 s.2.2, fun s _ => s.1, ⟨((1 + n).toNat, v3, []), ieq (by simp only; omega), rfl, by simp only; omega, by simp only [List.length_nil]; omega, by simp, d6, ?_⟩, ?_⟩
    · exact (OwnR.new (o4.mono (h1.trans h2).size) (Nat.le_refl _)).dr p6 hb
    rintro ⟨k, u, zss⟩ w10 ⟨hk3, hl, hK, d10, o10⟩
    simp only at hk3 hl hK o10
    refine ⟨fun hk => ?_, fun hk => ?_⟩
    · simp only at hk
      refine (spec_l02Some_ret wb b cv zs w10 d10.1 M hM).call ?_
      rintro r w18 ⟨xs, hx, o18, s18, p18⟩
      have d18 := d10.step s18 p18
      refine ⟨r, rfl, d10.1.keeps p18 (by simp), o18.rd.oneC fun q w21 o21 h21 => ?_⟩
      refine o10.pushD o18 p18 hb o21 h21 d10.size (by omega) fun v' w23 o23 p23 z23 => ⟨by unfold I64; omega, (k - 1, v', zss ++ [xs]), ieq (by simp only; omega), rfl, ⟨by simp only; omega, by simp only [List.length_append, List.length_singleton]; omega, ?_, (d18.ext h21).low p23 (Nat.le_refl _), o23⟩, by simp only; omega⟩
      intro z hz
      rcases List.mem_append.1 hz with hz | hz
      · exact hK z hz
      · have : z = xs := by simpa using hz
        rw [this]; exact hx
    · simp only at hk
      refine (spec_l04Hull_ret M (by omega) (by omega) u zss w10 o10.rr (by omega) (fun z hz => by have := (hK z hz).1; omega)).call ?_
      rintro _ w45 ⟨x, rfl, o45, h45⟩
      have d45 := d10.ext h45
      refine ⟨x, rfl, h45.keeps, o45.rr.oneC fun w47 b47 => ⟨x, _, rfl, ?_, (o45.mono d10.size).bxs b47 (by decide) (by decide), (d45.bxs b47).1, (d45.bxs b47).2.1⟩⟩
      rw [hullL_length]
      omega)
section
variable {wb w : World} {b lo : Nat} {v : Value} {zs : List Int}
/-- 'l04Valid(s, m)' -/
theorem Dq.valid (h : Dq wb b v zs lo w) {M : Mk} (hM : M.Ok) {n0 : Nat} {Ts : List TypeId} (hT : 118 ∉ Ts) {G : Value → World → Prop}
    (hg : ∀ (u : Value) (zss : List (List Int)) (w' : World), (zss.length : Int) = M.c → OwnR lo w' u zss → Dq wb b v zs lo w' → Pres (fun k => k ≠ b) w w' → G u w') :
    Calls Try.prog 73 #[.pointer (some ⟨b, 0, none⟩), mkV M.c M.d M.s M.m M.l] w fun e w' => ∃ u, e = .returned (.agg #[u]) ∧ Keeps n0 Ts w w' ∧ G u w' :=
  (spec_l04Valid_ret wb b v zs w h.1 M hM).call (by
    rintro _ w' ⟨u, zss, rfl, hl, o, s, p⟩
    exact ⟨u, rfl, h.1.keeps p hT, hg u zss w' hl (o.mono h.2.2) (h.step s p) p⟩)
end
abbrev spec_l04Draw_k0 (w : World) (Post : Value → World → Prop) (x139 : Int) (x140 : Int) (x141 : Int) (x142 : Int) (x143 : Int) (x144 : Value) (w156 : World) : Prop :=
  ∀ w157 : World, BxS w.heap.size 25 w156 w157 → oneC x144 (∀ w158 : World, BxS w.heap.size 28 w157 w158 → Post (Value.tuple #[(Value.agg #[(Value.int .i64 x139), (Value.int .i64 x140), (Value.int .i64 x141), (Value.int .i64 x142), (Value.int .i64 x143)]), (Value.agg #[x144])]) w158)
abbrev spec_l04Draw_k1 (w : World) (Post : Value → World → Prop) (x195 : Int) (x196 : Int) (x197 : Int) (x198 : Int) (x199 : Int) (x205 : Value) (w206 : World) : Prop :=
  oneC x205 (∀ w207 : World, BxS w.heap.size 28 w206 w207 → Post (Value.tuple #[(Value.agg #[(Value.int .i64 x195), (Value.int .i64 x196), (Value.int .i64 x197), (Value.int .i64 x198), (Value.int .i64 x199)]), (Value.agg #[x205])]) w207)
abbrev spec_l04Draw_k2 (w : World) (Post : Value → World → Prop) (x101 : Int) (x102 : Int) (x103 : Int) (x104 : Int) (x105 : Int) (x106 : Value) (w107 : World) : Prop :=
  ∀ w108 : World, Ext w107 w108 → ((spec_l04Draw_k0 w Post x101 x102 x103 x104 x105 x106 w108) ∧ (∀ w159 : World, BxS w.heap.size 25 w108 w159 → (spec_l04Draw_k1 w Post x101 x102 x103 x104 x105 x106 w159)))
abbrev spec_l04Draw_k3 (w : World) (Post : Value → World → Prop) (x238 : Int) (x239 : Int) (x240 : Int) (x241 : Int) (x242 : Int) (x243 : Value) (w255 : World) : Prop :=
  SlV 1 x243 (some 1) none none (fun u256 => oneC u256 (∀ w257 : World, BxS w.heap.size 25 w255 w257 → oneC u256 (∀ w258 : World, BxS w.heap.size 28 w257 w258 → Post (Value.tuple #[(Value.agg #[(Value.int .i64 x238), (Value.int .i64 x239), (Value.int .i64 x240), (Value.int .i64 x241), (Value.int .i64 x242)]), (Value.agg #[u256])]) w258)))
abbrev spec_l04Draw_k4 (w : World) (Post : Value → World → Prop) (x288 : Int) (x289 : Int) (x290 : Int) (x291 : Int) (x292 : Int) (x298 : Value) (w299 : World) : Prop :=
  SlV 1 x298 (some 1) none none (fun u300 => oneC u300 (oneC u300 (∀ w301 : World, BxS w.heap.size 28 w299 w301 → Post (Value.tuple #[(Value.agg #[(Value.int .i64 x288), (Value.int .i64 x289), (Value.int .i64 x290), (Value.int .i64 x291), (Value.int .i64 x292)]), (Value.agg #[u300])]) w301)))
abbrev spec_l04Draw_k5 (w : World) (Post : Value → World → Prop) (x23 : Addr) (x42 : Int) (x43 : Int) (x44 : Int) (x45 : Int) (x46 : Int) (w47 : World) : Prop :=
  Calls Try.prog 73 #[(Value.pointer (some x23)), (Value.agg #[(Value.int .i64 x42), (Value.int .i64 x43), (Value.int .i64 x44), (Value.int .i64 x45), (Value.int .i64 x46)])] w47 (fun e48 w49 => ∃ u50 : Value, e48 = .returned (Value.agg #[u50]) ∧ Keeps w.heap.size [25, 28, 25] w47 w49 ∧ ∀ w51 : World, Ext w49 w51 → oneC u50 (∀ w52 : World, BxS w.heap.size 28 w51 w52 → Calls Try.prog 74 #[(Value.pointer (some x23)), (Value.int .i64 24)] w52 (fun e53 w54 => ∃ n55 : Int, e53 = .returned (Value.int .i64 n55) ∧ Keeps w.heap.size [25, 28, 25, 28] w52 w54 ∧ (((n55 = (0 : Int)) → ∀ w56 : World, Ext w54 w56 → ∀ (v57 : Value) (w58 : World), Own w56.heap.size w58 2 v57 [(Value.int .i64 0), (Value.int .i64 (-1)), (Value.int .i64 x43)] → Ext w56 w58 → Calls Try.prog 118 #[(Value.pointer (some x23)), v57] w58 (fun e59 w60 => ∃ n61 : Int, e59 = .returned (Value.int .i64 n61) ∧ Keeps w.heap.size [25, 28, 25, 28] w58 w60 ∧ Keeps w.heap.size [28] w56 w60 ∧ ∀ (v62 : Value) (w63 : World), Own w60.heap.size w63 2 v62 [(Value.int .i64 n61)] → Ext w60 w63 → IxV 1 u50 0 (fun ad64 => StV w.heap.size [25, 28, 25, 28] w63 (Value.pointer (some ad64)) v62 (fun w65 => (spec_l04Draw_k2 w Post x42 x43 x44 x45 x46 u50 w65))))) ∧ (¬ (n55 = (0 : Int)) → (((n55 = (1 : Int)) → ∀ (v208 : Value) (w209 : World), Own w54.heap.size w209 2 v208 [(Value.int .i64 1), (Value.int .i64 0)] → Ext w54 w209 → IxV 1 u50 0 (fun ad210 => StV w.heap.size [25, 28, 25, 28] w209 (Value.pointer (some ad210)) v208 (fun w211 => (spec_l04Draw_k2 w Post x42 x43 x44 x45 x46 u50 w211)))) ∧ (¬ (n55 = (1 : Int)) → (((n55 = (2 : Int)) → IxV 1 u50 1 (fun ad212 => StV w.heap.size [25, 28, 25, 28] w54 (Value.pointer (some ad212)) (Value.slice none 0 0) (fun w213 => (spec_l04Draw_k2 w Post x42 x43 x44 x45 x46 u50 w213)))) ∧ (¬ (n55 = (2 : Int)) → (((n55 = (3 : Int)) → ∀ w214 : World, Ext w54 w214 → ((spec_l04Draw_k3 w Post x42 x43 x44 x45 x46 u50 w214) ∧ (∀ w259 : World, BxS w.heap.size 25 w214 w259 → (spec_l04Draw_k4 w Post x42 x43 x44 x45 x46 u50 w259)))) ∧ (¬ (n55 = (3 : Int)) → (spec_l04Draw_k2 w Post x42 x43 x44 x45 x46 u50 w54))))))))))))
def spec_l04Draw_vc (p : Addr) (w : World) (Post : Value → World → Prop) : Prop :=
  ∀ w1 : World, Ext w w1 → ∀ w2 : World, Ext w1 w2 → Calls Try.prog 83 #[(Value.pointer (some p))] w2 (fun e3 w4 => ∃ n5 : Int, ∃ n6 : Int, ∃ n7 : Int, ∃ n8 : Int, ∃ n9 : Int, e3 = .returned (Value.agg #[(Value.int .i64 n5), (Value.int .i64 n6), (Value.int .i64 n7), (Value.int .i64 n8), (Value.int .i64 n9)]) ∧ Keeps w.heap.size [25, 28] w2 w4 ∧ ∀ w10 : World, Ext w4 w10 → ∀ w11 : World, BxS w.heap.size 25 w10 w11 → Calls Try.prog 72 #[(Value.agg #[(Value.int .i64 n5), (Value.int .i64 n6), (Value.int .i64 n7), (Value.int .i64 n8), (Value.int .i64 n9)])] w11 (fun e12 w13 => ∃ b14 : Bool, e12 = .returned (Value.bool b14) ∧ Keeps w.heap.size [25, 28, 25] w11 w13 ∧ (((!b14) = true → ∀ (v15 : Value) (w16 : World), Own w13.heap.size w16 2 v15 [(Value.int .i64 0)] → Ext w13 w16 → ∀ (v17 : Value) (w18 : World), Own w16.heap.size w18 2 v17 [(Value.int .i64 0)] → Ext w16 w18 → oneC v15 (oneC v17 (∀ (v19 : Value) (w20 : World), Own w18.heap.size w20 36 v19 [v15, v17] → Ext w18 w20 → oneC v19 (∀ w21 : World, BxS w.heap.size 25 w20 w21 → oneC v19 (∀ w22 : World, BxS w.heap.size 28 w21 w22 → Post (Value.tuple #[(Value.agg #[(Value.int .i64 n5), (Value.int .i64 n6), (Value.int .i64 n7), (Value.int .i64 n8), (Value.int .i64 n9)]), (Value.agg #[v19])]) w22))))) ∧ ((!b14) = false → (spec_l04Draw_k5 w Post p n5 n6 n7 n8 n9 w13)))))
theorem spec_l04Draw_eq (p : Addr) (w : World) (Post : Value → World → Prop) : denF Try.prog [9400000, 9700000, 9800000] noAnn 71 [(Value.pointer (some p))] w Post = spec_l04Draw_vc p w Post := by kernel_rfl
set_option maxRecDepth 100000 in
theorem spec_l04Draw_calls (p : Addr) (w : World) (Post : Value → World → Prop) (hvc : spec_l04Draw_vc p w Post) : Ret Try.prog 71 #[(Value.pointer (some p))] w Post :=
  Ret.of (denF_sound mixed (Eq.mpr (spec_l04Draw_eq p w Post) hvc))

theorem spec_l04Draw_ret (wb : World) (b : Nat) (cv : Value) (zs : List Int) (w : World) (hs : Src wb b cv zs w) : Ret Try.prog 71 #[.pointer (some ⟨b, 0, none⟩)] w fun r w' => ∃ (M : Mk) (u : Value) (zss : List (List Int)), r = .tuple #[M.v, lkV u] ∧ Sm M ∧ VwR w.heap.size w' u zss ∧ Src wb b cv zs w' ∧ Pres (fun k => k ≠ b) w w' :=
  spec_l04Draw_calls ⟨b, 0, none⟩ w _ (by
    unfold spec_l04Draw_vc
    have hb := hs.lt
    have hw : wb.heap.size ≤ w.heap.size := hs.1.size
    intro w1 h1 w2 h2
    have d2 := (hs.dr.ext h1).ext h2
    refine (spec_l02Draw_ret wb b cv zs w2 d2.1).call ?_
    rintro _ w4 ⟨M, rfl, hM, s4, p4⟩
    have d4 := d2.step s4 p4
    refine ⟨M.c, M.d, M.s, M.m, M.l, rfl, d2.1.keeps p4 (by decide), fun w10 h10 w11 b11 => ?_⟩
    have d11 := (d4.ext h10).bxs b11
    -- the ends
    have fin : ∀ (u : Value) (zss : List (List Int)) (W : World), VwR w.heap.size W u zss → Dr wb b cv zs w W → ∃ (M' : Mk) (u' : Value) (zss : List (List Int)), Value.tuple #[.agg #[.int .i64 M.c, .int .i64 M.d, .int .i64 M.s, .int .i64 M.m, .int .i64 M.l], .agg #[u]] = .tuple #[M'.v, lkV u'] ∧ Sm M' ∧ VwR w.heap.size W u' zss ∧ Src wb b cv zs W ∧ Pres (fun k => k ≠ b) w W :=
      fun u zss W hv hd => ⟨M, u, zss, rfl, hM, hv, hd.1, hd.2.1⟩
    have k2 : ∀ (u : Value) (zss : List (List Int)) (W : World), VwR w.heap.size W u zss → Dr wb b cv zs w W → spec_l04Draw_k2 w (fun r w' => ∃ (M : Mk) (u : Value) (zss : List (List Int)), r = .tuple #[M.v, lkV u] ∧ Sm M ∧ VwR w.heap.size w' u zss ∧ Src wb b cv zs w' ∧ Pres (fun k => k ≠ b) w w') M.c M.d M.s M.m M.l u W := by
      intro u zss W hv hd W1 e1
      have v1 := hv.ext e1
      have c1 := hd.ext e1
      refine ⟨fun W2 b2 => v1.rr.oneC fun W3 b3 => fin u zss W3 ((v1.bxs b2 (by decide) (by decide)).bxs b3 (by decide) (by decide)) ((c1.bxs b2).bxs b3), fun W2 b2 => v1.rr.oneC fun W3 b3 => fin u zss W3 ((v1.bxs b2 (by decide) (by decide)).bxs b3 (by decide) (by decide)) ((c1.bxs b2).bxs b3)⟩
    refine (spec_IsMaker_val M.c M.d M.s M.m M.l w11).call fun w13 h13 => ⟨_, rfl, h13.keeps, fun hno v15 w16 o16 h16 v17 w18 o18 h18 => ?_, fun hyes => ?_⟩
    · have d13 := d11.ext h13
      have d18 := (d13.ext h16).ext h18
      refine o16.rd.oneC (o18.rd.oneC fun v19 w20 o20 h20 => ?_)
      have hv : VwR w.heap.size w20 v19 [[0], [0]] := by
        refine ⟨[v15, v17], (o20.mono d18.size).vw, rfl, fun i u z hu hz => ?_⟩
        match i, hu, hz with
        | 0, hu, hz =>
          simp at hu hz
          subst hu hz
          exact (((o16.ext h18).ext h20).mono d13.size).vw
        | 1, hu, hz =>
          simp at hu hz
          subst hu hz
          exact ((o18.ext h20).mono (d13.ext h16).size).vw
      have d20 := d18.ext h20
      refine hv.rr.oneC fun W2 b2 => hv.rr.oneC fun W3 b3 => fin v19 _ W3 ((hv.bxs b2 (by decide) (by decide)).bxs b3 (by decide) (by decide)) ((d20.bxs b2).bxs b3)
    have hok : MkOk M.c M.d M.s M.m M.l := nd_f hyes
    have hc : 2 ≤ M.c := hok.1.1
    have d13 := d11.ext h13
    refine (spec_l04Valid_ret wb b cv zs w13 d13.1 M hok).call ?_
    rintro _ w49 ⟨u, zss, rfl, hl, o49, s49, p49⟩
    have d49 := d13.step s49 p49
    refine ⟨u, rfl, d13.1.keeps p49 (by decide), fun w51 h51 => (o49.ext h51).rr.oneC fun w52 b52 => ?_⟩
    have d52 := (d49.ext h51).bxs b52
    have o52 := ((o49.ext h51).mono d13.size).bxs b52 (by decide) (by decide)
    refine d52.next 24 (by simp) fun n w54 n0 n1 d54 p54 => ?_
    have o54 := o52.dr p54 hb
    refine ⟨fun _ w56 h56 v57 w58 o58 h58 => ?_, fun _ => ⟨fun _ v57 w58 o58 h58 => ?_, fun _ => ⟨fun _ => ?_, fun _ => ⟨fun _ W1 e1 => ?_, fun _ => k2 u zss w54 o54.vw d54⟩⟩⟩⟩
    · have d58 := (d54.ext h56).ext h58
      refine d58.pick [0, -1, M.d] o58 (d54.ext h56).size (by simp) (by simp) fun y w60 hy d60 p60 => ⟨(d54.ext h56).1.keeps ((h58.pres _).trans p60) (by simp), fun v62 w63 o63 h63 => ?_⟩
      have o63' := (((o54.ext h56).ext h58).dr p60 hb).ext h63
      refine o63'.put (z := [y]) 0 rfl (by omega) (o63.vw) d60.size (by simp) fun w65 v65 p65 _ => k2 u _ w65 v65 ((d60.ext h63).low p65 (Nat.le_refl _))
    · refine (o54.ext h58).put (z := [1, 0]) 0 rfl (by omega) o58.vw d54.size (by simp) fun w65 v65 p65 _ => k2 u _ w65 v65 ((d54.ext h58).low p65 (Nat.le_refl _))
    · exact o54.put (z := []) 1 rfl (by omega) (Own.nil_ w.heap.size w54 2).vw (Nat.le_refl _) (by simp) fun w65 v65 p65 _ => k2 u _ w65 v65 (d54.low p65 (Nat.le_refl _))
    · have v1 := (o54.ext e1).vw
      have c1 := d54.ext e1
      refine ⟨v1.sl 1 zss.length rfl rfl (by omega) (Nat.le_refl _) fun q hq => hq.rr.oneC fun W2 b2 => hq.rr.oneC fun W3 b3 => fin q _ W3 ((hq.bxs b2 (by decide) (by decide)).bxs b3 (by decide) (by decide)) ((c1.bxs b2).bxs b3), fun W2 b2 => ?_⟩
      have v2 := v1.bxs b2 (by decide) (by decide)
      refine v2.sl 1 zss.length rfl rfl (by omega) (Nat.le_refl _) fun q hq => hq.rr.oneC (hq.rr.oneC fun W3 b3 => fin q _ W3 (hq.bxs b3 (by decide) (by decide)) ((c1.bxs b2).bxs b3)))
section
variable {wb w : World} {b lo : Nat} {v : Value} {zs : List Int}
/-- 'l04Draw(s)' -/
theorem Dq.lock (h : Dq wb b v zs lo w) {n0 : Nat} {Ts : List TypeId} (hT : 118 ∉ Ts) {G : Int → Int → Int → Int → Int → Value → World → Prop}
    (hg : ∀ (M : Mk) (u : Value) (zss : List (List Int)) (w' : World), Sm M → VwR lo w' u zss → Dq wb b v zs lo w' → Pres (fun k => k ≠ b) w w' → G M.c M.d M.s M.m M.l u w') :
    Calls Try.prog 71 #[.pointer (some ⟨b, 0, none⟩)] w fun e w' => ∃ c d s m l : Int, ∃ u : Value, e = .returned (.tuple #[mkV c d s m l, .agg #[u]]) ∧ Keeps n0 Ts w w' ∧ G c d s m l u w' :=
  (spec_l04Draw_ret wb b v zs w h.1).call (by
    rintro _ w' ⟨M, u, zss, rfl, hM, hv, s, p⟩
    exact ⟨M.c, M.d, M.s, M.m, M.l, u, rfl, h.1.keeps p hT, hg M u zss w' hM (hv.mono h.2.2) (h.step s p) p⟩)
end
/-- what a draw of a maker and a lock gives -/
def DrML (f : FuncId) (args : Array Value) (w : World) : Prop := Ret Try.prog f args w fun r w' => ∃ (M : Mk) (u : Value) (zss : List (List Int)), r = .tuple #[M.v, lkV u] ∧ VwR w.heap.size w' u zss ∧ Ext w w'
/-- of a maker, a lock and a number -/
def DrMLI (f : FuncId) (args : Array Value) (w : World) : Prop := Ret Try.prog f args w fun r w' => ∃ (M : Mk) (u : Value) (zss : List (List Int)) (n : Int), r = .tuple #[M.v, lkV u, .int .i64 n] ∧ I64 n ∧ VwR w.heap.size w' u zss ∧ Ext w w'
def spec_DrawIsLock_vc (v : Value) (w : World) (Post : Value → World → Prop) : Prop :=
  ∀ w1 : World, Ext w w1 → ∀ w2 : World, Ext w1 w2 → Calls Try.prog 70 #[v] w2 (fun e3 w4 => ∃ p5 : Addr, e3 = .returned (Value.pointer (some p5)) ∧ Keeps w.heap.size [25, 28] w2 w4 ∧ Calls Try.prog 71 #[(Value.pointer (some p5))] w4 (fun e6 w7 => ∃ n8 : Int, ∃ n9 : Int, ∃ n10 : Int, ∃ n11 : Int, ∃ n12 : Int, ∃ u13 : Value, e6 = .returned (Value.tuple #[(Value.agg #[(Value.int .i64 n8), (Value.int .i64 n9), (Value.int .i64 n10), (Value.int .i64 n11), (Value.int .i64 n12)]), (Value.agg #[u13])]) ∧ Keeps w.heap.size [25, 28] w4 w7 ∧ ∀ w14 : World, BxS w.heap.size 25 w7 w14 → oneC u13 (∀ w15 : World, BxS w.heap.size 28 w14 w15 → Post (Value.tuple #[(Value.agg #[(Value.int .i64 n8), (Value.int .i64 n9), (Value.int .i64 n10), (Value.int .i64 n11), (Value.int .i64 n12)]), (Value.agg #[u13])]) w15)))
theorem spec_DrawIsLock_eq (v : Value) (w : World) (Post : Value → World → Prop) : denF Try.prog [9400000, 9700000, 9800000] noAnn 67 [v] w Post = spec_DrawIsLock_vc v w Post := by kernel_rfl
set_option maxRecDepth 100000 in
theorem spec_DrawIsLock_calls (v : Value) (w : World) (Post : Value → World → Prop) (hvc : spec_DrawIsLock_vc v w Post) : Ret Try.prog 67 #[v] w Post :=
  Ret.of (denF_sound mixed (Eq.mpr (spec_DrawIsLock_eq v w Post) hvc))

theorem spec_DrawIsLock_ret (cv : Value) (zs : List Int) (w : World) (h : RB w cv zs) : DrML 67 #[cv] w :=
  spec_DrawIsLock_calls cv w _ (by
    unfold spec_DrawIsLock_vc
    intro w1 h1 w2 h2
    refine from_q h (h1.trans h2) fun b w4 d4 => ?_
    refine d4.lock (by decide) fun M u zss w7 hM hv d7 p7 => fun w14 b14 => hv.rr.oneC fun w15 b15 => ?_
    exact ⟨M, u, zss, rfl, ((hv.bxs b14 (by decide) (by decide)).bxs b15 (by decide) (by decide)).mono d4.base.size, (d7.base.bxs b14).bxs b15⟩)
abbrev spec_DrawOpenersOf_k0 (w : World) (Post : Value → World → Prop) (w18 : World) (x43 : Int) (x44 : Int) (x45 : Int) (x46 : Int) (x47 : Int) (x48 : Value) (x49 : Addr) (w61 : World) : Prop :=
  ∀ (v62 : Value) (w63 : World), Own w61.heap.size w63 2 v62 [(Value.int .i64 0), (Value.int .i64 1), (Value.int .i64 2), (Value.int .i64 10), (Value.int .i64 300), (Value.int .i64 301), (Value.int .i64 (-1))] → Ext w61 w63 → Calls Try.prog 118 #[(Value.pointer (some x49)), v62] w63 (fun e64 w65 => ∃ n66 : Int, e64 = .returned (Value.int .i64 n66) ∧ Keeps w.heap.size [25, 28, 25, 28] w63 w65 ∧ Keeps w.heap.size [25] w18 w65 ∧ ∀ w67 : World, BxS w.heap.size 25 w65 w67 → oneC x48 (∀ w68 : World, BxS w.heap.size 28 w67 w68 → Post (Value.tuple #[(Value.agg #[(Value.int .i64 x43), (Value.int .i64 x44), (Value.int .i64 x45), (Value.int .i64 x46), (Value.int .i64 x47)]), (Value.agg #[x48]), (Value.int .i64 n66)]) w68))
abbrev spec_DrawOpenersOf_k1 (w : World) (Post : Value → World → Prop) (w18 : World) (x138 : Int) (x139 : Int) (x140 : Int) (x141 : Int) (x142 : Int) (x143 : Value) (x144 : Addr) (x145 : Value) (w157 : World) : Prop :=
  Calls Try.prog 118 #[(Value.pointer (some x144)), x145] w157 (fun e158 w159 => ∃ n160 : Int, e158 = .returned (Value.int .i64 n160) ∧ Keeps w.heap.size [25, 28, 25, 28] w157 w159 ∧ Keeps w.heap.size [25] w18 w159 ∧ ∀ w161 : World, BxS w.heap.size 25 w159 w161 → oneC x143 (∀ w162 : World, BxS w.heap.size 28 w161 w162 → Post (Value.tuple #[(Value.agg #[(Value.int .i64 x138), (Value.int .i64 x139), (Value.int .i64 x140), (Value.int .i64 x141), (Value.int .i64 x142)]), (Value.agg #[x143]), (Value.int .i64 n160)]) w162))
abbrev spec_DrawOpenersOf_k2 (w : World) (Post : Value → World → Prop) (x234 : Int) (x235 : Int) (x236 : Int) (x237 : Int) (x238 : Int) (x239 : Value) (x242 : Int) (w254 : World) : Prop :=
  ∀ w255 : World, BxS w.heap.size 25 w254 w255 → oneC x239 (∀ w256 : World, BxS w.heap.size 28 w255 w256 → Post (Value.tuple #[(Value.agg #[(Value.int .i64 x234), (Value.int .i64 x235), (Value.int .i64 x236), (Value.int .i64 x237), (Value.int .i64 x238)]), (Value.agg #[x239]), (Value.int .i64 x242)]) w256)
abbrev spec_DrawOpenersOf_k3 (w : World) (Post : Value → World → Prop) (x289 : Int) (x290 : Int) (x291 : Int) (x292 : Int) (x293 : Int) (x294 : Int) (x300 : Value) (w301 : World) : Prop :=
  oneC x300 (∀ w302 : World, BxS w.heap.size 28 w301 w302 → Post (Value.tuple #[(Value.agg #[(Value.int .i64 x290), (Value.int .i64 x291), (Value.int .i64 x292), (Value.int .i64 x293), (Value.int .i64 x294)]), (Value.agg #[x300]), (Value.int .i64 x289)]) w302)
abbrev spec_DrawOpenersOf_k4 (w : World) (Post : Value → World → Prop) (x190 : Int) (x191 : Int) (x192 : Int) (x193 : Int) (x194 : Int) (x197 : Int) (x208 : Value) (w209 : World) : Prop :=
  ((spec_DrawOpenersOf_k2 w Post x190 x191 x192 x193 x194 x208 x197 w209) ∧ (∀ w257 : World, BxS w.heap.size 25 w209 w257 → (spec_DrawOpenersOf_k3 w Post x197 x190 x191 x192 x193 x194 x208 w257)))
abbrev spec_DrawOpenersOf_k5 (w : World) (Post : Value → World → Prop) (w18 : World) (x95 : Int) (x96 : Int) (x97 : Int) (x98 : Int) (x99 : Int) (x100 : Addr) (x101 : Value) (x112 : Value) (w113 : World) : Prop :=
  ((spec_DrawOpenersOf_k1 w Post w18 x95 x96 x97 x98 x99 x112 x100 x101 w113) ∧ (Calls Try.prog 118 #[(Value.pointer (some x100)), x101] w113 (fun e163 w164 => ∃ n165 : Int, e163 = .returned (Value.int .i64 n165) ∧ Keeps w.heap.size [25, 28, 25, 28] w113 w164 ∧ Keeps w.heap.size [25] w18 w164 ∧ (spec_DrawOpenersOf_k4 w Post x95 x96 x97 x98 x99 n165 x112 w164))))
def spec_DrawOpenersOf_vc (v : Value) (w : World) (Post : Value → World → Prop) : Prop :=
  ∀ w1 : World, Ext w w1 → ∀ w2 : World, Ext w1 w2 → Calls Try.prog 70 #[v] w2 (fun e3 w4 => ∃ p5 : Addr, e3 = .returned (Value.pointer (some p5)) ∧ Keeps w.heap.size [25, 28] w2 w4 ∧ Calls Try.prog 71 #[(Value.pointer (some p5))] w4 (fun e6 w7 => ∃ n8 : Int, ∃ n9 : Int, ∃ n10 : Int, ∃ n11 : Int, ∃ n12 : Int, ∃ u13 : Value, e6 = .returned (Value.tuple #[(Value.agg #[(Value.int .i64 n8), (Value.int .i64 n9), (Value.int .i64 n10), (Value.int .i64 n11), (Value.int .i64 n12)]), (Value.agg #[u13])]) ∧ Keeps w.heap.size [25, 28] w4 w7 ∧ ∀ w14 : World, Ext w7 w14 → ∀ w15 : World, Ext w14 w15 → ∀ w16 : World, BxS w.heap.size 25 w15 w16 → oneC u13 (∀ w17 : World, BxS w.heap.size 28 w16 w17 → ∀ w18 : World, Ext w17 w18 → ((spec_DrawOpenersOf_k0 w Post w18 n8 n9 n10 n11 n12 u13 p5 w18) ∧ (∀ (v69 : Value) (w70 : World), Own w18.heap.size w70 2 v69 [(Value.int .i64 0), (Value.int .i64 1), (Value.int .i64 2), (Value.int .i64 10), (Value.int .i64 300), (Value.int .i64 301), (Value.int .i64 (-1))] → Ext w18 w70 → (spec_DrawOpenersOf_k5 w Post w18 n8 n9 n10 n11 n12 p5 v69 u13 w70))))))
theorem spec_DrawOpenersOf_eq (v : Value) (w : World) (Post : Value → World → Prop) : denF Try.prog [9400000, 9700000, 9800000] noAnn 46 [v] w Post = spec_DrawOpenersOf_vc v w Post := by kernel_rfl
set_option maxRecDepth 100000 in
theorem spec_DrawOpenersOf_calls (v : Value) (w : World) (Post : Value → World → Prop) (hvc : spec_DrawOpenersOf_vc v w Post) : Ret Try.prog 46 #[v] w Post :=
  Ret.of (denF_sound mixed (Eq.mpr (spec_DrawOpenersOf_eq v w Post) hvc))

theorem spec_DrawOpenersOf_ret (cv : Value) (zs : List Int) (w : World) (h : RB w cv zs) : DrMLI 46 #[cv] w :=
  spec_DrawOpenersOf_calls cv w _ (by
    unfold spec_DrawOpenersOf_vc
    intro w1 h1 w2 h2
    refine from_q h (h1.trans h2) fun b w4 d4 => ?_
    have hb := d4.2.1
    refine d4.lock (by decide) fun M u zss w7 hM hv d7 p7 => fun w14 h14 w15 h15 w16 b16 => hv.rr.oneC fun w17 b17 w18 h18 => ?_
    have d18 := ((((d7.ext h14).ext h15).bxs (Nat.le_refl _) b16 (by decide)).bxs (Nat.le_refl _) b17 (by decide)).ext h18
    have v18 := ((((hv.ext h14).ext h15).bxs b16 (by decide) (by decide)).bxs b17 (by decide) (by decide)).ext h18
    have fin : ∀ (n : Int) (W : World), n ∈ [0, 1, 2, 10, 300, 301, -1] → VwR w4.heap.size W u zss → Dq w b cv zs w4.heap.size W → ∃ (M' : Mk) (u' : Value) (zss : List (List Int)) (n' : Int), Value.tuple #[.agg #[.int .i64 M.c, .int .i64 M.d, .int .i64 M.s, .int .i64 M.m, .int .i64 M.l], .agg #[u], .int .i64 n] = .tuple #[M'.v, lkV u', .int .i64 n'] ∧ I64 n' ∧ VwR w.heap.size W u' zss ∧ Ext w W := by
      intro n W hn hv hd
      have : n = 0 ∨ n = 1 ∨ n = 2 ∨ n = 10 ∨ n = 300 ∨ n = 301 ∨ n = -1 := by simpa using hn
      exact ⟨M, u, zss, n, rfl, by unfold I64; omega, hv.mono d4.base.size, hd.base⟩
    refine ⟨fun v62 w63 o63 h63 => ?_, fun v69 w70 o70 h70 => ⟨?_, ?_⟩⟩
    · refine (d18.ext h63).pick [0, 1, 2, 10, 300, 301, -1] o63 d18.2.2 (by simp) (by simp) fun n w65 hn d65 p65 _ => ⟨d18.kp ((h63.pres _).trans p65) (by simp), fun w67 b67 => ?_⟩
      have v65 := (v18.ext h63).dr p65 hb
      exact v65.rr.oneC fun w68 b68 => fin n w68 hn ((v65.bxs b67 (by decide) (by decide)).bxs b68 (by decide) (by decide)) ((d65.bxs (Nat.le_refl _) b67 (by decide)).bxs (Nat.le_refl _) b68 (by decide))
    · refine (d18.ext h70).pick [0, 1, 2, 10, 300, 301, -1] o70 d18.2.2 (by simp) (by simp) fun n w65 hn d65 p65 _ => ⟨d18.kp ((h70.pres _).trans p65) (by simp), fun w67 b67 => ?_⟩
      have v65 := (v18.ext h70).dr p65 hb
      exact v65.rr.oneC fun w68 b68 => fin n w68 hn ((v65.bxs b67 (by decide) (by decide)).bxs b68 (by decide) (by decide)) ((d65.bxs (Nat.le_refl _) b67 (by decide)).bxs (Nat.le_refl _) b68 (by decide))
    · refine (d18.ext h70).pick [0, 1, 2, 10, 300, 301, -1] o70 d18.2.2 (by simp) (by simp) fun n w65 hn d65 p65 _ => ⟨d18.kp ((h70.pres _).trans p65) (by simp), ?_⟩
      have v65 := (v18.ext h70).dr p65 hb
      refine ⟨fun w67 b67 => v65.rr.oneC fun w68 b68 => fin n w68 hn ((v65.bxs b67 (by decide) (by decide)).bxs b68 (by decide) (by decide)) ((d65.bxs (Nat.le_refl _) b67 (by decide)).bxs (Nat.le_refl _) b68 (by decide)), fun w67 b67 => v65.rr.oneC fun w68 b68 => fin n w68 hn ((v65.bxs b67 (by decide) (by decide)).bxs b68 (by decide) (by decide)) ((d65.bxs (Nat.le_refl _) b67 (by decide)).bxs (Nat.le_refl _) b68 (by decide))⟩)
end Go.Proofs
