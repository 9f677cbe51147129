/- Draws of slices of keys and of locks, and of a lock with a least number: their contracts. No condition. -/
import Derived.Test.YtccekkkiaebnmaaDraw7
import Derived.Test.YtccekkkiaebnmaaL05e
set_option linter.unusedVariables false
namespace Go.Sx
open Go Go.RowKit
/-- a slice of the call's own whose elements read so -/
def OwnP {α : Type} (P : World → Value → α → Prop) (B : Nat) (w : World) (e : TypeId) (v : Value) (xs : List α) : Prop :=
  ∃ us, Own B w e v us ∧ us.length = xs.length ∧ ∀ (i : Nat) (u : Value) (x : α), us[i]? = some u → xs[i]? = some x → P w u x
section
variable {α : Type} {P : World → Value → α → Prop} {B C : Nat} {w w' : World} {e : TypeId} {u v r : Value} {xs : List α} {x : α}
theorem OwnP.nil_ (h : Own B w e v []) : OwnP P B w e v [] := ⟨[], h, rfl, fun i u x h => by simp at h⟩
theorem OwnP.keep (h : OwnP P B w e v xs) (ho : ∀ us, Own B w e v us → Own B w' e v us) (hp : ∀ u x, P w u x → P w' u x) : OwnP P B w' e v xs :=
  let ⟨us, h1, h2, h3⟩ := h
  ⟨us, ho us h1, h2, fun i u x hu hx => hp u x (h3 i u x hu hx)⟩
theorem OwnP.len (h : OwnP P B w e v xs) {K : Int → Prop} (hK : K (xs.length : Int)) : LenV v K := let ⟨us, h1, h2, _⟩ := h; h1.rd.len (by rw [h2]; exact hK)
theorem OwnP.push (h : OwnP P B w e v xs) (hu : P w u x) (hr : Own C w e r [u]) (h1 : u.oneCell' = true) (hl : xs.length < 4398046511104) (hB : B ≤ w.heap.size) (hp : ∀ us w', Own B w e v us → w.grownBy w' v.ownBlock → ∀ u x, P w u x → P w' u x) {K : Value → World → Prop}
    (hK : ∀ us v' w', Own B w e v us → w.grownBy w' v.ownBlock → OwnP P B w' e v' (xs ++ [x]) → Pres (fun k => k < B) w w' → K v' w') : AppV w e v r K := by
  obtain ⟨us, o, h2, h3⟩ := h
  refine o.app1 hr h1 (by omega) hB fun v' w' o' g _ => hK us v' w' o g ⟨us ++ [u], o', by simp [h2], fun i u' x' hu' hx' => ?_⟩ (grown_pres g fun k hk hlt => by have := (o.lt hk).1; omega)
  rcases Nat.lt_or_ge i us.length with hl | hl
  · rw [List.getElem?_append_left hl] at hu'
    rw [List.getElem?_append_left (by omega)] at hx'
    exact hp us w' o g u' x' (h3 i u' x' hu' hx')
  · rw [List.getElem?_append_right hl] at hu'
    rw [List.getElem?_append_right (by omega), ← h2] at hx'
    match hi : i - us.length, hu', hx' with
    | 0, hu', hx' =>
      simp at hu' hx'
      subst hu' hx'
      exact hp us w' o g _ _ hu
end
end Go.Sx
namespace Go.Proofs
open Go.Sx Go.RowKit
/-- a slice of locks: the slice's own block from B on, the locks' blocks from C on -/
def OwnL (C B : Nat) (w : World) (v : Value) (lss : List (List (List Int))) : Prop := OwnP (fun w u z => VwR C w u z) B w 28 v lss
/-- a slice of lists, the same one perhaps many times -/
def OwnT (B : Nat) (w : World) (v : Value) (zss : List (List Int)) : Prop := OwnP (fun w u z => Vw B w 2 u (ints z)) B w 36 v zss
section
variable {B : Nat} {w w' : World} {v : Value}
theorem OwnL.rls {lss : List (List (List Int))} {C : Nat} (h : OwnL C B w v lss) : RLs w v lss := let ⟨us, h1, h2, h3⟩ := h; ⟨us, h1.rd, h2, fun i u z hu hz => (h3 i u z hu hz).rr⟩
theorem OwnL.ext {lss : List (List (List Int))} {C : Nat} (h : OwnL C B w v lss) (e : Ext w w') : OwnL C B w' v lss := OwnP.keep h (fun us o => o.ext e) fun u x hx => hx.ext e
theorem OwnL.dr {lss : List (List (List Int))} {C : Nat} (h : OwnL C B w v lss) {b : Nat} (p : Pres (fun k => k ≠ b) w w') (hb : b < B) (hc : b < C) : OwnL C B w' v lss := OwnP.keep h (fun us o => o.dr p hb) fun u x hx => hx.dr p hc
theorem OwnL.bxs {lss : List (List (List Int))} {C : Nat} (h : OwnL C B w v lss) {n0 : Nat} {T : TypeId} (x : BxS n0 T w w') (h1 : 28 ≠ T) (hT : 36 ≠ T) (hT' : 2 ≠ T) : OwnL C B w' v lss := OwnP.keep h (fun us o => o.bxs x h1) fun u y hy => hy.bxs x hT hT'
theorem OwnL.mono {lss : List (List (List Int))} {C : Nat} (h : OwnL C B w v lss) {C' B' : Nat} (hC : C' ≤ C) (hB : B' ≤ B) : OwnL C' B' w v lss := let ⟨us, h1, h2, h3⟩ := h; ⟨us, h1.mono hB, h2, fun i u z hu hz => (h3 i u z hu hz).mono hC⟩
theorem OwnT.vw {zss : List (List Int)} (h : OwnT B w v zss) : VwR B w v zss := let ⟨us, h1, h2, h3⟩ := h; ⟨us, h1.vw, h2, h3⟩
theorem OwnT.ext {zss : List (List Int)} (h : OwnT B w v zss) (e : Ext w w') : OwnT B w' v zss := OwnP.keep h (fun us o => o.ext e) fun u x hx => hx.ext e
theorem OwnT.dr {zss : List (List Int)} (h : OwnT B w v zss) {b : Nat} (p : Pres (fun k => k ≠ b) w w') (hb : b < B) : OwnT B w' v zss := OwnP.keep h (fun us o => o.dr p hb) fun u x hx => hx.dr p hb
theorem OwnT.bxs {zss : List (List Int)} (h : OwnT B w v zss) {n0 : Nat} {T : TypeId} (x : BxS n0 T w w') (hT : 36 ≠ T) (hT' : 2 ≠ T) : OwnT B w' v zss := OwnP.keep h (fun us o => o.bxs x hT) fun u y hy => hy.bxs x hT'
theorem VwR.grown {zss : List (List Int)} (h : VwR B w v zss) {B' : Nat} {e' : TypeId} {u : Value} {ys : List Value} (o : Own B' w e' u ys) (h1 : 36 ≠ e') (h2 : 2 ≠ e') (g : w.grownBy w' u.ownBlock) : VwR B w' v zss :=
  let ⟨us, g1, g2⟩ := h
  ⟨us, g1.grown o h1 g, g2.map fun u z hr => hr.grown o h2 g⟩
end
theorem Dq.low {wb w w' : World} {b lo : Nat} {v : Value} {zs : List Int} (h : Dq wb b v zs lo w) (p : Pres (fun k => k < lo) w w') : Dq wb b v zs lo w' := by
  obtain ⟨⟨h1, h2, h3, a, s, hc, r⟩, hb, hl⟩ := h
  exact ⟨⟨p.ext h1 fun k hk => by omega, h2, h3, a, s, (p.block _ (heap_lt hc) hb).trans hc, r⟩, hb, Nat.le_trans hl p.size⟩
abbrev spec_DrawThinChambers_k0 (w : World) (Post : Value → World → Prop) (w18 : World) (x43 : Int) (x44 : Int) (x45 : Int) (x46 : Int) (x47 : Int) (x48 : Value) (x49 : Addr) (x50 : Int) (x52 : Int) (w64 : World) : Prop :=
  ∀ (v65 : Value) (w66 : World), Own w64.heap.size w66 2 v65 [(Value.int .i64 1), (Value.int .i64 2), (Value.int .i64 2), (Value.int .i64 3), (Value.int .i64 x50), (Value.int .i64 x52), (Value.int .i64 0)] → Ext w64 w66 → Calls Try.prog 118 #[(Value.pointer (some x49)), v65] w66 (fun e67 w68 => ∃ n69 : Int, e67 = .returned (Value.int .i64 n69) ∧ Keeps w.heap.size [25, 28, 25, 28] w66 w68 ∧ Keeps w.heap.size [25] w18 w68 ∧ Keeps w.heap.size [25] w18 w68 ∧ Keeps w.heap.size [25] w18 w68 ∧ ∀ w70 : World, BxS w.heap.size 25 w68 w70 → oneC x48 (∀ w71 : World, BxS w.heap.size 28 w70 w71 → Post (Value.tuple #[(Value.agg #[(Value.int .i64 x43), (Value.int .i64 x44), (Value.int .i64 x45), (Value.int .i64 x46), (Value.int .i64 x47)]), (Value.agg #[x48]), (Value.int .i64 n69)]) w71))
abbrev spec_DrawThinChambers_k1 (w : World) (Post : Value → World → Prop) (w18 : World) (x144 : Int) (x145 : Int) (x146 : Int) (x147 : Int) (x148 : Int) (x149 : Value) (x150 : Addr) (x154 : Value) (w166 : World) : Prop :=
  Calls Try.prog 118 #[(Value.pointer (some x150)), x154] w166 (fun e167 w168 => ∃ n169 : Int, e167 = .returned (Value.int .i64 n169) ∧ Keeps w.heap.size [25, 28, 25, 28] w166 w168 ∧ Keeps w.heap.size [25] w18 w168 ∧ Keeps w.heap.size [25] w18 w168 ∧ Keeps w.heap.size [25] w18 w168 ∧ ∀ w170 : World, BxS w.heap.size 25 w168 w170 → oneC x149 (∀ w171 : World, BxS w.heap.size 28 w170 w171 → Post (Value.tuple #[(Value.agg #[(Value.int .i64 x144), (Value.int .i64 x145), (Value.int .i64 x146), (Value.int .i64 x147), (Value.int .i64 x148)]), (Value.agg #[x149]), (Value.int .i64 n169)]) w171))
abbrev spec_DrawThinChambers_k2 (w : World) (Post : Value → World → Prop) (x246 : Int) (x247 : Int) (x248 : Int) (x249 : Int) (x250 : Int) (x251 : Value) (x257 : Int) (w269 : World) : Prop :=
  ∀ w270 : World, BxS w.heap.size 25 w269 w270 → oneC x251 (∀ w271 : World, BxS w.heap.size 28 w270 w271 → Post (Value.tuple #[(Value.agg #[(Value.int .i64 x246), (Value.int .i64 x247), (Value.int .i64 x248), (Value.int .i64 x249), (Value.int .i64 x250)]), (Value.agg #[x251]), (Value.int .i64 x257)]) w271)
abbrev spec_DrawThinChambers_k3 (w : World) (Post : Value → World → Prop) (x307 : Int) (x308 : Int) (x309 : Int) (x310 : Int) (x311 : Int) (x312 : Int) (x318 : Value) (w319 : World) : Prop :=
  oneC x318 (∀ w320 : World, BxS w.heap.size 28 w319 w320 → Post (Value.tuple #[(Value.agg #[(Value.int .i64 x308), (Value.int .i64 x309), (Value.int .i64 x310), (Value.int .i64 x311), (Value.int .i64 x312)]), (Value.agg #[x318]), (Value.int .i64 x307)]) w320)
abbrev spec_DrawThinChambers_k4 (w : World) (Post : Value → World → Prop) (x199 : Int) (x200 : Int) (x201 : Int) (x202 : Int) (x203 : Int) (x209 : Int) (x220 : Value) (w221 : World) : Prop :=
  ((spec_DrawThinChambers_k2 w Post x199 x200 x201 x202 x203 x220 x209 w221) ∧ (∀ w272 : World, BxS w.heap.size 25 w221 w272 → (spec_DrawThinChambers_k3 w Post x209 x199 x200 x201 x202 x203 x220 w272)))
abbrev spec_DrawThinChambers_k5 (w : World) (Post : Value → World → Prop) (w18 : World) (x98 : Int) (x99 : Int) (x100 : Int) (x101 : Int) (x102 : Int) (x103 : Addr) (x107 : Value) (x118 : Value) (w119 : World) : Prop :=
  ((spec_DrawThinChambers_k1 w Post w18 x98 x99 x100 x101 x102 x118 x103 x107 w119) ∧ (Calls Try.prog 118 #[(Value.pointer (some x103)), x107] w119 (fun e172 w173 => ∃ n174 : Int, e172 = .returned (Value.int .i64 n174) ∧ Keeps w.heap.size [25, 28, 25, 28] w119 w173 ∧ Keeps w.heap.size [25] w18 w173 ∧ Keeps w.heap.size [25] w18 w173 ∧ Keeps w.heap.size [25] w18 w173 ∧ (spec_DrawThinChambers_k4 w Post x98 x99 x100 x101 x102 n174 x118 w173))))
def spec_DrawThinChambers_vc (v : Value) (w : World) (Post : Value → World → Prop) : Prop :=
  ∀ w1 : World, Ext w w1 → ∀ w2 : World, Ext w1 w2 → Calls Try.prog 70 #[v] w2 (fun e3 w4 => ∃ p5 : Addr, e3 = .returned (Value.pointer (some p5)) ∧ Keeps w.heap.size [25, 28] w2 w4 ∧ Calls Try.prog 71 #[(Value.pointer (some p5))] w4 (fun e6 w7 => ∃ n8 : Int, ∃ n9 : Int, ∃ n10 : Int, ∃ n11 : Int, ∃ n12 : Int, ∃ u13 : Value, e6 = .returned (Value.tuple #[(Value.agg #[(Value.int .i64 n8), (Value.int .i64 n9), (Value.int .i64 n10), (Value.int .i64 n11), (Value.int .i64 n12)]), (Value.agg #[u13])]) ∧ Keeps w.heap.size [25, 28] w4 w7 ∧ ∀ w14 : World, Ext w7 w14 → ∀ w15 : World, Ext w14 w15 → ∀ w16 : World, BxS w.heap.size 25 w15 w16 → oneC u13 (∀ w17 : World, BxS w.heap.size 28 w16 w17 → ∀ w18 : World, Ext w17 w18 → I64 (n9 + 1) ∧ ((spec_DrawThinChambers_k0 w Post w18 n8 n9 n10 n11 n12 u13 p5 n9 (n9 + 1) w18) ∧ (∀ (v72 : Value) (w73 : World), Own w18.heap.size w73 2 v72 [(Value.int .i64 1), (Value.int .i64 2), (Value.int .i64 2), (Value.int .i64 3), (Value.int .i64 n9), (Value.int .i64 (n9 + 1)), (Value.int .i64 0)] → Ext w18 w73 → (spec_DrawThinChambers_k5 w Post w18 n8 n9 n10 n11 n12 p5 v72 u13 w73))))))
theorem spec_DrawThinChambers_eq (v : Value) (w : World) (Post : Value → World → Prop) : denF Try.prog [9400000, 9700000, 9800000] noAnn 98 [v] w Post = spec_DrawThinChambers_vc v w Post := by kernel_rfl
set_option maxRecDepth 100000 in
theorem spec_DrawThinChambers_calls (v : Value) (w : World) (Post : Value → World → Prop) (hvc : spec_DrawThinChambers_vc v w Post) : Ret Try.prog 98 #[v] w Post :=
  Ret.of (denF_sound mixed (Eq.mpr (spec_DrawThinChambers_eq v w Post) hvc))

theorem spec_DrawThinChambers_ret (cv : Value) (zs : List Int) (w : World) (h : RB w cv zs) : DrMLI 98 #[cv] w :=
  spec_DrawThinChambers_calls cv w _ (by
    unfold spec_DrawThinChambers_vc
    intro w1 h1 w2 h2
    refine from_q h (h1.trans h2) fun b w4 d4 => ?_
    have hb := d4.2.1
    refine d4.lock (by decide) fun M u zss w7 hM hv d7 p7 => fun w14 h14 w15 h15 w16 b16 => hv.rr.oneC fun w17 b17 w18 h18 => ?_
    have d18 := ((((d7.ext h14).ext h15).bxs (Nat.le_refl _) b16 (by decide)).bxs (Nat.le_refl _) b17 (by decide)).ext h18
    have v18 := ((((hv.ext h14).ext h15).bxs b16 (by decide) (by decide)).bxs b17 (by decide) (by decide)).ext h18
    have hd := hM.2.1
    have fin : ∀ (n : Int) (W : World), n ∈ [1, 2, 2, 3, M.d, M.d + 1, 0] → VwR w4.heap.size W u zss → Dq w b cv zs w4.heap.size W → ∃ (M' : Mk) (u' : Value) (zss : List (List Int)) (n' : Int), Value.tuple #[.agg #[.int .i64 M.c, .int .i64 M.d, .int .i64 M.s, .int .i64 M.m, .int .i64 M.l], .agg #[u], .int .i64 n] = .tuple #[M'.v, lkV u', .int .i64 n'] ∧ I64 n' ∧ VwR w.heap.size W u' zss ∧ Ext w W := by
      intro n W hn hv hd
      have : n = 1 ∨ n = 2 ∨ n = 3 ∨ n = M.d ∨ n = M.d + 1 ∨ n = 0 := by simpa using hn
      exact ⟨M, u, zss, n, rfl, by unfold I64; omega, hv.mono d4.base.size, hd.base⟩
    refine ⟨by unfold I64; omega, fun v62 w63 o63 h63 => ?_, fun v69 w70 o70 h70 => ⟨?_, ?_⟩⟩
    · refine (d18.ext h63).pick [1, 2, 2, 3, M.d, M.d + 1, 0] o63 d18.2.2 (by simp) (by simp) fun n w65 hn d65 p65 _ => ?_
      have kp := d18.kp ((h63.pres _).trans p65) (n0 := w.heap.size) (Ts := [25]) (by simp)
      have v65 := (v18.ext h63).dr p65 hb
      exact ⟨kp, kp, kp, fun w67 b67 => v65.rr.oneC fun w68 b68 => fin n w68 hn ((v65.bxs b67 (by decide) (by decide)).bxs b68 (by decide) (by decide)) ((d65.bxs (Nat.le_refl _) b67 (by decide)).bxs (Nat.le_refl _) b68 (by decide))⟩
    · refine (d18.ext h70).pick [1, 2, 2, 3, M.d, M.d + 1, 0] o70 d18.2.2 (by simp) (by simp) fun n w65 hn d65 p65 _ => ?_
      have kp := d18.kp ((h70.pres _).trans p65) (n0 := w.heap.size) (Ts := [25]) (by simp)
      have v65 := (v18.ext h70).dr p65 hb
      exact ⟨kp, kp, kp, fun w67 b67 => v65.rr.oneC fun w68 b68 => fin n w68 hn ((v65.bxs b67 (by decide) (by decide)).bxs b68 (by decide) (by decide)) ((d65.bxs (Nat.le_refl _) b67 (by decide)).bxs (Nat.le_refl _) b68 (by decide))⟩
    · refine (d18.ext h70).pick [1, 2, 2, 3, M.d, M.d + 1, 0] o70 d18.2.2 (by simp) (by simp) fun n w65 hn d65 p65 _ => ?_
      have kp := d18.kp ((h70.pres _).trans p65) (n0 := w.heap.size) (Ts := [25]) (by simp)
      have v65 := (v18.ext h70).dr p65 hb
      exact ⟨kp, kp, kp, fun w67 b67 => v65.rr.oneC fun w68 b68 => fin n w68 hn ((v65.bxs b67 (by decide) (by decide)).bxs b68 (by decide) (by decide)) ((d65.bxs (Nat.le_refl _) b67 (by decide)).bxs (Nat.le_refl _) b68 (by decide)), fun w67 b67 => v65.rr.oneC fun w68 b68 => fin n w68 hn ((v65.bxs b67 (by decide) (by decide)).bxs b68 (by decide) (by decide)) ((d65.bxs (Nat.le_refl _) b67 (by decide)).bxs (Nat.le_refl _) b68 (by decide))⟩)
def spec_DrawThickenLock_vc (v : Value) (w : World) (Post : Value → World → Prop) : Prop :=
  ∀ w1 : World, Ext w w1 → ∀ w2 : World, Ext w1 w2 → Calls Try.prog 98 #[v] w2 (fun e3 w4 => ∃ n5 : Int, ∃ n6 : Int, ∃ n7 : Int, ∃ n8 : Int, ∃ n9 : Int, ∃ u10 : Value, ∃ n11 : Int, e3 = .returned (Value.tuple #[(Value.agg #[(Value.int .i64 n5), (Value.int .i64 n6), (Value.int .i64 n7), (Value.int .i64 n8), (Value.int .i64 n9)]), (Value.agg #[u10]), (Value.int .i64 n11)]) ∧ Keeps w.heap.size [25, 28] w2 w4 ∧ ∀ w12 : World, BxS w.heap.size 25 w4 w12 → oneC u10 (∀ w13 : World, BxS w.heap.size 28 w12 w13 → Post (Value.tuple #[(Value.agg #[(Value.int .i64 n5), (Value.int .i64 n6), (Value.int .i64 n7), (Value.int .i64 n8), (Value.int .i64 n9)]), (Value.agg #[u10]), (Value.int .i64 n11)]) w13))
theorem spec_DrawThickenLock_eq (v : Value) (w : World) (Post : Value → World → Prop) : denF Try.prog [9400000, 9700000, 9800000] noAnn 26 [v] w Post = spec_DrawThickenLock_vc v w Post := by kernel_rfl
set_option maxRecDepth 100000 in
theorem spec_DrawThickenLock_calls (v : Value) (w : World) (Post : Value → World → Prop) (hvc : spec_DrawThickenLock_vc v w Post) : Ret Try.prog 26 #[v] w Post :=
  Ret.of (denF_sound mixed (Eq.mpr (spec_DrawThickenLock_eq v w Post) hvc))

theorem spec_DrawThickenLock_ret (cv : Value) (zs : List Int) (w : World) (h : RB w cv zs) : DrMLI 26 #[cv] w :=
  spec_DrawThickenLock_calls cv w _ (by
    unfold spec_DrawThickenLock_vc
    intro w1 h1 w2 h2
    have k2 := h1.trans h2
    refine (spec_DrawThinChambers_ret cv zs w2 (h.ext k2)).call ?_
    rintro _ w4 ⟨M, u, zss, n, rfl, hn, v4, h4⟩
    exact ⟨M.c, M.d, M.s, M.m, M.l, u, n, rfl, h4.keeps, fun w12 b12 => v4.rr.oneC fun w13 b13 => ⟨M, u, zss, n, rfl, hn, ((v4.mono k2.size).bxs b12 (by decide) (by decide)).bxs b13 (by decide) (by decide), ((k2.trans h4).bxs b12).bxs b13⟩⟩)
def spec_DrawHullOf_A (v : Value) (w : World) : Nat → Ann := fun κ => match κ with
  | 0 => { σ := Nat × Value × List (List Int), sli := [7, 6], slc := fun s => [SV.v (Value.int .i64 (s.1 : Int)), SV.v s.2.1], bxi := [], bxc := fun s => [], inv := fun s W => True, μ := fun s W => 0, free := true }
  | 1 => { σ := Value × List (List Int), sli := [6], slc := fun s => [SV.v s.1], bxi := [], bxc := fun s => [], inv := fun s W => True, μ := fun s W => 0, free := true }
  | _ => { σ := Unit, sli := [], slc := fun _ => [], bxi := [], bxc := fun _ => [], inv := fun _ _ => False, μ := fun _ _ => 0 }
abbrev spec_DrawHullOf_k0 (w : World) (p4 : Addr) (n7 : Int) (n8 : Int) (n9 : Int) (n10 : Int) (n11 : Int) (s20 : Nat × Value × List (List Int)) (w21 : World) (J22 : (Nat × Value × List (List Int)) → World → Prop) (m23 : (Nat × Value × List (List Int)) → World → Nat) (x24 : Value) (x25 : Int) (w27 : World) : Prop :=
  Calls Try.prog 84 #[(Value.pointer (some p4)), (Value.agg #[(Value.int .i64 n7), (Value.int .i64 n8), (Value.int .i64 n9), (Value.int .i64 n10), (Value.int .i64 n11)])] w27 (fun e28 w29 => ∃ u30 : Value, e28 = .returned u30 ∧ Keeps w.heap.size [25, 25] w27 w29 ∧ oneC u30 (∀ (v31 : Value) (w32 : World), Own w29.heap.size w32 36 v31 [u30] → Ext w29 w32 → AppV w32 36 x24 v31 (fun v33 w34 => I64 (x25 - 1) ∧ ∃ s35 : (Nat × Value × List (List Int)), (Value.int .i64 (x25 - 1)) = (Value.int .i64 (s35.1 : Int)) ∧ v33 = s35.2.1 ∧ (J22 s35 w34) ∧ (m23 s35 w34) < (m23 s20 w21))))
abbrev spec_DrawHullOf_k1 (u107 : Value) (s109 : Value × List (List Int)) (w110 : World) (J111 : (Value × List (List Int)) → World → Prop) (m112 : (Value × List (List Int)) → World → Nat) (x117 : Value) (w123 : World) : Prop :=
  oneC u107 (∀ (v124 : Value) (w125 : World), Own w123.heap.size w125 36 v124 [u107] → Ext w123 w125 → AppV w125 36 x117 v124 (fun v126 w127 => ∃ s128 : (Value × List (List Int)), v126 = s128.1 ∧ (J111 s128 w127) ∧ (m112 s128 w127) < (m112 s109 w110)))
abbrev spec_DrawHullOf_k2 (w : World) (Post : Value → World → Prop) (x131 : Value) (x172 : Int) (x173 : Int) (x174 : Int) (x175 : Int) (x176 : Int) (w177 : World) : Prop :=
  ∀ w178 : World, BxS w.heap.size 25 w177 w178 → Post (Value.tuple #[(Value.agg #[(Value.int .i64 x172), (Value.int .i64 x173), (Value.int .i64 x174), (Value.int .i64 x175), (Value.int .i64 x176)]), x131]) w178
abbrev spec_DrawHullOf_k3 (w : World) (Post : Value → World → Prop) (x70 : Addr) (x71 : Value) (x93 : Bool) (x99 : Int) (x100 : Int) (x101 : Int) (x102 : Int) (x103 : Int) (w104 : World) : Prop :=
  ((x93 = true → Calls Try.prog 131 #[(Value.pointer (some x70)), (Value.agg #[(Value.int .i64 x99), (Value.int .i64 x100), (Value.int .i64 x101), (Value.int .i64 x102), (Value.int .i64 x103)])] w104 (fun e105 w106 => ∃ u107 : Value, e105 = .returned u107 ∧ Keeps w.heap.size [25, 25] w104 w106 ∧ (∃ (J111 : (Value × List (List Int)) → World → Prop) (m112 : (Value × List (List Int)) → World → Nat), ((∃ s108 : (Value × List (List Int)), x71 = s108.1 ∧ (J111 s108 w106)) ∧ ∀ (s109 : (Value × List (List Int))) (w110 : World), (J111 s109 w110) → LenV s109.1 (fun n113 => Calls Try.prog 74 #[(Value.pointer (some x70)), (Value.int .i64 2)] w110 (fun e114 w115 => ∃ n116 : Int, e114 = .returned (Value.int .i64 n116) ∧ Keeps w.heap.size [25, 25] w110 w115 ∧ I64 (300 + n116) ∧ (((n113 < (300 + n116)) → (spec_DrawHullOf_k1 u107 s109 w110 J111 m112 s109.1 w115)) ∧ (¬ (n113 < (300 + n116)) → (spec_DrawHullOf_k2 w Post s109.1 x99 x100 x101 x102 x103 w115))))))))) ∧ (x93 = false → (spec_DrawHullOf_k2 w Post x71 x99 x100 x101 x102 x103 w104)))
abbrev spec_DrawHullOf_k4 (w : World) (Post : Value → World → Prop) (x37 : Addr) (x38 : Value) (x57 : Int) (x58 : Int) (x59 : Int) (x60 : Int) (x61 : Int) (w62 : World) : Prop :=
  Calls Try.prog 74 #[(Value.pointer (some x37)), (Value.int .i64 60)] w62 (fun e63 w64 => ∃ n65 : Int, e63 = .returned (Value.int .i64 n65) ∧ Keeps w.heap.size [25, 25] w62 w64 ∧ (((n65 = (0 : Int)) → Calls Try.prog 72 #[(Value.agg #[(Value.int .i64 x57), (Value.int .i64 x58), (Value.int .i64 x59), (Value.int .i64 x60), (Value.int .i64 x61)])] w64 (fun e66 w67 => ∃ b68 : Bool, e66 = .returned (Value.bool b68) ∧ Keeps w.heap.size [25, 25] w64 w67 ∧ (spec_DrawHullOf_k3 w Post x37 x38 b68 x57 x58 x59 x60 x61 w67))) ∧ (¬ (n65 = (0 : Int)) → (spec_DrawHullOf_k2 w Post x38 x57 x58 x59 x60 x61 w64))))
def spec_DrawHullOf_vc (v : Value) (w : World) (Post : Value → World → Prop) : Prop :=
  ∀ w1 : World, Ext w w1 → Calls Try.prog 70 #[v] w1 (fun e2 w3 => ∃ p4 : Addr, e2 = .returned (Value.pointer (some p4)) ∧ Keeps w.heap.size [25] w1 w3 ∧ Calls Try.prog 83 #[(Value.pointer (some p4))] w3 (fun e5 w6 => ∃ n7 : Int, ∃ n8 : Int, ∃ n9 : Int, ∃ n10 : Int, ∃ n11 : Int, e5 = .returned (Value.agg #[(Value.int .i64 n7), (Value.int .i64 n8), (Value.int .i64 n9), (Value.int .i64 n10), (Value.int .i64 n11)]) ∧ Keeps w.heap.size [25] w3 w6 ∧ ∀ w12 : World, Ext w6 w12 → ∀ w13 : World, BxS w.heap.size 25 w12 w13 → ∀ (v14 : Value) (w15 : World), Own w13.heap.size w15 36 v14 [] → Ext w13 w15 → Calls Try.prog 74 #[(Value.pointer (some p4)), (Value.int .i64 5)] w15 (fun e16 w17 => ∃ n18 : Int, e16 = .returned (Value.int .i64 n18) ∧ Keeps w.heap.size [25, 25] w15 w17 ∧ (∃ (J22 : (Nat × Value × List (List Int)) → World → Prop) (m23 : (Nat × Value × List (List Int)) → World → Nat), ((∃ s19 : (Nat × Value × List (List Int)), (Value.int .i64 n18) = (Value.int .i64 (s19.1 : Int)) ∧ v14 = s19.2.1 ∧ (J22 s19 w17)) ∧ ∀ (s20 : (Nat × Value × List (List Int))) (w21 : World), (J22 s20 w21) → ((((0 : Int) < (s20.1 : Int)) → (spec_DrawHullOf_k0 w p4 n7 n8 n9 n10 n11 s20 w21 J22 m23 s20.2.1 (s20.1 : Int) w21)) ∧ (¬ ((0 : Int) < (s20.1 : Int)) → (spec_DrawHullOf_k4 w Post p4 s20.2.1 n7 n8 n9 n10 n11 w21))))))))
theorem spec_DrawHullOf_eq (v : Value) (w : World) (Post : Value → World → Prop) : denF Try.prog [9400000, 9700000, 9800000] (spec_DrawHullOf_A v w) 66 [v] w Post = spec_DrawHullOf_vc v w Post := by kernel_rfl
set_option maxRecDepth 100000 in
theorem spec_DrawHullOf_calls (v : Value) (w : World) (Post : Value → World → Prop) (hvc : spec_DrawHullOf_vc v w Post) : Ret Try.prog 66 #[v] w Post :=
  Ret.of (denF_sound mixed (Eq.mpr (spec_DrawHullOf_eq v w Post) hvc))

theorem spec_DrawHullOf_ret (cv : Value) (zs : List Int) (w : World) (h : RB w cv zs) : Ret Try.prog 66 #[cv] w fun r w' => ∃ (M : Mk) (u : Value) (zss : List (List Int)), r = .tuple #[M.v, u] ∧ zss.length ≤ 1000 ∧ VwR w.heap.size w' u zss ∧ Ext w w' :=
  spec_DrawHullOf_calls cv w _ (by
    unfold spec_DrawHullOf_vc
    intro w1 h1
    refine from_q h h1 fun b w3 d3 => ?_
    have hb := d3.2.1
    refine d3.maker (by decide) fun M w6 hM d6 p6 => fun w12 h12 w13 b13 v14 w15 o15 h15 => ?_
    have d15 := ((d6.ext h12).bxs (Nat.le_refl _) b13 (by decide)).ext h15
    have d13 := (d6.ext h12).bxs (Nat.le_refl _) b13 (by decide)
    have end2 : ∀ (u : Value) (zss : List (List Int)) (W : World), zss.length ≤ 1000 → OwnT w3.heap.size W u zss → Dq w b cv zs w3.heap.size W → spec_DrawHullOf_k2 w (fun r w' => ∃ (M : Mk) (u : Value) (zss : List (List Int)), r = .tuple #[M.v, u] ∧ zss.length ≤ 1000 ∧ VwR w.heap.size w' u zss ∧ Ext w w') u M.c M.d M.s M.m M.l W :=
      fun u zss W hl hk hd W' b' => ⟨M, u, zss, rfl, hl, (hk.bxs b' (by decide) (by decide)).vw.mono d3.base.size, (hd.bxs (Nat.le_refl _) b' (by decide)).base⟩
    refine d15.next 5 (by decide) fun n w17 n0 n1 d17 p17 _ => ?_
    refine ⟨fun s W => s.1 ≤ 5 ∧ s.2.2.length + s.1 ≤ 5 ∧ OwnT w3.heap.size W s.2.1 s.2.2 ∧ Dq w b cv zs w3.heap.size W, fun s _ => s.1, ⟨(n.toNat, v14, []), ieq (by simp only; omega), rfl, by simp only; omega, by simp only [List.length_nil]; omega, OwnP.nil_ ((o15.mono d13.2.2).dr p17 hb), d17⟩, ?_⟩
    rintro ⟨k, u, zss⟩ w21 ⟨hk5, hl, o21, d21⟩
    simp only at hk5 hl o21
    refine ⟨fun hk => ?_, fun hk => ?_⟩
    · simp only at hk
      refine d21.list (spec_l02DrawKey_ret w b cv zs w21 d21.1 M hM) (by decide) fun x xs w29 o29 d29 p29 => ?_
      refine o29.rd.oneC fun r w32 o32 h32 => ?_
      have d32 := d29.ext h32
      refine OwnP.push ((o21.dr p29 hb).ext h32) (x := xs) (o29.vw.ext h32) o32 o29.rd.one (by omega) d32.2.2 (fun us w' o g u x hx => Vw.grown hx o (by decide) g) fun us v' w34 o g o34 q34 => ⟨by unfold I64; omega, (k - 1, v', zss ++ [xs]), ieq (by simp only; omega), rfl, ⟨by simp only; omega, by simp only [List.length_append, List.length_singleton]; omega, o34, d32.low q34⟩, by simp only; omega⟩
    · refine d21.next 60 (by decide) fun n w64 n0 n1 d64 p64 _ => ⟨fun _ => ?_, fun _ => end2 u zss w64 (by omega) (o21.dr p64 hb) d64⟩
      have o64 := o21.dr p64 hb
      refine (spec_IsMaker_val M.c M.d M.s M.m M.l w64).call fun w67 h67 => ⟨_, rfl, h67.keeps, fun hyes => ?_, fun _ => end2 u zss w67 (by omega) (o64.ext h67) (d64.ext h67)⟩
      have hok : MkOk M.c M.d M.s M.m M.l := of_decide_eq_true hyes
      have d67 := d64.ext h67
      have o67 := o64.ext h67
      refine (spec_l02Some_ret w b cv zs w67 d67.1 M hok).call ?_
      rintro x w106 ⟨xs, _, o106, s106, p106⟩
      have d106 := d67.step s106 p106
      refine ⟨x, rfl, d67.kp p106 (by decide), ?_⟩
      refine ⟨fun s W => s.2.length ≤ 301 ∧ OwnT w3.heap.size W s.1 s.2 ∧ Vw w3.heap.size W 2 x (ints xs) ∧ Dq w b cv zs w3.heap.size W, fun s _ => 301 - s.2.length, ⟨(u, zss), rfl, by simp only; omega, o67.dr p106 hb, o106.vw.mono d67.2.2, d106⟩, ?_⟩
      rintro ⟨u2, z2⟩ w110 ⟨hl2, o110, x110, d110⟩
      simp only at hl2 o110
      refine OwnP.len o110 (d110.next 2 (by decide) fun n w115 n0 n1 d115 p115 _ => ⟨by unfold I64; omega, fun hlt => ?_, fun hge => end2 u2 z2 w115 (by omega) (o110.dr p115 hb) d115⟩)
      have x115 := x110.dr p115 hb
      refine x115.rd.oneC fun r w125 o125 h125 => ?_
      have d125 := d115.ext h125
      refine OwnP.push ((o110.dr p115 hb).ext h125) (x := xs) (x115.ext h125) o125 x115.one (by omega) d125.2.2 (fun us w' o g u x hx => Vw.grown hx o (by decide) g) fun us v' w127 o g o127 q127 => ⟨(v', z2 ++ [xs]), rfl, ⟨by simp only [List.length_append, List.length_singleton]; omega, o127, (x115.ext h125).grown o (by decide) g, d125.low q127⟩, by simp only [List.length_append, List.length_singleton]; omega⟩)
def spec_DrawStockOf_A (v : Value) (w : World) : Nat → Ann := fun κ => match κ with
  | 0 => { σ := Nat × Value × List (List (List Int)), sli := [8, 7], slc := fun s => [SV.v (Value.int .i64 (s.1 : Int)), SV.v s.2.1], bxi := [], bxc := fun s => [], inv := fun s W => True, μ := fun s W => 0, free := true }
  | 1 => { σ := Value × List (List (List Int)), sli := [7], slc := fun s => [SV.v s.1], bxi := [], bxc := fun s => [], inv := fun s W => True, μ := fun s W => 0, free := true }
  | _ => { σ := Unit, sli := [], slc := fun _ => [], bxi := [], bxc := fun _ => [], inv := fun _ _ => False, μ := fun _ _ => 0 }
abbrev spec_DrawStockOf_k0 (w : World) (p4 : Addr) (n7 : Int) (n8 : Int) (n9 : Int) (n10 : Int) (n11 : Int) (s24 : Nat × Value × List (List (List Int))) (w25 : World) (J26 : (Nat × Value × List (List (List Int))) → World → Prop) (m27 : (Nat × Value × List (List (List Int))) → World → Nat) (x42 : Value) (x43 : Int) (w52 : World) : Prop :=
  Calls Try.prog 73 #[(Value.pointer (some p4)), (Value.agg #[(Value.int .i64 n7), (Value.int .i64 n8), (Value.int .i64 n9), (Value.int .i64 n10), (Value.int .i64 n11)])] w52 (fun e53 w54 => ∃ u55 : Value, e53 = .returned (Value.agg #[u55]) ∧ Keeps w.heap.size [25, 25] w52 w54 ∧ oneC u55 (∀ (v56 : Value) (w57 : World), Own w54.heap.size w57 28 v56 [u55] → Ext w54 w57 → AppV w57 28 x42 v56 (fun v58 w59 => I64 (x43 - 1) ∧ ∃ s60 : (Nat × Value × List (List (List Int))), (Value.int .i64 (x43 - 1)) = (Value.int .i64 (s60.1 : Int)) ∧ v58 = s60.2.1 ∧ (J26 s60 w59) ∧ (m27 s60 w59) < (m27 s24 w25))))
abbrev spec_DrawStockOf_k1 (x180 : Addr) (s243 : Value × List (List (List Int))) (w244 : World) (J245 : (Value × List (List (List Int))) → World → Prop) (m246 : (Value × List (List (List Int))) → World → Nat) (x251 : Value) (w257 : World) : Prop :=
  ∃ u258 : Value, LdV w257 (Value.pointer (some x180)) u258 ∧ oneC u258 (∀ (v259 : Value) (w260 : World), Own w257.heap.size w260 28 v259 [u258] → Ext w257 w260 → AppV w260 28 x251 v259 (fun v261 w262 => ∃ s263 : (Value × List (List (List Int))), v261 = s263.1 ∧ (J245 s263 w262) ∧ (m246 s263 w262) < (m246 s243 w244)))
abbrev spec_DrawStockOf_k2 (w : World) (Post : Value → World → Prop) (x267 : Value) (x327 : Int) (x328 : Int) (x329 : Int) (x330 : Int) (x331 : Int) (w332 : World) : Prop :=
  ∀ w333 : World, BxS w.heap.size 25 w332 w333 → Post (Value.tuple #[(Value.agg #[(Value.int .i64 x327), (Value.int .i64 x328), (Value.int .i64 x329), (Value.int .i64 x330), (Value.int .i64 x331)]), x267]) w333
abbrev spec_DrawStockOf_k3 (w : World) (Post : Value → World → Prop) (x179 : Addr) (x180 : Addr) (x181 : Value) (x230 : Bool) (x236 : Int) (x237 : Int) (x238 : Int) (x239 : Int) (x240 : Int) (w241 : World) : Prop :=
  ((x230 = true → (∃ (J245 : (Value × List (List (List Int))) → World → Prop) (m246 : (Value × List (List (List Int))) → World → Nat), ((∃ s242 : (Value × List (List (List Int))), x181 = s242.1 ∧ (J245 s242 w241)) ∧ ∀ (s243 : (Value × List (List (List Int)))) (w244 : World), (J245 s243 w244) → LenV s243.1 (fun n247 => Calls Try.prog 74 #[(Value.pointer (some x179)), (Value.int .i64 2)] w244 (fun e248 w249 => ∃ n250 : Int, e248 = .returned (Value.int .i64 n250) ∧ Keeps w.heap.size [25, 25] w244 w249 ∧ I64 (40 + n250) ∧ (((n247 < (40 + n250)) → (spec_DrawStockOf_k1 x180 s243 w244 J245 m246 s243.1 w249)) ∧ (¬ (n247 < (40 + n250)) → (spec_DrawStockOf_k2 w Post s243.1 x236 x237 x238 x239 x240 w249)))))))) ∧ (x230 = false → (spec_DrawStockOf_k2 w Post x181 x236 x237 x238 x239 x240 w241)))
abbrev spec_DrawStockOf_k4 (w : World) (Post : Value → World → Prop) (x118 : Addr) (x119 : Addr) (x120 : Value) (x165 : Int) (x166 : Int) (x167 : Int) (x168 : Int) (x169 : Int) (w170 : World) : Prop :=
  Calls Try.prog 74 #[(Value.pointer (some x118)), (Value.int .i64 60)] w170 (fun e171 w172 => ∃ n173 : Int, e171 = .returned (Value.int .i64 n173) ∧ Keeps w.heap.size [25, 25] w170 w172 ∧ (((n173 = (0 : Int)) → ∃ u174 : Value, LdV w172 (Value.pointer (some x119)) u174 ∧ Calls Try.prog 69 #[(Value.agg #[(Value.int .i64 x165), (Value.int .i64 x166), (Value.int .i64 x167), (Value.int .i64 x168), (Value.int .i64 x169)]), (Value.agg #[u174])] w172 (fun e175 w176 => ∃ b177 : Bool, e175 = .returned (Value.bool b177) ∧ Keeps w.heap.size [25, 25] w172 w176 ∧ (spec_DrawStockOf_k3 w Post x118 x119 x120 b177 x165 x166 x167 x168 x169 w176))) ∧ (¬ (n173 = (0 : Int)) → (spec_DrawStockOf_k2 w Post x120 x165 x166 x167 x168 x169 w172))))
abbrev spec_DrawStockOf_k5 (w : World) (Post : Value → World → Prop) (x62 : Addr) (x63 : Addr) (x64 : Value) (x103 : Int) (x104 : Int) (x105 : Int) (x106 : Int) (x107 : Int) (w108 : World) : Prop :=
  Calls Try.prog 74 #[(Value.pointer (some x62)), (Value.int .i64 4)] w108 (fun e109 w110 => ∃ n111 : Int, e109 = .returned (Value.int .i64 n111) ∧ Keeps w.heap.size [25, 25] w108 w110 ∧ (((n111 = (0 : Int)) → ∃ u112 : Value, LdV w110 (Value.pointer (some x63)) u112 ∧ oneC u112 (∀ (v113 : Value) (w114 : World), Own w110.heap.size w114 28 v113 [u112] → Ext w110 w114 → AppV w114 28 x64 v113 (fun v115 w116 => (spec_DrawStockOf_k4 w Post x62 x63 v115 x103 x104 x105 x106 x107 w116)))) ∧ (¬ (n111 = (0 : Int)) → (spec_DrawStockOf_k4 w Post x62 x63 x64 x103 x104 x105 x106 x107 w110))))
abbrev spec_DrawStockOf_k6 (w : World) (Post : Value → World → Prop) (p4 : Addr) (n7 : Int) (n8 : Int) (n9 : Int) (n10 : Int) (n11 : Int) (b15 : Nat) (s24 : Nat × Value × List (List (List Int))) (w25 : World) (J26 : (Nat × Value × List (List (List Int))) → World → Prop) (m27 : (Nat × Value × List (List (List Int))) → World → Nat) (x31 : Value) (x32 : Int) (x40 : Bool) (w41 : World) : Prop :=
  ((x40 = true → (spec_DrawStockOf_k0 w p4 n7 n8 n9 n10 n11 s24 w25 J26 m27 x31 x32 w41)) ∧ (x40 = false → (spec_DrawStockOf_k5 w Post p4 (⟨b15, 0, none⟩) x31 n7 n8 n9 n10 n11 w41)))
def spec_DrawStockOf_vc (v : Value) (w : World) (Post : Value → World → Prop) : Prop :=
  ∀ w1 : World, Ext w w1 → Calls Try.prog 70 #[v] w1 (fun e2 w3 => ∃ p4 : Addr, e2 = .returned (Value.pointer (some p4)) ∧ Keeps w.heap.size [25] w1 w3 ∧ Calls Try.prog 71 #[(Value.pointer (some p4))] w3 (fun e5 w6 => ∃ n7 : Int, ∃ n8 : Int, ∃ n9 : Int, ∃ n10 : Int, ∃ n11 : Int, ∃ u12 : Value, e5 = .returned (Value.tuple #[(Value.agg #[(Value.int .i64 n7), (Value.int .i64 n8), (Value.int .i64 n9), (Value.int .i64 n10), (Value.int .i64 n11)]), (Value.agg #[u12])]) ∧ Keeps w.heap.size [25] w3 w6 ∧ ∀ w13 : World, Ext w6 w13 → ∀ (b15 : Nat) (w14 : World), Ext w13 w14 → w13.heap.size ≤ b15 → w14.heap[b15]? = some (.cells #[(Value.slice none 0 0)] 28 (0, 0)) → ∀ w16 : World, BxS w.heap.size 25 w14 w16 → StV w.heap.size [25, 25] w16 (Value.pointer (some (⟨b15, 0, none⟩))) u12 (fun w17 => ∀ (v18 : Value) (w19 : World), Own w17.heap.size w19 28 v18 [] → Ext w17 w19 → Calls Try.prog 74 #[(Value.pointer (some p4)), (Value.int .i64 4)] w19 (fun e20 w21 => ∃ n22 : Int, e20 = .returned (Value.int .i64 n22) ∧ Keeps w.heap.size [25, 25] w19 w21 ∧ (∃ (J26 : (Nat × Value × List (List (List Int))) → World → Prop) (m27 : (Nat × Value × List (List (List Int))) → World → Nat), ((∃ s23 : (Nat × Value × List (List (List Int))), (Value.int .i64 n22) = (Value.int .i64 (s23.1 : Int)) ∧ v18 = s23.2.1 ∧ (J26 s23 w21)) ∧ ∀ (s24 : (Nat × Value × List (List (List Int)))) (w25 : World), (J26 s24 w25) → ((((0 : Int) < (s24.1 : Int)) → Calls Try.prog 72 #[(Value.agg #[(Value.int .i64 n7), (Value.int .i64 n8), (Value.int .i64 n9), (Value.int .i64 n10), (Value.int .i64 n11)])] w25 (fun e28 w29 => ∃ b30 : Bool, e28 = .returned (Value.bool b30) ∧ Keeps w.heap.size [25, 25] w25 w29 ∧ (spec_DrawStockOf_k6 w Post p4 n7 n8 n9 n10 n11 b15 s24 w25 J26 m27 s24.2.1 (s24.1 : Int) b30 w29))) ∧ (¬ ((0 : Int) < (s24.1 : Int)) → (spec_DrawStockOf_k5 w Post p4 (⟨b15, 0, none⟩) s24.2.1 n7 n8 n9 n10 n11 w25)))))))))
theorem spec_DrawStockOf_eq (v : Value) (w : World) (Post : Value → World → Prop) : denF Try.prog [6, 9400000, 9700000, 9800000] (spec_DrawStockOf_A v w) 31 [v] w Post = spec_DrawStockOf_vc v w Post := by kernel_rfl
set_option maxRecDepth 100000 in
theorem spec_DrawStockOf_calls (v : Value) (w : World) (Post : Value → World → Prop) (hvc : spec_DrawStockOf_vc v w Post) : Ret Try.prog 31 #[v] w Post :=
  Ret.of (denF_sound mixed (Eq.mpr (spec_DrawStockOf_eq v w Post) hvc))

theorem spec_DrawStockOf_ret (cv : Value) (zs : List Int) (w : World) (h : RB w cv zs) : Ret Try.prog 31 #[cv] w fun r w' => ∃ (M : Mk) (u : Value) (lss : List (List (List Int))), r = .tuple #[M.v, u] ∧ OwnL w.heap.size w.heap.size w' u lss ∧ Ext w w' :=
  spec_DrawStockOf_calls cv w _ (by
    unfold spec_DrawStockOf_vc
    intro w1 h1
    refine from_q h h1 fun b w3 d3 => ?_
    have hb := d3.2.1
    refine d3.lock (by decide) fun M l zl w6 hM hv d6 p6 => fun w13 h13 q w14 h14 hq c14 w16 b16 => ?_
    have d14 := (d6.ext h13).ext h14
    have d16 := d14.bxs (Nat.le_refl _) b16 (by decide)
    have l16 := ((hv.ext h13).ext h14).bxs b16 (by decide) (by decide)
    have c16 : w16.heap[q]? = some (.cells #[.slice none 0 0] 28 (0, 0)) := (b16.block q fun cs fz hh => by
      rw [c14] at hh
      injection hh with hh
      injection hh with _ he _
      exact absurd he (by decide)).trans c14
    have hqlo : w3.heap.size ≤ q := Nat.le_trans (d6.ext h13).2.2 hq
    have hqb : q ≠ b := by omega
    refine st_one c16 l16.one (.inr (by decide)) fun w17 c17 p17 z17 v18 w19 o19 h19 => ?_
    have l17 : VwR w3.heap.size w17 l zl := by
      obtain ⟨us, g1, g2⟩ := l16
      have keep : ∀ e, e ≠ 28 → ∀ g cs, w3.heap.size ≤ g → w16.heap[g]? = some (.cells cs e (0, 0)) → w17.heap[g]? = some (.cells cs e (0, 0)) := fun e he g cs _ hg => (p17.block g (heap_lt hg) fun e2 => by
        subst e2
        rw [c16] at hg
        injection hg with hg
        injection hg with _ he2 _
        exact he he2.symm).trans hg
      exact ⟨us, g1.keep (keep _ (by decide)), g2.map fun u z hr => hr.keep (keep _ (by decide))⟩
    have d17 : Dq w b cv zs w3.heap.size w17 := d16.low ⟨p17.os, p17.tape, p17.output, p17.size, fun k hk hlt => p17.block k hk (by omega)⟩
    -- what holds while it draws
    have qN : q < w17.heap.size := heap_lt c17
    let L : World → Prop := fun W => W.heap[q]? = some (.cells #[l] 28 (0, 0)) ∧ VwR w3.heap.size W l zl ∧ Dq w b cv zs w3.heap.size W ∧ w17.heap.size ≤ W.heap.size
    have L17 : L w17 := ⟨c17, l17, d17, Nat.le_refl _⟩
    have Le : ∀ {W W' : World}, L W → Ext W W' → L W' := fun ⟨a1, a2, a3, a4⟩ e => ⟨(e.block q (heap_lt a1)).trans a1, a2.ext e, a3.ext e, Nat.le_trans a4 e.size⟩
    have Ld : ∀ {W W' : World}, L W → Dq w b cv zs w3.heap.size W' → Pres (fun k => k ≠ b) W W' → L W' := fun ⟨a1, a2, a3, a4⟩ d p => ⟨(p.block q (heap_lt a1) hqb).trans a1, a2.dr p hb, d, Nat.le_trans a4 p.size⟩
    have Lp : ∀ {W W' : World} {B : Nat} {u : Value} {us : List Value}, L W → Own B W 28 u us → W.grownBy W' u.ownBlock → Pres (fun k => k < w17.heap.size) W W' → L W' := fun ⟨a1, a2, a3, a4⟩ o g p => ⟨(p.block q (heap_lt a1) qN).trans a1, a2.grown o (by decide) (by decide) g, a3.low ⟨p.os, p.tape, p.output, p.size, fun k hk hlt => p.block k hk (by have := d17.2.2; omega)⟩, Nat.le_trans a4 p.size⟩
    have Ll : ∀ {W : World}, L W → LdV W (.pointer (some ⟨q, 0, none⟩)) l := fun a => ld_one a.1
    have hNw : w.heap.size ≤ w17.heap.size := d17.base.size
    have end2 : ∀ (u : Value) (lss : List (List (List Int))) (W : World), OwnL w3.heap.size w17.heap.size W u lss → L W → spec_DrawStockOf_k2 w (fun r w' => ∃ (M : Mk) (u : Value) (lss : List (List (List Int))), r = .tuple #[M.v, u] ∧ OwnL w.heap.size w.heap.size w' u lss ∧ Ext w w') u M.c M.d M.s M.m M.l W :=
      fun u lss W hk hL W' b' => ⟨M, u, lss, rfl, (hk.bxs b' (by decide) (by decide) (by decide)).mono d3.base.size hNw, (hL.2.2.1.bxs (Nat.le_refl _) b' (by decide)).base⟩
    have end4 : ∀ (u : Value) (lss : List (List (List Int))) (W : World), lss.length ≤ 5 → OwnL w3.heap.size w17.heap.size W u lss → L W → spec_DrawStockOf_k4 w (fun r w' => ∃ (M : Mk) (u : Value) (lss : List (List (List Int))), r = .tuple #[M.v, u] ∧ OwnL w.heap.size w.heap.size w' u lss ∧ Ext w w') ⟨b, 0, none⟩ ⟨q, 0, none⟩ u M.c M.d M.s M.m M.l W := by
      intro u lss W hl5 hk hL
      refine hL.2.2.1.next 60 (by decide) fun n w172 n0 n1 d172 p172 _ => ?_
      have k172 := hk.dr p172 (by omega) hb
      have L172 := Ld hL d172 p172
      refine ⟨fun _ => ⟨l, Ll L172, ?_⟩, fun _ => end2 u lss w172 k172 L172⟩
      refine (spec_IsLock_val M.c M.d M.s M.m M.l l zl w172 L172.2.1.rr).call fun w173 h173 => ⟨_, rfl, h173.keeps, fun _ => ?_, fun _ => end2 u lss w173 (k172.ext h173) (Le L172 h173)⟩
      refine ⟨fun s W => s.2.length ≤ 41 ∧ OwnL w3.heap.size w17.heap.size W s.1 s.2 ∧ L W, fun s _ => 41 - s.2.length, ⟨(u, lss), rfl, by simp only; omega, k172.ext h173, Le L172 h173⟩, ?_⟩
      rintro ⟨u2, z2⟩ w244 ⟨hl2, o244, L244⟩
      simp only at hl2 o244
      refine OwnP.len o244 (L244.2.2.1.next 2 (by decide) fun n w249 n0 n1 d249 p249 _ => ?_)
      have L249 := Ld L244 d249 p249
      have o249 := o244.dr p249 (by omega) hb
      refine ⟨by unfold I64; omega, fun hlt => ⟨l, Ll L249, L249.2.1.rr.oneC fun r w260 o260 h260 => ?_⟩, fun hge => end2 u2 z2 w249 o249 L249⟩
      have L260 := Le L249 h260
      refine OwnP.push (o249.ext h260) (x := zl) L260.2.1 o260 L260.2.1.one (by omega) L260.2.2.2 (fun us w' o g u x hx => VwR.grown hx o (by decide) (by decide) g) fun us v' w262 o g o262 q262 => ⟨(v', z2 ++ [zl]), rfl, ⟨by simp only [List.length_append, List.length_singleton]; omega, o262, Lp L260 o g q262⟩, by simp only [List.length_append, List.length_singleton]; omega⟩
    have end5 : ∀ (u : Value) (lss : List (List (List Int))) (W : World), lss.length ≤ 4 → OwnL w3.heap.size w17.heap.size W u lss → L W → spec_DrawStockOf_k5 w (fun r w' => ∃ (M : Mk) (u : Value) (lss : List (List (List Int))), r = .tuple #[M.v, u] ∧ OwnL w.heap.size w.heap.size w' u lss ∧ Ext w w') ⟨b, 0, none⟩ ⟨q, 0, none⟩ u M.c M.d M.s M.m M.l W := by
      intro u lss W hl5 hk hL
      refine hL.2.2.1.next 4 (by decide) fun n w110 n0 n1 d110 p110 _ => ?_
      have k110 := hk.dr p110 (by omega) hb
      have L110 := Ld hL d110 p110
      refine ⟨fun _ => ⟨l, Ll L110, L110.2.1.rr.oneC fun r w114 o114 h114 => ?_⟩, fun _ => end4 u lss w110 (by omega) k110 L110⟩
      have L114 := Le L110 h114
      refine OwnP.push (k110.ext h114) (x := zl) L114.2.1 o114 L114.2.1.one (by omega) L114.2.2.2 (fun us w' o g u x hx => VwR.grown hx o (by decide) (by decide) g) fun us v' w116 o g o116 q116 => end4 v' _ w116 (by simp; omega) o116 (Lp L114 o g q116)
    have d19 := d17.ext h19
    refine d19.next 4 (by decide) fun n w21 n0 n1 d21 p21 _ => ?_
    refine ⟨fun s W => s.1 ≤ 4 ∧ s.2.2.length + s.1 ≤ 4 ∧ OwnL w3.heap.size w17.heap.size W s.2.1 s.2.2 ∧ L W, fun s _ => s.1, ⟨(n.toNat, v18, []), ieq (by simp only; omega), rfl, by simp only; omega, by simp only [List.length_nil]; omega, OwnP.nil_ (o19.dr p21 (by omega)), Ld (Le L17 h19) d21 p21⟩, ?_⟩
    rintro ⟨k, u, lss⟩ w25 ⟨hk5, hl, o25, L25⟩
    simp only at hk5 hl o25
    refine ⟨fun hk => ?_, fun hk => end5 u lss w25 (by omega) o25 L25⟩
    simp only at hk
    refine (spec_IsMaker_val M.c M.d M.s M.m M.l w25).call fun w28 h28 => ⟨_, rfl, h28.keeps, fun hyes => ?_, fun _ => end5 u lss w28 (by omega) (o25.ext h28) (Le L25 h28)⟩
    have hok : MkOk M.c M.d M.s M.m M.l := of_decide_eq_true hyes
    have L28 := Le L25 h28
    refine L28.2.2.1.valid (M := M) hok (by decide) fun x zx w54 _ o54 d54 p54 => o54.rr.oneC fun r w57 o57 h57 => ?_
    have L57 := Le (Ld L28 d54 p54) h57
    refine OwnP.push (((o25.ext h28).dr p54 (by omega) hb).ext h57) (x := zx) (o54.vw.ext h57) o57 o54.vw.one (by omega) L57.2.2.2 (fun us w' o g u x hx => VwR.grown hx o (by decide) (by decide) g) fun us v' w59 o g o59 q59 => ⟨by unfold I64; omega, (k - 1, v', lss ++ [zx]), ieq (by simp only; omega), rfl, ⟨by simp only; omega, by simp only [List.length_append, List.length_singleton]; omega, o59, Lp L57 o g q59⟩, by simp only; omega⟩)
end Go.Proofs
