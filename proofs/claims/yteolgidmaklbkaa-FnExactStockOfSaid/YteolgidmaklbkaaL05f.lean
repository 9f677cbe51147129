/- The stock of locks in the program: its contract. No condition. -/
import Derived.Test.YteolgidmaklbkaaL05e
set_option linter.unusedVariables false
namespace Go.Proofs
open Go.Sx Go.RowKit
theorem _root_.Go.Sx.Vw.pres {B : Nat} {w w' : World} {e : TypeId} {v : Value} {xs : List Value} (h : Vw B w e v xs) {K : Nat → Prop} (p : Pres K w w') (hK : ∀ k, B ≤ k → K k) : Vw B w' e v xs :=
  h.keep fun g cs hB hg => (p.block g (heap_lt hg) (hK g hB)).trans hg
def impl_StockOf_A (m_Chambers : Int) (m_Depths : Int) (m_Step : Int) (m_Same : Int) (m_Least : Int) (v : Value) (w : World) : Nat → Ann := fun κ => match κ with
  | 0 => { σ := Nat, sli := [39], slc := fun s => [SV.v (Value.int .i64 (s : Int))], bxi := [], bxc := fun s => [], inv := fun s W => True, μ := fun s W => 0, free := true }
  | 1 => { σ := Nat, sli := [47], slc := fun s => [SV.v (Value.int .i64 (s : Int))], bxi := [], bxc := fun s => [], inv := fun s W => True, μ := fun s W => 0, free := true }
  | 2 => { σ := Nat, sli := [75], slc := fun s => [SV.v (Value.int .i64 (s : Int))], bxi := [], bxc := fun s => [], inv := fun s W => True, μ := fun s W => 0, free := true }
  | _ => { σ := Unit, sli := [], slc := fun _ => [], bxi := [], bxc := fun _ => [], inv := fun _ _ => False, μ := fun _ _ => 0 }
abbrev impl_StockOf_k0 (w : World) (x126 : Value) (u188 : Value) (s191 : Nat) (w192 : World) (J193 : Nat → World → Prop) (m194 : Nat → World → Nat) (x195 : Int) (w196 : World) : Prop :=
  IxV 1 u188 x195 (fun ad197 => ∃ n198 : Int, LdV w196 (Value.pointer (some ad197)) (Value.int .i64 n198) ∧ IxV 1 x126 n198 (fun ad199 => ∃ n200 : Int, LdV w196 (Value.pointer (some ad199)) (Value.int .i64 n200) ∧ I64 (n200 + 1) ∧ IxV 1 x126 n198 (fun ad201 => StV w.heap.size [56, 53] w196 (Value.pointer (some ad201)) (Value.int .i64 (n200 + 1)) (fun w202 => I64 (x195 + 1) ∧ ∃ s203 : Nat, (Value.int .i64 (x195 + 1)) = (Value.int .i64 (s203 : Int)) ∧ (J193 s203 w202) ∧ (m194 s203 w202) < (m194 s191 w192)))))
abbrev impl_StockOf_k1 (s167 : Nat) (w168 : World) (J169 : Nat → World → Prop) (m170 : Nat → World → Nat) (x206 : Int) (w234 : World) : Prop :=
  I64 (x206 + 1) ∧ ∃ s235 : Nat, (Value.int .i64 (x206 + 1)) = (Value.int .i64 (s235 : Int)) ∧ (J169 s235 w234) ∧ (m170 s235 w234) < (m170 s167 w168)
abbrev impl_StockOf_k2 (w : World) (x125 : Value) (x126 : Value) (x127 : Value) (u164 : Value) (s167 : Nat) (w168 : World) (J169 : Nat → World → Prop) (m170 : Nat → World → Nat) (x171 : Int) (w172 : World) : Prop :=
  IxV 1 u164 x171 (fun ad173 => ∃ u174 : Value, LdV w172 (Value.pointer (some ad173)) u174 ∧ LenV u174 (fun n175 => I64 (n175 - 1) ∧ IxV 1 u174 0 (fun ad176 => ∃ n177 : Int, LdV w172 (Value.pointer (some ad176)) (Value.int .i64 n177) ∧ IxV 1 x125 n177 (fun ad178 => ∃ n179 : Int, LdV w172 (Value.pointer (some ad178)) (Value.int .i64 n179) ∧ I64 (n179 + 1) ∧ IxV 1 x125 n177 (fun ad180 => StV w.heap.size [56, 53] w172 (Value.pointer (some ad180)) (Value.int .i64 (n179 + 1)) (fun w181 => IxV 1 u174 (n175 - 1) (fun ad182 => ∃ n183 : Int, LdV w181 (Value.pointer (some ad182)) (Value.int .i64 n183) ∧ IxV 1 x127 n183 (fun ad184 => ∃ n185 : Int, LdV w181 (Value.pointer (some ad184)) (Value.int .i64 n185) ∧ I64 (n185 + 1) ∧ IxV 1 x127 n183 (fun ad186 => StV w.heap.size [56, 53] w181 (Value.pointer (some ad186)) (Value.int .i64 (n185 + 1)) (fun w187 => SlV 1 u174 (some 1) (some (n175 - 1)) none (fun u188 => LenV u188 (fun n189 => (∃ (J193 : Nat → World → Prop) (m194 : Nat → World → Nat), ((∃ s190 : Nat, (Value.int .i64 0) = (Value.int .i64 (s190 : Int)) ∧ (J193 s190 w187)) ∧ ∀ (s191 : Nat) (w192 : World), (J193 s191 w192) → ((((s191 : Int) < n189) → (impl_StockOf_k0 w x126 u188 s191 w192 J193 m194 (s191 : Int) w192)) ∧ (¬ ((s191 : Int) < n189) → (impl_StockOf_k1 s167 w168 J169 m170 x171 w192)))))))))))))))))
abbrev impl_StockOf_k3 (s152 : Nat) (w153 : World) (J154 : Nat → World → Prop) (m155 : Nat → World → Nat) (x236 : Int) (w249 : World) : Prop :=
  I64 (x236 + 1) ∧ ∃ s250 : Nat, (Value.int .i64 (x236 + 1)) = (Value.int .i64 (s250 : Int)) ∧ (J154 s250 w249) ∧ (m155 s250 w249) < (m155 s152 w153)
abbrev impl_StockOf_k4 (w : World) (x122 : Value) (x125 : Value) (x126 : Value) (x127 : Value) (x144 : Int) (x145 : Int) (x146 : Int) (x147 : Int) (x148 : Int) (s152 : Nat) (w153 : World) (J154 : Nat → World → Prop) (m155 : Nat → World → Nat) (x156 : Int) (w157 : World) : Prop :=
  IxV 1 x122 x156 (fun ad158 => ∃ u159 : Value, LdV w157 (Value.pointer (some ad158)) u159 ∧ ∀ w160 : World, Ext w157 w160 → oneC u159 (∀ w161 : World, BxS w.heap.size 53 w160 w161 → Calls Try.prog 132 #[(Value.agg #[(Value.int .i64 x144), (Value.int .i64 x145), (Value.int .i64 x146), (Value.int .i64 x147), (Value.int .i64 x148)]), (Value.agg #[u159])] w161 (fun e162 w163 => ∃ u164 : Value, e162 = .returned u164 ∧ Keeps w.heap.size [56, 53] w161 w163 ∧ LenV u164 (fun n165 => (∃ (J169 : Nat → World → Prop) (m170 : Nat → World → Nat), ((∃ s166 : Nat, (Value.int .i64 0) = (Value.int .i64 (s166 : Int)) ∧ (J169 s166 w163)) ∧ ∀ (s167 : Nat) (w168 : World), (J169 s167 w168) → ((((s167 : Int) < n165) → (impl_StockOf_k2 w x125 x126 x127 u164 s167 w168 J169 m170 (s167 : Int) w168)) ∧ (¬ ((s167 : Int) < n165) → (impl_StockOf_k3 s152 w153 J154 m155 x156 w168)))))))))
abbrev impl_StockOf_k5 (w : World) (Post : Value → World → Prop) (x122 : Value) (x125 : Value) (x126 : Value) (x127 : Value) (x144 : Int) (x145 : Int) (x146 : Int) (x147 : Int) (x148 : Int) (w149 : World) : Prop :=
  LenV x122 (fun n150 => (∃ (J154 : Nat → World → Prop) (m155 : Nat → World → Nat), ((∃ s151 : Nat, (Value.int .i64 0) = (Value.int .i64 (s151 : Int)) ∧ (J154 s151 w149)) ∧ ∀ (s152 : Nat) (w153 : World), (J154 s152 w153) → ((((s152 : Int) < n150) → (impl_StockOf_k4 w x122 x125 x126 x127 x144 x145 x146 x147 x148 s152 w153 J154 m155 (s152 : Int) w153)) ∧ (¬ ((s152 : Int) < n150) → Post (Value.tuple #[x125, x126, x127, (Value.int .i64 0)]) w153)))))
abbrev impl_StockOf_k6 (w : World) (Post : Value → World → Prop) (x90 : Value) (x93 : Value) (x107 : Value) (x108 : Int) (x109 : Int) (x110 : Int) (x111 : Int) (x112 : Int) (x113 : Int) (w114 : World) : Prop :=
  x108 = x108 ∧ 0 ≤ x108 ∧ x108 ≤ 4398046511104 ∧ ∀ (v115 : Value) (w116 : World), Own w114.heap.size w116 2 v115 (List.replicate x108.toNat (Value.int .i64 0)) → Ext w114 w116 → (impl_StockOf_k5 w Post x90 x93 x107 v115 x109 x110 x111 x112 x113 w116)
abbrev impl_StockOf_k7 (w : World) (Post : Value → World → Prop) (x294 : Value) (x297 : Value) (x310 : Int) (x312 : Value) (x313 : Int) (x314 : Int) (x315 : Int) (x316 : Int) (x317 : Int) (w318 : World) : Prop :=
  x310 = x310 ∧ 0 ≤ x310 ∧ x310 ≤ 4398046511104 ∧ ∀ (v319 : Value) (w320 : World), Own w318.heap.size w320 2 v319 (List.replicate x310.toNat (Value.int .i64 0)) → Ext w318 w320 → (impl_StockOf_k5 w Post x294 x297 v319 x312 x313 x314 x315 x316 x317 w320)
abbrev impl_StockOf_k8 (w : World) (Post : Value → World → Prop) (x60 : Value) (x74 : Value) (x75 : Int) (x76 : Int) (x77 : Int) (x78 : Int) (x79 : Int) (x80 : Int) (x81 : Int) (w82 : World) : Prop :=
  ((x75 = x75 ∧ 0 ≤ x75 ∧ x75 ≤ 4398046511104 ∧ ∀ (v83 : Value) (w84 : World), Own w82.heap.size w84 2 v83 (List.replicate x75.toNat (Value.int .i64 0)) → Ext w82 w84 → (impl_StockOf_k6 w Post x60 x74 v83 x76 x77 x78 x79 x80 x81 w84)) ∧ (x76 = x76 ∧ 0 ≤ x76 ∧ x76 ≤ 4398046511104 ∧ ∀ (v287 : Value) (w288 : World), Own w82.heap.size w288 2 v287 (List.replicate x76.toNat (Value.int .i64 0)) → Ext w82 w288 → (impl_StockOf_k7 w Post x60 x74 x75 v287 x77 x78 x79 x80 x81 w288)))
abbrev impl_StockOf_k9 (w : World) (Post : Value → World → Prop) (x358 : Value) (x372 : Value) (x374 : Value) (x375 : Int) (x376 : Int) (x377 : Int) (x378 : Int) (x379 : Int) (x380 : Int) (w381 : World) : Prop :=
  x375 = x375 ∧ 0 ≤ x375 ∧ x375 ≤ 4398046511104 ∧ ∀ (v382 : Value) (w383 : World), Own w381.heap.size w383 2 v382 (List.replicate x375.toNat (Value.int .i64 0)) → Ext w381 w383 → (impl_StockOf_k5 w Post x358 x372 x374 v382 x376 x377 x378 x379 x380 w383)
abbrev impl_StockOf_k10 (w : World) (Post : Value → World → Prop) (x391 : Value) (x404 : Int) (x406 : Value) (x408 : Value) (x409 : Int) (x410 : Int) (x411 : Int) (x412 : Int) (x413 : Int) (w414 : World) : Prop :=
  x404 = x404 ∧ 0 ≤ x404 ∧ x404 ≤ 4398046511104 ∧ ∀ (v415 : Value) (w416 : World), Own w414.heap.size w416 2 v415 (List.replicate x404.toNat (Value.int .i64 0)) → Ext w414 w416 → (impl_StockOf_k5 w Post x391 v415 x406 x408 x409 x410 x411 x412 x413 w416)
abbrev impl_StockOf_k11 (w : World) (Post : Value → World → Prop) (x328 : Value) (x341 : Int) (x343 : Value) (x344 : Int) (x345 : Int) (x346 : Int) (x347 : Int) (x348 : Int) (x349 : Int) (w350 : World) : Prop :=
  ((x341 = x341 ∧ 0 ≤ x341 ∧ x341 ≤ 4398046511104 ∧ ∀ (v351 : Value) (w352 : World), Own w350.heap.size w352 2 v351 (List.replicate x341.toNat (Value.int .i64 0)) → Ext w350 w352 → (impl_StockOf_k9 w Post x328 v351 x343 x344 x345 x346 x347 x348 x349 w352)) ∧ (x344 = x344 ∧ 0 ≤ x344 ∧ x344 ≤ 4398046511104 ∧ ∀ (v384 : Value) (w385 : World), Own w350.heap.size w385 2 v384 (List.replicate x344.toNat (Value.int .i64 0)) → Ext w350 w385 → (impl_StockOf_k10 w Post x328 x341 x343 v384 x345 x346 x347 x348 x349 w385)))
abbrev impl_StockOf_k12 (w : World) (Post : Value → World → Prop) (x454 : Value) (x468 : Value) (x469 : Int) (x471 : Value) (x472 : Int) (x473 : Int) (x474 : Int) (x475 : Int) (x476 : Int) (w477 : World) : Prop :=
  x469 = x469 ∧ 0 ≤ x469 ∧ x469 ≤ 4398046511104 ∧ ∀ (v478 : Value) (w479 : World), Own w477.heap.size w479 2 v478 (List.replicate x469.toNat (Value.int .i64 0)) → Ext w477 w479 → (impl_StockOf_k5 w Post x454 x468 v478 x471 x472 x473 x474 x475 x476 w479)
abbrev impl_StockOf_k13 (w : World) (Post : Value → World → Prop) (x424 : Value) (x437 : Int) (x438 : Int) (x440 : Value) (x441 : Int) (x442 : Int) (x443 : Int) (x444 : Int) (x445 : Int) (w446 : World) : Prop :=
  ((x437 = x437 ∧ 0 ≤ x437 ∧ x437 ≤ 4398046511104 ∧ ∀ (v447 : Value) (w448 : World), Own w446.heap.size w448 2 v447 (List.replicate x437.toNat (Value.int .i64 0)) → Ext w446 w448 → (impl_StockOf_k12 w Post x424 v447 x438 x440 x441 x442 x443 x444 x445 w448)) ∧ (x438 = x438 ∧ 0 ≤ x438 ∧ x438 ≤ 4398046511104 ∧ ∀ (v480 : Value) (w481 : World), Own w446.heap.size w481 2 v480 (List.replicate x438.toNat (Value.int .i64 0)) → Ext w446 w481 → (impl_StockOf_k10 w Post x424 x437 v480 x440 x441 x442 x443 x444 x445 w481)))
abbrev impl_StockOf_k14 (w : World) (Post : Value → World → Prop) (x33 : Value) (x46 : Int) (x47 : Int) (x48 : Int) (x49 : Int) (x50 : Int) (w51 : World) : Prop :=
  ∀ w52 : World, Ext w51 w52 → ((x47 = x47 ∧ 0 ≤ x47 ∧ x47 ≤ 4398046511104 ∧ ∀ (v53 : Value) (w54 : World), Own w52.heap.size w54 2 v53 (List.replicate x47.toNat (Value.int .i64 0)) → Ext w52 w54 → (impl_StockOf_k8 w Post x33 v53 x47 x47 x46 x47 x48 x49 x50 w54)) ∧ (x47 = x47 ∧ 0 ≤ x47 ∧ x47 ≤ 4398046511104 ∧ ∀ (v321 : Value) (w322 : World), Own w52.heap.size w322 2 v321 (List.replicate x47.toNat (Value.int .i64 0)) → Ext w52 w322 → (impl_StockOf_k11 w Post x33 x47 v321 x47 x46 x47 x48 x49 x50 w322)) ∧ (x47 = x47 ∧ 0 ≤ x47 ∧ x47 ≤ 4398046511104 ∧ ∀ (v417 : Value) (w418 : World), Own w52.heap.size w418 2 v417 (List.replicate x47.toNat (Value.int .i64 0)) → Ext w52 w418 → (impl_StockOf_k13 w Post x33 x47 x47 v417 x46 x47 x48 x49 x50 w418)))
abbrev impl_StockOf_k15 (w : World) (Post : Value → World → Prop) (x10 : Value) (x21 : Int) (x22 : Int) (x23 : Int) (x24 : Int) (x25 : Int) (w26 : World) : Prop :=
  LenV x10 (fun n27 => ((((40 : Int) < n27) → Post (Value.tuple #[(Value.slice none 0 0), (Value.slice none 0 0), (Value.slice none 0 0), (Value.int .i64 3)]) w26) ∧ (¬ ((40 : Int) < n27) → (impl_StockOf_k14 w Post x10 x21 x22 x23 x24 x25 w26))))
def impl_StockOf_vc (m_Chambers : Int) (m_Depths : Int) (m_Step : Int) (m_Same : Int) (m_Least : Int) (v : Value) (w : World) (Post : Value → World → Prop) : Prop :=
  ∀ w1 : World, Ext w w1 → Calls Try.prog 121 #[(Value.agg #[(Value.int .i64 m_Chambers), (Value.int .i64 m_Depths), (Value.int .i64 m_Step), (Value.int .i64 m_Same), (Value.int .i64 m_Least)]), v] w1 (fun e2 w3 => ∃ n4 : Int, e2 = .returned (Value.int .i64 n4) ∧ Keeps w.heap.size [56] w1 w3 ∧ (((n4 ≠ (0 : Int)) → Post (Value.tuple #[(Value.slice none 0 0), (Value.slice none 0 0), (Value.slice none 0 0), (Value.int .i64 n4)]) w3) ∧ (¬ (n4 ≠ (0 : Int)) → (impl_StockOf_k15 w Post v m_Chambers m_Depths m_Step m_Same m_Least w3))))
theorem impl_StockOf_eq (m_Chambers : Int) (m_Depths : Int) (m_Step : Int) (m_Same : Int) (m_Least : Int) (v : Value) (w : World) (Post : Value → World → Prop) : denF Try.prog [9400000, 9700000, 9800000] (impl_StockOf_A m_Chambers m_Depths m_Step m_Same m_Least v w) 65 [(Value.agg #[(Value.int .i64 m_Chambers), (Value.int .i64 m_Depths), (Value.int .i64 m_Step), (Value.int .i64 m_Same), (Value.int .i64 m_Least)]), v] w Post = impl_StockOf_vc m_Chambers m_Depths m_Step m_Same m_Least v w Post := by kernel_rfl
set_option maxRecDepth 100000 in
theorem impl_StockOf_calls (m_Chambers : Int) (m_Depths : Int) (m_Step : Int) (m_Same : Int) (m_Least : Int) (v : Value) (w : World) (Post : Value → World → Prop) (hvc : impl_StockOf_vc m_Chambers m_Depths m_Step m_Same m_Least v w Post) : Ret Try.prog 65 #[(Value.agg #[(Value.int .i64 m_Chambers), (Value.int .i64 m_Depths), (Value.int .i64 m_Step), (Value.int .i64 m_Same), (Value.int .i64 m_Least)]), v] w Post :=
  Ret.of (denF_sound mixed (Eq.mpr (impl_StockOf_eq m_Chambers m_Depths m_Step m_Same m_Least v w Post) hvc))

theorem impl_StockOf_ret (M : Mk) (v : Value) (lss : List (List (List Int))) (w : World) (h : RLs w v lss) : StR 65 #[M.v, v] w (stkR M lss) (stkCode M lss) :=
  impl_StockOf_calls M.c M.d M.s M.m M.l v w _ (by
    unfold impl_StockOf_vc
    have hbd := h.bound
    intro w1 h1
    refine (impl_locksCode_val M.c M.d M.s M.m M.l v lss w1 (h.ext h1)).call fun w3 h3 => ⟨_, rfl, h3.keeps, ?_⟩
    have k3 := h1.trans h3
    by_cases hL : ¬ LksOk M.c M.d M.s M.m M.l lss
    · have e : locksR M.c M.d M.s M.m M.l lss = 1 := by unfold locksR; rw [if_neg hL]
      rw [e]
      obtain ⟨e1, e2⟩ := stk_no hL
      rw [e1, e2]
      exact ⟨fun _ => ⟨_, _, _, 0, rfl, TriR.none_ _ _ _, Nat.zero_le _, k3⟩, fun hn => absurd (by decide) hn⟩
    have hL := Classical.not_not.1 hL
    have e : locksR M.c M.d M.s M.m M.l lss = 0 := by unfold locksR; rw [if_pos hL]
    rw [e]
    obtain ⟨hm, hall⟩ := id hL
    have hc := hm.1
    have hd := hm.2.1
    refine ⟨fun hn => absurd rfl hn, fun _ => ?_⟩
    refine (h.ext k3).len ⟨fun hgt => ?_, fun hle => ?_⟩
    · obtain ⟨e1, e2⟩ := stk_many hL (by omega)
      rw [e1, e2]
      exact ⟨_, _, _, 0, rfl, TriR.none_ _ _ _, Nat.zero_le _, k3⟩
    have hle' : lss.length ≤ 40 := by omega
    obtain ⟨e1, e2⟩ := stk_yes hL hle'
    rw [e1, e2]
    have core : ∀ (vb vw vd : Value) (N : Nat) (W : World), TriR w.heap.size N W vb vw vd (tri0 M.d) → N = W.heap.size → Ext w W → impl_StockOf_k5 w (fun r w' => ∃ a b d N, r = .tuple #[a, b, d, .int .i64 0] ∧ TriR w.heap.size N w' a b d (stock M.d lss) ∧ N ≤ w'.heap.size ∧ Ext w w') v vb vw vd M.c M.d M.s M.m M.l W := by
      intro vb vw vd N W0 t0 hN e0
      have hN0 : w.heap.size ≤ N := by rw [hN]; exact e0.size
      refine (h.ext e0).len ⟨fun i W => i ≤ lss.length ∧ Ext w W ∧ N ≤ W.heap.size ∧ TriR w.heap.size N W vb vw vd (stock M.d (lss.take i)) ∧ (stock M.d (lss.take i)).Ok (54 * i) M.d.toNat, fun i _ => lss.length - i, ⟨0, rfl, Nat.zero_le _, e0, by omega, t0, tri0_ok M.d⟩, ?_⟩
      rintro i w153 ⟨hi, k153, n153, t153, q153⟩
      refine ⟨fun hlt => ?_, fun hge => ?_⟩
      · have hlt' : i < lss.length := by omega
        have hlk : LkOk M.c M.d M.s M.m M.l lss[i] := ⟨hm, hall _ (List.getElem_mem hlt')⟩
        obtain ⟨p1, p2, p3⟩ := lk_small hlk
        obtain ⟨us, g1, g2, g3⟩ := h
        have hku : i < us.length := by omega
        have hu0 := g3 i us[i] lss[i] (List.getElem?_eq_getElem hku) (List.getElem?_eq_getElem hlt')
        refine (g1.ext k153).ix i rfl hku fun ad had => ⟨us[i], had, fun w160 h160 => hu0.oneC fun w161 b161 => ?_⟩
        have k161 := (k153.trans h160).bxs b161
        have n161 : N ≤ w161.heap.size := by rw [b161.size]; exact Nat.le_trans n153 h160.size
        refine (impl_pinsOf_ret M.c M.d M.s M.m M.l us[i] lss[i] w161 (hu0.ext k161) p1 p2 p3).call ?_
        rintro p w163 ⟨o163, h163⟩
        refine ⟨p, rfl, h163.keeps, ?_⟩
        have t163 := ((t153.ext h160).bxs b161 (by decide)).ext h163
        generalize hP : lss[i].map (stack M.d) = P at o163
        have hPl : P.length ≤ 6 := by rw [← hP, List.length_map]; exact p2
        have hPin : ∀ st ∈ P, 2 ≤ st.length ∧ st.length ≤ 9 ∧ ∀ x ∈ st, 0 ≤ x ∧ x ≤ M.d - 1 := fun st hst => pins_in hm (hall _ (List.getElem_mem hlt')) (by rw [hP]; exact hst)
        generalize hS : stock M.d (lss.take i) = S at t163 q153
        refine o163.rr.len ⟨fun c W => c ≤ P.length ∧ Ext w W ∧ N ≤ W.heap.size ∧ VwR N W p P ∧ TriR w.heap.size N W vb vw vd (S.adds (P.take c)) ∧ (S.adds (P.take c)).Ok (54 * i + 9 * c) M.d.toNat, fun c _ => P.length - c, ⟨0, rfl, Nat.zero_le _, k161.trans h163, Nat.le_trans n161 h163.size, o163.vw.mono n161, t163, q153⟩, ?_⟩
        rintro c w168 ⟨hc', k168, n168, v168, t168, q168⟩
        refine ⟨fun hlc => ?_, fun hgc => ?_⟩
        · have hlc' : c < P.length := by omega
          obtain ⟨s1, s2, s3⟩ := hPin _ (List.getElem_mem hlc')
          have hadd := Tri.adds_snoc S hlc'
          generalize hT : S.adds (P.take c) = T at t168 q168 hadd
          have hn0 : (0 : Int) ≤ 54 * i + 9 * c := by omega
          have hn1 : (54 * i + 9 * c : Int) ≤ 3000 := by omega
          refine v168.getV c rfl hlc' fun u hu => hu.ri.len ⟨by unfold I64; omega, hu.ri.get 0 rfl (by omega) ?_⟩
          have step : ∀ {A B : World}, Ext w A → N ≤ A.heap.size → VwR N A p P → Vw N A 2 u (ints P[c]) → Pres (fun k => N ≤ k ∨ k < w.heap.size) A B → Ext w B ∧ N ≤ B.heap.size ∧ VwR N B p P ∧ Vw N B 2 u (ints P[c]) :=
            fun e n v x q => ⟨q.ext e fun b hb => .inr hb, Nat.le_trans n q.size, v.pres q fun k hk => .inl hk, x.pres q fun k hk => .inl hk⟩
          have x0 := s3 _ (List.getElem_mem (show 0 < P[c].length by omega))
          refine t168.incB q168 hn0 (by omega) x0.1 (by omega) (by simp) fun w181 t181 r181 => ?_
          obtain ⟨k181, n181, v181, u181⟩ := step k168 n168 v168 hu r181
          have q181 := q168.bumpB hn0 P[c][0]
          refine u181.ri.get (P[c].length - 1) (by omega) (by omega) ?_
          have x1 := s3 _ (List.getElem_mem (show P[c].length - 1 < P[c].length by omega))
          refine t181.incD q181 (by omega) (by omega) x1.1 (by omega) (by simp) fun w187 t187 r187 => ?_
          obtain ⟨k187, n187, v187, u187⟩ := step k181 n181 v181 u181 r187
          have q187 := q181.bumpD (by omega) (P[c][P[c].length - 1])
          refine Vw.sl u187 1 (P[c].length - 1) rfl (by simp; omega) (by omega) (by simp) fun y hy => ?_
          have hy : Vw N w187 2 y (ints (mid P[c])) := by
            unfold mid
            rw [← ints_drop, ← ints_take]
            exact hy
          refine hy.ri.len ?_
          refine ⟨fun k W => k ≤ (mid P[c]).length ∧ Ext w W ∧ N ≤ W.heap.size ∧ VwR N W p P ∧ Vw N W 2 y (ints (mid P[c])) ∧ TriR w.heap.size N W vb vw vd ⟨bump T.b P[c][0], bumps T.w ((mid P[c]).take k), bump T.d (P[c][P[c].length - 1])⟩ ∧ Tri.Ok ⟨bump T.b P[c][0], bumps T.w ((mid P[c]).take k), bump T.d (P[c][P[c].length - 1])⟩ (54 * i + 9 * c + 1 + 1 + (k : Nat)) M.d.toNat, fun k _ => (mid P[c]).length - k, ⟨0, rfl, Nat.zero_le _, k187, n187, v187, hy, t187, q187.mono (by omega)⟩, ?_⟩
          have hml := mid_length P[c]
          rintro k w192 ⟨hk, k192, n192, v192, y192, t192, q192⟩
          refine ⟨fun hlk => ?_, fun hgk => ?_⟩
          · have hlk' : k < (mid P[c]).length := by omega
            refine y192.ri.get k rfl hlk' ?_
            have hmk := mid_get hlk'
            have x2 := s3 _ (List.getElem_mem (show k + 1 < P[c].length by omega))
            rw [hmk]
            refine t192.incW q192 (by omega) (by omega) x2.1 (by omega) (by simp) fun w202 t202 r202 => ?_
            have q202 := q192.bumpW (by omega) (P[c][k + 1])
            have em : bumps T.w ((mid P[c]).take (k + 1)) = bump (bumps T.w ((mid P[c]).take k)) P[c][k + 1] := by
              rw [take_snoc _ k hlk', bumps_snoc, hmk]
            refine ⟨by unfold I64; omega, k + 1, rfl, ⟨by omega, r202.ext k192 fun b hb => .inr hb, Nat.le_trans n192 r202.size, v192.pres r202 fun k hk => .inl hk, y192.pres r202 fun k hk => .inl hk, ?_, ?_⟩, by simp only; omega⟩
            · rw [em]; exact t202
            · rw [em]; exact q202.mono (by omega)
          · have hke : k = (mid P[c]).length := by omega
            subst hke
            rw [List.take_of_length_le (Nat.le_refl _)] at t192 q192
            have ea : T.add P[c] = ⟨bump T.b P[c][0], bumps T.w (mid P[c]), bump T.d (P[c][P[c].length - 1])⟩ := by
              unfold Tri.add
              rw [getD_get (show 0 < P[c].length by omega), getD_get (show P[c].length - 1 < P[c].length by omega)]
            refine ⟨by unfold I64; omega, c + 1, rfl, ⟨by omega, k192, n192, v192, ?_, ?_⟩, by simp only; omega⟩
            · rw [hadd, ea]; exact t192
            · rw [hadd, ea]; exact q192.mono (by omega)
        · have hce : c = P.length := by omega
          subst hce
          rw [List.take_of_length_le (Nat.le_refl _)] at t168 q168
          refine ⟨by unfold I64; omega, i + 1, rfl, ⟨by omega, k168, n168, ?_, ?_⟩, by simp only; omega⟩
          · rw [stock_snoc M.d hlt', hS, hP]; exact t168
          · rw [stock_snoc M.d hlt', hS, hP]; exact q168.mono (by omega)
      · have hie : i = lss.length := by omega
        subst hie
        rw [List.take_of_length_le (Nat.le_refl _)] at t153
        exact ⟨_, _, _, N, rfl, t153, n153, k153⟩
    intro w52 h52
    have k52 := k3.trans h52
    have hD : (0 : Int) ≤ M.d ∧ M.d ≤ 4398046511104 := by omega
    refine ⟨⟨rfl, hD.1, hD.2, fun v1 w2 o2 h2 => ⟨⟨rfl, hD.1, hD.2, fun v2 w3 o3 h3 => ⟨rfl, hD.1, hD.2, fun v3 w4 o4 h4 => ?_⟩⟩, ⟨rfl, hD.1, hD.2, fun v2 w3 o3 h3 => ⟨rfl, hD.1, hD.2, fun v3 w4 o4 h4 => ?_⟩⟩⟩⟩, ⟨rfl, hD.1, hD.2, fun v1 w2 o2 h2 => ⟨⟨rfl, hD.1, hD.2, fun v2 w3 o3 h3 => ⟨rfl, hD.1, hD.2, fun v3 w4 o4 h4 => ?_⟩⟩, ⟨rfl, hD.1, hD.2, fun v2 w3 o3 h3 => ⟨rfl, hD.1, hD.2, fun v3 w4 o4 h4 => ?_⟩⟩⟩⟩, ⟨rfl, hD.1, hD.2, fun v1 w2 o2 h2 => ⟨⟨rfl, hD.1, hD.2, fun v2 w3 o3 h3 => ⟨rfl, hD.1, hD.2, fun v3 w4 o4 h4 => ?_⟩⟩, ⟨rfl, hD.1, hD.2, fun v2 w3 o3 h3 => ⟨rfl, hD.1, hD.2, fun v3 w4 o4 h4 => ?_⟩⟩⟩⟩⟩
    all_goals
      obtain ⟨m1, m2, m3, m4, m5, m6⟩ := TriR.make k52 o2 o3 o4 h2 h3 h4
      have k4 := ((k52.trans h2).trans h3).trans h4
      first
        | exact core _ _ _ _ _ m1 rfl k4
        | exact core _ _ _ _ _ m2 rfl k4
        | exact core _ _ _ _ _ m3 rfl k4
        | exact core _ _ _ _ _ m4 rfl k4
        | exact core _ _ _ _ _ m5 rfl k4
        | exact core _ _ _ _ _ m6 rfl k4)
end Go.Proofs
