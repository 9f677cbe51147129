/- The walk through all keys ('eachKey'): it calls a visitor for one key behind the other, until one says no. No condition. -/
import Derived.Test.YteolgidmaklbkaaVis
set_option linter.unusedVariables false
namespace Go.Proofs
open Go.Sx Go.RowKit
def impl_eachKey_1_A (tight : Bool) (bk : Nat) (bm : Nat) (bv : Nat) (bf : Nat) (ba : Nat) (bc : Nat) (w : World) : Nat → Ann := fun κ => match κ with
  | 0 => { σ := Int, sli := [11], slc := fun s => [SV.v (Value.int .i64 s)], bxi := [], bxc := fun s => [], inv := fun s W => True, μ := fun s W => 0, free := true }
  | _ => { σ := Unit, sli := [], slc := fun _ => [], bxi := [], bxc := fun _ => [], inv := fun _ _ => False, μ := fun _ _ => 0 }
abbrev impl_eachKey_1_k0 (s58 : Int) (w59 : World) (J60 : Int → World → Prop) (m61 : Int → World → Nat) (x92 : Int) (w104 : World) : Prop :=
  I64 (x92 + 1) ∧ ∃ s105 : Int, (Value.int .i64 (x92 + 1)) = (Value.int .i64 s105) ∧ (J60 s105 w104) ∧ (m61 s105 w104) < (m61 s58 w59)
abbrev impl_eachKey_1_k1 (w : World) (x38 : Addr) (x44 : Int) (s58 : Int) (w59 : World) (J60 : Int → World → Prop) (m61 : Int → World → Nat) (x175 : Int) (w206 : World) : Prop :=
  ∃ u207 : Value, LdV w206 (Value.pointer (some x38)) u207 ∧ SlV 1 u207 none (some x44) none (fun u208 => StV w.heap.size [] w206 (Value.pointer (some x38)) u208 (fun w209 => (impl_eachKey_1_k0 s58 w59 J60 m61 x175 w209)))
abbrev impl_eachKey_1_k2 (w : World) (Post : Value → World → Prop) (x38 : Addr) (x44 : Int) (s58 : Int) (w59 : World) (J60 : Int → World → Prop) (m61 : Int → World → Nat) (x217 : Int) (x218 : Bool) (w255 : World) : Prop :=
  ∃ u256 : Value, LdV w255 (Value.pointer (some x38)) u256 ∧ SlV 1 u256 none (some x44) none (fun u257 => StV w.heap.size [] w255 (Value.pointer (some x38)) u257 (fun w258 => (((!x218) = true → Post (Value.bool false) w258) ∧ ((!x218) = false → (impl_eachKey_1_k0 s58 w59 J60 m61 x217 w258)))))
abbrev impl_eachKey_1_k3 (w : World) (Post : Value → World → Prop) (x37 : Bool) (x38 : Addr) (x39 : Addr) (x43 : Addr) (x44 : Int) (x45 : Int) (s58 : Int) (w59 : World) (J60 : Int → World → Prop) (m61 : Int → World → Nat) (x138 : Int) (w161 : World) : Prop :=
  ∃ u162 : Value, LdV w161 (Value.pointer (some x38)) u162 ∧ ∀ (v163 : Value) (w164 : World), Own w161.heap.size w164 2 v163 [(Value.int .i64 x138)] → Ext w161 w164 → AppV w164 2 u162 v163 (fun v165 w166 => StV w.heap.size [] w166 (Value.pointer (some x38)) v165 (fun w167 => ∀ w168 : World, Ext w167 w168 → ∃ u169 : Value, LdV w168 (Value.pointer (some x38)) u169 ∧ ∃ ad170 : Addr, (Value.pointer (some x39)) = Value.pointer (some ad170) ∧ ∃ n171 : Int, LdV w168 (Value.pointer (some (ad170.add 3))) (Value.int .i64 n171) ∧ Calls Try.prog 164 #[u169] w168 (fun e172 w173 => ∃ n174 : Int, e172 = .returned (Value.int .i64 n174) ∧ Keeps w.heap.size [] w168 w173 ∧ Ext w168 w173 ∧ (((n171 < n174) → (impl_eachKey_1_k1 w x38 x44 s58 w59 J60 m61 x138 w173)) ∧ (¬ (n171 < n174) → ∃ u210 : Value, LdV w173 (Value.pointer (some x43)) u210 ∧ ((x37 = true → ∃ (fn211 : FuncId) (fi212 ca213 : Array Value), u210 = Value.func (.func fn211) fi212 ca213 ∧ okFn Try.prog fn211 = true ∧ Calls Try.prog fn211 (fi212.toList ++ [(Value.bool (decide (x138 = x45)))] ++ ca213.toList).toArray w173 (fun e214 w215 => ∃ b216 : Bool, e214 = .returned (Value.bool b216) ∧ Keeps w.heap.size [] w173 w215 ∧ (impl_eachKey_1_k2 w Post x38 x44 s58 w59 J60 m61 x138 b216 w215))) ∧ (x37 = false → ∃ (fn259 : FuncId) (fi260 ca261 : Array Value), u210 = Value.func (.func fn259) fi260 ca261 ∧ okFn Try.prog fn259 = true ∧ Calls Try.prog fn259 (fi260.toList ++ [(Value.bool false)] ++ ca261.toList).toArray w173 (fun e262 w263 => ∃ b264 : Bool, e262 = .returned (Value.bool b264) ∧ Keeps w.heap.size [] w173 w263 ∧ (impl_eachKey_1_k2 w Post x38 x44 s58 w59 J60 m61 x138 b264 w263)))))))))
abbrev impl_eachKey_1_k4 (w : World) (Post : Value → World → Prop) (x37 : Bool) (x38 : Addr) (x39 : Addr) (x43 : Addr) (x44 : Int) (x45 : Int) (s58 : Int) (w59 : World) (J60 : Int → World → Prop) (m61 : Int → World → Nat) (n110 : Int) (n113 : Int) (x114 : Int) (w137 : World) : Prop :=
  (((n110 < n113) → (impl_eachKey_1_k0 s58 w59 J60 m61 x114 w137)) ∧ (¬ (n110 < n113) → (impl_eachKey_1_k3 w Post x37 x38 x39 x43 x44 x45 s58 w59 J60 m61 x114 w137)))
abbrev impl_eachKey_1_k5 (w : World) (Post : Value → World → Prop) (x37 : Bool) (x38 : Addr) (x39 : Addr) (x43 : Addr) (x44 : Int) (x45 : Int) (s58 : Int) (w59 : World) (J60 : Int → World → Prop) (m61 : Int → World → Nat) (n283 : Int) (n286 : Int) (x287 : Int) (w304 : World) : Prop :=
  (((n283 < n286) → (impl_eachKey_1_k0 s58 w59 J60 m61 x287 w304)) ∧ (¬ (n283 < n286) → (impl_eachKey_1_k3 w Post x37 x38 x39 x43 x44 x45 s58 w59 J60 m61 x287 w304)))
abbrev impl_eachKey_1_k6 (w : World) (Post : Value → World → Prop) (x37 : Bool) (x38 : Addr) (x39 : Addr) (x42 : Addr) (x43 : Addr) (x44 : Int) (x45 : Int) (s58 : Int) (w59 : World) (J60 : Int → World → Prop) (m61 : Int → World → Nat) (x64 : Int) (w68 : World) : Prop :=
  ∀ w69 : World, Ext w68 w69 → ∃ u70 : Value, LdV w69 (Value.pointer (some x42)) u70 ∧ ∃ b71 : Bool, NilF u70 b71 ∧ (((!b71) = true → ∃ u72 : Value, LdV w69 (Value.pointer (some x42)) u72 ∧ ∃ (fn73 : FuncId) (fi74 ca75 : Array Value), u72 = Value.func (.func fn73) fi74 ca75 ∧ okFn Try.prog fn73 = true ∧ Calls Try.prog fn73 (fi74.toList ++ [(Value.int .i64 x44), (Value.int .i64 x64)] ++ ca75.toList).toArray w69 (fun e76 w77 => ∃ b78 : Bool, e76 = .returned (Value.bool b78) ∧ Keeps w.heap.size [] w69 w77 ∧ (((!b78) = true → (impl_eachKey_1_k0 s58 w59 J60 m61 x64 w77)) ∧ ((!b78) = false → ((((0 : Int) < x44) → ∃ u106 : Value, LdV w77 (Value.pointer (some x38)) u106 ∧ I64 (x44 - 1) ∧ IxV 1 u106 (x44 - 1) (fun ad107 => ∃ n108 : Int, LdV w77 (Value.pointer (some ad107)) (Value.int .i64 n108) ∧ I64 (x64 - n108) ∧ ∃ ad109 : Addr, (Value.pointer (some x39)) = Value.pointer (some ad109) ∧ ∃ n110 : Int, LdV w77 (Value.pointer (some (ad109.add 2))) (Value.int .i64 n110) ∧ Calls Try.prog 163 #[(Value.int .i64 (x64 - n108))] w77 (fun e111 w112 => ∃ n113 : Int, e111 = .returned (Value.int .i64 n113) ∧ Keeps w.heap.size [] w77 w112 ∧ Ext w77 w112 ∧ (impl_eachKey_1_k4 w Post x37 x38 x39 x43 x44 x45 s58 w59 J60 m61 n110 n113 x64 w112)))) ∧ (¬ ((0 : Int) < x44) → (impl_eachKey_1_k3 w Post x37 x38 x39 x43 x44 x45 s58 w59 J60 m61 x64 w77))))))) ∧ ((!b71) = false → ((((0 : Int) < x44) → ∃ u279 : Value, LdV w69 (Value.pointer (some x38)) u279 ∧ I64 (x44 - 1) ∧ IxV 1 u279 (x44 - 1) (fun ad280 => ∃ n281 : Int, LdV w69 (Value.pointer (some ad280)) (Value.int .i64 n281) ∧ I64 (x64 - n281) ∧ ∃ ad282 : Addr, (Value.pointer (some x39)) = Value.pointer (some ad282) ∧ ∃ n283 : Int, LdV w69 (Value.pointer (some (ad282.add 2))) (Value.int .i64 n283) ∧ Calls Try.prog 163 #[(Value.int .i64 (x64 - n281))] w69 (fun e284 w285 => ∃ n286 : Int, e284 = .returned (Value.int .i64 n286) ∧ Keeps w.heap.size [] w69 w285 ∧ Ext w69 w285 ∧ (impl_eachKey_1_k5 w Post x37 x38 x39 x43 x44 x45 s58 w59 J60 m61 n283 n286 x64 w285)))) ∧ (¬ ((0 : Int) < x44) → (impl_eachKey_1_k3 w Post x37 x38 x39 x43 x44 x45 s58 w59 J60 m61 x64 w69)))))
abbrev impl_eachKey_1_k7 (w : World) (Post : Value → World → Prop) (x37 : Bool) (x38 : Addr) (x39 : Addr) (x42 : Addr) (x43 : Addr) (x44 : Int) (x45 : Int) (w56 : World) : Prop :=
  (∃ (J60 : Int → World → Prop) (m61 : Int → World → Nat), ((∃ s57 : Int, (Value.int .i64 x45) = (Value.int .i64 s57) ∧ (J60 s57 w56)) ∧ ∀ (s58 : Int) (w59 : World), (J60 s58 w59) → ∃ ad62 : Addr, (Value.pointer (some x39)) = Value.pointer (some ad62) ∧ ∃ n63 : Int, LdV w59 (Value.pointer (some (ad62.add 1))) (Value.int .i64 n63) ∧ (((s58 < n63) → (impl_eachKey_1_k6 w Post x37 x38 x39 x42 x43 x44 x45 s58 w59 J60 m61 s58 w59)) ∧ (¬ (s58 < n63) → Post (Value.bool true) w59))))
abbrev impl_eachKey_1_k8 (w : World) (Post : Value → World → Prop) (x20 : Bool) (x21 : Addr) (x22 : Addr) (x24 : Addr) (x25 : Addr) (x26 : Addr) (x27 : Int) (w33 : World) : Prop :=
  ((x20 = true → ∃ u34 : Value, LdV w33 (Value.pointer (some x24)) u34 ∧ IxV 1 u34 x27 (fun ad35 => ∃ n36 : Int, LdV w33 (Value.pointer (some ad35)) (Value.int .i64 n36) ∧ (impl_eachKey_1_k7 w Post x20 x21 x22 x25 x26 x27 n36 w33))) ∧ (x20 = false → (impl_eachKey_1_k7 w Post x20 x21 x22 x25 x26 x27 0 w33)))
def impl_eachKey_1_vc (tight : Bool) (bk : Nat) (bm : Nat) (bv : Nat) (bf : Nat) (ba : Nat) (bc : Nat) (w : World) (Post : Value → World → Prop) : Prop :=
  ∃ u1 : Value, LdV w (Value.pointer (some (⟨bk, 0, none⟩))) u1 ∧ LenV u1 (fun n2 => ∃ ad3 : Addr, (Value.pointer (some (⟨bm, 0, none⟩))) = Value.pointer (some ad3) ∧ ∃ n4 : Int, LdV w (Value.pointer (some (ad3.add 0))) (Value.int .i64 n4) ∧ (((n2 = n4) → ∀ w5 : World, Ext w w5 → ∃ u6 : Value, LdV w5 (Value.pointer (some (⟨bk, 0, none⟩))) u6 ∧ ∃ ad7 : Addr, (Value.pointer (some (⟨bm, 0, none⟩))) = Value.pointer (some ad7) ∧ ∃ n8 : Int, LdV w5 (Value.pointer (some (ad7.add 4))) (Value.int .i64 n8) ∧ Calls Try.prog 165 #[u6] w5 (fun e9 w10 => ∃ n11 : Int, e9 = .returned (Value.int .i64 n11) ∧ Keeps w.heap.size [] w5 w10 ∧ Ext w5 w10 ∧ (((n11 < n8) → Post (Value.bool true) w10) ∧ (¬ (n11 < n8) → ∃ u12 : Value, LdV w10 (Value.pointer (some (⟨bv, 0, none⟩))) u12 ∧ ∃ u13 : Value, LdV w10 (Value.pointer (some (⟨bk, 0, none⟩))) u13 ∧ ∃ (fn14 : FuncId) (fi15 ca16 : Array Value), u12 = Value.func (.func fn14) fi15 ca16 ∧ okFn Try.prog fn14 = true ∧ Calls Try.prog fn14 (fi15.toList ++ [u13] ++ ca16.toList).toArray w10 (fun e17 w18 => ∃ b19 : Bool, e17 = .returned (Value.bool b19) ∧ Keeps w.heap.size [] w10 w18 ∧ Post (Value.bool b19) w18))))) ∧ (¬ (n2 = n4) → (impl_eachKey_1_k8 w Post tight (⟨bk, 0, none⟩) (⟨bm, 0, none⟩) (⟨bf, 0, none⟩) (⟨ba, 0, none⟩) (⟨bc, 0, none⟩) n2 w))))
theorem impl_eachKey_1_eq (tight : Bool) (bk : Nat) (bm : Nat) (bv : Nat) (bf : Nat) (ba : Nat) (bc : Nat) (w : World) (Post : Value → World → Prop) : denF Try.prog [1000163, 1000164, 1000165] (impl_eachKey_1_A tight bk bm bv bf ba bc w) 175 [(Value.bool tight), (Value.pointer (some (⟨bk, 0, none⟩))), (Value.pointer (some (⟨bm, 0, none⟩))), (Value.pointer (some (⟨bv, 0, none⟩))), (Value.pointer (some (⟨bf, 0, none⟩))), (Value.pointer (some (⟨ba, 0, none⟩))), (Value.pointer (some (⟨bc, 0, none⟩)))] w Post = impl_eachKey_1_vc tight bk bm bv bf ba bc w Post := by kernel_rfl
set_option maxRecDepth 100000 in
theorem impl_eachKey_1_calls (tight : Bool) (bk : Nat) (bm : Nat) (bv : Nat) (bf : Nat) (ba : Nat) (bc : Nat) (w : World) (Post : Value → World → Prop) (hvc : impl_eachKey_1_vc tight bk bm bv bf ba bc w Post) : Ret Try.prog 175 #[(Value.bool tight), (Value.pointer (some (⟨bk, 0, none⟩))), (Value.pointer (some (⟨bm, 0, none⟩))), (Value.pointer (some (⟨bv, 0, none⟩))), (Value.pointer (some (⟨bf, 0, none⟩))), (Value.pointer (some (⟨ba, 0, none⟩))), (Value.pointer (some (⟨bc, 0, none⟩)))] w Post :=
  Ret.of (denF_sound mixed (Eq.mpr (impl_eachKey_1_eq tight bk bm bv bf ba bc w Post) hvc))

def impl_eachKey_vc (m_Chambers : Int) (m_Depths : Int) (m_Step : Int) (m_Same : Int) (m_Least : Int) (fr : Value) (al : Value) (vi : Value) (w : World) (Post : Value → World → Prop) : Prop :=
  ∀ (b2 : Nat) (w1 : World), Ext w w1 → w.heap.size ≤ b2 → w1.heap[b2]? = some (.cells #[(Value.int .i64 m_Chambers), (Value.int .i64 m_Depths), (Value.int .i64 m_Step), (Value.int .i64 m_Same), (Value.int .i64 m_Least)] 56 (0, 0)) → oneC fr (∀ (b4 : Nat) (w3 : World), Ext w1 w3 → w1.heap.size ≤ b4 → w3.heap[b4]? = some (.cells #[fr] 22 (0, 0)) → oneC al (∀ (b6 : Nat) (w5 : World), Ext w3 w5 → w3.heap.size ≤ b6 → w5.heap[b6]? = some (.cells #[al] 134 (0, 0)) → oneC vi (∀ (b8 : Nat) (w7 : World), Ext w5 w7 → w5.heap.size ≤ b8 → w7.heap[b8]? = some (.cells #[vi] 95 (0, 0)) → ∀ (v9 : Value) (w10 : World), Own w7.heap.size w10 2 v9 [] → Ext w7 w10 → ∀ (b12 : Nat) (w11 : World), Ext w10 w11 → w10.heap.size ≤ b12 → w11.heap[b12]? = some (.cells #[(Value.slice none 0 0)] 22 (0, 0)) → StV w.heap.size [] w11 (Value.pointer (some (⟨b12, 0, none⟩))) v9 (fun w13 => ∀ (b15 : Nat) (w14 : World), Ext w13 w14 → w13.heap.size ≤ b15 → w14.heap[b15]? = some (.cells #[Value.nilFunc] 140 (0, 0)) → StV w.heap.size [] w14 (Value.pointer (some (⟨b15, 0, none⟩))) (Value.func (.func 175) #[] #[(Value.pointer (some (⟨b12, 0, none⟩))), (Value.pointer (some (⟨b2, 0, none⟩))), (Value.pointer (some (⟨b8, 0, none⟩))), (Value.pointer (some (⟨b4, 0, none⟩))), (Value.pointer (some (⟨b6, 0, none⟩))), (Value.pointer (some (⟨b15, 0, none⟩)))]) (fun w16 => ∃ u17 : Value, LdV w16 (Value.pointer (some (⟨b15, 0, none⟩))) u17 ∧ ∃ u18 : Value, LdV w16 (Value.pointer (some (⟨b4, 0, none⟩))) u18 ∧ ∃ b19 : Bool, NilS u18 b19 ∧ ∃ (fn20 : FuncId) (fi21 ca22 : Array Value), u17 = Value.func (.func fn20) fi21 ca22 ∧ okFn Try.prog fn20 = true ∧ Calls Try.prog fn20 (fi21.toList ++ [(Value.bool (!b19))] ++ ca22.toList).toArray w16 (fun e23 w24 => ∃ b25 : Bool, e23 = .returned (Value.bool b25) ∧ Keeps w.heap.size [] w16 w24 ∧ Post (Value.tuple #[]) w24))))))
theorem impl_eachKey_eq (m_Chambers : Int) (m_Depths : Int) (m_Step : Int) (m_Same : Int) (m_Least : Int) (fr : Value) (al : Value) (vi : Value) (w : World) (Post : Value → World → Prop) : denF Try.prog [4, 5, 6, 7, 8, 9] noAnn 168 [(Value.agg #[(Value.int .i64 m_Chambers), (Value.int .i64 m_Depths), (Value.int .i64 m_Step), (Value.int .i64 m_Same), (Value.int .i64 m_Least)]), fr, al, vi] w Post = impl_eachKey_vc m_Chambers m_Depths m_Step m_Same m_Least fr al vi w Post := by kernel_rfl
set_option maxRecDepth 100000 in
theorem impl_eachKey_calls (m_Chambers : Int) (m_Depths : Int) (m_Step : Int) (m_Same : Int) (m_Least : Int) (fr : Value) (al : Value) (vi : Value) (w : World) (Post : Value → World → Prop) (hvc : impl_eachKey_vc m_Chambers m_Depths m_Step m_Same m_Least fr al vi w Post) : Ret Try.prog 168 #[(Value.agg #[(Value.int .i64 m_Chambers), (Value.int .i64 m_Depths), (Value.int .i64 m_Step), (Value.int .i64 m_Same), (Value.int .i64 m_Least)]), fr, al, vi] w Post :=
  Ret.of (denF_sound mixed (Eq.mpr (impl_eachKey_eq m_Chambers m_Depths m_Step m_Same m_Least fr al vi w Post) hvc))

abbrev bp (b : Nat) : Value := .pointer (some ⟨b, 0, none⟩)
/-- what surrounds a walk -/
structure EK where
  M : Mk
  al : Nat → Int → Bool
  fr : List Int
  wb : World
  K0 : Nat → Prop
  J : (Nat → Prop) → List (List Int) → World → Prop
  go : List (List Int) → List Int → Bool
  L : List (List Int)
  vf : FuncId
  vca : List Value
  frv : Value
  alv : Value
  bk : Nat
  bm : Nat
  bv : Nat
  bf : Nat
  ba : Nat
  bc : Nat
namespace EK
/-- the closure that walks -/
def cap (E : EK) : List Value := [bp E.bk, bp E.bm, bp E.bv, bp E.bf, bp E.ba, bp E.bc]
def mkCells (M : Mk) : Array Value := #[.int .i64 M.c, .int .i64 M.d, .int .i64 M.s, .int .i64 M.m, .int .i64 M.l]
structure Ok (E : EK) : Prop where
  mok : E.M.Ok
  vis : Visitor Try.prog E.vf E.vca E.J E.go E.L
  alok : AlOk Try.prog E.M.c E.M.d E.al (Pres E.K0 E.wb) E.alv
  fr : ∀ w, Pres E.K0 E.wb w → RI w E.frv E.fr
  cuts : CutsOk E.M.d E.fr
  ne : E.bk ≠ E.bm ∧ E.bk ≠ E.bv ∧ E.bk ≠ E.bf ∧ E.bk ≠ E.ba ∧ E.bk ≠ E.bc
  base : ∀ b, E.K0 b → b < E.wb.heap.size
  bk0 : E.wb.heap.size ≤ E.bk
/-- the state of a walk but for the key: the protected blocks K, the keys that have been visited -/
structure SM (E : EK) (K : Nat → Prop) (done : List (List Int)) (w : World) : Prop where
  sub : ∀ b, E.K0 b → K b
  lt : ∀ b, K b → b < w.heap.size
  pres : Pres E.K0 E.wb w
  kk : K E.bk ∧ K E.bm ∧ K E.bv ∧ K E.bf ∧ K E.ba ∧ K E.bc
  hm : w.heap[E.bm]? = some (.cells (mkCells E.M) 56 (0, 0))
  hv : w.heap[E.bv]? = some (.cells #[.func (.func E.vf) #[] E.vca.toArray] 95 (0, 0))
  hf : w.heap[E.bf]? = some (.cells #[E.frv] 22 (0, 0))
  ha : w.heap[E.ba]? = some (.cells #[E.alv] 134 (0, 0))
  hc : w.heap[E.bc]? = some (.cells #[.func (.func 175) #[] E.cap.toArray] 140 (0, 0))
  j : E.J K done w
/-- the key's cell holds v, and v is a row of the walk's own that reads as the cuts p -/
def HK (E : EK) (K : Nat → Prop) (v : Value) (p : List Int) (w : World) : Prop := w.heap[E.bk]? = some (.cells #[v] 22 (0, 0)) ∧ Own E.wb.heap.size w 2 v (ints p) ∧ (∀ g, v.ownBlock = some g → K g)
def SK (E : EK) (K : Nat → Prop) (p : List Int) (done : List (List Int)) (w : World) : Prop := SM E K done w ∧ ∃ v, HK E K v p w
def SS (E : EK) (p : List Int) (done : List (List Int)) (w : World) : Prop := ∃ K, SK E K p done w
section
variable {E : EK} {K : Nat → Prop} {p : List Int} {done done' : List (List Int)} {w w' : World}
theorem SM.keep (h : SM E K done w) (hp : Pres K w w') (hJ : E.J K done' w') : SM E K done' w' := by
  obtain ⟨k1, k2, k3, k4, k5, k6⟩ := h.kk
  have cell : ∀ {b : Nat} {o : Obj}, K b → w.heap[b]? = some o → w'.heap[b]? = some o := fun hb hh => (hp.block _ (heap_lt hh) hb).trans hh
  exact { sub := h.sub, lt := fun b hb => Nat.lt_of_lt_of_le (h.lt b hb) hp.size, pres := h.pres.trans (hp.mono fun b _ hb => h.sub b hb), kk := h.kk, hm := cell k2 h.hm, hv := cell k3 h.hv, hf := cell k4 h.hf, ha := cell k5 h.ha, hc := cell k6 h.hc, j := hJ }
theorem SK.keep (h : SK E K p done w) (hp : Pres K w w') (hJ : E.J K done' w') : SK E K p done' w' := by
  obtain ⟨h, v, v1, v2, v3⟩ := h
  exact ⟨h.keep hp hJ, v, (hp.block _ (heap_lt v1) h.kk.1).trans v1, v2.keep fun g hg => hp.block g (v2.lt hg).2 (v3 g hg), v3⟩
/-- the walk itself turned some of the protected blocks, but no cell that the walk reads -/
theorem SM.env (hE : E.Ok) (h : SM E K done w) (hp : Pres (fun b => ¬ K b) w w') (hp0 : Pres E.K0 w w') (hc : ∀ {b : Nat} {cs : Array Value} {T : TypeId}, (b = E.bm ∨ b = E.bv ∨ b = E.bf ∨ b = E.ba ∨ b = E.bc) → T ≠ 2 → w.heap[b]? = some (.cells cs T (0, 0)) → w'.heap[b]? = some (.cells cs T (0, 0))) : SM E (grow K w w') done w' := by
  obtain ⟨k1, k2, k3, k4, k5, k6⟩ := h.kk
  refine { sub := fun b hb => .inl (h.sub b hb), lt := fun b hb => ?_, pres := h.pres.trans hp0, kk := ⟨.inl k1, .inl k2, .inl k3, .inl k4, .inl k5, .inl k6⟩, hm := hc (by simp) (by decide) h.hm, hv := hc (by simp) (by decide) h.hv, hf := hc (by simp) (by decide) h.hf, ha := hc (by simp) (by decide) h.ha, hc := hc (by simp) (by decide) h.hc, j := hE.vis.env _ _ _ _ h.j hp }
  rcases hb with hb | hb
  · exact Nat.lt_of_lt_of_le (h.lt b hb) hp.size
  · exact hb.2
theorem SK.ext (hE : E.Ok) (h : SK E K p done w) (e : Ext w w') : SK E (grow K w w') p done w' := by
  obtain ⟨h, v, v1, v2, v3⟩ := h
  have cell : ∀ {b : Nat} {o : Obj}, w.heap[b]? = some o → w'.heap[b]? = some o := fun hh => (e.block _ (heap_lt hh)).trans hh
  exact ⟨h.env hE (e.pres _) (e.pres _) fun _ _ hh => cell hh, v, cell v1, v2.ext e, fun g hg => .inl (v3 g hg)⟩
theorem SS.ext (hE : E.Ok) (h : SS E p done w) (e : Ext w w') : SS E p done w' := let ⟨K, h⟩ := h; ⟨_, h.ext hE e⟩
theorem SS.pres (h : SS E p done w) : Pres E.K0 E.wb w := let ⟨K, h⟩ := h; h.1.pres
theorem SS.maker (h : SS E p done w) : w.heap[E.bm]? = some (.cells (mkCells E.M) 56 (0, 0)) := let ⟨K, h⟩ := h; h.1.hm
theorem SS.key (h : SS E p done w) : ∃ v, LdV w (bp E.bk) v ∧ RI w v p := let ⟨K, h, v, v1, v2, _⟩ := h; ⟨v, ld_one v1, v2.rd⟩
theorem SS.from_ (h : SS E p done w) : LdV w (bp E.bf) E.frv := let ⟨K, h⟩ := h; ld_one h.1.hf
theorem SS.allowed (h : SS E p done w) : LdV w (bp E.ba) E.alv := let ⟨K, h⟩ := h; ld_one h.1.ha
theorem SS.self (h : SS E p done w) : LdV w (bp E.bc) (.func (.func 175) #[] E.cap.toArray) := let ⟨K, h⟩ := h; ld_one h.1.hc
/-- a store of a row into the key's cell -/
theorem SM.set (hE : E.Ok) (h : SM E K done w) {v : Value} (v1 : w.heap[E.bk]? = some (.cells #[v] 22 (0, 0))) {p' : List Int} {v' : Value} (ho : Own E.wb.heap.size w 2 v' (ints p')) (hK : ∀ g, v'.ownBlock = some g → K g) {n0 : Nat} {R : World → Prop}
    (hR : ∀ w', SS E p' done w' → w.heap.size ≤ w'.heap.size → R w') : StV n0 [] w (bp E.bk) v' R := by
  have k1 := h.kk.1
  obtain ⟨n1, n2, n3, n4, n5⟩ := hE.ne
  refine st_one v1 ho.rd.one (.inr (by simp)) fun w' h1 hp hs => hR w' ⟨grow K w w', ?_, v', h1, ?_, fun g hg => .inl (hK g hg)⟩ hp.size
  · refine h.env hE (hp.mono fun b _ hb hh => hb (hh ▸ k1)) (hp.mono fun b _ hb => ?_) fun {b cs T} hb _ hh => (hp.block _ (heap_lt hh) ?_).trans hh
    · rintro rfl
      have := hE.base _ hb
      have := hE.bk0
      omega
    · rcases hb with rfl | rfl | rfl | rfl | rfl
      · exact n1.symm
      · exact n2.symm
      · exact n3.symm
      · exact n4.symm
      · exact n5.symm
  · refine ho.keep fun g hg => hp.block g (ho.lt hg).2 ?_
    rintro rfl
    rcases ho.2 with ⟨rfl, _⟩ | ⟨g', cap, cur, rfl, _, hh, _⟩
    · simp [Value.ownBlock] at hg
    · have : g' = E.bk := by simpa [Value.ownBlock] using hg
      subst this
      rw [v1] at hh
      injection hh with hh
      injection hh with _ he _
      exact absurd he (by decide)
/-- 'key = append(key, x)' -/
theorem SS.push (hE : E.Ok) (h : SS E p done w) (x : Int) (hl : p.length ≤ 100) {n0 : Nat} {R : World → Prop} (hR : ∀ w', SS E (p ++ [x]) done w' → w.heap.size ≤ w'.heap.size → R w') :
    ∃ u : Value, LdV w (bp E.bk) u ∧ ∀ (v : Value) (w1 : World), Own w.heap.size w1 2 v [.int .i64 x] → Ext w w1 → AppV w1 2 u v fun v' w2 => StV n0 [] w2 (bp E.bk) v' R := by
  obtain ⟨K, h⟩ := h
  obtain ⟨u, u1, u2, u3⟩ := h.2
  refine ⟨u, ld_one u1, fun nv w1 hn e => ?_⟩
  obtain ⟨S1, _⟩ := h.ext hE e
  have u1 := (e.block _ (heap_lt u1)).trans u1
  have u2 := u2.ext e
  refine u2.app1 hn rfl (by simp; omega) S1.pres.size fun v' w2 ho hg hb => ?_
  have htyp : ∀ {b : Nat} {cs : Array Value} {T : TypeId}, T ≠ 2 → w1.heap[b]? = some (.cells cs T (0, 0)) → w2.heap[b]? = some (.cells cs T (0, 0)) := by
    intro b cs T hT hh
    refine (hg.block b (heap_lt hh) ?_).trans hh
    intro hbb
    rcases u2.2 with ⟨rfl, _⟩ | ⟨g', cap, cur, rfl, _, hh', _⟩
    · simp [Value.ownBlock] at hbb
    · have : b = g' := by simpa [Value.ownBlock] using hbb
      subst this
      rw [hh] at hh'
      injection hh' with hh'
      injection hh' with _ he _
      exact hT he
  have hbase : ∀ b, u.ownBlock = some b → ¬ E.K0 b := by
    intro b hb h0
    have := (u2.lt hb).1
    have := hE.base _ h0
    omega
  have S2 := S1.env hE (grown_pres hg fun b hb hn => hn (.inl (u3 b hb))) (grown_pres hg hbase) fun _ hT hh => htyp hT hh
  refine S2.set hE (htyp (by decide) u1) (p' := p ++ [x]) (by rw [ints_append]; exact ho) (fun g hg2 => ?_) fun w3 S3 h3 => hR w3 S3 (Nat.le_trans (Nat.le_trans e.size hg.size) h3)
  rcases hb with hb | hb
  · rw [hb] at hg2
    exact .inl (.inl (u3 g hg2))
  · have h3 := (ho.lt hg2).2
    rw [hb] at hg2
    have : w1.heap.size = g := by simpa using hg2
    subst this
    exact .inr ⟨Nat.le_refl _, h3⟩
/-- 'key = key[:n]' -/
theorem SS.pop (hE : E.Ok) {x : Int} (h : SS E (p ++ [x]) done w) {n0 : Nat} {n : Int} (hn : n = p.length) {R : World → Prop} (hR : ∀ w', SS E p done w' → w.heap.size ≤ w'.heap.size → R w') :
    ∃ u : Value, LdV w (bp E.bk) u ∧ SlV 1 u none (some n) none fun u => StV n0 [] w (bp E.bk) u R := by
  obtain ⟨K, h⟩ := h
  obtain ⟨u, u1, u2, u3⟩ := h.2
  refine ⟨u, ld_one u1, u2.cut p.length hn (by simp) fun v ho hb => ?_⟩
  rw [ints_append, List.take_left' (by simp)] at ho
  exact h.1.set hE u1 ho (fun g hg => u3 g (by rw [← hb]; exact hg)) hR
/-- a visit -/
theorem SS.visit (hE : E.Ok) (h : SS E p done w) (hL : ∃ r, E.L = done ++ p :: r) : ∃ v, LdV w (bp E.bk) v ∧ LdV w (bp E.bv) (.func (.func E.vf) #[] E.vca.toArray) ∧
    Calls Try.prog E.vf ([v] ++ E.vca).toArray w fun e w' => e = .returned (.bool (E.go done p)) ∧ w.heap.size ≤ w'.heap.size ∧ SS E p (done ++ [p]) w' := by
  obtain ⟨K, h⟩ := h
  obtain ⟨u, u1, u2, u3⟩ := h.2
  refine ⟨u, ld_one u1, ld_one h.1.hv, (hE.vis.call K done p w u h.1.j h.1.lt (fun w' hp => ?_) hL).mono fun e w' ⟨h1, h2, h3⟩ => ⟨h1, h2.size, K, h.keep h2 h3⟩⟩
  have := u2.keep fun g hg => hp.block g (u2.lt hg).2 (u3 g hg)
  exact this.rd
end
end EK
end Go.Proofs
