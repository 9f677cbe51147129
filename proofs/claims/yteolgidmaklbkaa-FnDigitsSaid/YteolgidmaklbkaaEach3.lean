/- 'eachKey': the visits come one behind the other, in order, until one says no. No condition. -/
import Derived.Test.YteolgidmaklbkaaEach2
set_option linter.unusedVariables false
namespace Go.Proofs
open Go.Sx Go.RowKit
theorem eachKey_calls {M : Mk} {al : Nat → Int → Bool} {fr : List Int} {w : World} {K0 : Nat → Prop} {J : (Nat → Prop) → List (List Int) → World → Prop} {go : List (List Int) → List Int → Bool} {vf : FuncId} {vca : List Value} {frv alv : Value} {tight : Bool}
    (hM : M.Ok) (hV : Visitor Try.prog vf vca J go (GT M al fr M.c.toNat [] tight)) (hal : AlOk Try.prog M.c M.d al (Pres K0 w) alv) (hn : NilS frv (!tight)) (hfr : ∀ w', Pres K0 w w' → RI w' frv fr) (hcut : CutsOk M.d fr) (htl : tight = true → (fr.length : Int) = M.c)
    (hbase : ∀ b, K0 b → b < w.heap.size) (hJ : J K0 [] w) :
    Calls Try.prog 168 #[mkV M.c M.d M.s M.m M.l, frv, alv, .func (.func vf) #[] vca.toArray] w fun e w' => e = .returned (.tuple #[]) ∧ (∃ K, (∀ b, K0 b → K b) ∧ J K (vis go [] (GT M al fr M.c.toNat [] tight)).1 w') ∧ Pres K0 w w' := by
  refine (impl_eachKey_calls M.c M.d M.s M.m M.l frv alv (.func (.func vf) #[] vca.toArray) w (fun v w' => v = .tuple #[] ∧ (∃ K, (∀ b, K0 b → K b) ∧ J K (vis go [] (GT M al fr M.c.toNat [] tight)).1 w') ∧ Pres K0 w w') ?_).call fun v w' h => ⟨by rw [h.1], h.2⟩
  have hone : alv.oneCell' = true := by
    rcases hal with ⟨rfl, _⟩ | ⟨f, ca, rfl, _⟩ <;> rfl
  unfold impl_eachKey_vc
  intro b2 w1 h1 g2 c2
  refine (hfr w (.refl _ _)).oneC fun b4 w3 h3 g4 c4 => oneC_iff.2 ⟨hone, fun b6 w5 h5 g6 c6 => oneC_iff.2 ⟨rfl, fun b8 w7 h7 g8 c8 v9 w10 o9 h10 b12 w11 h11 g12 c12 => ?_⟩⟩
  have s2 := heap_lt c2
  have s4 := heap_lt c4
  have s6 := heap_lt c6
  have s8 := heap_lt c8
  have s12 := heap_lt c12
  have z1 := h1.size
  have z3 := h3.size
  have z5 := h5.size
  have z7 := h7.size
  have z10 := h10.size
  have z11 := h11.size
  refine st_one c12 o9.rd.one (.inr (by simp)) fun w13 c12 p13 z13 b15 w14 h14 g15 c15 => ?_
  have s15 := heap_lt c15
  have z14 := h14.size
  refine st_one c15 rfl (.inr (by simp)) fun w16 c15 p16 z16 => ?_
  have old : ∀ {b : Nat} {o : Obj} {W : World}, Ext W w11 → W.heap[b]? = some o → b < W.heap.size → b ≠ b12 → b ≠ b15 → w16.heap[b]? = some o := by
    intro b o W hW hh hb n1 n2
    have e1 := (hW.block b hb).trans hh
    have l1 := Nat.lt_of_lt_of_le hb hW.size
    have e2 := (p13.block b l1 n1).trans e1
    have e3 := (h14.block b (by omega)).trans e2
    exact (p16.block b (by omega) n2).trans e3
  have E10 : Ext w10 w11 := h11
  have E7 := h10.trans E10
  have E5 := h7.trans E7
  have E3 := h5.trans E5
  have E1 := h3.trans E3
  have E0 := h1.trans E1
  have X13 : Ext w w13 := p13.ext E0 fun b hb => by omega
  have X16 : Ext w w16 := p16.ext (X13.trans h14) fun b hb => by omega
  let E : EK := { M := M, al := al, fr := fr, wb := w, K0 := K0, J := J, go := go, L := GT M al fr M.c.toNat [] tight, vf := vf, vca := vca, frv := frv, alv := alv, bk := b12, bm := b2, bv := b8, bf := b4, ba := b6, bc := b15 }
  have hE : E.Ok := { mok := hM, vis := hV, alok := hal, fr := hfr, cuts := hcut, ne := ⟨by show b12 ≠ b2; omega, by show b12 ≠ b8; omega, by show b12 ≠ b4; omega, by show b12 ≠ b6; omega, by show b12 ≠ b15; omega⟩, base := hbase, bk0 := by show w.heap.size ≤ b12; omega }
  have o16 : Own w.heap.size w16 2 v9 (ints []) := by
    have o10 : Own w.heap.size w10 2 v9 (ints []) := o9.mono (by omega)
    refine o10.keep fun g hg => ?_
    have hl := o9.lt hg
    have hb : g < w11.heap.size := by omega
    have e1 := h11.block g hl.2
    have e2 := p13.block g hb (by omega)
    have e3 := h14.block g (by omega)
    have e4 := p16.block g (by omega) (by omega)
    rw [e4, e3, e2, e1]
  have hS : EK.SS E [] [] w16 := by
    refine ⟨grow K0 w w16, { sub := fun b hb => .inl hb, lt := fun b hb => ?_, pres := X16.pres _, kk := ⟨.inr ?_, .inr ?_, .inr ?_, .inr ?_, .inr ?_, .inr ?_⟩, hm := ?_, hv := ?_, hf := ?_, ha := ?_, hc := c15, j := hV.env _ _ _ _ hJ (X16.pres _) }, v9, ?_, o16, fun g hg => .inr (o16.lt hg)⟩
    · rcases hb with hb | hb
      · exact Nat.lt_of_lt_of_le (hbase b hb) X16.size
      · exact hb.2
    · show w.heap.size ≤ b12 ∧ b12 < w16.heap.size; omega
    · show w.heap.size ≤ b2 ∧ b2 < w16.heap.size; omega
    · show w.heap.size ≤ b8 ∧ b8 < w16.heap.size; omega
    · show w.heap.size ≤ b4 ∧ b4 < w16.heap.size; omega
    · show w.heap.size ≤ b6 ∧ b6 < w16.heap.size; omega
    · show w.heap.size ≤ b15 ∧ b15 < w16.heap.size; omega
    · exact old (b := b2) E1 c2 s2 (by omega) (by omega)
    · exact old (b := b8) E7 c8 s8 (by omega) (by omega)
    · exact old (b := b4) E3 c4 s4 (by omega) (by omega)
    · exact old (b := b6) E5 c6 s6 (by omega) (by omega)
    · exact (p16.block b12 (by omega) (by omega)).trans ((h14.block b12 (by omega)).trans c12)
  refine ⟨_, ld_one c15, _, hS.from_, !tight, hn, _, #[], E.cap.toArray, rfl, by kernel_rfl, ?_⟩
  rw [Bool.not_not]
  obtain ⟨hm1, hm2, _⟩ := hM
  refine (EK.cut_calls hE M.c.toNat [] tight [] w16 (by show ((([] : List Int).length : Nat) : Int) + _ = M.c; simp; omega) (Begins.nil_ _) (by intro z hz; simp at hz) htl ⟨[], by simp [E]⟩ hS).mono ?_
  rintro e w24 ⟨rfl, ⟨K, hK⟩, z24⟩
  exact ⟨_, rfl, keeps_nil z24, rfl, ⟨K, hK.1.sub, hK.1.j⟩, hK.1.pres⟩
end Go.Proofs
