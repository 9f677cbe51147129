/- Joined and met locks: their contracts. No condition. -/
import Derived.Test.YtjcggcefmpaieaaDoorL04d
import Derived.Test.YtjcggcefmpaieaaDoorL05a
set_option linter.unusedVariables false
namespace Go.Proofs
open Go.Sx Go.RowKit
/-- a call hands back a lock of its own and a code -/
def LkR (f : FuncId) (args : Array Value) (w : World) (zss : List (List Int)) (code : Int) : Prop :=
  Ret Tryd.prog f args w fun r w' => ∃ u, r = .tuple #[lkV u, .int .i64 code] ∧ OwnR w.heap.size w' u zss ∧ Ext w w'
/-- the depths below n that p holds of -/
def filt (p : Int → Bool) (n : Nat) : List Int := (upFrom 0 n).filter p
theorem filt_zero (p : Int → Bool) : filt p 0 = [] := rfl
theorem filt_yes {p : Int → Bool} {n : Nat} (h : p n = true) : filt p (n + 1) = filt p n ++ [(n : Int)] := by
  unfold filt
  rw [upFrom_succ, List.filter_append, Int.zero_add]
  simp [h]
theorem filt_no {p : Int → Bool} {n : Nat} (h : p n = false) : filt p (n + 1) = filt p n := by
  unfold filt
  rw [upFrom_succ, List.filter_append, Int.zero_add]
  simp [h]
theorem filt_len (p : Int → Bool) (n : Nat) : (filt p n).length ≤ n := by
  unfold filt
  exact Nat.le_trans (List.length_filter_le _ _) (by simp)
theorem filt_rises (p : Int → Bool) (n : Nat) : Rises n (filt p n) (filt p n).length := by
  have hs : (filt p n).Pairwise (· < ·) := (upFrom_sorted 0 n).filter _
  intro i hi
  have hm := List.mem_filter.1 (List.getElem_mem hi)
  have := mem_upFrom.1 hm.1
  unfold RiseAt
  rw [getD_get hi]
  refine ⟨by omega, by omega, fun h0 => ?_⟩
  rw [getD_get (show i - 1 < (filt p n).length by omega)]
  exact List.pairwise_iff_getElem.1 hs (i - 1) i (by omega) hi (by omega)
/-- the sets of n chambers -/
def rowsOf (p : Nat → Int → Bool) (d : Int) (n : Nat) : List (List Int) := (List.range n).map fun i => filt (p i) d.toNat
theorem rowsOf_length (p : Nat → Int → Bool) (d : Int) (n : Nat) : (rowsOf p d n).length = n := by simp [rowsOf]
theorem rowsOf_succ (p : Nat → Int → Bool) (d : Int) (n : Nat) : rowsOf p d (n + 1) = rowsOf p d n ++ [filt (p n) d.toNat] := by simp [rowsOf, List.range_succ]
theorem rowsOf_setsOk {p : Nat → Int → Bool} {d : Int} (hd : 0 ≤ d) {n : Nat} (h : ∀ i, i < n → filt (p i) d.toNat ≠ []) : SetsOk d (rowsOf p d n) := by
  intro z hz
  obtain ⟨i, hi, rfl⟩ := List.mem_map.1 hz
  have hi := List.mem_range.1 hi
  refine ⟨h i hi, ?_⟩
  have := filt_rises (p i) d.toNat
  rwa [show ((d.toNat : Nat) : Int) = d by omega] at this
def pJ (za zb : List (List Int)) : Nat → Int → Bool := fun i x => Al za i x || Al zb i x
def pM (za zb : List (List Int)) : Nat → Int → Bool := fun i x => Al za i x && Al zb i x
theorem al_get {za : List (List Int)} {i : Nat} (hi : i < za.length) (x : Int) : Al za i x = decide (x ∈ za[i]) := by
  unfold Al
  rw [List.getD, List.getElem?_eq_getElem hi]
  rfl
theorem filter_set {d : Int} {za : List (List Int)} (hs : SetsOk d za) {i : Nat} (hi : i < za.length) (q : Int → Bool) : za[i].filter q = filt (fun x => Al za i x && q x) d.toNat := by
  unfold filt
  have := set_ups hs hi
  unfold ups at this
  rw [← this, List.filter_filter]
  congr 1
  funext x
  exact Bool.and_comm ..
abbrev Lk2 (M : Mk) (za zb : List (List Int)) : Prop := LkOk M.c M.d M.s M.m M.l za ∧ LkOk M.c M.d M.s M.m M.l zb
def joinR (M : Mk) (za zb : List (List Int)) : List (List Int) := if Lk2 M za zb then rowsOf (pJ za zb) M.d M.c.toNat else []
def joinCode (M : Mk) (za zb : List (List Int)) : Int := if Lk2 M za zb then 0 else 1
def meetOk (M : Mk) (za zb : List (List Int)) : Prop := ∀ i, i < M.c.toNat → filt (pM za zb i) M.d.toNat ≠ []
instance (M : Mk) (za zb : List (List Int)) : Decidable (meetOk M za zb) := inferInstanceAs (Decidable (∀ i, i < _ → _))
def meetR (M : Mk) (za zb : List (List Int)) : List (List Int) := if Lk2 M za zb then (if meetOk M za zb then rowsOf (pM za zb) M.d M.c.toNat else []) else []
def meetCode (M : Mk) (za zb : List (List Int)) : Int := if Lk2 M za zb then (if meetOk M za zb then 0 else 4) else 1
theorem joinR_yes {M : Mk} {za zb : List (List Int)} (h : Lk2 M za zb) : joinR M za zb = rowsOf (pJ za zb) M.d M.c.toNat ∧ joinCode M za zb = 0 := by unfold joinR joinCode; rw [if_pos h, if_pos h]; exact ⟨rfl, rfl⟩
theorem joinR_no {M : Mk} {za zb : List (List Int)} (h : ¬ Lk2 M za zb) : joinR M za zb = [] ∧ joinCode M za zb = 1 := by unfold joinR joinCode; rw [if_neg h, if_neg h]; exact ⟨rfl, rfl⟩
theorem meetR_yes {M : Mk} {za zb : List (List Int)} (h : Lk2 M za zb) (h2 : meetOk M za zb) : meetR M za zb = rowsOf (pM za zb) M.d M.c.toNat ∧ meetCode M za zb = 0 := by unfold meetR meetCode; rw [if_pos h, if_pos h, if_pos h2, if_pos h2]; exact ⟨rfl, rfl⟩
theorem meetR_none {M : Mk} {za zb : List (List Int)} (h : Lk2 M za zb) (h2 : ¬ meetOk M za zb) : meetR M za zb = [] ∧ meetCode M za zb = 4 := by unfold meetR meetCode; rw [if_pos h, if_pos h, if_neg h2, if_neg h2]; exact ⟨rfl, rfl⟩
theorem meetR_no {M : Mk} {za zb : List (List Int)} (h : ¬ Lk2 M za zb) : meetR M za zb = [] ∧ meetCode M za zb = 1 := by unfold meetR meetCode; rw [if_neg h, if_neg h]; exact ⟨rfl, rfl⟩
theorem lk2_lks {M : Mk} {za zb : List (List Int)} : LksOk M.c M.d M.s M.m M.l [za, zb] ↔ Lk2 M za zb := by
  unfold LksOk Lk2 LkOk
  simp only [List.mem_cons, List.not_mem_nil, or_false, forall_eq_or_imp, forall_eq]
  constructor
  · rintro ⟨h1, h2, h3⟩
    exact ⟨⟨h1, h2⟩, h1, h3⟩
  · rintro ⟨⟨h1, h2⟩, _, h3⟩
    exact ⟨h1, h2, h3⟩
theorem OwnR.new {B : Nat} {w0 w : World} {u : Value} (o : Own B w 24 u []) (h : w0.heap.size ≤ B) : OwnR w0.heap.size w u [] := ⟨[], o.mono h, Rows.nil_, .nil⟩
theorem meet_isLock {M : Mk} {za zb : List (List Int)} (hA : LkOk M.c M.d M.s M.m M.l za) : (((rowsOf (pM za zb) M.d M.c.toNat).length : Int) = M.c ∧ SetsOk M.d (rowsOf (pM za zb) M.d M.c.toNat)) ↔ meetOk M za zb := by
  have hc := hA.1.1
  have hd := hA.1.2.1
  constructor
  · rintro ⟨_, hs⟩ i hi
    exact (hs _ (List.mem_map.2 ⟨i, List.mem_range.2 hi, rfl⟩)).1
  · intro h
    exact ⟨by rw [rowsOf_length]; omega, rowsOf_setsOk (by omega) h⟩
theorem rowsOf_total {p : Nat → Int → Bool} {d : Int} (hd : d ≤ 8) {n : Nat} (hn : n ≤ 6) : total (rowsOf p d n) ≤ 48 := by
  have := total_max (zss := rowsOf p d n) (n := 8) fun z hz => by
    obtain ⟨i, hi, rfl⟩ := List.mem_map.1 hz
    have := filt_len (p i) d.toNat
    omega
  rw [rowsOf_length] at this
  omega
theorem joinR_total (M : Mk) (za zb : List (List Int)) : total (joinR M za zb) ≤ 1000000 := by
  unfold joinR
  split
  · rename_i h
    have hc := h.1.1.1
    have hd := h.1.1.2.1
    have := rowsOf_total (p := pJ za zb) (d := M.d) (by omega) (n := M.c.toNat) (by omega)
    omega
  · simp [total]
theorem meetR_total (M : Mk) (za zb : List (List Int)) : total (meetR M za zb) ≤ 1000000 := by
  unfold meetR
  split
  · rename_i h
    split
    · have hc := h.1.1.1
      have hd := h.1.1.2.1
      have := rowsOf_total (p := pM za zb) (d := M.d) (by omega) (n := M.c.toNat) (by omega)
      omega
    · simp [total]
  · simp [total]
end Go.Proofs
