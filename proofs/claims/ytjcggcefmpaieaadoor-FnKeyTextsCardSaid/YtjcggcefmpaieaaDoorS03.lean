/- The reference's decimal numeral. No condition. -/
import Derived.Test.YtjcggcefmpaieaaDoorS02
import Derived.Shelf.Abstract
import Derived.Shelf.RegionOpen
import Derived.WalkKit
import Derived.OwnWalkIn
import Derived.TacticsInMore
import Derived.LoopNIn
import Derived.LoopIn
set_option linter.unusedVariables false
namespace Go.Proofs
open Go.Sx Go.RowKit Go.Shelf Go.Tx

/-- the text of these bytes -/
abbrev txt (l : List UInt8) : Value := .string ⟨l.toArray⟩
theorem u8d (n : Int) (h : 0 ≤ n ∧ n < 10) : 48 + n = ((UInt8.ofNat (48 + n.toNat)).toNat : Int) := by
  rw [digit_nat _ (by omega)]
  omega
/-- a text of one digit, made of one cell -/
theorem conv1 (w : World) (b : Nat) (n : Int) (h : 0 ≤ n ∧ n < 10) (hc : w.cell? ⟨b, 0, none⟩ = some (.int .u8 (48 + n))) : (convert 22 9 (.slice (some ⟨b, 0, none⟩) 1 1)).run Tryd.prog w = .ok (txt [UInt8.ofNat (48 + n.toNat)]) w :=
  run_convert_bytes_back _ _ _ 5 ⟨b, 0, none⟩ 1 [UInt8.ofNat (48 + n.toNat)] Tryd.underlying22 Tryd.underlying5 Tryd.underlying9 fun j hj => by
    have : j = 0 := by simpa using hj
    subst this
    rw [show (⟨b, 0, none⟩ : Addr).add 0 = ⟨b, 0, none⟩ from rfl, hc, u8d n h]
    rfl

set_option maxRecDepth 100000 in
set_option maxHeartbeats 2000000 in
theorem spec_l01Dec_val : ∀ (k : Nat) (n : Int) (w : World), n.toNat < k → 0 ≤ n → n ≤ 9223372036854775807 → Val Tryd.prog 77 #[.int .i64 n] w (txt (Lib.decDigits n.toNat)) := by
  intro k
  induction k with
  | zero => intro n w h; omega
  | succ k ih =>
    intro n w hk h0 h1
    refine Ret.val (Ret.of ?_)
    refine (callsIn_wide (n := 5)).1 ?_
    refine callsIn_of_wp Tryd.func77 rfl trivial ?_ rfl
    simp only [Tryd.ntmps77, List.size_toArray, List.length_cons, List.length_nil, Nat.reduceAdd, Nat.reduceSub, Array.replicate_succ, Array.replicate_zero, List.push_toArray, List.append_toArray, List.nil_append, List.cons_append]
    by_cases hn : n < 10
    · have hc := conv1 (w.alloc (.cells #[.int .u8 (48 + n)] 5)) w.heap.size n ⟨h0, hn⟩ (by simp)
      have hfin : txt [UInt8.ofNat (48 + n.toNat)] = txt (Lib.decDigits n.toNat) := by rw [dd_small (show n.toNat < 10 by omega)]
      generalize txt [UInt8.ofNat (48 + n.toNat)] = d at hc hfin
      gi_wp2
      exact bodyPost_ret (results_tmp rfl _ _ _) rfl ⟨_, rfl, rfl, Ext.alloc _ _⟩
    · have e1 : IntKind.i64.wrap (n.tdiv 10) = n / 10 := by
        rw [Int.tdiv_eq_ediv_of_nonneg h0]
        exact (show I64 (n / 10) by unfold I64; omega).wrap
      have e2 : IntKind.u8.wrap (IntKind.i64.wrap (48 + n.tmod 10)) = 48 + n % 10 := by
        rw [Int.tmod_eq_emod_of_nonneg h0, (show I64 (48 + n % 10) by unfold I64; omega).wrap]
        simp only [IntKind.wrap, IntKind.bits, IntKind.signed]
        simp
        omega
      have hl : (Lib.decDigits (n / 10).toNat).length ≤ 20 := by
        have := dd_length (n / 10).toNat 20 (by omega) (by omega)
        exact this
      obtain ⟨s, hs⟩ : ∃ s : ByteArray, s = ⟨(Lib.decDigits (n / 10).toNat).toArray⟩ := ⟨_, rfl⟩
      obtain ⟨d, hd⟩ : ∃ d : ByteArray, d = ⟨[UInt8.ofNat (48 + (n % 10).toNat)].toArray⟩ := ⟨_, rfl⟩
      have hsz : s.size + d.size ≤ 9223372036854775807 := by
        subst hs hd
        simp [ByteArray.size]
        omega
      have hih : ∀ W, Val Tryd.prog 77 #[.int .i64 (IntKind.i64.wrap (n.tdiv 10))] W (.string s) := fun W => by
        rw [e1, hs]
        exact ih (n / 10) W (by omega) (by omega) (by omega)
      have hc : ∀ (w : World) (b : Nat), w.cell? ⟨b, 0, none⟩ = some (Value.int .u8 (IntKind.u8.wrap (IntKind.i64.wrap (48 + n.tmod 10)))) → (convert 22 9 (.slice (some ⟨b, 0, none⟩) 1 1)).run Tryd.prog w = .ok (.string d) w := fun w b h => by
        rw [hd]
        exact conv1 w b (n % 10) (by omega) (by rw [← e2]; exact h)
      have hfin : .string (s ++ d) = txt (Lib.decDigits n.toNat) := by
        have e : (n / 10).toNat = n.toNat / 10 := by omega
        have e' : (n % 10).toNat = n.toNat % 10 := by omega
        rw [hs, hd, dd_big (show ¬ n.toNat < 10 by omega), e, e']
        congr 1
      clear hs hd hl
      clear e1 e2
      clear ih
      have hmx : Tryd.prog.follows .mixedOrders = true := mixed
      gi_wp2
      gi_region_with_o (refine ⟨trivial, ?_⟩; gi_at_call 77; refine (callsIn_wide.2 (Val.calls (hih _))).mono ?_; rintro e w' ⟨rfl, hw'⟩; have hq := fun hh => hc w' w.heap.size (hw'.cell hh))
      all_goals gi_wp2
      all_goals (try go_bits)
      all_goals first
        | exact bodyPost_ret (results_tmp rfl _ _ _) rfl ⟨_, rfl, rfl, ((Ext.drawn _ _).trans hw').trans (Ext.alloc _ _)⟩
        | exact bodyPost_ret (results_tmp rfl _ _ _) rfl ⟨_, rfl, rfl, ((Ext.alloc _ _).trans (Ext.drawn _ _)).trans hw'⟩
end Go.Proofs
