/- The walk through all keys: what it comes to. No condition. -/
import Derived.Test.YteolgidmaklbkaaEach
set_option linter.unusedVariables false
namespace Go.Proofs
open Go.Sx Go.RowKit
theorem vis_true {α : Type} {go : List α → α → Bool} : ∀ {l done : List α}, (vis go done l).2 = true → (vis go done l).1 = done ++ l
  | [], done, _ => by simp [vis]
  | k :: l, done, h => by
    simp only [vis] at h ⊢
    split at h
    · rename_i hg
      rw [if_pos hg, vis_true h]
      simp
    · cases h
namespace EK
/-- the keys that are left at cut x of the next chamber -/
def rest (E : EK) (n : Nat) (p : List Int) (b : Bool) (lo x : Int) : List (List Int) := ((upFrom x (E.M.d - x).toNat).filter (E.al p.length)).flatMap fun y => GT E.M E.al E.fr n (p ++ [y]) (b && decide (y = lo))
theorem rest_end {E : EK} {n : Nat} {p : List Int} {b : Bool} {lo x : Int} (h : E.M.d ≤ x) : rest E n p b lo x = [] := by
  unfold rest
  rw [show (E.M.d - x).toNat = 0 by omega]
  rfl
theorem rest_step {E : EK} {n : Nat} {p : List Int} {b : Bool} {lo x : Int} (h : x < E.M.d) : rest E n p b lo x = (if E.al p.length x = true then GT E.M E.al E.fr n (p ++ [x]) (b && decide (x = lo)) else []) ++ rest E n p b lo (x + 1) := by
  unfold rest
  rw [show (E.M.d - x).toNat = (E.M.d - (x + 1)).toNat + 1 by omega, upFrom_cons, List.filter_cons]
  split
  · rw [List.flatMap_cons]
  · rfl
theorem begins_snoc {M : Mk} {p : List Int} {x : Int} : Begins M (p ++ [x]) ↔ Begins M p ∧ StepAt M.s (p ++ [x]) p.length ∧ (runAt (p ++ [x]) p.length : Int) ≤ M.m :=
  ⟨fun h => ⟨h.pre, h p.length (by simp)⟩, fun h => h.1.snoc h.2.1 h.2.2⟩
set_option maxHeartbeats 1000000 in
theorem cut_calls {E : EK} (hE : E.Ok) : ∀ (n : Nat) (p : List Int) (tight : Bool) (done : List (List Int)) (w : World), (p.length : Int) + n = E.M.c → Begins E.M p → CutsOk E.M.d p → (tight = true → (E.fr.length : Int) = E.M.c) →
    (∃ r, E.L = done ++ (GT E.M E.al E.fr n p tight ++ r)) → SS E p done w →
    Calls Try.prog 175 ([Value.bool tight] ++ E.cap).toArray w fun e w' => e = .returned (.bool (vis E.go done (GT E.M E.al E.fr n p tight)).2) ∧ SS E p (vis E.go done (GT E.M E.al E.fr n p tight)).1 w' ∧ w.heap.size ≤ w'.heap.size := by
  intro n
  obtain ⟨hm1, hm2, hm3, hm4, hm5⟩ := hE.mok
  induction n with
  | zero =>
    intro p tight done w hp hb hcut ht hL hS
    have hp : (p.length : Int) = E.M.c := by omega
    refine (impl_eachKey_1_calls tight E.bk E.bm E.bv E.bf E.ba E.bc w (fun v w' => v = .bool (vis E.go done (GT E.M E.al E.fr 0 p tight)).2 ∧ SS E p (vis E.go done (GT E.M E.al E.fr 0 p tight)).1 w' ∧ w.heap.size ≤ w'.heap.size) ?_).call fun v w' h => ⟨by rw [h.1], h.2⟩
    unfold impl_eachKey_1_vc
    obtain ⟨v, v1, v2⟩ := hS.key
    refine ⟨v, v1, v2.len ⟨_, rfl, E.M.c, ld_at hS.maker 0 rfl, fun _ w5 h5 => ?_, fun hne => absurd hp hne⟩⟩
    have S5 := hS.ext hE h5
    obtain ⟨v, v1, v2⟩ := S5.key
    refine ⟨v, v1, _, rfl, E.M.l, ld_at S5.maker 4 rfl, ?_⟩
    refine (impl_different_val v p w5 v2).call fun w10 h10 => ⟨_, rfl, h10.keeps, h10, fun hlt => ?_, fun hge => ?_⟩
    · have e : GT E.M E.al E.fr 0 p tight = [] := by simp only [GT]; rw [if_neg (by omega)]
      rw [e]
      exact ⟨rfl, S5.ext hE h10, Nat.le_trans h5.size h10.size⟩
    · have e : GT E.M E.al E.fr 0 p tight = [p] := by simp only [GT]; rw [if_pos ⟨hb, by omega⟩]
      rw [e] at hL ⊢
      obtain ⟨u, u1, u2, u3⟩ := (S5.ext hE h10).visit hE (by simpa using hL)
      refine ⟨_, u2, u, u1, E.vf, #[], E.vca.toArray, rfl, hE.vis.ok, u3.mono ?_⟩
      rintro e w18 ⟨rfl, h18, S18⟩
      have hres : vis E.go done [p] = (done ++ [p], E.go done p) := by
        simp only [vis]
        split
        · rename_i hg; rw [hg]
        · rename_i hg; rw [Bool.not_eq_true] at hg; rw [hg]
      rw [hres]
      exact ⟨_, rfl, keeps_nil h18, rfl, S18, Nat.le_trans (Nat.le_trans h5.size h10.size) h18⟩
  | succ n ih =>
    intro p tight done w hp hb hcut ht hL hS
    have hpl : p.length ≤ 6 := by omega
    refine (impl_eachKey_1_calls tight E.bk E.bm E.bv E.bf E.ba E.bc w (fun v w' => v = .bool (vis E.go done (GT E.M E.al E.fr (n + 1) p tight)).2 ∧ SS E p (vis E.go done (GT E.M E.al E.fr (n + 1) p tight)).1 w' ∧ w.heap.size ≤ w'.heap.size) ?_).call fun v w' h => ⟨by rw [h.1], h.2⟩
    unfold impl_eachKey_1_vc
    obtain ⟨v, v1, v2⟩ := hS.key
    refine ⟨v, v1, v2.len ⟨_, rfl, E.M.c, ld_at hS.maker 0 rfl, fun he => absurd he (by omega), fun _ => ?_⟩⟩
    have loop : ∀ lo : Int, lo = (if tight then E.fr.getD p.length 0 else 0) → 0 ≤ lo → impl_eachKey_1_k7 w (fun v w' => v = .bool (vis E.go done (GT E.M E.al E.fr (n + 1) p tight)).2 ∧ SS E p (vis E.go done (GT E.M E.al E.fr (n + 1) p tight)).1 w' ∧ w.heap.size ≤ w'.heap.size) tight ⟨E.bk, 0, none⟩ ⟨E.bm, 0, none⟩ ⟨E.ba, 0, none⟩ ⟨E.bc, 0, none⟩ (p.length : Int) lo w := by
      intro lo hlo hlo0
      have hG : GT E.M E.al E.fr (n + 1) p tight = rest E n p tight lo lo := by
        rw [GT_succ, ← hlo]
        rfl
      rw [hG] at hL ⊢
      refine ⟨fun x W => 0 ≤ x ∧ w.heap.size ≤ W.heap.size ∧ ∃ done', SS E p done' W ∧ vis E.go done (rest E n p tight lo lo) = vis E.go done' (rest E n p tight lo x) ∧ ∃ r, E.L = done' ++ (rest E n p tight lo x ++ r), fun x _ => (E.M.d - x).toNat, ⟨lo, rfl, hlo0, Nat.le_refl _, done, hS, rfl, hL⟩, ?_⟩
      rintro x w1 ⟨hx0, hsz, dn, S1, hv, hLd⟩
      refine ⟨_, rfl, E.M.d, ld_at S1.maker 1 rfl, fun hlt => ?_, fun hge => (by rw [rest_end (lo := lo) (x := x) (by omega)] at hv; rw [hv]; exact ⟨rfl, S1, hsz⟩)⟩
      -- a round
      have skip : ∀ W, SS E p dn W → w.heap.size ≤ W.heap.size → rest E n p tight lo x = rest E n p tight lo (x + 1) → impl_eachKey_1_k0 x w1 (fun x W => 0 ≤ x ∧ w.heap.size ≤ W.heap.size ∧ ∃ done', SS E p done' W ∧ vis E.go done (rest E n p tight lo lo) = vis E.go done' (rest E n p tight lo x) ∧ ∃ r, E.L = done' ++ (rest E n p tight lo x ++ r)) (fun x _ => (E.M.d - x).toNat) x W := by
        intro W hSW hszW he
        rw [he] at hv hLd
        exact ⟨by unfold I64; omega, x + 1, rfl, ⟨by omega, hszW, dn, hSW, hv, hLd⟩, by simp only; omega⟩
      have dead : ¬ Begins E.M (p ++ [x]) → rest E n p tight lo x = rest E n p tight lo (x + 1) := by
        intro hn
        rw [rest_step hlt, GT_not hn]
        simp
      have hpx : CutsOk E.M.d (p ++ [x]) := by
        intro z hz
        rw [List.mem_append, List.mem_singleton] at hz
        rcases hz with hz | rfl
        · exact hcut z hz
        · omega
      have down : ∀ W, SS E p dn W → w.heap.size ≤ W.heap.size → E.al p.length x = true → StepAt E.M.s (p ++ [x]) p.length → impl_eachKey_1_k3 w (fun v w' => v = .bool (vis E.go done (rest E n p tight lo lo)).2 ∧ SS E p (vis E.go done (rest E n p tight lo lo)).1 w' ∧ w.heap.size ≤ w'.heap.size) tight ⟨E.bk, 0, none⟩ ⟨E.bm, 0, none⟩ ⟨E.bc, 0, none⟩ (p.length : Int) lo x w1 (fun x W => 0 ≤ x ∧ w.heap.size ≤ W.heap.size ∧ ∃ done', SS E p done' W ∧ vis E.go done (rest E n p tight lo lo) = vis E.go done' (rest E n p tight lo x) ∧ ∃ r, E.L = done' ++ (rest E n p tight lo x ++ r)) (fun x _ => (E.M.d - x).toNat) x W := by
        intro W hSW hszW hal hst
        refine SS.push hE hSW x (by omega) fun w3 S3 z3 w4 h4 => ?_
        have S4 := S3.ext hE h4
        have z4 := Nat.le_trans (Nat.le_trans hszW z3) h4.size
        obtain ⟨u, u1, u2⟩ := S4.key
        refine ⟨u, u1, _, rfl, E.M.m, ld_at S4.maker 3 rfl, ?_⟩
        have hrl : (p ++ [x]).length - 1 = p.length := by simp
        refine (impl_sameRun_val u _ w4 u2 (by simp)).call fun w5 h5 => ⟨_, rfl, h5.keeps, h5, fun hgt => ?_, fun hle => ?_⟩
        · rw [hrl] at hgt
          exact (S4.ext hE h5).pop hE rfl fun w6 S6 z6 => skip w6 S6 (Nat.le_trans (Nat.le_trans z4 h5.size) z6) (dead fun hbb => absurd (begins_snoc.1 hbb).2.2 (by omega))
        · rw [hrl] at hle
          have S5 := S4.ext hE h5
          have hbx : Begins E.M (p ++ [x]) := begins_snoc.2 ⟨hb, hst, by omega⟩
          have hstep := rest_step (n := n) (p := p) (b := tight) (lo := lo) hlt
          rw [if_pos hal] at hstep
          have go : ∀ tt : Bool, tt = (tight && decide (x = lo)) → Calls Try.prog 175 ([Value.bool tt] ++ E.cap).toArray w5 fun e w' => ∃ b : Bool, e = .returned (.bool b) ∧ Keeps w.heap.size [] w5 w' ∧ impl_eachKey_1_k2 w (fun v w' => v = .bool (vis E.go done (rest E n p tight lo lo)).2 ∧ SS E p (vis E.go done (rest E n p tight lo lo)).1 w' ∧ w.heap.size ≤ w'.heap.size) ⟨E.bk, 0, none⟩ (p.length : Int) x w1 (fun x W => 0 ≤ x ∧ w.heap.size ≤ W.heap.size ∧ ∃ done', SS E p done' W ∧ vis E.go done (rest E n p tight lo lo) = vis E.go done' (rest E n p tight lo x) ∧ ∃ r, E.L = done' ++ (rest E n p tight lo x ++ r)) (fun x _ => (E.M.d - x).toNat) x b w' := by
            intro tt htt
            refine (ih (p ++ [x]) tt dn w5 (by simp; omega) hbx hpx (fun h => ht (by rw [htt] at h; simp at h; exact h.1)) ?_ S5).mono ?_
            · obtain ⟨r, hr⟩ := hLd
              rw [hstep, ← htt, List.append_assoc] at hr
              exact ⟨_, hr⟩
            · rintro e w6 ⟨rfl, S6, z6⟩
              refine ⟨_, rfl, keeps_nil z6, S6.pop hE rfl fun w7 S7 z7 => ?_⟩
              have zz := Nat.le_trans (Nat.le_trans (Nat.le_trans z4 h5.size) z6) z7
              rw [hstep, ← htt, vis_append] at hv
              refine ⟨fun hno => ?_, fun hyes => ?_⟩
              · have hno : (vis E.go dn (GT E.M E.al E.fr n (p ++ [x]) tt)).2 = false := by simpa using hno
                rw [if_neg (by rw [hno]; simp)] at hv
                rw [hv, hno]
                exact ⟨rfl, S7, zz⟩
              · have hyes : (vis E.go dn (GT E.M E.al E.fr n (p ++ [x]) tt)).2 = true := by simpa using hyes
                rw [if_pos hyes] at hv
                refine ⟨by unfold I64; omega, x + 1, rfl, ⟨by omega, zz, _, S7, hv, ?_⟩, by simp only; omega⟩
                obtain ⟨r, hr⟩ := hLd
                rw [hstep, ← htt, List.append_assoc, ← List.append_assoc, ← vis_true hyes] at hr
                exact ⟨r, hr⟩
          refine ⟨_, S5.self, fun htt => ⟨_, #[], E.cap.toArray, rfl, by kernel_rfl, go _ (by rw [htt, Bool.true_and])⟩, fun htf => ⟨_, #[], E.cap.toArray, rfl, by kernel_rfl, go _ (by rw [htf, Bool.false_and])⟩⟩
      have mid : ∀ W, SS E p dn W → w.heap.size ≤ W.heap.size → E.al p.length x = true → (((0 : Int) < (p.length : Int)) → ∃ u279 : Value, LdV W (Value.pointer (some ⟨E.bk, 0, none⟩)) u279 ∧ I64 ((p.length : Int) - 1) ∧ IxV 1 u279 ((p.length : Int) - 1) (fun ad280 => ∃ n281 : Int, LdV W (Value.pointer (some ad280)) (Value.int .i64 n281) ∧ I64 (x - n281) ∧ ∃ ad282 : Addr, (Value.pointer (some (⟨E.bm, 0, none⟩ : Addr))) = Value.pointer (some ad282) ∧ ∃ n283 : Int, LdV W (Value.pointer (some (ad282.add 2))) (Value.int .i64 n283) ∧ Calls Try.prog 163 #[(Value.int .i64 (x - n281))] W (fun e284 w285 => ∃ n286 : Int, e284 = .returned (Value.int .i64 n286) ∧ Keeps w.heap.size [] W w285 ∧ Ext W w285 ∧ (impl_eachKey_1_k5 w (fun v w' => v = .bool (vis E.go done (rest E n p tight lo lo)).2 ∧ SS E p (vis E.go done (rest E n p tight lo lo)).1 w' ∧ w.heap.size ≤ w'.heap.size) tight ⟨E.bk, 0, none⟩ ⟨E.bm, 0, none⟩ ⟨E.bc, 0, none⟩ (p.length : Int) lo x w1 (fun x W => 0 ≤ x ∧ w.heap.size ≤ W.heap.size ∧ ∃ done', SS E p done' W ∧ vis E.go done (rest E n p tight lo lo) = vis E.go done' (rest E n p tight lo x) ∧ ∃ r, E.L = done' ++ (rest E n p tight lo x ++ r)) (fun x _ => (E.M.d - x).toNat) n283 n286 x w285)))) := by
        intro W hSW hszW hal h0
        obtain ⟨u, u1, u2⟩ := hSW.key
        have hc1 := hcut.get (show p.length - 1 < p.length by omega)
        refine ⟨u, u1, by unfold I64; omega, u2.get (p.length - 1) (by omega) (by omega) ⟨by unfold I64; omega, _, rfl, E.M.s, ld_at hSW.maker 2 rfl, ?_⟩⟩
        refine (impl_absolute_val _ W (by unfold I64; omega)).call fun w3 h3 => ⟨_, rfl, h3.keeps, h3, ?_⟩
        have hst : StepAt E.M.s (p ++ [x]) p.length ↔ max (x - p[p.length - 1]) (-(x - p[p.length - 1])) ≤ E.M.s := by
          rw [StepAt.of (by omega) (by simp)]
          rw [List.getElem_append_right (Nat.le_refl _), List.getElem_append_left (show p.length - 1 < p.length by omega)]
          simp
        refine ⟨fun hgt => skip w3 (hSW.ext hE h3) (Nat.le_trans hszW h3.size) (dead fun hbb => absurd (hst.1 (begins_snoc.1 hbb).2.1) (by omega)), fun hle => down w3 (hSW.ext hE h3) (Nat.le_trans hszW h3.size) hal (hst.2 (by omega))⟩
      intro w2 h2
      have S2 := S1.ext hE h2
      have z2 := Nat.le_trans hsz h2.size
      refine ⟨_, S2.allowed, ?_⟩
      rcases hE.alok with ⟨hnil, hall⟩ | ⟨fa, caa, hfn, hok, hcall⟩
      · rw [hnil]
        refine ⟨true, .inl ⟨rfl, rfl⟩, fun h => by simp at h, fun _ => ⟨mid w2 S2 z2 (hall _ _), fun h0 => down w2 S2 z2 (hall _ _) fun h => absurd h (by omega)⟩⟩
      · refine ⟨false, .inr ⟨⟨_, _, _, hfn⟩, rfl⟩, fun _ => ⟨_, S2.allowed, fa, #[], caa, hfn, hok, (hcall w2 p.length x S2.pres (by omega) hx0 hlt).mono ?_⟩, fun h => by simp at h⟩
        rintro e w3 ⟨rfl, h3⟩
        have S3 := S2.ext hE h3
        have z3 := Nat.le_trans z2 h3.size
        refine ⟨_, rfl, h3.keeps, fun hno => skip w3 S3 z3 ?_, fun hyes => ?_⟩
        · rw [rest_step hlt, if_neg (by simpa using hno)]
          rfl
        · have hal : E.al p.length x = true := by simpa using hyes
          exact ⟨mid w3 S3 z3 hal, fun h0 => down w3 S3 z3 hal fun h => absurd h (by omega)⟩
    refine ⟨fun htt => ?_, fun htf => loop 0 (by rw [htf]; rfl) (Int.le_refl _)⟩
    have hfl := ht htt
    have hlt : p.length < E.fr.length := by omega
    refine ⟨_, hS.from_, (hE.fr w hS.pres).get p.length rfl hlt ?_⟩
    have := hE.cuts.get hlt
    exact loop _ (by rw [htt, if_pos rfl, getD_get hlt]) this.1
end EK
end Go.Proofs
