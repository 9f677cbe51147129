/- Contracts: the key with a rank, the key with a text. No condition. -/
import Derived.Test.YtccekkkiaebnmaaL02d
set_option linter.unusedVariables false
namespace Go.Proofs
open Go.Sx Go.RowKit
def vlen : Value → Nat
  | .slice _ n _ => n
  | _ => 0
theorem Rd.vlen {w : World} {v : Value} {xs : List Value} (h : Rd w v xs) : Go.Proofs.vlen v = xs.length := by
  obtain ⟨a, c, rfl, _⟩ := h
  rfl
def keyAtO (M : Mk) (r : Int) : Option (List Int) := if 0 ≤ r then (keys M)[r.toNat]? else none
def keyAt (M : Mk) (r : Int) : List Int := if MkOk M.c M.d M.s M.m M.l then (keyAtO M r).getD [] else []
def keyAtCode (M : Mk) (r : Int) : Int := if MkOk M.c M.d M.s M.m M.l then (if (keyAtO M r).isSome then 0 else 4) else 1
theorem keyAt_len (M : Mk) (r : Int) : (keyAt M r).length ≤ 1000 := by
  unfold keyAt
  split
  · rename_i hm
    cases hk : keyAtO M r with
    | none => simp
    | some k =>
      unfold keyAtO at hk
      split at hk
      · have := keys_length (M := M) (by have := hm.1; omega) (List.mem_of_getElem? hk)
        have := hm.1
        simp only [Option.getD_some]
        omega
      · cases hk
  · simp

/-! ### the reference -/
/-- the keys of the cuts from x on of the next chamber -/
def onward (M : Mk) (n : Nat) (p : List Int) (x : Int) : List (List Int) := (upFrom x (M.d - x).toNat).flatMap fun y => GA M n (p ++ [y])
theorem onward_zero (M : Mk) (n : Nat) (p : List Int) : onward M n p 0 = GA M (n + 1) p := by
  rw [GA_succ]
  unfold onward ups
  rw [Int.sub_zero]
theorem onward_step {M : Mk} {n : Nat} {p : List Int} {x : Int} (h : x < M.d) : onward M n p x = GA M n (p ++ [x]) ++ onward M n p (x + 1) := by
  unfold onward
  rw [show (M.d - x).toNat = (M.d - (x + 1)).toNat + 1 by omega, upFrom_cons, List.flatMap_cons]
theorem onward_end {M : Mk} {n : Nat} {p : List Int} {x : Int} (h : M.d ≤ x) : onward M n p x = [] := by
  unfold onward
  rw [show (M.d - x).toNat = 0 by omega]
  rfl
def spec_KeyAt_A (m_Chambers : Int) (m_Depths : Int) (m_Step : Int) (m_Same : Int) (m_Least : Int) (rank : Int) (w : World) : Nat → Ann := fun κ => match κ with
  | 0 => { σ := Value × Int, sli := [6, 1], slc := fun s => [SV.v s.1, SV.v (Value.int .i64 s.2)], bxi := [], bxc := fun s => [], inv := fun s W => True, μ := fun s W => 0, free := true }
  | 1 => { σ := Int × Int, sli := [7, 1], slc := fun s => [SV.v (Value.int .i64 s.1), SV.v (Value.int .i64 s.2)], bxi := [], bxc := fun s => [], inv := fun s W => True, μ := fun s W => 0, free := true }
  | _ => { σ := Unit, sli := [], slc := fun _ => [], bxi := [], bxc := fun _ => [], inv := fun _ _ => False, μ := fun _ _ => 0 }
abbrev spec_KeyAt_k0 (s108 : Value × Int) (w109 : World) (J110 : (Value × Int) → World → Prop) (m111 : (Value × Int) → World → Nat) (x146 : Int) (x147 : Value) (x148 : Int) (w166 : World) : Prop :=
  ∀ (v167 : Value) (w168 : World), Own w166.heap.size w168 2 v167 [(Value.int .i64 x148)] → Ext w166 w168 → AppV w168 2 x147 v167 (fun v169 w170 => ∃ s171 : (Value × Int), v169 = s171.1 ∧ (Value.int .i64 x146) = (Value.int .i64 s171.2) ∧ (J110 s171 w170) ∧ (m111 s171 w170) < (m111 s108 w109))
abbrev spec_KeyAt_k1 (s120 : Int × Int) (w121 : World) (J122 : (Int × Int) → World → Prop) (m123 : (Int × Int) → World → Nat) (x172 : Int) (x173 : Int) (x174 : Int) (w188 : World) : Prop :=
  I64 (x172 - x174) ∧ I64 (x173 + 1) ∧ ∃ s189 : (Int × Int), (Value.int .i64 (x173 + 1)) = (Value.int .i64 s189.1) ∧ (Value.int .i64 (x172 - x174)) = (Value.int .i64 s189.2) ∧ (J122 s189 w188) ∧ (m123 s189 w188) < (m123 s120 w121)
abbrev spec_KeyAt_k2 (w : World) (s108 : Value × Int) (w109 : World) (J110 : (Value × Int) → World → Prop) (m111 : (Value × Int) → World → Nat) (x114 : Value) (s120 : Int × Int) (w121 : World) (J122 : (Int × Int) → World → Prop) (m123 : (Int × Int) → World → Nat) (w124 : World) (x128 : Int) (x129 : Int) (x130 : Int) (x131 : Int) (x132 : Int) (x133 : Int) (x134 : Int) (x136 : Value) (x137 : Int) (w138 : World) : Prop :=
  ∀ (v139 : Value) (w140 : World), Own w138.heap.size w140 2 v139 [(Value.int .i64 x137)] → Ext w138 w140 → AppV w140 2 x136 v139 (fun v141 w142 => Ext w124 w142 ∧ Calls Try.prog 91 #[(Value.agg #[(Value.int .i64 x130), (Value.int .i64 x131), (Value.int .i64 x132), (Value.int .i64 x133), (Value.int .i64 x134)]), v141] w142 (fun e143 w144 => ∃ n145 : Int, e143 = .returned (Value.int .i64 n145) ∧ Keeps w.heap.size [25] w142 w144 ∧ Ext w124 w144 ∧ (((x128 < n145) → (spec_KeyAt_k0 s108 w109 J110 m111 x128 x114 x129 w144)) ∧ (¬ (x128 < n145) → (spec_KeyAt_k1 s120 w121 J122 m123 x128 x129 n145 w144)))))
abbrev spec_KeyAt_k3 (w : World) (s108 : Value × Int) (w109 : World) (J110 : (Value × Int) → World → Prop) (m111 : (Value × Int) → World → Nat) (x114 : Value) (s120 : Int × Int) (w121 : World) (J122 : (Int × Int) → World → Prop) (m123 : (Int × Int) → World → Nat) (w124 : World) (x192 : Int) (x193 : Int) (x194 : Int) (x195 : Int) (x196 : Int) (x197 : Int) (x198 : Int) (x199 : Value) (x201 : Value) (w202 : World) : Prop :=
  Calls Try.prog 95 #[x199] w202 (fun e203 w204 => ∃ u205 : Value, e203 = .returned u205 ∧ Keeps w.heap.size [25] w202 w204 ∧ Ext w124 w204 ∧ AppV w204 2 u205 x201 (fun v206 w207 => Ext w124 w207 ∧ Calls Try.prog 91 #[(Value.agg #[(Value.int .i64 x194), (Value.int .i64 x195), (Value.int .i64 x196), (Value.int .i64 x197), (Value.int .i64 x198)]), v206] w207 (fun e208 w209 => ∃ n210 : Int, e208 = .returned (Value.int .i64 n210) ∧ Keeps w.heap.size [25] w207 w209 ∧ Ext w124 w209 ∧ (((x192 < n210) → (spec_KeyAt_k0 s108 w109 J110 m111 x192 x114 x193 w209)) ∧ (¬ (x192 < n210) → (spec_KeyAt_k1 s120 w121 J122 m123 x192 x193 n210 w209))))))
abbrev spec_KeyAt_k4 (w : World) (x99 : Int) (x100 : Int) (x101 : Int) (x102 : Int) (x103 : Int) (s108 : Value × Int) (w109 : World) (J110 : (Value × Int) → World → Prop) (m111 : (Value × Int) → World → Nat) (x113 : Int) (x114 : Value) (w118 : World) : Prop :=
  (∃ (J122 : (Int × Int) → World → Prop) (m123 : (Int × Int) → World → Nat), ((∃ s119 : (Int × Int), (Value.int .i64 0) = (Value.int .i64 s119.1) ∧ (Value.int .i64 x113) = (Value.int .i64 s119.2) ∧ (J122 s119 w118)) ∧ ∀ (s120 : (Int × Int)) (w121 : World), (J122 s120 w121) → ∀ w124 : World, Ext w121 w124 → ((Calls Try.prog 95 #[x114] w124 (fun e125 w126 => ∃ u127 : Value, e125 = .returned u127 ∧ Keeps w.heap.size [25] w124 w126 ∧ Ext w124 w126 ∧ (spec_KeyAt_k2 w s108 w109 J110 m111 x114 s120 w121 J122 m123 w124 s120.2 s120.1 x99 x100 x101 x102 x103 u127 s120.1 w126))) ∧ (∀ (v190 : Value) (w191 : World), Own w124.heap.size w191 2 v190 [(Value.int .i64 s120.1)] → Ext w124 w191 → (spec_KeyAt_k3 w s108 w109 J110 m111 x114 s120 w121 J122 m123 w124 s120.2 s120.1 x99 x100 x101 x102 x103 x114 v190 w191)))))
abbrev spec_KeyAt_k5 (w : World) (Post : Value → World → Prop) (x82 : Int) (x99 : Int) (x100 : Int) (x101 : Int) (x102 : Int) (x103 : Int) (w104 : World) : Prop :=
  ∀ (v105 : Value) (w106 : World), Own w104.heap.size w106 2 v105 [] → Ext w104 w106 → (∃ (J110 : (Value × Int) → World → Prop) (m111 : (Value × Int) → World → Nat), ((∃ s107 : (Value × Int), v105 = s107.1 ∧ (Value.int .i64 x82) = (Value.int .i64 s107.2) ∧ (J110 s107 w106)) ∧ ∀ (s108 : (Value × Int)) (w109 : World), (J110 s108 w109) → LenV s108.1 (fun n112 => (((n112 < x99) → (spec_KeyAt_k4 w x99 x100 x101 x102 x103 s108 w109 J110 m111 s108.2 s108.1 w109)) ∧ (¬ (n112 < x99) → Post (Value.tuple #[s108.1, (Value.int .i64 0)]) w109)))))
abbrev spec_KeyAt_k6 (w : World) (Post : Value → World → Prop) (x10 : Int) (n48 : Int) (x54 : Int) (x71 : Int) (x72 : Int) (x73 : Int) (x74 : Int) (x75 : Int) (w76 : World) : Prop :=
  (((n48 ≤ x10) → Post (Value.tuple #[(Value.slice none 0 0), (Value.int .i64 4)]) w76) ∧ (¬ (n48 ≤ x10) → (spec_KeyAt_k5 w Post x54 x71 x72 x73 x74 x75 w76)))
abbrev spec_KeyAt_k7 (w : World) (Post : Value → World → Prop) (x10 : Int) (x19 : Int) (x20 : Int) (x21 : Int) (x22 : Int) (x23 : Int) (w24 : World) : Prop :=
  (((x10 < (0 : Int)) → Post (Value.tuple #[(Value.slice none 0 0), (Value.int .i64 4)]) w24) ∧ (¬ (x10 < (0 : Int)) → Calls Try.prog 91 #[(Value.agg #[(Value.int .i64 x19), (Value.int .i64 x20), (Value.int .i64 x21), (Value.int .i64 x22), (Value.int .i64 x23)]), (Value.slice none 0 0)] w24 (fun e46 w47 => ∃ n48 : Int, e46 = .returned (Value.int .i64 n48) ∧ Keeps w.heap.size [25] w24 w47 ∧ (spec_KeyAt_k6 w Post x10 n48 x10 x19 x20 x21 x22 x23 w47))))
def spec_KeyAt_vc (m_Chambers : Int) (m_Depths : Int) (m_Step : Int) (m_Same : Int) (m_Least : Int) (rank : Int) (w : World) (Post : Value → World → Prop) : Prop :=
  ∀ w1 : World, Ext w w1 → Calls Try.prog 72 #[(Value.agg #[(Value.int .i64 m_Chambers), (Value.int .i64 m_Depths), (Value.int .i64 m_Step), (Value.int .i64 m_Same), (Value.int .i64 m_Least)])] w1 (fun e2 w3 => ∃ b4 : Bool, e2 = .returned (Value.bool b4) ∧ Keeps w.heap.size [25] w1 w3 ∧ (((!b4) = true → Post (Value.tuple #[(Value.slice none 0 0), (Value.int .i64 1)]) w3) ∧ ((!b4) = false → (spec_KeyAt_k7 w Post rank m_Chambers m_Depths m_Step m_Same m_Least w3))))
theorem spec_KeyAt_eq (m_Chambers : Int) (m_Depths : Int) (m_Step : Int) (m_Same : Int) (m_Least : Int) (rank : Int) (w : World) (Post : Value → World → Prop) : denF Try.prog [1000095, 9000001] (spec_KeyAt_A m_Chambers m_Depths m_Step m_Same m_Least rank w) 23 [(Value.agg #[(Value.int .i64 m_Chambers), (Value.int .i64 m_Depths), (Value.int .i64 m_Step), (Value.int .i64 m_Same), (Value.int .i64 m_Least)]), (Value.int .i64 rank)] w Post = spec_KeyAt_vc m_Chambers m_Depths m_Step m_Same m_Least rank w Post := by kernel_rfl
set_option maxRecDepth 100000 in
theorem spec_KeyAt_calls (m_Chambers : Int) (m_Depths : Int) (m_Step : Int) (m_Same : Int) (m_Least : Int) (rank : Int) (w : World) (Post : Value → World → Prop) (hvc : spec_KeyAt_vc m_Chambers m_Depths m_Step m_Same m_Least rank w Post) : Ret Try.prog 23 #[(Value.agg #[(Value.int .i64 m_Chambers), (Value.int .i64 m_Depths), (Value.int .i64 m_Step), (Value.int .i64 m_Same), (Value.int .i64 m_Least)]), (Value.int .i64 rank)] w Post :=
  Ret.of (denF_sound mixed (Eq.mpr (spec_KeyAt_eq m_Chambers m_Depths m_Step m_Same m_Least rank w Post) hvc))

theorem spec_KeyAt_ret (M : Mk) (rank : Int) (w : World) : SlR 23 #[mkV M.c M.d M.s M.m M.l, .int .i64 rank] w (keyAt M rank) (keyAtCode M rank) :=
  spec_KeyAt_calls M.c M.d M.s M.m M.l rank w _ (by
    unfold spec_KeyAt_vc
    intro w1 h1
    refine (spec_IsMaker_val ..).call fun w2 h2 => ⟨_, rfl, h2.keeps, fun hb => ?_, fun hb => ?_⟩
    · have hm := nd_t hb
      unfold keyAt keyAtCode
      rw [if_neg hm, if_neg hm]
      exact ⟨_, rfl, Own.nil_ _ _ _, h1.trans h2⟩
    have hm' := nd_f hb
    have hm : M.Ok := hm'
    obtain ⟨m1, m2, _⟩ := id hm
    unfold keyAt keyAtCode
    rw [if_pos hm', if_pos hm']
    have k2 := h1.trans h2
    refine ⟨fun hneg => ?_, fun hge => ?_⟩
    · have e : keyAtO M rank = none := by unfold keyAtO; rw [if_neg (by omega)]
      rw [e]
      exact ⟨_, rfl, Own.nil_ _ _ _, k2⟩
    refine (spec_l02Count_val hm M.c.toNat [] (.slice none 0 0) w2 (by simp; omega) (by intro z hz; simp at hz) (RI.nil_ w2 0 (Nat.zero_le _))).call fun w3 h3 => ⟨_, rfl, h3.keeps, fun hle => ?_, fun hlt => ?_⟩
    · have e : keyAtO M rank = none := by
        unfold keyAtO; rw [if_pos (by omega)]
        exact List.getElem?_eq_none (by show (keys M).length ≤ _; simp only [keys]; omega)
      rw [e]
      exact ⟨_, rfl, Own.nil_ _ _ _, k2.trans h3⟩
    have eO : keyAtO M rank = (keys M)[rank.toNat]? := by unfold keyAtO; rw [if_pos (by omega)]
    have k3 := k2.trans h3
    intro v0 w4 o4 h4
    have k4 := k3.trans h4
    refine ⟨fun s W => ∃ p : List Int, Own w.heap.size W 2 s.1 (ints p) ∧ (p.length : Int) ≤ M.c ∧ CutsOk M.d p ∧ 0 ≤ s.2 ∧ s.2 < ((GA M (M.c.toNat - p.length) p).length : Int) ∧ (keys M)[rank.toNat]? = (GA M (M.c.toNat - p.length) p)[s.2.toNat]? ∧ Ext w W, fun s _ => M.c.toNat - vlen s.1, ⟨(v0, rank), rfl, rfl, [], o4.mono k3.size, by simp; omega, by intro z hz; simp at hz, by simp only; omega, by simp only [List.length_nil, Nat.sub_zero]; omega, rfl, k4⟩, ?_⟩
    rintro ⟨v, r⟩ w5 ⟨p, ov, hpl, hpc, hr0, hr, hkey, k5⟩
    simp only at ov hr0 hr hkey
    have rv : RI w5 v p := ov.rd
    have hvl : vlen v = p.length := by rw [Rd.vlen ov.rd]; simp
    refine rv.len ⟨fun hlt2 => ?_, fun hge2 => ?_⟩
    · obtain ⟨n, hn⟩ : ∃ n, M.c.toNat - p.length = n + 1 := ⟨M.c.toNat - p.length - 1, by omega⟩
      rw [hn] at hr hkey
      refine ⟨fun s W => 0 ≤ s.1 ∧ 0 ≤ s.2 ∧ s.2 < ((onward M n p s.1).length : Int) ∧ (keys M)[rank.toNat]? = (onward M n p s.1)[s.2.toNat]? ∧ Ext w5 W, fun s _ => (M.d - s.1).toNat, ⟨(0, r), rfl, rfl, Int.le_refl _, hr0, by simp only; rw [onward_zero]; exact hr, by simp only; rw [onward_zero]; exact hkey, .refl w5⟩, ?_⟩
      rintro ⟨x, q⟩ w6 ⟨hx0, hq0, hq, hkq, h6⟩
      simp only at hx0 hq0 hq hkq
      have hxd : x < M.d := by
        rcases Int.lt_or_le x M.d with h | h
        · exact h
        · rw [onward_end h] at hq; simp at hq; omega
      rw [onward_step hxd] at hq hkq
      intro w7 h7
      refine own_snoc ((rv.ext h6).ext h7) (by omega) fun u w8 o8 h8 => ?_
      refine (spec_l02Count_val hm n (p ++ [x]) u w8 (by simp; omega) (hpc.snoc hx0 hxd) o8.rd).call fun w9 h9 => ⟨_, rfl, h9.keeps, h8.trans h9, fun hin => ?_, fun hout => ?_⟩
      · intro nv w10 o10 h10
        have e510 := (((h6.trans h7).trans h8).trans h9).trans h10
        have ov10 := ov.ext e510
        refine ov10.app1 o10 rfl (by simp; omega) (k5.trans e510).size fun v' w11 o11 g11 hb11 => ?_
        refine ⟨(v', q), rfl, rfl, ⟨p ++ [x], by rw [ints_append]; exact o11, by simp; omega, hpc.snoc hx0 hxd, hq0, ?_, ?_, (k5.trans e510).grown ov10 (Nat.le_refl _) g11⟩, ?_⟩
        · rw [show M.c.toNat - (p ++ [x]).length = n by simp; omega]
          exact hin
        · rw [show M.c.toNat - (p ++ [x]).length = n by simp; omega, hkq, List.getElem?_append_left (by omega)]
        · have hvl' : vlen v' = p.length + 1 := by rw [Rd.vlen o11.rd]; simp
          simp only [hvl, hvl']
          omega
      · rw [List.length_append] at hq
        have hmax := G_max (M := M) (by omega) All (n := n) (by omega) (p ++ [x])
        have hmax' : (GA M n (p ++ [x])).length ≤ 262144 := hmax
        refine ⟨?_, by unfold I64; omega, (x + 1, _), rfl, rfl, ⟨by simp only; omega, by simp only; omega, by simp only; omega, ?_, ((h6.trans h7).trans h8).trans h9⟩, by simp only; omega⟩
        · have hq2 : q < 9223372036854775807 := by
            have := G_max (M := M) (by omega) All (n := n + 1) (by omega) p
            have h2 : (onward M n p x).length ≤ 262144 := by
              refine Nat.le_trans ?_ this
              show _ ≤ (GA M (n + 1) p).length
              rw [← upto_all]
              unfold onward upto
              rw [show M.d.toNat = x.toNat + (M.d - x).toNat by omega, upFrom_split, List.flatMap_append, List.length_append, show (0 : Int) + x.toNat = x by omega]
              omega
            rw [onward_step hxd, List.length_append] at h2
            omega
          unfold I64
          omega
        · simp only
          rw [hkq, List.getElem?_append_right (by omega)]
          congr 1
          omega
    · have hz : M.c.toNat - p.length = 0 := by omega
      rw [hz] at hr hkey
      have hG : GA M 0 p = [p] := by
        simp only [GA, G] at hr ⊢
        split
        · rfl
        · rename_i h
          rw [if_neg h] at hr
          simp at hr
          omega
      rw [hG] at hr hkey
      have hr1 : r.toNat = 0 := by simp at hr; omega
      rw [hr1] at hkey
      refine ⟨v, ?_, ?_, k5⟩
      · rw [eO, hkey]
        rfl
      · rw [eO, hkey]
        exact ov)
end Go.Proofs
