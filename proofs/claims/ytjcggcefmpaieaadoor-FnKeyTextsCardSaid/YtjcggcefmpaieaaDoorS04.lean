/- Numerals, lists of numbers as texts: contracts of both. No condition. -/
import Derived.Test.YtjcggcefmpaieaaDoorS03
import Derived.Test.YtjcggcefmpaieaaDoorShf
import Derived.Test.YtjcggcefmpaieaaDoorL01
import Derived.Test.YtjcggcefmpaieaaDoorL01s
import Derived.Test.YtjcggcefmpaieaaDoorL02a
import Derived.Lib.AppendIntMem
set_option linter.unusedVariables false
namespace Go.Proofs
open Go.Sx Go.RowKit Go.Tx

/-- the table of powers of ten is laid -/
def Gl (w : World) : Prop := Lib.TabIs Tryd.prog w "internal/strconv.uint64pow10" .u64 Lib.pow10Tab
theorem gpow : Tryd.prog.globalNamed "internal/strconv.uint64pow10" = some 1 := by kernel_rfl
theorem var_ext {P : Program} {W W' : World} {n : String} {g : Nat} {cs : Array Value} (hg : P.globalNamed n = some g) (hv : W.var? P n = some cs) (h : Ext W W') : W'.var? P n = some cs := by
  unfold World.var? at *
  rw [hg] at hv ⊢
  simp only [Option.bind_some] at hv ⊢
  have hlt : g < W.heap.size := by
    rcases Nat.lt_or_ge g W.heap.size with h1 | h1
    · exact h1
    · rw [Array.getElem?_eq_none h1] at hv; cases hv
  rw [h.block g hlt]
  exact hv
theorem Gl.ext {w w' : World} (h : Gl w) (e : Ext w w') : Gl w' := var_ext gpow h e
/-- these texts, as values -/
def strs (ws : List (List UInt8)) : List Value := ws.map txt
theorem strs_append (a b : List (List UInt8)) : strs (a ++ b) = strs a ++ strs b := by simp [strs]
theorem strs_length (a : List (List UInt8)) : (strs a).length = a.length := by simp [strs]
/-- a slice that reads as these texts -/
def RS (w : World) (v : Value) (ws : List (List UInt8)) : Prop := Rd w v (strs ws)
theorem RS.ext {w w' : World} {v : Value} {ws : List (List UInt8)} (h : RS w v ws) (e : Ext w w') : RS w' v ws := Rd.ext h e
theorem RS.get {w : World} {v : Value} {ws : List (List UInt8)} (h : RS w v ws) {i : Int} (k : Nat) (hi : i = k) (hk : k < ws.length) {R : ByteArray → Prop} (hR : R ⟨ws[k].toArray⟩) : IxV 1 v i (fun ad => ∃ s : ByteArray, LdV w (.pointer (some ad)) (.string s) ∧ R s) :=
  Rd.ix h k hi (by rw [strs_length]; exact hk) fun ad hl => ⟨_, by simpa [strs] using hl, hR⟩
theorem RS.len {w : World} {v : Value} {ws : List (List UInt8)} (h : RS w v ws) {K : Int → Prop} (hK : K (ws.length : Int)) : LenV v K := Rd.len h (by rw [strs_length]; exact hK)

def impl_text_vc (n : Int) (w : World) (Post : Value → World → Prop) : Prop :=
  Calls Tryd.prog 104 #[(Value.int .i64 n), (Value.int .i64 10)] w (fun e1 w2 => ∃ s3 : ByteArray, e1 = .returned (Value.string s3) ∧ Keeps w.heap.size [] w w2 ∧ Post (Value.string s3) w2)
theorem impl_text_eq (n : Int) (w : World) (Post : Value → World → Prop) : denF Tryd.prog [] noAnn 75 [(Value.int .i64 n)] w Post = impl_text_vc n w Post := by kernel_rfl
set_option maxRecDepth 100000 in
theorem impl_text_calls (n : Int) (w : World) (Post : Value → World → Prop) (hvc : impl_text_vc n w Post) : Ret Tryd.prog 75 #[(Value.int .i64 n)] w Post :=
  Ret.of (denF_sound mixed (Eq.mpr (impl_text_eq n w Post) hvc))

theorem impl_text_val (n : Int) (w : World) (hn : I64 n) (hg : Gl w) : Val Tryd.prog 75 #[.int .i64 n] w (txt (Lib.itoa n)) :=
  Ret.val (impl_text_calls n w _ (by
    unfold impl_text_vc
    refine (Tryd.strconv_FormatInt_10 n hn.1 hn.2 w hg).mono ?_
    rintro e w1 ⟨rfl, k, os, rfl⟩
    have h1 : Ext w _ := Lib.below_grow w.heap.size w (Nat.le_refl _) k os
    exact ⟨_, rfl, h1.keeps, rfl, h1⟩))
/-- texts joined: what the library does with a row of the call's own -/
theorem join_call {B : Nat} {u : Value} {ws : List (List UInt8)} (sep : ByteArray) (w : World) (ho : Own B w 9 u (strs ws)) (hl : (Lib.join ws sep.data.toList).length ≤ 140737488355328) (hn : ws.length ≤ 140737488355328) :
    Val Tryd.prog 67 #[u, .string sep] w (txt (Lib.join ws sep.data.toList)) := by
  rcases ho.2 with ⟨rfl, h0⟩ | ⟨g, cap, cur, rfl, hg, hh, hn', hc, hs, ht⟩
  · obtain rfl : ws = [] := by
      rw [strs_length] at h0
      exact List.length_eq_zero_iff.1 h0
    unfold Val
    refine (Tryd.strings_Join_none none 0 sep w).mono ?_
    rintro e w' ⟨rfl, rfl⟩
    exact ⟨rfl, .refl _⟩
  · have e : ws = (ws.map fun x => (⟨x.toArray⟩ : ByteArray)).map (·.data.toList) := by
      rw [List.map_map]
      exact (List.map_id' ws).symm
    have hcells : ∀ (j : Nat) x, (ws.map fun x => (⟨x.toArray⟩ : ByteArray))[j]? = some x → w.cell? ⟨g, 0 + j, none⟩ = some (.string x) := by
      intro j x hx
      rw [Nat.zero_add, cell_of_row w g j cur 9 (0, 0) hh]
      have hj : j < ws.length := by
        have := (List.getElem?_eq_some_iff.1 hx).1
        simpa using this
      have h5 : (cur.toList.take ((strs ws).length * 1))[j]? = (strs ws)[j]? := congrArg (fun l : List Value => l[j]?) ht
      rw [List.getElem?_take, if_pos (by rw [strs_length]; omega)] at h5
      rw [show cur[j]? = cur.toList[j]? by simp, h5]
      simp only [strs, List.getElem?_map] at hx ⊢
      rw [List.getElem?_eq_getElem hj] at hx ⊢
      simp only [Option.map_some, Option.some.injEq] at hx ⊢
      rw [← hx]
    have hb : g < w.heap.size := (Array.getElem?_eq_some_iff.1 hh).1
    have key := Tryd.strings_Join g 0 cap (ws.map fun x => (⟨x.toArray⟩ : ByteArray)) sep w hcells hb (by simpa using hn) (by rw [strs_length] at hn'; simpa using hn') (by rw [← e]; exact hl)
    rw [← e] at key
    unfold Val
    rw [strs_length]
    rw [List.length_map] at key
    exact key
def impl_joined_A (v : Value) (b : ByteArray) (w : World) : Nat → Ann := fun κ => match κ with
  | 0 => { σ := Nat × Value, sli := [11, 5], slc := fun s => [SV.v (Value.int .i64 (s.1 : Int)), SV.v s.2], bxi := [], bxc := fun s => [], inv := fun s W => True, μ := fun s W => 0, free := true }
  | _ => { σ := Unit, sli := [], slc := fun _ => [], bxi := [], bxc := fun _ => [], inv := fun _ _ => False, μ := fun _ _ => 0 }
abbrev impl_joined_k0 (v : Value) (w : World) (s5 : Nat × Value) (w6 : World) (J7 : (Nat × Value) → World → Prop) (m8 : (Nat × Value) → World → Nat) (x9 : Value) (x10 : Int) (w11 : World) : Prop :=
  IxV 1 v x10 (fun ad12 => ∃ n13 : Int, LdV w11 (Value.pointer (some ad12)) (Value.int .i64 n13) ∧ Calls Tryd.prog 75 #[(Value.int .i64 n13)] w11 (fun e14 w15 => ∃ s16 : ByteArray, e14 = .returned (Value.string s16) ∧ Keeps w.heap.size [] w11 w15 ∧ ∀ (v17 : Value) (w18 : World), Sx.Own w15.heap.size w18 9 v17 [(Value.string s16)] → Ext w15 w18 → AppV w18 9 x9 v17 (fun v19 w20 => I64 (x10 + 1) ∧ ∃ s21 : (Nat × Value), (Value.int .i64 (x10 + 1)) = (Value.int .i64 (s21.1 : Int)) ∧ v19 = s21.2 ∧ (J7 s21 w20) ∧ (m8 s21 w20) < (m8 s5 w6))))
abbrev impl_joined_k1 (w : World) (Post : Value → World → Prop) (x23 : ByteArray) (x25 : Value) (w30 : World) : Prop :=
  Calls Tryd.prog 67 #[x25, (Value.string x23)] w30 (fun e31 w32 => ∃ s33 : ByteArray, e31 = .returned (Value.string s33) ∧ Keeps w.heap.size [] w30 w32 ∧ Post (Value.string s33) w32)
def impl_joined_vc (v : Value) (b : ByteArray) (w : World) (Post : Value → World → Prop) : Prop :=
  ∀ (v1 : Value) (w2 : World), Sx.Own w.heap.size w2 9 v1 [] → Ext w w2 → LenV v (fun n3 => (∃ (J7 : (Nat × Value) → World → Prop) (m8 : (Nat × Value) → World → Nat), ((∃ s4 : (Nat × Value), (Value.int .i64 0) = (Value.int .i64 (s4.1 : Int)) ∧ v1 = s4.2 ∧ (J7 s4 w2)) ∧ ∀ (s5 : (Nat × Value)) (w6 : World), (J7 s5 w6) → ((((s5.1 : Int) < n3) → (impl_joined_k0 v w s5 w6 J7 m8 s5.2 (s5.1 : Int) w6)) ∧ (¬ ((s5.1 : Int) < n3) → (impl_joined_k1 w Post b s5.2 w6))))))
theorem impl_joined_eq (v : Value) (b : ByteArray) (w : World) (Post : Value → World → Prop) : denF Tryd.prog [] (impl_joined_A v b w) 41 [v, (Value.string b)] w Post = impl_joined_vc v b w Post := by kernel_rfl
set_option maxRecDepth 100000 in
theorem impl_joined_calls (v : Value) (b : ByteArray) (w : World) (Post : Value → World → Prop) (hvc : impl_joined_vc v b w Post) : Ret Tryd.prog 41 #[v, (Value.string b)] w Post :=
  Ret.of (denF_sound mixed (Eq.mpr (impl_joined_eq v b w Post) hvc))

theorem impl_joined_val (v : Value) (zs : List Int) (sep : ByteArray) (w : World) (hv : RI w v zs) (hz : ∀ z ∈ zs, I64 z) (hl : zs.length ≤ 1048576) (hs : sep.size ≤ 10) (hg : Gl w) :
    Val Tryd.prog 41 #[v, .string sep] w (txt (Lib.join (zs.map Lib.itoa) sep.data.toList)) :=
  Ret.val (impl_joined_calls v sep w _ (by
    unfold impl_joined_vc
    intro u w1 o1 h1
    have hlen : (Lib.join (zs.map Lib.itoa) sep.data.toList).length ≤ 31457280 := by
      have h1 := join_length (ws := zs.map Lib.itoa) (sep := sep.data.toList) (k := 20) (by
        intro x hx
        obtain ⟨z, hz1, rfl⟩ := List.mem_map.1 hx
        exact itoa_length (hz z hz1))
      have h2 : sep.data.toList.length ≤ 10 := by rw [Array.length_toList]; exact hs
      refine Nat.le_trans h1 ?_
      rw [List.length_map]
      exact Nat.le_trans (Nat.mul_le_mul hl (show 20 + sep.data.toList.length ≤ 30 by omega)) (by decide)
    refine (hv.ext h1).len ⟨fun s W => s.1 ≤ zs.length ∧ Own w.heap.size W 9 s.2 (strs ((zs.take s.1).map Lib.itoa)) ∧ Ext w W, fun s _ => zs.length - s.1, ⟨(0, u), rfl, rfl, Nat.zero_le _, o1, h1⟩, ?_⟩
    rintro ⟨k, a⟩ w2 ⟨hk, o2, h2⟩
    simp only at hk o2
    refine ⟨fun hlt => ?_, fun hge => ?_⟩
    · simp only at hlt
      have hk' : k < zs.length := by omega
      unfold impl_joined_k0
      refine (hv.ext h2).get k rfl hk' ?_
      refine (impl_text_val zs[k] w2 (hz _ (List.getElem_mem hk')) (hg.ext h2)).call fun w3 h3 => ⟨_, rfl, h3.keeps, fun x w4 o4 h4 => ?_⟩
      have k4 := (h2.trans h3).trans h4
      refine ((o2.ext h3).ext h4).app1 o4 rfl (by rw [strs_length, List.length_map, List.length_take]; omega) k4.size fun v' w5 o5 g5 _ => ⟨by unfold I64; omega, (k + 1, v'), rfl, rfl, ⟨hk', ?_, k4.grown ((o2.ext h3).ext h4) (Nat.le_refl _) g5⟩, by simp only; omega⟩
      simp only
      rw [take_snoc zs k hk', List.map_append, strs_append]
      exact o5
    · simp only at hge
      unfold impl_joined_k1
      obtain rfl : k = zs.length := by omega
      rw [List.take_length] at o2
      refine (join_call sep w2 o2 (by omega) (by rw [List.length_map]; omega)).call fun w3 h3 => ⟨_, rfl, h3.keeps, rfl, h2.trans h3⟩))
end Go.Proofs
