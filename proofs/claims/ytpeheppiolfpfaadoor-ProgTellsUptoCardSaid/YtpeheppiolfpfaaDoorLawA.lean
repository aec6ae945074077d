/- What numbers make is right; parts of a program that lies somewhere. Conditions: what each lemma says. -/
import Derived.Test.YtpeheppiolfpfaaDoorOpen
set_option linter.unusedVariables false
set_option linter.unusedSimpArgs false
namespace Go.Proofs.YtpeheppiolfpfaaDoor
open Go.RowKit Go.Lib
open Plain (Rg May mayB In Norm In4 slotsOf insB bnd riB cls cnot rightB normB nextL Rch cntA RInv small putL lineL)
theorem i4s_set : ∀ (L : List In4) (k : Nat) (t : In4) (v : Int), L[k]? = some t → i4s (L.set k (t.1, t.2.1, t.2.2.1, v)) = (i4s L).set (k * 4 + 3) (.int .i64 v)
  | [], k, t, v, h => by simp at h
  | u :: L, 0, t, v, h => by
    simp at h
    subst h
    rw [List.set_cons_zero, i4s_cons, i4s_cons]
    rfl
  | u :: L, k + 1, t, v, h => by
    rw [List.set_cons_succ, i4s_cons, i4s_cons, i4s_set L k t v (by simpa using h), show (k + 1) * 4 + 3 = k * 4 + 3 + 1 + 1 + 1 + 1 by omega]
    rfl
theorem sl_set {w : World} {g : Nat} {xs : List Value} (h : CellsAt w g xs) (j : Nat) (hj : j < xs.length) (v : Value) : CellsAt (w.setCell ⟨g, j, none⟩ v) g (xs.set j v) := by
  refine ⟨by simp [World.setCell]; exact h.1, fun i u hu => ?_⟩
  by_cases e : j = i
  · subst e
    rw [List.getElem?_set_self hj] at hu
    have hs : (w.cell? ⟨g, j, none⟩).isSome = true := by rw [h.2 j _ (List.getElem?_eq_getElem hj)]; rfl
    rw [World.cell?_setCell_same _ _ _ (h.2 j _ (List.getElem?_eq_getElem hj))]
    exact hu
  · rw [List.getElem?_set_ne e] at hu
    rw [World.cell?_setCell_other _ _ _ _ (fun e2 => e (by injection e2))]
    exact h.2 i u hu
theorem PgAt.takeK {w : World} {I C : Option Addr} {L : List In4} {K : List Cs} (h : PgAt w I L C K) (n : Nat) : PgAt w I L C (K.take n) :=
  ⟨h.insts, fun hn => by
    have hn' : 0 < (K.map clV).length := by simp at hn ⊢; omega
    obtain ⟨b, off, e, hb, hc⟩ := h.cls hn'
    exact ⟨b, off, e, hb, fun i u hu => hc i u (by rw [List.map_take, List.getElem?_take] at hu; split at hu; exact hu; cases hu)⟩, fun x hx => h.each x (List.mem_of_mem_take hx), h.li, Nat.le_trans (by simp; omega) h.lc⟩
theorem i4s_take (L : List In4) (n : Nat) : i4s (L.take n) = (i4s L).take (n * 4) := by
  induction L generalizing n with
  | nil => simp [i4s]
  | cons t L ih =>
    cases n with
    | zero => simp [i4s]
    | succ n =>
      rw [List.take_succ_cons, i4s_cons, i4s_cons, ih, show (n + 1) * 4 = n * 4 + 1 + 1 + 1 + 1 by omega]
      rfl
theorem PgAt.takeL {w : World} {I C : Option Addr} {L : List In4} {K : List Cs} (h : PgAt w I L C K) (n : Nat) : PgAt w I (L.take n) C K :=
  ⟨fun hn => by
    rw [i4s_take] at hn
    have hn' : 0 < (i4s L).length := by simp at hn ⊢; omega
    obtain ⟨b, off, e, hb, hc⟩ := h.insts hn'
    exact ⟨b, off, e, hb, fun i u hu => hc i u (by rw [i4s_take, List.getElem?_take] at hu; split at hu; exact hu; cases hu)⟩, h.cls, h.each, Nat.le_trans (by simp; omega) h.li, h.lc⟩
end Go.Proofs.YtpeheppiolfpfaaDoor
namespace Go.Proofs.YtpeheppiolfpfaaDoor.Plain
theorem opG_bd (n : Int) (hn : 0 ≤ n) : 0 ≤ opG n ∧ opG n ≤ 5 := by
  rcases opG_cases n hn with h | h | h | h | h | h <;> omega
theorem xG_bd (m i : Nat) (n : Int) (hn : 0 ≤ n) (hi : i < m) (hm : m ≤ 14) : 0 ≤ xG m i n ∧ xG m i n ≤ m := by
  unfold xG
  split
  · omega
  · have h1 := Int.emod_nonneg (n / 16) (show ((m : Int) + 1) ≠ 0 by omega)
    have h2 := Int.emod_lt_of_pos (n / 16) (show (0 : Int) < (m : Int) + 1 by omega)
    omega
theorem inst_small (m i : Nat) (g n : Int) (hn : 0 ≤ n) (hi : i < m) (hm : m ≤ 14) (hg0 : 0 ≤ g) (hg : g ≤ 2) : small (instG m i g n) ∧ riB (m + 1) 3 g (instG m i g n) = true := by
  have h1 := opG_bd n hn
  have h2 := xG_bd m i n hn hi hm
  have h3 : 0 ≤ xO m i n ∧ xO m i n ≤ m := by unfold xO; split <;> omega
  have hx0 : opG n = 0 → xO m i n = 0 := fun h => by unfold xO; rw [if_pos h]
  have h4 : 0 ≤ yG m n ∧ yG m n ≤ m ∧ (opG n ≠ 2 → yG m n = 0) := by
    unfold yG
    split
    · have h1 := Int.emod_nonneg (n / 256) (show ((m : Int) + 1) ≠ 0 by omega)
      have h2 := Int.emod_lt_of_pos (n / 256) (show (0 : Int) < (m : Int) + 1 by omega)
      exact ⟨h1, by omega, fun h => absurd (by assumption) h⟩
    · exact ⟨Int.le_refl _, by omega, fun _ => rfl⟩
  have h5 : 0 ≤ aG g n ∧ aG g n ≤ 6 ∧ (opG n = 1 → aG g n < 3) ∧ (opG n = 4 → aG g n < 2 * g + 2) ∧ (opG n = 5 → aG g n < 4) ∧ (opG n ≠ 1 → opG n ≠ 4 → opG n ≠ 5 → aG g n = 0) := by
    unfold aG
    split
    · have e1 := Int.emod_nonneg (n / 8 % 8) (show (3 : Int) ≠ 0 by omega)
      have e2 := Int.emod_lt_of_pos (n / 8 % 8) (show (0 : Int) < 3 by omega)
      exact ⟨e1, by omega, by omega, by omega, by omega, by omega⟩
    · split
      · have e1 := Int.emod_nonneg (n / 8 % 8) (show (2 * g + 2 : Int) ≠ 0 by omega)
        have e2 := Int.emod_lt_of_pos (n / 8 % 8) (show (0 : Int) < 2 * g + 2 by omega)
        exact ⟨e1, by omega, by omega, by omega, by omega, by omega⟩
      · split
        · have e1 := Int.emod_nonneg (n / 8 % 8) (show (4 : Int) ≠ 0 by omega)
          have e2 := Int.emod_lt_of_pos (n / 8 % 8) (show (0 : Int) < 4 by omega)
          exact ⟨e1, by omega, by omega, by omega, by omega, by omega⟩
        · exact ⟨Int.le_refl _, by omega, by omega, by omega, by omega, by omega⟩
  obtain ⟨y0, y1, y2⟩ := h4
  obtain ⟨a0, a1, a2, a3, a4, a5⟩ := h5
  refine ⟨⟨⟨h1.1, by show opG n < 100; omega⟩, ⟨h3.1, by show xO m i n < 100; omega⟩, ⟨y0, by show yG m n < 100; omega⟩, a0, by show aG g n < 100; omega⟩, ?_⟩
  have hs : slotsOf g = 2 * g + 2 := slotsOf_small g hg0 (by omega)
  have hor := opG_cases n hn
  unfold riB instG insB bnd
  dsimp only
  rw [hs]
  generalize opG n = o at *
  generalize xO m i n = x at *
  generalize yG m n = y at *
  generalize aG g n = a at *
  rcases hor with rfl | rfl | rfl | rfl | rfl | rfl <;> simp at * <;> omega
theorem codeL_mem (X : Nat → Int) (m : Nat) (g : Int) (hm : m ≤ 14) (hg0 : 0 ≤ g) (hg : g ≤ 2) (hX : ∀ k, k < m → 0 ≤ X k) : ∀ t ∈ codeL X m g, small t ∧ riB (m + 1) 3 g t = true := by
  intro t ht
  unfold codeL codeG at ht
  rcases List.mem_append.1 ht with h | h
  · obtain ⟨i, hi, rfl⟩ := List.mem_map.1 h
    have hi' := List.mem_range.1 hi
    exact inst_small m i g (X i) (hX i hi') hi' hm hg0 hg
  · rw [List.mem_singleton.1 h]
    refine ⟨by simp [small], ?_⟩
    simp [riB, insB, bnd]
end Go.Proofs.YtpeheppiolfpfaaDoor.Plain
namespace Go.Proofs.YtpeheppiolfpfaaDoor
open Go.RowKit Go.Lib
open Plain (Rg May mayB In Norm In4 slotsOf insB bnd riB cls cnot rightB normB nextL Rch cntA RInv small putL lineL)
theorem codeLn_len (L : List Int) (g : Int) : (codeLn L g).length = min L.length 14 + 1 := Plain.codeL_len _ _ _
theorem codeLn_mem (L : List Int) (g : Int) (h0 : 0 ≤ g) (hX : ∀ k, k < L.length → 0 ≤ L.getD k 0 ∧ L.getD k 0 < 65536) : ∀ t ∈ codeLn L g, small t ∧ riB (codeLn L g).length 3 (g % 3) t = true := by
  rw [codeLn_len]
  exact Plain.codeL_mem _ _ _ (by omega) (by omega) (by omega) (fun k hk => (hX k (by omega)).1)
theorem codeK_ok : ∀ (K : List Cs), K.map Cs.R = [kA, kB, kN] → K.length = 3 ∧ (K.any fun x => badB x.R) = false := by
  intro K h
  have h1 := congrArg List.length h
  simp at h1
  refine ⟨h1, ?_⟩
  have : (K.any fun x => badB x.R) = (K.map Cs.R).any badB := by rw [List.any_map]; rfl
  rw [this, h]
  rfl
/-- what numbers make is right -/
theorem code_right (L : List Int) (g : Int) (K : List Cs) (h0 : 0 ≤ g) (hX : ∀ k, k < L.length → 0 ≤ L.getD k 0 ∧ L.getD k 0 < 65536) (hK : K.map Cs.R = [kA, kB, kN]) : pgR (codeLn L g) K (g % 3) = true := by
  have hm := codeLn_mem L g h0 hX
  have hl := codeLn_len L g
  obtain ⟨k1, k2⟩ := codeK_ok K hK
  unfold pgR
  rw [k1, k2]
  have : ((codeLn L g).any fun t => !riB (codeLn L g).length 3 (g % 3) t) = false := by
    rw [List.any_eq_false]
    intro t ht
    rw [(hm t ht).2]; simp
  rw [this, hl]
  simp
  omega
end Go.Proofs.YtpeheppiolfpfaaDoor
