/- Chapter 13: programs with more instructions, turned forward, one that goes to itself. Conditions: what each lemma says. -/
import Derived.Test.YtmiacgkidldjmaaGreatDoorSealE
import Derived.Test.YtmiacgkidldjmaaGreatDoorOpenG
set_option linter.unusedVariables false
set_option linter.unusedSimpArgs false
namespace Go.Proofs.YtmiacgkidldjmaaGreatDoor
open Go.ChangeShapes Go.WideShapes Go.RowKit Go.Lib Go.Deep Go.Maps
open Plain (Rg May mayB In Norm In4 slotsOf insB bnd riB cls cnot rightB normB goesL Rch cntA RInv small next_in getD_app getD_lt)
theorem i4s_one' : ∀ L : List In4, ∀ u ∈ i4s L, u.oneCell' = true := by
  intro L
  induction L with
  | nil => intro u hu; cases hu
  | cons t L ih =>
    intro u hu
    rw [i4s_cons] at hu
    simp only [List.mem_cons] at hu
    rcases hu with rfl | rfl | rfl | rfl | hu
    · rfl
    · rfl
    · rfl
    · rfl
    · exact ih u hu
theorem below_gr1 {w w1 w2 : World} {b : Nat} (h : Below w.heap.size w w1) (hg : w1.grownBy w2 (some b)) (hb : w.heap.size ≤ b) : Below w.heap.size w w2 :=
  ⟨hg.os.trans h.os, hg.tape.trans h.tape, hg.output.trans h.output, Nat.le_trans h.size hg.size, fun k hk => (hg.block k (Nat.lt_of_lt_of_le hk h.size) (fun e => by injection e with e; omega)).trans (h.block k hk)⟩
theorem below_gr0 {w w1 w2 : World} (h : Below w.heap.size w w1) (hg : w1.grownBy w2 none) : Below w.heap.size w w2 :=
  ⟨hg.os.trans h.os, hg.tape.trans h.tape, hg.output.trans h.output, Nat.le_trans h.size hg.size, fun k hk => (hg.block k (Nat.lt_of_lt_of_le hk h.size) (fun e => by cases e)).trans (h.block k hk)⟩
end Go.Proofs.YtmiacgkidldjmaaGreatDoor
namespace Go.Proofs.YtmiacgkidldjmaaGreatDoor
open Go.ChangeShapes Go.WideShapes Go.RowKit Go.Lib Go.Deep Go.Maps
open Plain (Rg May mayB In Norm In4 slotsOf insB bnd riB cls cnot rightB normB goesL Rch cntA RInv small next_in getD_app getD_lt)
theorem rch_more {L E : List In4} {m : Nat} {g : Int} (h0 : 0 < L.length) (hr : ∀ t ∈ L, riB L.length m g t = true) (k : Nat) : Rch (L ++ E) k ↔ k < L.length ∧ Rch L k := by
  constructor
  · intro h
    refine h.2 (fun a => a < L.length ∧ Rch L a) ⟨h0, Rch.zero h0⟩ (fun a b ha hs hb hn => ?_)
    rw [getD_app hs.1] at hn
    have hin := (next_in (hr (L.getD a (0, 0, 0, 0)) (by rw [getD_lt L _ a hs.1]; exact List.getElem_mem _))).1 _ hn
    have hbl : b < L.length := by omega
    exact ⟨hbl, hs.2.step hbl hn⟩
  · rintro ⟨hk, h⟩
    refine h.2 (fun a => Rch (L ++ E) a) (Rch.zero (by simp; omega)) (fun a b ha hs hb hn => ?_)
    exact hs.step (by simp; omega) (by rw [getD_app ha]; exact hn)
def extL (n m : Nat) : List In4 := (List.range m).map fun i => (3, ((n + i : Nat) : Int), 0, 0)
theorem extL_len (n m : Nat) : (extL n m).length = m := by simp [extL]
theorem extL_succ (n m : Nat) : extL n (m + 1) = extL n m ++ [(3, ((n + m : Nat) : Int), 0, 0)] := by simp [extL, List.range_succ]
theorem riB_wider {n n' m : Nat} {g : Int} {t : In4} (h : riB n m g t = true) (hn : n ≤ n') : riB n' m g t = true := by
  obtain ⟨op, x, y, a⟩ := t
  unfold riB at h ⊢
  simp only [Bool.and_eq_true, decide_eq_true_eq] at h ⊢
  obtain ⟨⟨⟨⟨h0, h1⟩, h2⟩, h3⟩, h4⟩ := h
  have hop : op = 0 ∨ op = 1 ∨ op = 2 ∨ op = 3 ∨ op = 4 ∨ op = 5 := by omega
  unfold insB at h2 h3 h4 ⊢
  simp only [Bool.and_eq_true, decide_eq_true_eq] at h2 h3 h4 ⊢
  rcases hop with rfl | rfl | rfl | rfl | rfl | rfl <;> simp [bnd] at * <;> omega
theorem riB_ext {n m k : Nat} {g : Int} {i : Nat} (h : n + i < k) : riB k m g (3, ((n + i : Nat) : Int), 0, 0) = true := by
  unfold riB
  simp only [Bool.and_eq_true, decide_eq_true_eq]
  unfold insB
  simp [bnd]
  omega
theorem right_more {L : List In4} {K : List Cs} {g : Int} (m : Nat) (h : pgR L K g = true) (hm : L.length + m ≤ 512) : pgR (L ++ extL L.length m) K g = true := by
  obtain ⟨h1, h2, h3, h4, h5, h6⟩ := pgR_facts h
  unfold pgR at h ⊢
  simp only [Bool.and_eq_true, decide_eq_true_eq, Bool.not_eq_true'] at h ⊢
  obtain ⟨⟨_, _⟩, hK⟩ := h
  refine ⟨⟨⟨⟨⟨⟨?_, ?_⟩, h4⟩, h5⟩, h6⟩, ?_⟩, hK⟩
  · rw [List.length_append]; omega
  · rw [List.length_append, extL_len]; omega
  · rw [List.any_eq_false]
    intro t ht
    have : riB (L ++ extL L.length m).length K.length g t = true := by
      rw [List.length_append, extL_len]
      rcases List.mem_append.1 ht with ht | ht
      · exact riB_wider (h3 t ht) (by omega)
      · unfold extL at ht
        obtain ⟨i, hi, rfl⟩ := List.mem_map.1 ht
        exact riB_ext (by have := List.mem_range.1 hi; omega)
    rw [this]; simp
theorem cntA_more (L : List In4) (m : Nat) : cntA (L ++ extL L.length m) = cntA L := by
  unfold cntA
  rw [List.countP_append]
  have : (extL L.length m).countP (fun t => decide (t.1 = 5)) = 0 := by
    rw [List.countP_eq_zero]
    intro t ht
    unfold extL at ht
    obtain ⟨i, _, rfl⟩ := List.mem_map.1 ht
    simp
  omega
theorem pi_ext {L : List In4} {K : List Cs} {g : Int} (m : Nat) (h : pgR L K g = true) (O O' : Nat → Bool)
    (hO : ∀ k, k < L.length → (O k = true ↔ Rch L k)) (hO2 : ∀ k, k < (L ++ extL L.length m).length → (O' k = true ↔ Rch (L ++ extL L.length m) k)) (hE : ∀ k, (L ++ extL L.length m).length ≤ k → O' k = false) :
    Plain.piOf (L ++ extL L.length m) O' (L.length + m) = Plain.piOf L O L.length := by
  obtain ⟨h1, h2, h3, h4, h5, h6⟩ := pgR_facts h
  have hlen : (L ++ extL L.length m).length = L.length + m := by rw [List.length_append, extL_len]
  have hout : ∀ k, L.length ≤ k → O' k = false := fun k hk => by
    by_cases hk2 : k < (L ++ extL L.length m).length
    · cases hq : O' k
      · rfl
      · have := ((rch_more h1 h3 k).1 ((hO2 k hk2).1 hq)).1
        omega
    · exact hE k (by omega)
  rw [Plain.pi_past _ O' L.length hout m]
  refine Plain.pi_more L _ O O' (fun j hj => ?_) hout (fun j hj hne => ?_) L.length (Nat.le_refl _)
  · have e1 := hO j hj
    have e2 := hO2 j (by omega)
    rw [rch_more h1 h3 j] at e2
    cases q1 : O j <;> cases q2 : O' j <;> simp_all
  · have q := inR_of h j hj hne
    exact ⟨q.1.2, fun e => (q.2 e).2⟩
end Go.Proofs.YtmiacgkidldjmaaGreatDoor
namespace Go.Proofs.YtmiacgkidldjmaaGreatDoor
open Go.ChangeShapes Go.WideShapes Go.RowKit Go.Lib Go.Deep Go.Maps
open Plain (Rg May mayB In Norm In4 slotsOf insB bnd riB cls cnot rightB normB goesL Rch cntA RInv small next_in getD_app getD_lt)
/-- a cell of a row of them is written -/
theorem SepB.storeRow {W w : World} {l : List Th} (h : SepB W w l) (i : Nat) (e : TypeId) (size g n c : Nat) (xs : List Value) (hi : l[i]? = some (rowT e size (.slice (some ⟨g, 0, none⟩) n c) n xs)) (j : Nat) (u : Value) :
    SepB W (w.setCell ⟨g, j, none⟩ u) (l.set i (rowT e size (.slice (some ⟨g, 0, none⟩) n c) n (xs.set j u))) := by
  have ho := h.row i e size _ n xs hi
  have hs := World.ownsRow.stored ho j u
  exact ⟨h.1.set i _ _ hi hs.2 (ok_row.2 hs.1) (fun k hk => .inl hk), h.1.belowOut h.2 i _ hi hs.2⟩
theorem i4s_set1 : ∀ (L : List In4) (k : Nat) (t : In4) (v : Int), L[k]? = some t → i4s (L.set k (t.1, v, t.2.2.1, t.2.2.2)) = (i4s L).set (k * 4 + 1) (.int .i64 v)
  | [], k, t, v, h => by simp at h
  | u :: L, 0, t, v, h => by
    simp at h
    subst h
    rw [List.set_cons_zero, i4s_cons, i4s_cons]
    rfl
  | u :: L, k + 1, t, v, h => by
    rw [List.set_cons_succ, i4s_cons, i4s_cons, i4s_set1 L k t v (by simpa using h), show (k + 1) * 4 + 1 = k * 4 + 1 + 1 + 1 + 1 + 1 by omega]
    rfl
theorem i4s_set2 : ∀ (L : List In4) (k : Nat) (t : In4) (v : Int), L[k]? = some t → i4s (L.set k (t.1, t.2.1, v, t.2.2.2)) = (i4s L).set (k * 4 + 2) (.int .i64 v)
  | [], k, t, v, h => by simp at h
  | u :: L, 0, t, v, h => by
    simp at h
    subst h
    rw [List.set_cons_zero, i4s_cons, i4s_cons]
    rfl
  | u :: L, k + 1, t, v, h => by
    rw [List.set_cons_succ, i4s_cons, i4s_cons, i4s_set2 L k t v (by simpa using h), show (k + 1) * 4 + 2 = k * 4 + 2 + 1 + 1 + 1 + 1 by omega]
    rfl
theorem i4s_setAll : ∀ (L : List In4) (k : Nat) (a b c d : Int), k < L.length → i4s (L.set k (a, b, c, d)) = ((((i4s L).set (k * 4) (.int .i64 a)).set (k * 4 + 1) (.int .i64 b)).set (k * 4 + 2) (.int .i64 c)).set (k * 4 + 3) (.int .i64 d)
  | [], k, a, b, c, d, h => by simp at h
  | u :: L, 0, a, b, c, d, h => by
    rw [List.set_cons_zero, i4s_cons, i4s_cons]
    rfl
  | u :: L, k + 1, a, b, c, d, h => by
    rw [List.set_cons_succ, i4s_cons, i4s_cons, i4s_setAll L k a b c d (by simpa using h), show (k + 1) * 4 = k * 4 + 1 + 1 + 1 + 1 by omega]
    rfl
end Go.Proofs.YtmiacgkidldjmaaGreatDoor
namespace Go.Proofs.YtmiacgkidldjmaaGreatDoor
open Go.ChangeShapes Go.WideShapes Go.RowKit Go.Lib Go.Deep Go.Maps
open Plain (Rg May mayB In Norm In4 slotsOf insB bnd riB cls cnot rightB normB goesL Rch cntA RInv small next_in getD_app getD_lt)
/-- an instruction that takes nothing, turned forward -/
def fwd1 (n i : Nat) (t : In4) : In4 :=
  if t.1 = 0 ∨ t.1 = 1 then t else (t.1, max t.2.1 (min ((i : Int) + 1) ((n : Int) - 1)), (if t.1 = 2 then max t.2.2.1 (min ((i : Int) + 1) ((n : Int) - 1)) else t.2.2.1), t.2.2.2)
/-- the first j of them turned -/
def fwdL (L : List In4) (j : Nat) : List In4 := (List.range L.length).map fun i => if i < j then fwd1 L.length i (L.getD i (0, 0, 0, 0)) else L.getD i (0, 0, 0, 0)
theorem fwdL_len (L : List In4) (j : Nat) : (fwdL L j).length = L.length := by simp [fwdL]
theorem fwdL_get (L : List In4) (j k : Nat) (hk : k < L.length) : (fwdL L j)[k]? = some (if k < j then fwd1 L.length k (L.getD k (0, 0, 0, 0)) else L.getD k (0, 0, 0, 0)) := by
  unfold fwdL
  rw [List.getElem?_map, List.getElem?_range hk]; rfl
theorem fwdL_getD (L : List In4) (j k : Nat) (hk : k < L.length) : (fwdL L j).getD k (0, 0, 0, 0) = if k < j then fwd1 L.length k (L.getD k (0, 0, 0, 0)) else L.getD k (0, 0, 0, 0) := by
  rw [List.getD_eq_getElem?_getD, fwdL_get L j k hk]; rfl
theorem fwdL_zero (L : List In4) : fwdL L 0 = L := by
  apply List.ext_getElem?
  intro k
  by_cases hk : k < L.length
  · rw [fwdL_get L 0 k hk, if_neg (by omega), getD_lt L _ k hk, List.getElem?_eq_getElem hk]
  · rw [List.getElem?_eq_none (by rw [fwdL_len]; omega), List.getElem?_eq_none (by omega)]
theorem fwdL_succ (L : List In4) (j : Nat) (hj : j < L.length) : fwdL L (j + 1) = (fwdL L j).set j (fwd1 L.length j (L.getD j (0, 0, 0, 0))) := by
  apply List.ext_getElem?
  intro k
  by_cases hk : k < L.length
  · rw [fwdL_get L (j + 1) k hk]
    by_cases e : k = j
    · subst e
      rw [List.getElem?_set_self (by rw [fwdL_len]; exact hk), if_pos (by omega)]
    · rw [List.getElem?_set_ne (fun h => e h.symm), fwdL_get L j k hk]
      by_cases h : k < j
      · rw [if_pos h, if_pos (by omega)]
      · rw [if_neg h, if_neg (by omega)]
  · rw [List.getElem?_eq_none (by rw [fwdL_len]; omega), List.getElem?_eq_none (by rw [List.length_set, fwdL_len]; omega)]
theorem riB_parts {n m : Nat} {g : Int} {t : In4} (h : riB n m g t = true) : 0 ≤ t.1 ∧ t.1 ≤ 5 := by
  obtain ⟨op, x, y, a⟩ := t
  unfold riB at h
  simp only [Bool.and_eq_true, decide_eq_true_eq] at h
  obtain ⟨⟨⟨⟨h0, h1⟩, h2⟩, h3⟩, h4⟩ := h
  dsimp only
  omega
theorem riB_fwd {n m i : Nat} {g : Int} {t : In4} (hi : i < n) (h : riB n m g t = true) : riB n m g (fwd1 n i t) = true := by
  obtain ⟨op, x, y, a⟩ := t
  unfold fwd1
  split
  · exact h
  rename_i hno
  unfold riB at h ⊢
  simp only [Bool.and_eq_true, decide_eq_true_eq] at h ⊢
  obtain ⟨⟨⟨⟨h0, h1⟩, h2⟩, h3⟩, h4⟩ := h
  have hop : op = 0 ∨ op = 1 ∨ op = 2 ∨ op = 3 ∨ op = 4 ∨ op = 5 := by omega
  unfold insB at h2 h3 h4 ⊢
  simp only [Bool.and_eq_true, decide_eq_true_eq] at h2 h3 h4 ⊢
  rcases hop with rfl | rfl | rfl | rfl | rfl | rfl <;> simp [bnd] at * <;> omega
theorem pgR_map {L M : List In4} {K : List Cs} {g : Int} (h : pgR L K g = true) (hl : M.length = L.length) (hr : ∀ k, k < L.length → riB L.length K.length g (M.getD k (0, 0, 0, 0)) = true) : pgR M K g = true := by
  obtain ⟨h1, h2, h3, h4, h5, h6⟩ := pgR_facts h
  unfold pgR at h ⊢
  simp only [Bool.and_eq_true, decide_eq_true_eq, Bool.not_eq_true'] at h ⊢
  obtain ⟨⟨_, _⟩, hK⟩ := h
  rw [hl]
  refine ⟨⟨⟨⟨⟨⟨h1, h2⟩, h4⟩, h5⟩, h6⟩, ?_⟩, hK⟩
  rw [List.any_eq_false]
  intro t ht
  obtain ⟨k, hk, rfl⟩ := List.mem_iff_getElem.1 ht
  have := hr k (by omega)
  rw [getD_lt M _ k hk] at this
  rw [this]; simp
theorem fwd_right {L : List In4} {K : List Cs} {g : Int} (h : pgR L K g = true) (j : Nat) : pgR (fwdL L j) K g = true := by
  obtain ⟨h1, h2, h3, h4, h5, h6⟩ := pgR_facts h
  refine pgR_map h (fwdL_len L j) (fun k hk => ?_)
  have hr : riB L.length K.length g (L.getD k (0, 0, 0, 0)) = true := h3 _ (by rw [getD_lt L _ k hk]; exact List.getElem_mem _)
  rw [fwdL_getD L j k hk]
  split
  · exact riB_fwd hk hr
  · exact hr
theorem jmp_right {n m k : Nat} {g : Int} (hk : k < n) : riB n m g (3, (k : Int), 0, 0) = true := by
  unfold riB
  simp only [Bool.and_eq_true, decide_eq_true_eq]
  unfold insB
  simp [bnd]
  omega
theorem getD_setL (L : List In4) (k j : Nat) (t : In4) (hk : k < L.length) : (L.set k t).getD j (0, 0, 0, 0) = if j = k then t else L.getD j (0, 0, 0, 0) := by
  rw [List.getD_eq_getElem?_getD, List.getD_eq_getElem?_getD]
  by_cases e : j = k
  · subst e; rw [List.getElem?_set_self hk, if_pos rfl]; rfl
  · rw [List.getElem?_set_ne (fun h => e h.symm), if_neg e]
theorem self_right {L : List In4} {K : List Cs} {g : Int} (h : pgR L K g = true) (k : Nat) (hk : k < L.length) : pgR (L.set k (3, (k : Int), 0, 0)) K g = true := by
  obtain ⟨h1, h2, h3, h4, h5, h6⟩ := pgR_facts h
  refine pgR_map h (List.length_set ..) (fun j hj => ?_)
  rw [getD_setL L k j _ hk]
  split
  · exact jmp_right hk
  · exact h3 _ (by rw [getD_lt L _ j hj]; exact List.getElem_mem _)
/-- where an instruction is come to is not turned by where it goes to -/
theorem rch_self {L : List In4} (k : Nat) (t : In4) (hk : k < L.length) : Rch (L.set k t) k ↔ Rch L k := by
  constructor
  · intro h
    have := h.2 (fun a => Rch L a ∨ Rch L k) (.inl (Rch.zero (by omega))) (fun a b ha hs hb hn => ?_)
    · rcases this with h | h <;> exact h
    · rcases hs with hs | hs
      · by_cases e : a = k
        · exact .inr (e ▸ hs)
        · rw [getD_setL L k a t hk, if_neg e] at hn
          rw [List.length_set] at hb
          exact .inl (hs.step hb hn)
      · exact .inr hs
  · intro h
    have := h.2 (fun a => Rch (L.set k t) a ∨ Rch (L.set k t) k) (.inl (Rch.zero (by rw [List.length_set]; omega))) (fun a b ha hs hb hn => ?_)
    · rcases this with h | h <;> exact h
    · rcases hs with hs | hs
      · by_cases e : a = k
        · exact .inr (e ▸ hs)
        · refine .inl (hs.step (by rw [List.length_set]; exact hb) ?_)
          rw [getD_setL L k a t hk, if_neg e]; exact hn
      · exact .inr hs
/-- the last instruction matches; what takes nothing goes forward -/
def Fwd (L : List In4) : Prop := ∀ j, j < L.length → ¬ ((L.getD j z4).1 = 0 ∨ (L.getD j z4).1 = 1) → (j : Int) < (L.getD j z4).2.1 ∧ ((L.getD j z4).1 = 2 → (j : Int) < (L.getD j z4).2.2.1)
theorem fwd_fwd {L : List In4} (hlast : (L.getD (L.length - 1) z4).1 = 0) : Fwd (fwdL L L.length) := by
  intro j hj hno
  rw [fwdL_len] at hj
  rw [fwdL_getD L L.length j hj, if_pos hj] at hno ⊢
  have hj2 : ¬ ((L.getD j (0, 0, 0, 0)).1 = 0 ∨ (L.getD j (0, 0, 0, 0)).1 = 1) := by
    intro h
    have e : fwd1 L.length j (L.getD j (0, 0, 0, 0)) = L.getD j (0, 0, 0, 0) := by unfold fwd1; rw [if_pos h]
    rw [e] at hno; exact hno h
  have hjl : j ≠ L.length - 1 := by
    intro e
    rw [e] at hj2
    exact hj2 (.inl hlast)
  unfold fwd1
  rw [if_neg hj2]
  dsimp only
  refine ⟨by omega, fun h2 => ?_⟩
  rw [if_pos h2]
  omega
theorem fwd_loops {L : List In4} {K : List Cs} {g : Int} (h : pgR L K g = true) (O : Nat → Bool) (hO : ∀ k, k < L.length → (O k = true ↔ Rch L k)) (hE : ∀ k, L.length ≤ k → O k = false)
    (hF : ∀ j, O j = true → ¬ ((L.getD j z4).1 = 0 ∨ (L.getD j z4).1 = 1) → (j : Int) < (L.getD j z4).2.1 ∧ ((L.getD j z4).1 = 2 → (j : Int) < (L.getD j z4).2.2.1)) (n : Nat) : (Plain.piOf L O n).loops = false := by
  obtain ⟨h1, h2, h3, h4, h5, h6⟩ := pgR_facts h
  refine Plain.pi_forward L O (fun j hj hno => ?_) n
  have hjl : j < L.length := by
    by_cases q : j < L.length
    · exact q
    · rw [hE j (by omega)] at hj; cases hj
  have hr := h3 (L.getD j (0, 0, 0, 0)) (by rw [getD_lt L _ j hjl]; exact List.getElem_mem _)
  obtain ⟨n1, n2, n3, n4⟩ := next_in hr
  have hR := (hO j hjl).1 hj
  have hf := hF j hj hno
  have st : ∀ z : Int, z ∈ goesL (L.getD j (0, 0, 0, 0)) → (j : Int) < z → O z.toNat = true ∧ j < z.toNat := fun z hz hlt => by
    have b := n1 z hz
    have hz2 : z.toNat < L.length := by omega
    refine ⟨(hO _ hz2).2 (hR.step hz2 ?_), by omega⟩
    rw [show ((z.toNat : Nat) : Int) = z by omega]; exact hz
  refine ⟨st _ (n2 (fun e => hno (.inl e))) hf.1, fun e => st _ (n3 e) (hf.2 e)⟩
theorem self_loops {L : List In4} {K : List Cs} {g : Int} (h : pgR L K g = true) (hF : Fwd L) (k : Nat) (hk : k < L.length) (O : Nat → Bool)
    (hO : ∀ j, j < L.length → (O j = true ↔ Rch (L.set k (3, (k : Int), 0, 0)) j)) (hE : ∀ j, L.length ≤ j → O j = false) (b : Bool) (hb : b = true ↔ Rch L k) :
    (Plain.piOf (L.set k (3, (k : Int), 0, 0)) O L.length).loops = b := by
  have hl : (L.set k (3, (k : Int), 0, 0)).length = L.length := List.length_set ..
  have hR := self_right h k hk
  have hkO : O k = true ↔ Rch L k := (hO k hk).trans (rch_self k _ hk)
  obtain ⟨_, h512, _⟩ := pgR_facts h
  cases hbv : b
  · refine fwd_loops hR O (by rw [hl]; exact hO) (by rw [hl]; exact hE) (fun j hj hno => ?_) _
    have hjk : j ≠ k := by
      rintro rfl
      have := hb.2 (hkO.1 hj)
      rw [hbv] at this; cases this
    have hjl : j < L.length := by
      by_cases q : j < L.length
      · exact q
      · rw [hE j (by omega)] at hj; cases hj
    unfold z4 at hno ⊢
    rw [getD_setL L k j _ hk, if_neg hjk] at hno ⊢
    exact hF j hjl hno
  · have q := inR_of hR
    unfold InR at q
    rw [hl] at q
    refine (Plain.pi_self (L.set k (3, (k : Int), 0, 0)) O L.length k (by omega) hk (hkO.2 (hb.1 hbv)) (by rw [getD_setL L k k _ hk, if_pos rfl]) (by rw [getD_setL L k k _ hk, if_pos rfl]; rfl) (fun j hj hno => ?_) L.length (Nat.le_refl _)).2 hk
    have := q j hj hno
    exact ⟨this.1.2, fun e => (this.2 e).2⟩
end Go.Proofs.YtmiacgkidldjmaaGreatDoor
