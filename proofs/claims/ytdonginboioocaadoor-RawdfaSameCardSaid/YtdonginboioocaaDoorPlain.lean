/- Plain words of chapters 10, 11, 14, 18: when parts, a table, cells are right; what cells a table has; what a machine finds. Conditions: none. -/
namespace Go.Proofs.YtdonginboioocaaDoor.Plain
/-- parts are right -/
def partsRight (P : List Int) : Bool :=
  !(P.length == 0) && decide (P.length ≤ 64) && (P.getD 0 0 == 0) && decide (P.getD (P.length - 1) 0 ≤ 1114111) && (List.range (P.length - 1)).all fun k => decide (P.getD k 0 < P.getD (k + 1) 0)
/-- a row of a table of m states and p parts is wrong -/
def rowWrong (p m : Nat) (row : List Int) : Bool := !(row.length == p) || row.any fun n => decide (n < 0) || decide ((m : Int) ≤ n)
/-- a table is right -/
def tabRight (P : List Int) (N : List (List Int)) (a : Nat) : Bool :=
  partsRight P && (N.length == a) && decide (0 < N.length) && decide (N.length ≤ 64) && !(N.any (rowWrong P.length N.length))
/-- where the first is that answers so, or -1 -/
def idx {α : Type} (p : α → Bool) (l : List α) : Int := if l.any p then (l.findIdx p : Nat) else -1
end Go.Proofs.YtdonginboioocaaDoor.Plain
namespace Go.Proofs.YtdonginboioocaaDoor.Plain
theorem idx_some {α : Type} (p : α → Bool) (l : List α) (d : α) (k : Nat) (hk : k < l.length) (h : ∀ j, j < k → p (l.getD j d) = false) (hp : p (l.getD k d) = true) : idx p l = k := by
  have hg : ∀ j (hj : j < l.length), l.getD j d = l[j] := fun j hj => by simp [List.getD, List.getElem?_eq_getElem hj]
  have hany : l.any p = true := List.any_eq_true.2 ⟨l[k], List.getElem_mem hk, by rw [← hg k hk]; exact hp⟩
  have hf : l.findIdx p = k := by
    rw [List.findIdx_eq hk]
    refine ⟨by rw [← hg k hk]; exact hp, fun j hj => ?_⟩
    rw [← hg j (by omega)]; exact h j hj
  unfold idx; rw [if_pos hany, hf]
theorem any_none {α : Type} (p : α → Bool) (l : List α) (d : α) (h : ∀ j, j < l.length → p (l.getD j d) = false) : l.any p = false := by
  rw [List.any_eq_false]
  intro x hx
  obtain ⟨j, hj, rfl⟩ := List.getElem_of_mem hx
  have := h j hj
  simp [List.getD, List.getElem?_eq_getElem hj] at this
  simp [this]
theorem idx_none {α : Type} (p : α → Bool) (l : List α) (d : α) (h : ∀ j, j < l.length → p (l.getD j d) = false) : idx p l = -1 := by
  unfold idx; rw [any_none p l d h]; rfl
theorem idx_ge {α : Type} (p : α → Bool) (l : List α) : decide ((0 : Int) ≤ idx p l) = l.any p := by
  unfold idx; cases l.any p <;> simp
theorem idx_small {α : Type} (p : α → Bool) (l : List α) : -1 ≤ idx p l ∧ idx p l ≤ l.length := by
  have := List.findIdx_le_length (p := p) (xs := l)
  unfold idx; cases l.any p <;> simp <;> omega
end Go.Proofs.YtdonginboioocaaDoor.Plain
namespace Go.Proofs.YtdonginboioocaaDoor.Plain
theorem parts_mono (P : List Int) (h : partsRight P = true) : ∀ k j, k < j → j < P.length → P.getD k 0 < P.getD j 0 := by
  unfold partsRight at h
  simp only [Bool.and_eq_true, List.all_eq_true, List.mem_range, decide_eq_true_eq] at h
  intro k j hkj hj
  induction j with
  | zero => omega
  | succ j ih =>
    have h1 := h.2 j (by omega)
    rcases Nat.lt_or_ge k j with h2 | h2
    · exact Int.lt_trans (ih h2 (by omega)) h1
    · obtain rfl : k = j := by omega
      exact h1
theorem parts_bound (P : List Int) (h : partsRight P = true) : (0 < P.length ∧ P.length ≤ 64 ∧ P.getD 0 0 = 0) ∧ ∀ k, k < P.length → 0 ≤ P.getD k 0 ∧ P.getD k 0 ≤ 1114111 := by
  have hm := parts_mono P h
  unfold partsRight at h
  simp only [Bool.and_eq_true, List.all_eq_true, List.mem_range, decide_eq_true_eq, Bool.not_eq_true', beq_eq_false_iff_ne, beq_iff_eq] at h
  obtain ⟨⟨⟨⟨h0, h64⟩, hz⟩, hl⟩, _⟩ := h
  refine ⟨⟨by omega, h64, hz⟩, fun k hk => ⟨?_, ?_⟩⟩
  · rcases Nat.eq_zero_or_pos k with rfl | h1
    · omega
    · have := hm 0 k h1 hk; omega
  · rcases Nat.lt_or_ge k (P.length - 1) with h1 | h1
    · have := hm k (P.length - 1) h1 (by omega); omega
    · obtain rfl : k = P.length - 1 := by omega
      exact hl
/-- what a right table is -/
theorem tab_right (P : List Int) (N : List (List Int)) (a : Nat) (h : tabRight P N a = true) :
    partsRight P = true ∧ N.length = a ∧ 0 < N.length ∧ N.length ≤ 64 ∧ ∀ r ∈ N, r.length = P.length ∧ ∀ x ∈ r, 0 ≤ x ∧ x < N.length := by
  unfold tabRight at h
  simp only [Bool.and_eq_true, Bool.not_eq_true', decide_eq_true_eq, beq_iff_eq, List.any_eq_false] at h
  obtain ⟨⟨⟨⟨h1, h2⟩, h3⟩, h4⟩, h5⟩ := h
  refine ⟨h1, h2, h3, h4, fun r hr => ?_⟩
  have := h5 r hr
  unfold rowWrong at this
  simp only [Bool.not_eq_true, Bool.not_eq_false', beq_iff_eq, List.any_eq_false, Bool.or_eq_true, decide_eq_true_eq, not_or] at this
  exact ⟨this.1, fun x hx => by have := this.2 x hx; omega⟩
/-- the cells of a table -/
def cellsOf (N : List (List Int)) : List Int := N.flatMap fun r => r.map fun x => x * (r.length : Int)
def accsOf (C : List Bool) : List Int := C.map fun b => if b then 1 else 0
theorem cellsOf_snoc (N : List (List Int)) (r : List Int) : cellsOf (N ++ [r]) = cellsOf N ++ r.map fun x => x * (r.length : Int) := by simp [cellsOf]
theorem accsOf_snoc (C : List Bool) (b : Bool) : accsOf (C ++ [b]) = accsOf C ++ [if b then 1 else 0] := by simp [accsOf]
theorem take_snoc {α : Type} (l : List α) (k : Nat) (x : α) (h : l[k]? = some x) : l.take (k + 1) = l.take k ++ [x] := by
  rw [List.take_add_one, h]; rfl
end Go.Proofs.YtdonginboioocaaDoor.Plain
