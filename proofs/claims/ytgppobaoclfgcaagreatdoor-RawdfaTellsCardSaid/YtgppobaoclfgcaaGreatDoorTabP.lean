/- Tables in plain words. Conditions: what each lemma says. -/
import Derived.Test.YtgppobaoclfgcaaGreatDoorRegT
import Derived.Test.YtgppobaoclfgcaaGreatDoorDfaA
import Derived.Lib.TrimAscii
import Derived.Lib.ValidLaws
set_option linter.unusedVariables false
set_option linter.unusedSimpArgs false
namespace Go.Proofs.YtgppobaoclfgcaaGreatDoor.Plain
/-- parts are right -/
def partsRight (P : List Int) : Bool :=
  !(P.length == 0) && decide (P.length ≤ 64) && (P.getD 0 0 == 0) && decide (P.getD (P.length - 1) 0 ≤ 1114111) && (List.range (P.length - 1)).all fun k => decide (P.getD k 0 < P.getD (k + 1) 0)
/-- a row of a table of m states and p parts is wrong -/
def rowWrong (p m : Nat) (row : List Int) : Bool := !(row.length == p) || row.any fun n => decide (n < 0) || decide ((m : Int) ≤ n)
/-- a table is right -/
def tabRight (P : List Int) (N : List (List Int)) (a : Nat) : Bool :=
  partsRight P && (N.length == a) && decide (0 < N.length) && decide (N.length ≤ 64) && !(N.any (rowWrong P.length N.length))
end Go.Proofs.YtgppobaoclfgcaaGreatDoor.Plain
namespace Go.Proofs.YtgppobaoclfgcaaGreatDoor.Plain
end Go.Proofs.YtgppobaoclfgcaaGreatDoor.Plain
namespace Go.Proofs.YtgppobaoclfgcaaGreatDoor.Plain
theorem parts_mono (P : List Int) (h : partsRight P = true) : ∀ k j, k < j → j < P.length → P.getD k 0 < P.getD j 0 := by
  unfold partsRight at h
  simp only [Bool.and_eq_true, List.all_eq_true, List.mem_range, decide_eq_true_eq] at h
  intro k j hkj hj
  induction j with
  | zero => omega
  | succ j ih =>
    have h1 := h.2 j (by omega)
    rcases Nat.lt_or_ge k j with h2 | h2
    · exact Int.lt_trans (ih h2 (by omega)) h1
    · obtain rfl : k = j := by omega
      exact h1
theorem parts_bound (P : List Int) (h : partsRight P = true) : (0 < P.length ∧ P.length ≤ 64 ∧ P.getD 0 0 = 0) ∧ ∀ k, k < P.length → 0 ≤ P.getD k 0 ∧ P.getD k 0 ≤ 1114111 := by
  have hm := parts_mono P h
  unfold partsRight at h
  simp only [Bool.and_eq_true, List.all_eq_true, List.mem_range, decide_eq_true_eq, Bool.not_eq_true', beq_eq_false_iff_ne, beq_iff_eq] at h
  obtain ⟨⟨⟨⟨h0, h64⟩, hz⟩, hl⟩, _⟩ := h
  refine ⟨⟨by omega, h64, hz⟩, fun k hk => ⟨?_, ?_⟩⟩
  · rcases Nat.eq_zero_or_pos k with rfl | h1
    · omega
    · have := hm 0 k h1 hk; omega
  · rcases Nat.lt_or_ge k (P.length - 1) with h1 | h1
    · have := hm k (P.length - 1) h1 (by omega); omega
    · obtain rfl : k = P.length - 1 := by omega
      exact hl
/-- what a right table is -/
theorem tab_right (P : List Int) (N : List (List Int)) (a : Nat) (h : tabRight P N a = true) :
    partsRight P = true ∧ N.length = a ∧ 0 < N.length ∧ N.length ≤ 64 ∧ ∀ r ∈ N, r.length = P.length ∧ ∀ x ∈ r, 0 ≤ x ∧ x < N.length := by
  unfold tabRight at h
  simp only [Bool.and_eq_true, Bool.not_eq_true', decide_eq_true_eq, beq_iff_eq, List.any_eq_false] at h
  obtain ⟨⟨⟨⟨h1, h2⟩, h3⟩, h4⟩, h5⟩ := h
  refine ⟨h1, h2, h3, h4, fun r hr => ?_⟩
  have := h5 r hr
  unfold rowWrong at this
  simp only [Bool.not_eq_true, Bool.not_eq_false', beq_iff_eq, List.any_eq_false, Bool.or_eq_true, decide_eq_true_eq, not_or] at this
  exact ⟨this.1, fun x hx => by have := this.2 x hx; omega⟩
/-- the cells of a table -/
def cellsOf (N : List (List Int)) : List Int := N.flatMap fun r => r.map fun x => x * (r.length : Int)
def accsOf (C : List Bool) : List Int := C.map fun b => if b then 1 else 0
theorem cellsOf_snoc (N : List (List Int)) (r : List Int) : cellsOf (N ++ [r]) = cellsOf N ++ r.map fun x => x * (r.length : Int) := by simp [cellsOf]
theorem accsOf_snoc (C : List Bool) (b : Bool) : accsOf (C ++ [b]) = accsOf C ++ [if b then 1 else 0] := by simp [accsOf]
end Go.Proofs.YtgppobaoclfgcaaGreatDoor.Plain
namespace Go.Proofs.YtgppobaoclfgcaaGreatDoor.Plain
theorem cellsOf_len (N : List (List Int)) (p : Nat) (h : ∀ r ∈ N, r.length = p) : (cellsOf N).length = N.length * p := by
  induction N with
  | nil => simp [cellsOf]
  | cons r t ih =>
    have h1 := h r (by simp)
    have h2 := ih fun x hx => h x (by simp [hx])
    unfold cellsOf at h2 ⊢
    rw [List.flatMap_cons, List.length_append, h2, List.length_map, h1, List.length_cons, Nat.add_mul]
    omega
theorem cellsOf_len_le (N : List (List Int)) (p : Nat) (h : ∀ r ∈ N, r.length = p) (hp : p ≤ 64) (hN : N.length ≤ 64) : (cellsOf N).length ≤ 4096 := by
  rw [cellsOf_len N p h]
  exact Nat.le_trans (Nat.mul_le_mul hN hp) (Nat.le_refl _)
end Go.Proofs.YtgppobaoclfgcaaGreatDoor.Plain
namespace Go.Proofs.YtgppobaoclfgcaaGreatDoor.Plain
open Go.Lib
/-- the rows of cells -/
def rowsOf (K : List Int) (w a : Nat) : List (List Int) := (List.range a).map fun k => ((K.drop (k * w)).take w).map fun x => x / (w : Int)
def flatFine (F K A : List Int) : Bool := F.all (fun r => decide (r < 16777216)) && K.all (fun n => n % (F.length : Int) == 0) && A.all fun x => decide (x < 2)
/-- cells are right -/
def flatRight (F K A : List Int) : Bool :=
  !(F.length == 0) && (K.length == F.length * A.length) && flatFine F K A && tabRight (F.map fun r => r % 16777216) (rowsOf K F.length A.length) A.length
theorem rowsOf_len (K : List Int) (w a : Nat) : (rowsOf K w a).length = a := by simp [rowsOf]
/-- what right cells are -/
structure Right (F K A : List Int) : Prop where
  p0 : 0 < F.length
  p64 : F.length ≤ 64
  len : K.length = F.length * A.length
  a0 : 0 < A.length
  a64 : A.length ≤ 64
  mono : ∀ k j, k < j → j < F.length → F.getD k 0 < F.getD j 0
  low : ∀ k, k < F.length → 0 ≤ F.getD k 0 ∧ F.getD k 0 ≤ 1114111
  cell : ∀ k, k < K.length → ∃ q : Nat, K.getD k 0 = ((F.length * q : Nat) : Int) ∧ q < A.length
  acc : ∀ k, k < A.length → A.getD k 0 < 2
  first : F.getD 0 0 = 0
theorem flat_right (F K A : List Int) (hF : ∀ k, k < F.length → 0 ≤ F.getD k 0) (hK : ∀ k, k < K.length → 0 ≤ K.getD k 0) (h : flatRight F K A = true) : Right F K A := by
  unfold flatRight flatFine at h
  simp only [Bool.and_eq_true, List.all_eq_true, decide_eq_true_eq, Bool.not_eq_true', beq_eq_false_iff_ne, beq_iff_eq] at h
  obtain ⟨⟨⟨h0, hl⟩, ⟨hf, hk⟩, ha⟩, ht⟩ := h
  have hFm : (F.map fun r => r % 16777216) = F := by
    conv => rhs; rw [← List.map_id F]
    refine List.map_congr_left fun x hx => ?_
    have h1 := hf x hx
    obtain ⟨i, hi, rfl⟩ := List.getElem_of_mem hx
    have h2 := hF i hi
    rw [getD_lt _ _ _ hi] at h2
    show F[i] % 16777216 = F[i]
    omega
  rw [hFm] at ht
  obtain ⟨hp, hn, hn0, hn64, hrow⟩ := tab_right _ _ _ ht
  obtain ⟨⟨b0, b64, hz⟩, hb⟩ := parts_bound F hp
  rw [rowsOf_len] at hn0 hn64 hrow
  refine ⟨b0, b64, hl, hn0, hn64, parts_mono F hp, hb, fun k hkl => ?_, fun k hka => by rw [getD_lt _ _ _ hka]; exact ha _ (List.getElem_mem hka), hz⟩
  obtain ⟨p, hP⟩ : ∃ p, F.length = p := ⟨_, rfl⟩
  rw [hP] at b0 hrow hl hk ⊢
  have hkm := hk _ (List.getElem_mem hkl)
  have hk0 := hK k hkl
  rw [getD_lt _ _ _ hkl] at hk0 ⊢
  have hdiv : k / p < A.length := Nat.div_lt_of_lt_mul (by rw [← hl]; exact hkl)
  have hmem : (((K.drop (k / p * p)).take p).map fun x => x / (p : Int)) ∈ rowsOf K p A.length := by
    unfold rowsOf; exact List.mem_map.2 ⟨k / p, List.mem_range.2 hdiv, rfl⟩
  have hx := (hrow _ hmem).2 (K[k] / (p : Int)) (by
    refine List.mem_map.2 ⟨K[k], ?_, rfl⟩
    have hmod := Nat.mod_lt k b0
    have hdm := Nat.div_add_mod k p
    rw [Nat.mul_comm] at hdm
    refine List.mem_iff_getElem?.2 ⟨k % p, ?_⟩
    rw [List.getElem?_take_of_lt hmod, List.getElem?_drop, hdm, List.getElem?_eq_getElem hkl])
  obtain ⟨q, hq⟩ : ∃ q : Nat, K[k] / (p : Int) = q := ⟨(K[k] / (p : Int)).toNat, by omega⟩
  refine ⟨q, ?_, by omega⟩
  have h3 := Int.mul_ediv_add_emod K[k] p
  rw [hkm, hq] at h3
  rw [← h3]; simp
end Go.Proofs.YtgppobaoclfgcaaGreatDoor.Plain
namespace Go.Proofs.YtgppobaoclfgcaaGreatDoor.Plain
open Go.Lib
end Go.Proofs.YtgppobaoclfgcaaGreatDoor.Plain
namespace Go.Proofs.YtgppobaoclfgcaaGreatDoor.Plain
open Go.Lib
theorem rowsOf_cons (c K : List Int) (w a : Nat) (hc : c.length = w) : rowsOf (c ++ K) w (a + 1) = (c.map fun x => x / (w : Int)) :: rowsOf K w a := by
  unfold rowsOf
  rw [List.range_succ_eq_map, List.map_cons, List.map_map, Nat.zero_mul, List.drop_zero]
  congr 1
  · rw [List.take_append_of_le_length (by omega), List.take_of_length_le (by omega)]
  · refine List.map_congr_left fun k _ => ?_
    show (((c ++ K).drop ((k + 1) * w)).take w).map _ = _
    rw [Nat.add_mul, Nat.one_mul, Nat.add_comm, ← List.drop_drop, show (c ++ K).drop w = K from by rw [← hc]; exact List.drop_left]
theorem rows_cells (N : List (List Int)) (p : Nat) (hp : 0 < p) (h : ∀ r ∈ N, r.length = p) : rowsOf (cellsOf N) p N.length = N := by
  induction N with
  | nil => rfl
  | cons r N ih =>
    have h1 := h r (by simp)
    have h2 := ih fun q hq => h q (by simp [hq])
    unfold cellsOf at h2 ⊢
    rw [List.flatMap_cons, List.length_cons, rowsOf_cons _ _ _ _ (by simpa using h1), h2, List.map_map]
    congr 1
    conv => rhs; rw [← List.map_id r]
    refine List.map_congr_left fun x _ => ?_
    show x * (r.length : Int) / (p : Int) = x
    rw [h1]; exact Int.mul_ediv_cancel _ (by omega)
theorem flat_of_table (P : List Int) (N : List (List Int)) (C : List Bool) (h : tabRight P N C.length = true) : flatRight P (cellsOf N) (accsOf C) = true := by
  obtain ⟨hp, hn, hn0, hn64, hrow⟩ := tab_right _ _ _ h
  obtain ⟨⟨b0, b64, hz⟩, hb⟩ := parts_bound P hp
  have hl : (accsOf C).length = C.length := by simp [accsOf]
  have hm : (P.map fun r => r % 16777216) = P := by
    conv => rhs; rw [← List.map_id P]
    refine List.map_congr_left fun x hx => ?_
    obtain ⟨i, hi, rfl⟩ := List.getElem_of_mem hx
    have h2 := hb i hi
    rw [getD_lt _ _ _ hi] at h2
    show P[i] % 16777216 = P[i]
    omega
  have hc : (cellsOf N).length = P.length * C.length := by
    rw [cellsOf_len N P.length fun r hr => (hrow r hr).1, hn, Nat.mul_comm]
  unfold flatRight flatFine
  rw [hm, hl, hc, ← hn, rows_cells N P.length b0 fun r hr => (hrow r hr).1, hn, h]
  simp only [BEq.rfl, Bool.and_true, Bool.and_eq_true, List.all_eq_true, decide_eq_true_eq, Bool.not_eq_true', beq_eq_false_iff_ne, beq_iff_eq]
  refine ⟨by omega, ⟨fun x hx => ?_, fun x hx => ?_⟩, fun x hx => ?_⟩
  · obtain ⟨i, hi, rfl⟩ := List.getElem_of_mem hx
    have h2 := hb i hi
    rw [getD_lt _ _ _ hi] at h2
    omega
  · obtain ⟨r, hr, hx⟩ := List.mem_flatMap.1 hx
    obtain ⟨z, _, rfl⟩ := List.mem_map.1 hx
    rw [(hrow r hr).1]; exact Int.mul_emod_left _ _
  · obtain ⟨b, _, rfl⟩ := List.mem_map.1 hx
    cases b <;> decide
end Go.Proofs.YtgppobaoclfgcaaGreatDoor.Plain
