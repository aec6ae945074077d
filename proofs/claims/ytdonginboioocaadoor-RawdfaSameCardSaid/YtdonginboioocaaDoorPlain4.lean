/- What a right table of cells is; what a machine finds in a text, by its runes and by its pieces. Plain. -/
import Derived.Test.YtdonginboioocaaDoorPlain3
import Derived.Lib.TrimAscii
import Derived.Lib.ValidLaws
set_option linter.unusedVariables false
namespace Go.Proofs.YtdonginboioocaaDoor.Plain
open Go.Lib
/-- the rows of cells -/
def rowsOf (K : List Int) (w a : Nat) : List (List Int) := (List.range a).map fun k => ((K.drop (k * w)).take w).map fun x => x / (w : Int)
def flatFine (F K A : List Int) : Bool := F.all (fun r => decide (r < 16777216)) && K.all (fun n => n % (F.length : Int) == 0) && A.all fun x => decide (x < 2)
/-- cells are right -/
def flatRight (F K A : List Int) : Bool :=
  !(F.length == 0) && (K.length == F.length * A.length) && flatFine F K A && tabRight (F.map fun r => r % 16777216) (rowsOf K F.length A.length) A.length
theorem rowsOf_len (K : List Int) (w a : Nat) : (rowsOf K w a).length = a := by simp [rowsOf]
theorem getD_lt {α : Type} (l : List α) (d : α) (k : Nat) (h : k < l.length) : l.getD k d = l[k] := by simp [List.getD, List.getElem?_eq_getElem h]
/-- what right cells are -/
structure Right (F K A : List Int) : Prop where
  p0 : 0 < F.length
  p64 : F.length ≤ 64
  len : K.length = F.length * A.length
  a0 : 0 < A.length
  a64 : A.length ≤ 64
  mono : ∀ k j, k < j → j < F.length → F.getD k 0 < F.getD j 0
  low : ∀ k, k < F.length → 0 ≤ F.getD k 0 ∧ F.getD k 0 ≤ 1114111
  cell : ∀ k, k < K.length → ∃ q : Nat, K.getD k 0 = ((F.length * q : Nat) : Int) ∧ q < A.length
  acc : ∀ k, k < A.length → A.getD k 0 < 2
  first : F.getD 0 0 = 0
theorem flat_right (F K A : List Int) (hF : ∀ k, k < F.length → 0 ≤ F.getD k 0) (hK : ∀ k, k < K.length → 0 ≤ K.getD k 0) (h : flatRight F K A = true) : Right F K A := by
  unfold flatRight flatFine at h
  simp only [Bool.and_eq_true, List.all_eq_true, decide_eq_true_eq, Bool.not_eq_true', beq_eq_false_iff_ne, beq_iff_eq] at h
  obtain ⟨⟨⟨h0, hl⟩, ⟨hf, hk⟩, ha⟩, ht⟩ := h
  have hFm : (F.map fun r => r % 16777216) = F := by
    conv => rhs; rw [← List.map_id F]
    refine List.map_congr_left fun x hx => ?_
    have h1 := hf x hx
    obtain ⟨i, hi, rfl⟩ := List.getElem_of_mem hx
    have h2 := hF i hi
    rw [getD_lt _ _ _ hi] at h2
    show F[i] % 16777216 = F[i]
    omega
  rw [hFm] at ht
  obtain ⟨hp, hn, hn0, hn64, hrow⟩ := tab_right _ _ _ ht
  obtain ⟨⟨b0, b64, hz⟩, hb⟩ := parts_bound F hp
  rw [rowsOf_len] at hn0 hn64 hrow
  refine ⟨b0, b64, hl, hn0, hn64, parts_mono F hp, hb, fun k hkl => ?_, fun k hka => by rw [getD_lt _ _ _ hka]; exact ha _ (List.getElem_mem hka), hz⟩
  obtain ⟨p, hP⟩ : ∃ p, F.length = p := ⟨_, rfl⟩
  rw [hP] at b0 hrow hl hk ⊢
  have hkm := hk _ (List.getElem_mem hkl)
  have hk0 := hK k hkl
  rw [getD_lt _ _ _ hkl] at hk0 ⊢
  have hdiv : k / p < A.length := Nat.div_lt_of_lt_mul (by rw [← hl]; exact hkl)
  have hmem : (((K.drop (k / p * p)).take p).map fun x => x / (p : Int)) ∈ rowsOf K p A.length := by
    unfold rowsOf; exact List.mem_map.2 ⟨k / p, List.mem_range.2 hdiv, rfl⟩
  have hx := (hrow _ hmem).2 (K[k] / (p : Int)) (by
    refine List.mem_map.2 ⟨K[k], ?_, rfl⟩
    have hmod := Nat.mod_lt k b0
    have hdm := Nat.div_add_mod k p
    rw [Nat.mul_comm] at hdm
    refine List.mem_iff_getElem?.2 ⟨k % p, ?_⟩
    rw [List.getElem?_take_of_lt hmod, List.getElem?_drop, hdm, List.getElem?_eq_getElem hkl])
  obtain ⟨q, hq⟩ : ∃ q : Nat, K[k] / (p : Int) = q := ⟨(K[k] / (p : Int)).toNat, by omega⟩
  refine ⟨q, ?_, by omega⟩
  have h3 := Int.mul_ediv_add_emod K[k] p
  rw [hkm, hq] at h3
  rw [← h3]; simp
/-- where a machine goes by a rune -/
def goes (F K : List Int) (y : Nat) (r : Nat) : Nat := (K.getD (y + partOf F r) 0).toNat
def accd (F A : List Int) (y : Nat) : Bool := A.getD (y / F.length) 0 == 1
theorem goes_right {F K A : List Int} (h : Right F K A) (y r q : Nat) (hy : y = F.length * q) (hq : q < A.length) : (∃ q', goes F K y r = F.length * q' ∧ q' < A.length) ∧ y + F.length ≤ K.length ∧ y / F.length < A.length ∧ K.getD (y + partOf F r) 0 = (goes F K y r : Nat) := by
  have hp := partOf_lt F r h.p0
  have hle : y + F.length ≤ K.length := by
    rw [h.len, hy, ← Nat.mul_succ]; exact Nat.mul_le_mul_left _ hq
  obtain ⟨q', h1, h2⟩ := h.cell (y + partOf F r) (by omega)
  refine ⟨⟨q', by unfold goes; rw [h1]; exact Int.toNat_natCast _, h2⟩, hle, ?_, by unfold goes; rw [h1, Int.toNat_natCast]⟩
  rw [hy, Nat.mul_div_cancel_left _ h.p0]; exact hq
/-- what is found, by the runes of a text of at most so many bytes -/
def findN (F K A : List Int) : Nat → List UInt8 → Nat → Nat → Option Nat
  | 0, _, y, at_ => if accd F A y then some at_ else none
  | n + 1, l, y, at_ => if accd F A y then some at_ else if l.isEmpty then none else findN F K A n (l.drop (decodeL l).2) (goes F K y (decodeL l).1) (at_ + (decodeL l).2)
/-- where it comes to -/
def stateN (F K : List Int) : Nat → List UInt8 → Nat → Nat
  | 0, _, y => y
  | n + 1, l, y => if l.isEmpty then y else stateN F K n (l.drop (decodeL l).2) (goes F K y (decodeL l).1)
theorem findN_acc (F K A : List Int) (n : Nat) (l : List UInt8) (y at_ : Nat) (h : accd F A y = true) : findN F K A n l y at_ = some at_ := by
  cases n <;> simp [findN, h]
theorem findN_end (F K A : List Int) (n : Nat) (y at_ : Nat) (h : accd F A y = false) : findN F K A n [] y at_ = none := by
  cases n <;> simp [findN, h]
theorem findN_step (F K A : List Int) (n : Nat) (l : List UInt8) (y at_ : Nat) (h : accd F A y = false) (hl : l ≠ []) (hn : l.length ≤ n) : findN F K A n l y at_ = findN F K A (n - 1) (l.drop (decodeL l).2) (goes F K y (decodeL l).1) (at_ + (decodeL l).2) := by
  cases n with
  | zero => cases l with
    | nil => exact absurd rfl hl
    | cons x t => simp at hn
  | succ n => cases l with
    | nil => exact absurd rfl hl
    | cons x t => simp [findN, h]
theorem stateN_end (F K : List Int) (n : Nat) (y : Nat) : stateN F K n [] y = y := by cases n <;> simp [stateN]
theorem stateN_step (F K : List Int) (n : Nat) (l : List UInt8) (y : Nat) (hl : l ≠ []) (hn : l.length ≤ n) : stateN F K n l y = stateN F K (n - 1) (l.drop (decodeL l).2) (goes F K y (decodeL l).1) := by
  cases n with
  | zero => cases l with
    | nil => exact absurd rfl hl
    | cons x t => simp at hn
  | succ n => cases l with
    | nil => exact absurd rfl hl
    | cons x t => simp [stateN]
end Go.Proofs.YtdonginboioocaaDoor.Plain
namespace Go.Proofs.YtdonginboioocaaDoor.Plain
open Go.Lib
/-- a piece of text that is one rune, whatever stands behind it -/
def OneRune (p : List UInt8) : Prop := p ≠ [] ∧ ∃ r, ∀ t, decodeL (p ++ t) = (r, p.length)
theorem one_ascii (b : UInt8) (h : b.toNat < 128) : OneRune [b] := ⟨by simp, b.toNat, fun t => decodeL_ascii b t h⟩
theorem one_ff : OneRune [255] := ⟨by simp, 65533, fun t => by rw [decodeL_N]; exact decodeN_bad _ _ _ _ _ (by simp)⟩
theorem one_e : OneRune [195, 169] := ⟨by simp, 233, fun t => by rw [decodeL_N]; simp [decodeN]⟩
def runeOf (p : List UInt8) : Nat := (decodeL p).1
theorem OneRune.eq {p : List UInt8} (h : OneRune p) (t : List UInt8) : decodeL (p ++ t) = (runeOf p, p.length) := by
  obtain ⟨_, r, hr⟩ := h
  have := hr []
  rw [List.append_nil] at this
  unfold runeOf
  rw [hr t, this]
/-- what is found, by pieces -/
def findP (F K A : List Int) : List (List UInt8) → Nat → Nat → Option Nat
  | [], y, at_ => if accd F A y then some at_ else none
  | p :: ps, y, at_ => if accd F A y then some at_ else findP F K A ps (goes F K y (runeOf p)) (at_ + p.length)
def stateP (F K : List Int) : List (List UInt8) → Nat → Nat
  | [], y => y
  | p :: ps, y => stateP F K ps (goes F K y (runeOf p))
theorem findN_P (F K A : List Int) (ps : List (List UInt8)) (h : ∀ p ∈ ps, OneRune p) : ∀ n y at_, ps.flatten.length ≤ n → findN F K A n ps.flatten y at_ = findP F K A ps y at_ := by
  induction ps with
  | nil => intro n y at_ _; cases n <;> simp [findN, findP]
  | cons p ps ih =>
    intro n y at_ hn
    have hp := h p (by simp)
    have hne : p ≠ [] := hp.1
    have hpl : 0 < p.length := List.length_pos_iff.2 hne
    rw [List.flatten_cons] at hn ⊢
    rw [List.length_append] at hn
    unfold findP
    cases ha : accd F A y
    · rw [findN_step F K A n _ y at_ ha (by simp [hne]) (by rw [List.length_append]; exact hn), hp.eq]
      simp only [List.drop_left]
      rw [ih (fun q hq => h q (by simp [hq])) _ _ _ (by omega)]
      rfl
    · rw [findN_acc F K A n _ y at_ ha]; rfl
theorem stateN_P (F K : List Int) (ps : List (List UInt8)) (h : ∀ p ∈ ps, OneRune p) : ∀ n y, ps.flatten.length ≤ n → stateN F K n ps.flatten y = stateP F K ps y := by
  induction ps with
  | nil => intro n y _; cases n <;> simp [stateN, stateP]
  | cons p ps ih =>
    intro n y hn
    have hp := h p (by simp)
    have hne : p ≠ [] := hp.1
    have hpl : 0 < p.length := List.length_pos_iff.2 hne
    rw [List.flatten_cons] at hn ⊢
    rw [List.length_append] at hn
    unfold stateP
    rw [stateN_step F K n _ y (by simp [hne]) (by rw [List.length_append]; exact hn), hp.eq]
    simp only [List.drop_left]
    rw [ih (fun q hq => h q (by simp [hq])) _ _ (by omega)]
/-- with more behind what was found is found there still -/
theorem findP_more (F K A : List Int) (ps qs : List (List UInt8)) : ∀ y at_ r, findP F K A ps y at_ = some r → findP F K A (ps ++ qs) y at_ = some r := by
  induction ps with
  | nil =>
    intro y at_ r h
    unfold findP at h
    cases ha : accd F A y
    · rw [ha] at h; simp at h
    · rw [ha] at h
      cases qs <;> simp [findP, ha] <;> simpa using h
  | cons p ps ih =>
    intro y at_ r h
    unfold findP at h
    rw [List.cons_append]
    unfold findP
    cases ha : accd F A y
    · rw [ha] at h
      simp only [Bool.false_eq_true, if_false] at h ⊢
      exact ih _ _ _ h
    · rw [ha] at h; simpa using h
end Go.Proofs.YtdonginboioocaaDoor.Plain
namespace Go.Proofs.YtdonginboioocaaDoor.Plain
open Go.Lib
/-- found is where it is first accepted -/
def FirstAt (F K A : List Int) (ps : List (List UInt8)) (y a : Nat) : Option Nat → Prop
  | some r => ∃ j, j ≤ ps.length ∧ r = a + j ∧ accd F A (stateP F K (ps.take j) y) = true ∧ ∀ i, i < j → accd F A (stateP F K (ps.take i) y) = false
  | none => ∀ i, i ≤ ps.length → accd F A (stateP F K (ps.take i) y) = false
theorem findP_first (F K A : List Int) (ps : List (List UInt8)) (h : ∀ p ∈ ps, p.length = 1) : ∀ y a, FirstAt F K A ps y a (findP F K A ps y a) := by
  induction ps with
  | nil =>
    intro y a
    unfold findP
    cases ha : accd F A y
    · intro i hi; simpa [stateP] using ha
    · exact ⟨0, Nat.le_refl _, rfl, by simpa [stateP] using ha, fun i hi => absurd hi (by omega)⟩
  | cons p ps ih =>
    intro y a
    have hp := h p (by simp)
    have ih := ih (fun q hq => h q (by simp [hq])) (goes F K y (runeOf p)) (a + p.length)
    unfold findP
    cases ha : accd F A y
    · simp only [Bool.false_eq_true, if_false]
      cases hf : findP F K A ps (goes F K y (runeOf p)) (a + p.length) with
      | none =>
        rw [hf] at ih
        intro i hi
        cases i with
        | zero => simpa [stateP] using ha
        | succ i => rw [List.take_succ_cons, stateP]; exact ih i (by simpa using hi)
      | some r =>
        rw [hf] at ih
        obtain ⟨j, hj, hr, h1, h2⟩ := ih
        refine ⟨j + 1, by simp; omega, by omega, by rw [List.take_succ_cons, stateP]; exact h1, fun i hi => ?_⟩
        cases i with
        | zero => simpa [stateP] using ha
        | succ i => rw [List.take_succ_cons, stateP]; exact h2 i (by omega)
    · exact ⟨0, Nat.zero_le _, rfl, by simpa [stateP] using ha, fun i hi => absurd hi (by omega)⟩
theorem rowsOf_cons (c K : List Int) (w a : Nat) (hc : c.length = w) : rowsOf (c ++ K) w (a + 1) = (c.map fun x => x / (w : Int)) :: rowsOf K w a := by
  unfold rowsOf
  rw [List.range_succ_eq_map, List.map_cons, List.map_map, Nat.zero_mul, List.drop_zero]
  congr 1
  · rw [List.take_append_of_le_length (by omega), List.take_of_length_le (by omega)]
  · refine List.map_congr_left fun k _ => ?_
    show (((c ++ K).drop ((k + 1) * w)).take w).map _ = _
    rw [Nat.add_mul, Nat.one_mul, Nat.add_comm, ← List.drop_drop, show (c ++ K).drop w = K from by rw [← hc]; exact List.drop_left]
theorem rows_cells (N : List (List Int)) (p : Nat) (hp : 0 < p) (h : ∀ r ∈ N, r.length = p) : rowsOf (cellsOf N) p N.length = N := by
  induction N with
  | nil => rfl
  | cons r N ih =>
    have h1 := h r (by simp)
    have h2 := ih fun q hq => h q (by simp [hq])
    unfold cellsOf at h2 ⊢
    rw [List.flatMap_cons, List.length_cons, rowsOf_cons _ _ _ _ (by simpa using h1), h2, List.map_map]
    congr 1
    conv => rhs; rw [← List.map_id r]
    refine List.map_congr_left fun x _ => ?_
    show x * (r.length : Int) / (p : Int) = x
    rw [h1]; exact Int.mul_ediv_cancel _ (by omega)
theorem flat_of_table (P : List Int) (N : List (List Int)) (C : List Bool) (h : tabRight P N C.length = true) : flatRight P (cellsOf N) (accsOf C) = true := by
  obtain ⟨hp, hn, hn0, hn64, hrow⟩ := tab_right _ _ _ h
  obtain ⟨⟨b0, b64, hz⟩, hb⟩ := parts_bound P hp
  have hl : (accsOf C).length = C.length := by simp [accsOf]
  have hm : (P.map fun r => r % 16777216) = P := by
    conv => rhs; rw [← List.map_id P]
    refine List.map_congr_left fun x hx => ?_
    obtain ⟨i, hi, rfl⟩ := List.getElem_of_mem hx
    have h2 := hb i hi
    rw [getD_lt _ _ _ hi] at h2
    show P[i] % 16777216 = P[i]
    omega
  have hc : (cellsOf N).length = P.length * C.length := by
    rw [cellsOf_len N P.length fun r hr => (hrow r hr).1, hn, Nat.mul_comm]
  unfold flatRight flatFine
  rw [hm, hl, hc, ← hn, rows_cells N P.length b0 fun r hr => (hrow r hr).1, hn, h]
  simp only [BEq.rfl, Bool.and_true, Bool.and_eq_true, List.all_eq_true, decide_eq_true_eq, Bool.not_eq_true', beq_eq_false_iff_ne, beq_iff_eq]
  refine ⟨by omega, ⟨fun x hx => ?_, fun x hx => ?_⟩, fun x hx => ?_⟩
  · obtain ⟨i, hi, rfl⟩ := List.getElem_of_mem hx
    have h2 := hb i hi
    rw [getD_lt _ _ _ hi] at h2
    omega
  · obtain ⟨r, hr, hx⟩ := List.mem_flatMap.1 hx
    obtain ⟨z, _, rfl⟩ := List.mem_map.1 hx
    rw [(hrow r hr).1]; exact Int.mul_emod_left _ _
  · obtain ⟨b, _, rfl⟩ := List.mem_map.1 hx
    cases b <;> decide
end Go.Proofs.YtdonginboioocaaDoor.Plain
