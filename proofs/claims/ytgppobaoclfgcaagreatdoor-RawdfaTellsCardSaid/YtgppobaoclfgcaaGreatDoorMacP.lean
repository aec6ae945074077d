/- A text gone through: in plain words. Conditions: what each lemma says. -/
import Derived.Test.YtgppobaoclfgcaaGreatDoorTabH
import Derived.Lib.MapLaws
import Derived.Lib.TrimAscii
import Derived.Lib.ValidLaws
set_option linter.unusedVariables false
set_option linter.unusedSimpArgs false
namespace Go.Proofs.YtgppobaoclfgcaaGreatDoor.Plain
open Go.Lib
theorem dec_pos (l : List UInt8) : 1 ≤ (decodeL l).2 := by rw [decodeL_N]; exact decodeN_ge1 _ _ _ _ _
theorem dec_right (l : List UInt8) : (decodeL l).1 ≤ 1114111 ∧ ((decodeL l).1 < 55296 ∨ 57343 < (decodeL l).1) := by
  have k0 := (l.getD 0 0).toNat_lt
  have k1 := (l.getD 1 0).toNat_lt
  have k2 := (l.getD 2 0).toNat_lt
  rw [decodeL_N]
  rcases decodeN_shape l.length (l.getD 0 0).toNat (l.getD 1 0).toNat (l.getD 2 0).toNat (l.getD 3 0).toNat with ⟨c, e⟩ | ⟨c1, c2, c3, cv, e⟩ | ⟨c1, c2, c3, c4, cv, cs, e⟩ | ⟨c1, c2, c3, c4, c5, cv, cw, e⟩ | e
  all_goals (rw [e]; dsimp only; omega)
/-- which part a rune is in -/
def partOf (P : List Int) (r : Int) : Nat := (P.drop 1).findIdx fun low => decide (r < low)
theorem partOf_eq (P : List Int) (r : Int) (hm : ∀ k j, k < j → j < P.length → P.getD k 0 < P.getD j 0) (k : Nat) (hk : k < P.length) (h1 : k = 0 ∨ P.getD k 0 ≤ r) (h2 : k + 1 = P.length ∨ r < P.getD (k + 1) 0) : partOf P r = k := by
  have hg : ∀ i (hi : i < (P.drop 1).length), (P.drop 1)[i] = P.getD (i + 1) 0 := fun i hi => by
    have h3 : i + 1 < P.length := by rw [List.length_drop] at hi; omega
    rw [List.getElem_drop]
    simp [List.getD, List.getElem?_eq_getElem h3, Nat.add_comm]
  unfold partOf
  have hlow : ∀ i (hi : i < (P.drop 1).length), i < k → ¬ (r < (P.drop 1)[i]) := fun i hi hik => by
    rw [hg i hi]
    rcases h1 with h1 | h1
    · omega
    · rcases Nat.lt_or_ge (i + 1) k with h3 | h3
      · have := hm (i + 1) k h3 hk; omega
      · obtain rfl : i + 1 = k := by omega
        omega
  rcases h2 with h2 | h2
  · have hle : (P.drop 1).length = k := by rw [List.length_drop]; omega
    rw [← hle]
    apply List.findIdx_eq_length.2
    intro x hx
    obtain ⟨i, hi, rfl⟩ := List.getElem_of_mem hx
    simpa using hlow i hi (by omega)
  · rcases Nat.lt_or_ge k (P.drop 1).length with h3 | h3
    · rw [List.findIdx_eq h3]
      exact ⟨by rw [hg k h3]; simpa using h2, fun i hi => by simpa using hlow i (by omega) hi⟩
    · have hle : (P.drop 1).length = k := by rw [List.length_drop] at h3 ⊢; omega
      rw [← hle]
      apply List.findIdx_eq_length.2
      intro x hx
      obtain ⟨i, hi, rfl⟩ := List.getElem_of_mem hx
      simpa using hlow i hi (by omega)
theorem partOf_lt (P : List Int) (r : Int) (h : 0 < P.length) : partOf P r < P.length := by
  have := List.findIdx_le_length (p := fun low => decide (r < low)) (xs := P.drop 1)
  unfold partOf
  rw [List.length_drop] at this
  omega
end Go.Proofs.YtgppobaoclfgcaaGreatDoor.Plain
namespace Go.Proofs.YtgppobaoclfgcaaGreatDoor.Plain
open Go.Lib
/-- where a machine goes by a rune -/
def goes (F K : List Int) (y : Nat) (r : Nat) : Nat := (K.getD (y + partOf F r) 0).toNat
def accd (F A : List Int) (y : Nat) : Bool := A.getD (y / F.length) 0 == 1
theorem goes_right {F K A : List Int} (h : Right F K A) (y r q : Nat) (hy : y = F.length * q) (hq : q < A.length) : (∃ q', goes F K y r = F.length * q' ∧ q' < A.length) ∧ y + F.length ≤ K.length ∧ y / F.length < A.length ∧ K.getD (y + partOf F r) 0 = (goes F K y r : Nat) := by
  have hp := partOf_lt F r h.p0
  have hle : y + F.length ≤ K.length := by
    rw [h.len, hy, ← Nat.mul_succ]; exact Nat.mul_le_mul_left _ hq
  obtain ⟨q', h1, h2⟩ := h.cell (y + partOf F r) (by omega)
  refine ⟨⟨q', by unfold goes; rw [h1]; exact Int.toNat_natCast _, h2⟩, hle, ?_, by unfold goes; rw [h1, Int.toNat_natCast]⟩
  rw [hy, Nat.mul_div_cancel_left _ h.p0]; exact hq
/-- what is found, by the runes of a text of at most so many bytes -/
def findN (F K A : List Int) : Nat → List UInt8 → Nat → Nat → Option Nat
  | 0, _, y, at_ => if accd F A y then some at_ else none
  | n + 1, l, y, at_ => if accd F A y then some at_ else if l.isEmpty then none else findN F K A n (l.drop (decodeL l).2) (goes F K y (decodeL l).1) (at_ + (decodeL l).2)
/-- where it comes to -/
def stateN (F K : List Int) : Nat → List UInt8 → Nat → Nat
  | 0, _, y => y
  | n + 1, l, y => if l.isEmpty then y else stateN F K n (l.drop (decodeL l).2) (goes F K y (decodeL l).1)
theorem findN_acc (F K A : List Int) (n : Nat) (l : List UInt8) (y at_ : Nat) (h : accd F A y = true) : findN F K A n l y at_ = some at_ := by
  cases n <;> simp [findN, h]
theorem findN_end (F K A : List Int) (n : Nat) (y at_ : Nat) (h : accd F A y = false) : findN F K A n [] y at_ = none := by
  cases n <;> simp [findN, h]
theorem findN_step (F K A : List Int) (n : Nat) (l : List UInt8) (y at_ : Nat) (h : accd F A y = false) (hl : l ≠ []) (hn : l.length ≤ n) : findN F K A n l y at_ = findN F K A (n - 1) (l.drop (decodeL l).2) (goes F K y (decodeL l).1) (at_ + (decodeL l).2) := by
  cases n with
  | zero => cases l with
    | nil => exact absurd rfl hl
    | cons x t => simp at hn
  | succ n => cases l with
    | nil => exact absurd rfl hl
    | cons x t => simp [findN, h]
theorem stateN_end (F K : List Int) (n : Nat) (y : Nat) : stateN F K n [] y = y := by cases n <;> simp [stateN]
theorem stateN_step (F K : List Int) (n : Nat) (l : List UInt8) (y : Nat) (hl : l ≠ []) (hn : l.length ≤ n) : stateN F K n l y = stateN F K (n - 1) (l.drop (decodeL l).2) (goes F K y (decodeL l).1) := by
  cases n with
  | zero => cases l with
    | nil => exact absurd rfl hl
    | cons x t => simp at hn
  | succ n => cases l with
    | nil => exact absurd rfl hl
    | cons x t => simp [stateN]
end Go.Proofs.YtgppobaoclfgcaaGreatDoor.Plain
namespace Go.Proofs.YtgppobaoclfgcaaGreatDoor.Plain
open Go.Lib
/-- a piece of text that is one rune, whatever stands behind it -/
def OneRune (p : List UInt8) : Prop := p ≠ [] ∧ ∃ r, ∀ t, decodeL (p ++ t) = (r, p.length)
theorem one_ascii (b : UInt8) (h : b.toNat < 128) : OneRune [b] := ⟨by simp, b.toNat, fun t => decodeL_ascii b t h⟩
theorem one_ff : OneRune [255] := ⟨by simp, 65533, fun t => by rw [decodeL_N]; exact decodeN_bad _ _ _ _ _ (by simp)⟩
theorem one_e : OneRune [195, 169] := ⟨by simp, 233, fun t => by rw [decodeL_N]; simp [decodeN]⟩
def runeOf (p : List UInt8) : Nat := (decodeL p).1
theorem OneRune.eq {p : List UInt8} (h : OneRune p) (t : List UInt8) : decodeL (p ++ t) = (runeOf p, p.length) := by
  obtain ⟨_, r, hr⟩ := h
  have := hr []
  rw [List.append_nil] at this
  unfold runeOf
  rw [hr t, this]
/-- what is found, by pieces -/
def findP (F K A : List Int) : List (List UInt8) → Nat → Nat → Option Nat
  | [], y, at_ => if accd F A y then some at_ else none
  | p :: ps, y, at_ => if accd F A y then some at_ else findP F K A ps (goes F K y (runeOf p)) (at_ + p.length)
def stateP (F K : List Int) : List (List UInt8) → Nat → Nat
  | [], y => y
  | p :: ps, y => stateP F K ps (goes F K y (runeOf p))
theorem findN_P (F K A : List Int) (ps : List (List UInt8)) (h : ∀ p ∈ ps, OneRune p) : ∀ n y at_, ps.flatten.length ≤ n → findN F K A n ps.flatten y at_ = findP F K A ps y at_ := by
  induction ps with
  | nil => intro n y at_ _; cases n <;> simp [findN, findP]
  | cons p ps ih =>
    intro n y at_ hn
    have hp := h p (by simp)
    have hne : p ≠ [] := hp.1
    have hpl : 0 < p.length := List.length_pos_iff.2 hne
    rw [List.flatten_cons] at hn ⊢
    rw [List.length_append] at hn
    unfold findP
    cases ha : accd F A y
    · rw [findN_step F K A n _ y at_ ha (by simp [hne]) (by rw [List.length_append]; exact hn), hp.eq]
      simp only [List.drop_left]
      rw [ih (fun q hq => h q (by simp [hq])) _ _ _ (by omega)]
      rfl
    · rw [findN_acc F K A n _ y at_ ha]; rfl
theorem stateN_P (F K : List Int) (ps : List (List UInt8)) (h : ∀ p ∈ ps, OneRune p) : ∀ n y, ps.flatten.length ≤ n → stateN F K n ps.flatten y = stateP F K ps y := by
  induction ps with
  | nil => intro n y _; cases n <;> simp [stateN, stateP]
  | cons p ps ih =>
    intro n y hn
    have hp := h p (by simp)
    have hne : p ≠ [] := hp.1
    have hpl : 0 < p.length := List.length_pos_iff.2 hne
    rw [List.flatten_cons] at hn ⊢
    rw [List.length_append] at hn
    unfold stateP
    rw [stateN_step F K n _ y (by simp [hne]) (by rw [List.length_append]; exact hn), hp.eq]
    simp only [List.drop_left]
    rw [ih (fun q hq => h q (by simp [hq])) _ _ (by omega)]
/-- with more behind what was found is found there still -/
theorem findP_more (F K A : List Int) (ps qs : List (List UInt8)) : ∀ y at_ r, findP F K A ps y at_ = some r → findP F K A (ps ++ qs) y at_ = some r := by
  induction ps with
  | nil =>
    intro y at_ r h
    unfold findP at h
    cases ha : accd F A y
    · rw [ha] at h; simp at h
    · rw [ha] at h
      cases qs <;> simp [findP, ha] <;> simpa using h
  | cons p ps ih =>
    intro y at_ r h
    unfold findP at h
    rw [List.cons_append]
    unfold findP
    cases ha : accd F A y
    · rw [ha] at h
      simp only [Bool.false_eq_true, if_false] at h ⊢
      exact ih _ _ _ h
    · rw [ha] at h; simpa using h
end Go.Proofs.YtgppobaoclfgcaaGreatDoor.Plain
namespace Go.Proofs.YtgppobaoclfgcaaGreatDoor.Plain
open Go.Lib
/-- found is where it is first accepted -/
def FirstAt (F K A : List Int) (ps : List (List UInt8)) (y a : Nat) : Option Nat → Prop
  | some r => ∃ j, j ≤ ps.length ∧ r = a + j ∧ accd F A (stateP F K (ps.take j) y) = true ∧ ∀ i, i < j → accd F A (stateP F K (ps.take i) y) = false
  | none => ∀ i, i ≤ ps.length → accd F A (stateP F K (ps.take i) y) = false
theorem findP_first (F K A : List Int) (ps : List (List UInt8)) (h : ∀ p ∈ ps, p.length = 1) : ∀ y a, FirstAt F K A ps y a (findP F K A ps y a) := by
  induction ps with
  | nil =>
    intro y a
    unfold findP
    cases ha : accd F A y
    · intro i hi; simpa [stateP] using ha
    · exact ⟨0, Nat.le_refl _, rfl, by simpa [stateP] using ha, fun i hi => absurd hi (by omega)⟩
  | cons p ps ih =>
    intro y a
    have hp := h p (by simp)
    have ih := ih (fun q hq => h q (by simp [hq])) (goes F K y (runeOf p)) (a + p.length)
    unfold findP
    cases ha : accd F A y
    · simp only [Bool.false_eq_true, if_false]
      cases hf : findP F K A ps (goes F K y (runeOf p)) (a + p.length) with
      | none =>
        rw [hf] at ih
        intro i hi
        cases i with
        | zero => simpa [stateP] using ha
        | succ i => rw [List.take_succ_cons, stateP]; exact ih i (by simpa using hi)
      | some r =>
        rw [hf] at ih
        obtain ⟨j, hj, hr, h1, h2⟩ := ih
        refine ⟨j + 1, by simp; omega, by omega, by rw [List.take_succ_cons, stateP]; exact h1, fun i hi => ?_⟩
        cases i with
        | zero => simpa [stateP] using ha
        | succ i => rw [List.take_succ_cons, stateP]; exact h2 i (by omega)
    · exact ⟨0, Nat.zero_le _, rfl, by simpa [stateP] using ha, fun i hi => absurd hi (by omega)⟩
end Go.Proofs.YtgppobaoclfgcaaGreatDoor.Plain
