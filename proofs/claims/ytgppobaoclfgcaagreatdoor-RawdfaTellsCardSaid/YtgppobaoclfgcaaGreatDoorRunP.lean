/- Runes of a text, in plain words: of the document. Conditions: what each lemma says. -/
import Derived.Test.YtgppobaoclfgcaaGreatDoorMacP
import Derived.Lib.MapLaws
set_option linter.unusedVariables false
set_option linter.unusedSimpArgs false
namespace Go.Proofs.YtgppobaoclfgcaaGreatDoor.Plain
open Go.Lib
/-- a rune: what it is, where it begins, how long it is -/
abbrev Rn := Nat × Nat × Nat
def allF : Nat → Nat → List UInt8 → List Rn
  | 0, _, _ => []
  | f + 1, p, l => if l = [] then [] else ((decodeL l).1, p, (decodeL l).2) :: allF f (p + (decodeL l).2) (l.drop (decodeL l).2)
def allA (p : Nat) (l : List UInt8) : List Rn := allF l.length p l
theorem dec_four (l : List UInt8) : (decodeL l).2 ≤ 4 := by
  rw [decodeL_N]
  rcases decodeN_shape l.length (l.getD 0 0).toNat (l.getD 1 0).toNat (l.getD 2 0).toNat (l.getD 3 0).toNat with ⟨c, e⟩ | ⟨c1, c2, c3, cv, e⟩ | ⟨c1, c2, c3, c4, cv, cs, e⟩ | ⟨c1, c2, c3, c4, c5, cv, cw, e⟩ | e
  all_goals (rw [e]; dsimp only; omega)
theorem allF_fuel : ∀ (n m p : Nat) (l : List UInt8), l.length ≤ n → l.length ≤ m → allF n p l = allF m p l
  | 0, m, p, l, hn, _ => by
    obtain rfl : l = [] := List.eq_nil_of_length_eq_zero (by omega)
    cases m <;> simp [allF]
  | n + 1, 0, p, l, _, hm => by
    obtain rfl : l = [] := List.eq_nil_of_length_eq_zero (by omega)
    simp [allF]
  | n + 1, m + 1, p, l, hn, hm => by
    by_cases hne : l = []
    · simp [allF, hne]
    · have hw := dec_pos l
      have hl : 0 < l.length := List.length_pos_iff.2 hne
      simp only [allF, if_neg hne]
      rw [allF_fuel n m _ _ (by rw [List.length_drop]; omega) (by rw [List.length_drop]; omega)]
theorem allA_nil (p : Nat) : allA p [] = [] := rfl
theorem allA_step (p : Nat) (l : List UInt8) (hne : l ≠ []) : allA p l = ((decodeL l).1, p, (decodeL l).2) :: allA (p + (decodeL l).2) (l.drop (decodeL l).2) := by
  have hw := dec_pos l
  have hl : 0 < l.length := List.length_pos_iff.2 hne
  unfold allA
  rw [allF_fuel l.length ((l.length - 1) + 1) p l (by omega) (by omega)]
  simp only [allF, if_neg hne]
  rw [allF_fuel (l.length - 1) _ _ _ (by rw [List.length_drop]; omega) (Nat.le_refl _)]
theorem dN1 (n b0 b1 b2 b3 : Nat) (h : b0 < 128) : decodeN n b0 b1 b2 b3 = (b0, 1) := by unfold decodeN; rw [if_pos h]
theorem dN2 (n b0 b1 b2 b3 : Nat) (h : b0 / 32 = 6) (h1 : 1 < n) (h2 : b1 / 64 = 2) (h3 : 128 ≤ b0 % 32 * 64 + b1 % 64) : decodeN n b0 b1 b2 b3 = (b0 % 32 * 64 + b1 % 64, 2) := by
  unfold decodeN; rw [if_neg (by omega), if_pos ⟨h, h1, h2⟩, if_pos h3]
theorem dN3 (n b0 b1 b2 b3 : Nat) (h : b0 / 16 = 14) (h1 : 2 < n) (h2 : b1 / 64 = 2) (h3 : b2 / 64 = 2) (h4 : 2048 ≤ b0 % 16 * 4096 + b1 % 64 * 64 + b2 % 64) (h5 : b0 % 16 * 4096 + b1 % 64 * 64 + b2 % 64 < 55296 ∨ 57344 ≤ b0 % 16 * 4096 + b1 % 64 * 64 + b2 % 64) :
    decodeN n b0 b1 b2 b3 = (b0 % 16 * 4096 + b1 % 64 * 64 + b2 % 64, 3) := by
  unfold decodeN; rw [if_neg (by omega), if_neg (by omega), if_pos ⟨h, ⟨by omega, h2⟩, h1, h3⟩, if_pos ⟨h4, by omega⟩]
theorem dN4 (n b0 b1 b2 b3 : Nat) (h : b0 / 8 = 30) (h1 : 3 < n) (h2 : b1 / 64 = 2) (h3 : b2 / 64 = 2) (h4 : b3 / 64 = 2) (h5 : 65536 ≤ b0 % 8 * 262144 + b1 % 64 * 4096 + b2 % 64 * 64 + b3 % 64) (h6 : b0 % 8 * 262144 + b1 % 64 * 4096 + b2 % 64 * 64 + b3 % 64 ≤ 1114111) :
    decodeN n b0 b1 b2 b3 = (b0 % 8 * 262144 + b1 % 64 * 4096 + b2 % 64 * 64 + b3 % 64, 4) := by
  unfold decodeN; rw [if_neg (by omega), if_neg (by omega), if_neg (by omega), if_pos ⟨h, ⟨by omega, h2⟩, ⟨by omega, h3⟩, h1, h4⟩, if_pos ⟨h5, by omega⟩]
/-- a rune put ahead of anything is told -/
def fixR (r : Int) : Nat := if 0 ≤ r ∧ r ≤ 1114111 ∧ (r < 55296 ∨ 57343 < r) then r.toNat else 65533
theorem getA (a : UInt8) (l : List UInt8) : (a :: l).getD 0 0 = a := rfl
theorem dec_put (r : Int) (t : List UInt8) : decodeL (encodeRune r ++ t) = (fixR r, (encodeRune r).length) := by
  have key : ∀ z : Int, 0 ≤ z → z < 256 → (z.toNat.toUInt8).toNat = z.toNat := fun z h0 h1 => by
    simp [Nat.toUInt8]; omega
  by_cases hb : 0 ≤ r ∧ r ≤ 1114111 ∧ (r < 55296 ∨ 57343 < r)
  · have hf : fixR r = r.toNat := by unfold fixR; rw [if_pos hb]
    rw [hf, decodeL_N]
    unfold encodeRune
    obtain ⟨k0, k1, k2⟩ := hb
    rcases (by omega : r ≤ 127 ∨ (128 ≤ r ∧ r ≤ 2047) ∨ (2048 ≤ r ∧ r ≤ 65535) ∨ 65536 ≤ r) with h | ⟨h, h'⟩ | ⟨h, h'⟩ | h
    · rw [encodeRuneZ_one k0 h]
      simp only [List.map_cons, List.map_nil, List.cons_append, List.nil_append, List.length_cons, List.length_nil, getA]
      have q0 := key r (by omega) (by omega)
      rw [q0]; exact dN1 _ _ _ _ _ (by omega)
    · rw [encodeRuneZ_two h h']
      simp only [List.map_cons, List.map_nil, List.cons_append, List.nil_append, List.length_cons, List.length_nil, getA, List.getD_cons_succ]
      have q0 := key (192 + r / 64) (by omega) (by omega)
      have q1 := key (128 + r % 64) (by omega) (by omega)
      rw [q0, q1, dN2 _ _ _ _ _ (by omega) (by omega) (by omega) (by omega)]
      congr 1; omega
    · rw [encodeRuneZ_three (by omega)]
      simp only [List.map_cons, List.map_nil, List.cons_append, List.nil_append, List.length_cons, List.length_nil, getA, List.getD_cons_succ]
      have q0 := key (224 + r / 4096) (by omega) (by omega)
      have q1 := key (128 + r / 64 % 64) (by omega) (by omega)
      have q2 := key (128 + r % 64) (by omega) (by omega)
      rw [q0, q1, q2, dN3 _ _ _ _ _ (by omega) (by omega) (by omega) (by omega) (by omega) (by omega)]
      congr 1; omega
    · rw [encodeRuneZ_four h k1]
      simp only [List.map_cons, List.map_nil, List.cons_append, List.nil_append, List.length_cons, List.length_nil, getA, List.getD_cons_succ]
      have q0 := key (240 + r / 262144) (by omega) (by omega)
      have q1 := key (128 + r / 4096 % 64) (by omega) (by omega)
      have q2 := key (128 + r / 64 % 64) (by omega) (by omega)
      have q3 := key (128 + r % 64) (by omega) (by omega)
      rw [q0, q1, q2, q3, dN4 _ _ _ _ _ (by omega) (by omega) (by omega) (by omega) (by omega) (by omega) (by omega)]
      congr 1; omega
  · have hf : fixR r = 65533 := by unfold fixR; rw [if_neg hb]
    rw [hf, decodeL_N]
    unfold encodeRune
    rw [encodeRuneZ_bad (by omega)]
    simp only [List.map_cons, List.map_nil, List.cons_append, List.nil_append, List.length_cons, List.length_nil, getA, List.getD_cons_succ]
    rw [dN3 _ _ _ _ _ (by decide) (by omega) (by decide) (by decide) (by decide) (by decide)]
    rfl
end Go.Proofs.YtgppobaoclfgcaaGreatDoor.Plain
namespace Go.Proofs.YtgppobaoclfgcaaGreatDoor.Plain
open Go.Lib
/-- how the document's decoder begins: how many bytes, what of the first -/
def rsize (b : Nat) : Nat := if 240 ≤ b then 4 else if 224 ≤ b then 3 else if 192 ≤ b then 2 else 1
def rlow (b : Nat) : Nat := if 240 ≤ b then b % 8 else if 224 ≤ b then b % 16 else if 192 ≤ b then b % 32 else b
/-- the number of the first k bytes -/
def rnum (l : List UInt8) : Nat → Nat
  | 0 => rlow (l.getD 0 0).toNat
  | k + 1 => rnum l k * 64 + (l.getD (k + 1) 0).toNat % 64
def runeB (r : Int) : Bool := decide (0 ≤ r ∧ r ≤ 1114111 ∧ (r < 55296 ∨ 57343 < r))
/-- the document's decoder -/
def rfirst (l : List UInt8) : Nat × Nat :=
  let k := rsize (l.getD 0 0).toNat
  if l.length < k then (65533, 1)
  else if 1114111 < rnum l (k - 1) ∨ runeB (rnum l (k - 1)) = false ∨ encodeRune (rnum l (k - 1) : Int) ≠ l.take k then (65533, 1)
  else (rnum l (k - 1), k)
theorem rfirst_eq (l : List UInt8) (hne : l ≠ []) : rfirst l = decodeL l := by
  have hl : 0 < l.length := List.length_pos_iff.2 hne
  unfold rfirst
  dsimp only
  by_cases hpass : ¬ l.length < rsize (l.getD 0 0).toNat ∧ ¬ (1114111 < rnum l (rsize (l.getD 0 0).toNat - 1) ∨ runeB (rnum l (rsize (l.getD 0 0).toNat - 1)) = false ∨ encodeRune (rnum l (rsize (l.getD 0 0).toNat - 1) : Int) ≠ l.take (rsize (l.getD 0 0).toNat))
  · obtain ⟨h1, h2⟩ := hpass
    rw [if_neg h1, if_neg h2]
    have h3 : encodeRune (rnum l (rsize (l.getD 0 0).toNat - 1) : Int) = l.take (rsize (l.getD 0 0).toNat) := Classical.byContradiction fun h => h2 (.inr (.inr h))
    have h4 : runeB (rnum l (rsize (l.getD 0 0).toNat - 1)) = true := by
      cases h : runeB (rnum l (rsize (l.getD 0 0).toNat - 1)) with
      | true => rfl
      | false => exact absurd (.inr (.inl h)) h2
    have hd := dec_put (rnum l (rsize (l.getD 0 0).toNat - 1) : Int) (l.drop (rsize (l.getD 0 0).toNat))
    rw [h3, List.take_append_drop, List.length_take] at hd
    rw [hd]
    unfold fixR
    unfold runeB at h4
    rw [if_pos (of_decide_eq_true h4)]
    refine Prod.ext (by simp) ?_
    dsimp only; omega
  · have hd : decodeL l = (65533, 1) := by
      refine Classical.byContradiction fun hv => hpass ?_
      have he := encode_decode l hne (by intro ⟨a, b⟩; exact hv (Prod.ext a b))
      have hr := dec_right l
      have hle := decodeL_le l hne
      have k0 := (l.getD 0 0).toNat_lt
      rw [decodeL_N] at he hr hle hv
      have key : ∀ r k, decodeN l.length (l.getD 0 0).toNat (l.getD 1 0).toNat (l.getD 2 0).toNat (l.getD 3 0).toNat = (r, k) → rsize (l.getD 0 0).toNat = k → rnum l (k - 1) = r →
          ¬ l.length < rsize (l.getD 0 0).toNat ∧ ¬ (1114111 < rnum l (rsize (l.getD 0 0).toNat - 1) ∨ runeB (rnum l (rsize (l.getD 0 0).toNat - 1)) = false ∨ encodeRune (rnum l (rsize (l.getD 0 0).toNat - 1) : Int) ≠ l.take (rsize (l.getD 0 0).toNat)) := by
        intro r k e e1 e2
        rw [e] at he hr hle
        rw [e1, e2]
        dsimp only at he hr hle
        refine ⟨by omega, ?_⟩
        rintro (h | h | h)
        · omega
        · unfold runeB at h; rw [decide_eq_false_iff_not] at h; omega
        · exact h he
      rcases decodeN_shape l.length (l.getD 0 0).toNat (l.getD 1 0).toNat (l.getD 2 0).toNat (l.getD 3 0).toNat with ⟨c, e⟩ | ⟨c1, c2, c3, cv, e⟩ | ⟨c1, c2, c3, c4, cv, cs, e⟩ | ⟨c1, c2, c3, c4, c5, cv, cw, e⟩ | e
      · refine key _ _ e ?_ ?_
        · unfold rsize; rw [if_neg (by omega), if_neg (by omega), if_neg (by omega)]
        · show rlow _ = _
          unfold rlow; rw [if_neg (by omega), if_neg (by omega), if_neg (by omega)]
      · refine key _ _ e ?_ ?_
        · unfold rsize; rw [if_neg (by omega), if_neg (by omega), if_pos (by omega)]
        · show rlow _ * 64 + _ = _
          unfold rlow; rw [if_neg (by omega), if_neg (by omega), if_pos (by omega)]
      · refine key _ _ e ?_ ?_
        · unfold rsize; rw [if_neg (by omega), if_pos (by omega)]
        · show (rlow _ * 64 + _) * 64 + _ = _
          unfold rlow; rw [if_neg (by omega), if_pos (by omega)]
          show ((l.getD 0 0).toNat % 16 * 64 + (l.getD 1 0).toNat % 64) * 64 + (l.getD 2 0).toNat % 64 = _
          omega
      · refine key _ _ e ?_ ?_
        · unfold rsize; rw [if_pos (by omega)]
        · show ((rlow _ * 64 + _) * 64 + _) * 64 + _ = _
          unfold rlow; rw [if_pos (by omega)]
          show (((l.getD 0 0).toNat % 8 * 64 + (l.getD 1 0).toNat % 64) * 64 + (l.getD 2 0).toNat % 64) * 64 + (l.getD 3 0).toNat % 64 = _
          omega
      · exact absurd e hv
    rw [hd]
    by_cases h1 : l.length < rsize (l.getD 0 0).toNat
    · rw [if_pos h1]
    · rw [if_neg h1, if_pos (Classical.byContradiction fun h2 => hpass ⟨h1, h2⟩)]
end Go.Proofs.YtgppobaoclfgcaaGreatDoor.Plain
