/- Plain facts on a text's runes, one behind the other: where each begins, how long it is, what it decodes to. No program in sight. Nothing is assumed. -/
import Derived.Lib.MapLaws
namespace Go.Proofs.YtjkialgdaikijaaDoor.Plain
open Go.Lib
/-- a rune: what it is, where it begins, how long it is -/
abbrev Rn := Nat × Nat × Nat
def allF : Nat → Nat → List UInt8 → List Rn
  | 0, _, _ => []
  | f + 1, p, l => if l = [] then [] else ((decodeL l).1, p, (decodeL l).2) :: allF f (p + (decodeL l).2) (l.drop (decodeL l).2)
def allA (p : Nat) (l : List UInt8) : List Rn := allF l.length p l
theorem dec_pos (l : List UInt8) : 1 ≤ (decodeL l).2 := by rw [decodeL_N]; exact decodeN_ge1 _ _ _ _ _
theorem dec_four (l : List UInt8) : (decodeL l).2 ≤ 4 := by
  rw [decodeL_N]
  rcases decodeN_shape l.length (l.getD 0 0).toNat (l.getD 1 0).toNat (l.getD 2 0).toNat (l.getD 3 0).toNat with ⟨c, e⟩ | ⟨c1, c2, c3, cv, e⟩ | ⟨c1, c2, c3, c4, cv, cs, e⟩ | ⟨c1, c2, c3, c4, c5, cv, cw, e⟩ | e
  all_goals (rw [e]; dsimp only; omega)
theorem dec_right (l : List UInt8) : (decodeL l).1 ≤ 1114111 ∧ ((decodeL l).1 < 55296 ∨ 57343 < (decodeL l).1) := by
  have k0 := (l.getD 0 0).toNat_lt
  have k1 := (l.getD 1 0).toNat_lt
  have k2 := (l.getD 2 0).toNat_lt
  rw [decodeL_N]
  rcases decodeN_shape l.length (l.getD 0 0).toNat (l.getD 1 0).toNat (l.getD 2 0).toNat (l.getD 3 0).toNat with ⟨c, e⟩ | ⟨c1, c2, c3, cv, e⟩ | ⟨c1, c2, c3, c4, cv, cs, e⟩ | ⟨c1, c2, c3, c4, c5, cv, cw, e⟩ | e
  all_goals (rw [e]; dsimp only; omega)
theorem allF_fuel : ∀ (n m p : Nat) (l : List UInt8), l.length ≤ n → l.length ≤ m → allF n p l = allF m p l
  | 0, m, p, l, hn, _ => by
    obtain rfl : l = [] := List.eq_nil_of_length_eq_zero (by omega)
    cases m <;> simp [allF]
  | n + 1, 0, p, l, _, hm => by
    obtain rfl : l = [] := List.eq_nil_of_length_eq_zero (by omega)
    simp [allF]
  | n + 1, m + 1, p, l, hn, hm => by
    by_cases hne : l = []
    · simp [allF, hne]
    · have hw := dec_pos l
      have hl : 0 < l.length := List.length_pos_iff.2 hne
      simp only [allF, if_neg hne]
      rw [allF_fuel n m _ _ (by rw [List.length_drop]; omega) (by rw [List.length_drop]; omega)]
theorem allA_nil (p : Nat) : allA p [] = [] := rfl
theorem allA_step (p : Nat) (l : List UInt8) (hne : l ≠ []) : allA p l = ((decodeL l).1, p, (decodeL l).2) :: allA (p + (decodeL l).2) (l.drop (decodeL l).2) := by
  have hw := dec_pos l
  have hl : 0 < l.length := List.length_pos_iff.2 hne
  unfold allA
  rw [allF_fuel l.length ((l.length - 1) + 1) p l (by omega) (by omega)]
  simp only [allF, if_neg hne]
  rw [allF_fuel (l.length - 1) _ _ _ (by rw [List.length_drop]; omega) (Nat.le_refl _)]
/-- to go by the runes of a text -/
theorem byRunes {M : Nat → List UInt8 → Prop} (h0 : ∀ p, M p []) (h1 : ∀ p l, l ≠ [] → M (p + (decodeL l).2) (l.drop (decodeL l).2) → M p l) : ∀ p l, M p l := by
  have : ∀ n p l, l.length ≤ n → M p l := by
    intro n
    induction n with
    | zero => intro p l h; obtain rfl : l = [] := List.eq_nil_of_length_eq_zero (by omega); exact h0 p
    | succ n ih =>
      intro p l h
      by_cases hne : l = []
      · subst hne; exact h0 p
      · have hw := dec_pos l
        have hl : 0 < l.length := List.length_pos_iff.2 hne
        exact h1 p l hne (ih _ _ (by rw [List.length_drop]; omega))
  exact fun p l => this l.length p l (Nat.le_refl _)
theorem all_len : ∀ p l, (allA p l).length ≤ l.length := byRunes (fun p => by simp [allA_nil]) fun p l hne ih => by
  have hw := dec_pos l
  have hl := decodeL_le l hne
  rw [allA_step p l hne, List.length_cons]; rw [List.length_drop] at ih; omega
/-- where the i-th rune begins, the first one at p -/
def beg (p : Nat) (L : List Rn) (i : Nat) : Nat := p + ((L.take i).map fun x => x.2.2).sum
theorem beg_zero (p : Nat) (L : List Rn) : beg p L 0 = p := by simp [beg]
theorem beg_cons (p : Nat) (x : Rn) (L : List Rn) (i : Nat) : beg p (x :: L) (i + 1) = beg (p + x.2.2) L i := by
  unfold beg; rw [List.take_succ_cons, List.map_cons, List.sum_cons]; omega
theorem beg_succ (p : Nat) (L : List Rn) (i : Nat) (h : i < L.length) : beg p L (i + 1) = beg p L i + L[i].2.2 := by
  unfold beg; rw [List.take_succ_eq_append_getElem h, List.map_append, List.sum_append]; simp; omega
/-- each rune of a text: where it begins, how long it is, what it is -/
def Fine (p : Nat) (l : List UInt8) (L : List Rn) : Prop :=
  (∀ i (h : i < L.length), L[i].2.1 = beg p L i ∧ 1 ≤ L[i].2.2 ∧ L[i].2.2 ≤ 4 ∧ beg p L i + L[i].2.2 ≤ p + l.length ∧ L[i].1 ≤ 1114111 ∧ (L[i].1 < 55296 ∨ 57343 < L[i].1) ∧
    (encodeRune (L[i].1 : Int) = (l.drop (beg p L i - p)).take L[i].2.2 ∨ (L[i].1 = 65533 ∧ L[i].2.2 = 1)) ∧ (L[i].1 = 65533 → L[i].2.2 = 1 → encodeRune (L[i].1 : Int) ≠ (l.drop (beg p L i - p)).take L[i].2.2)) ∧ beg p L L.length = p + l.length
theorem all_fine : ∀ p l, Fine p l (allA p l) := byRunes
  (fun p => by simp [allA_nil, Fine, beg])
  (fun p l hne ih => by
    have h1 := dec_pos l
    have h2 := dec_four l
    have h3 := dec_right l
    have h4 := decodeL_le l hne
    have h5 := encode_decode l hne
    rw [allA_step p l hne]
    obtain ⟨ia, ib⟩ := ih
    refine ⟨fun i hi => ?_, ?_⟩
    · match i with
      | 0 =>
        simp only [List.getElem_cons_zero, beg_zero, Nat.sub_self, List.drop_zero]
        refine ⟨trivial, h1, h2, by omega, h3.1, h3.2, ?_, ?_⟩
        · by_cases hb : (decodeL l).1 = 65533 ∧ (decodeL l).2 = 1
          · exact .inr hb
          · exact .inl (h5 hb)
        · intro e1 e2 e3
          rw [e1, e2] at e3
          have := congrArg List.length e3
          rw [List.length_take, show (encodeRune ((65533 : Nat) : Int)).length = 3 from by decide +kernel] at this
          omega
      | i + 1 =>
        simp only [List.length_cons] at hi
        obtain ⟨j1, j2, j3, j4, j5, j6, j7, j8⟩ := ia i (by omega)
        have hp : p + (decodeL l).2 ≤ beg (p + (decodeL l).2) (allA (p + (decodeL l).2) (l.drop (decodeL l).2)) i := by unfold beg; omega
        have hs : ∀ b, p + (decodeL l).2 ≤ b → (l.drop (decodeL l).2).drop (b - (p + (decodeL l).2)) = l.drop (b - p) := fun b hb => by
          rw [List.drop_drop]; congr 1; omega
        simp only [List.getElem_cons_succ, beg_cons]
        rw [hs _ hp] at j7 j8
        rw [List.length_drop] at j4
        exact ⟨j1, j2, j3, by omega, j5, j6, j7, j8⟩
    · rw [List.length_cons, beg_cons, ib, List.length_drop]; omega)
theorem beg_mono (p : Nat) (L : List Rn) (hL : ∀ i (h : i < L.length), 1 ≤ L[i].2.2) (i j : Nat) (hij : i < j) (hj : j ≤ L.length) : beg p L i < beg p L j := by
  induction j with
  | zero => omega
  | succ j ih =>
    have hs := beg_succ p L j (by omega)
    have := hL j (by omega)
    rcases Nat.lt_or_eq_of_le (Nat.le_of_lt_succ hij) with h | h
    · have := ih h (by omega); omega
    · subst h; omega
/-- the first of some runes with a mark -/
def findR (q : Rn → Bool) (L : List Rn) : Option Rn := L.find? q
theorem find_at (p : Nat) (l : List UInt8) (i : Nat) (h : i < (allA p l).length) : (allA p l).find? (fun x => x.2.1 == (allA p l)[i].2.1) = some (allA p l)[i] := by
  have hf := all_fine p l
  rw [List.find?_eq_some_iff_getElem]
  refine ⟨by simp, i, h, rfl, fun j hj => ?_⟩
  have hm := beg_mono p (allA p l) (fun k hk => (hf.1 k hk).2.1) j i hj (by omega)
  rw [(hf.1 i h).1, (hf.1 j (by omega)).1]
  simp; omega
theorem find_end (p : Nat) (l : List UInt8) (i : Nat) (h : i < (allA p l).length) : (allA p l).find? (fun x => x.2.1 + x.2.2 == (allA p l)[i].2.1 + (allA p l)[i].2.2) = some (allA p l)[i] := by
  have hf := all_fine p l
  rw [List.find?_eq_some_iff_getElem]
  refine ⟨by simp, i, h, rfl, fun j hj => ?_⟩
  have hm := beg_mono p (allA p l) (fun k hk => (hf.1 k hk).2.1) (j + 1) (i + 1) (by omega) (by omega)
  rw [beg_succ _ _ _ h, beg_succ _ _ _ (by omega)] at hm
  rw [(hf.1 i h).1, (hf.1 j (by omega)).1]
  simp; omega
/-- a place is one between runes -/
def placeB (L : List Rn) (a : Int) : Bool := (L.any fun x => (x.2.1 : Int) + x.2.2 == a) || a == 0
theorem place_beg (l : List UInt8) (i : Nat) (h : i ≤ (allA 0 l).length) : placeB (allA 0 l) (beg 0 (allA 0 l) i) = true := by
  unfold placeB
  match i with
  | 0 => simp [beg_zero]
  | i + 1 =>
    have hf := (all_fine 0 l).1 i (by omega)
    rw [Bool.or_eq_true]; left
    rw [List.any_eq_true]
    exact ⟨(allA 0 l)[i], List.getElem_mem _, by rw [beg_succ _ _ _ (by omega), hf.1]; simp⟩
theorem dN1 (n b0 b1 b2 b3 : Nat) (h : b0 < 128) : decodeN n b0 b1 b2 b3 = (b0, 1) := by unfold decodeN; rw [if_pos h]
theorem dN2 (n b0 b1 b2 b3 : Nat) (h : b0 / 32 = 6) (h1 : 1 < n) (h2 : b1 / 64 = 2) (h3 : 128 ≤ b0 % 32 * 64 + b1 % 64) : decodeN n b0 b1 b2 b3 = (b0 % 32 * 64 + b1 % 64, 2) := by
  unfold decodeN; rw [if_neg (by omega), if_pos ⟨h, h1, h2⟩, if_pos h3]
theorem dN3 (n b0 b1 b2 b3 : Nat) (h : b0 / 16 = 14) (h1 : 2 < n) (h2 : b1 / 64 = 2) (h3 : b2 / 64 = 2) (h4 : 2048 ≤ b0 % 16 * 4096 + b1 % 64 * 64 + b2 % 64) (h5 : b0 % 16 * 4096 + b1 % 64 * 64 + b2 % 64 < 55296 ∨ 57344 ≤ b0 % 16 * 4096 + b1 % 64 * 64 + b2 % 64) :
    decodeN n b0 b1 b2 b3 = (b0 % 16 * 4096 + b1 % 64 * 64 + b2 % 64, 3) := by
  unfold decodeN; rw [if_neg (by omega), if_neg (by omega), if_pos ⟨h, ⟨by omega, h2⟩, h1, h3⟩, if_pos ⟨h4, by omega⟩]
theorem dN4 (n b0 b1 b2 b3 : Nat) (h : b0 / 8 = 30) (h1 : 3 < n) (h2 : b1 / 64 = 2) (h3 : b2 / 64 = 2) (h4 : b3 / 64 = 2) (h5 : 65536 ≤ b0 % 8 * 262144 + b1 % 64 * 4096 + b2 % 64 * 64 + b3 % 64) (h6 : b0 % 8 * 262144 + b1 % 64 * 4096 + b2 % 64 * 64 + b3 % 64 ≤ 1114111) :
    decodeN n b0 b1 b2 b3 = (b0 % 8 * 262144 + b1 % 64 * 4096 + b2 % 64 * 64 + b3 % 64, 4) := by
  unfold decodeN; rw [if_neg (by omega), if_neg (by omega), if_neg (by omega), if_pos ⟨h, ⟨by omega, h2⟩, ⟨by omega, h3⟩, h1, h4⟩, if_pos ⟨h5, by omega⟩]
/-- decoding does not look beyond a place behind the rune -/
theorem dec_take (l : List UInt8) (m : Nat) (hne : l ≠ []) (hm : (decodeL l).2 ≤ m) : decodeL (l.take m) = decodeL l := by
  have h1 := dec_pos l
  have g : ∀ k, k < m → (l.take m).getD k 0 = l.getD k 0 := fun k hk => by simp [List.getD, hk]
  have hl : 0 < l.length := List.length_pos_iff.2 hne
  have hn : (l.take m).length = min m l.length := List.length_take
  have e0 := g 0 (by omega)
  rw [decodeL_N (l.take m), hn, e0]
  rw [decodeL_N] at hm ⊢
  rcases decodeN_shape l.length (l.getD 0 0).toNat (l.getD 1 0).toNat (l.getD 2 0).toNat (l.getD 3 0).toNat with ⟨c, e⟩ | ⟨c1, c2, c3, cv, e⟩ | ⟨c1, c2, c3, c4, cv, cs, e⟩ | ⟨c1, c2, c3, c4, c5, cv, cw, e⟩ | e
  · rw [e, dN1 _ _ _ _ _ c]
  · rw [e] at hm ⊢; dsimp only at hm
    rw [g 1 (by omega), dN2 _ _ _ _ _ c1 (by omega) c3 cv]
  · rw [e] at hm ⊢; dsimp only at hm
    rw [g 1 (by omega), g 2 (by omega), dN3 _ _ _ _ _ c1 (by omega) c3 c4 cv cs]
  · rw [e] at hm ⊢; dsimp only at hm
    rw [g 1 (by omega), g 2 (by omega), g 3 (by omega), dN4 _ _ _ _ _ c1 (by omega) c3 c4 c5 cv cw]
  · have he := e
    rw [e]
    rcases decodeN_shape (min m l.length) (l.getD 0 0).toNat ((l.take m).getD 1 0).toNat ((l.take m).getD 2 0).toNat ((l.take m).getD 3 0).toNat with ⟨c, e⟩ | ⟨c1, c2, c3, cv, e⟩ | ⟨c1, c2, c3, c4, cv, cs, e⟩ | ⟨c1, c2, c3, c4, c5, cv, cw, e⟩ | e
    · rw [dN1 _ _ _ _ _ c] at he; injection he; omega
    · rw [g 1 (by omega)] at c3 cv
      rw [dN2 _ _ _ _ _ c1 (by omega) c3 cv] at he; injection he with _ x; cases x
    · rw [g 1 (by omega)] at c3 cv cs
      rw [g 2 (by omega)] at c4 cv cs
      rw [dN3 _ _ _ _ _ c1 (by omega) c3 c4 cv cs] at he; injection he with _ x; cases x
    · rw [g 1 (by omega)] at c3 cv cw
      rw [g 2 (by omega)] at c4 cv cw
      rw [g 3 (by omega)] at c5 cv cw
      rw [dN4 _ _ _ _ _ c1 (by omega) c3 c4 c5 cv cw] at he; injection he with _ x; cases x
    · exact e
/-- a rune put ahead of anything is told -/
def fixR (r : Int) : Nat := if 0 ≤ r ∧ r ≤ 1114111 ∧ (r < 55296 ∨ 57343 < r) then r.toNat else 65533
theorem getA (a : UInt8) (l : List UInt8) : (a :: l).getD 0 0 = a := rfl
theorem dec_put (r : Int) (t : List UInt8) : decodeL (encodeRune r ++ t) = (fixR r, (encodeRune r).length) := by
  have key : ∀ z : Int, 0 ≤ z → z < 256 → (z.toNat.toUInt8).toNat = z.toNat := fun z h0 h1 => by
    simp [Nat.toUInt8]; omega
  by_cases hb : 0 ≤ r ∧ r ≤ 1114111 ∧ (r < 55296 ∨ 57343 < r)
  · have hf : fixR r = r.toNat := by unfold fixR; rw [if_pos hb]
    rw [hf, decodeL_N]
    unfold encodeRune
    obtain ⟨k0, k1, k2⟩ := hb
    rcases (by omega : r ≤ 127 ∨ (128 ≤ r ∧ r ≤ 2047) ∨ (2048 ≤ r ∧ r ≤ 65535) ∨ 65536 ≤ r) with h | ⟨h, h'⟩ | ⟨h, h'⟩ | h
    · rw [encodeRuneZ_one k0 h]
      simp only [List.map_cons, List.map_nil, List.cons_append, List.nil_append, List.length_cons, List.length_nil, getA]
      have q0 := key r (by omega) (by omega)
      rw [q0]; exact dN1 _ _ _ _ _ (by omega)
    · rw [encodeRuneZ_two h h']
      simp only [List.map_cons, List.map_nil, List.cons_append, List.nil_append, List.length_cons, List.length_nil, getA, List.getD_cons_succ]
      have q0 := key (192 + r / 64) (by omega) (by omega)
      have q1 := key (128 + r % 64) (by omega) (by omega)
      rw [q0, q1, dN2 _ _ _ _ _ (by omega) (by omega) (by omega) (by omega)]
      congr 1; omega
    · rw [encodeRuneZ_three (by omega)]
      simp only [List.map_cons, List.map_nil, List.cons_append, List.nil_append, List.length_cons, List.length_nil, getA, List.getD_cons_succ]
      have q0 := key (224 + r / 4096) (by omega) (by omega)
      have q1 := key (128 + r / 64 % 64) (by omega) (by omega)
      have q2 := key (128 + r % 64) (by omega) (by omega)
      rw [q0, q1, q2, dN3 _ _ _ _ _ (by omega) (by omega) (by omega) (by omega) (by omega) (by omega)]
      congr 1; omega
    · rw [encodeRuneZ_four h k1]
      simp only [List.map_cons, List.map_nil, List.cons_append, List.nil_append, List.length_cons, List.length_nil, getA, List.getD_cons_succ]
      have q0 := key (240 + r / 262144) (by omega) (by omega)
      have q1 := key (128 + r / 4096 % 64) (by omega) (by omega)
      have q2 := key (128 + r / 64 % 64) (by omega) (by omega)
      have q3 := key (128 + r % 64) (by omega) (by omega)
      rw [q0, q1, q2, q3, dN4 _ _ _ _ _ (by omega) (by omega) (by omega) (by omega) (by omega) (by omega) (by omega)]
      congr 1; omega
  · have hf : fixR r = 65533 := by unfold fixR; rw [if_neg hb]
    rw [hf, decodeL_N]
    unfold encodeRune
    rw [encodeRuneZ_bad (by omega)]
    simp only [List.map_cons, List.map_nil, List.cons_append, List.nil_append, List.length_cons, List.length_nil, getA, List.getD_cons_succ]
    rw [dN3 _ _ _ _ _ (by decide) (by omega) (by decide) (by decide) (by decide) (by decide)]
    rfl
/-- runes put one behind the other are told so -/
theorem all_puts : ∀ (rs : List Int) (p : Nat), (allA p (rs.flatMap encodeRune)).map (fun x => (x.1, x.2.2)) = rs.map fun r => (fixR r, (encodeRune r).length)
  | [], p => by simp [allA_nil]
  | r :: rs, p => by
    have hd := dec_put r (rs.flatMap encodeRune)
    have hl : 1 ≤ (encodeRune r).length := by rw [← runeCells_length]; exact (runeCells_le r).1
    rw [List.flatMap_cons, allA_step _ _ (by intro h; have := congrArg List.length h; rw [List.length_append, List.length_nil] at this; omega), hd]
    rw [List.map_cons, List.drop_left, all_puts rs, List.map_cons]
/-- shifted -/
theorem all_shift (k : Nat) : ∀ p l, allA (p + k) l = (allA p l).map fun x => (x.1, x.2.1 + k, x.2.2) := byRunes
  (fun p => by simp [allA_nil])
  (fun p l hne ih => by
    rw [allA_step _ _ hne, allA_step p l hne, List.map_cons, ← ih]
    congr 2; omega)
/-- cut where a rune ends -/
theorem all_cut : ∀ p l, ∀ i, i ≤ (allA p l).length → allA p l = allA p (l.take (beg p (allA p l) i - p)) ++ allA (beg p (allA p l) i) (l.drop (beg p (allA p l) i - p)) := byRunes
  (fun p i hi => by simp [allA_nil, beg])
  (fun p l hne ih i hi => by
    have h1 := dec_pos l
    have h4 := decodeL_le l hne
    match i with
    | 0 => simp [beg_zero, allA_nil]
    | i + 1 =>
      have hl : 0 < l.length := List.length_pos_iff.2 hne
      rw [allA_step p l hne] at hi ⊢
      simp only [List.length_cons] at hi
      have hi2 := ih i (by omega)
      rw [beg_cons]
      dsimp only
      generalize hB : beg (p + (decodeL l).2) (allA (p + (decodeL l).2) (l.drop (decodeL l).2)) i = B at *
      have hp : p + (decodeL l).2 ≤ B := by rw [← hB]; unfold beg; omega
      have hne2 : l.take (B - p) ≠ [] := by intro h; have := congrArg List.length h; rw [List.length_take, List.length_nil] at this; omega
      have hd := dec_take l (B - p) hne (by omega)
      rw [allA_step p (l.take (B - p)) hne2, hd, List.cons_append]
      congr 1
      rw [List.drop_take]
      rw [List.drop_drop] at hi2
      rw [show (decodeL l).2 + (B - (p + (decodeL l).2)) = B - p from by omega] at hi2
      rw [show B - p - (decodeL l).2 = B - (p + (decodeL l).2) from by omega]
      exact hi2)
end Go.Proofs.YtjkialgdaikijaaDoor.Plain
