/- Chapter 2 in plain words: a number's bytes, a reader, what is put is read, each number one row of bytes. Conditions: none. -/
namespace Go.Proofs.YtmiacgkidldjmaaGreatDoor.Plain
/-- a number's bytes -/
def putL (n : Nat) : List UInt8 := if n < 128 then [UInt8.ofNat n] else UInt8.ofNat (n % 128 + 128) :: putL (n / 128)
termination_by n
decreasing_by omega
/-- a reader's next number: so many bytes may still be read; told: the number, what is left, the error -/
def goN : Nat → Nat → List UInt8 → Nat × List UInt8 × Nat
  | 0, _, _ => (0, [], 3)
  | _ + 1, _, [] => (0, [], 4)
  | f + 1, acc, b :: t =>
    if f = 0 ∧ 1 < b.toNat then (0, [], 3)
    else if b.toNat = 0 ∧ f ≠ 9 then (0, [], 5)
    else if b.toNat < 128 then (acc + b.toNat * 2 ^ (7 * (9 - f)), t, 0)
    else goN f (acc + (b.toNat - 128) * 2 ^ (7 * (9 - f))) t
/-- a reader -/
structure Rd where
  rest : List UInt8
  e : Int
def Rd.fail (r : Rd) (e : Int) : Rd := if r.e = 0 then ⟨[], e⟩ else ⟨[], r.e⟩
def Rd.next (r : Rd) : Nat × Rd := if r.e = 0 then ((goN 10 0 r.rest).1, ⟨(goN 10 0 r.rest).2.1, (goN 10 0 r.rest).2.2⟩) else (0, ⟨[], r.e⟩)
def Rd.bytes (r : Rd) (many : Int) : List UInt8 × Rd := if r.e = 0 ∧ 0 ≤ many ∧ many ≤ r.rest.length then (r.rest.take many.toNat, ⟨r.rest.drop many.toNat, 0⟩) else ([], r.fail 4)
def Rd.text (r : Rd) (most : Nat) : List UInt8 × Rd :=
  if most < r.next.1 then ([], r.next.2.fail 3) else if r.next.2.rest.length < r.next.1 then ([], r.next.2.fail 4) else r.next.2.bytes r.next.1
def Rd.pad (r : Rd) (many : Int) : Rd := if (r.bytes many).1.all (· == 0) then (r.bytes many).2 else (r.bytes many).2.fail 9
def Rd.endE (r : Rd) : Int := if r.e = 0 ∧ r.rest ≠ [] then 8 else r.e
theorem putL_small (n : Nat) (h : n < 128) : putL n = [UInt8.ofNat n] := by rw [putL, if_pos h]
theorem putL_big (n : Nat) (h : ¬ n < 128) : putL n = UInt8.ofNat (n % 128 + 128) :: putL (n / 128) := by rw [putL, if_neg h]
theorem putL_ne (n : Nat) : putL n ≠ [] := by
  by_cases h : n < 128
  · rw [putL_small n h]; simp
  · rw [putL_big n h]; simp
theorem ofNat_toNat (n : Nat) (h : n < 256) : (UInt8.ofNat n).toNat = n := by rw [UInt8.toNat_ofNat']; omega
/-- what was put is read -/
theorem go_put (t : List UInt8) : ∀ (f acc n : Nat), f ≤ 9 → n * 2 ^ (7 * (9 - f)) < 2 ^ 64 → (f = 9 ∨ 0 < n) → goN (f + 1) acc (putL n ++ t) = (acc + n * 2 ^ (7 * (9 - f)), t, 0) := by
  intro f
  induction f with
  | zero =>
    intro acc n _ hn h0
    have h1 : n ≤ 1 := by
      rcases Nat.lt_or_ge 1 n with h | h
      · have : 2 * 2 ^ 63 ≤ n * 2 ^ (7 * (9 - 0)) := Nat.mul_le_mul h (Nat.le_refl _)
        omega
      · exact h
    rw [putL_small n (by omega), List.singleton_append]
    unfold goN
    rw [ofNat_toNat n (by omega), if_neg (by omega), if_neg (by omega), if_pos (by omega)]
  | succ f ih =>
    intro acc n hf hn h0
    by_cases h : n < 128
    · rw [putL_small n h, List.singleton_append]
      unfold goN
      rw [ofNat_toNat n (by omega), if_neg (by omega), if_neg (by omega), if_pos h]
    · rw [putL_big n h, List.cons_append]
      unfold goN
      rw [ofNat_toNat _ (by omega), if_neg (by omega), if_neg (by omega), if_neg (by omega)]
      have e1 : 2 ^ (7 * (9 - f)) = 128 * 2 ^ (7 * (9 - (f + 1))) := by
        rw [show 7 * (9 - f) = 7 + 7 * (9 - (f + 1)) from by omega, Nat.pow_add]
      have e2 : n * 2 ^ (7 * (9 - (f + 1))) = (n % 128) * 2 ^ (7 * (9 - (f + 1))) + n / 128 * 2 ^ (7 * (9 - f)) := by
        rw [e1, ← Nat.mul_assoc, ← Nat.add_mul]
        congr 1
        omega
      rw [ih _ (n / 128) (by omega) (by rw [e2] at hn; exact Nat.lt_of_le_of_lt (Nat.le_add_left _ _) hn) (by omega), e2, Nat.add_sub_cancel, Nat.add_assoc]
/-- what begins a number's bytes alone is short -/
theorem go_short (y : UInt8) : ∀ (f acc n : Nat) (xs ys : List UInt8), f ≤ 9 → n * 2 ^ (7 * (9 - f)) < 2 ^ 64 → putL n = xs ++ y :: ys → goN (f + 1) acc xs = (0, [], 4) := by
  intro f
  induction f with
  | zero =>
    intro acc n xs ys _ hn he
    have h1 : n ≤ 1 := by
      rcases Nat.lt_or_ge 1 n with h | h
      · have : 2 * 2 ^ 63 ≤ n * 2 ^ (7 * (9 - 0)) := Nat.mul_le_mul h (Nat.le_refl _)
        omega
      · exact h
    rw [putL_small n (by omega)] at he
    cases xs with
    | nil => rfl
    | cons x xs => simp at he
  | succ f ih =>
    intro acc n xs ys hf hn he
    cases xs with
    | nil => rfl
    | cons x xs =>
      by_cases h : n < 128
      · rw [putL_small n h] at he; simp at he
      · rw [putL_big n h, List.cons_append] at he
        injection he with hx he
        subst hx
        unfold goN
        rw [ofNat_toNat _ (by omega), if_neg (by omega), if_neg (by omega), if_neg (by omega)]
        refine ih _ (n / 128) xs ys (by omega) ?_ he
        rw [show 7 * (9 - f) = 7 + 7 * (9 - (f + 1)) from by omega, Nat.pow_add, ← Nat.mul_assoc]
        exact Nat.lt_of_le_of_lt (Nat.mul_le_mul (by omega) (Nat.le_refl _)) hn
/-- whatever is read is of its number -/
theorem go_back : ∀ (f acc : Nat) (l : List UInt8) (n : Nat) (t : List UInt8), f ≤ 9 → goN (f + 1) acc l = (n, t, 0) → ∃ m, l = putL m ++ t ∧ n = acc + m * 2 ^ (7 * (9 - f)) ∧ m * 2 ^ (7 * (9 - f)) < 2 ^ 64 ∧ (f = 9 ∨ 0 < m) := by
  intro f
  induction f with
  | zero =>
    intro acc l n t _ h
    cases l with
    | nil => simp [goN] at h
    | cons b l =>
      unfold goN at h
      by_cases h1 : 1 < b.toNat
      · rw [if_pos ⟨rfl, h1⟩] at h; simp at h
      · rw [if_neg (by omega)] at h
        by_cases h2 : b.toNat = 0
        · rw [if_pos ⟨h2, by decide⟩] at h; simp at h
        · rw [if_neg (by omega), if_pos (by omega)] at h
          simp only [Prod.mk.injEq, and_true] at h
          obtain ⟨h3, h4⟩ := h
          refine ⟨b.toNat, ?_, h3.symm, ?_, by omega⟩
          · rw [putL_small _ (by omega), h4]; simp
          · have : b.toNat = 1 := by omega
            rw [this]; decide
  | succ f ih =>
    intro acc l n t hf h
    cases l with
    | nil => simp [goN] at h
    | cons b l =>
      have hb := b.toNat_lt
      unfold goN at h
      rw [if_neg (by omega)] at h
      by_cases h2 : b.toNat = 0 ∧ f + 1 ≠ 9
      · rw [if_pos h2] at h; simp at h
      · rw [if_neg h2] at h
        by_cases h3 : b.toNat < 128
        · rw [if_pos h3] at h
          simp only [Prod.mk.injEq, and_true] at h
          obtain ⟨h4, h5⟩ := h
          refine ⟨b.toNat, ?_, h4.symm, ?_, by omega⟩
          · rw [putL_small _ h3, h5]; simp
          · have : b.toNat * 2 ^ (7 * (9 - (f + 1))) ≤ 127 * 2 ^ 56 := Nat.mul_le_mul (by omega) (Nat.pow_le_pow_right (by omega) (by omega))
            omega
        · rw [if_neg h3] at h
          obtain ⟨m, h4, h5, h6, h7⟩ := ih _ l n t (by omega) h
          have hm : 0 < m := by omega
          have e1 : 2 ^ (7 * (9 - f)) = 128 * 2 ^ (7 * (9 - (f + 1))) := by
            rw [show 7 * (9 - f) = 7 + 7 * (9 - (f + 1)) from by omega, Nat.pow_add]
          refine ⟨m * 128 + (b.toNat - 128), ?_, ?_, ?_, by omega⟩
          · rw [putL_big _ (by omega), List.cons_append, show (m * 128 + (b.toNat - 128)) / 128 = m from by omega, show (m * 128 + (b.toNat - 128)) % 128 + 128 = b.toNat from by omega, ← h4]; simp
          · rw [h5, e1, Nat.add_mul, Nat.mul_assoc]; omega
          · have e2 : 2 ^ (64 - 7 * (9 - f)) * 2 ^ (7 * (9 - f)) = 2 ^ 64 := by rw [← Nat.pow_add, show 64 - 7 * (9 - f) + 7 * (9 - f) = 64 from by omega]
            rw [← e2] at h6
            have h8 : m < 2 ^ (64 - 7 * (9 - f)) := Nat.lt_of_mul_lt_mul_right h6
            have h9 : (m + 1) * 2 ^ (7 * (9 - f)) ≤ 2 ^ 64 := by rw [← e2]; exact Nat.mul_le_mul h8 (Nat.le_refl _)
            rw [e1, ← Nat.mul_assoc] at h9
            exact Nat.lt_of_lt_of_le (Nat.mul_lt_mul_of_pos_right (by omega) (Nat.pow_pos (by omega))) h9
/-- a number has one row of bytes -/
theorem putL_inj (a b : Nat) (ha : a < 2 ^ 64) (hb : b < 2 ^ 64) (h : putL a = putL b) : a = b := by
  have h1 := go_put [] 9 0 a (Nat.le_refl _) (by simpa using ha) (.inl rfl)
  have h2 := go_put [] 9 0 b (Nat.le_refl _) (by simpa using hb) (.inl rfl)
  rw [h, h2] at h1
  simp at h1
  omega
theorem putL_len (k : Nat) : ∀ n, n < 2 ^ (7 * (k + 1)) → (putL n).length ≤ k + 1 := by
  induction k with
  | zero => intro n h; rw [putL_small n (by simpa using h)]; exact Nat.le_refl _
  | succ k ih =>
    intro n h
    by_cases h1 : n < 128
    · rw [putL_small n h1]; simp
    · rw [putL_big n h1, List.length_cons]
      have := ih (n / 128) (Nat.div_lt_of_lt_mul (by rw [show 7 * (k + 1 + 1) = 7 + 7 * (k + 1) from by omega, Nat.pow_add] at h; simpa using h))
      omega
theorem putL_len10 (n : Nat) (h : n < 2 ^ 64) : 1 ≤ (putL n).length ∧ (putL n).length ≤ 10 := by
  refine ⟨List.length_pos_iff.2 (putL_ne n), putL_len 9 n (Nat.lt_of_lt_of_le h (Nat.pow_le_pow_right (by omega) (by omega)))⟩
/-- as few bytes as it needs -/
theorem putL_few (n : Nat) : n < 2 ^ (7 * (putL n).length) ∧ ((putL n).length = 1 ∨ 2 ^ (7 * ((putL n).length - 1)) ≤ n) := by
  induction n using Nat.strongRecOn with
  | _ n ih =>
    by_cases h1 : n < 128
    · rw [putL_small n h1]; exact ⟨by simpa using h1, .inl rfl⟩
    · obtain ⟨h2, h3⟩ := ih (n / 128) (by omega)
      rw [putL_big n h1, List.length_cons]
      have hl : 1 ≤ (putL (n / 128)).length := List.length_pos_iff.2 (putL_ne _)
      refine ⟨?_, .inr ?_⟩
      · rw [show 7 * ((putL (n / 128)).length + 1) = 7 * (putL (n / 128)).length + 7 from by omega, Nat.pow_add]
        have := Nat.div_add_mod n 128
        omega
      · rw [Nat.add_sub_cancel]
        rcases h3 with h3 | h3
        · rw [h3]; omega
        · rw [show 7 * (putL (n / 128)).length = 7 + 7 * ((putL (n / 128)).length - 1) from by omega, Nat.pow_add]
          have := Nat.div_mul_le_self n 128
          omega
end Go.Proofs.YtmiacgkidldjmaaGreatDoor.Plain
namespace Go.Proofs.YtmiacgkidldjmaaGreatDoor.Plain
theorem next_err (r : Rd) (h : r.e ≠ 0) : r.next = (0, ⟨[], r.e⟩) := by unfold Rd.next; rw [if_neg h]
theorem fail_err (r : Rd) (e : Int) (h : r.e ≠ 0) : r.fail e = ⟨[], r.e⟩ := by unfold Rd.fail; rw [if_neg h]
theorem bytes_err (r : Rd) (m : Int) (h : r.e ≠ 0) : r.bytes m = ([], ⟨[], r.e⟩) := by unfold Rd.bytes; rw [if_neg (fun h' => h h'.1), fail_err r 4 h]
theorem text_err (r : Rd) (m : Nat) (h : r.e ≠ 0) : r.text m = ([], ⟨[], r.e⟩) := by
  unfold Rd.text
  rw [next_err r h]
  rw [if_neg (by omega), if_neg (by simp)]
  exact bytes_err ⟨[], r.e⟩ 0 h
theorem pad_err (r : Rd) (m : Int) (h : r.e ≠ 0) : r.pad m = ⟨[], r.e⟩ := by unfold Rd.pad; rw [bytes_err r m h]; rfl
theorem end_err (e : Int) : (Rd.mk [] e).endE = e := by unfold Rd.endE; rw [if_neg (fun h => h.2 rfl)]
theorem next_put (n : Nat) (t : List UInt8) (h : n < 2 ^ 64) : (Rd.mk (putL n ++ t) 0).next = (n, ⟨t, 0⟩) := by
  unfold Rd.next
  rw [if_pos rfl, show (Rd.mk (putL n ++ t) 0).rest = putL n ++ t from rfl, go_put t 9 0 n (Nat.le_refl _) (by simpa using h) (.inl rfl)]
  simp
theorem next_short (n : Nat) (xs ys : List UInt8) (y : UInt8) (h : n < 2 ^ 64) (he : putL n = xs ++ y :: ys) : (Rd.mk xs 0).next = (0, ⟨[], 4⟩) := by
  unfold Rd.next
  rw [if_pos rfl, show (Rd.mk xs 0).rest = xs from rfl, go_short y 9 0 n xs ys (Nat.le_refl _) (by simpa using h) he]
  rfl
theorem bytes_take (s t : List UInt8) : (Rd.mk (s ++ t) 0).bytes s.length = (s, ⟨t, 0⟩) := by
  unfold Rd.bytes
  rw [if_pos ⟨rfl, by omega, by show (s.length : Int) ≤ ((s ++ t).length : Int); rw [List.length_append]; omega⟩]
  simp
theorem text_put (s t : List UInt8) (most : Nat) (h : s.length < 2 ^ 64) (hm : s.length ≤ most) : (Rd.mk (putL s.length ++ (s ++ t)) 0).text most = (s, ⟨t, 0⟩) := by
  unfold Rd.text
  rw [next_put _ _ h, if_neg (by omega), if_neg (by simp)]
  exact bytes_take s t
theorem text_big (s t : List UInt8) (most : Nat) (h : s.length < 2 ^ 64) (hm : most < s.length) : (Rd.mk (putL s.length ++ t) 0).text most = ([], ⟨[], 3⟩) := by
  unfold Rd.text
  rw [next_put _ _ h, if_pos hm]
  rfl
theorem text_short (s xs : List UInt8) (most : Nat) (h : s.length < 2 ^ 64) (hm : s.length ≤ most) (hx : xs.length < s.length) : (Rd.mk (putL s.length ++ xs) 0).text most = ([], ⟨[], 4⟩) := by
  unfold Rd.text
  rw [next_put _ _ h, if_neg (by omega), if_pos hx]
  rfl
theorem text_cut (n : Nat) (xs ys : List UInt8) (y : UInt8) (most : Nat) (h : n < 2 ^ 64) (he : putL n = xs ++ y :: ys) : (Rd.mk xs 0).text most = ([], ⟨[], 4⟩) := by
  unfold Rd.text
  rw [next_short n xs ys y h he, if_neg (by omega), if_neg (by simp)]
  exact bytes_err ⟨[], 4⟩ 0 (by simp)
/-- a beginning of a row that is shorter than it -/
theorem cut_of (l : List UInt8) (k : Nat) (h : k < l.length) : ∃ y ys, l = l.take k ++ y :: ys := ⟨l[k], l.drop (k + 1), by rw [← List.drop_eq_getElem_cons h, List.take_append_drop]⟩
/-- what is read of a number, a text, a number that are cut off is short -/
theorem back_short (a b : Nat) (s : List UInt8) (k : Nat) (ha : a < 2 ^ 64) (hb : b < 2 ^ 64) (hs : s.length < 2 ^ 64) (hk : k < (putL a ++ (putL s.length ++ s) ++ putL b).length) :
    (((Rd.mk ((putL a ++ (putL s.length ++ s) ++ putL b).take k) 0).next.2.text s.length).2.next.2).e = 4 := by
  rw [List.length_append, List.length_append, List.length_append] at hk
  by_cases h1 : k < (putL a).length
  · obtain ⟨y, ys, he⟩ := cut_of (putL a) k h1
    rw [List.append_assoc, List.take_append_of_le_length (by omega), next_short a _ ys y ha he]
    rw [text_err _ _ (by simp)]
    rw [next_err _ (by simp)]
  · rw [List.append_assoc, List.take_append, List.take_of_length_le (by omega), next_put _ _ ha]
    obtain ⟨j, hj⟩ : ∃ j, k - (putL a).length = j := ⟨_, rfl⟩
    rw [hj, List.append_assoc]
    by_cases h2 : j < (putL s.length).length
    · obtain ⟨y, ys, he⟩ := cut_of (putL s.length) j h2
      rw [List.take_append_of_le_length (by omega)]
      show ((Rd.text ⟨(putL s.length).take j, 0⟩ s.length).2.next.2).e = 4
      rw [text_cut s.length _ ys y _ hs he, next_err _ (by simp)]
    · rw [List.take_append, List.take_of_length_le (by omega)]
      obtain ⟨i, hi⟩ : ∃ i, j - (putL s.length).length = i := ⟨_, rfl⟩
      rw [hi]
      by_cases h3 : i < s.length
      · rw [List.take_append_of_le_length (by omega)]
        show ((Rd.text ⟨putL s.length ++ s.take i, 0⟩ s.length).2.next.2).e = 4
        rw [text_short s (s.take i) _ hs (Nat.le_refl _) (by rw [List.length_take]; omega), next_err _ (by simp)]
      · rw [List.take_append, List.take_of_length_le (by omega)]
        obtain ⟨m, hm⟩ : ∃ m, i - s.length = m := ⟨_, rfl⟩
        rw [hm]
        show ((Rd.text ⟨putL s.length ++ (s ++ (putL b).take m), 0⟩ s.length).2.next.2).e = 4
        rw [text_put s _ _ hs (Nat.le_refl _)]
        obtain ⟨y, ys, he⟩ := cut_of (putL b) m (by omega)
        rw [next_short b _ ys y hb he]
/-- bytes that all go on -/
theorem go_high (t : List UInt8) : ∀ (xs : List UInt8) (f acc : Nat), (∀ b ∈ xs, 128 ≤ b.toNat) → xs.length ≤ f → ∃ acc', goN (f + 1) acc (xs ++ t) = goN (f + 1 - xs.length) acc' t := by
  intro xs
  induction xs with
  | nil => intro f acc _ _; exact ⟨acc, rfl⟩
  | cons b xs ih =>
    intro f acc h hf
    rw [List.length_cons] at hf
    have hb := h b (by simp)
    obtain ⟨g, rfl⟩ : ∃ g, f = g + 1 := ⟨f - 1, by omega⟩
    obtain ⟨acc', ha⟩ := ih g (acc + (b.toNat - 128) * 2 ^ (7 * (9 - (g + 1)))) (fun x hx => h x (by simp [hx])) (by omega)
    refine ⟨acc', ?_⟩
    rw [List.cons_append]
    conv => lhs; unfold goN
    rw [if_neg (by omega), if_neg (by omega), if_neg (by omega), ha, List.length_cons, show g + 1 + 1 - (xs.length + 1) = g + 1 - xs.length from by omega]
/-- a byte more than it needs -/
theorem next_long (xs t : List UInt8) (h : ∀ b ∈ xs, 128 ≤ b.toNat) (h1 : 1 ≤ xs.length) (h9 : xs.length ≤ 9) : (Rd.mk (xs ++ 0 :: t) 0).next = (0, ⟨[], 5⟩) := by
  obtain ⟨acc', ha⟩ := go_high (0 :: t) xs 9 0 h h9
  unfold Rd.next
  rw [if_pos rfl, show (Rd.mk (xs ++ 0 :: t) 0).rest = xs ++ 0 :: t from rfl, ha]
  obtain ⟨g, hg⟩ : ∃ g, 9 + 1 - xs.length = g + 1 := ⟨9 - xs.length, by omega⟩
  rw [hg]
  unfold goN
  rw [if_neg (by simp), if_pos ⟨rfl, by omega⟩]
  rfl
/-- above 64 bits -/
theorem next_over (xs t : List UInt8) (b : UInt8) (h : ∀ b ∈ xs, 128 ≤ b.toNat) (h9 : xs.length = 9) (hb : 1 < b.toNat) : (Rd.mk (xs ++ b :: t) 0).next = (0, ⟨[], 3⟩) := by
  obtain ⟨acc', ha⟩ := go_high (b :: t) xs 9 0 h (by omega)
  unfold Rd.next
  rw [if_pos rfl, show (Rd.mk (xs ++ b :: t) 0).rest = xs ++ b :: t from rfl, ha, h9]
  show ((goN (0 + 1) acc' (b :: t)).1, Rd.mk (goN (0 + 1) acc' (b :: t)).2.1 (goN (0 + 1) acc' (b :: t)).2.2) = _
  unfold goN
  rw [if_pos ⟨rfl, hb⟩]
  rfl
end Go.Proofs.YtmiacgkidldjmaaGreatDoor.Plain
