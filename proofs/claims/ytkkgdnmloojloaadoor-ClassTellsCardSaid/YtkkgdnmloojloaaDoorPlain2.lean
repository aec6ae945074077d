/- Chapter 2: what was put is read back; a text cut off is short; an error stays. Plain. Conditions: none. -/
import Derived.Test.YtkkgdnmloojloaaDoorPlain
namespace Go.Proofs.YtkkgdnmloojloaaDoor.Plain
theorem next_err (r : Rd) (h : r.e ≠ 0) : r.next = (0, ⟨[], r.e⟩) := by unfold Rd.next; rw [if_neg h]
theorem fail_err (r : Rd) (e : Int) (h : r.e ≠ 0) : r.fail e = ⟨[], r.e⟩ := by unfold Rd.fail; rw [if_neg h]
theorem bytes_err (r : Rd) (m : Int) (h : r.e ≠ 0) : r.bytes m = ([], ⟨[], r.e⟩) := by unfold Rd.bytes; rw [if_neg (fun h' => h h'.1), fail_err r 4 h]
theorem text_err (r : Rd) (m : Nat) (h : r.e ≠ 0) : r.text m = ([], ⟨[], r.e⟩) := by
  unfold Rd.text
  rw [next_err r h]
  rw [if_neg (by omega), if_neg (by simp)]
  exact bytes_err ⟨[], r.e⟩ 0 h
theorem pad_err (r : Rd) (m : Int) (h : r.e ≠ 0) : r.pad m = ⟨[], r.e⟩ := by unfold Rd.pad; rw [bytes_err r m h]; rfl
theorem end_err (e : Int) : (Rd.mk [] e).endE = e := by unfold Rd.endE; rw [if_neg (fun h => h.2 rfl)]
theorem next_put (n : Nat) (t : List UInt8) (h : n < 2 ^ 64) : (Rd.mk (putL n ++ t) 0).next = (n, ⟨t, 0⟩) := by
  unfold Rd.next
  rw [if_pos rfl, show (Rd.mk (putL n ++ t) 0).rest = putL n ++ t from rfl, go_put t 9 0 n (Nat.le_refl _) (by simpa using h) (.inl rfl)]
  simp
theorem next_short (n : Nat) (xs ys : List UInt8) (y : UInt8) (h : n < 2 ^ 64) (he : putL n = xs ++ y :: ys) : (Rd.mk xs 0).next = (0, ⟨[], 4⟩) := by
  unfold Rd.next
  rw [if_pos rfl, show (Rd.mk xs 0).rest = xs from rfl, go_short y 9 0 n xs ys (Nat.le_refl _) (by simpa using h) he]
  rfl
theorem bytes_take (s t : List UInt8) : (Rd.mk (s ++ t) 0).bytes s.length = (s, ⟨t, 0⟩) := by
  unfold Rd.bytes
  rw [if_pos ⟨rfl, by omega, by show (s.length : Int) ≤ ((s ++ t).length : Int); rw [List.length_append]; omega⟩]
  simp
theorem text_put (s t : List UInt8) (most : Nat) (h : s.length < 2 ^ 64) (hm : s.length ≤ most) : (Rd.mk (putL s.length ++ (s ++ t)) 0).text most = (s, ⟨t, 0⟩) := by
  unfold Rd.text
  rw [next_put _ _ h, if_neg (by omega), if_neg (by simp)]
  exact bytes_take s t
theorem text_big (s t : List UInt8) (most : Nat) (h : s.length < 2 ^ 64) (hm : most < s.length) : (Rd.mk (putL s.length ++ t) 0).text most = ([], ⟨[], 3⟩) := by
  unfold Rd.text
  rw [next_put _ _ h, if_pos hm]
  rfl
theorem text_short (s xs : List UInt8) (most : Nat) (h : s.length < 2 ^ 64) (hm : s.length ≤ most) (hx : xs.length < s.length) : (Rd.mk (putL s.length ++ xs) 0).text most = ([], ⟨[], 4⟩) := by
  unfold Rd.text
  rw [next_put _ _ h, if_neg (by omega), if_pos hx]
  rfl
theorem text_cut (n : Nat) (xs ys : List UInt8) (y : UInt8) (most : Nat) (h : n < 2 ^ 64) (he : putL n = xs ++ y :: ys) : (Rd.mk xs 0).text most = ([], ⟨[], 4⟩) := by
  unfold Rd.text
  rw [next_short n xs ys y h he, if_neg (by omega), if_neg (by simp)]
  exact bytes_err ⟨[], 4⟩ 0 (by simp)
/-- a beginning of a row that is shorter than it -/
theorem cut_of (l : List UInt8) (k : Nat) (h : k < l.length) : ∃ y ys, l = l.take k ++ y :: ys := ⟨l[k], l.drop (k + 1), by rw [← List.drop_eq_getElem_cons h, List.take_append_drop]⟩
/-- what is read of a number, a text, a number that are cut off is short -/
theorem back_short (a b : Nat) (s : List UInt8) (k : Nat) (ha : a < 2 ^ 64) (hb : b < 2 ^ 64) (hs : s.length < 2 ^ 64) (hk : k < (putL a ++ (putL s.length ++ s) ++ putL b).length) :
    (((Rd.mk ((putL a ++ (putL s.length ++ s) ++ putL b).take k) 0).next.2.text s.length).2.next.2).e = 4 := by
  rw [List.length_append, List.length_append, List.length_append] at hk
  by_cases h1 : k < (putL a).length
  · obtain ⟨y, ys, he⟩ := cut_of (putL a) k h1
    rw [List.append_assoc, List.take_append_of_le_length (by omega), next_short a _ ys y ha he]
    rw [text_err _ _ (by simp)]
    rw [next_err _ (by simp)]
  · rw [List.append_assoc, List.take_append, List.take_of_length_le (by omega), next_put _ _ ha]
    obtain ⟨j, hj⟩ : ∃ j, k - (putL a).length = j := ⟨_, rfl⟩
    rw [hj, List.append_assoc]
    by_cases h2 : j < (putL s.length).length
    · obtain ⟨y, ys, he⟩ := cut_of (putL s.length) j h2
      rw [List.take_append_of_le_length (by omega)]
      show ((Rd.text ⟨(putL s.length).take j, 0⟩ s.length).2.next.2).e = 4
      rw [text_cut s.length _ ys y _ hs he, next_err _ (by simp)]
    · rw [List.take_append, List.take_of_length_le (by omega)]
      obtain ⟨i, hi⟩ : ∃ i, j - (putL s.length).length = i := ⟨_, rfl⟩
      rw [hi]
      by_cases h3 : i < s.length
      · rw [List.take_append_of_le_length (by omega)]
        show ((Rd.text ⟨putL s.length ++ s.take i, 0⟩ s.length).2.next.2).e = 4
        rw [text_short s (s.take i) _ hs (Nat.le_refl _) (by rw [List.length_take]; omega), next_err _ (by simp)]
      · rw [List.take_append, List.take_of_length_le (by omega)]
        obtain ⟨m, hm⟩ : ∃ m, i - s.length = m := ⟨_, rfl⟩
        rw [hm]
        show ((Rd.text ⟨putL s.length ++ (s ++ (putL b).take m), 0⟩ s.length).2.next.2).e = 4
        rw [text_put s _ _ hs (Nat.le_refl _)]
        obtain ⟨y, ys, he⟩ := cut_of (putL b) m (by omega)
        rw [next_short b _ ys y hb he]
/-- bytes that all go on -/
theorem go_high (t : List UInt8) : ∀ (xs : List UInt8) (f acc : Nat), (∀ b ∈ xs, 128 ≤ b.toNat) → xs.length ≤ f → ∃ acc', goN (f + 1) acc (xs ++ t) = goN (f + 1 - xs.length) acc' t := by
  intro xs
  induction xs with
  | nil => intro f acc _ _; exact ⟨acc, rfl⟩
  | cons b xs ih =>
    intro f acc h hf
    rw [List.length_cons] at hf
    have hb := h b (by simp)
    obtain ⟨g, rfl⟩ : ∃ g, f = g + 1 := ⟨f - 1, by omega⟩
    obtain ⟨acc', ha⟩ := ih g (acc + (b.toNat - 128) * 2 ^ (7 * (9 - (g + 1)))) (fun x hx => h x (by simp [hx])) (by omega)
    refine ⟨acc', ?_⟩
    rw [List.cons_append]
    conv => lhs; unfold goN
    rw [if_neg (by omega), if_neg (by omega), if_neg (by omega), ha, List.length_cons, show g + 1 + 1 - (xs.length + 1) = g + 1 - xs.length from by omega]
/-- a byte more than it needs -/
theorem next_long (xs t : List UInt8) (h : ∀ b ∈ xs, 128 ≤ b.toNat) (h1 : 1 ≤ xs.length) (h9 : xs.length ≤ 9) : (Rd.mk (xs ++ 0 :: t) 0).next = (0, ⟨[], 5⟩) := by
  obtain ⟨acc', ha⟩ := go_high (0 :: t) xs 9 0 h h9
  unfold Rd.next
  rw [if_pos rfl, show (Rd.mk (xs ++ 0 :: t) 0).rest = xs ++ 0 :: t from rfl, ha]
  obtain ⟨g, hg⟩ : ∃ g, 9 + 1 - xs.length = g + 1 := ⟨9 - xs.length, by omega⟩
  rw [hg]
  unfold goN
  rw [if_neg (by simp), if_pos ⟨rfl, by omega⟩]
  rfl
/-- above 64 bits -/
theorem next_over (xs t : List UInt8) (b : UInt8) (h : ∀ b ∈ xs, 128 ≤ b.toNat) (h9 : xs.length = 9) (hb : 1 < b.toNat) : (Rd.mk (xs ++ b :: t) 0).next = (0, ⟨[], 3⟩) := by
  obtain ⟨acc', ha⟩ := go_high (b :: t) xs 9 0 h (by omega)
  unfold Rd.next
  rw [if_pos rfl, show (Rd.mk (xs ++ b :: t) 0).rest = xs ++ b :: t from rfl, ha, h9]
  show ((goN (0 + 1) acc' (b :: t)).1, Rd.mk (goN (0 + 1) acc' (b :: t)).2.1 (goN (0 + 1) acc' (b :: t)).2.2) = _
  unfold goN
  rw [if_pos ⟨rfl, hb⟩]
  rfl
end Go.Proofs.YtkkgdnmloojloaaDoor.Plain
