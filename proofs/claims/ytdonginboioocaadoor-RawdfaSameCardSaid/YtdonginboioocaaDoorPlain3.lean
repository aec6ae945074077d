/- Which part a rune is in; what a text's first rune is. Plain. -/
import Derived.Test.YtdonginboioocaaDoorPlain2
import Derived.Lib.MapLaws
namespace Go.Proofs.YtdonginboioocaaDoor.Plain
open Go.Lib
theorem dec_pos (l : List UInt8) : 1 ≤ (decodeL l).2 := by rw [decodeL_N]; exact decodeN_ge1 _ _ _ _ _
theorem dec_right (l : List UInt8) : (decodeL l).1 ≤ 1114111 ∧ ((decodeL l).1 < 55296 ∨ 57343 < (decodeL l).1) := by
  have k0 := (l.getD 0 0).toNat_lt
  have k1 := (l.getD 1 0).toNat_lt
  have k2 := (l.getD 2 0).toNat_lt
  rw [decodeL_N]
  rcases decodeN_shape l.length (l.getD 0 0).toNat (l.getD 1 0).toNat (l.getD 2 0).toNat (l.getD 3 0).toNat with ⟨c, e⟩ | ⟨c1, c2, c3, cv, e⟩ | ⟨c1, c2, c3, c4, cv, cs, e⟩ | ⟨c1, c2, c3, c4, c5, cv, cw, e⟩ | e
  all_goals (rw [e]; dsimp only; omega)
/-- which part a rune is in -/
def partOf (P : List Int) (r : Int) : Nat := (P.drop 1).findIdx fun low => decide (r < low)
theorem partOf_eq (P : List Int) (r : Int) (hm : ∀ k j, k < j → j < P.length → P.getD k 0 < P.getD j 0) (k : Nat) (hk : k < P.length) (h1 : k = 0 ∨ P.getD k 0 ≤ r) (h2 : k + 1 = P.length ∨ r < P.getD (k + 1) 0) : partOf P r = k := by
  have hg : ∀ i (hi : i < (P.drop 1).length), (P.drop 1)[i] = P.getD (i + 1) 0 := fun i hi => by
    have h3 : i + 1 < P.length := by rw [List.length_drop] at hi; omega
    rw [List.getElem_drop]
    simp [List.getD, List.getElem?_eq_getElem h3, Nat.add_comm]
  unfold partOf
  have hlow : ∀ i (hi : i < (P.drop 1).length), i < k → ¬ (r < (P.drop 1)[i]) := fun i hi hik => by
    rw [hg i hi]
    rcases h1 with h1 | h1
    · omega
    · rcases Nat.lt_or_ge (i + 1) k with h3 | h3
      · have := hm (i + 1) k h3 hk; omega
      · obtain rfl : i + 1 = k := by omega
        omega
  rcases h2 with h2 | h2
  · have hle : (P.drop 1).length = k := by rw [List.length_drop]; omega
    rw [← hle]
    apply List.findIdx_eq_length.2
    intro x hx
    obtain ⟨i, hi, rfl⟩ := List.getElem_of_mem hx
    simpa using hlow i hi (by omega)
  · rcases Nat.lt_or_ge k (P.drop 1).length with h3 | h3
    · rw [List.findIdx_eq h3]
      exact ⟨by rw [hg k h3]; simpa using h2, fun i hi => by simpa using hlow i (by omega) hi⟩
    · have hle : (P.drop 1).length = k := by rw [List.length_drop] at h3 ⊢; omega
      rw [← hle]
      apply List.findIdx_eq_length.2
      intro x hx
      obtain ⟨i, hi, rfl⟩ := List.getElem_of_mem hx
      simpa using hlow i hi (by omega)
theorem partOf_lt (P : List Int) (r : Int) (h : 0 < P.length) : partOf P r < P.length := by
  have := List.findIdx_le_length (p := fun low => decide (r < low)) (xs := P.drop 1)
  unfold partOf
  rw [List.length_drop] at this
  omega
end Go.Proofs.YtdonginboioocaaDoor.Plain
