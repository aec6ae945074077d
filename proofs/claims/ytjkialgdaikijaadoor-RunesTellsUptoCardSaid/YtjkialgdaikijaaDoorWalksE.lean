/- Small words for the walks of the laws. Conditions: none but what is said. -/
import Derived.Test.YtjkialgdaikijaaDoorWalksD
namespace Go.Proofs.YtjkialgdaikijaaDoor
open Go.RowKit Go.Lib
theorem nat_beq (a b : Nat) : ((a : Int) == (b : Int)) = (a == b) := by rw [Bool.eq_iff_iff, beq_iff_eq, beq_iff_eq]; omega
theorem nat_beq2 (a b c d : Nat) : ((a : Int) + (b : Int) == (c : Int) + (d : Int)) = (a + b == c + d) := by rw [Bool.eq_iff_iff, beq_iff_eq, beq_iff_eq]; omega
theorem put_same (r : Int) (w : World) : Calls Tryd.prog 22 #[.int .i32 r] w fun e w' => e = .returned (.string (Utf8.encode r)) ∧ w' = w :=
  (put_any r w).mono fun _ _ ⟨h, e⟩ => ⟨h, e.symm⟩
theorem ba_ne {a b : ByteArray} (h : a ≠ b) : (a == b) = false := by
  have e : (a == b) = (a.data == b.data) := rfl
  rw [e, beq_eq_false_iff_ne]
  intro h2
  exact h (by cases a; cases b; congr)
theorem own_form {w : World} {base : Nat} {e : TypeId} {size n : Nat} {v : Value} {xs : List Value} (h : w.ownsRow base e size v n xs) :
    ∃ a c, v = .slice a n c ∧ (0 < n → ∃ g, a = some ⟨g, 0, none⟩ ∧ base ≤ g ∧ n ≤ c ∧ CellsAt w g xs) := by
  rcases Nat.eq_zero_or_pos n with h0 | h0
  · subst h0
    rcases h.2 with ⟨rfl, _⟩ | ⟨g, c, _, rfl, _⟩
    · exact ⟨_, _, rfl, fun h => absurd h (by omega)⟩
    · exact ⟨_, _, rfl, fun h => absurd h (by omega)⟩
  · obtain ⟨g, c, rfl, h1, h2, h3⟩ := CellsAt.of_own h h0
    exact ⟨_, _, rfl, fun _ => ⟨g, rfl, h2, h1, h3⟩⟩
end Go.Proofs.YtjkialgdaikijaaDoor
