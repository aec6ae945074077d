/- How many cells a table has. Plain. -/
import Derived.Test.YtdonginboioocaaDoorPlain
namespace Go.Proofs.YtdonginboioocaaDoor.Plain
theorem cellsOf_len (N : List (List Int)) (p : Nat) (h : ∀ r ∈ N, r.length = p) : (cellsOf N).length = N.length * p := by
  induction N with
  | nil => simp [cellsOf]
  | cons r t ih =>
    have h1 := h r (by simp)
    have h2 := ih fun x hx => h x (by simp [hx])
    unfold cellsOf at h2 ⊢
    rw [List.flatMap_cons, List.length_append, h2, List.length_map, h1, List.length_cons, Nat.add_mul]
    omega
theorem cellsOf_len_le (N : List (List Int)) (p : Nat) (h : ∀ r ∈ N, r.length = p) (hp : p ≤ 64) (hN : N.length ≤ 64) : (cellsOf N).length ≤ 4096 := by
  rw [cellsOf_len N p h]
  exact Nat.le_trans (Nat.mul_le_mul hN hp) (Nat.le_refl _)
end Go.Proofs.YtdonginboioocaaDoor.Plain
