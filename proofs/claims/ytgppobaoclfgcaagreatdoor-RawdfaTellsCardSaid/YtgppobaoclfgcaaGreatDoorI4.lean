/- Slices of instructions. Conditions: what each lemma says. -/
import Derived.Test.YtgppobaoclfgcaaGreatDoorPgA
set_option linter.unusedVariables false
set_option linter.unusedSimpArgs false
namespace Go.Proofs.YtgppobaoclfgcaaGreatDoor
open Go.RowKit Go.Lib
open Plain (In4)
def i4c (t : In4) : List Value := [.int .i64 t.1, .int .i64 t.2.1, .int .i64 t.2.2.1, .int .i64 t.2.2.2]
def i4s (L : List In4) : List Value := L.flatMap i4c
theorem i4s_cons (t : In4) (L : List In4) : i4s (t :: L) = .int .i64 t.1 :: .int .i64 t.2.1 :: .int .i64 t.2.2.1 :: .int .i64 t.2.2.2 :: i4s L := rfl
theorem i4s_append (K L : List In4) : i4s (K ++ L) = i4s K ++ i4s L := by unfold i4s; rw [List.flatMap_append]
theorem i4s_len : ∀ L : List In4, (i4s L).length = L.length * 4
  | [] => rfl
  | t :: L => by rw [i4s_cons]; simp only [List.length_cons]; rw [i4s_len L]; omega
theorem i4s_get : ∀ (L : List In4) (k : Nat) (t : In4), L[k]? = some t → (i4s L)[k * 4]? = some (.int .i64 t.1) ∧ (i4s L)[k * 4 + 1]? = some (.int .i64 t.2.1) ∧ (i4s L)[k * 4 + 2]? = some (.int .i64 t.2.2.1) ∧ (i4s L)[k * 4 + 3]? = some (.int .i64 t.2.2.2)
  | [], k, t, h => by simp at h
  | u :: L, 0, t, h => by
    simp at h; subst h
    rw [i4s_cons]
    exact ⟨rfl, rfl, rfl, rfl⟩
  | u :: L, k + 1, t, h => by
    rw [i4s_cons]
    have := i4s_get L k t (by simpa using h)
    rw [show (k + 1) * 4 = k * 4 + 1 + 1 + 1 + 1 by omega]
    simpa using this
theorem i4_at {w : World} {A : Option Addr} {L : List In4} (h : Sl w A (i4s L)) (k : Nat) (hk : k < L.length) : ∃ b off, A = some ⟨b, off, none⟩ ∧ b < w.heap.size ∧ w.cell? ⟨b, off + k * 4, none⟩ = some (.int .i64 L[k].1) ∧ w.cell? ⟨b, off + k * 4 + 1, none⟩ = some (.int .i64 L[k].2.1) ∧ w.cell? ⟨b, off + k * 4 + 2, none⟩ = some (.int .i64 L[k].2.2.1) ∧ w.cell? ⟨b, off + k * 4 + 3, none⟩ = some (.int .i64 L[k].2.2.2) := by
  obtain ⟨b, off, e, hb, hc⟩ := h (by rw [i4s_len]; omega)
  obtain ⟨h0, h1, h2, h3⟩ := i4s_get L k L[k] (List.getElem?_eq_getElem hk)
  exact ⟨b, off, e, hb, hc _ _ h0, hc _ _ h1, hc _ _ h2, hc _ _ h3⟩
end Go.Proofs.YtgppobaoclfgcaaGreatDoor
