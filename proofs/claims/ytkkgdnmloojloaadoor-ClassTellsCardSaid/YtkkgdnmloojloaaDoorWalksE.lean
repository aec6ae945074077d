/- Chapter 2: contracts at a reader whose next is known. Conditions: what each lemma says. -/
import Derived.Test.YtkkgdnmloojloaaDoorWalksD
set_option linter.unusedVariables false
set_option linter.unusedSimpArgs false
namespace Go.Proofs.YtkkgdnmloojloaaDoor
open Go.RowKit Go.Lib
theorem wf_u64 {n : Int} (h : (Lit.int .u64 n).wf = true) : ∃ k : Nat, n = k ∧ k < 18446744073709551616 := by
  simp [Lit.wf, IntKind.min, IntKind.max, IntKind.bits, IntKind.signed] at h
  exact ⟨n.toNat, by omega, by omega⟩
theorem wf_u16 {n : Int} (h : (Lit.int .u16 n).wf = true) : ∃ k : Nat, n = k ∧ k < 65536 := by
  simp [Lit.wf, IntKind.min, IntKind.max, IntKind.bits, IntKind.signed] at h
  exact ⟨n.toNat, by omega, by omega⟩
theorem wf_u8 {n : Int} (h : (Lit.int .u8 n).wf = true) : ∃ k : Nat, n = k ∧ k < 256 := by
  simp [Lit.wf, IntKind.min, IntKind.max, IntKind.bits, IntKind.signed] at h
  exact ⟨n.toNat, by omega, by omega⟩
theorem wf_i64 {n : Int} (h : (Lit.int .i64 n).wf = true) : -9223372036854775808 ≤ n ∧ n ≤ 9223372036854775807 := by
  simp [Lit.wf, IntKind.min, IntKind.max, IntKind.bits, IntKind.signed] at h
  exact ⟨by omega, by omega⟩
theorem next_at {r : Plain.Rd} {n : Nat} {q : Plain.Rd} (h : r.next = (n, q)) (hr : r.rest.length ≤ 1152921504606846976) : ∀ w, Calls Tryd.prog 20 #[.agg #[.string (str r.rest), .int .i64 r.e]] w fun e w' => e = .returned (.tuple #[.int .u64 n, .agg #[.string (str q.rest), .int .i64 q.e]]) ∧ Below w.heap.size w w' := by
  intro w
  have := next_any r w hr
  unfold nextV at this
  rw [h] at this
  exact this
theorem text_at {r : Plain.Rd} {most : Nat} {s : List UInt8} {q : Plain.Rd} (h : r.text most = (s, q)) (hr : r.rest.length ≤ 1152921504606846976) (hm : most < 18446744073709551616) : ∀ w, Calls Tryd.prog 22 #[.agg #[.string (str r.rest), .int .i64 r.e], .int .u64 most] w fun e w' => e = .returned (.tuple #[.string (str s), .agg #[.string (str q.rest), .int .i64 q.e]]) ∧ Below w.heap.size w w' := by
  intro w
  have := text_any r most w hr hm
  unfold textV at this
  rw [h] at this
  exact this
theorem text_len (r : Plain.Rd) (m : Nat) : (r.text m).2.rest.length ≤ r.rest.length := by
  have h := next_len r
  unfold Plain.Rd.text
  split
  · exact Nat.le_trans (fail_len _ _) h
  · split
    · exact Nat.le_trans (fail_len _ _) h
    · exact Nat.le_trans (bytes_len _ _) h
end Go.Proofs.YtkkgdnmloojloaaDoor
