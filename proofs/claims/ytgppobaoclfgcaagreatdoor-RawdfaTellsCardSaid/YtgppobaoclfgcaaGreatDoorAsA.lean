/- prog.Asserts. Conditions: what each lemma says. -/
import Derived.Test.YtgppobaoclfgcaaGreatDoorPgB
import Derived.Test.YtgppobaoclfgcaaGreatDoorCodeA
import Derived.ArgAppend
import Derived.Deep.QuietTactic
import Derived.Deep.CutBlock
set_option linter.unusedVariables false
set_option linter.unusedSimpArgs false
namespace Go.Proofs.YtgppobaoclfgcaaGreatDoor.Plain
def cntA (L : List In4) : Nat := L.countP fun t => decide (t.1 = 5)
theorem cntA_take (L : List In4) (k : Nat) (h : k < L.length) : cntA (L.take (k + 1)) = cntA (L.take k) + if L[k].1 = 5 then 1 else 0 := by
  unfold cntA
  rw [List.take_succ_eq_append_getElem h, List.countP_append]
  by_cases h5 : L[k].1 = 5 <;> simp [h5]
theorem cntA_le (L : List In4) : cntA L ≤ L.length := List.countP_le_length
end Go.Proofs.YtgppobaoclfgcaaGreatDoor.Plain
namespace Go.Proofs.YtgppobaoclfgcaaGreatDoor
open Go.RowKit Go.Lib
open Plain (In4 cntA)
set_option maxRecDepth 100000 in
set_option maxHeartbeats 1000000 in
theorem asserts_any (I C : Option Addr) (L : List In4) (K : List Cs) (c d : Nat) (g : Int) (w : World) (hP : PgAt w I L C K) :
    Calls Tryz.prog 15 #[pgV I L.length c C K.length d g] w fun e w' => e = .returned (.int .i64 (cntA L : Int)) ∧ Below w.heap.size w w' := by
  obtain ⟨n, hN⟩ : ∃ n, L.length = n := ⟨_, rfl⟩
  obtain ⟨m, hM⟩ : ∃ m, K.length = m := ⟨_, rfl⟩
  have hn := hP.li
  rw [hN] at hn ⊢
  rw [hM]
  unfold maxLen at hn
  unfold pgV
  have HI := Lib.hid hP.insts
  have HN := Lib.hid hN
  clear hP hN hM
  go_enter Tryz.func15, Tryz.ntmps15
  go_wp2
  go_loopw [3, 9] (fun s i wr => ∃ k : Nat, k ≤ n ∧ i = .int .i64 k ∧ s = .int .i64 (cntA (L.take k) : Int) ∧ RowKit.Below w.heap.size w wr) (fun _ i _ => n - (RowKit.intOf i).toNat)
  case atStart => exact ⟨0, Nat.zero_le _, rfl, rfl, (RowKit.Below.refl _ _).alloc (Nat.le_refl _) _⟩
  case round =>
    obtain ⟨k, hk, rfl, rfl, hB⟩ := hrel
    by_cases hlt : k < n
    · have hk1 : k < L.length := by rw [HN.out]; exact hlt
      obtain ⟨b, off, rfl, hbb, c0, c1, c2, c3⟩ := i4_at (HI.out.below hB) k hk1
      have hs := Plain.cntA_take L k hk1
      have hle := Plain.cntA_le (L.take k)
      have hle2 : (L.take k).length ≤ k := List.length_take_le _ _
      obtain ⟨cn, hcn⟩ : ∃ cn, cntA (L.take k) = cn := ⟨_, rfl⟩
      rw [hcn] at hs hle ⊢
      obtain ⟨⟨o, x, y, a⟩, ht⟩ : ∃ t, L[k] = t := ⟨_, rfl⟩
      rw [ht] at c0 c1 c2 c3 hs
      dsimp only at c0 c1 c2 c3 hs
      have hcb : cn ≤ k := by omega
      have HS := Lib.hid hs
      have HB := Lib.hid hB
      have g0 : (0 : Int) ≤ (k : Int) := by omega
      have g1 : (k : Int) < (n : Int) := by omega
      clear hs hB hle hle2 hcn ht
      by_cases h5 : o = 5
      · subst h5
        go_wp2
        go_roundw
        case rel => exact ⟨k + 1, by omega, by go_num, by rw [HS.out]; simp, HB.out.alloc HB.out.size _⟩
        case measure => simp [RowKit.intOf]; omega
      · have e5 : (o == 5) = false := by simp [h5]
        go_wp2
        go_roundw
        case rel => exact ⟨k + 1, by omega, by go_num, by rw [HS.out]; simp [h5], HB.out.alloc HB.out.size _⟩
        case measure => simp [RowKit.intOf]; omega
    · obtain rfl : n = k := by omega
      have HB := Lib.hid hB
      clear hB
      go_wp2
      go_ret
      exact ⟨ret_int (by rw [List.take_of_length_le (by rw [HN.out]; omega)]), HB.out⟩
end Go.Proofs.YtgppobaoclfgcaaGreatDoor
namespace Go.Proofs.YtgppobaoclfgcaaGreatDoor.Plain
end Go.Proofs.YtgppobaoclfgcaaGreatDoor.Plain
namespace Go.Proofs.YtgppobaoclfgcaaGreatDoor
open Go.RowKit Go.Lib
end Go.Proofs.YtgppobaoclfgcaaGreatDoor
namespace Go.Proofs.YtgppobaoclfgcaaGreatDoor
open Go.RowKit Go.Lib
end Go.Proofs.YtgppobaoclfgcaaGreatDoor
