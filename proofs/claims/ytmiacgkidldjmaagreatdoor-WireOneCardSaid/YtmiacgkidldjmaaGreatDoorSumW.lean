/- Chapter 1: the sum: what the code computes. Conditions: what each lemma says. -/
import Derived.Test.YtmiacgkidldjmaaGreatDoorKit
import Derived.Test.YtmiacgkidldjmaaGreatDoorSumP
import Derived.Below
import Derived.Deep.OwnRows
import Derived.Laws.Bits64
import Derived.Laws.BitsAllLaws
import Derived.Laws.BitsLemmas
import Derived.Laws.BytesArg
import Derived.Laws.IdiomStrings
import Derived.Lib.Hide
import Derived.SizedLaws
import Derived.WalkKit
import Derived.WalkLawsBesides
import Derived.WalkSpells
set_option linter.unusedVariables false
set_option linter.unusedSimpArgs false
namespace Go.Proofs.YtmiacgkidldjmaaGreatDoor
open Go.RowKit
theorem sw32 (n : Int) (h0 : 0 ≤ n) (h1 : n < 2 ^ 32) : IntKind.u32.wrap n = n := by rw [IntKind.wrap_u32]; omega
theorem u32_low (x : Int) (h0 : 0 ≤ x) (h1 : x < 4294967296) : bits .and .u32 x 65535 = x % 65536 :=
  bits_mask .u32 32 (by decide) sw32 16 (by decide) x h0 h1
theorem u32_join (a b : Int) (h0 : 0 ≤ a) (h1 : a < 65536) (h2 : 0 ≤ b) (h3 : b < 65536) : bits .or .u32 (b * 65536) a = b * 65536 + a :=
  bits_join .u32 32 (by decide) sw32 16 (b * 65536) a (by omega) (by omega) (by omega) h0 (by omega) (by omega)
theorem sparts_any (x : Int) (w : World) (h0 : 0 ≤ x) (h1 : x < 4294967296) :
    Calls Tryz.prog 142 #[.int .u32 x] w fun e w' => e = .returned (.tuple #[.int .u32 (x % 65536 % 65521), .int .u32 (x / 65536 % 65521)]) ∧ w = w' := by
  have hb := u32_low x h0 h1
  go_enter Tryz.func142, Tryz.ntmps142
  go_wp2
  go_ret2
  exact ⟨rfl, rfl⟩
theorem whole_any (a b : Int) (w : World) (h0 : 0 ≤ a) (h1 : a < 65536) (h2 : 0 ≤ b) (h3 : b < 65536) :
    Calls Tryz.prog 143 #[.int .u32 a, .int .u32 b] w fun e w' => e = .returned (.int .u32 (b * 65536 + a)) ∧ w = w' := by
  have hb := u32_join a b h0 h1 h2 h3
  go_enter Tryz.func143, Tryz.ntmps143
  go_wp2
  go_ret
  exact ⟨rfl, rfl⟩
theorem stake_snoc (s : ByteArray) (k : Nat) (h : k < s.size) : s.data.toList.take (k + 1) = s.data.toList.take k ++ [s[k]] := by
  rw [List.take_succ_eq_append_getElem (by simpa using h)]; rfl
set_option maxHeartbeats 400000 in
theorem add_any (x : Int) (s : ByteArray) (w : World) (h0 : 0 ≤ x) (h1 : x < 4294967296) (hs : s.size ≤ maxLen) :
    Calls Tryz.prog 134 #[.int .u32 x, .string s] w fun e w' => e = .returned (.int .u32 (Plain.addS x s.data.toList)) ∧ w = w' := by
  unfold maxLen at hs
  go_enter Tryz.func134, Tryz.ntmps134
  go_wp2_with (go_at_call 142; refine (sparts_any _ _ h0 h1).mono ?_; rintro e w' ⟨rfl, rfl⟩)
  go_loop [5, 6, 7, 15] (fun a b j i => ∃ k : Nat, k ≤ s.size ∧ i = .int .i64 k ∧ a = .int .u32 (Plain.run (x % 65536 % 65521, x / 65536 % 65521) (s.data.toList.take k)).1 ∧ b = .int .u32 (Plain.run (x % 65536 % 65521, x / 65536 % 65521) (s.data.toList.take k)).2) (fun _ _ _ i => s.size - (intOf i).toNat)
  case atStart => exact ⟨0, Nat.zero_le _, rfl, rfl, rfl⟩
  case round =>
    obtain ⟨k, hk, rfl, rfl, rfl⟩ := hrel
    have hd := Plain.run_bd (s.data.toList.take k) (x % 65536 % 65521, x / 65536 % 65521) (by simp only; omega) (by simp only; omega) (by simp only; omega) (by simp only; omega)
    obtain ⟨d1, d2, d3, d4⟩ := hd
    by_cases hlt : k < s.size
    · have hsn := Plain.run_snoc (x % 65536 % 65521, x / 65536 % 65521) (s.data.toList.take k) s[k]
      rw [← stake_snoc s k hlt] at hsn
      generalize Plain.run (x % 65536 % 65521, x / 65536 % 65521) (s.data.toList.take k) = p at *
      obtain ⟨a, b⟩ := p
      simp only at d1 d2 d3 d4
      have hc := UInt8.toNat_lt s[k]
      have HS := Lib.hid hsn; clear hsn
      go_wp2
      go_round
      case rel => exact ⟨k + 1, by omega, by go_num, by rw [HS.out]; rfl, by rw [HS.out]; rfl⟩
      case measure => simp [intOf]; omega
    · have hfin : Plain.addS x s.data.toList = (Plain.run (x % 65536 % 65521, x / 65536 % 65521) (s.data.toList.take k)).2 * 65536 + (Plain.run (x % 65536 % 65521, x / 65536 % 65521) (s.data.toList.take k)).1 := by
        rw [List.take_of_length_le (by simp; omega)]; rfl
      generalize Plain.run (x % 65536 % 65521, x / 65536 % 65521) (s.data.toList.take k) = p at *
      obtain ⟨a, b⟩ := p
      simp only at d1 d2 d3 d4 hfin
      have HS := Lib.hid hfin; clear hfin
      go_wp2_with (go_at_call 143; refine (whole_any _ _ _ (by omega) (by omega) (by omega) (by omega)).mono ?_; rintro e w' ⟨rfl, rfl⟩)
      go_ret
      exact ⟨ret_int HS.out.symm, rfl⟩
end Go.Proofs.YtmiacgkidldjmaaGreatDoor
namespace Go.Proofs.YtmiacgkidldjmaaGreatDoor
open Go.RowKit
theorem sumof_any (s : ByteArray) (w : World) (hs : s.size ≤ maxLen) :
    Calls Tryz.prog 108 #[.string s] w fun e w' => e = .returned (.int .u32 (Plain.addS 1 s.data.toList)) ∧ w = w' := by
  go_enter Tryz.func108, Tryz.ntmps108
  go_wp2_with (go_at_call 134; refine (add_any _ _ _ (by omega) (by omega) hs).mono ?_; rintro e w' ⟨rfl, rfl⟩)
  go_ret
  exact ⟨rfl, rfl⟩
end Go.Proofs.YtmiacgkidldjmaaGreatDoor
namespace Go.Proofs.YtmiacgkidldjmaaGreatDoor
open Go.RowKit
/-- the sum of a text -/
def sm (s : ByteArray) : Int := Plain.addS 1 s.data.toList
theorem sm_bd (s : ByteArray) : 0 ≤ sm s ∧ sm s < 4294967296 := Plain.addS_bd _ _
theorem of_sm (s : ByteArray) (w : World) (hs : s.size ≤ maxLen) :
    Calls Tryz.prog 108 #[.string s] w fun e w' => e = .returned (.int .u32 (sm s)) ∧ w = w' := sumof_any s w hs
theorem size_len (s : ByteArray) : (s.size : Int) = (s.data.toList.length : Int) := by simp
theorem toList_app (a b : ByteArray) : (a ++ b).data.toList = a.data.toList ++ b.data.toList := by simp
end Go.Proofs.YtmiacgkidldjmaaGreatDoor
namespace Go.Proofs.YtmiacgkidldjmaaGreatDoor
open Go.RowKit
end Go.Proofs.YtmiacgkidldjmaaGreatDoor
namespace Go.Proofs.YtmiacgkidldjmaaGreatDoor
open Go.RowKit
end Go.Proofs.YtmiacgkidldjmaaGreatDoor
namespace Go.Proofs.YtmiacgkidldjmaaGreatDoor
open Go.RowKit
end Go.Proofs.YtmiacgkidldjmaaGreatDoor
namespace Go.Proofs.YtmiacgkidldjmaaGreatDoor
open Go.RowKit
theorem xor_same (x b : UInt8) : (x ^^^ b = x) ↔ b = 0 := by
  constructor
  · intro h
    have h2 : x ^^^ (x ^^^ b) = x ^^^ x := by rw [h]
    rw [← UInt8.xor_assoc, UInt8.xor_self, UInt8.zero_xor] at h2
    exact h2
  · rintro rfl; simp
theorem sm_list (l : List UInt8) : sm ⟨l.toArray⟩ = Plain.addS 1 l := rfl
end Go.Proofs.YtmiacgkidldjmaaGreatDoor
namespace Go.Proofs.YtmiacgkidldjmaaGreatDoor
open Go.RowKit
end Go.Proofs.YtmiacgkidldjmaaGreatDoor
