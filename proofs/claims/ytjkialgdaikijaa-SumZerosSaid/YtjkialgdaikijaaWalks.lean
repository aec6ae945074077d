/- The walks of chapter 1's functions: sum.Add, Of, Check, Join and the five laws over them return what the plain text says. Conditions: the arguments fit their kinds, each text takes at most the form's own reach. -/
import Derived.Below
import Derived.Deep.OwnRows
import Derived.Laws.Bits64
import Derived.Laws.BitsAllLaws
import Derived.Laws.BitsLemmas
import Derived.Laws.BytesArg
import Derived.Laws.IdiomStrings
import Derived.Lib.Hide
import Derived.SizedLaws
import Derived.Test.YtjkialgdaikijaaChecked
import Derived.Test.YtjkialgdaikijaaPlain
import Derived.WalkKit
import Derived.WalkLawsBesides
import Derived.WalkSpells
namespace Go.Proofs.Ytjkialgdaikijaa
open Go.RowKit
theorem w32 (n : Int) (h0 : 0 ≤ n) (h1 : n < 2 ^ 32) : IntKind.u32.wrap n = n := by rw [IntKind.wrap_u32]; omega
theorem u32_low (x : Int) (h0 : 0 ≤ x) (h1 : x < 4294967296) : bits .and .u32 x 65535 = x % 65536 :=
  bits_mask .u32 32 (by decide) w32 16 (by decide) x h0 h1
theorem u32_join (a b : Int) (h0 : 0 ≤ a) (h1 : a < 65536) (h2 : 0 ≤ b) (h3 : b < 65536) : bits .or .u32 (b * 65536) a = b * 65536 + a :=
  bits_join .u32 32 (by decide) w32 16 (b * 65536) a (by omega) (by omega) (by omega) h0 (by omega) (by omega)
theorem parts_any (x : Int) (w : World) (h0 : 0 ≤ x) (h1 : x < 4294967296) :
    Calls Try.prog 13 #[.int .u32 x] w fun e w' => e = .returned (.tuple #[.int .u32 (x % 65536 % 65521), .int .u32 (x / 65536 % 65521)]) ∧ w = w' := by
  have hb := u32_low x h0 h1
  go_enter Try.func13, Try.ntmps13
  go_wp2
  go_ret2
  exact ⟨rfl, rfl⟩
theorem ret_int {k : IntKind} {a b : Int} (h : a = b) : Ending.returned (.int k a) = .returned (.int k b) := by rw [h]
theorem whole_any (a b : Int) (w : World) (h0 : 0 ≤ a) (h1 : a < 65536) (h2 : 0 ≤ b) (h3 : b < 65536) :
    Calls Try.prog 14 #[.int .u32 a, .int .u32 b] w fun e w' => e = .returned (.int .u32 (b * 65536 + a)) ∧ w = w' := by
  have hb := u32_join a b h0 h1 h2 h3
  go_enter Try.func14, Try.ntmps14
  go_wp2
  go_ret
  exact ⟨rfl, rfl⟩
theorem take_snoc (s : ByteArray) (k : Nat) (h : k < s.size) : s.data.toList.take (k + 1) = s.data.toList.take k ++ [s[k]] := by
  rw [List.take_succ_eq_append_getElem (by simpa using h)]; rfl
set_option maxHeartbeats 400000 in
theorem add_any (x : Int) (s : ByteArray) (w : World) (h0 : 0 ≤ x) (h1 : x < 4294967296) (hs : s.size ≤ maxLen) :
    Calls Try.prog 11 #[.int .u32 x, .string s] w fun e w' => e = .returned (.int .u32 (Plain.addS x s.data.toList)) ∧ w = w' := by
  unfold maxLen at hs
  go_enter Try.func11, Try.ntmps11
  go_wp2_with (go_at_call 13; refine (parts_any _ _ h0 h1).mono ?_; rintro e w' ⟨rfl, rfl⟩)
  go_loop [5, 6, 7, 15] (fun a b j i => ∃ k : Nat, k ≤ s.size ∧ i = .int .i64 k ∧ a = .int .u32 (Plain.run (x % 65536 % 65521, x / 65536 % 65521) (s.data.toList.take k)).1 ∧ b = .int .u32 (Plain.run (x % 65536 % 65521, x / 65536 % 65521) (s.data.toList.take k)).2) (fun _ _ _ i => s.size - (intOf i).toNat)
  case atStart => exact ⟨0, Nat.zero_le _, rfl, rfl, rfl⟩
  case round =>
    obtain ⟨k, hk, rfl, rfl, rfl⟩ := hrel
    have hd := Plain.run_bd (s.data.toList.take k) (x % 65536 % 65521, x / 65536 % 65521) (by simp only; omega) (by simp only; omega) (by simp only; omega) (by simp only; omega)
    obtain ⟨d1, d2, d3, d4⟩ := hd
    by_cases hlt : k < s.size
    · have hsn := Plain.run_snoc (x % 65536 % 65521, x / 65536 % 65521) (s.data.toList.take k) s[k]
      rw [← take_snoc s k hlt] at hsn
      generalize Plain.run (x % 65536 % 65521, x / 65536 % 65521) (s.data.toList.take k) = p at *
      obtain ⟨a, b⟩ := p
      simp only at d1 d2 d3 d4
      have hc := UInt8.toNat_lt s[k]
      have HS := Lib.hid hsn; clear hsn
      go_wp2
      go_round
      case rel => exact ⟨k + 1, by omega, by go_num, by rw [HS.out]; rfl, by rw [HS.out]; rfl⟩
      case measure => simp [intOf]; omega
    · have hfin : Plain.addS x s.data.toList = (Plain.run (x % 65536 % 65521, x / 65536 % 65521) (s.data.toList.take k)).2 * 65536 + (Plain.run (x % 65536 % 65521, x / 65536 % 65521) (s.data.toList.take k)).1 := by
        rw [List.take_of_length_le (by simp; omega)]; rfl
      generalize Plain.run (x % 65536 % 65521, x / 65536 % 65521) (s.data.toList.take k) = p at *
      obtain ⟨a, b⟩ := p
      simp only at d1 d2 d3 d4 hfin
      have HS := Lib.hid hfin; clear hfin
      go_wp2_with (go_at_call 14; refine (whole_any _ _ _ (by omega) (by omega) (by omega) (by omega)).mono ?_; rintro e w' ⟨rfl, rfl⟩)
      go_ret
      exact ⟨ret_int HS.out.symm, rfl⟩
end Go.Proofs.Ytjkialgdaikijaa
namespace Go.Proofs.Ytjkialgdaikijaa
open Go.RowKit
theorem of_any (s : ByteArray) (w : World) (hs : s.size ≤ maxLen) :
    Calls Try.prog 9 #[.string s] w fun e w' => e = .returned (.int .u32 (Plain.addS 1 s.data.toList)) ∧ w = w' := by
  go_enter Try.func9, Try.ntmps9
  go_wp2_with (go_at_call 11; refine (add_any _ _ _ (by omega) (by omega) hs).mono ?_; rintro e w' ⟨rfl, rfl⟩)
  go_ret
  exact ⟨rfl, rfl⟩
theorem check_any (s : ByteArray) (x : Int) (w : World) (hs : s.size ≤ maxLen) :
    Calls Try.prog 12 #[.string s, .int .u32 x] w fun e w' => e = .returned (.bool (Plain.addS 1 s.data.toList == x)) ∧ w = w' := by
  go_enter Try.func12, Try.ntmps12
  go_wp2_with (go_at_call 9; refine (of_any _ _ hs).mono ?_; rintro e w' ⟨rfl, rfl⟩)
  go_ret
  exact ⟨rfl, rfl⟩
theorem mul_bd (a b : Int) (h0 : 0 ≤ a) (h1 : a < 65521) (h2 : 0 ≤ b) (h3 : b < 65521) : 0 ≤ a * b ∧ a * b ≤ 4292870400 :=
  ⟨Int.mul_nonneg h0 h2, Int.le_trans (Int.mul_le_mul (Int.le_of_lt_add_one (by omega : a < 65520 + 1)) (Int.le_of_lt_add_one (by omega : b < 65520 + 1)) h2 (by omega)) (by omega)⟩
set_option maxHeartbeats 400000 in
theorem join_any (x y many : Int) (w : World) (h0 : 0 ≤ x) (h1 : x < 4294967296) (h2 : 0 ≤ y) (h3 : y < 4294967296) (h4 : -9223372036854775808 ≤ many) (h5 : many ≤ 9223372036854775807) :
    Calls Try.prog 10 #[.int .u32 x, .int .u32 y, .int .i64 many] w fun e w' => e = .returned (.int .u32 (Plain.joinS x y many)) ∧ w = w' := by
  by_cases hm : 0 ≤ many
  · obtain ⟨m1, m2⟩ := mul_bd (many % 65521) ((x % 65536 % 65521 + 65521 - 1) % 65521) (by omega) (by omega) (by omega) (by omega)
    have hfin : Plain.joinS x y many = (y / 65536 % 65521 + x / 65536 % 65521 + many % 65521 * ((x % 65536 % 65521 + 65521 - 1) % 65521)) % 65521 * 65536 + (x % 65536 % 65521 + y % 65536 % 65521 + 65521 - 1) % 65521 := by
      unfold Plain.joinS; rw [if_neg (by omega), show x % 65536 % 65521 + 65520 = x % 65536 % 65521 + 65521 - 1 from by omega]; omega
    have HS := Lib.hid hfin; clear hfin
    go_enter Try.func10, Try.ntmps10
    go_wp2_with (first | (go_at_call 13; refine (parts_any _ _ (by assumption) (by assumption)).mono ?_; rintro e w' ⟨rfl, rfl⟩) | (go_at_call 14; refine (whole_any _ _ _ (by omega) (by omega) (by omega) (by omega)).mono ?_; rintro e w' ⟨rfl, rfl⟩))
    go_ret
    exact ⟨ret_int (by rw [HS.out]), rfl⟩
  · have hm2 : many < 0 := by omega
    have hfin : Plain.joinS x y many = (y / 65536 % 65521 + x / 65536 % 65521) % 65521 * 65536 + (x % 65536 % 65521 + y % 65536 % 65521 + 65521 - 1) % 65521 := by
      unfold Plain.joinS; rw [if_pos hm2, show x % 65536 % 65521 + 65520 = x % 65536 % 65521 + 65521 - 1 from by omega]; omega
    have HS := Lib.hid hfin; clear hfin
    have e0 : IntKind.u64.wrap 0 = 0 := by decide
    go_enter Try.func10, Try.ntmps10
    go_wp2_with (first | (go_at_call 13; refine (parts_any _ _ (by assumption) (by assumption)).mono ?_; rintro e w' ⟨rfl, rfl⟩) | (go_at_call 14; refine (whole_any _ _ _ (by omega) (by omega) (by omega) (by omega)).mono ?_; rintro e w' ⟨rfl, rfl⟩))
    go_ret
    exact ⟨ret_int (by rw [HS.out]; omega), rfl⟩
theorem examples_any (w : World) : Calls Try.prog 8 #[] w fun e w' => e = .returned (.bool true) ∧ w = w' := by
  have e1 : Plain.addS 1 [97, 98, 99] = 38600999 := by decide +kernel
  have e2 : Plain.addS 1 [] = 1 := by decide +kernel
  have e3 : Plain.addS 1 [97, 98, 100] = 38666536 := by decide +kernel
  have e4 : Plain.addS 1 [97, 98] = 19267780 := by decide +kernel
  have e5 : Plain.addS 1 [99] = 6553700 := by decide +kernel
  have e6 : Plain.joinS 19267780 6553700 1 = 38600999 := by decide +kernel
  go_enter Try.func8, Try.ntmps8
  go_wp2_with (first | (go_at_call 9; refine (of_any _ _ (by decide)).mono ?_; rintro e w' ⟨rfl, rfl⟩) | (go_at_call 11; refine (add_any _ _ _ (by omega) (by omega) (by decide)).mono ?_; rintro e w' ⟨rfl, rfl⟩) | (go_at_call 12; refine (check_any _ _ _ (by decide)).mono ?_; rintro e w' ⟨rfl, rfl⟩) | (go_at_call 10; refine (join_any _ _ _ _ (by omega) (by omega) (by omega) (by omega) (by omega) (by omega)).mono ?_; rintro e w' ⟨rfl, rfl⟩))
  go_ret
  exact ⟨rfl, rfl⟩
end Go.Proofs.Ytjkialgdaikijaa
namespace Go.Proofs.Ytjkialgdaikijaa
open Go.RowKit
/-- the sum of a text -/
def sm (s : ByteArray) : Int := Plain.addS 1 s.data.toList
theorem sm_bd (s : ByteArray) : 0 ≤ sm s ∧ sm s < 4294967296 := Plain.addS_bd _ _
theorem of_sm (s : ByteArray) (w : World) (hs : s.size ≤ maxLen) :
    Calls Try.prog 9 #[.string s] w fun e w' => e = .returned (.int .u32 (sm s)) ∧ w = w' := of_any s w hs
theorem size_len (s : ByteArray) : (s.size : Int) = (s.data.toList.length : Int) := by simp
theorem toList_app (a b : ByteArray) : (a ++ b).data.toList = a.data.toList ++ b.data.toList := by simp
theorem sm_join (a b : ByteArray) : Plain.joinS (sm a) (sm b) b.size = sm (a ++ b) := by
  unfold sm; rw [size_len, Plain.join_two, toList_app]
theorem sm_add (a b : ByteArray) : Plain.addS (sm a) b.data.toList = sm (a ++ b) := by
  unfold sm; rw [Plain.addS_append, toList_app]
theorem check_sm (s : ByteArray) (x : Int) (w : World) (hs : s.size ≤ maxLen) :
    Calls Try.prog 12 #[.string s, .int .u32 x] w fun e w' => e = .returned (.bool (sm s == x)) ∧ w = w' := check_any s x w hs
set_option maxHeartbeats 400000 in
theorem sumJoins_walk (a b c : ByteArray) (w : World) (ha : a.size ≤ 140737488351232) (hb : b.size ≤ 140737488351232) (hc : c.size ≤ 140737488351232) :
    Calls Try.prog 3 #[.string a, .string b, .string c] w fun e w' => e = .returned (.bool true) ∧ w = w' := by
  have f1 := sm_join a b
  have f2 := sm_join b c
  have f3 := sm_add a b
  have f4 := sm_join (a ++ b) c
  have f5 := sm_join a (b ++ c)
  rw [ByteArray.size_append, ← ByteArray.append_assoc] at f5
  obtain ⟨a1, a2⟩ := sm_bd a
  obtain ⟨b1, b2⟩ := sm_bd b
  obtain ⟨c1, c2⟩ := sm_bd c
  obtain ⟨d1, d2⟩ := sm_bd (a ++ b)
  obtain ⟨g1, g2⟩ := sm_bd (b ++ c)
  have s1 : a.size ≤ maxLen := by unfold maxLen; omega
  have s2 : b.size ≤ maxLen := by unfold maxLen; omega
  have s3 : c.size ≤ maxLen := by unfold maxLen; omega
  have s4 : (a ++ b).size ≤ maxLen := by unfold maxLen; rw [ByteArray.size_append]; omega
  have s5 : (a ++ b ++ c).size ≤ maxLen := by unfold maxLen; rw [ByteArray.size_append, ByteArray.size_append]; omega
  go_enter Try.func3, Try.ntmps3
  go_wp2_with (first | (go_at_call 8; refine (examples_any _).mono ?_; rintro e w' ⟨rfl, rfl⟩) | (go_at_call 9; refine (of_sm _ _ (by assumption)).mono ?_; rintro e w' ⟨rfl, rfl⟩) | (go_at_call 10; refine (join_any _ _ _ _ (by assumption) (by assumption) (by assumption) (by assumption) (by omega) (by omega)).mono ?_; rintro e w' ⟨rfl, rfl⟩) | (go_at_call 11; refine (add_any _ _ _ (by assumption) (by assumption) (by assumption)).mono ?_; rintro e w' ⟨rfl, rfl⟩) | (go_at_call 12; refine (check_sm _ _ _ (by assumption)).mono ?_; rintro e w' ⟨rfl, rfl⟩))
  go_ret
  exact ⟨rfl, rfl⟩
end Go.Proofs.Ytjkialgdaikijaa
namespace Go.Proofs.Ytjkialgdaikijaa
open Go.RowKit
theorem size_empty : (ByteArray.empty).size ≤ maxLen := by decide
set_option maxHeartbeats 400000 in
theorem sumJoinsBy_walk (x y many : Int) (w : World) (h0 : 0 ≤ x) (h1 : x < 4294967296) (h2 : 0 ≤ y) (h3 : y < 4294967296) (h4 : -9223372036854775808 ≤ many) (h5 : many ≤ 9223372036854775807) :
    Calls Try.prog 7 #[.int .u32 x, .int .u32 y, .int .i64 many] w fun e w' => e = .returned (.bool true) ∧ w = w' := by
  have jx := Plain.join_none x
  have jf := Plain.join_from y
  have jl := Plain.join_less x y
  rw [jx] at jl
  obtain ⟨a1, a2⟩ := Plain.addS_bd x []
  obtain ⟨b1, b2⟩ := Plain.addS_bd y []
  have se := size_empty
  have se2 : ByteArray.size { data := #[] } ≤ maxLen := size_empty
  have o0 : (0 : Int) ≤ 1 := by omega
  have o1 : (1 : Int) < 4294967296 := by omega
  by_cases hm : 0 ≤ many
  · go_enter Try.func7, Try.ntmps7
    go_wp2_with (first | (go_at_call 8; refine (examples_any _).mono ?_; rintro e w' ⟨rfl, rfl⟩) | (go_at_call 9; refine (of_sm _ _ (by assumption)).mono ?_; rintro e w' ⟨rfl, rfl⟩) | (go_at_call 10; refine (join_any _ _ _ _ (by assumption) (by assumption) (by assumption) (by assumption) (by omega) (by omega)).mono ?_; rintro e w' ⟨rfl, rfl⟩) | (go_at_call 11; refine (add_any _ _ _ (by assumption) (by assumption) (by assumption)).mono ?_; rintro e w' ⟨rfl, rfl⟩) | (go_at_call 12; refine (check_sm _ _ _ (by assumption)).mono ?_; rintro e w' ⟨rfl, rfl⟩))
    go_ret
    exact ⟨rfl, rfl⟩
  · have jb := Plain.join_below x y many (by omega)
    have hm2 : many < 0 := by omega
    go_enter Try.func7, Try.ntmps7
    go_wp2_with (first | (go_at_call 8; refine (examples_any _).mono ?_; rintro e w' ⟨rfl, rfl⟩) | (go_at_call 9; refine (of_sm _ _ (by assumption)).mono ?_; rintro e w' ⟨rfl, rfl⟩) | (go_at_call 10; refine (join_any _ _ _ _ (by assumption) (by assumption) (by assumption) (by assumption) (by omega) (by omega)).mono ?_; rintro e w' ⟨rfl, rfl⟩) | (go_at_call 11; refine (add_any _ _ _ (by assumption) (by assumption) (by assumption)).mono ?_; rintro e w' ⟨rfl, rfl⟩) | (go_at_call 12; refine (check_sm _ _ _ (by assumption)).mono ?_; rintro e w' ⟨rfl, rfl⟩))
    go_ret
    exact ⟨rfl, rfl⟩
end Go.Proofs.Ytjkialgdaikijaa
namespace Go.Proofs.Ytjkialgdaikijaa
open Go.RowKit
theorem info5 : (Try.prog.info? 5).map (fun i => (i.zero, i.size, i.bytes)) = some (some (.int .u8 0), 1, 1) := by kernel_rfl
theorem zs_list (n : Nat) : (strOfNums (List.replicate n 0)).data.toList = List.replicate n 0 := by rw [strOfNums_data]; simp
theorem made_cell (w : World) (n i : Nat) (h : i < n) (t : TypeId) : (w.alloc (.cells (madeCells #[.int .u8 0] n) t)).cell? ⟨w.heap.size, 0 + i, none⟩ = some (.int .u8 ((List.replicate n (0 : Int)).getD i 0)) := by
  rw [cell_of_row _ _ _ _ _ _ (heap_alloc_new _ _)]
  simp [madeCells, h, List.getD, Nat.mod_one]
set_option maxRecDepth 100000 in
set_option maxHeartbeats 400000 in
theorem sumZeros_walk (many : Int) (s : ByteArray) (x : Int) (w : World) (h0 : 0 ≤ many) (h1 : many < 256) (hs : s.size ≤ 140737488351232) (x0 : 0 ≤ x) (x1 : x < 4294967296) :
    Calls Try.prog 6 #[.int .u8 many, .string s, .int .u32 x] w fun e w' => e = .returned (.bool true) ∧ Below w.heap.size w w' := by
  obtain ⟨n, rfl⟩ := Int.eq_ofNat_of_zero_le h0
  have hmk := run_make_row' (P := Try.prog) 30 5 (.int .u8 0) 1 Try.underlying30 info5 rfl .i64 .i64 n (by omega) (by omega)
  have hcv := fun w : World => run_convert_bytes_arg (P := Try.prog) (w.alloc (.cells (madeCells #[.int .u8 0] n) 5)) 30 5 Try.underlying30 Try.underlying5 w.heap.size 0 n n (List.replicate n 0) (by simp) (fun i hi => made_cell w n i hi 5) 9 Try.underlying9
  have hz := zs_list n
  have hsz : (strOfNums (List.replicate n 0)).size = n := by rw [strOfNums_size]; simp
  have e1 : sm (strOfNums (List.replicate n 0)) = (n : Int) * 65536 + 1 := by unfold sm; rw [hz]; exact Plain.addS_zeros n (by omega)
  have e2 : sm (strOfNums (List.replicate n 0) ++ s) = Plain.joinS ((n : Int) * 65536 + 1) (sm s) s.size := by
    rw [← e1, sm_join]
  have e3 : Plain.addS (Plain.addS x []) s.data.toList = Plain.addS x s.data.toList := Plain.addS_less _ _
  have e4 : Plain.addS (Plain.addS x []) [] = Plain.addS x [] := Plain.addS_less _ _
  obtain ⟨e5, e6⟩ := Plain.addS_low x []
  obtain ⟨a1, a2⟩ := Plain.addS_bd x []
  obtain ⟨b1, b2⟩ := sm_bd s
  have e7 := u32_low (Plain.addS x []) a1 a2
  have e8 := u32_join 1 (n : Int) (by omega) (by omega) (by omega) (by omega)
  have se := size_empty
  have se2 : ByteArray.size { data := #[] } ≤ maxLen := size_empty
  have s1 : s.size ≤ maxLen := by unfold maxLen; omega
  have s2 : (strOfNums (List.replicate n 0)).size ≤ maxLen := by rw [hsz]; unfold maxLen; omega
  have s3 : (strOfNums (List.replicate n 0) ++ s).size ≤ maxLen := by rw [ByteArray.size_append, hsz]; unfold maxLen; omega
  have s4 : (strOfNums (List.replicate n 0)).size ≤ 255 := by rw [hsz]; omega
  generalize strOfNums (List.replicate n 0) = z at *
  clear hz hsz
  go_enter Try.func6, Try.ntmps6
  go_wp2_with (first | (go_at_call 8; refine (examples_any _).mono ?_; rintro e w' ⟨rfl, rfl⟩) | (go_at_call 9; refine (of_sm _ _ (by assumption)).mono ?_; rintro e w' ⟨rfl, rfl⟩) | (go_at_call 10; refine (join_any _ _ _ _ (by omega) (by omega) (by omega) (by omega) (by omega) (by omega)).mono ?_; rintro e w' ⟨rfl, rfl⟩) | (go_at_call 11; refine (add_any _ _ _ (by omega) (by omega) (by assumption)).mono ?_; rintro e w' ⟨rfl, rfl⟩) | (go_at_call 12; refine (check_sm _ _ _ (by assumption)).mono ?_; rintro e w' ⟨rfl, rfl⟩))
  go_ret
  exact ⟨rfl, (Below.refl _ _).alloc (Nat.le_refl _) _⟩
end Go.Proofs.Ytjkialgdaikijaa
namespace Go.Proofs.Ytjkialgdaikijaa
open Go.RowKit
set_option maxRecDepth 100000 in
set_option maxHeartbeats 400000 in
theorem bytes_walk (b off len cap : Nat) (X : Nat → Int) (l : List UInt8) (w : World) (hlc : len ≤ cap) (hm : cap ≤ maxLen) 
    (hlen : l.length = min len 12) (hl : ∀ i, i < min len 12 → ∀ (h : i < l.length), X i = (l[i].toNat : Int)) 
    (hcell : ∀ i, i < min len 12 → w.cell? ⟨b, off + i, none⟩ = some (.int .u8 (X i))) (hx : ∀ i, i < min len 12 → 0 ≤ X i ∧ X i < 256)
    (hcv : ∀ c, (convert 30 9 (.slice (some ⟨b, off, none⟩) (min len 12) c)).run Try.prog w = .ok (.string ⟨l.toArray⟩) w) :
    Calls Try.prog 5 #[.slice (some ⟨b, off, none⟩) len cap] w fun e w' => e = .returned (.bool true) ∧ w = w' := by
  unfold maxLen at hm
  have hs : ByteArray.size ⟨l.toArray⟩ ≤ maxLen := by unfold maxLen; simp [ByteArray.size]; omega
  by_cases h12 : 12 < len
  · have e12 : min len 12 = 12 := by omega
    rw [e12] at hlen hl hcell hx hcv
    have HLL := Lib.hid hl
    have HC := Lib.hid hcell
    clear e12 hl hcell
    go_enter Try.func5, Try.ntmps5
    go_wp2_with (first | (go_at_call 8; refine (examples_any _).mono ?_; rintro e w' ⟨rfl, rfl⟩) | (go_at_call 9; refine (of_sm _ _ (by assumption)).mono ?_; rintro e w' ⟨rfl, rfl⟩))
    go_loop [4, 5, 6] (fun a c i => ∃ k : Nat, k ≤ 12 ∧ i = .int .i64 k ∧ a = .int .u32 (1 + (Plain.tot l - Plain.tot (l.drop k))) ∧ c = .int .u32 (12 + (Plain.wei l - Plain.wei (l.drop k)))) (fun _ _ i => 12 - (intOf i).toNat)
    case atStart => exact ⟨0, Nat.zero_le _, rfl, by simp, by simp⟩
    case round =>
      obtain ⟨k, hk, rfl, rfl, rfl⟩ := hrel
      obtain ⟨p1, p2, p3, p4⟩ := Plain.pw_bd l (by omega) k
      by_cases hlt : k < 12
      · have hck := HC.out k hlt
        obtain ⟨q1, q2⟩ := hx k hlt
        obtain ⟨m1, m2⟩ := Plain.mul_few (X k) (12 - (k : Int)) (by omega) (by omega) (by omega) (by omega)
        have hT := Plain.tot_drop l k (by omega)
        have hW := Plain.wei_drop l k (by omega)
        rw [← HLL.out k hlt (by omega)] at hT hW
        rw [hlen] at hW
        generalize X k = x at *
        have HT := Lib.hid hT; clear hT
        have HW := Lib.hid hW; clear hW
        go_wp2
        go_round
        case rel => exact ⟨k + 1, by omega, by go_num, by rw [HT.out]; go_num, by rw [HW.out]; go_num⟩
        case measure => simp [intOf]; omega
      · have hkm : k = 12 := by omega
        subst hkm
        have ej := u32_join (1 + (Plain.tot l - Plain.tot (l.drop 12))) (12 + (Plain.wei l - Plain.wei (l.drop 12))) (by omega) (by omega) (by omega) (by omega)
        have hsm : sm ⟨l.toArray⟩ = (12 + (Plain.wei l - Plain.wei (l.drop 12))) * 65536 + (1 + (Plain.tot l - Plain.tot (l.drop 12))) := by
          have : sm ⟨l.toArray⟩ = Plain.addS 1 l := rfl
          rw [this, Plain.addS_few l (by omega), hlen, List.drop_of_length_le (by omega)]; simp [Plain.tot, Plain.wei]
        clear hlen
        go_wp2_with (first | (go_at_call 8; refine (examples_any _).mono ?_; rintro e w' ⟨rfl, rfl⟩) | (go_at_call 9; refine (of_sm _ _ (by assumption)).mono ?_; rintro e w' ⟨rfl, rfl⟩))
        go_ret
        exact ⟨rfl, rfl⟩
  · have e12 : min len 12 = len := by omega
    rw [e12] at hlen hl hcell hx hcv
    have HLL := Lib.hid hl
    have HC := Lib.hid hcell
    clear e12 hl hcell
    go_enter Try.func5, Try.ntmps5
    go_wp2_with (first | (go_at_call 8; refine (examples_any _).mono ?_; rintro e w' ⟨rfl, rfl⟩) | (go_at_call 9; refine (of_sm _ _ (by assumption)).mono ?_; rintro e w' ⟨rfl, rfl⟩))
    go_loop [4, 5, 6] (fun a c i => ∃ k : Nat, k ≤ len ∧ i = .int .i64 k ∧ a = .int .u32 (1 + (Plain.tot l - Plain.tot (l.drop k))) ∧ c = .int .u32 ((len : Int) + (Plain.wei l - Plain.wei (l.drop k)))) (fun _ _ i => len - (intOf i).toNat)
    case atStart => exact ⟨0, Nat.zero_le _, rfl, by simp, by simp⟩
    case round =>
      obtain ⟨k, hk, rfl, rfl, rfl⟩ := hrel
      obtain ⟨p1, p2, p3, p4⟩ := Plain.pw_bd l (by omega) k
      by_cases hlt : k < len
      · have hck := HC.out k hlt
        obtain ⟨q1, q2⟩ := hx k hlt
        obtain ⟨m1, m2⟩ := Plain.mul_few (X k) ((len : Int) - (k : Int)) (by omega) (by omega) (by omega) (by omega)
        have hT := Plain.tot_drop l k (by omega)
        have hW := Plain.wei_drop l k (by omega)
        rw [← HLL.out k hlt (by omega)] at hT hW
        rw [hlen] at hW
        generalize X k = x at *
        have HT := Lib.hid hT; clear hT
        have HW := Lib.hid hW; clear hW
        go_wp2
        go_round
        case rel => exact ⟨k + 1, by omega, by go_num, by rw [HT.out]; go_num, by rw [HW.out]; go_num⟩
        case measure => simp [intOf]; omega
      · obtain rfl : len = k := by omega
        have ej := u32_join (1 + (Plain.tot l - Plain.tot (l.drop len))) ((len : Int) + (Plain.wei l - Plain.wei (l.drop len))) (by omega) (by omega) (by omega) (by omega)
        have hsm : sm ⟨l.toArray⟩ = ((len : Int) + (Plain.wei l - Plain.wei (l.drop len))) * 65536 + (1 + (Plain.tot l - Plain.tot (l.drop len))) := by
          have : sm ⟨l.toArray⟩ = Plain.addS 1 l := rfl
          rw [this, Plain.addS_few l (by omega), hlen, List.drop_of_length_le (by omega)]; simp [Plain.tot, Plain.wei]
        clear hlen
        go_wp2_with (first | (go_at_call 8; refine (examples_any _).mono ?_; rintro e w' ⟨rfl, rfl⟩) | (go_at_call 9; refine (of_sm _ _ (by assumption)).mono ?_; rintro e w' ⟨rfl, rfl⟩))
        go_ret
        exact ⟨rfl, rfl⟩
theorem sumBytes_nil (a : Option Addr) (w : World) : Calls Try.prog 5 #[.slice a 0 0] w fun e w' => e = .returned (.bool true) ∧ w = w' := by
  have hcv : (convert 30 9 (.slice a 0 0)).run Try.prog w = .ok (.string ByteArray.empty) w := by
    rcases a with _ | a
    · exact run_convert_bytes_nil (P := Try.prog) w 30 5 Try.underlying30 Try.underlying5 0 0 9 Try.underlying9
    · exact run_convert_bytes_back (P := Try.prog) w 30 9 5 a 0 [] Try.underlying30 Try.underlying5 Try.underlying9 (fun j hj => by cases hj)
  have e1 : sm ByteArray.empty = 1 := by decide +kernel
  have se := size_empty
  go_enter Try.func5, Try.ntmps5
  go_wp2_with (first | (go_at_call 8; refine (examples_any _).mono ?_; rintro e w' ⟨rfl, rfl⟩) | (go_at_call 9; refine (of_sm _ _ (by assumption)).mono ?_; rintro e w' ⟨rfl, rfl⟩))
  go_loop [4, 5, 6] (fun a c i => i = .int .i64 0 ∧ a = .int .u32 1 ∧ c = .int .u32 0) (fun _ _ i => 0)
  case atStart => exact ⟨rfl, rfl, rfl⟩
  case round =>
    obtain ⟨rfl, rfl, rfl⟩ := hrel
    go_wp2_with (first | (go_at_call 8; refine (examples_any _).mono ?_; rintro e w' ⟨rfl, rfl⟩) | (go_at_call 9; refine (of_sm _ _ (by assumption)).mono ?_; rintro e w' ⟨rfl, rfl⟩))
    go_ret
    exact ⟨rfl, rfl⟩
end Go.Proofs.Ytjkialgdaikijaa
namespace Go.Proofs.Ytjkialgdaikijaa
open Go.RowKit
/-- the block N begins with these bytes -/
def BRow (W : World) (N : Nat) (M : List UInt8) : Prop := (∀ i (h : i < M.length), W.cell? ⟨N, i, none⟩ = some (.int .u8 (M[i].toNat : Int))) ∧ (∀ i, i < M.length → W.frozen? ⟨N, i, none⟩ = false)
theorem BRow.set {W : World} {N : Nat} {M : List UInt8} (h : BRow W N M) (k : Nat) (hk : k < M.length) (c : UInt8) : BRow (W.setCell ⟨N, k, none⟩ (.int .u8 (c.toNat : Int))) N (M.set k c) := by
  refine ⟨fun i hi => ?_, fun i hi => ?_⟩
  · rw [List.length_set] at hi
    by_cases e : k = i
    · subst e
      rw [World.cell?_setCell_same _ _ _ (h.1 k hk)]; simp
    · rw [World.cell?_setCell_other _ _ _ _ (by intro h; injection h; omega), h.1 i hi, List.getElem_set_ne e]
  · rw [List.length_set] at hi
    rw [World.frozen?_setCell]; exact h.2 i hi
theorem BRow.conv {W : World} {N : Nat} {M : List UInt8} (h : BRow W N M) (n cap : Nat) (hn : n = M.length) : (convert 30 9 (.slice (some ⟨N, 0, none⟩) n cap)).run Try.prog W = .ok (.string ⟨M.toArray⟩) W := by
  subst hn
  exact run_convert_bytes_back (P := Try.prog) W 30 9 5 ⟨N, 0, none⟩ cap M Try.underlying30 Try.underlying5 Try.underlying9 (fun j hj => by have := h.1 j hj; have e : (⟨N, 0, none⟩ : Addr).add j = ⟨N, j, none⟩ := (by unfold Addr.add; split <;> simp_all); rw [e]; exact this)
theorem conv_bytes (w : World) (t : ByteArray) : ∃ W1 cap, (convert 9 30 (.string t)).run Try.prog w = .ok (.slice (some ⟨w.heap.size, 0, none⟩) t.size cap) W1 ∧ BRow W1 w.heap.size t.data.toList ∧ Below w.heap.size w W1 ∧ t.size ≤ cap ∧ w.heap.size < W1.heap.size := by
  refine ⟨_, _, run_bytes_of_string w 9 30 5 t Try.underlying9 Try.underlying30 Try.underlying5, ⟨fun i hi => ?_, fun i hi => ?_⟩, ?_, ?_, ?_⟩
  · have hi' : i < t.size := by simpa using hi
    rw [show w.heap.size = w.drew.heap.size from rfl, cell_of_row _ _ _ _ _ _ (heap_alloc_new _ _)]
    simp [bytesRow, Array.getElem?_append, hi']
  · have hi' : i < t.size := by simpa using hi
    have hg := heap_alloc_new w.drew (.cells (bytesRow t (grownCap w t.size 0 5)) 5 ((bytesRow t (grownCap w t.size 0 5)).size, (bytesRow t (grownCap w t.size 0 5)).size + 1))
    unfold World.frozen?
    rw [show w.heap.size = w.drew.heap.size from rfl, hg]
    simp [bytesRow]; omega
  · exact (Below.refl _ _).drew.alloc (Nat.le_refl _) _
  · unfold grownCap Question.cut; simp
  · show w.heap.size < (w.heap.push _).size
    rw [Array.size_push]; omega
theorem xor_same (x b : UInt8) : (x ^^^ b = x) ↔ b = 0 := by
  constructor
  · intro h
    have h2 : x ^^^ (x ^^^ b) = x ^^^ x := by rw [h]
    rw [← UInt8.xor_assoc, UInt8.xor_self, UInt8.zero_xor] at h2
    exact h2
  · rintro rfl; simp
theorem sm_list (l : List UInt8) : sm ⟨l.toArray⟩ = Plain.addS 1 l := rfl
set_option maxRecDepth 100000 in
set_option maxHeartbeats 400000 in
theorem turns_walk (s : ByteArray) (n k : Nat) (B x y : UInt8) (P Q : List UInt8) (w : World) (hs : s.size ≤ 140737488351232) (h0 : n < 65536)
    (hk : (n : Int) % ((s.size : Int) + 2 - 1) = (k : Int)) (hP : P.length = k) (hL : (s ++ ⟨#[121, 122]⟩).data.toList = P ++ x :: y :: Q) :
    Calls Try.prog 4 #[.string s, .int .u16 n, .int .u8 (B.toNat : Int)] w fun e w' => e = .returned (.bool true) ∧ Below w.heap.size w w' := by
  obtain ⟨W1, cap, hrun, hrow, hbel, hcap, hnew⟩ := conv_bytes w (s ++ ⟨#[121, 122]⟩)
  have hN : (s ++ ⟨#[121, 122]⟩ : ByteArray).size = s.size + 2 := by rw [ByteArray.size_append]; exact rfl
  have hlen : (P ++ x :: y :: Q).length = s.size + 2 := by rw [← hL, ← hN]; exact Array.length_toList
  have hk2 : k + 1 < s.size + 2 := by simp at hlen; omega
  rw [hL] at hrow
  generalize hNN : w.heap.size = N at *
  have r1 := hrow.set k (by omega) y
  have r2 := r1.set (k + 1) (by rw [List.length_set]; omega) x
  have r3 := r2.set k (by rw [List.length_set, List.length_set]; omega) (x ^^^ B)
  have r4 := r3.set (k + 1) (by rw [List.length_set, List.length_set, List.length_set]; omega) y
  have e2 : ((P ++ x :: y :: Q).set k y).set (k + 1) x = P ++ y :: x :: Q := by
    subst hP; simp
  rw [e2] at r2 r3 r4
  have e4 : ((P ++ y :: x :: Q).set k (x ^^^ B)).set (k + 1) y = P ++ (x ^^^ B) :: y :: Q := by
    subst hP; simp
  rw [e4] at r4
  have c0 := hrow.conv (s.size + 2) cap hlen.symm
  have c2 := r2.conv (s.size + 2) cap (by rw [← hlen]; simp)
  have c4 := r4.conv (s.size + 2) cap (by rw [← hlen]; simp)
  have q1 : (sm ⟨(P ++ (x ^^^ B) :: y :: Q).toArray⟩ == sm ⟨(P ++ x :: y :: Q).toArray⟩) = ((B.toNat : Int) == 0) := by
    rw [sm_list, sm_list, Bool.eq_iff_iff, beq_iff_eq, beq_iff_eq, Plain.addS_other, xor_same, ← UInt8.toNat_inj]
    simp
  have q2 : (sm ⟨(P ++ y :: x :: Q).toArray⟩ == sm ⟨(P ++ x :: y :: Q).toArray⟩) = ((x.toNat : Int) == (y.toNat : Int)) := by
    rw [sm_list, sm_list, Bool.eq_iff_iff, beq_iff_eq, beq_iff_eq, Plain.addS_turn, ← UInt8.toNat_inj]
    omega
  have z0 : (⟨(P ++ x :: y :: Q).toArray⟩ : ByteArray).size ≤ maxLen := by show (P ++ x :: y :: Q).toArray.size ≤ _; rw [List.size_toArray, hlen]; unfold maxLen; omega
  have z2 : (⟨(P ++ y :: x :: Q).toArray⟩ : ByteArray).size ≤ maxLen := by show (P ++ y :: x :: Q).toArray.size ≤ _; rw [List.size_toArray]; simp at hlen ⊢; unfold maxLen; omega
  have z4 : (⟨(P ++ (x ^^^ B) :: y :: Q).toArray⟩ : ByteArray).size ≤ maxLen := by show (P ++ (x ^^^ B) :: y :: Q).toArray.size ≤ _; rw [List.size_toArray]; simp at hlen ⊢; unfold maxLen; omega
  have l0 : W1.cell? ⟨N, k, none⟩ = some (.int .u8 (x.toNat : Int)) := by have := hrow.1 k (by omega); simpa [hP] using this
  have l1 : W1.cell? ⟨N, k + 1, none⟩ = some (.int .u8 (y.toNat : Int)) := by have := hrow.1 (k + 1) (by omega); simpa [hP, List.getElem_append] using this
  have f0 := hrow.2 k (by omega)
  have f1 := hrow.2 (k + 1) (by omega)
  have hx : bits .xor .u8 (x.toNat : Int) (B.toNat : Int) = ((x.toNat ^^^ B.toNat : Nat) : Int) := by rw [u8_xor_nat _ _ (UInt8.toNat_lt x) (UInt8.toNat_lt B)]
  have b1 := UInt8.toNat_lt x
  have b2 := UInt8.toNat_lt y
  have b3 := UInt8.toNat_lt B
  have hend : Below N w ((((W1.setCell ⟨N, k, none⟩ (.int .u8 (y.toNat : Int))).setCell ⟨N, k + 1, none⟩ (.int .u8 (x.toNat : Int))).setCell ⟨N, k, none⟩ (.int .u8 ((x ^^^ B).toNat : Int))).setCell ⟨N, k + 1, none⟩ (.int .u8 (y.toNat : Int))) :=
    (((hbel.setCell (by simp) _).setCell (by simp) _).setCell (by simp) _).setCell (by simp) _
  generalize (⟨(P ++ x :: y :: Q).toArray⟩ : ByteArray) = t0 at *
  generalize (⟨(P ++ y :: x :: Q).toArray⟩ : ByteArray) = t2 at *
  generalize (⟨(P ++ (x ^^^ B) :: y :: Q).toArray⟩ : ByteArray) = t4 at *
  rw [UInt8.toNat_xor] at c4 hend
  have HE := Lib.hid hend
  clear r1 r2 r3 r4 e2 e4 hrow hL hP hbel hend
  have HN := Lib.hid hNN
  go_enter Try.func4, Try.ntmps4
  go_wp2_with (first | (go_at_call 8; refine (examples_any _).mono ?_; rintro e w' ⟨rfl, rfl⟩) | (go_at_call 9; refine (of_sm _ _ (by assumption)).mono ?_; rintro e w' ⟨rfl, rfl⟩))
  go_ret
  exact ⟨rfl, HE.out⟩
theorem cut_two (l : List UInt8) (k : Nat) (h : k + 1 < l.length) : ∃ P x y Q, P.length = k ∧ l = P ++ x :: y :: Q := by
  refine ⟨l.take k, l[k], l[k + 1], l.drop (k + 2), by rw [List.length_take]; omega, ?_⟩
  rw [← List.drop_eq_getElem_cons (by omega), ← List.drop_eq_getElem_cons (by omega), List.take_append_drop]
theorem sumTurns_walk (s : ByteArray) (n by1 : Int) (w : World) (hs : s.size ≤ 140737488351232) (h0 : 0 ≤ n) (h1 : n < 65536) (h2 : 0 ≤ by1) (h3 : by1 < 256) :
    Calls Try.prog 4 #[.string s, .int .u16 n, .int .u8 by1] w fun e w' => e = .returned (.bool true) ∧ Below w.heap.size w w' := by
  obtain ⟨m, rfl⟩ := Int.eq_ofNat_of_zero_le h0
  obtain ⟨b, rfl⟩ := Int.eq_ofNat_of_zero_le h2
  have hb : (b : Int) = ((UInt8.ofNat b).toNat : Int) := by rw [UInt8.toNat_ofNat']; omega
  have hN : (s ++ ⟨#[121, 122]⟩ : ByteArray).size = s.size + 2 := by rw [ByteArray.size_append]; exact rfl
  have hlen : (s ++ ⟨#[121, 122]⟩ : ByteArray).data.toList.length = s.size + 2 := by rw [← hN]; exact Array.length_toList
  have hlt : m % (s.size + 1) < s.size + 1 := Nat.mod_lt _ (by omega)
  obtain ⟨P, x, y, Q, hP, hL⟩ := cut_two (s ++ ⟨#[121, 122]⟩ : ByteArray).data.toList (m % (s.size + 1)) (by rw [hlen]; omega)
  rw [hb]
  exact turns_walk s m (m % (s.size + 1)) (UInt8.ofNat b) x y P Q w hs (by omega) (by rw [show (s.size : Int) + 2 - 1 = ((s.size + 1 : Nat) : Int) from by omega]; omega) hP hL
end Go.Proofs.Ytjkialgdaikijaa
namespace Go.Proofs.Ytjkialgdaikijaa
open Go.RowKit
theorem reach_is : reachBytes = 140737488351232 := rfl
theorem len_size (s : ByteArray) (h : s.data.toList.length ≤ reachBytes) : s.size ≤ 140737488351232 := by rw [reach_is] at h; simpa using h
theorem u8_wf {n : Int} (h : (Lit.int .u8 n).wf = true) : 0 ≤ n ∧ n < 256 := by simp [Lit.wf, IntKind.min, IntKind.max, IntKind.bits, IntKind.signed] at h; omega
theorem u16_wf {n : Int} (h : (Lit.int .u16 n).wf = true) : 0 ≤ n ∧ n < 65536 := by simp [Lit.wf, IntKind.min, IntKind.max, IntKind.bits, IntKind.signed] at h; omega
theorem u32_wf {n : Int} (h : (Lit.int .u32 n).wf = true) : 0 ≤ n ∧ n < 4294967296 := by simp [Lit.wf, IntKind.min, IntKind.max, IntKind.bits, IntKind.signed] at h; omega
theorem i64_wf {n : Int} (h : (Lit.int .i64 n).wf = true) : -9223372036854775808 ≤ n ∧ n ≤ 9223372036854775807 := by simp [Lit.wf, IntKind.min, IntKind.max, IntKind.bits, IntKind.signed] at h; omega
theorem sumJoins_fin (a b c : ByteArray) (w : World) (ha : a.data.toList.length ≤ reachBytes) (hb : b.data.toList.length ≤ reachBytes) (hc : c.data.toList.length ≤ reachBytes) :
    Calls Try.prog 3 #[.string a, .string b, .string c] w fun e w' => e = .returned (.bool true) ∧ Below w.heap.size w w' :=
  (sumJoins_walk a b c w (len_size a ha) (len_size b hb) (len_size c hc)).mono fun _ _ ⟨h, e⟩ => ⟨h, e ▸ Below.refl _ _⟩
theorem sumTurns_fin (s : ByteArray) (n b : Int) (w : World) (hs : s.data.toList.length ≤ reachBytes) (h1 : (Lit.int .u16 n).wf = true) (h2 : (Lit.int .u8 b).wf = true) :
    Calls Try.prog 4 #[.string s, .int .u16 n, .int .u8 b] w fun e w' => e = .returned (.bool true) ∧ Below w.heap.size w w' :=
  sumTurns_walk s n b w (len_size s hs) (u16_wf h1).1 (u16_wf h1).2 (u8_wf h2).1 (u8_wf h2).2
theorem sumZeros_fin (n : Int) (s : ByteArray) (x : Int) (w : World) (h1 : (Lit.int .u8 n).wf = true) (hs : s.data.toList.length ≤ reachBytes) (h2 : (Lit.int .u32 x).wf = true) :
    Calls Try.prog 6 #[.int .u8 n, .string s, .int .u32 x] w fun e w' => e = .returned (.bool true) ∧ Below w.heap.size w w' :=
  (sumZeros_walk n s x w (u8_wf h1).1 (u8_wf h1).2 (len_size s hs) (u32_wf h2).1 (u32_wf h2).2)
theorem sumJoinsBy_fin (x y many : Int) (w : World) (h1 : (Lit.int .u32 x).wf = true) (h2 : (Lit.int .u32 y).wf = true) (h3 : (Lit.int .i64 many).wf = true) :
    Calls Try.prog 7 #[.int .u32 x, .int .u32 y, .int .i64 many] w fun e w' => e = .returned (.bool true) ∧ Below w.heap.size w w' :=
  (sumJoinsBy_walk x y many w (u32_wf h1).1 (u32_wf h1).2 (u32_wf h2).1 (u32_wf h2).2 (i64_wf h3).1 (i64_wf h3).2).mono fun _ _ ⟨h, e⟩ => ⟨h, e ▸ Below.refl _ _⟩
theorem sumBytes_fin (b off len cap : Nat) (zs : List Int) (w : World) (hlc : len ≤ cap) (hm : cap ≤ maxLen) (hz : zs.length = cap) 
    (hcell : ∀ i, i < zs.length → w.cell? ((⟨b, off, none⟩ : Addr).add i) = some (.int .u8 (zs.getD i 0))) (hwf : ∀ n ∈ zs, (Lit.int .u8 n).wf = true) :
    Calls Try.prog 5 #[.slice (some ⟨b, off, none⟩) len cap] w fun e w' => e = .returned (.bool true) ∧ Below w.heap.size w w' := by
  have hadd : ∀ i, (⟨b, off, none⟩ : Addr).add i = ⟨b, off + i, none⟩ := fun i => by unfold Addr.add; split <;> simp_all
  have hr : ∀ i, i < cap → 0 ≤ zs.getD i 0 ∧ zs.getD i 0 < 256 := fun i hi => by
    have e : zs.getD i 0 = zs[i]'(by omega) := by simp [List.getD, List.getElem?_eq_getElem (show i < zs.length by omega)]
    rw [e]; exact u8_wf (hwf _ (List.getElem_mem _))
  have hl0 : ((zs.take (min len 12)).map fun n => UInt8.ofNat n.toNat).length = min len 12 := by simp; omega
  refine (bytes_walk b off len cap (fun i => zs.getD i 0) ((zs.take (min len 12)).map fun n => UInt8.ofNat n.toNat) w hlc hm hl0 (fun i hi h => ?_) (fun i hi => ?_) (fun i hi => hr i (by omega)) (fun c => ?_)).mono fun _ _ ⟨h, e⟩ => ⟨h, e ▸ Below.refl _ _⟩
  · have := hr i (by omega)
    have e : zs.getD i 0 = zs[i]'(by omega) := by simp [List.getD, List.getElem?_eq_getElem (show i < zs.length by omega)]
    simp only [List.getElem_map, List.getElem_take, UInt8.toNat_ofNat']
    rw [e] at this ⊢; omega
  · rw [← hadd]; exact hcell i (by omega)
  · have := run_convert_bytes_arg (P := Try.prog) w 30 5 Try.underlying30 Try.underlying5 b off (min len 12) c (zs.take (min len 12)) (by simp; omega) (fun i hi => by
      rw [← hadd, hcell i (by omega)]; simp [List.getD, hi]) 9 Try.underlying9
    rw [this]; rfl
/-- what is told of a slice of bytes that came in: it is nil, or leads to its cells -/
theorem sumBytes_all (a : Option Addr) (len cap : Nat) (zs : List Int) (w : World) (h : (a = none ∧ len = 0 ∧ cap = 0 ∧ zs = []) ∨
    ∃ x, a = some x ∧ len ≤ cap ∧ cap ≤ maxLen ∧ zs.length = cap ∧ (∀ i, i < zs.length → w.cell? (x.add i) = some (.int .u8 (zs.getD i 0))) ∧ ∀ n ∈ zs, (Lit.int .u8 n).wf = true) :
    Calls Try.prog 5 #[.slice a len cap] w fun e w' => e = .returned (.bool true) ∧ Below w.heap.size w w' := by
  rcases h with ⟨rfl, rfl, rfl, rfl⟩ | ⟨x, rfl, hl, hm, hz, hcell, hwz⟩
  · exact (sumBytes_nil none w).mono fun _ _ ⟨h, e⟩ => ⟨h, e ▸ Below.refl _ _⟩
  · by_cases h0 : cap = 0
    · obtain rfl : len = 0 := by omega
      subst h0
      exact (sumBytes_nil _ w).mono fun _ _ ⟨h, e⟩ => ⟨h, e ▸ Below.refl _ _⟩
    · obtain ⟨b, off, spot⟩ := x
      have hc := hcell 0 (by omega)
      have hspot : spot = none := by simpa [Addr.add] using World.cell?_spot hc
      subst hspot
      exact sumBytes_fin b off len cap zs w hl hm hz hcell hwz
end Go.Proofs.Ytjkialgdaikijaa
