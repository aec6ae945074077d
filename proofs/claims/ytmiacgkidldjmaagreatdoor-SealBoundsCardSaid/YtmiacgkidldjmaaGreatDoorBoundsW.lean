/- Chapter 13: SealBounds, the walk. Conditions: what the lemma says. -/
import Derived.Test.YtmiacgkidldjmaaGreatDoorSealE
set_option linter.unusedVariables false
set_option linter.unusedSimpArgs false
namespace Go.Proofs.YtmiacgkidldjmaaGreatDoor
open Go.RowKit Go.Lib
theorem wf_u32 {n : Int} (h : (Lit.int .u32 n).wf = true) : ∃ k : Nat, n = k ∧ k < 4294967296 := by
  simp [Lit.wf, IntKind.min, IntKind.max, IntKind.bits, IntKind.signed] at h
  exact ⟨n.toNat, by omega, by omega⟩
set_option maxRecDepth 1000000 in
set_option maxHeartbeats 8000000 in
theorem bounds_walk (i k m : Nat) (hi : i < 65536) (hk : k < 4294967296) (hm : m < 65536) (W : World) :
    Calls Tryz.prog 5 #[.int .u16 (i : Int), .int .u32 (k : Int), .int .u16 (m : Int)] W fun e w' => e = .returned (.bool true) ∧ Below W.heap.size W w' := by
  have CX := Lib.hid (fun W => ex13_any W)
  have cA := fun W => bound_nat i k 0 0 0 0 0 false false W (by omega) (by omega)
  have cB := fun W => bound_nat (i + 1) k 0 0 0 0 0 false false W (by omega) (by omega)
  have cC := fun W => bound_nat i (k + m) 0 0 0 0 0 false false W (by omega) (by omega)
  have cZ := fun W => bound_nat 0 k 0 0 0 0 0 false false W (by omega) (by omega)
  have cN := fun W => bound_neg i 0 0 0 0 0 false false W (by omega)
  have hA := Plain.bound_min (i : Int) (k : Int) (by omega) (by omega)
  have hB := Plain.bound_min ((i + 1 : Nat) : Int) (k : Int) (by omega) (by omega)
  have hC := Plain.bound_min (i : Int) ((k + m : Nat) : Int) (by omega) (by omega)
  have hZ := Plain.bound_min ((0 : Nat) : Int) (k : Int) (by omega) (by omega)
  rw [hA] at cA
  rw [hB] at cB
  rw [hC] at cC
  rw [hZ] at cZ
  have e1 : (i : Int) * ((k : Int) + 1) = ((i * (k + 1) : Nat) : Int) := by simp
  have n2 : (i + 1) * (k + 1) = i * (k + 1) + (k + 1) := by rw [Nat.add_mul, Nat.one_mul]
  have e2 : ((i + 1 : Nat) : Int) * ((k : Int) + 1) = ((i * (k + 1) + (k + 1) : Nat) : Int) := by rw [← n2, Int.natCast_mul, Int.natCast_add k 1]; rfl
  have n3 : i * (k + m + 1) = i * (k + 1) + i * m := by rw [← Nat.mul_add, show k + 1 + m = k + m + 1 by omega]
  have e3 : (i : Int) * (((k + m : Nat) : Int) + 1) = ((i * (k + 1) + i * m : Nat) : Int) := by rw [← n3, Int.natCast_mul, Int.natCast_add (k + m) 1]; rfl
  have hz : i * (k + 1) ≤ 65536 * 4294967296 := Nat.mul_le_mul (by omega) (by omega)
  rw [e1] at cA
  rw [e2] at cB
  rw [e3] at cC
  obtain ⟨z, hz'⟩ : ∃ x, i * (k + 1) = x := ⟨_, rfl⟩
  obtain ⟨y, hy⟩ : ∃ x, i * m = x := ⟨_, rfl⟩
  rw [hz'] at cA cB cC hz e1
  rw [hy] at cC
  obtain ⟨A, hAe⟩ : ∃ x : Int, min ((z : Nat) : Int) 1099511627776 = x := ⟨_, rfl⟩
  obtain ⟨B, hBe⟩ : ∃ x : Int, min ((z + (k + 1) : Nat) : Int) 1099511627776 = x := ⟨_, rfl⟩
  obtain ⟨C, hCe⟩ : ∃ x : Int, min ((z + y : Nat) : Int) 1099511627776 = x := ⟨_, rfl⟩
  have gB : A ≤ B := by rw [← hAe, ← hBe]; exact Int.le_min.2 ⟨Int.le_trans (Int.min_le_left _ _) (Int.ofNat_le.2 (Nat.le_add_right _ _)), Int.min_le_right _ _⟩
  have gC : A ≤ C := by rw [← hAe, ← hCe]; exact Int.le_min.2 ⟨Int.le_trans (Int.min_le_left _ _) (Int.ofNat_le.2 (Nat.le_add_right _ _)), Int.min_le_right _ _⟩
  rw [hAe] at cA
  rw [hBe] at cB
  rw [hCe] at cC
  rw [show min (((0 : Nat) : Int) * ((k : Int) + 1)) 1099511627776 = 0 by simp; omega] at cZ
  have CA := Lib.hid cA
  have CB := Lib.hid (show ∀ W : World, Calls Tryz.prog 21 #[.agg #[.int .i64 ((i : Int) + 1), .int .i64 0, .int .i64 0, .int .i64 0, .int .i64 0, .bool false, .bool false, .int .i64 0], .int .i64 (k : Int)] W fun e w' => e = .returned (.int .i64 B) ∧ Below W.heap.size W w' from fun W => by have := cB W; rwa [show ((i + 1 : Nat) : Int) = (i : Int) + 1 by omega] at this)
  have CC := Lib.hid (show ∀ W : World, Calls Tryz.prog 21 #[.agg #[.int .i64 (i : Int), .int .i64 0, .int .i64 0, .int .i64 0, .int .i64 0, .bool false, .bool false, .int .i64 0], .int .i64 ((k : Int) + (m : Int))] W fun e w' => e = .returned (.int .i64 C) ∧ Below W.heap.size W w' from fun W => by have := cC W; rwa [show ((k + m : Nat) : Int) = (k : Int) + (m : Int) by omega] at this)
  have CZ := Lib.hid (show ∀ W : World, Calls Tryz.prog 21 #[.agg #[.int .i64 0, .int .i64 0, .int .i64 0, .int .i64 0, .int .i64 0, .bool false, .bool false, .int .i64 0], .int .i64 (k : Int)] W fun e w' => e = .returned (.int .i64 0) ∧ Below W.heap.size W w' from cZ)
  have CN := Lib.hid cN
  have hw1 : IntKind.i64.wrap (i : Int) = (i : Int) := by rw [IntKind.wrap_i64]; omega
  have hw2 : IntKind.i64.wrap (k : Int) = (k : Int) := by rw [IntKind.wrap_i64]; omega
  have hw3 : IntKind.i64.wrap (m : Int) = (m : Int) := by rw [IntKind.wrap_i64]; omega
  have hw5 : IntKind.i64.wrap (z : Int) = (z : Int) := by rw [IntKind.wrap_i64]; omega
  have hw4 : IntKind.i64.wrap ((i : Int) * ((k : Int) + 1)) = (z : Int) := by rw [e1]; exact hw5
  have hmn : min (z : Int) 1099511627776 = A := hAe
  have dB : decide (B ≥ A) = true := by simp; omega
  have dC : decide (C ≥ A) = true := by simp; omega
  clear cA cB cC cZ cN hA hB hC hZ e1 e2 e3 n2 n3 hz' hy hAe hBe hCe
  go_enter Tryz.func5, Tryz.ntmps5
  go_wp2_with fail
  refine (CX.out _).mono ?_
  rintro _ w1 ⟨rfl, hb⟩
  have HB1 := Lib.hid hb
  clear hb
  go_wp2_with fail
  refine (CA.out _).mono ?_
  rintro _ w2 ⟨rfl, hb⟩
  have HB2 := Lib.hid (below_then HB1.out hb)
  clear hb
  go_wp2_with fail
  refine (CB.out _).mono ?_
  rintro _ w3 ⟨rfl, hb⟩
  have HB3 := Lib.hid (below_then HB2.out hb)
  clear hb
  go_wp2_with fail
  refine (CC.out _).mono ?_
  rintro _ w4 ⟨rfl, hb⟩
  have HB4 := Lib.hid (below_then HB3.out hb)
  clear hb
  go_wp2_with fail
  refine (CZ.out _).mono ?_
  rintro _ w5 ⟨rfl, hb⟩
  have HB5 := Lib.hid (below_then HB4.out hb)
  clear hb
  go_wp2_with fail
  refine (CN.out _).mono ?_
  rintro _ w6 ⟨rfl, hb⟩
  have HB6 := Lib.hid (below_then HB5.out hb)
  clear hb
  go_wp2
  go_ret
  exact ⟨rfl, HB6.out⟩
theorem bounds_all (a1 a2 a3 : Int) (W : World) (w1 : (Lit.int .u16 a1).wf = true) (w2 : (Lit.int .u32 a2).wf = true) (w3 : (Lit.int .u16 a3).wf = true) :
    Calls Tryz.prog 5 #[.int .u16 a1, .int .u32 a2, .int .u16 a3] W fun e w' => e = .returned (.bool true) ∧ Below W.heap.size W w' := by
  obtain ⟨i, rfl, hi⟩ := wf_u16 w1
  obtain ⟨k, rfl, hk⟩ := wf_u32 w2
  obtain ⟨m, rfl, hm⟩ := wf_u16 w3
  exact bounds_walk i k m hi hk hm W
end Go.Proofs.YtmiacgkidldjmaaGreatDoor
