/- class.Has. Conditions: what each lemma says. -/
import Derived.Test.YtgppobaoclfgcaaGreatDoorClassI
import Derived.Test.YtgppobaoclfgcaaGreatDoorRegT
import Derived.Laws.StructEq
import Derived.Deep.RegionHeld3
import Derived.Deep.QuietTactic
import Derived.Deep.Cut
set_option linter.unusedVariables false
set_option linter.unusedSimpArgs false
namespace Go.Proofs.YtgppobaoclfgcaaGreatDoor
open Go.RowKit Go.Lib
open Plain (Rg May mayB In Norm)
end Go.Proofs.YtgppobaoclfgcaaGreatDoor
namespace Go.Proofs.YtgppobaoclfgcaaGreatDoor
open Go.RowKit Go.Lib
open Plain (Rg May mayB In Norm)
end Go.Proofs.YtgppobaoclfgcaaGreatDoor
namespace Go.Proofs.YtgppobaoclfgcaaGreatDoor
open Go.RowKit Go.Lib
open Plain (Rg May mayB In Norm)
def inB (x : Int) (r : Rg) : Bool := decide (r.1 ≤ x) && decide (x ≤ r.2)
def hasB (R : List Rg) (x : Int) : Bool := R.any (inB x)
theorem hasB_iff (R : List Rg) (x : Int) : hasB R x = true ↔ In R x := by
  unfold hasB inB In
  rw [List.any_eq_true]
  constructor
  · rintro ⟨r, h, h2⟩; exact ⟨r, h, by simpa using h2⟩
  · rintro ⟨r, h, h2⟩; exact ⟨r, h, by simpa using h2⟩
theorem in64_any (lo hi x : Int) (b : Nat) (w : World) (hc : w.cell? ⟨b, 0, none⟩ = some (.int .i32 x)) (hb : b < w.heap.size) :
    Calls Tryz.prog 105 #[.agg #[.int .i32 lo, .int .i32 hi], .pointer (some ⟨b, 0, none⟩)] w fun e w' => e = .returned (.bool (inB x (lo, hi))) ∧ RowKit.Below w.heap.size w w' := by
  unfold inB
  dsimp only
  by_cases h1 : lo ≤ x
  · by_cases h2 : x ≤ hi
    · have d1 : decide (lo ≤ x) = true := by simp [h1]
      have d2 : decide (x ≤ hi) = true := by simp [h2]
      go_enter Tryz.func105, Tryz.ntmps105
      go_wp2
      go_ret
      exact ⟨ret_bool (by simp [*]), (RowKit.Below.refl _ _).alloc (Nat.le_refl _) _⟩
    · have d1 : decide (lo ≤ x) = true := by simp [h1]
      have d2 : decide (x ≤ hi) = false := by simp; omega
      go_enter Tryz.func105, Tryz.ntmps105
      go_wp2
      go_ret
      exact ⟨ret_bool (by simp [*]), (RowKit.Below.refl _ _).alloc (Nat.le_refl _) _⟩
  · have d1 : decide (lo ≤ x) = false := by simp; omega
    go_enter Tryz.func105, Tryz.ntmps105
    go_wp2
    go_ret
    exact ⟨ret_bool (by simp [*]), (RowKit.Below.refl _ _).alloc (Nat.le_refl _) _⟩
set_option maxRecDepth 100000 in
set_option maxHeartbeats 1000000 in
theorem idx81_any (R : List Rg) (A : Option Addr) (cap b : Nat) (x : Int) (w : World) (hX : Rs w A R) (hn : R.length ≤ maxLen) (hc : w.cell? ⟨b, 0, none⟩ = some (.int .i32 x)) (hb : b < w.heap.size) :
    Calls Tryz.prog 122 #[.slice A R.length cap, .func (Fn.func 105) #[] #[.pointer (some ⟨b, 0, none⟩)]] w fun e w' => e = .returned (.int .i64 (idx (inB x) R)) ∧ RowKit.Below w.heap.size w w' := by
  unfold maxLen at hn
  obtain ⟨n, hN⟩ : ∃ n, R.length = n := ⟨_, rfl⟩
  have HX := Lib.hid hX
  have HNN := Lib.hid hN
  have HC := Lib.hid hc
  rw [hN] at hn ⊢
  clear hX hN hc
  go_enter Tryz.func122, Tryz.ntmps122
  go_wp2
  go_loopw [5, 8] (fun _ i wr => ∃ k : Nat, k ≤ n ∧ i = .int .i64 k ∧ Hid (∀ j (hj : j < R.length), j < k → inB x R[j] = false) ∧ RowKit.Below w.heap.size w wr) (fun _ i _ => n - (RowKit.intOf i).toNat)
  case atStart => exact ⟨0, Nat.zero_le _, rfl, Lib.hid (fun j _ h => absurd h (by omega)), RowKit.Below.refl _ _⟩
  case round =>
    obtain ⟨k, hk, rfl, HA, hB⟩ := hrel
    by_cases hlt : k < n
    · have hkl : k < R.length := by rw [HNN.out]; exact hlt
      obtain ⟨ba, off, rfl, hba, c0, c1⟩ := (HX.out.below hB).get k hkl
      obtain ⟨r, hr⟩ : ∃ r, R[k] = r := ⟨_, rfl⟩
      rw [hr] at c0 c1
      obtain ⟨lo, hi⟩ := r
      dsimp only at c0 c1
      have HR := Lib.hid hr
      have hcb := (hB.cell (p := ⟨b, 0, none⟩) hb).trans HC.out
      have hbr : b < wr.heap.size := Nat.lt_of_lt_of_le hb hB.size
      obtain ⟨q, hq⟩ : ∃ q, inB x (lo, hi) = q := ⟨_, rfl⟩
      have cS := fun (W : World) (h1 : W.cell? ⟨b, 0, none⟩ = some (.int .i32 x)) (h2 : b < W.heap.size) => in64_any lo hi x b W h1 h2
      rw [hq] at cS
      have HQ := Lib.hid hq
      have HS := Lib.hid cS
      clear hq cS hr
      cases q
      · go_wp2_with (go_at_call 105; refine (HS.out _ hcb hbr).mono ?_; rintro e w' ⟨rfl, hb1⟩)
        go_roundw
        case rel =>
          refine ⟨k + 1, by omega, by go_num, Lib.hid (fun j hj hjk => ?_), hB.trans ((by assumption : RowKit.Below wr.heap.size wr _).mono hB.size)⟩
          rcases Nat.lt_or_ge j k with h | h
          · exact HA.out j hj h
          · obtain rfl : j = k := by omega
            rw [HR.out]; exact HQ.out
        case measure => simp [RowKit.intOf]; omega
      · have hv := idx_some (inB x) R k hkl HA.out (by rw [HR.out]; exact HQ.out)
        have HV := Lib.hid hv
        clear hv
        go_wp2_with (go_at_call 105; refine (HS.out _ hcb hbr).mono ?_; rintro e w' ⟨rfl, hb1⟩)
        go_ret
        exact ⟨ret_int HV.out.symm, hB.trans ((by assumption : RowKit.Below wr.heap.size wr _).mono hB.size)⟩
    · obtain rfl : n = k := by omega
      have hv := idx_none (inB x) R (fun j hj => HA.out j hj (by rw [← HNN.out]; exact hj))
      have HV := Lib.hid hv
      clear hv
      go_wp2
      go_ret
      exact ⟨ret_int HV.out.symm, hB⟩
theorem idx_has (R : List Rg) (x : Int) : decide (0 ≤ idx (inB x) R) = hasB R x := by
  unfold idx hasB
  cases h : R.any (inB x)
  · rfl
  · simp
theorem contains_any (R : List Rg) (A : Option Addr) (cap b : Nat) (x : Int) (w : World) (hX : Rs w A R) (hn : R.length ≤ maxLen) (hc : w.cell? ⟨b, 0, none⟩ = some (.int .i32 x)) (hb : b < w.heap.size) :
    Calls Tryz.prog 104 #[.slice A R.length cap, .func (Fn.func 105) #[] #[.pointer (some ⟨b, 0, none⟩)]] w fun e w' => e = .returned (.bool (hasB R x)) ∧ RowKit.Below w.heap.size w w' := by
  have HI := Lib.hid (idx81_any R A cap b x w hX hn hc hb)
  have hh := idx_has R x
  obtain ⟨i, hi⟩ : ∃ i, idx (inB x) R = i := ⟨_, rfl⟩
  rw [hi] at HI hh
  rw [← hh]
  clear hX hc hh hi
  go_enter Tryz.func104, Tryz.ntmps104
  go_wp2_with fail
  refine HI.out.mono ?_
  rintro e w1 ⟨rfl, h⟩
  have HB := Lib.hid h
  clear h
  go_wp2
  go_ret
  exact ⟨rfl, HB.out⟩
theorem has_any (R : List Rg) (A : Option Addr) (n cap : Nat) (x : Int) (w : World) (hX : Rs w A R) (hR : R.length = n) (hn : n ≤ maxLen) :
    Calls Tryz.prog 68 #[.slice A n cap, .int .i32 x] w fun e w' => e = .returned (.bool (hasB R x)) ∧ RowKit.Below w.heap.size w w' := by
  have hba : RowKit.Below w.heap.size w (w.alloc (.cells #[.int .i32 x] 21)) := (RowKit.Below.refl _ _).alloc (Nat.le_refl _) _
  have HI := Lib.hid (contains_any R A cap w.heap.size x (w.alloc (.cells #[.int .i32 x] 21)) (hX.below hba) (by rw [hR]; exact hn) (by rw [cell_of_row _ _ _ _ _ _ (heap_alloc_new2 _ _ _ _ rfl)]; rfl) (by simp))
  rw [hR] at HI
  obtain ⟨q, hq⟩ : ∃ q, hasB R x = q := ⟨_, rfl⟩
  rw [hq] at HI ⊢
  clear hX hR hba hq
  go_enter Tryz.func68, Tryz.ntmps68
  go_wp2_with fail
  refine HI.out.mono ?_
  rintro e w1 ⟨rfl, h⟩
  have HB := Lib.hid (below_then (below_alloc (RowKit.Below.refl _ _) _) h)
  clear h
  go_wp2
  go_ret
  exact ⟨rfl, HB.out⟩
end Go.Proofs.YtgppobaoclfgcaaGreatDoor
namespace Go.Proofs.YtgppobaoclfgcaaGreatDoor
open Go.RowKit Go.Lib
open Plain (Rg May mayB In Norm)
end Go.Proofs.YtgppobaoclfgcaaGreatDoor
namespace Go.Proofs.YtgppobaoclfgcaaGreatDoor
open Go.RowKit Go.Lib
open Plain (Rg May mayB In Norm)
end Go.Proofs.YtgppobaoclfgcaaGreatDoor
namespace Go.Proofs.YtgppobaoclfgcaaGreatDoor.Plain
end Go.Proofs.YtgppobaoclfgcaaGreatDoor.Plain
namespace Go.Proofs.YtgppobaoclfgcaaGreatDoor
open Go.RowKit Go.Lib
open Plain (Rg May mayB In Norm)
end Go.Proofs.YtgppobaoclfgcaaGreatDoor
namespace Go.Proofs.YtgppobaoclfgcaaGreatDoor.Plain
end Go.Proofs.YtgppobaoclfgcaaGreatDoor.Plain
namespace Go.Proofs.YtgppobaoclfgcaaGreatDoor
open Go.RowKit Go.Lib
open Plain (Rg May mayB In Norm)
end Go.Proofs.YtgppobaoclfgcaaGreatDoor
namespace Go.Proofs.YtgppobaoclfgcaaGreatDoor
open Go.RowKit Go.Lib
open Plain (Rg May mayB In Norm)
end Go.Proofs.YtgppobaoclfgcaaGreatDoor
namespace Go.Proofs.YtgppobaoclfgcaaGreatDoor.Plain
end Go.Proofs.YtgppobaoclfgcaaGreatDoor.Plain
namespace Go.Proofs.YtgppobaoclfgcaaGreatDoor
open Go.RowKit Go.Lib
open Plain (Rg May mayB In Norm)
end Go.Proofs.YtgppobaoclfgcaaGreatDoor
namespace Go.Proofs.YtgppobaoclfgcaaGreatDoor.Plain
end Go.Proofs.YtgppobaoclfgcaaGreatDoor.Plain
namespace Go.Proofs.YtgppobaoclfgcaaGreatDoor
open Go.RowKit Go.Lib
open Plain (Rg May mayB In Norm)
end Go.Proofs.YtgppobaoclfgcaaGreatDoor
