/- parts.Right, dfa.Right: what the code computes. Conditions: what each lemma says. -/
import Derived.Test.YtmiacgkidldjmaaGreatDoorClassC
import Derived.Test.YtmiacgkidldjmaaGreatDoorTabP
import Derived.Below
import Derived.BigQuiet
import Derived.Deep.QuietTactic
import Derived.Laws.AppendOwn
import Derived.Laws.OwnMore
import Derived.Laws.ResultCell
import Derived.Lib.Hide
import Derived.Lib.IndexBytes
import Derived.Lib.OthersKept
import Derived.OneCell
import Derived.WalkKit
import Derived.WalkLawsBesides
import Derived.WalkSmall
import Derived.WalkSpells
import Derived.Deep.CutBlock
import Derived.Deep.DeepCutAuto
set_option linter.unusedVariables false
set_option linter.unusedSimpArgs false
namespace Go.Proofs.YtmiacgkidldjmaaGreatDoor
open Go.RowKit Go.Lib
set_option maxRecDepth 100000 in
set_option maxHeartbeats 1000000 in
theorem pright_any (P : List Int) (A : Option Addr) (cap : Nat) (w : World) (hX : Sl w A (i32s P)) (hn : P.length ≤ maxLen) :
    Calls Tryz.prog 93 #[.slice A P.length cap] w fun e w' => e = .returned (.bool (Plain.partsRight P)) ∧ Below w.heap.size w w' := by
  unfold maxLen at hn
  have HX := Lib.hid hX
  clear hX
  obtain ⟨n, hN⟩ : ∃ n, P.length = n := ⟨_, rfl⟩
  rw [hN] at hn ⊢
  have HNN := Lib.hid hN
  by_cases h0 : n = 0
  · have hv : Plain.partsRight P = false := by unfold Plain.partsRight; rw [hN, h0]; rfl
    rw [hv]; clear hN hv
    subst h0
    go_enter Tryz.func93, Tryz.ntmps93
    go_wp2
    go_ret
    exact ⟨rfl, Below.refl _ _⟩
  by_cases h64 : n ≤ 64
  case neg =>
    have hv : Plain.partsRight P = false := by unfold Plain.partsRight; rw [hN]; simp; omega
    rw [hv]; clear hN hv
    go_enter Tryz.func93, Tryz.ntmps93
    go_wp2
    go_ret
    exact ⟨rfl, Below.refl _ _⟩
  have hne : ((n : Int) == 0) = false := by simp [h0]
  have hng : decide ((64 : Int) < (n : Int)) = false := by simp; omega
  obtain ⟨b, off, rfl, hb, hc⟩ := HX.out (by rw [i32s, List.length_map]; omega)
  have hget : ∀ k, k < n → w.cell? ⟨b, off + k, none⟩ = some (.int .i32 (P.getD k 0)) := fun k hk => hc k _ (by rw [i32s, List.getElem?_map, List.getElem?_eq_getElem (by omega)]; simp [List.getD, List.getElem?_eq_getElem (show k < P.length by omega)])
  have hg0 := hget 0 (by omega)
  rw [Nat.add_zero] at hg0
  have hgl := hget (n - 1) (by omega)
  obtain ⟨p0, hp0⟩ : ∃ x, P.getD 0 0 = x := ⟨_, rfl⟩
  obtain ⟨pl, hpl⟩ : ∃ x, P.getD (n - 1) 0 = x := ⟨_, rfl⟩
  rw [hp0] at hg0
  rw [hpl] at hgl
  have hval : Plain.partsRight P = ((p0 == 0) && decide (pl ≤ 1114111) && (List.range (n - 1)).all fun k => decide (P.getD k 0 < P.getD (k + 1) 0)) := by
    unfold Plain.partsRight; rw [hN, hp0, hpl, show (n == 0) = false from by simp [h0], show decide (n ≤ 64) = true from by simp [h64]]; rfl
  rw [hval]
  have HP0 := Lib.hid hp0
  have HPL := Lib.hid hpl
  have HG := Lib.hid hget
  clear hp0 hpl hval hN hget hc
  by_cases hz : p0 = 0
  case neg =>
    rw [show (p0 == 0) = false from by simp [hz]]
    go_enter Tryz.func93, Tryz.ntmps93
    go_wp2
    go_ret
    exact ⟨rfl, Below.refl _ _⟩
  by_cases hm : pl ≤ 1114111
  case neg =>
    rw [show decide (pl ≤ 1114111) = false from by simp; omega, Bool.and_false, Bool.false_and]
    go_enter Tryz.func93, Tryz.ntmps93
    go_wp2
    go_ret
    exact ⟨rfl, Below.refl _ _⟩
  subst hz
  rw [show decide (pl ≤ 1114111) = true from by simp; omega]
  simp only [BEq.rfl, Bool.true_and]
  go_enter Tryz.func93, Tryz.ntmps93
  go_wp2
  go_loopw [3, 30] (fun _ i wr => ∃ k : Nat, k ≤ n - 1 ∧ i = .int .i64 k ∧ (∀ j, j < k → P.getD j 0 < P.getD (j + 1) 0) ∧ Below w.heap.size w wr) (fun _ i _ => n - (RowKit.intOf i).toNat)
  case atStart => exact ⟨0, Nat.zero_le _, rfl, fun j h => absurd h (by omega), Below.refl _ _⟩
  case round =>
    obtain ⟨k, hk, rfl, hall, hB⟩ := hrel
    have HA := Lib.hid hall
    clear hall
    by_cases hlt : k < n - 1
    · have c0 := (hB.cell (p := ⟨b, off + k, none⟩) hb).trans (HG.out k (by omega))
      have c1 := (hB.cell (p := ⟨b, off + (k + 1), none⟩) hb).trans (HG.out (k + 1) (by omega))
      obtain ⟨x, hx⟩ : ∃ x, P.getD k 0 = x := ⟨_, rfl⟩
      obtain ⟨y, hy⟩ : ∃ x, P.getD (k + 1) 0 = x := ⟨_, rfl⟩
      rw [hx] at c0
      rw [hy] at c1
      have HX := Lib.hid hx
      have HY := Lib.hid hy
      clear hx hy
      by_cases hxy : x < y
      · go_wp2_with fail
        go_quiet (fail)
        go_wp2
        go_roundw
        case rel =>
          refine ⟨k + 1, by omega, by go_num, fun j hj => ?_, below_drewN hB _⟩
          rcases Nat.lt_or_ge j k with h | h
          · exact HA.out j h
          · obtain rfl : j = k := by omega
            rw [HX.out, HY.out]; exact hxy
        case measure => simp [RowKit.intOf]; omega
      · have hv : ((List.range (n - 1)).all fun k => decide (P.getD k 0 < P.getD (k + 1) 0)) = false := by
          rw [List.all_eq_false]
          exact ⟨k, List.mem_range.2 hlt, by rw [HX.out, HY.out]; simpa using hxy⟩
        have HV := Lib.hid hv
        clear hv
        go_wp2_with fail
        go_quiet (fail)
        go_wp2
        go_ret
        exact ⟨ret_bool HV.out.symm, below_drewN hB _⟩
    · obtain rfl : k = n - 1 := by omega
      have hv : ((List.range (n - 1)).all fun k => decide (P.getD k 0 < P.getD (k + 1) 0)) = true := by
        rw [List.all_eq_true]
        exact fun j hj => by simpa using HA.out j (List.mem_range.1 hj)
      have HV := Lib.hid hv
      clear hv
      go_wp2
      go_ret
      exact ⟨ret_bool HV.out.symm, hB⟩
end Go.Proofs.YtmiacgkidldjmaaGreatDoor
namespace Go.Proofs.YtmiacgkidldjmaaGreatDoor
open Go.RowKit Go.Lib
/-- a row of a table: where it lies, its room, its numbers -/
abbrev Row := Option Addr × Nat × List Int
def rowV (r : Row) : Value := .slice r.1 r.2.2.length r.2.1
def nums (R : List Row) : List (List Int) := R.map fun r => r.2.2
theorem out_any (x : Int) (b : Nat) (NA : Option Addr) (m nc : Nat) (w : World) (hb : b < w.heap.size) (hc : w.cell? ⟨b, 1, none⟩ = some (.slice NA m nc)) (hm : m ≤ maxLen) :
    Calls Tryz.prog 92 #[.int .i64 x, .pointer (some ⟨b, 0, none⟩)] w fun e w' => e = .returned (.bool (decide (x < 0) || decide ((m : Int) ≤ x))) ∧ Below w.heap.size w w' := by
  go_enter Tryz.func92, Tryz.ntmps92
  go_wp2
  all_goals
    go_ret
    exact ⟨rfl, Below.refl _ _⟩
set_option maxRecDepth 100000 in
set_option maxHeartbeats 1000000 in
theorem idx30_any (L : List Int) (A : Option Addr) (cap : Nat) (b : Nat) (NA : Option Addr) (m nc : Nat) (w : World) (hX : Sl w A (i64s L)) (hn : L.length ≤ maxLen)
    (hb : b < w.heap.size) (hc : w.cell? ⟨b, 1, none⟩ = some (.slice NA m nc)) (hm : m ≤ maxLen) :
    Calls Tryz.prog 124 #[.slice A L.length cap, .func (Fn.func 92) #[] #[.pointer (some ⟨b, 0, none⟩)]] w fun e w' => e = .returned (.int .i64 (Plain.idx (fun n => decide (n < 0) || decide ((m : Int) ≤ n)) L)) ∧ Below w.heap.size w w' := by
  unfold maxLen at hn
  obtain ⟨n, hN⟩ : ∃ n, L.length = n := ⟨_, rfl⟩
  have HX := Lib.hid hX
  have HC := Lib.hid hc
  have HNN := Lib.hid hN
  rw [hN] at hn ⊢
  clear hX hc hN
  go_enter Tryz.func124, Tryz.ntmps124
  go_wp2
  go_loopw [5, 8] (fun _ i wr => ∃ k : Nat, k ≤ n ∧ i = .int .i64 k ∧ (∀ j, j < k → (decide (L.getD j 0 < 0) || decide ((m : Int) ≤ L.getD j 0)) = false) ∧ Below w.heap.size w wr) (fun _ i _ => n - (RowKit.intOf i).toNat)
  case atStart => exact ⟨0, Nat.zero_le _, rfl, fun j h => absurd h (by omega), Below.refl _ _⟩
  case round =>
    obtain ⟨k, hk, rfl, hall, hB⟩ := hrel
    have HA := Lib.hid hall
    clear hall
    by_cases hlt : k < n
    · have hkl : k < L.length := by rw [HNN.out]; exact hlt
      obtain ⟨ba, off, rfl, hba, hcells⟩ := (HX.out.below hB) (by rw [i64s, List.length_map]; omega)
      have c0 := hcells k (.int .i64 (L.getD k 0)) (by rw [i64s, List.getElem?_map, List.getElem?_eq_getElem hkl]; simp [List.getD, List.getElem?_eq_getElem hkl])
      have hcb := (hB.cell (p := ⟨b, 1, none⟩) hb).trans HC.out
      have hbr : b < wr.heap.size := Nat.lt_of_lt_of_le hb hB.size
      obtain ⟨x, hx⟩ : ∃ x, L.getD k 0 = x := ⟨_, rfl⟩
      rw [hx] at c0
      have HXX := Lib.hid hx
      clear hx hcells
      obtain ⟨q, hq⟩ : ∃ q, (decide (x < 0) || decide ((m : Int) ≤ x)) = q := ⟨_, rfl⟩
      have cS := fun (W : World) (h1 : b < W.heap.size) (h2 : W.cell? ⟨b, 1, none⟩ = some (.slice NA m nc)) => out_any x b NA m nc W h1 h2 hm
      rw [hq] at cS
      have HQ := Lib.hid hq
      have HS := Lib.hid cS
      clear hq cS
      cases q
      · go_wp2_with (go_at_call 92; refine (HS.out _ hbr hcb).mono ?_; rintro e w' ⟨rfl, hb1⟩)
        go_roundw
        case rel =>
          refine ⟨k + 1, by omega, by go_num, fun j hj => ?_, hB.trans ((by assumption : Below wr.heap.size wr _).mono hB.size)⟩
          rcases Nat.lt_or_ge j k with h | h
          · exact HA.out j h
          · obtain rfl : j = k := by omega
            rw [HXX.out]; exact HQ.out
        case measure => simp [RowKit.intOf]; omega
      · have hv := Plain.idx_some (fun n => decide (n < 0) || decide ((m : Int) ≤ n)) L 0 k hkl HA.out (by rw [HXX.out]; exact HQ.out)
        have HV := Lib.hid hv
        clear hv
        go_wp2_with (go_at_call 92; refine (HS.out _ hbr hcb).mono ?_; rintro e w' ⟨rfl, hb1⟩)
        go_ret
        exact ⟨ret_int HV.out.symm, hB.trans ((by assumption : Below wr.heap.size wr _).mono hB.size)⟩
    · obtain rfl : n = k := by omega
      have hv := Plain.idx_none (fun n => decide (n < 0) || decide ((m : Int) ≤ n)) L 0 (by rw [HNN.out]; exact HA.out)
      have HV := Lib.hid hv
      clear hv
      go_wp2
      go_ret
      exact ⟨ret_int HV.out.symm, hB⟩
theorem has21_any (L : List Int) (A : Option Addr) (cap : Nat) (b : Nat) (NA : Option Addr) (m nc : Nat) (w : World) (hX : Sl w A (i64s L)) (hn : L.length ≤ maxLen)
    (hb : b < w.heap.size) (hc : w.cell? ⟨b, 1, none⟩ = some (.slice NA m nc)) (hm : m ≤ maxLen) :
    Calls Tryz.prog 91 #[.slice A L.length cap, .func (Fn.func 92) #[] #[.pointer (some ⟨b, 0, none⟩)]] w fun e w' => e = .returned (.bool (L.any (fun n => decide (n < 0) || decide ((m : Int) ≤ n)))) ∧ Below w.heap.size w w' := by
  have cS := idx30_any L A cap b NA m nc w hX hn hb hc hm
  have hge := Plain.idx_ge (fun n => decide (n < 0) || decide ((m : Int) ≤ n)) L
  obtain ⟨z, hz⟩ : ∃ z, Plain.idx (fun n => decide (n < 0) || decide ((m : Int) ≤ n)) L = z := ⟨_, rfl⟩
  rw [hz] at cS hge
  rw [← hge]
  have HS := Lib.hid cS
  clear cS hge hz hX hc
  go_enter Tryz.func91, Tryz.ntmps91
  go_wp2_with (go_at_call 124; refine HS.out.mono ?_; rintro e w' ⟨rfl, hb1⟩)
  go_ret
  exact ⟨rfl, by assumption⟩
theorem row_any (r : Row) (b : Nat) (PA NA : Option Addr) (p pc m nc : Nat) (w : World) (hX : Sl w r.1 (i64s r.2.2)) (hn : r.2.2.length ≤ maxLen)
    (hb : b < w.heap.size) (h0 : w.cell? ⟨b, 0, none⟩ = some (.slice PA p pc)) (hp : p ≤ maxLen) (hc : w.cell? ⟨b, 1, none⟩ = some (.slice NA m nc)) (hm : m ≤ maxLen) :
    Calls Tryz.prog 90 #[rowV r, .pointer (some ⟨b, 0, none⟩)] w fun e w' => e = .returned (.bool (Plain.rowWrong p m r.2.2)) ∧ Below w.heap.size w w' := by
  obtain ⟨A, cap, L⟩ := r
  have hX : Sl w A (i64s L) := hX
  have hn : L.length ≤ maxLen := hn
  have cS := has21_any L A cap b NA m nc w hX hn hb hc hm
  unfold rowV Plain.rowWrong
  dsimp only
  unfold maxLen at hn hp
  obtain ⟨z, hz⟩ : ∃ z, (L.any fun n => decide (n < 0) || decide ((m : Int) ≤ n)) = z := ⟨_, rfl⟩
  rw [hz] at cS ⊢
  obtain ⟨n, hN⟩ : ∃ n, L.length = n := ⟨_, rfl⟩
  rw [hN] at cS hn ⊢
  have HS := Lib.hid cS
  clear cS hX hN hz
  by_cases h : n = p
  · subst h
    rw [show (n == n) = true from by simp, show (!true || z) = z from rfl]
    have hne : (!((n : Int) == (n : Int))) = false := by simp
    go_enter Tryz.func90, Tryz.ntmps90
    go_wp2_with (go_at_call 91; refine HS.out.mono ?_; rintro e w' ⟨rfl, hb1⟩)
    go_ret
    exact ⟨rfl, by assumption⟩
  · rw [show (n == p) = false from by simp [h], show (!false || z) = true from rfl]
    have hne : (!((n : Int) == (p : Int))) = true := by simp; omega
    go_enter Tryz.func90, Tryz.ntmps90
    go_wp2
    go_ret
    exact ⟨rfl, Below.refl _ _⟩
end Go.Proofs.YtmiacgkidldjmaaGreatDoor
namespace Go.Proofs.YtmiacgkidldjmaaGreatDoor
open Go.RowKit Go.Lib
def rowD : Row := (none, 0, [])
set_option maxRecDepth 100000 in
set_option maxHeartbeats 1000000 in
theorem idx31_any (R : List Row) (A : Option Addr) (cap : Nat) (b : Nat) (PA : Option Addr) (p pc : Nat) (w : World) (hX : Sl w A (R.map rowV)) (hn : R.length ≤ maxLen)
    (hR : ∀ r ∈ R, Sl w r.1 (i64s r.2.2) ∧ r.2.2.length ≤ maxLen)
    (hb : b < w.heap.size) (h0 : w.cell? ⟨b, 0, none⟩ = some (.slice PA p pc)) (hp : p ≤ maxLen) (hc : w.cell? ⟨b, 1, none⟩ = some (.slice A R.length cap)) :
    Calls Tryz.prog 125 #[.slice A R.length cap, .func (Fn.func 90) #[] #[.pointer (some ⟨b, 0, none⟩)]] w fun e w' => e = .returned (.int .i64 (Plain.idx (Plain.rowWrong p R.length) (nums R))) ∧ Below w.heap.size w w' := by
  have hm := hn
  have hlen : (nums R).length = R.length := by simp [nums]
  obtain ⟨n, hN⟩ : ∃ n, R.length = n := ⟨_, rfl⟩
  have HX := Lib.hid hX
  have HC := Lib.hid hc
  have H0 := Lib.hid h0
  have HR := Lib.hid hR
  have HNN := Lib.hid hN
  have HL := Lib.hid hlen
  have HM := Lib.hid hm
  rw [hN] at hn ⊢
  unfold maxLen at hn
  clear hX hc h0 hR hN hlen hm
  go_enter Tryz.func125, Tryz.ntmps125
  go_wp2
  go_loopw [5, 8] (fun _ i wr => ∃ k : Nat, k ≤ n ∧ i = .int .i64 k ∧ (∀ j, j < k → Plain.rowWrong p n ((nums R).getD j []) = false) ∧ Below w.heap.size w wr) (fun _ i _ => n - (RowKit.intOf i).toNat)
  case atStart => exact ⟨0, Nat.zero_le _, rfl, fun j h => absurd h (by omega), Below.refl _ _⟩
  case round =>
    obtain ⟨k, hk, rfl, hall, hB⟩ := hrel
    have HA := Lib.hid hall
    clear hall
    by_cases hlt : k < n
    · have hkl : k < R.length := by rw [HNN.out]; exact hlt
      obtain ⟨ba, off, rfl, hba, hcells⟩ := (HX.out.below hB) (by rw [List.length_map]; omega)
      have c0 := hcells k (rowV R[k]) (by rw [List.getElem?_map, List.getElem?_eq_getElem hkl]; rfl)
      have hrk := HR.out R[k] (List.getElem_mem hkl)
      have hnk : (nums R).getD k [] = (R[k]).2.2 := by simp [nums, List.getD, List.getElem?_eq_getElem hkl]
      obtain ⟨r, hr⟩ : ∃ r, R[k] = r := ⟨_, rfl⟩
      rw [hr] at c0 hrk hnk
      have hbr : b < wr.heap.size := Nat.lt_of_lt_of_le hb hB.size
      have cS := row_any r b PA _ p pc n cap wr (hrk.1.below hB) hrk.2 hbr ((hB.cell (p := ⟨b, 0, none⟩) hb).trans H0.out) hp ((hB.cell (p := ⟨b, 1, none⟩) hb).trans (by rw [HC.out, HNN.out])) (by rw [← HNN.out]; exact HM.out)
      obtain ⟨q, hq⟩ : ∃ q, Plain.rowWrong p n r.2.2 = q := ⟨_, rfl⟩
      rw [hq] at cS
      rw [← hnk] at hq
      obtain ⟨v, hv⟩ : ∃ v, rowV r = v := ⟨_, rfl⟩
      rw [hv] at cS c0
      have HQ := Lib.hid hq
      have HS := Lib.hid cS
      clear hq cS hcells hnk hrk hr hv
      cases q
      · go_wp2_with (go_at_call 90; refine HS.out.mono ?_; rintro e w' ⟨rfl, hb1⟩)
        go_roundw
        case rel =>
          refine ⟨k + 1, by omega, by go_num, fun j hj => ?_, hB.trans ((by assumption : Below wr.heap.size wr _).mono hB.size)⟩
          rcases Nat.lt_or_ge j k with h | h
          · exact HA.out j h
          · obtain rfl : j = k := by omega
            exact HQ.out
        case measure => simp [RowKit.intOf]; omega
      · have hv := Plain.idx_some (Plain.rowWrong p n) (nums R) [] k (by rw [HL.out]; exact hkl) HA.out HQ.out
        have HV := Lib.hid hv
        clear hv
        go_wp2_with (go_at_call 90; refine HS.out.mono ?_; rintro e w' ⟨rfl, hb1⟩)
        go_ret
        exact ⟨ret_int HV.out.symm, hB.trans ((by assumption : Below wr.heap.size wr _).mono hB.size)⟩
    · obtain rfl : n = k := by omega
      have hv := Plain.idx_none (Plain.rowWrong p n) (nums R) [] (by rw [HL.out, HNN.out]; exact HA.out)
      have HV := Lib.hid hv
      clear hv
      go_wp2
      go_ret
      exact ⟨ret_int HV.out.symm, hB⟩
theorem has24_any (R : List Row) (A : Option Addr) (cap : Nat) (b : Nat) (PA : Option Addr) (p pc : Nat) (w : World) (hX : Sl w A (R.map rowV)) (hn : R.length ≤ maxLen)
    (hR : ∀ r ∈ R, Sl w r.1 (i64s r.2.2) ∧ r.2.2.length ≤ maxLen)
    (hb : b < w.heap.size) (h0 : w.cell? ⟨b, 0, none⟩ = some (.slice PA p pc)) (hp : p ≤ maxLen) (hc : w.cell? ⟨b, 1, none⟩ = some (.slice A R.length cap)) :
    Calls Tryz.prog 94 #[.slice A R.length cap, .func (Fn.func 90) #[] #[.pointer (some ⟨b, 0, none⟩)]] w fun e w' => e = .returned (.bool ((nums R).any (Plain.rowWrong p R.length))) ∧ Below w.heap.size w w' := by
  have cS := idx31_any R A cap b PA p pc w hX hn hR hb h0 hp hc
  have hge := Plain.idx_ge (Plain.rowWrong p R.length) (nums R)
  obtain ⟨z, hz⟩ : ∃ z, Plain.idx (Plain.rowWrong p R.length) (nums R) = z := ⟨_, rfl⟩
  rw [hz] at cS hge
  rw [← hge]
  have HS := Lib.hid cS
  clear cS hge hz hX hc h0 hR
  go_enter Tryz.func94, Tryz.ntmps94
  go_wp2_with (go_at_call 125; refine HS.out.mono ?_; rintro e w' ⟨rfl, hb1⟩)
  go_ret
  exact ⟨rfl, by assumption⟩
/-- a table in memory: its parts, its rows, which states are accepted -/
structure TabAt (w : World) (PA : Option Addr) (P : List Int) (NA : Option Addr) (R : List Row) (AA : Option Addr) (C : List Bool) : Prop where
  parts : Sl w PA (i32s P)
  rows : Sl w NA (R.map rowV)
  row : ∀ r ∈ R, Sl w r.1 (i64s r.2.2) ∧ r.2.2.length ≤ maxLen
  acc : Sl w AA (C.map Value.bool)
  lp : P.length ≤ maxLen
  lr : R.length ≤ maxLen
  la : C.length ≤ maxLen
theorem TabAt.below {w w' : World} {PA NA AA : Option Addr} {P : List Int} {R : List Row} {C : List Bool} (h : TabAt w PA P NA R AA C) (hb : Below w.heap.size w w') : TabAt w' PA P NA R AA C :=
  ⟨h.parts.below hb, h.rows.below hb, fun r hr => ⟨(h.row r hr).1.below hb, (h.row r hr).2⟩, h.acc.below hb, h.lp, h.lr, h.la⟩
def tabV (PA : Option Addr) (P : List Int) (pc : Nat) (NA : Option Addr) (R : List Row) (nc : Nat) (AA : Option Addr) (C : List Bool) (ac : Nat) : Value :=
  .agg #[.slice PA P.length pc, .slice NA R.length nc, .slice AA C.length ac]
set_option maxRecDepth 100000 in
set_option maxHeartbeats 1000000 in
theorem tright_any (PA : Option Addr) (P : List Int) (pc : Nat) (NA : Option Addr) (R : List Row) (nc : Nat) (AA : Option Addr) (C : List Bool) (ac : Nat) (w : World) (hT : TabAt w PA P NA R AA C) :
    Calls Tryz.prog 44 #[tabV PA P pc NA R nc AA C ac] w fun e w' => e = .returned (.bool (Plain.tabRight P (nums R) C.length)) ∧ Below w.heap.size w w' := by
  unfold tabV Plain.tabRight
  have cP := fun (W : World) (h : Sl W PA (i32s P)) => pright_any P PA pc W h hT.lp
  have cR := fun (W : World) (b : Nat) (h : TabAt W PA P NA R AA C) (hb : b < W.heap.size) (h0 : W.cell? ⟨b, 0, none⟩ = some (.slice PA P.length pc)) (hc : W.cell? ⟨b, 1, none⟩ = some (.slice NA R.length nc)) => has24_any R NA nc b PA P.length pc W h.rows hT.lr h.row hb h0 hT.lp hc
  obtain ⟨lp, lr, la⟩ := And.intro hT.lp (And.intro hT.lr hT.la)
  rw [show (nums R).length = R.length from by simp [nums]]
  obtain ⟨p, hp⟩ : ∃ p, P.length = p := ⟨_, rfl⟩
  obtain ⟨m, hm⟩ : ∃ m, R.length = m := ⟨_, rfl⟩
  obtain ⟨a, ha⟩ : ∃ a, C.length = a := ⟨_, rfl⟩
  obtain ⟨q1, hq1⟩ : ∃ q, Plain.partsRight P = q := ⟨_, rfl⟩
  obtain ⟨q2, hq2⟩ : ∃ q, (nums R).any (Plain.rowWrong P.length R.length) = q := ⟨_, rfl⟩
  simp only [hq1, hp, hm, ha] at cP cR lp lr la ⊢
  rw [hp, hm] at hq2
  rw [hq2]
  have HT := Lib.hid hT
  have HP := Lib.hid cP
  have HR := Lib.hid cR
  unfold maxLen at lp lr la
  have hma : ((m : Int) == (a : Int)) = (m == a) := by rw [Bool.eq_iff_iff, beq_iff_eq, beq_iff_eq]; omega
  obtain ⟨b1, e1⟩ : ∃ b, (m == a) = b := ⟨_, rfl⟩
  rw [e1] at hma
  rw [e1]
  clear hT cP cR hp hm ha hq1 e1
  go_enter Tryz.func44, Tryz.ntmps44
  go_wp2_with fail
  refine (HP.out _ (HT.out.parts.below ((Below.refl _ _).alloc (Nat.le_refl _) _))).mono ?_
  rintro e w1 ⟨rfl, hb1⟩
  have hB1 : Below w.heap.size w w1 := ((Below.refl _ _).alloc (Nat.le_refl _) _).trans (hb1.mono (by simp))
  have hlt1 : w.heap.size < w1.heap.size := Nat.lt_of_lt_of_le (by simp) hb1.size
  have k0 := (hb1.cell (p := ⟨w.heap.size, 0, none⟩) (by simp)).trans ((CellsAt.new w _ _).at_ 0 (.slice PA p pc) rfl)
  have k1 := (hb1.cell (p := ⟨w.heap.size, 1, none⟩) (by simp)).trans ((CellsAt.new w _ _).at_ 1 (.slice NA m nc) rfl)
  have k2 := (hb1.cell (p := ⟨w.heap.size, 2, none⟩) (by simp)).trans ((CellsAt.new w _ _).at_ 2 (.slice AA a ac) rfl)
  have HT1 := Lib.hid (HT.out.below hB1)
  clear HT HP hb1
  have HR2 := HR.out w1 w.heap.size HT1.out hlt1 k0 k1
  rw [hq2] at HR2
  have HR3 := Lib.hid HR2
  clear HR HR2 hq2
  cases q1
  · go_wp2
    go_ret
    exact ⟨rfl, hB1⟩
  cases b1
  · go_wp2
    go_ret
    exact ⟨rfl, hB1⟩
  by_cases n0 : 0 < m
  case neg =>
    go_wp2
    all_goals
      go_ret
      exact ⟨ret_bool (by simp <;> omega), hB1⟩
  by_cases n64 : m ≤ 64
  case neg =>
    go_wp2
    all_goals
      go_ret
      exact ⟨ret_bool (by simp <;> omega), hB1⟩
  go_wp2_with (go_at_call 94; refine HR3.out.mono ?_; rintro e w2 ⟨rfl, hb2⟩)
  go_ret
  exact ⟨ret_bool (by simp [n0, n64]), hB1.trans ((by assumption : Below w1.heap.size w1 _).mono hB1.size)⟩
end Go.Proofs.YtmiacgkidldjmaaGreatDoor
namespace Go
section
variable {P : Program} (w : World)
end
end Go
namespace Go.Proofs.YtmiacgkidldjmaaGreatDoor
open Go.RowKit Go.Lib
/-- a struct of three slices in a block of its own -/
structure Acc (B : World) (fb : Nat) (t e0 e1 e2 : TypeId) (w : World) (v0 v1 v2 : Value) (x0 x1 x2 : List Value) : Prop where
  blk : w.heap[fb]? = some (.cells #[v0, v1, v2] t (0, 0))
  o0 : w.ownsRow B.heap.size e0 1 v0 x0.length x0
  o1 : w.ownsRow B.heap.size e1 1 v1 x1.length x1
  o2 : w.ownsRow B.heap.size e2 1 v2 x2.length x2
  below : Below B.heap.size B w
  ge : B.heap.size ≤ fb
  n0 : v0.ownBlock ≠ some fb
  n1 : v1.ownBlock ≠ some fb
  n2 : v2.ownBlock ≠ some fb
  a01 : apart v0 v1
  a02 : apart v0 v2
  a12 : apart v1 v2
theorem Acc.lt {B : World} {fb : Nat} {t e0 e1 e2 : TypeId} {w : World} {v0 v1 v2 : Value} {x0 x1 x2 : List Value} (h : Acc B fb t e0 e1 e2 w v0 v1 v2 x0 x1 x2) : fb < w.heap.size := (Array.getElem?_eq_some_iff.1 h.blk).1
theorem Acc.cell {B : World} {fb : Nat} {t e0 e1 e2 : TypeId} {w : World} {v0 v1 v2 : Value} {x0 x1 x2 : List Value} (h : Acc B fb t e0 e1 e2 w v0 v1 v2 x0 x1 x2) :
    w.cell? ⟨fb, 0, none⟩ = some v0 ∧ w.cell? ⟨fb, 1, none⟩ = some v1 ∧ w.cell? ⟨fb, 2, none⟩ = some v2 :=
  ⟨by rw [cell_of_row _ _ _ _ _ _ h.blk]; rfl, by rw [cell_of_row _ _ _ _ _ _ h.blk]; rfl, by rw [cell_of_row _ _ _ _ _ _ h.blk]; rfl⟩
theorem Acc.push0 {B : World} {fb : Nat} {t e0 e1 e2 : TypeId} {w w2 : World} {v0 v1 v2 v' : Value} {x0 x1 x2 y : List Value} {o : Obj} {m : Nat} (h : Acc B fb t e0 e1 e2 w v0 v1 v2 x0 x1 x2)
    (ho : w2.ownsRow B.heap.size e0 1 v' m (x0 ++ y)) (hg : (w.alloc o).grownBy w2 v0.ownBlock) (hb : v'.ownBlock = v0.ownBlock ∨ v'.ownBlock = some (w.heap.size + 1)) :
    Acc B fb t e0 e1 e2 (w2.setCell ⟨fb, 0, none⟩ v') v' v1 v2 (x0 ++ y) x1 x2 := by
  have hlt := h.lt
  have hn' : v'.ownBlock ≠ some fb := by
    rcases hb with e | e
    · rw [e]; exact h.n0
    · rw [e]; intro e; injection e with e; omega
  have hm : m = (x0 ++ y).length := by have := ho.1; omega
  subst hm
  refine ⟨?_, ownsRow_setCell_other ho hn' _, ownsRow_setCell_other (own_push h.o1 hg h.a01) h.n1 _, ownsRow_setCell_other (own_push h.o2 hg h.a02) h.n2 _, ?_, h.ge, hn', h.n1, h.n2, h.a01.push h.o1 hb, h.a02.push h.o2 hb, h.a12⟩
  · exact heap_setCell_same _ _ _ _ _ _ (blk_grown h.blk hg h.n0)
  · exact ((h.below.alloc h.below.size o).grown hg (by simp; have := h.below.size; omega) (fun k hk => (h.o0.lt k hk).1)).setCell h.ge _
theorem Acc.push1 {B : World} {fb : Nat} {t e0 e1 e2 : TypeId} {w w2 : World} {v0 v1 v2 v' : Value} {x0 x1 x2 y : List Value} {o : Obj} {m : Nat} (h : Acc B fb t e0 e1 e2 w v0 v1 v2 x0 x1 x2)
    (ho : w2.ownsRow B.heap.size e1 1 v' m (x1 ++ y)) (hg : (w.alloc o).grownBy w2 v1.ownBlock) (hb : v'.ownBlock = v1.ownBlock ∨ v'.ownBlock = some (w.heap.size + 1)) :
    Acc B fb t e0 e1 e2 (w2.setCell ⟨fb, 1, none⟩ v') v0 v' v2 x0 (x1 ++ y) x2 := by
  have hlt := h.lt
  have hn' : v'.ownBlock ≠ some fb := by
    rcases hb with e | e
    · rw [e]; exact h.n1
    · rw [e]; intro e; injection e with e; omega
  have hm : m = (x1 ++ y).length := by have := ho.1; omega
  subst hm
  refine ⟨?_, ownsRow_setCell_other (own_push h.o0 hg h.a01.symm) h.n0 _, ownsRow_setCell_other ho hn' _, ownsRow_setCell_other (own_push h.o2 hg h.a12) h.n2 _, ?_, h.ge, h.n0, hn', h.n2, (h.a01.symm.push h.o0 hb).symm, h.a02, h.a12.push h.o2 hb⟩
  · exact heap_setCell_same _ _ _ _ _ _ (blk_grown h.blk hg h.n1)
  · exact ((h.below.alloc h.below.size o).grown hg (by simp; have := h.below.size; omega) (fun k hk => (h.o1.lt k hk).1)).setCell h.ge _
theorem Acc.push2 {B : World} {fb : Nat} {t e0 e1 e2 : TypeId} {w w2 : World} {v0 v1 v2 v' : Value} {x0 x1 x2 y : List Value} {o : Obj} {m : Nat} (h : Acc B fb t e0 e1 e2 w v0 v1 v2 x0 x1 x2)
    (ho : w2.ownsRow B.heap.size e2 1 v' m (x2 ++ y)) (hg : (w.alloc o).grownBy w2 v2.ownBlock) (hb : v'.ownBlock = v2.ownBlock ∨ v'.ownBlock = some (w.heap.size + 1)) :
    Acc B fb t e0 e1 e2 (w2.setCell ⟨fb, 2, none⟩ v') v0 v1 v' x0 x1 (x2 ++ y) := by
  have hlt := h.lt
  have hn' : v'.ownBlock ≠ some fb := by
    rcases hb with e | e
    · rw [e]; exact h.n2
    · rw [e]; intro e; injection e with e; omega
  have hm : m = (x2 ++ y).length := by have := ho.1; omega
  subst hm
  refine ⟨?_, ownsRow_setCell_other (own_push h.o0 hg h.a02.symm) h.n0 _, ownsRow_setCell_other (own_push h.o1 hg h.a12.symm) h.n1 _, ownsRow_setCell_other ho hn' _, ?_, h.ge, h.n0, h.n1, hn', h.a01, (h.a02.symm.push h.o0 hb).symm, (h.a12.symm.push h.o1 hb).symm⟩
  · exact heap_setCell_same _ _ _ _ _ _ (blk_grown h.blk hg h.n2)
  · exact ((h.below.alloc h.below.size o).grown hg (by simp; have := h.below.size; omega) (fun k hk => (h.o2.lt k hk).1)).setCell h.ge _
end Go.Proofs.YtmiacgkidldjmaaGreatDoor
namespace Go.Proofs.YtmiacgkidldjmaaGreatDoor
open Go.RowKit Go.Lib
theorem info42 : (Tryz.prog.info? 51).map (fun i => (i.zero, i.size, i.bytes)) = some (some (.int .u32 0), 1, 4) := by kernel_rfl
theorem below_cellsAt {B w : World} (hb : Below B.heap.size B w) {g : Nat} {xs : List Value} (h : CellsAt B g xs) : CellsAt w g xs := h.below hb
end Go.Proofs.YtmiacgkidldjmaaGreatDoor
namespace Go.Proofs.YtmiacgkidldjmaaGreatDoor
open Go.RowKit Go.Lib
theorem Acc.init {B w : World} {fb : Nat} {t e0 e1 e2 : TypeId} (hb : w.heap[fb]? = some (.cells #[.slice none 0 0, .slice none 0 0, .slice none 0 0] t (0, 0))) (hB : Below B.heap.size B w) (hf : B.heap.size ≤ fb) :
    Acc B fb t e0 e1 e2 w (.slice none 0 0) (.slice none 0 0) (.slice none 0 0) [] [] [] :=
  ⟨hb, World.ownsRow_nil _ _ _ _, World.ownsRow_nil _ _ _ _, World.ownsRow_nil _ _ _ _, hB, hf, by simp [Value.ownBlock], by simp [Value.ownBlock], by simp [Value.ownBlock], fun k h => by simp [Value.ownBlock] at h, fun k h => by simp [Value.ownBlock] at h, fun k h => by simp [Value.ownBlock] at h⟩
theorem Acc.set2 {B : World} {fb : Nat} {t e0 e1 e2 : TypeId} {w : World} {v0 v1 : Value} {g n c : Nat} {x0 x1 x2 : List Value} (h : Acc B fb t e0 e1 e2 w v0 v1 (.slice (some ⟨g, 0, none⟩) n c) x0 x1 x2) (j : Nat) (u : Value) :
    Acc B fb t e0 e1 e2 (w.setCell ⟨g, j, none⟩ u) v0 v1 (.slice (some ⟨g, 0, none⟩) n c) x0 x1 (x2.set j u) := by
  have hn : n = x2.length := by
    rcases h.o2.2 with ⟨h', _⟩ | ⟨g', cap', cur, h', _⟩
    · cases h'
    · simp only [Value.slice.injEq] at h'; exact h'.2.1
  subst hn
  have hs := h.o2.stored j u
  have hg : g ≠ fb := fun e => h.n2 (by rw [← e]; rfl)
  have hlt := h.lt
  refine ⟨?_, ownsRow_setCell_other h.o0 (fun e => h.a02 g e rfl) _, ownsRow_setCell_other h.o1 (fun e => h.a12 g e rfl) _, by simpa using hs.1, h.below.setCell (h.o2.lt g rfl).1 _, h.ge, h.n0, h.n1, h.n2, h.a01, h.a02, h.a12⟩
  rw [heap_setCell_other _ _ _ _ (fun e => hg e.symm), h.blk]
theorem Acc.same {B : World} {fb : Nat} {t e0 e1 e2 : TypeId} {w : World} {v0 v1 v2 : Value} {x0 x1 x2 : List Value} (h : Acc B fb t e0 e1 e2 w v0 v1 v2 x0 x1 x2) :
    Acc B fb t e0 e1 e2 (((w.setCell ⟨fb, 0, none⟩ v0).setCell ⟨fb, 1, none⟩ v1).setCell ⟨fb, 2, none⟩ v2) v0 v1 v2 x0 x1 x2 := by
  refine ⟨?_, ?_, ?_, ?_, ((h.below.setCell h.ge _).setCell h.ge _).setCell h.ge _, h.ge, h.n0, h.n1, h.n2, h.a01, h.a02, h.a12⟩
  · exact heap_setCell_same _ _ 2 _ _ _ (heap_setCell_same _ _ 1 _ _ _ (heap_setCell_same _ _ 0 _ _ _ h.blk))
  · exact ownsRow_setCell_other (ownsRow_setCell_other (ownsRow_setCell_other h.o0 h.n0 _) h.n0 _) h.n0 _
  · exact ownsRow_setCell_other (ownsRow_setCell_other (ownsRow_setCell_other h.o1 h.n1 _) h.n1 _) h.n1 _
  · exact ownsRow_setCell_other (ownsRow_setCell_other (ownsRow_setCell_other h.o2 h.n2 _) h.n2 _) h.n2 _
theorem u32s_snoc (L : List Int) (x : Int) : u32s (L ++ [x]) = u32s L ++ [.int .u32 x] := by simp [u32s]
end Go.Proofs.YtmiacgkidldjmaaGreatDoor
