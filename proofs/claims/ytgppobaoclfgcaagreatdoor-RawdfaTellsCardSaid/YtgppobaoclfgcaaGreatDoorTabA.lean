/- dfa.Right, layout.OfTable. Conditions: what each lemma says. -/
import Derived.Test.YtgppobaoclfgcaaGreatDoorTabP
import Derived.Test.YtgppobaoclfgcaaGreatDoorClassC
import Derived.Below
import Derived.BigQuiet
import Derived.Deep.QuietTactic
import Derived.Laws.AppendOwn
import Derived.Laws.OwnMore
import Derived.Laws.ResultCell
import Derived.Lib.Hide
import Derived.Lib.IndexBytes
import Derived.Lib.OthersKept
import Derived.OneCell
import Derived.WalkKit
import Derived.WalkLawsBesides
import Derived.WalkSmall
import Derived.WalkSpells
import Derived.Deep.CutBlock
import Derived.Deep.DeepCutAuto
set_option linter.unusedVariables false
set_option linter.unusedSimpArgs false
namespace Go.Proofs.YtgppobaoclfgcaaGreatDoor
open Go.RowKit Go.Lib
set_option maxRecDepth 100000 in
set_option maxHeartbeats 1000000 in
theorem pright_any (P : List Int) (A : Option Addr) (cap : Nat) (w : World) (hX : Sl w A (i32s P)) (hn : P.length ≤ maxLen) :
    Calls Tryz.prog 46 #[.slice A P.length cap] w fun e w' => e = .returned (.bool (Plain.partsRight P)) ∧ Below w.heap.size w w' := by
  unfold maxLen at hn
  have HX := Lib.hid hX
  clear hX
  obtain ⟨n, hN⟩ : ∃ n, P.length = n := ⟨_, rfl⟩
  rw [hN] at hn ⊢
  have HNN := Lib.hid hN
  by_cases h0 : n = 0
  · have hv : Plain.partsRight P = false := by unfold Plain.partsRight; rw [hN, h0]; rfl
    rw [hv]; clear hN hv
    subst h0
    go_enter Tryz.func46, Tryz.ntmps46
    go_wp2
    go_ret
    exact ⟨rfl, Below.refl _ _⟩
  by_cases h64 : n ≤ 64
  case neg =>
    have hv : Plain.partsRight P = false := by unfold Plain.partsRight; rw [hN]; simp; omega
    rw [hv]; clear hN hv
    go_enter Tryz.func46, Tryz.ntmps46
    go_wp2
    go_ret
    exact ⟨rfl, Below.refl _ _⟩
  have hne : ((n : Int) == 0) = false := by simp [h0]
  have hng : decide ((64 : Int) < (n : Int)) = false := by simp; omega
  obtain ⟨b, off, rfl, hb, hc⟩ := HX.out (by rw [i32s, List.length_map]; omega)
  have hget : ∀ k, k < n → w.cell? ⟨b, off + k, none⟩ = some (.int .i32 (P.getD k 0)) := fun k hk => hc k _ (by rw [i32s, List.getElem?_map, List.getElem?_eq_getElem (by omega)]; simp [List.getD, List.getElem?_eq_getElem (show k < P.length by omega)])
  have hg0 := hget 0 (by omega)
  rw [Nat.add_zero] at hg0
  have hgl := hget (n - 1) (by omega)
  obtain ⟨p0, hp0⟩ : ∃ x, P.getD 0 0 = x := ⟨_, rfl⟩
  obtain ⟨pl, hpl⟩ : ∃ x, P.getD (n - 1) 0 = x := ⟨_, rfl⟩
  rw [hp0] at hg0
  rw [hpl] at hgl
  have hval : Plain.partsRight P = ((p0 == 0) && decide (pl ≤ 1114111) && (List.range (n - 1)).all fun k => decide (P.getD k 0 < P.getD (k + 1) 0)) := by
    unfold Plain.partsRight; rw [hN, hp0, hpl, show (n == 0) = false from by simp [h0], show decide (n ≤ 64) = true from by simp [h64]]; rfl
  rw [hval]
  have HP0 := Lib.hid hp0
  have HPL := Lib.hid hpl
  have HG := Lib.hid hget
  clear hp0 hpl hval hN hget hc
  by_cases hz : p0 = 0
  case neg =>
    rw [show (p0 == 0) = false from by simp [hz]]
    go_enter Tryz.func46, Tryz.ntmps46
    go_wp2
    go_ret
    exact ⟨rfl, Below.refl _ _⟩
  by_cases hm : pl ≤ 1114111
  case neg =>
    rw [show decide (pl ≤ 1114111) = false from by simp; omega, Bool.and_false, Bool.false_and]
    go_enter Tryz.func46, Tryz.ntmps46
    go_wp2
    go_ret
    exact ⟨rfl, Below.refl _ _⟩
  subst hz
  rw [show decide (pl ≤ 1114111) = true from by simp; omega]
  simp only [BEq.rfl, Bool.true_and]
  go_enter Tryz.func46, Tryz.ntmps46
  go_wp2
  go_loopw [3, 30] (fun _ i wr => ∃ k : Nat, k ≤ n - 1 ∧ i = .int .i64 k ∧ (∀ j, j < k → P.getD j 0 < P.getD (j + 1) 0) ∧ Below w.heap.size w wr) (fun _ i _ => n - (RowKit.intOf i).toNat)
  case atStart => exact ⟨0, Nat.zero_le _, rfl, fun j h => absurd h (by omega), Below.refl _ _⟩
  case round =>
    obtain ⟨k, hk, rfl, hall, hB⟩ := hrel
    have HA := Lib.hid hall
    clear hall
    by_cases hlt : k < n - 1
    · have c0 := (hB.cell (p := ⟨b, off + k, none⟩) hb).trans (HG.out k (by omega))
      have c1 := (hB.cell (p := ⟨b, off + (k + 1), none⟩) hb).trans (HG.out (k + 1) (by omega))
      obtain ⟨x, hx⟩ : ∃ x, P.getD k 0 = x := ⟨_, rfl⟩
      obtain ⟨y, hy⟩ : ∃ x, P.getD (k + 1) 0 = x := ⟨_, rfl⟩
      rw [hx] at c0
      rw [hy] at c1
      have HX := Lib.hid hx
      have HY := Lib.hid hy
      clear hx hy
      by_cases hxy : x < y
      · go_wp2_with fail
        go_quiet (fail)
        go_wp2
        go_roundw
        case rel =>
          refine ⟨k + 1, by omega, by go_num, fun j hj => ?_, below_drewN hB _⟩
          rcases Nat.lt_or_ge j k with h | h
          · exact HA.out j h
          · obtain rfl : j = k := by omega
            rw [HX.out, HY.out]; exact hxy
        case measure => simp [RowKit.intOf]; omega
      · have hv : ((List.range (n - 1)).all fun k => decide (P.getD k 0 < P.getD (k + 1) 0)) = false := by
          rw [List.all_eq_false]
          exact ⟨k, List.mem_range.2 hlt, by rw [HX.out, HY.out]; simpa using hxy⟩
        have HV := Lib.hid hv
        clear hv
        go_wp2_with fail
        go_quiet (fail)
        go_wp2
        go_ret
        exact ⟨ret_bool HV.out.symm, below_drewN hB _⟩
    · obtain rfl : k = n - 1 := by omega
      have hv : ((List.range (n - 1)).all fun k => decide (P.getD k 0 < P.getD (k + 1) 0)) = true := by
        rw [List.all_eq_true]
        exact fun j hj => by simpa using HA.out j (List.mem_range.1 hj)
      have HV := Lib.hid hv
      clear hv
      go_wp2
      go_ret
      exact ⟨ret_bool HV.out.symm, hB⟩
end Go.Proofs.YtgppobaoclfgcaaGreatDoor
namespace Go.Proofs.YtgppobaoclfgcaaGreatDoor
open Go.RowKit Go.Lib
def nums (R : List Row) : List (List Int) := R.map fun r => r.2.2
theorem out_any (x : Int) (b : Nat) (NA : Option Addr) (m nc : Nat) (w : World) (hb : b < w.heap.size) (hc : w.cell? ⟨b, 1, none⟩ = some (.slice NA m nc)) (hm : m ≤ maxLen) :
    Calls Tryz.prog 45 #[.int .i64 x, .pointer (some ⟨b, 0, none⟩)] w fun e w' => e = .returned (.bool (decide (x < 0) || decide ((m : Int) ≤ x))) ∧ Below w.heap.size w w' := by
  go_enter Tryz.func45, Tryz.ntmps45
  go_wp2
  all_goals
    go_ret
    exact ⟨rfl, Below.refl _ _⟩
set_option maxRecDepth 100000 in
set_option maxHeartbeats 1000000 in
theorem idx30_any (L : List Int) (A : Option Addr) (cap : Nat) (b : Nat) (NA : Option Addr) (m nc : Nat) (w : World) (hX : Sl w A (i64s L)) (hn : L.length ≤ maxLen)
    (hb : b < w.heap.size) (hc : w.cell? ⟨b, 1, none⟩ = some (.slice NA m nc)) (hm : m ≤ maxLen) :
    Calls Tryz.prog 66 #[.slice A L.length cap, .func (Fn.func 45) #[] #[.pointer (some ⟨b, 0, none⟩)]] w fun e w' => e = .returned (.int .i64 (Plain.idx (fun n => decide (n < 0) || decide ((m : Int) ≤ n)) L)) ∧ Below w.heap.size w w' := by
  unfold maxLen at hn
  obtain ⟨n, hN⟩ : ∃ n, L.length = n := ⟨_, rfl⟩
  have HX := Lib.hid hX
  have HC := Lib.hid hc
  have HNN := Lib.hid hN
  rw [hN] at hn ⊢
  clear hX hc hN
  go_enter Tryz.func66, Tryz.ntmps66
  go_wp2
  go_loopw [5, 8] (fun _ i wr => ∃ k : Nat, k ≤ n ∧ i = .int .i64 k ∧ (∀ j, j < k → (decide (L.getD j 0 < 0) || decide ((m : Int) ≤ L.getD j 0)) = false) ∧ Below w.heap.size w wr) (fun _ i _ => n - (RowKit.intOf i).toNat)
  case atStart => exact ⟨0, Nat.zero_le _, rfl, fun j h => absurd h (by omega), Below.refl _ _⟩
  case round =>
    obtain ⟨k, hk, rfl, hall, hB⟩ := hrel
    have HA := Lib.hid hall
    clear hall
    by_cases hlt : k < n
    · have hkl : k < L.length := by rw [HNN.out]; exact hlt
      obtain ⟨ba, off, rfl, hba, hcells⟩ := (HX.out.below hB) (by rw [i64s, List.length_map]; omega)
      have c0 := hcells k (.int .i64 (L.getD k 0)) (by rw [i64s, List.getElem?_map, List.getElem?_eq_getElem hkl]; simp [List.getD, List.getElem?_eq_getElem hkl])
      have hcb := (hB.cell (p := ⟨b, 1, none⟩) hb).trans HC.out
      have hbr : b < wr.heap.size := Nat.lt_of_lt_of_le hb hB.size
      obtain ⟨x, hx⟩ : ∃ x, L.getD k 0 = x := ⟨_, rfl⟩
      rw [hx] at c0
      have HXX := Lib.hid hx
      clear hx hcells
      obtain ⟨q, hq⟩ : ∃ q, (decide (x < 0) || decide ((m : Int) ≤ x)) = q := ⟨_, rfl⟩
      have cS := fun (W : World) (h1 : b < W.heap.size) (h2 : W.cell? ⟨b, 1, none⟩ = some (.slice NA m nc)) => out_any x b NA m nc W h1 h2 hm
      rw [hq] at cS
      have HQ := Lib.hid hq
      have HS := Lib.hid cS
      clear hq cS
      cases q
      · go_wp2_with (go_at_call 45; refine (HS.out _ hbr hcb).mono ?_; rintro e w' ⟨rfl, hb1⟩)
        go_roundw
        case rel =>
          refine ⟨k + 1, by omega, by go_num, fun j hj => ?_, hB.trans ((by assumption : Below wr.heap.size wr _).mono hB.size)⟩
          rcases Nat.lt_or_ge j k with h | h
          · exact HA.out j h
          · obtain rfl : j = k := by omega
            rw [HXX.out]; exact HQ.out
        case measure => simp [RowKit.intOf]; omega
      · have hv := Plain.idx_some (fun n => decide (n < 0) || decide ((m : Int) ≤ n)) L 0 k hkl HA.out (by rw [HXX.out]; exact HQ.out)
        have HV := Lib.hid hv
        clear hv
        go_wp2_with (go_at_call 45; refine (HS.out _ hbr hcb).mono ?_; rintro e w' ⟨rfl, hb1⟩)
        go_ret
        exact ⟨ret_int HV.out.symm, hB.trans ((by assumption : Below wr.heap.size wr _).mono hB.size)⟩
    · obtain rfl : n = k := by omega
      have hv := Plain.idx_none (fun n => decide (n < 0) || decide ((m : Int) ≤ n)) L 0 (by rw [HNN.out]; exact HA.out)
      have HV := Lib.hid hv
      clear hv
      go_wp2
      go_ret
      exact ⟨ret_int HV.out.symm, hB⟩
theorem has21_any (L : List Int) (A : Option Addr) (cap : Nat) (b : Nat) (NA : Option Addr) (m nc : Nat) (w : World) (hX : Sl w A (i64s L)) (hn : L.length ≤ maxLen)
    (hb : b < w.heap.size) (hc : w.cell? ⟨b, 1, none⟩ = some (.slice NA m nc)) (hm : m ≤ maxLen) :
    Calls Tryz.prog 39 #[.slice A L.length cap, .func (Fn.func 45) #[] #[.pointer (some ⟨b, 0, none⟩)]] w fun e w' => e = .returned (.bool (L.any (fun n => decide (n < 0) || decide ((m : Int) ≤ n)))) ∧ Below w.heap.size w w' := by
  have cS := idx30_any L A cap b NA m nc w hX hn hb hc hm
  have hge := Plain.idx_ge (fun n => decide (n < 0) || decide ((m : Int) ≤ n)) L
  obtain ⟨z, hz⟩ : ∃ z, Plain.idx (fun n => decide (n < 0) || decide ((m : Int) ≤ n)) L = z := ⟨_, rfl⟩
  rw [hz] at cS hge
  rw [← hge]
  have HS := Lib.hid cS
  clear cS hge hz hX hc
  go_enter Tryz.func39, Tryz.ntmps39
  go_wp2_with (go_at_call 66; refine HS.out.mono ?_; rintro e w' ⟨rfl, hb1⟩)
  go_ret
  exact ⟨rfl, by assumption⟩
theorem row_any (r : Row) (b : Nat) (PA NA : Option Addr) (p pc m nc : Nat) (w : World) (hX : Sl w r.1 (i64s r.2.2)) (hn : r.2.2.length ≤ maxLen)
    (hb : b < w.heap.size) (h0 : w.cell? ⟨b, 0, none⟩ = some (.slice PA p pc)) (hp : p ≤ maxLen) (hc : w.cell? ⟨b, 1, none⟩ = some (.slice NA m nc)) (hm : m ≤ maxLen) :
    Calls Tryz.prog 44 #[rowV r, .pointer (some ⟨b, 0, none⟩)] w fun e w' => e = .returned (.bool (Plain.rowWrong p m r.2.2)) ∧ Below w.heap.size w w' := by
  obtain ⟨A, cap, L⟩ := r
  have hX : Sl w A (i64s L) := hX
  have hn : L.length ≤ maxLen := hn
  have cS := has21_any L A cap b NA m nc w hX hn hb hc hm
  unfold rowV Plain.rowWrong
  dsimp only
  unfold maxLen at hn hp
  obtain ⟨z, hz⟩ : ∃ z, (L.any fun n => decide (n < 0) || decide ((m : Int) ≤ n)) = z := ⟨_, rfl⟩
  rw [hz] at cS ⊢
  obtain ⟨n, hN⟩ : ∃ n, L.length = n := ⟨_, rfl⟩
  rw [hN] at cS hn ⊢
  have HS := Lib.hid cS
  clear cS hX hN hz
  by_cases h : n = p
  · subst h
    rw [show (n == n) = true from by simp, show (!true || z) = z from rfl]
    have hne : (!((n : Int) == (n : Int))) = false := by simp
    go_enter Tryz.func44, Tryz.ntmps44
    go_wp2_with (go_at_call 39; refine HS.out.mono ?_; rintro e w' ⟨rfl, hb1⟩)
    go_ret
    exact ⟨rfl, by assumption⟩
  · rw [show (n == p) = false from by simp [h], show (!false || z) = true from rfl]
    have hne : (!((n : Int) == (p : Int))) = true := by simp; omega
    go_enter Tryz.func44, Tryz.ntmps44
    go_wp2
    go_ret
    exact ⟨rfl, Below.refl _ _⟩
end Go.Proofs.YtgppobaoclfgcaaGreatDoor
namespace Go.Proofs.YtgppobaoclfgcaaGreatDoor
open Go.RowKit Go.Lib
def rowD : Row := (none, 0, [])
set_option maxRecDepth 100000 in
set_option maxHeartbeats 1000000 in
theorem idx31_any (R : List Row) (A : Option Addr) (cap : Nat) (b : Nat) (PA : Option Addr) (p pc : Nat) (w : World) (hX : Sl w A (R.map rowV)) (hn : R.length ≤ maxLen)
    (hR : ∀ r ∈ R, Sl w r.1 (i64s r.2.2) ∧ r.2.2.length ≤ maxLen)
    (hb : b < w.heap.size) (h0 : w.cell? ⟨b, 0, none⟩ = some (.slice PA p pc)) (hp : p ≤ maxLen) (hc : w.cell? ⟨b, 1, none⟩ = some (.slice A R.length cap)) :
    Calls Tryz.prog 75 #[.slice A R.length cap, .func (Fn.func 44) #[] #[.pointer (some ⟨b, 0, none⟩)]] w fun e w' => e = .returned (.int .i64 (Plain.idx (Plain.rowWrong p R.length) (nums R))) ∧ Below w.heap.size w w' := by
  have hm := hn
  have hlen : (nums R).length = R.length := by simp [nums]
  obtain ⟨n, hN⟩ : ∃ n, R.length = n := ⟨_, rfl⟩
  have HX := Lib.hid hX
  have HC := Lib.hid hc
  have H0 := Lib.hid h0
  have HR := Lib.hid hR
  have HNN := Lib.hid hN
  have HL := Lib.hid hlen
  have HM := Lib.hid hm
  rw [hN] at hn ⊢
  unfold maxLen at hn
  clear hX hc h0 hR hN hlen hm
  go_enter Tryz.func75, Tryz.ntmps75
  go_wp2
  go_loopw [5, 8] (fun _ i wr => ∃ k : Nat, k ≤ n ∧ i = .int .i64 k ∧ (∀ j, j < k → Plain.rowWrong p n ((nums R).getD j []) = false) ∧ Below w.heap.size w wr) (fun _ i _ => n - (RowKit.intOf i).toNat)
  case atStart => exact ⟨0, Nat.zero_le _, rfl, fun j h => absurd h (by omega), Below.refl _ _⟩
  case round =>
    obtain ⟨k, hk, rfl, hall, hB⟩ := hrel
    have HA := Lib.hid hall
    clear hall
    by_cases hlt : k < n
    · have hkl : k < R.length := by rw [HNN.out]; exact hlt
      obtain ⟨ba, off, rfl, hba, hcells⟩ := (HX.out.below hB) (by rw [List.length_map]; omega)
      have c0 := hcells k (rowV R[k]) (by rw [List.getElem?_map, List.getElem?_eq_getElem hkl]; rfl)
      have hrk := HR.out R[k] (List.getElem_mem hkl)
      have hnk : (nums R).getD k [] = (R[k]).2.2 := by simp [nums, List.getD, List.getElem?_eq_getElem hkl]
      obtain ⟨r, hr⟩ : ∃ r, R[k] = r := ⟨_, rfl⟩
      rw [hr] at c0 hrk hnk
      have hbr : b < wr.heap.size := Nat.lt_of_lt_of_le hb hB.size
      have cS := row_any r b PA _ p pc n cap wr (hrk.1.below hB) hrk.2 hbr ((hB.cell (p := ⟨b, 0, none⟩) hb).trans H0.out) hp ((hB.cell (p := ⟨b, 1, none⟩) hb).trans (by rw [HC.out, HNN.out])) (by rw [← HNN.out]; exact HM.out)
      obtain ⟨q, hq⟩ : ∃ q, Plain.rowWrong p n r.2.2 = q := ⟨_, rfl⟩
      rw [hq] at cS
      rw [← hnk] at hq
      obtain ⟨v, hv⟩ : ∃ v, rowV r = v := ⟨_, rfl⟩
      rw [hv] at cS c0
      have HQ := Lib.hid hq
      have HS := Lib.hid cS
      clear hq cS hcells hnk hrk hr hv
      cases q
      · go_wp2_with (go_at_call 44; refine HS.out.mono ?_; rintro e w' ⟨rfl, hb1⟩)
        go_roundw
        case rel =>
          refine ⟨k + 1, by omega, by go_num, fun j hj => ?_, hB.trans ((by assumption : Below wr.heap.size wr _).mono hB.size)⟩
          rcases Nat.lt_or_ge j k with h | h
          · exact HA.out j h
          · obtain rfl : j = k := by omega
            exact HQ.out
        case measure => simp [RowKit.intOf]; omega
      · have hv := Plain.idx_some (Plain.rowWrong p n) (nums R) [] k (by rw [HL.out]; exact hkl) HA.out HQ.out
        have HV := Lib.hid hv
        clear hv
        go_wp2_with (go_at_call 44; refine HS.out.mono ?_; rintro e w' ⟨rfl, hb1⟩)
        go_ret
        exact ⟨ret_int HV.out.symm, hB.trans ((by assumption : Below wr.heap.size wr _).mono hB.size)⟩
    · obtain rfl : n = k := by omega
      have hv := Plain.idx_none (Plain.rowWrong p n) (nums R) [] (by rw [HL.out, HNN.out]; exact HA.out)
      have HV := Lib.hid hv
      clear hv
      go_wp2
      go_ret
      exact ⟨ret_int HV.out.symm, hB⟩
theorem has24_any (R : List Row) (A : Option Addr) (cap : Nat) (b : Nat) (PA : Option Addr) (p pc : Nat) (w : World) (hX : Sl w A (R.map rowV)) (hn : R.length ≤ maxLen)
    (hR : ∀ r ∈ R, Sl w r.1 (i64s r.2.2) ∧ r.2.2.length ≤ maxLen)
    (hb : b < w.heap.size) (h0 : w.cell? ⟨b, 0, none⟩ = some (.slice PA p pc)) (hp : p ≤ maxLen) (hc : w.cell? ⟨b, 1, none⟩ = some (.slice A R.length cap)) :
    Calls Tryz.prog 47 #[.slice A R.length cap, .func (Fn.func 44) #[] #[.pointer (some ⟨b, 0, none⟩)]] w fun e w' => e = .returned (.bool ((nums R).any (Plain.rowWrong p R.length))) ∧ Below w.heap.size w w' := by
  have cS := idx31_any R A cap b PA p pc w hX hn hR hb h0 hp hc
  have hge := Plain.idx_ge (Plain.rowWrong p R.length) (nums R)
  obtain ⟨z, hz⟩ : ∃ z, Plain.idx (Plain.rowWrong p R.length) (nums R) = z := ⟨_, rfl⟩
  rw [hz] at cS hge
  rw [← hge]
  have HS := Lib.hid cS
  clear cS hge hz hX hc h0 hR
  go_enter Tryz.func47, Tryz.ntmps47
  go_wp2_with (go_at_call 75; refine HS.out.mono ?_; rintro e w' ⟨rfl, hb1⟩)
  go_ret
  exact ⟨rfl, by assumption⟩
/-- a table in memory: its parts, its rows, which states are accepted -/
structure TabAt (w : World) (PA : Option Addr) (P : List Int) (NA : Option Addr) (R : List Row) (AA : Option Addr) (C : List Bool) : Prop where
  parts : Sl w PA (i32s P)
  rows : Sl w NA (R.map rowV)
  row : ∀ r ∈ R, Sl w r.1 (i64s r.2.2) ∧ r.2.2.length ≤ maxLen
  acc : Sl w AA (C.map Value.bool)
  lp : P.length ≤ maxLen
  lr : R.length ≤ maxLen
  la : C.length ≤ maxLen
theorem TabAt.below {w w' : World} {PA NA AA : Option Addr} {P : List Int} {R : List Row} {C : List Bool} (h : TabAt w PA P NA R AA C) (hb : Below w.heap.size w w') : TabAt w' PA P NA R AA C :=
  ⟨h.parts.below hb, h.rows.below hb, fun r hr => ⟨(h.row r hr).1.below hb, (h.row r hr).2⟩, h.acc.below hb, h.lp, h.lr, h.la⟩
def tabV (PA : Option Addr) (P : List Int) (pc : Nat) (NA : Option Addr) (R : List Row) (nc : Nat) (AA : Option Addr) (C : List Bool) (ac : Nat) : Value :=
  .agg #[.slice PA P.length pc, .slice NA R.length nc, .slice AA C.length ac]
set_option maxRecDepth 100000 in
set_option maxHeartbeats 1000000 in
theorem tright_any (PA : Option Addr) (P : List Int) (pc : Nat) (NA : Option Addr) (R : List Row) (nc : Nat) (AA : Option Addr) (C : List Bool) (ac : Nat) (w : World) (hT : TabAt w PA P NA R AA C) :
    Calls Tryz.prog 21 #[tabV PA P pc NA R nc AA C ac] w fun e w' => e = .returned (.bool (Plain.tabRight P (nums R) C.length)) ∧ Below w.heap.size w w' := by
  unfold tabV Plain.tabRight
  have cP := fun (W : World) (h : Sl W PA (i32s P)) => pright_any P PA pc W h hT.lp
  have cR := fun (W : World) (b : Nat) (h : TabAt W PA P NA R AA C) (hb : b < W.heap.size) (h0 : W.cell? ⟨b, 0, none⟩ = some (.slice PA P.length pc)) (hc : W.cell? ⟨b, 1, none⟩ = some (.slice NA R.length nc)) => has24_any R NA nc b PA P.length pc W h.rows hT.lr h.row hb h0 hT.lp hc
  obtain ⟨lp, lr, la⟩ := And.intro hT.lp (And.intro hT.lr hT.la)
  rw [show (nums R).length = R.length from by simp [nums]]
  obtain ⟨p, hp⟩ : ∃ p, P.length = p := ⟨_, rfl⟩
  obtain ⟨m, hm⟩ : ∃ m, R.length = m := ⟨_, rfl⟩
  obtain ⟨a, ha⟩ : ∃ a, C.length = a := ⟨_, rfl⟩
  obtain ⟨q1, hq1⟩ : ∃ q, Plain.partsRight P = q := ⟨_, rfl⟩
  obtain ⟨q2, hq2⟩ : ∃ q, (nums R).any (Plain.rowWrong P.length R.length) = q := ⟨_, rfl⟩
  simp only [hq1, hp, hm, ha] at cP cR lp lr la ⊢
  rw [hp, hm] at hq2
  rw [hq2]
  have HT := Lib.hid hT
  have HP := Lib.hid cP
  have HR := Lib.hid cR
  unfold maxLen at lp lr la
  have hma : ((m : Int) == (a : Int)) = (m == a) := by rw [Bool.eq_iff_iff, beq_iff_eq, beq_iff_eq]; omega
  obtain ⟨b1, e1⟩ : ∃ b, (m == a) = b := ⟨_, rfl⟩
  rw [e1] at hma
  rw [e1]
  clear hT cP cR hp hm ha hq1 e1
  go_enter Tryz.func21, Tryz.ntmps21
  go_wp2_with fail
  refine (HP.out _ (HT.out.parts.below ((Below.refl _ _).alloc (Nat.le_refl _) _))).mono ?_
  rintro e w1 ⟨rfl, hb1⟩
  have hB1 : Below w.heap.size w w1 := ((Below.refl _ _).alloc (Nat.le_refl _) _).trans (hb1.mono (by simp))
  have hlt1 : w.heap.size < w1.heap.size := Nat.lt_of_lt_of_le (by simp) hb1.size
  have k0 := (hb1.cell (p := ⟨w.heap.size, 0, none⟩) (by simp)).trans ((CellsAt.new w _ _).at_ 0 (.slice PA p pc) rfl)
  have k1 := (hb1.cell (p := ⟨w.heap.size, 1, none⟩) (by simp)).trans ((CellsAt.new w _ _).at_ 1 (.slice NA m nc) rfl)
  have k2 := (hb1.cell (p := ⟨w.heap.size, 2, none⟩) (by simp)).trans ((CellsAt.new w _ _).at_ 2 (.slice AA a ac) rfl)
  have HT1 := Lib.hid (HT.out.below hB1)
  clear HT HP hb1
  have HR2 := HR.out w1 w.heap.size HT1.out hlt1 k0 k1
  rw [hq2] at HR2
  have HR3 := Lib.hid HR2
  clear HR HR2 hq2
  cases q1
  · go_wp2
    go_ret
    exact ⟨rfl, hB1⟩
  cases b1
  · go_wp2
    go_ret
    exact ⟨rfl, hB1⟩
  by_cases n0 : 0 < m
  case neg =>
    go_wp2
    all_goals
      go_ret
      exact ⟨ret_bool (by simp <;> omega), hB1⟩
  by_cases n64 : m ≤ 64
  case neg =>
    go_wp2
    all_goals
      go_ret
      exact ⟨ret_bool (by simp <;> omega), hB1⟩
  go_wp2_with (go_at_call 47; refine HR3.out.mono ?_; rintro e w2 ⟨rfl, hb2⟩)
  go_ret
  exact ⟨ret_bool (by simp [n0, n64]), hB1.trans ((by assumption : Below w1.heap.size w1 _).mono hB1.size)⟩
end Go.Proofs.YtgppobaoclfgcaaGreatDoor
namespace Go
section
variable {P : Program} (w : World)
end
end Go
namespace Go.Proofs.YtgppobaoclfgcaaGreatDoor
open Go.RowKit Go.Lib
/-- a struct of three slices in a block of its own -/
structure Acc (B : World) (fb : Nat) (t e0 e1 e2 : TypeId) (w : World) (v0 v1 v2 : Value) (x0 x1 x2 : List Value) : Prop where
  blk : w.heap[fb]? = some (.cells #[v0, v1, v2] t (0, 0))
  o0 : w.ownsRow B.heap.size e0 1 v0 x0.length x0
  o1 : w.ownsRow B.heap.size e1 1 v1 x1.length x1
  o2 : w.ownsRow B.heap.size e2 1 v2 x2.length x2
  below : Below B.heap.size B w
  ge : B.heap.size ≤ fb
  n0 : v0.ownBlock ≠ some fb
  n1 : v1.ownBlock ≠ some fb
  n2 : v2.ownBlock ≠ some fb
  a01 : apart v0 v1
  a02 : apart v0 v2
  a12 : apart v1 v2
theorem Acc.lt {B : World} {fb : Nat} {t e0 e1 e2 : TypeId} {w : World} {v0 v1 v2 : Value} {x0 x1 x2 : List Value} (h : Acc B fb t e0 e1 e2 w v0 v1 v2 x0 x1 x2) : fb < w.heap.size := (Array.getElem?_eq_some_iff.1 h.blk).1
theorem Acc.cell {B : World} {fb : Nat} {t e0 e1 e2 : TypeId} {w : World} {v0 v1 v2 : Value} {x0 x1 x2 : List Value} (h : Acc B fb t e0 e1 e2 w v0 v1 v2 x0 x1 x2) :
    w.cell? ⟨fb, 0, none⟩ = some v0 ∧ w.cell? ⟨fb, 1, none⟩ = some v1 ∧ w.cell? ⟨fb, 2, none⟩ = some v2 :=
  ⟨by rw [cell_of_row _ _ _ _ _ _ h.blk]; rfl, by rw [cell_of_row _ _ _ _ _ _ h.blk]; rfl, by rw [cell_of_row _ _ _ _ _ _ h.blk]; rfl⟩
theorem Acc.push0 {B : World} {fb : Nat} {t e0 e1 e2 : TypeId} {w w2 : World} {v0 v1 v2 v' : Value} {x0 x1 x2 y : List Value} {o : Obj} {m : Nat} (h : Acc B fb t e0 e1 e2 w v0 v1 v2 x0 x1 x2)
    (ho : w2.ownsRow B.heap.size e0 1 v' m (x0 ++ y)) (hg : (w.alloc o).grownBy w2 v0.ownBlock) (hb : v'.ownBlock = v0.ownBlock ∨ v'.ownBlock = some (w.heap.size + 1)) :
    Acc B fb t e0 e1 e2 (w2.setCell ⟨fb, 0, none⟩ v') v' v1 v2 (x0 ++ y) x1 x2 := by
  have hlt := h.lt
  have hn' : v'.ownBlock ≠ some fb := by
    rcases hb with e | e
    · rw [e]; exact h.n0
    · rw [e]; intro e; injection e with e; omega
  have hm : m = (x0 ++ y).length := by have := ho.1; omega
  subst hm
  refine ⟨?_, ownsRow_setCell_other ho hn' _, ownsRow_setCell_other (own_push h.o1 hg h.a01) h.n1 _, ownsRow_setCell_other (own_push h.o2 hg h.a02) h.n2 _, ?_, h.ge, hn', h.n1, h.n2, h.a01.push h.o1 hb, h.a02.push h.o2 hb, h.a12⟩
  · exact heap_setCell_same _ _ _ _ _ _ (blk_grown h.blk hg h.n0)
  · exact ((h.below.alloc h.below.size o).grown hg (by simp; have := h.below.size; omega) (fun k hk => (h.o0.lt k hk).1)).setCell h.ge _
theorem Acc.push1 {B : World} {fb : Nat} {t e0 e1 e2 : TypeId} {w w2 : World} {v0 v1 v2 v' : Value} {x0 x1 x2 y : List Value} {o : Obj} {m : Nat} (h : Acc B fb t e0 e1 e2 w v0 v1 v2 x0 x1 x2)
    (ho : w2.ownsRow B.heap.size e1 1 v' m (x1 ++ y)) (hg : (w.alloc o).grownBy w2 v1.ownBlock) (hb : v'.ownBlock = v1.ownBlock ∨ v'.ownBlock = some (w.heap.size + 1)) :
    Acc B fb t e0 e1 e2 (w2.setCell ⟨fb, 1, none⟩ v') v0 v' v2 x0 (x1 ++ y) x2 := by
  have hlt := h.lt
  have hn' : v'.ownBlock ≠ some fb := by
    rcases hb with e | e
    · rw [e]; exact h.n1
    · rw [e]; intro e; injection e with e; omega
  have hm : m = (x1 ++ y).length := by have := ho.1; omega
  subst hm
  refine ⟨?_, ownsRow_setCell_other (own_push h.o0 hg h.a01.symm) h.n0 _, ownsRow_setCell_other ho hn' _, ownsRow_setCell_other (own_push h.o2 hg h.a12) h.n2 _, ?_, h.ge, h.n0, hn', h.n2, (h.a01.symm.push h.o0 hb).symm, h.a02, h.a12.push h.o2 hb⟩
  · exact heap_setCell_same _ _ _ _ _ _ (blk_grown h.blk hg h.n1)
  · exact ((h.below.alloc h.below.size o).grown hg (by simp; have := h.below.size; omega) (fun k hk => (h.o1.lt k hk).1)).setCell h.ge _
theorem Acc.push2 {B : World} {fb : Nat} {t e0 e1 e2 : TypeId} {w w2 : World} {v0 v1 v2 v' : Value} {x0 x1 x2 y : List Value} {o : Obj} {m : Nat} (h : Acc B fb t e0 e1 e2 w v0 v1 v2 x0 x1 x2)
    (ho : w2.ownsRow B.heap.size e2 1 v' m (x2 ++ y)) (hg : (w.alloc o).grownBy w2 v2.ownBlock) (hb : v'.ownBlock = v2.ownBlock ∨ v'.ownBlock = some (w.heap.size + 1)) :
    Acc B fb t e0 e1 e2 (w2.setCell ⟨fb, 2, none⟩ v') v0 v1 v' x0 x1 (x2 ++ y) := by
  have hlt := h.lt
  have hn' : v'.ownBlock ≠ some fb := by
    rcases hb with e | e
    · rw [e]; exact h.n2
    · rw [e]; intro e; injection e with e; omega
  have hm : m = (x2 ++ y).length := by have := ho.1; omega
  subst hm
  refine ⟨?_, ownsRow_setCell_other (own_push h.o0 hg h.a02.symm) h.n0 _, ownsRow_setCell_other (own_push h.o1 hg h.a12.symm) h.n1 _, ownsRow_setCell_other ho hn' _, ?_, h.ge, h.n0, h.n1, hn', h.a01, (h.a02.symm.push h.o0 hb).symm, (h.a12.symm.push h.o1 hb).symm⟩
  · exact heap_setCell_same _ _ _ _ _ _ (blk_grown h.blk hg h.n2)
  · exact ((h.below.alloc h.below.size o).grown hg (by simp; have := h.below.size; omega) (fun k hk => (h.o2.lt k hk).1)).setCell h.ge _
end Go.Proofs.YtgppobaoclfgcaaGreatDoor
namespace Go.Proofs.YtgppobaoclfgcaaGreatDoor
open Go.RowKit Go.Lib
theorem info42 : (Tryz.prog.info? 38).map (fun i => (i.zero, i.size, i.bytes)) = some (some (.int .u32 0), 1, 4) := by kernel_rfl
theorem below_cellsAt {B w : World} (hb : Below B.heap.size B w) {g : Nat} {xs : List Value} (h : CellsAt B g xs) : CellsAt w g xs := h.below hb
set_option maxRecDepth 100000 in
set_option maxHeartbeats 1000000 in
theorem oftable_wrong (PA : Option Addr) (P : List Int) (pc : Nat) (NA : Option Addr) (R : List Row) (nc : Nat) (AA : Option Addr) (C : List Bool) (ac : Nat) (w : World) (hT : TabAt w PA P NA R AA C)
    (hq : Plain.tabRight P (nums R) C.length = false) :
    Calls Tryz.prog 8 #[tabV PA P pc NA R nc AA C ac] w fun e w' => e = .returned (.tuple #[.agg #[.slice none 0 0, .slice none 0 0, .slice none 0 0], .int .i64 11]) ∧ Below w.heap.size w w' := by
  have cR := fun (W : World) (h : TabAt W PA P NA R AA C) => tright_any PA P pc NA R nc AA C ac W h
  rw [hq] at cR
  unfold tabV at cR ⊢
  have HT := Lib.hid hT
  have HR := Lib.hid cR
  clear hT cR hq
  go_enter Tryz.func8, Tryz.ntmps8
  go_wp2_with fail
  refine (HR.out _ (HT.out.below (((Below.refl _ _).alloc (Nat.le_refl _) _).alloc (by simp) _))).mono ?_
  rintro e w1 ⟨rfl, hb1⟩
  have hbk : w1.heap[w.heap.size + 1]? = some (.cells #[.slice none 0 0, .slice none 0 0, .slice none 0 0] 47 (0, 0)) := by
    rw [hb1.block (w.heap.size + 1) (by simp)]
    exact heap_alloc_new2 _ _ _ _ (by simp)
  obtain ⟨c0, c1, c2⟩ := blk_cells3 hbk
  have f0 := blk_frozen hbk 0
  have f1 := blk_frozen hbk 1
  have f2 := blk_frozen hbk 2
  have HB := Lib.hid hbk
  have HB1 := Lib.hid hb1
  clear hbk hb1
  go_wp2
  have hW : (((w1.setCell ⟨w.heap.size + 1, 0, none⟩ (.slice none 0 0)).setCell ⟨w.heap.size + 1, 1, none⟩ (.slice none 0 0)).setCell ⟨w.heap.size + 1, 2, none⟩ (.slice none 0 0)).heap[w.heap.size + 1]? = some (.cells #[.slice none 0 0, .slice none 0 0, .slice none 0 0] 47 (0, 0)) :=
    heap_setCell_same _ _ 2 _ _ _ (heap_setCell_same _ _ 1 _ _ _ (heap_setCell_same _ _ 0 _ _ _ HB.out))
  obtain ⟨m0, m1, m2⟩ := blk_cells3 hW
  have hBB : Below w.heap.size w w1 := (((Below.refl _ _).alloc (Nat.le_refl _) _).alloc (by simp) _).trans (HB1.out.mono (by simp; omega))
  exact bodyPost_ret (v := .tuple #[.agg #[.slice none 0 0, .slice none 0 0, .slice none 0 0], .int .i64 11]) (by simp [results, Tryz.results8, go_sem, m0, m1, m2]) rfl ⟨rfl, ((hBB.setCell (by simp) _).setCell (by simp) _).setCell (by simp) _⟩
end Go.Proofs.YtgppobaoclfgcaaGreatDoor
namespace Go.Proofs.YtgppobaoclfgcaaGreatDoor
open Go.RowKit Go.Lib
theorem Acc.init {B w : World} {fb : Nat} {t e0 e1 e2 : TypeId} (hb : w.heap[fb]? = some (.cells #[.slice none 0 0, .slice none 0 0, .slice none 0 0] t (0, 0))) (hB : Below B.heap.size B w) (hf : B.heap.size ≤ fb) :
    Acc B fb t e0 e1 e2 w (.slice none 0 0) (.slice none 0 0) (.slice none 0 0) [] [] [] :=
  ⟨hb, World.ownsRow_nil _ _ _ _, World.ownsRow_nil _ _ _ _, World.ownsRow_nil _ _ _ _, hB, hf, by simp [Value.ownBlock], by simp [Value.ownBlock], by simp [Value.ownBlock], fun k h => by simp [Value.ownBlock] at h, fun k h => by simp [Value.ownBlock] at h, fun k h => by simp [Value.ownBlock] at h⟩
theorem Acc.set2 {B : World} {fb : Nat} {t e0 e1 e2 : TypeId} {w : World} {v0 v1 : Value} {g n c : Nat} {x0 x1 x2 : List Value} (h : Acc B fb t e0 e1 e2 w v0 v1 (.slice (some ⟨g, 0, none⟩) n c) x0 x1 x2) (j : Nat) (u : Value) :
    Acc B fb t e0 e1 e2 (w.setCell ⟨g, j, none⟩ u) v0 v1 (.slice (some ⟨g, 0, none⟩) n c) x0 x1 (x2.set j u) := by
  have hn : n = x2.length := by
    rcases h.o2.2 with ⟨h', _⟩ | ⟨g', cap', cur, h', _⟩
    · cases h'
    · simp only [Value.slice.injEq] at h'; exact h'.2.1
  subst hn
  have hs := h.o2.stored j u
  have hg : g ≠ fb := fun e => h.n2 (by rw [← e]; rfl)
  have hlt := h.lt
  refine ⟨?_, ownsRow_setCell_other h.o0 (fun e => h.a02 g e rfl) _, ownsRow_setCell_other h.o1 (fun e => h.a12 g e rfl) _, by simpa using hs.1, h.below.setCell (h.o2.lt g rfl).1 _, h.ge, h.n0, h.n1, h.n2, h.a01, h.a02, h.a12⟩
  rw [heap_setCell_other _ _ _ _ (fun e => hg e.symm), h.blk]
theorem Acc.same {B : World} {fb : Nat} {t e0 e1 e2 : TypeId} {w : World} {v0 v1 v2 : Value} {x0 x1 x2 : List Value} (h : Acc B fb t e0 e1 e2 w v0 v1 v2 x0 x1 x2) :
    Acc B fb t e0 e1 e2 (((w.setCell ⟨fb, 0, none⟩ v0).setCell ⟨fb, 1, none⟩ v1).setCell ⟨fb, 2, none⟩ v2) v0 v1 v2 x0 x1 x2 := by
  refine ⟨?_, ?_, ?_, ?_, ((h.below.setCell h.ge _).setCell h.ge _).setCell h.ge _, h.ge, h.n0, h.n1, h.n2, h.a01, h.a02, h.a12⟩
  · exact heap_setCell_same _ _ 2 _ _ _ (heap_setCell_same _ _ 1 _ _ _ (heap_setCell_same _ _ 0 _ _ _ h.blk))
  · exact ownsRow_setCell_other (ownsRow_setCell_other (ownsRow_setCell_other h.o0 h.n0 _) h.n0 _) h.n0 _
  · exact ownsRow_setCell_other (ownsRow_setCell_other (ownsRow_setCell_other h.o1 h.n1 _) h.n1 _) h.n1 _
  · exact ownsRow_setCell_other (ownsRow_setCell_other (ownsRow_setCell_other h.o2 h.n2 _) h.n2 _) h.n2 _
theorem u32s_snoc (L : List Int) (x : Int) : u32s (L ++ [x]) = u32s L ++ [.int .u32 x] := by simp [u32s]
set_option maxRecDepth 100000 in
set_option maxHeartbeats 4000000 in
theorem oftable_right (PA : Option Addr) (P : List Int) (pc : Nat) (NA : Option Addr) (R : List Row) (nc : Nat) (AA : Option Addr) (C : List Bool) (ac : Nat) (w : World) (hT : TabAt w PA P NA R AA C)
    (hq : Plain.tabRight P (nums R) C.length = true) :
    Calls Tryz.prog 8 #[tabV PA P pc NA R nc AA C ac] w fun e w' => ∃ v0 v1 v2, e = .returned (.tuple #[.agg #[v0, v1, v2], .int .i64 0]) ∧
      w'.ownsRow w.heap.size 38 1 v0 P.length (u32s P) ∧ w'.ownsRow w.heap.size 38 1 v1 (Plain.cellsOf (nums R)).length (u32s (Plain.cellsOf (nums R))) ∧ w'.ownsRow w.heap.size 38 1 v2 C.length (u32s (Plain.accsOf C)) ∧
      apart v0 v1 ∧ apart v0 v2 ∧ apart v1 v2 ∧ Below w.heap.size w w' := by
  have cR := fun (W : World) (h : TabAt W PA P NA R AA C) => tright_any PA P pc NA R nc AA C ac W h
  rw [hq] at cR
  obtain ⟨hpr, hlen, hm0, hm64, hrows⟩ := Plain.tab_right _ _ _ hq
  obtain ⟨⟨hp0, hp64, _⟩, hpb⟩ := Plain.parts_bound P hpr
  rw [show (nums R).length = R.length from by simp [nums]] at hlen hm0 hm64 hrows
  obtain ⟨i0, hi, hz0, hz1, hz2⟩ := info_parts info42
  unfold tabV at cR ⊢
  have hP := hT.parts; have hRR := hT.rows; have hRo := hT.row; have hAc := hT.acc
  obtain ⟨p, hp⟩ : ∃ p, P.length = p := ⟨_, rfl⟩
  obtain ⟨m, hm⟩ : ∃ m, R.length = m := ⟨_, rfl⟩
  have ha : C.length = m := by omega
  simp only [hp, hm, ha] at cR hp0 hp64 hm0 hm64 hpb hrows ⊢
  have HT := Lib.hid hT
  have HR := Lib.hid cR
  have HPB := Lib.hid hpb
  have HRW := Lib.hid hrows
  have HP := Lib.hid hp
  have HM := Lib.hid hm
  have HA := Lib.hid ha
  clear hT cR hq hpb hrows hp hm ha hpr hlen hP hRR hRo hAc
  go_enter Tryz.func8, Tryz.ntmps8
  go_wp2_with fail
  refine (HR.out _ (HT.out.below (((Below.refl _ _).alloc (Nat.le_refl _) _).alloc (by simp) _))).mono ?_
  rintro e w1 ⟨rfl, hb1⟩
  have hB0 : Below w.heap.size w (w.alloc (.cells #[.slice PA p pc, .slice NA m nc, .slice AA m ac] 27)) := (Below.refl _ _).alloc (Nat.le_refl _) _
  have hC0 := CellsAt.new w #[.slice PA p pc, .slice NA m nc, .slice AA m ac] 27
  have hsB : (w.alloc (.cells #[.slice PA p pc, .slice NA m nc, .slice AA m ac] 27)).heap.size = w.heap.size + 1 := by simp
  have hblk : w1.heap[w.heap.size + 1]? = some (.cells #[.slice none 0 0, .slice none 0 0, .slice none 0 0] 47 (0, 0)) := by
    rw [hb1.block (w.heap.size + 1) (by simp)]
    exact heap_alloc_new2 _ _ _ _ (by simp)
  have hBB : Below (w.alloc (.cells #[.slice PA p pc, .slice NA m nc, .slice AA m ac] 27)).heap.size (w.alloc (.cells #[.slice PA p pc, .slice NA m nc, .slice AA m ac] 27)) w1 :=
    ((Below.refl _ _).alloc (Nat.le_refl _) _).trans (hb1.mono (by simp))
  clear hb1
  generalize hBe : w.alloc (.cells #[.slice PA p pc, .slice NA m nc, .slice AA m ac] 27) = B at *
  have hI := Acc.init (e0 := 38) (e1 := 38) (e2 := 38) hblk hBB (by omega)
  have HTB := Lib.hid (HT.out.below hB0)
  have HC0 := Lib.hid hC0
  have HI := Lib.hid hI
  have HB0 := Lib.hid hB0
  have HSB := Lib.hid hsB
  clear hI hblk hBB hC0 hBe HR hB0 hsB
  have hsw1 : w.heap.size + 1 < w1.heap.size := HI.out.lt
  have k0 := (HC0.out.below HI.out.below).at_ 0 _ rfl
  have k1 := (HC0.out.below HI.out.below).at_ 1 _ rfl
  go_wp2_with fail
  go_loopw [5, 17] (fun _ i wr => ∃ (k : Nat) (v0 : Value), k ≤ p ∧ i = .int .i64 k ∧ Acc B (w.heap.size + 1) 47 38 38 38 wr v0 (.slice none 0 0) (.slice none 0 0) (u32s (P.take k)) [] []) (fun _ i _ => p - (RowKit.intOf i).toNat)
  case atStart => exact ⟨0, _, Nat.zero_le _, rfl, HI.out⟩
  case round =>
    obtain ⟨k, v0, hk, rfl, hA⟩ := hrel
    have HAc := Lib.hid hA
    clear hA
    by_cases hlt : k < p
    · have hkl : k < P.length := by rw [HP.out]; exact hlt
      obtain ⟨ba, off, rfl, hba, hcells⟩ := (HTB.out.parts.below HAc.out.below) (by rw [i32s, List.length_map]; omega)
      have c0 := hcells k (.int .i32 (P.getD k 0)) (by rw [i32s, List.getElem?_map, List.getElem?_eq_getElem hkl]; simp [List.getD, List.getElem?_eq_getElem hkl])
      obtain ⟨x0, x1⟩ := HPB.out k hlt
      have hst : u32s (P.take (k + 1)) = u32s (P.take k) ++ [.int .u32 (P.getD k 0)] := by
        rw [Plain.take_snoc P k (P.getD k 0) (by simp [List.getD, List.getElem?_eq_getElem hkl]), u32s_snoc]
      have hlen : (u32s (P.take k)).length = k := by simp [u32s]; omega
      generalize P.getD k 0 = x at *
      obtain ⟨d0, d1, d2⟩ := HAc.out.cell
      have hsz := HAc.out.lt
      have HST := Lib.hid hst
      have HLN := Lib.hid hlen
      clear hst hcells hlen
      go_wp2_with (at_builtin; refine wpList_append_own2 _ rfl (.tmp 22) (.tmp 25) _ rfl B.heap.size 38 i0 _ 1 4 Tryz.underlying45 hi hz0 hz1 hz2 rfl (by decide) v0 _ (u32s (P.take k)) rfl (HAc.out.o0.alloc _) ⟨wr.heap.size, 0, none⟩ 1 1 [.int .u32 x] rfl rfl ?c1 ?c2 ?c3 ?c4 ?c5 ?_)
      case c1 => exact CellsAt_add (CellsAt.new wr _ _)
      case c2 => intro u hu; simp only [List.mem_cons, List.not_mem_nil, or_false] at hu; subst hu; rfl
      case c3 => rw [HLN.out]; simp only [maxLen]; omega
      case c4 => rw [HLN.out]; omega
      case c5 => have := HAc.out.below.size; simp; omega
      intro v2 w2 hown2 hg2 hb2
      obtain ⟨a2, cp2, rfl⟩ := own_slice hown2
      have s0 := blk_cells3 (blk_grown HAc.out.blk hg2 HAc.out.n0)
      obtain ⟨s0, s1, s2⟩ := s0
      have f0 := blk_frozen (blk_grown HAc.out.blk hg2 HAc.out.n0) 0
      have hN := HAc.out.push0 hown2 hg2 hb2
      have HN := Lib.hid hN
      clear hN hown2 hg2 hb2
      go_wp2
      go_roundw
      case rel => exact ⟨k + 1, _, by omega, by go_num, by rw [HST.out]; exact HN.out⟩
      case measure => simp [RowKit.intOf]; omega
    · obtain rfl : p = k := by omega
      have hPt : P.take p = P := List.take_of_length_le (by rw [HP.out]; exact Nat.le_refl _)
      have hA1 := HAc.out
      rw [hPt] at hA1
      have q1 := (HC0.out.below hA1.below).at_ 1 _ rfl
      have HA1 := Lib.hid hA1
      clear hA1 hPt HAc
      go_wp2_with fail
      go_loopw [6, 7, 9, 32] (fun _ _ _ i w3 => ∃ (k : Nat) (v0 v1 v2 : Value), k ≤ m ∧ i = .int .i64 k ∧ Acc B (w.heap.size + 1) 47 38 38 38 w3 v0 v1 v2 (u32s P) (u32s (Plain.cellsOf ((nums R).take k))) (u32s (Plain.accsOf (C.take k)))) (fun _ _ _ i _ => m - (RowKit.intOf i).toNat)
      case atStart => exact ⟨0, v0, _, _, Nat.zero_le _, rfl, HA1.out⟩
      clear HA1 v0
      case round =>
        obtain ⟨k, v0, v1, v2, hk, rfl, hA⟩ := hrel
        have HAc := Lib.hid hA
        clear hA
        by_cases hlt : k < m
        · have hkl : k < R.length := by rw [HM.out]; exact hlt
          have hkc : k < C.length := by rw [HA.out]; exact hlt
          obtain ⟨ban, offn, rfl, hban, hcells⟩ := (HTB.out.rows.below HAc.out.below) (by rw [List.length_map]; omega)
          have c0 := hcells k (rowV R[k]) (by rw [List.getElem?_map, List.getElem?_eq_getElem hkl]; rfl)
          have hrow := HTB.out.row R[k] (List.getElem_mem hkl)
          have hrw := HRW.out (R[k]).2.2 (by unfold nums; exact List.mem_map.2 ⟨R[k], List.getElem_mem hkl, rfl⟩)
          have hnk : (nums R)[k]? = some (R[k]).2.2 := by simp [nums, List.getElem?_eq_getElem hkl]
          obtain ⟨⟨rA, rc, L⟩, hr⟩ : ∃ r, R[k] = r := ⟨_, rfl⟩
          rw [hr] at c0 hrow hrw hnk
          unfold rowV at c0
          dsimp only at c0 hrow hrw hnk
          obtain ⟨hL, hxs⟩ := hrw
          rw [hL] at c0
          have HL := Lib.hid hL
          have HXS := Lib.hid hxs
          have HRO := Lib.hid hrow.1
          have HNK := Lib.hid hnk
          clear hL hxs hrow hnk hcells hr
          go_wp2_with fail
          go_loopw [9, 39] (fun _ i w4 => ∃ (j : Nat) (v1' : Value), j ≤ p ∧ i = .int .i64 j ∧ Acc B (w.heap.size + 1) 47 38 38 38 w4 v0 v1' v2 (u32s P) (u32s (Plain.cellsOf ((nums R).take k) ++ (L.take j).map fun x => x * (p : Int))) (u32s (Plain.accsOf (C.take k)))) (fun _ i _ => p - (RowKit.intOf i).toNat)
          case atStart => exact ⟨0, v1, Nat.zero_le _, rfl, by simpa using HAc.out⟩
          clear HAc v1
          case round =>
            obtain ⟨j, v1, hj, rfl, hA⟩ := hrel
            have HAc := Lib.hid hA
            clear hA
            by_cases hjlt : j < p
            · have hjl : j < L.length := by rw [HL.out]; exact hjlt
              obtain ⟨bl, offl, rfl, hbl, hcl⟩ := ((HRO.out.below HAc.out.below)) (by rw [i64s, List.length_map]; omega)
              have cj := hcl j (.int .i64 L[j]) (by rw [i64s, List.getElem?_map, List.getElem?_eq_getElem hjl]; rfl)
              have hxr := HXS.out L[j] (List.getElem_mem hjl)
              have htk := Plain.take_snoc L j L[j] (List.getElem?_eq_getElem hjl)
              obtain ⟨x, hx⟩ : ∃ x, L[j] = x := ⟨_, rfl⟩
              rw [hx] at cj hxr htk
              obtain ⟨y, hy⟩ : ∃ y, x * (p : Int) = y := ⟨_, rfl⟩
              have hy0 : 0 ≤ y := by rw [← hy]; exact Int.mul_nonneg hxr.1 (by omega)
              have hy1 : y ≤ 4096 := by
                rw [← hy]
                calc x * (p : Int) ≤ 64 * 64 := Int.mul_le_mul (by omega) (by omega) (by omega) (by omega)
                  _ = 4096 := by rfl
              have hw : IntKind.i64.wrap (x * (p : Int)) = y := by
                rw [hy]; simp [IntKind.wrap, IntKind.bits, IntKind.signed]; omega
              have hst : u32s (Plain.cellsOf ((nums R).take k) ++ (L.take (j + 1)).map fun x => x * (p : Int)) = u32s (Plain.cellsOf ((nums R).take k) ++ (L.take j).map fun x => x * (p : Int)) ++ [.int .u32 y] := by
                rw [htk, List.map_append, ← List.append_assoc, List.map_singleton, hy, u32s_snoc]
              have hlen : (u32s (Plain.cellsOf ((nums R).take k) ++ (L.take j).map fun x => x * (p : Int))).length ≤ 8192 := by
                have := Plain.cellsOf_len_le ((nums R).take k) p (fun r hr => (HRW.out r (List.mem_of_mem_take hr)).1) (by omega) (by rw [List.length_take]; omega)
                simp only [u32s, List.length_map, List.length_append, List.length_take]
                omega
              obtain ⟨xs, hxs⟩ : ∃ xs, u32s (Plain.cellsOf ((nums R).take k) ++ (L.take j).map fun x => x * (p : Int)) = xs := ⟨_, rfl⟩
              rw [hxs] at hst hlen
              have hA := HAc.out
              rw [hxs] at hA
              obtain ⟨d0, d1, d2⟩ := hA.cell
              have hsz := hA.lt
              have HST := Lib.hid hst
              have HA2 := Lib.hid hA
              clear hst hcl hx hxs hA htk hy
              go_wp2_with (at_builtin; refine wpList_append_own2 _ rfl (.tmp 44) (.tmp 50) _ rfl B.heap.size 38 i0 _ 1 4 Tryz.underlying45 hi hz0 hz1 hz2 rfl (by decide) v1 _ xs rfl (HA2.out.o1.alloc _) ⟨wr.heap.size, 0, none⟩ 1 1 [.int .u32 y] rfl rfl ?c1 ?c2 ?c3 ?c4 ?c5 ?_)
              case c1 => exact CellsAt_add (CellsAt.new wr _ _)
              case c2 => intro u hu; simp only [List.mem_cons, List.not_mem_nil, or_false] at hu; subst hu; rfl
              case c3 => simp only [maxLen]; omega
              case c4 => omega
              case c5 => have := HA2.out.below.size; simp; omega
              intro v3 w5 hown2 hg2 hb2
              obtain ⟨a2, cp2, rfl⟩ := own_slice hown2
              obtain ⟨s0, s1, s2⟩ := blk_cells3 (blk_grown HA2.out.blk hg2 HA2.out.n1)
              have f1 := blk_frozen (blk_grown HA2.out.blk hg2 HA2.out.n1) 1
              have hN := HA2.out.push1 hown2 hg2 hb2
              have HN := Lib.hid hN
              clear hN hown2 hg2 hb2
              go_wp2
              go_roundw
              case rel => exact ⟨j + 1, _, by omega, by go_num, by rw [HST.out]; exact HN.out⟩
              case measure => simp [RowKit.intOf]; omega
            · obtain rfl : p = j := by omega
              have hcs : Plain.cellsOf ((nums R).take k) ++ ((L.take p).map fun x => x * (p : Int)) = Plain.cellsOf ((nums R).take (k + 1)) := by
                rw [Plain.take_snoc _ k L HNK.out, Plain.cellsOf_snoc, HL.out, show L.take p = L from List.take_of_length_le (by rw [HL.out]; exact Nat.le_refl _)]
              have hA := HAc.out
              rw [hcs] at hA
              obtain ⟨ba3, off3, rfl, hb3, hc3⟩ := HTB.out.acc (by rw [List.length_map]; omega)
              have ck := hc3 k (.bool C[k]) (by rw [List.getElem?_map, List.getElem?_eq_getElem hkc]; rfl)
              have hst : u32s (Plain.accsOf (C.take (k + 1))) = u32s (Plain.accsOf (C.take k)) ++ [.int .u32 (if C[k] then 1 else 0)] := by
                rw [Plain.take_snoc C k C[k] (List.getElem?_eq_getElem hkc), Plain.accsOf_snoc, u32s_snoc]
              have hlen : (u32s (Plain.accsOf (C.take k))).length = k := by simp [u32s, Plain.accsOf]; omega
              obtain ⟨bk, hbk⟩ : ∃ b, C[k] = b := ⟨_, rfl⟩
              rw [hbk] at ck hst
              obtain ⟨d0, d1, d2⟩ := hA.cell
              have hsz := hA.lt
              obtain ⟨xs, hxs⟩ : ∃ xs, u32s (Plain.accsOf (C.take k)) = xs := ⟨_, rfl⟩
              rw [hxs] at hA hst hlen
              have HST := Lib.hid hst
              have HA2 := Lib.hid hA
              have HLN := Lib.hid hlen
              clear hst hA hcs hxs hbk hlen hc3 HAc
              go_wp2_with (at_builtin; refine wpList_append_own2 _ rfl (.tmp 55) (.tmp 56) _ rfl B.heap.size 38 i0 _ 1 4 Tryz.underlying45 hi hz0 hz1 hz2 rfl (by decide) v2 _ xs rfl (HA2.out.o2.alloc _) ⟨wr.heap.size, 0, none⟩ 1 1 [.int .u32 0] rfl rfl ?c1 ?c2 ?c3 ?c4 ?c5 ?_)
              case c1 => exact CellsAt_add (CellsAt.new wr _ _)
              case c2 => intro u hu; simp only [List.mem_cons, List.not_mem_nil, or_false] at hu; subst hu; rfl
              case c3 => rw [HLN.out]; simp only [maxLen]; omega
              case c4 => rw [HLN.out]; omega
              case c5 => have := HA2.out.below.size; simp; omega
              intro v3 w5 hown2 hg2 hb2
              rw [HLN.out] at hown2
              obtain ⟨g, cp2, rfl, hcp, hgB, hcel⟩ := own_at hown2 (by omega)
              obtain ⟨s0, s1, s2⟩ := blk_cells3 (blk_grown HA2.out.blk hg2 HA2.out.n2)
              have f2 := blk_frozen (blk_grown HA2.out.blk hg2 HA2.out.n2) 2
              have hN := HA2.out.push2 hown2 hg2 hb2
              have HN := Lib.hid hN
              clear hN hown2 hg2 hb2 hcel
              go_upto_region 17 with fail
              generalize hw6 : w5.setCell ⟨w.heap.size + 1, 2, none⟩ (.slice (some ⟨g, 0, none⟩) (k + 1) cp2) = w6 at HN ⊢
              clear hw6 s0 s1 s2 f2 d0 d1 d2 hsz
              obtain ⟨e0, e1, e2⟩ := HN.out.cell
              have b2 := (HC0.out.below HN.out.below).at_ 2 _ rfl
              have ck6 := (HN.out.below.cell (p := ⟨ba3, off3 + k, none⟩) hb3).trans ck
              have hlx : (xs ++ [Value.int .u32 0]).length = k + 1 := by rw [List.length_append, HLN.out]; rfl
              have x6 : w6.cell? ⟨g, k, none⟩ = some (.int .u32 0) := by
                have h := HN.out.o2
                rw [hlx] at h
                rw [h.cellAt k (by omega), List.getElem?_append_right (by rw [HLN.out]; exact Nat.le_refl _), HLN.out, Nat.sub_self]
                rfl
              have f6 : w6.frozen? ⟨g, k, none⟩ = false := by
                have h := HN.out.o2
                rw [hlx] at h
                exact h.frozenAt k
              clear ck hlx
              cases bk
              · go_wp2
                go_roundw
                case rel => exact ⟨k + 1, v0, v1, _, by omega, by go_num, by rw [HST.out]; exact HN.out⟩
                case measure => simp [RowKit.intOf]; omega
              · have hN2 := HN.out.set2 k (.int .u32 1)
                have hset : (xs ++ [Value.int .u32 0]).set k (.int .u32 1) = xs ++ [.int .u32 1] := by
                  rw [List.set_append_right _ _ (by rw [HLN.out]; exact Nat.le_refl _), HLN.out, Nat.sub_self]; rfl
                rw [hset] at hN2
                have HN2 := Lib.hid hN2
                clear hN2 hset
                go_wp2
                go_roundw
                case rel => exact ⟨k + 1, v0, v1, _, by omega, by go_num, by rw [HST.out]; exact HN2.out⟩
                case measure => simp [RowKit.intOf]; omega
        · obtain rfl : m = k := by omega
          have hNt : (nums R).take m = nums R := List.take_of_length_le (by simp [nums]; rw [HM.out]; exact Nat.le_refl _)
          have hCt : C.take m = C := List.take_of_length_le (by rw [HA.out]; exact Nat.le_refl _)
          have hA := HAc.out
          rw [hNt, hCt] at hA
          obtain ⟨d0, d1, d2⟩ := hA.cell
          have f0 := blk_frozen hA.blk 0
          have f1 := blk_frozen hA.blk 1
          have f2 := blk_frozen hA.blk 2
          obtain ⟨a0, n0, rfl⟩ := own_slice hA.o0
          obtain ⟨a1, n1, rfl⟩ := own_slice hA.o1
          obtain ⟨a2, n2, rfl⟩ := own_slice hA.o2
          have HA9 := Lib.hid hA
          clear hA hNt hCt HAc
          go_wp2
          have hS := HA9.out.same
          obtain ⟨m0, m1, m2⟩ := hS.cell
          have hle : w.heap.size ≤ B.heap.size := by have := HSB.out; omega
          have l0 : (u32s P).length = p := by rw [← HP.out]; simp [u32s]
          have l1 : (u32s (Plain.cellsOf (nums R))).length = (Plain.cellsOf (nums R)).length := by simp [u32s]
          have l2 : (u32s (Plain.accsOf C)).length = m := by rw [← HA.out]; simp [u32s, Plain.accsOf]
          refine bodyPost_ret (v := .tuple #[.agg #[.slice a0 (u32s P).length n0, .slice a1 (u32s (Plain.cellsOf (nums R))).length n1, .slice a2 (u32s (Plain.accsOf C)).length n2], .int .i64 0]) (by simp [results, Tryz.results8, go_sem, m0, m1, m2]) rfl ⟨_, _, _, rfl, ?_, ?_, ?_, hS.a01, hS.a02, hS.a12, HB0.out.trans (hS.below.mono hle)⟩
          · have := own_base hS.o0 hle; rwa [l0] at this ⊢
          · have := own_base hS.o1 hle; rwa [l1] at this ⊢
          · have := own_base hS.o2 hle; rwa [l2] at this ⊢
end Go.Proofs.YtgppobaoclfgcaaGreatDoor
