/- The document's Right, of parts and of tables. Conditions: what each lemma says. -/
import Derived.Test.YtgppobaoclfgcaaGreatDoorTabH
import Derived.Deep.QuietTactic
import Derived.BigQuiet
import Derived.Deep.CutBlock
import Derived.Deep.DeepCutAuto
import Derived.Deep.RegionHeld3
set_option linter.unusedVariables false
set_option linter.unusedSimpArgs false
namespace Go.Proofs.YtgppobaoclfgcaaGreatDoor
open Go.RowKit Go.Lib
set_option maxRecDepth 100000 in
set_option maxHeartbeats 1000000 in
theorem rparts_any (P : List Int) (A : Option Addr) (cap : Nat) (w : World) (hX : Sl w A (i32s P)) (hn : P.length ≤ maxLen) :
    Calls Tryz.prog 77 #[.slice A P.length cap] w fun e w' => e = .returned (.bool (Plain.partsRight P)) ∧ Below w.heap.size w w' := by
  unfold maxLen at hn
  have HX := Lib.hid hX
  clear hX
  obtain ⟨n, hN⟩ : ∃ n, P.length = n := ⟨_, rfl⟩
  rw [hN] at hn ⊢
  have HNN := Lib.hid hN
  by_cases h0 : n = 0
  · have hv : Plain.partsRight P = false := by unfold Plain.partsRight; rw [hN, h0]; rfl
    rw [hv]; clear hN hv
    subst h0
    go_enter Tryz.func77, Tryz.ntmps77
    go_wp2
    go_ret
    exact ⟨rfl, Below.refl _ _⟩
  have d1 : decide ((n : Int) < 1) = false := decide_eq_false (by omega)
  have d1n : decide (n < 1) = false := decide_eq_false (by omega)
  have hng0 : (n == 0) = false := by simp [h0]
  by_cases h64 : n ≤ 64
  case neg =>
    have hv : Plain.partsRight P = false := by unfold Plain.partsRight; rw [hN]; simp; omega
    have d2 : decide ((n : Int) > 64) = true := decide_eq_true (by omega)
    have d2n : decide (64 < n) = true := decide_eq_true (by omega)
    rw [hv]; clear hN hv
    go_enter Tryz.func77, Tryz.ntmps77
    go_wp2_with fail
    go_ret
    exact ⟨rfl, Below.refl _ _⟩
  have d2 : decide ((n : Int) > 64) = false := decide_eq_false (by omega)
  have d2n : decide (64 < n) = false := decide_eq_false (by omega)
  obtain ⟨b, off, rfl, hb, hc⟩ := HX.out (by rw [i32s, List.length_map]; omega)
  have hget : ∀ k, k < n → w.cell? ⟨b, off + k, none⟩ = some (.int .i32 (P.getD k 0)) := fun k hk => hc k _ (by rw [i32s, List.getElem?_map, List.getElem?_eq_getElem (by omega)]; simp [List.getD, List.getElem?_eq_getElem (show k < P.length by omega)])
  have hg0 := hget 0 (by omega)
  rw [Nat.add_zero] at hg0
  have hgl := hget (n - 1) (by omega)
  obtain ⟨p0, hp0⟩ : ∃ x, P.getD 0 0 = x := ⟨_, rfl⟩
  obtain ⟨pl, hpl⟩ : ∃ x, P.getD (n - 1) 0 = x := ⟨_, rfl⟩
  rw [hp0] at hg0
  rw [hpl] at hgl
  have hval : Plain.partsRight P = ((p0 == 0) && decide (pl ≤ 1114111) && (List.range (n - 1)).all fun k => decide (P.getD k 0 < P.getD (k + 1) 0)) := by
    unfold Plain.partsRight; rw [hN, hp0, hpl, show (n == 0) = false from by simp [h0], show decide (n ≤ 64) = true from by simp [h64]]; rfl
  rw [hval]
  have HP0 := Lib.hid hp0
  have HPL := Lib.hid hpl
  have HG := Lib.hid hget
  clear hp0 hpl hval hN hget hc
  by_cases hz : p0 = 0
  case neg =>
    have dz : (p0 != 0) = true := by simpa using hz
    rw [show (p0 == 0) = false from by simp [hz]]
    go_enter Tryz.func77, Tryz.ntmps77
    go_wp2_with fail
    go_ret
    exact ⟨rfl, Below.refl _ _⟩
  by_cases hm : pl ≤ 1114111
  case neg =>
    subst hz
    have dm : decide (pl > 1114111) = true := decide_eq_true (by omega)
    have dmn : decide (1114111 < pl) = true := decide_eq_true (by omega)
    rw [show decide (pl ≤ 1114111) = false from by simp; omega, Bool.and_false, Bool.false_and]
    go_enter Tryz.func77, Tryz.ntmps77
    go_wp2_with fail
    go_ret
    exact ⟨rfl, Below.refl _ _⟩
  subst hz
  have dm : decide (pl > 1114111) = false := decide_eq_false (by omega)
  have dmn : decide (1114111 < pl) = false := decide_eq_false (by omega)
  rw [show decide (pl ≤ 1114111) = true from by simp; omega]
  simp only [BEq.rfl, Bool.true_and]
  go_enter Tryz.func77, Tryz.ntmps77
  go_wp2_with fail
  go_loopw [3] (fun i wr => ∃ k : Nat, k ≤ n - 1 ∧ i = .int .i64 ((k : Int) + 1) ∧ (∀ j, j < k → P.getD j 0 < P.getD (j + 1) 0) ∧ Below w.heap.size w wr) (fun i _ => n - (RowKit.intOf i).toNat)
  case atStart => exact ⟨0, Nat.zero_le _, rfl, fun j h => absurd h (by omega), Below.refl _ _⟩
  case round =>
    obtain ⟨k, hk, rfl, hall, hB⟩ := hrel
    have HA := Lib.hid hall
    clear hall
    by_cases hlt : k < n - 1
    · have c0 := (hB.cell (p := ⟨b, off + k, none⟩) hb).trans (HG.out k (by omega))
      have c1 := (hB.cell (p := ⟨b, off + (k + 1), none⟩) hb).trans (HG.out (k + 1) (by omega))
      have hl1 : ((k : Int) + 1) < n := by omega
      obtain ⟨x, hx⟩ : ∃ x, P.getD k 0 = x := ⟨_, rfl⟩
      obtain ⟨y, hy⟩ : ∃ x, P.getD (k + 1) 0 = x := ⟨_, rfl⟩
      rw [hx] at c0
      rw [hy] at c1
      have HX := Lib.hid hx
      have HY := Lib.hid hy
      clear hx hy
      by_cases hxy : x < y
      · have hd : decide (y ≤ x) = false := decide_eq_false (by omega)
        go_upto_region 6 with fail
        go_quiet (fail)
        go_wp2_with fail
        go_roundw
        case rel =>
          refine ⟨k + 1, by omega, by go_num, fun j hj => ?_, below_drewN hB _⟩
          rcases Nat.lt_or_ge j k with h | h
          · exact HA.out j h
          · obtain rfl : j = k := by omega
            rw [HX.out, HY.out]; exact hxy
        case measure => simp [RowKit.intOf]; omega
      · have hd : decide (y ≤ x) = true := decide_eq_true (by omega)
        have hv : ((List.range (n - 1)).all fun k => decide (P.getD k 0 < P.getD (k + 1) 0)) = false := by
          rw [List.all_eq_false]
          exact ⟨k, List.mem_range.2 hlt, by rw [HX.out, HY.out]; simpa using hxy⟩
        have HV := Lib.hid hv
        clear hv
        go_upto_region 6 with fail
        go_quiet (fail)
        go_wp2_with fail
        go_ret
        exact ⟨ret_bool HV.out.symm, below_drewN hB _⟩
    · obtain rfl : k = n - 1 := by omega
      have hl1 : ((n - 1 : Nat) : Int) + 1 = n := by omega
      have hv : ((List.range (n - 1)).all fun k => decide (P.getD k 0 < P.getD (k + 1) 0)) = true := by
        rw [List.all_eq_true]
        exact fun j hj => by simpa using HA.out j (List.mem_range.1 hj)
      have HV := Lib.hid hv
      clear hv
      go_wp2_with fail
      go_ret
      exact ⟨ret_bool HV.out.symm, hB⟩
end Go.Proofs.YtgppobaoclfgcaaGreatDoor
namespace Go.Proofs.YtgppobaoclfgcaaGreatDoor
open Go.RowKit Go.Lib
set_option maxRecDepth 100000 in
set_option maxHeartbeats 2000000 in
theorem rtab_any (PA : Option Addr) (P : List Int) (pc : Nat) (NA : Option Addr) (R : List Row) (nc : Nat) (AA : Option Addr) (C : List Bool) (ac : Nat) (w : World) (hT : TabAt w PA P NA R AA C) :
    Calls Tryz.prog 52 #[tabV PA P pc NA R nc AA C ac] w fun e w' => e = .returned (.bool (Plain.tabRight P (nums R) C.length)) ∧ Below w.heap.size w w' := by
  unfold tabV Plain.tabRight
  have cP := fun (W : World) (h : Sl W PA (i32s P)) => rparts_any P PA pc W h hT.lp
  obtain ⟨lp, lr, la⟩ := And.intro hT.lp (And.intro hT.lr hT.la)
  rw [show (nums R).length = R.length from by simp [nums]]
  obtain ⟨p, hp⟩ : ∃ p, P.length = p := ⟨_, rfl⟩
  obtain ⟨m, hm⟩ : ∃ m, R.length = m := ⟨_, rfl⟩
  obtain ⟨a, ha⟩ : ∃ a, C.length = a := ⟨_, rfl⟩
  obtain ⟨q1, hq1⟩ : ∃ q, Plain.partsRight P = q := ⟨_, rfl⟩
  obtain ⟨q2, hq2⟩ : ∃ q, (nums R).any (Plain.rowWrong P.length R.length) = q := ⟨_, rfl⟩
  simp only [hq1, hp, hm, ha] at cP lp lr la ⊢
  rw [hp, hm] at hq2
  rw [hq2]
  have HT := Lib.hid hT
  have HP := Lib.hid cP
  have HM := Lib.hid hm
  have HQ2 := Lib.hid hq2
  unfold maxLen at lp lr la
  obtain ⟨res, hres⟩ : ∃ b, (q1 && (m == a) && decide (0 < m) && decide (m ≤ 64) && !q2) = b := ⟨_, rfl⟩
  rw [hres]
  have HRES := Lib.hid hres
  clear hT cP hp hm ha hq1 hq2 hres
  go_enter Tryz.func52, Tryz.ntmps52
  go_wp2_with fail
  refine (HP.out _ (HT.out.parts.below ((Below.refl _ _).alloc (Nat.le_refl _) _))).mono ?_
  rintro e w1 ⟨rfl, hb1⟩
  have hB1 : Below w.heap.size w w1 := ((Below.refl _ _).alloc (Nat.le_refl _) _).trans (hb1.mono (by simp))
  have hlt1 : w.heap.size < w1.heap.size := Nat.lt_of_lt_of_le (by simp) hb1.size
  have k0 := (hb1.cell (p := ⟨w.heap.size, 0, none⟩) (by simp)).trans ((CellsAt.new w _ _).at_ 0 (.slice PA p pc) rfl)
  have k1 := (hb1.cell (p := ⟨w.heap.size, 1, none⟩) (by simp)).trans ((CellsAt.new w _ _).at_ 1 (.slice NA m nc) rfl)
  have k2 := (hb1.cell (p := ⟨w.heap.size, 2, none⟩) (by simp)).trans ((CellsAt.new w _ _).at_ 2 (.slice AA a ac) rfl)
  have HT1 := Lib.hid (HT.out.below hB1)
  have HB1 := Lib.hid hB1
  clear HT HP hb1 hB1
  obtain ⟨g, hg⟩ : ∃ g, w.heap.size = g := ⟨_, rfl⟩
  have HG := Lib.hid hg
  rw [hg] at hlt1 k0 k1 k2 ⊢
  clear hg
  have HK := Lib.hid (fun (w' : World) (h : Below w1.heap.size w1 w') => (⟨(h.cell (p := ⟨g, 0, none⟩) hlt1).trans k0, (h.cell (p := ⟨g, 1, none⟩) hlt1).trans k1⟩ : _ ∧ _))
  cases hq1 : q1
  · subst hq1
    have hres : res = false := by rw [← HRES.out]; simp
    subst hres; clear HRES
    go_wp2_with fail
    go_ret
    exact ⟨rfl, HB1.out⟩
  subst hq1
  by_cases hma : m = a
  case neg =>
    have e1 : ((m : Int) != (a : Int)) = true := by simp; omega
    have hres : res = false := by rw [← HRES.out, show (m == a) = false from by simp [hma]]; simp
    subst hres; clear HRES
    go_wp2_with fail
    go_ret
    exact ⟨rfl, HB1.out⟩
  subst hma
  by_cases n0 : 0 < m
  case neg =>
    have hres : res = false := by rw [← HRES.out, decide_eq_false n0]; simp
    subst hres; clear HRES
    have d1 : decide ((m : Int) < 1) = true := decide_eq_true (by omega)
    have d1n : decide (m < 1) = true := decide_eq_true (by omega)
    go_wp2_with fail
    go_ret
    exact ⟨rfl, HB1.out⟩
  have d1 : decide ((m : Int) < 1) = false := decide_eq_false (by omega)
  have d1n : decide (m < 1) = false := decide_eq_false (by omega)
  by_cases n64 : m ≤ 64
  case neg =>
    have hres : res = false := by rw [← HRES.out, decide_eq_false n64]; simp
    subst hres; clear HRES
    have d2 : decide ((m : Int) > 64) = true := decide_eq_true (by omega)
    have d2n : decide (64 < m) = true := decide_eq_true (by omega)
    go_wp2_with fail
    go_ret
    exact ⟨rfl, HB1.out⟩
  have d2 : decide ((m : Int) > 64) = false := decide_eq_false (by omega)
  have d2n : decide (64 < m) = false := decide_eq_false (by omega)
  have hr : (!q2) = res := by rw [← HRES.out, decide_eq_true n0, decide_eq_true n64]; simp
  have HR := Lib.hid hr
  obtain ⟨nb, no, hNA, hnb, hnc⟩ := HT1.out.rows (by rw [List.length_map, HM.out]; exact n0)
  subst hNA
  have HNC := Lib.hid hnc
  clear hr HRES hnc
  go_wp2_with fail
  clear k0 k1 k2
  go_loopw [3, 4] (fun i _ wr => ∃ j : Nat, j ≤ m ∧ i = .int .i64 j ∧ (∀ k, k < j → Plain.rowWrong p m ((nums R).getD k []) = false) ∧ RowKit.Below w1.heap.size w1 wr) (fun i _ _ => m - (RowKit.intOf i).toNat)
  case atStart => exact ⟨0, Nat.zero_le _, rfl, fun k hk => absurd hk (by omega), Below.refl _ _⟩
  case round =>
    obtain ⟨wo, rfl⟩ : ∃ x, x = wr := ⟨_, rfl⟩
    obtain ⟨j, hj, rfl, hall, hB⟩ := hrel
    have HB := Lib.hid hB
    have HALL := Lib.hid hall
    clear hB hall
    obtain ⟨x0, x1⟩ := HK.out wo HB.out
    have hgw : g < wo.heap.size := Nat.lt_of_lt_of_le hlt1 HB.out.size
    by_cases hlt : j < m
    · obtain ⟨r, hr⟩ : ∃ r, R[j]? = some r := ⟨_, List.getElem?_eq_getElem (by rw [HM.out]; exact hlt)⟩
      have cr := (HB.out.cell (p := ⟨nb, no + j, none⟩) hnb).trans (HNC.out j (rowV r) (by rw [List.getElem?_map, hr]; rfl))
      have hn : (nums R).getD j [] = r.2.2 := by unfold nums; rw [List.getD_eq_getElem?_getD, List.getElem?_map, hr]; rfl
      obtain ⟨hrs, hrl⟩ := HT1.out.row r (List.mem_of_getElem? hr)
      obtain ⟨RA, rc, L⟩ := r
      unfold rowV at cr
      have HCR := Lib.hid (HNC.out j (.slice RA L.length rc) (by rw [List.getElem?_map, hr]; rfl))
      dsimp only at cr hn hrs hrl
      have HN := Lib.hid hn
      have HRS := Lib.hid hrs
      obtain ⟨l, hl⟩ : ∃ l, L.length = l := ⟨_, rfl⟩
      rw [hl] at cr hrl HCR
      unfold maxLen at hrl
      have HL := Lib.hid hl
      have hin : (nums R)[j]? = some L := by unfold nums; rw [List.getElem?_map, hr]; rfl
      have HIN := Lib.hid hin
      clear hr hn hrs hl hin
      have hbad : Plain.rowWrong p m L = true → res = false := fun h => by
        rw [← HR.out, ← HQ2.out, List.any_eq_true.2 ⟨L, List.mem_of_getElem? HIN.out, h⟩]; rfl
      have HBAD := Lib.hid hbad
      clear hbad
      by_cases hlp : l = p
      case neg =>
        have e1 : ((l : Int) != (p : Int)) = true := by simp; omega
        have hres := HBAD.out (by unfold Plain.rowWrong; rw [HL.out, show (l == p) = false from by simp [hlp]]; rfl)
        have HRF := Lib.hid hres
        clear hres
        go_upto_region 6 with fail
        go_quiet (fail)
        go_wp2_with fail
        go_ret
        exact ⟨by rw [HRF.out]; rfl, below_drewN (below_then HB1.out HB.out) _⟩
      subst hlp
      go_upto_region 6 with fail
      go_quiet (fail)
      go_wp2_with fail
      go_loopw [4] (fun i wi => ∃ k : Nat, k ≤ l ∧ i = .int .i64 k ∧ (∀ x, x < k → (decide (L.getD x 0 < 0) || decide ((m : Int) ≤ L.getD x 0)) = false) ∧ RowKit.Below w1.heap.size w1 wi) (fun i _ => l - (RowKit.intOf i).toNat)
      case atStart => exact ⟨0, Nat.zero_le _, rfl, fun x hx => absurd hx (by omega), below_drewN HB.out _⟩
      case round =>
        obtain ⟨k, hk, rfl, hal2, hBi⟩ := hrel
        have HBI := Lib.hid hBi
        have HAL2 := Lib.hid hal2
        clear hBi hal2 x0 x1 cr hgw
        obtain ⟨x0, x1⟩ := HK.out wr HBI.out
        have hgw : g < wr.heap.size := Nat.lt_of_lt_of_le hlt1 HBI.out.size
        have cr := (HBI.out.cell (p := ⟨nb, no + j, none⟩) hnb).trans HCR.out
        by_cases hlk : k < l
        · obtain ⟨lb, lo, hRA, hlb, hlc⟩ := HRS.out (by unfold i64s; rw [List.length_map, HL.out]; omega)
          subst hRA
          have cx := (HBI.out.cell (p := ⟨lb, lo + k, none⟩) hlb).trans (hlc k (.int .i64 (L.getD k 0)) (by unfold i64s; rw [List.getElem?_map, List.getElem?_eq_getElem (by rw [HL.out]; exact hlk), Plain.getD_lt _ _ k (by rw [HL.out]; exact hlk)]; rfl))
          obtain ⟨x, hx⟩ : ∃ x, L.getD k 0 = x := ⟨_, rfl⟩
          rw [hx] at cx
          have HX := Lib.hid hx
          clear hx hlc
          by_cases hbx : x < 0 ∨ (m : Int) ≤ x
          · have hres := HBAD.out (by
              unfold Plain.rowWrong
              rw [List.any_eq_true.2 ⟨x, by rw [← HX.out, Plain.getD_lt _ _ k (by rw [HL.out]; exact hlk)]; exact List.getElem_mem _, by rcases hbx with h | h <;> simp [h]⟩]; simp)
            have HRF := Lib.hid hres
            clear hres
            by_cases hx0 : x < 0
            · have e1 : decide (x < 0) = true := decide_eq_true hx0
              go_upto_region 11 with fail
              go_quiet (fail)
              go_wp2_with fail
              go_ret
              exact ⟨by rw [HRF.out]; rfl, below_drewN (below_then HB1.out HBI.out) _⟩
            · have e1 : decide (x < 0) = false := decide_eq_false hx0
              have e2 : decide ((m : Int) ≤ x) = true := decide_eq_true (by omega)
              go_upto_region 11 with fail
              go_quiet (fail)
              go_wp2_with fail
              go_ret
              exact ⟨by rw [HRF.out]; rfl, below_drewN (below_then HB1.out HBI.out) _⟩
          · have e1 : decide (x < 0) = false := decide_eq_false (by omega)
            have e2 : decide ((m : Int) ≤ x) = false := decide_eq_false (by omega)
            have HE := Lib.hid (And.intro e1 e2)
            go_upto_region 11 with fail
            go_quiet (fail)
            go_wp2_with fail
            go_roundw
            case rel => exact ⟨k + 1, by omega, by go_num, fun y hy => by
              by_cases e : y = k
              · rw [e, HX.out, HE.out.1, HE.out.2]; rfl
              · exact HAL2.out y (by omega), below_drewN HBI.out _⟩
            case measure => simp [RowKit.intOf]; omega
        · obtain rfl : k = l := by omega
          have hv : Plain.rowWrong k m L = false := by
            unfold Plain.rowWrong
            rw [HL.out, show (k == k) = true from by simp, List.any_eq_false.2 (fun y hy => ?_)]
            · rfl
            · obtain ⟨z, hz, rfl⟩ := List.getElem_of_mem hy
              have := HAL2.out z (by rw [← HL.out]; exact hz)
              rw [Plain.getD_lt _ _ z hz] at this
              rw [this]; simp
          have HV := Lib.hid hv
          clear hv
          go_wp2_with fail
          go_roundw
          case rel => exact ⟨j + 1, by omega, by go_num, fun y hy => by
              by_cases e : y = j
              · rw [e, HN.out]; exact HV.out
              · exact HALL.out y (by omega), HBI.out⟩
          case measure => simp [RowKit.intOf]; omega
    · obtain rfl : j = m := by omega
      have hv : q2 = false := by
        rw [← HQ2.out, List.any_eq_false]
        intro L hL
        obtain ⟨k, hk, rfl⟩ := List.getElem_of_mem hL
        have := HALL.out k (by unfold nums at hk; rw [List.length_map, HM.out] at hk; exact hk)
        rw [Plain.getD_lt _ _ k hk] at this
        rw [this]; simp
      have hres : res = true := by rw [← HR.out, hv]; rfl
      have HRF := Lib.hid hres
      clear hv hres
      go_wp2_with fail
      go_ret
      exact ⟨by rw [HRF.out]; rfl, below_then HB1.out HB.out⟩
end Go.Proofs.YtgppobaoclfgcaaGreatDoor
