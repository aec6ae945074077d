/- the document's Index and States. Conditions: what each lemma says. -/
import Derived.Test.YtgppobaoclfgcaaGreatDoorBackT
import Derived.Test.YtgppobaoclfgcaaGreatDoorRunA
import Derived.Test.YtgppobaoclfgcaaGreatDoorMacD
import Derived.Deep.QuietTactic
import Derived.BigQuiet
import Derived.Deep.CutBlock
import Derived.Deep.DeepCutAuto
import Derived.Deep.RegionHeld3
set_option linter.unusedVariables false
set_option linter.unusedSimpArgs false
namespace Go.Proofs.YtgppobaoclfgcaaGreatDoor.Plain
open Go.Lib
/-- the next state, by a table -/
def nextS (P : List Int) (N : List (List Int)) (y : Nat) (r : Nat) : Nat := ((N.getD y []).getD (partOf P r) 0).toNat
/-- the state behind k runes -/
def stk (P : List Int) (N : List (List Int)) (L : List Rn) (k : Nat) : Nat := (L.take k).foldl (fun y x => nextS P N y x.1) 0
def states (P : List Int) (N : List (List Int)) (L : List Rn) (k : Nat) : List Int := (List.range k).map fun j => ((stk P N L j : Nat) : Int)
theorem states_snoc (P : List Int) (N : List (List Int)) (L : List Rn) (k : Nat) : states P N L (k + 1) = states P N L k ++ [((stk P N L k : Nat) : Int)] := by
  unfold states; rw [List.range_succ, List.map_append]; rfl
theorem states_len (P : List Int) (N : List (List Int)) (L : List Rn) (k : Nat) : (states P N L k).length = k := by simp [states]
theorem states_get (P : List Int) (N : List (List Int)) (L : List Rn) (k j : Nat) (h : j < k) : (states P N L k)[j]? = some ((stk P N L j : Nat) : Int) := by
  unfold states; rw [List.getElem?_map, List.getElem?_range h]; rfl
theorem stk_succ (P : List Int) (N : List (List Int)) (L : List Rn) (k : Nat) (x : Rn) (h : L[k]? = some x) : stk P N L (k + 1) = nextS P N (stk P N L k) x.1 := by
  unfold stk; rw [List.take_add_one, h, List.foldl_append]; rfl
theorem next_get (P : List Int) (N : List (List Int)) (a : Nat) (h : tabRight P N a = true) (y r : Nat) (hy : y < N.length) :
    ∃ row : List Int, N[y]? = some row ∧ row.length = P.length ∧ partOf P r < P.length ∧ row[partOf P r]? = some ((nextS P N y r : Nat) : Int) ∧ nextS P N y r < N.length := by
  obtain ⟨hp, _, _, _, hr⟩ := tab_right P N a h
  obtain ⟨⟨p0, _, _⟩, _⟩ := parts_bound P hp
  have hlt := partOf_lt P r p0
  obtain ⟨h1, h2⟩ := hr N[y] (List.getElem_mem hy)
  have hl : partOf P r < N[y].length := by omega
  have h3 := h2 _ (List.getElem_mem hl)
  have e : nextS P N y r = (N[y][partOf P r]).toNat := by
    unfold nextS
    rw [getD_lt N [] y hy, getD_lt _ 0 _ hl]
  refine ⟨N[y], List.getElem?_eq_getElem hy, h1, hlt, ?_, by rw [e]; omega⟩
  rw [List.getElem?_eq_getElem hl, e]
  congr 1
  omega
theorem stk_lt (P : List Int) (N : List (List Int)) (a : Nat) (h : tabRight P N a = true) (L : List Rn) (k : Nat) (hk : k ≤ L.length) : stk P N L k < N.length := by
  induction k with
  | zero => obtain ⟨_, _, h0, _⟩ := tab_right P N a h; exact h0
  | succ k ih =>
    have hL : k < L.length := by omega
    rw [stk_succ P N L k L[k] (List.getElem?_eq_getElem hL)]
    obtain ⟨_, _, _, _, _, h5⟩ := next_get P N a h (stk P N L k) L[k].1 (ih (by omega))
    exact h5
end Go.Proofs.YtgppobaoclfgcaaGreatDoor.Plain
namespace Go.Proofs.YtgppobaoclfgcaaGreatDoor
open Go.RowKit Go.Lib
set_option maxHeartbeats 1000000 in
theorem rindex_any (P : List Int) (A : Option Addr) (cap : Nat) (r : Nat) (w : World) (hX : Sl w A (i32s P)) (h0 : 0 < P.length) (h6 : P.length ≤ 64) :
    Calls Tryz.prog 54 #[.slice A P.length cap, .int .i32 (r : Int)] w fun e w' => e = .returned (.int .i64 ((Plain.partOf P r : Nat) : Int)) ∧ Below w.heap.size w w' := by
  obtain ⟨p, hp⟩ : ∃ p, P.length = p := ⟨_, rfl⟩
  have HP := Lib.hid hp
  have HX := Lib.hid hX
  rw [hp] at h0 h6 ⊢
  clear hp hX
  obtain ⟨b, off, hae, hb, hc⟩ := HX.out (by rw [i32s, List.length_map, HP.out]; omega)
  subst hae
  have HC := Lib.hid hc
  clear hc
  go_enter Tryz.func54, Tryz.ntmps54
  go_wp2_with fail
  go_loopw [5] (fun i wr => ∃ k : Nat, k < p ∧ i = .int .i64 k ∧ (∀ j, j < k → ¬ ((r : Int) < P.getD (j + 1) 0)) ∧ Below w.heap.size w wr) (fun i _ => p - (RowKit.intOf i).toNat)
  case atStart => exact ⟨0, h0, rfl, fun j h => absurd h (by omega), Below.refl _ _⟩
  case round =>
    obtain ⟨k, hk, rfl, hj, hB⟩ := hrel
    have HJ := Lib.hid hj
    have HB := Lib.hid hB
    clear hj hB
    have hw : IntKind.i64.wrap ((k : Int) + 1) = ((k + 1 : Nat) : Int) := by rw [IntKind.wrap_i64]; omega
    have hlen : (P.drop 1).length = p - 1 := by rw [List.length_drop, HP.out]
    have hget : ∀ i (hi : i < (P.drop 1).length), (P.drop 1)[i] = P.getD (i + 1) 0 := fun i hi => by
      have h3 : i + 1 < P.length := by rw [List.length_drop] at hi; omega
      rw [List.getElem_drop]
      simp [List.getD, List.getElem?_eq_getElem h3, Nat.add_comm]
    have HG := Lib.hid hget
    have HL := Lib.hid hlen
    clear hlen hget
    by_cases hlt : k + 1 < p
    · have hkP : k + 1 < P.length := by rw [HP.out]; exact hlt
      have c0 := (HB.out.cell (p := ⟨b, off + (k + 1), none⟩) hb).trans (HC.out (k + 1) (.int .i32 (P.getD (k + 1) 0)) (by unfold i32s; rw [List.getElem?_map, List.getElem?_eq_getElem hkP, Plain.getD_lt P 0 _ hkP]; rfl))
      obtain ⟨x, hx⟩ : ∃ x, P.getD (k + 1) 0 = x := ⟨_, rfl⟩
      rw [hx] at c0
      have HXX := Lib.hid hx
      obtain ⟨q, hq⟩ : ∃ q, k + 1 = q := ⟨_, rfl⟩
      rw [hq] at c0 hw
      have HQ := Lib.hid hq
      have hqp : q < p := by omega
      have g0 : (0 : Int) ≤ (q : Int) := by omega
      have g1 : (q : Int) < (p : Int) := by omega
      have d0 : decide ((q : Int) < (p : Int)) = true := decide_eq_true (by omega)
      have d1 : decide (q < p) = true := decide_eq_true hqp
      have lb : b < wr.heap.size := Nat.lt_of_lt_of_le hb HB.out.size
      clear hx hq
      by_cases hle : x ≤ (r : Int)
      · have e0 : decide (x ≤ (r : Int)) = true := decide_eq_true hle
        go_wp2_with fail
        go_roundw
        case rel =>
          refine ⟨k + 1, by omega, by have := HQ.out; rw [this], fun j hj => ?_, HB.out⟩
          rcases Nat.lt_or_ge j k with h | h
          · exact HJ.out j h
          · obtain rfl : j = k := by omega
            rw [HXX.out]; omega
        case measure => have := HQ.out; simp [RowKit.intOf]; omega
      · have e0 : decide (x ≤ (r : Int)) = false := decide_eq_false hle
        have hpo : Plain.partOf P r = k := by
          unfold Plain.partOf
          have hk2 : k < (P.drop 1).length := by rw [HL.out]; omega
          rw [List.findIdx_eq hk2]
          exact ⟨by rw [HG.out]; rw [HXX.out]; exact decide_eq_true (by omega), fun i hi => by rw [HG.out]; exact decide_eq_false (HJ.out i hi)⟩
        have HPO := Lib.hid hpo
        clear hpo
        go_wp2_with fail
        go_ret
        exact ⟨by rw [HPO.out]; rfl, HB.out⟩
    · have hpo : Plain.partOf P r = k := by
        unfold Plain.partOf
        have hk2 : (P.drop 1).length = k := by rw [HL.out]; omega
        rw [← hk2]
        apply List.findIdx_eq_length.2
        intro x hx
        obtain ⟨i, hi, rfl⟩ := List.getElem_of_mem hx
        rw [HG.out]
        exact decide_eq_false (HJ.out i (by omega))
      have HPO := Lib.hid hpo
      have d0 : decide (((k + 1 : Nat) : Int) < (p : Int)) = false := decide_eq_false (by omega)
      have d1 : decide (k + 1 < p) = false := decide_eq_false hlt
      clear hpo
      go_wp2_with fail
      go_ret
      exact ⟨by rw [HPO.out]; rfl, HB.out⟩
end Go.Proofs.YtgppobaoclfgcaaGreatDoor
namespace Go.Proofs.YtgppobaoclfgcaaGreatDoor
open Go.RowKit Go.Lib
theorem rcells_get (L : List Plain.Rn) (k : Nat) (x : Plain.Rn) (h : L[k]? = some x) : (L.flatMap rcells)[k * 3]? = some (.int .i32 x.1) ∧ (L.flatMap rcells)[k * 3 + 1]? = some (.int .i64 x.2.1) ∧ (L.flatMap rcells)[k * 3 + 2]? = some (.int .i64 x.2.2) := by
  induction L generalizing k with
  | nil => cases h
  | cons y t ih =>
    rw [List.flatMap_cons]
    cases k with
    | zero => cases h; exact ⟨rfl, rfl, rfl⟩
    | succ k =>
      have := ih k (by simpa using h)
      have e : ∀ j, (rcells y ++ t.flatMap rcells)[(k + 1) * 3 + j]? = (t.flatMap rcells)[k * 3 + j]? := fun j => by
        rw [List.getElem?_append_right (by simp [rcells]; omega)]
        congr 1
        simp [rcells]; omega
      exact ⟨(e 0).trans this.1, (e 1).trans this.2.1, (e 2).trans this.2.2⟩
theorem Plain.allF_len : ∀ (n p : Nat) (l : List UInt8), (Plain.allF n p l).length ≤ n
  | 0, _, _ => by simp [Plain.allF]
  | n + 1, p, l => by
    unfold Plain.allF
    split
    · simp
    · rw [List.length_cons]; have := Plain.allF_len n (p + (decodeL l).2) (l.drop (decodeL l).2); omega
def StatesRes (P : List Int) (N : List (List Int)) (a : Nat) (L : List Plain.Rn) (w : World) (e : Ending) (w' : World) : Prop :=
  Below w.heap.size w w' ∧ (Plain.tabRight P N a = true → ∃ g c, e = .returned (.slice (some ⟨g, 0, none⟩) (L.length + 1) c) ∧ CellsAt w' g (i64s (Plain.states P N L (L.length + 1)))) ∧ (Plain.tabRight P N a = false → e = .returned (.slice none 0 0))
set_option maxRecDepth 1000000 in
set_option maxHeartbeats 8000000 in
theorem rstates_any (PA : Option Addr) (P : List Int) (pc : Nat) (NA : Option Addr) (R : List Row) (nc : Nat) (AA : Option Addr) (C : List Bool) (ac : Nat) (s : ByteArray) (w : World) (hT : TabAt w PA P NA R AA C) (hs : s.size ≤ 1048576) (L : List Plain.Rn) (hL : Plain.allA 0 s.data.toList = L) :
    Calls Tryz.prog 27 #[tabV PA P pc NA R nc AA C ac, .string s] w (StatesRes P (nums R) C.length L w) := by
  have hLn : L.length ≤ 1048576 := by
    rw [← hL]; unfold Plain.allA
    have := Plain.allF_len s.data.toList.length 0 s.data.toList
    have h2 : s.data.toList.length = s.size := by simp
    omega
  obtain ⟨p, hp⟩ : ∃ x, P.length = x := ⟨_, rfl⟩
  obtain ⟨m, hm⟩ : ∃ x, R.length = x := ⟨_, rfl⟩
  obtain ⟨a, ha⟩ : ∃ x, C.length = x := ⟨_, rfl⟩
  obtain ⟨n, hn⟩ : ∃ x, L.length = x := ⟨_, rfl⟩
  have HT := Lib.hid hT
  have HP := Lib.hid hp
  have HM := Lib.hid hm
  have HA := Lib.hid ha
  have HNN := Lib.hid hn
  have HL := Lib.hid hL
  have hnm : (nums R).length = m := by rw [← hm]; simp [nums]
  have HNM := Lib.hid hnm
  have hT0 := hT.below (below_alloc (Below.refl w.heap.size w) (.cells #[.slice PA p pc, .slice NA m nc, .slice AA a ac] 85))
  have cT := rtab_any PA P pc NA R nc AA C ac _ hT0
  have h0 := (SepB.nil w).new #[.slice PA p pc, .slice NA m nc, .slice AA a ac] 85 _
  unfold tabV at cT ⊢
  rw [hp, hm, ha] at cT ⊢
  rw [hn] at hLn
  obtain ⟨w0, hw0⟩ : ∃ v, w.alloc (.cells #[.slice PA p pc, .slice NA m nc, .slice AA a ac] 85) = v := ⟨_, rfl⟩
  rw [hw0] at cT h0 hT0
  obtain ⟨fb, hfb⟩ : ∃ x, w.heap.size = x := ⟨_, rfl⟩
  rw [hfb] at h0
  have HS0 := Lib.hid h0
  have HCT := Lib.hid cT
  have HFB := Lib.hid hfb
  have HW0 := Lib.hid hw0
  have hbx := (h0.box 0 _ _ _ rfl).2
  obtain ⟨k0, k1, k2⟩ := blk_cells3 hbx
  have lfb := lt_of_some hbx
  clear hT hp hm ha hn hL hnm hT0 cT h0 hw0 hfb hbx
  obtain ⟨tr, htr⟩ : ∃ t, Plain.tabRight P (nums R) a = t := ⟨_, rfl⟩
  rw [htr] at HCT
  have HTR := Lib.hid htr
  clear htr
  obtain ⟨i3, hi3, z0, z1, z2⟩ := info_parts info3
  cases tr
  · go_enter Tryz.func27, Tryz.ntmps27
    go_upto_region 1 with fail
    rw [HW0.out, HFB.out]
    go_wp2_with (go_at_call 52; refine HCT.out.mono ?_; rintro e w5 ⟨rfl, hb5⟩; have HS5 := Lib.hid (HS0.out.below hb5); clear hb5)
    go_ret
    exact ⟨HS5.out.2, (fun h => by rw [HTR.out] at h; cases h), fun _ => rfl⟩
  go_enter Tryz.func27, Tryz.ntmps27
  go_upto_region 1 with fail
  rw [HW0.out, HFB.out]
  go_upto_region 3 with (go_at_call 52; refine HCT.out.mono ?_; rintro e w1 ⟨rfl, hb1⟩)
  have HS1 := Lib.hid (HS0.out.below hb1)
  clear hb1 k0 k1 k2 lfb HCT
  have h2 := cons_own HS1.out (below_alloc (Below.refl w1.heap.size w1) (.cells #[.int .i64 0] 3)) (own_one (w := w1.alloc (.cells #[.int .i64 0] 3)) (g := w1.heap.size) (e := 3) (x := .int .i64 0) (heap_alloc_new2 _ _ _ _ rfl) (Nat.le_refl _))
  have HS2 := Lib.hid h2
  clear h2
  go_upto_region 4 with fail
  obtain ⟨w2, hw2⟩ : ∃ v, w1.alloc (.cells #[.int .i64 0] 3) = v := ⟨_, rfl⟩
  obtain ⟨g1, hg1⟩ : ∃ x, w1.heap.size = x := ⟨_, rfl⟩
  rw [hw2, hg1] at HS2
  rw [hw2, hg1]
  clear hw2 hg1 HS1
  have HCR := Lib.hid (rall_walk s w2 hs)
  go_upto_region 5 with (go_at_call 53; refine HCR.out.mono ?_; rintro e w3 ⟨lv, rfl, hown3, hb3⟩)
  rw [HL.out, HNN.out] at hown3
  have hS3 := cons_own HS2.out hb3 hown3
  obtain ⟨lp, lc, hlv⟩ := own_form hown3
  subst hlv
  have HS3 := Lib.hid (show SepB w w3 [rowT 116 3 (.slice lp n lc) n (L.flatMap rcells), rowT 3 1 (.slice (some ⟨g1, 0, none⟩) 1 1) 1 (i64s (Plain.states P (nums R) L 1)), boxT fb #[.slice PA p pc, .slice NA m nc, .slice AA a ac] 85] from hS3)
  clear hown3 hb3 hS3 HS2 HCR
  go_wp2_with fail
  go_loopw [5, 7] (fun u i wr => ∃ (k : Nat), k ≤ n ∧ i = .int .i64 k ∧ SepB w wr [rowT 116 3 (.slice lp n lc) n (L.flatMap rcells), rowT 3 1 u (k + 1) (i64s (Plain.states P (nums R) L (k + 1))), boxT fb #[.slice PA p pc, .slice NA m nc, .slice AA a ac] 85]) (fun _ i _ => n - (RowKit.intOf i).toNat)
  case atStart => exact ⟨0, Nat.zero_le _, rfl, HS3.out⟩
  clear HS3
  case round =>
    obtain ⟨k, hk, rfl, hS⟩ := hrel
    have HS := Lib.hid hS
    obtain ⟨up, uc, hue⟩ := own_form (hS.row 1 _ _ _ _ _ rfl)
    subst hue
    clear hS
    by_cases hlt : k < n
    · have hkL : k < L.length := by rw [HNN.out]; exact hlt
      obtain ⟨gl, lc2, hle, _, _, hlcs⟩ := own_at (HS.out.row 0 _ _ _ _ _ rfl) (by omega)
      injection hle with hle _ hlc
      subst hle
      subst hlc
      obtain ⟨go, uc2, hue, _, _, hucs⟩ := own_at (HS.out.row 1 _ _ _ _ _ rfl) (by omega)
      injection hue with hue _ huc
      subst hue
      subst huc
      obtain ⟨x, hx⟩ : ∃ x, L[k]? = some x := ⟨_, List.getElem?_eq_getElem hkL⟩
      obtain ⟨q0, _, _⟩ := rcells_get L k x hx
      obtain ⟨y, hy⟩ : ∃ y, Plain.stk P (nums R) L k = y := ⟨_, rfl⟩
      have hyl : y < m := by rw [← hy, ← HNM.out]; exact Plain.stk_lt P (nums R) a HTR.out L k (by omega)
      obtain ⟨row, r1, r2, r3, r4, r5⟩ := Plain.next_get P (nums R) a HTR.out y x.1 (by rw [HNM.out]; exact hyl)
      obtain ⟨zz, hzz⟩ : ∃ z, Plain.nextS P (nums R) y x.1 = z := ⟨_, rfl⟩
      have hst : Plain.states P (nums R) L (k + 1 + 1) = Plain.states P (nums R) L (k + 1) ++ [(zz : Int)] := by rw [Plain.states_snoc P (nums R) L (k + 1), Plain.stk_succ P (nums R) L k x hx, hy, hzz]
      rw [hzz] at r4 r5
      have hyR : y < R.length := by rw [HM.out]; exact hyl
      obtain ⟨rw1, hrw⟩ : ∃ r : Row, R[y] = r := ⟨_, rfl⟩
      have hrow : rw1.2.2 = row := by
        have h1 : (nums R)[y]? = some (R[y]).2.2 := by unfold nums; rw [List.getElem?_map, List.getElem?_eq_getElem hyR]; rfl
        rw [r1, hrw] at h1
        exact (Option.some.inj h1).symm
      obtain ⟨ra, rc, rT⟩ := rw1
      have hrow : rT = row := hrow
      subst hrow
      obtain ⟨hrs, hrm⟩ := HT.out.row _ (List.getElem_mem hyR)
      rw [hrw] at hrs hrm
      obtain ⟨pi, hpi⟩ : ∃ x1, Plain.partOf P x.1 = x1 := ⟨_, rfl⟩
      rw [hpi] at r3 r4
      have r2' : rT.length = p := r2.trans HP.out
      have r3' : pi < p := by have := HP.out; omega
      obtain ⟨nb, no, hne, hnb, hnc⟩ := HT.out.rows (by rw [List.length_map, HM.out]; omega)
      obtain ⟨rb2, ro, hre, hrb, hrcs⟩ := hrs (by simp only [i64s, List.length_map]; omega)
      have hre : ra = some ⟨rb2, ro, none⟩ := hre
      subst hre
      have hPS := HT.out.parts
      subst hne
      have h64 : P.length ≤ 64 ∧ 0 < P.length := by
        have h1 := (Plain.tab_right P (nums R) a HTR.out).1
        have h2 := (Plain.parts_bound P h1).1
        exact ⟨h2.2.1, h2.1⟩
      have c3 := hnc y (.slice (some ⟨rb2, ro, none⟩) p rc) (by rw [List.getElem?_map, List.getElem?_eq_getElem hyR, hrw]; show some (Value.slice (some ⟨rb2, ro, none⟩) rT.length rc) = _; rw [r2'])
      have c5 := hrcs pi (.int .i64 (zz : Int)) (by simp only [i64s]; rw [List.getElem?_map, r4]; rfl)
      have HST := Lib.hid hst
      have HPI := Lib.hid hpi
      have HC3 := Lib.hid (fun (w' : World) (hb : Below w.heap.size w w') => (hb.cell (p := ⟨nb, no + y, none⟩) hnb).trans c3)
      have HC5 := Lib.hid (fun (w' : World) (hb : Below w.heap.size w w') => (hb.cell (p := ⟨rb2, ro + pi, none⟩) hrb).trans c5)
      have HPS := Lib.hid (fun (w' : World) (hb : Below w.heap.size w w') => hPS.below hb)
      have c2 := hucs.2 k (.int .i64 (y : Int)) (by unfold i64s; rw [List.getElem?_map, Plain.states_get _ _ _ _ _ (by omega), hy]; rfl)
      have c4 := hlcs.2 (k * 3) _ q0
      have lgo := hucs.1
      have lgl := hlcs.1
      have HC2 := Lib.hid c2
      have HC4 := Lib.hid c4
      have HFX := Lib.hid (HS.out.box 2 _ _ _ rfl).2
      obtain ⟨rn, hrn⟩ : ∃ r, x.1 = r := ⟨_, rfl⟩
      rw [hrn] at HC4 HPI
      have d0 : decide ((k : Int) < (n : Int)) = true := decide_eq_true (by omega)
      have d1 : decide (k < n) = true := decide_eq_true hlt
      have g0 : (0 : Int) ≤ (k : Int) := by omega
      have g1 : (k : Int) < (n : Int) := by omega
      have g1b : (k : Int) < (k : Int) + 1 := by omega
      have g1c : (k : Int) < ((k + 1 : Nat) : Int) := by omega
      have g2 : (0 : Int) ≤ (y : Int) := by omega
      have g3 : (y : Int) < (m : Int) := by omega
      have g4 : (0 : Int) ≤ (pi : Int) := by omega
      have g5 : (pi : Int) < (p : Int) := by omega
      have H64 := Lib.hid h64
      clear hx q0 hy r1 r2 r3 r4 r5 hzz hst hrw hrm hpi r2' hnc hrcs hPS c3 c5 c2 c4 hucs hlcs hrn h64
      go_upto_region 8 with fail
      have hSx := HS.out.drew
      obtain ⟨wd, hwd⟩ : ∃ v, World.drew wr = v := ⟨_, rfl⟩
      have hbd : Below wr.heap.size wr wd := by rw [← hwd]; exact Below.drew (Below.refl _ _)
      rw [hwd] at hSx
      have HWD := Lib.hid hwd
      have HSd := Lib.hid hSx
      have c2 := (hbd.cell (p := ⟨go, k, none⟩) lgo).trans HC2.out
      have c4 := (hbd.cell (p := ⟨gl, k * 3, none⟩) lgl).trans HC4.out
      have lgo := Nat.lt_of_lt_of_le lgo hbd.size
      have lgl := Nat.lt_of_lt_of_le lgl hbd.size
      have hfx := (hSx.box 2 _ _ _ rfl).2
      have lfb := lt_of_some hfx
      have HFACT := Lib.hid (fun (w' : World) (hb : Below wd.heap.size wd w') => (⟨(hb.cell (p := ⟨fb, 0, none⟩) lfb).trans (by rw [cell_of_row _ _ _ _ _ _ hfx]; rfl), (hb.cell (p := ⟨fb, 1, none⟩) lfb).trans (by rw [cell_of_row _ _ _ _ _ _ hfx]; rfl), (hb.cell (p := ⟨go, k, none⟩) lgo).trans c2, (hb.cell (p := ⟨gl, k * 3, none⟩) lgl).trans c4, HC3.out w' (HSd.out.below hb).2, HC5.out w' (HSd.out.below hb).2⟩ : w'.cell? ⟨fb, 0, none⟩ = some (.slice PA p pc) ∧ w'.cell? ⟨fb, 1, none⟩ = some (.slice (some ⟨nb, no, none⟩) m nc) ∧ w'.cell? ⟨go, k, none⟩ = some (.int .i64 (y : Int)) ∧ w'.cell? ⟨gl, k * 3, none⟩ = some (.int .i32 (rn : Int)) ∧ w'.cell? ⟨nb, no + y, none⟩ = some (.slice (some ⟨rb2, ro, none⟩) p rc) ∧ w'.cell? ⟨rb2, ro + pi, none⟩ = some (.int .i64 (zz : Int))))
      have HB0 := Lib.hid (Below.refl wd.heap.size wd)
      have HPSd := Lib.hid (HPS.out wd HSd.out.2)
      clear hwd hSx hbd c2 c4 hfx d0 d1
      refine wp_region_noPanic ?_
      refine wp_region_T 20 (S := (fun w' : World => Below wd.heap.size wd w')) (by kernel_rfl) (by decide) ?_
      rw [HWD.out]
      refine wpAnyT_take2 0 (v := ?tvxa0) (by kernel_rfl) rfl (by kernel_rfl) (fun _ _ _ h => h) (Or.inl ⟨by rfl, ?tyxa0⟩) HB0.out ?trxa0
      case tyxa0 => (intro w' hSw; (try dsimp only at hSw); go_simp; try with_reducible rfl)
      try simp only [Act.put, List.setIfInBounds_toArray, List.set_cons_zero, List.set_cons_succ]
      refine wpAnyT_take2 1 (v := ?tvxa1) (by kernel_rfl) rfl (by kernel_rfl) (fun _ _ _ h => h) (Or.inl ⟨by rfl, ?tyxa1⟩) HB0.out ?trxa1
      case tyxa1 => (intro w' hSw; (try dsimp only at hSw); go_simp; try with_reducible rfl)
      try simp only [Act.put, List.setIfInBounds_toArray, List.set_cons_zero, List.set_cons_succ]
      refine wpAnyT_take2 2 (v := ?tvxa2) (by kernel_rfl) rfl (by kernel_rfl) (fun _ _ _ h => h) (Or.inl ⟨by rfl, ?tyxa2⟩) HB0.out ?trxa2
      case tyxa2 => (intro w' hSw; obtain ⟨f0, f1, f2, f3, f4, f5⟩ := HFACT.out w' hSw; (try dsimp only at hSw); go_simp; try with_reducible rfl)
      try simp only [Act.put, List.setIfInBounds_toArray, List.set_cons_zero, List.set_cons_succ]
      refine wpAnyT_take2 3 (v := ?tvxa3) (by kernel_rfl) rfl (by kernel_rfl) (fun _ _ _ h => h) (Or.inl ⟨by rfl, ?tyxa3⟩) HB0.out ?trxa3
      case tyxa3 => (intro w' hSw; (try dsimp only at hSw); go_simp; try with_reducible rfl)
      try simp only [Act.put, List.setIfInBounds_toArray, List.set_cons_zero, List.set_cons_succ]
      refine wpAnyT_take2 4 (v := ?tvxa4) (by kernel_rfl) rfl (by kernel_rfl) (fun _ _ _ h => h) (Or.inl ⟨by rfl, ?tyxa4⟩) HB0.out ?trxa4
      case tyxa4 => (intro w' hSw; (try dsimp only at hSw); go_simp; try with_reducible rfl)
      try simp only [Act.put, List.setIfInBounds_toArray, List.set_cons_zero, List.set_cons_succ]
      refine wpAnyT_take2 5 (v := ?tvxa5) (by kernel_rfl) rfl (by kernel_rfl) (fun _ _ _ h => h) (Or.inl ⟨by rfl, ?tyxa5⟩) HB0.out ?trxa5
      case tyxa5 => (intro w' hSw; (try dsimp only at hSw); go_simp; try with_reducible rfl)
      try simp only [Act.put, List.setIfInBounds_toArray, List.set_cons_zero, List.set_cons_succ]
      refine wpAnyT_take2 6 (v := ?tvxa6) (by kernel_rfl) rfl (by kernel_rfl) (fun _ _ _ h => h) (Or.inl ⟨by rfl, ?tyxa6⟩) HB0.out ?trxa6
      case tyxa6 => (intro w' hSw; obtain ⟨f0, f1, f2, f3, f4, f5⟩ := HFACT.out w' hSw; (try dsimp only at hSw); go_simp; try with_reducible rfl)
      try simp only [Act.put, List.setIfInBounds_toArray, List.set_cons_zero, List.set_cons_succ]
      refine wpAnyT_take2 7 (v := ?tvxa7) (by kernel_rfl) rfl (by kernel_rfl) (fun _ _ _ h => h) (Or.inl ⟨by rfl, ?tyxa7⟩) HB0.out ?trxa7
      case tyxa7 => (intro w' hSw; (try dsimp only at hSw); go_simp; try with_reducible rfl)
      try simp only [Act.put, List.setIfInBounds_toArray, List.set_cons_zero, List.set_cons_succ]
      refine wpAnyT_take2 8 (v := ?tvxa8) (by kernel_rfl) rfl (by kernel_rfl) (fun _ _ _ h => h) (Or.inl ⟨by rfl, ?tyxa8⟩) HB0.out ?trxa8
      case tyxa8 => (intro w' hSw; obtain ⟨f0, f1, f2, f3, f4, f5⟩ := HFACT.out w' hSw; (try dsimp only at hSw); go_simp; try with_reducible rfl)
      try simp only [Act.put, List.setIfInBounds_toArray, List.set_cons_zero, List.set_cons_succ]
      refine wpAnyT_take2 9 (v := ?tvxa9) (by kernel_rfl) rfl (by kernel_rfl) (fun _ _ _ h => h) (Or.inl ⟨by rfl, ?tyxa9⟩) HB0.out ?trxa9
      case tyxa9 => (intro w' hSw; (try dsimp only at hSw); go_simp; try with_reducible rfl)
      try simp only [Act.put, List.setIfInBounds_toArray, List.set_cons_zero, List.set_cons_succ]
      refine wpAnyT_take2 10 (v := ?tvxa10) (by kernel_rfl) rfl (by kernel_rfl) (fun _ _ _ h => h) (Or.inl ⟨by rfl, ?tyxa10⟩) HB0.out ?trxa10
      case tyxa10 => (intro w' hSw; obtain ⟨f0, f1, f2, f3, f4, f5⟩ := HFACT.out w' hSw; (try dsimp only at hSw); go_simp; try with_reducible rfl)
      try simp only [Act.put, List.setIfInBounds_toArray, List.set_cons_zero, List.set_cons_succ]
      refine wpAnyT_take2 11 (v := ?tvxa11) (by kernel_rfl) rfl (by kernel_rfl) (fun _ _ _ h => h) (Or.inl ⟨by rfl, ?tyxa11⟩) HB0.out ?trxa11
      case tyxa11 => (intro w' hSw; (try dsimp only at hSw); go_simp; try with_reducible rfl)
      try simp only [Act.put, List.setIfInBounds_toArray, List.set_cons_zero, List.set_cons_succ]
      refine wpAnyT_take2 12 (v := ?tvxa12) (by kernel_rfl) rfl (by kernel_rfl) (fun _ _ _ h => h) (Or.inl ⟨by rfl, ?tyxa12⟩) HB0.out ?trxa12
      case tyxa12 => (intro w' hSw; (try dsimp only at hSw); go_simp; try with_reducible rfl)
      try simp only [Act.put, List.setIfInBounds_toArray, List.set_cons_zero, List.set_cons_succ]
      refine wpAnyT_take2 13 (v := ?tvxa13) (by kernel_rfl) rfl (by kernel_rfl) (fun _ _ _ h => h) (Or.inl ⟨by rfl, ?tyxa13⟩) HB0.out ?trxa13
      case tyxa13 => (intro w' hSw; (try dsimp only at hSw); go_simp; try with_reducible rfl)
      try simp only [Act.put, List.setIfInBounds_toArray, List.set_cons_zero, List.set_cons_succ]
      refine wpAnyT_take2 14 (v := ?tvxa14) (by kernel_rfl) rfl (by kernel_rfl) (fun _ _ _ h => h) (Or.inl ⟨by rfl, ?tyxa14⟩) HB0.out ?trxa14
      case tyxa14 => (intro w' hSw; (try dsimp only at hSw); go_simp; try with_reducible rfl)
      try simp only [Act.put, List.setIfInBounds_toArray, List.set_cons_zero, List.set_cons_succ]
      refine wpAnyT_take2 15 (v := ?tvxa15) (by kernel_rfl) rfl (by kernel_rfl) (fun _ _ _ h => h) (Or.inl ⟨by rfl, ?tyxa15⟩) HB0.out ?trxa15
      case tyxa15 => (intro w' hSw; obtain ⟨f0, f1, f2, f3, f4, f5⟩ := HFACT.out w' hSw; (try dsimp only at hSw); go_simp; try with_reducible rfl)
      try simp only [Act.put, List.setIfInBounds_toArray, List.set_cons_zero, List.set_cons_succ]
      refine wpAnyT_one2 16 rfl (by kernel_rfl) ?_
      intro K' hK'
      rw [if_pos (by rfl)]
      have HK := Lib.hid hK'
      clear hK'
      have hcx := rindex_any P PA pc rn wd HPSd.out H64.out.2 H64.out.1
      rw [HP.out, HPI.out] at hcx
      have HCX := Lib.hid hcx
      clear hcx
      go_wp2_with (go_at_call 54; refine HCX.out.mono ?_; rintro e9 w9 ⟨rfl, hb9⟩)
      have HB9 := Lib.hid hb9
      clear hb9
      refine HK.out _ _ ⟨HB9.out, ?_⟩
      clear HK K'
      try simp only [Act.put, List.setIfInBounds_toArray, List.set_cons_zero, List.set_cons_succ]
      refine wpAnyT_take2 17 (v := ?tvxa17) (by kernel_rfl) rfl (by kernel_rfl) (fun _ _ _ h => h) (Or.inl ⟨by rfl, ?tyxa17⟩) HB9.out ?trxa17
      case tyxa17 => (intro w' hSw; (try dsimp only at hSw); go_simp; try with_reducible rfl)
      try simp only [Act.put, List.setIfInBounds_toArray, List.set_cons_zero, List.set_cons_succ]
      refine wpAnyT_take2 18 (v := ?tvxa18) (by kernel_rfl) rfl (by kernel_rfl) (fun _ _ _ h => h) (Or.inl ⟨by rfl, ?tyxa18⟩) HB9.out ?trxa18
      case tyxa18 => (intro w' hSw; obtain ⟨f0, f1, f2, f3, f4, f5⟩ := HFACT.out w' hSw; (try dsimp only at hSw); go_simp; try with_reducible rfl)
      try simp only [Act.put, List.setIfInBounds_toArray, List.set_cons_zero, List.set_cons_succ]
      refine wpAnyT_one2 19 rfl (by kernel_rfl) ?_
      intro K' hK'
      rw [if_pos (by rfl)]
      have HK := Lib.hid hK'
      clear hK'
      go_simp
      have HB8 := Lib.hid (below_alloc HB9.out (.cells #[.int .i64 (zz : Int)] 3))
      refine HK.out _ _ ⟨HB8.out, ?_⟩
      clear HK K'
      try simp only [Act.put, List.setIfInBounds_toArray, List.set_cons_zero, List.set_cons_succ]

      refine ⟨by kernel_rfl, ?_⟩
      change wpList _ _ _ [_, _] _ _
      have HSn := Lib.hid (HSd.out.below HB9.out)
      obtain ⟨Y, hY⟩ : ∃ Y, i64s (Plain.states P (nums R) L (k + 1)) = Y := ⟨_, rfl⟩
      have hYn : i64s (Plain.states P (nums R) L (k + 1 + 1)) = Y ++ [.int .i64 (zz : Int)] := by rw [HST.out, ← hY]; unfold i64s; rw [List.map_append]; rfl
      have HYN := Lib.hid hYn
      rw [hY] at HSn
      have HROW := Lib.hid (HSn.out.alloc (.cells #[.int .i64 (zz : Int)] 3))
      clear hY hYn
      refine wpList_append_own2 _ rfl (.tmp 20) (.tmp 39) _ rfl w.heap.size 3 i3 _ 1 8 Tryz.underlying58 hi3 z0 z1 z2 rfl (by decide) (.slice (some ⟨go, 0, none⟩) (k + 1) uc) (k + 1) Y rfl (HROW.out.row 1 _ _ _ _ _ rfl) ⟨w9.heap.size, 0, none⟩ 1 1 [.int .i64 (zz : Int)] rfl rfl (CellsAt_add (CellsAt.new w9 _ _)) ?c2 ?c3 ?c4 ?c5 ?_
      case c2 => first | exact rfl | (intro u hu; simp only [List.mem_cons, List.not_mem_nil, or_false] at hu; rw [hu]; rfl)
      case c3 => simp only [maxLen]; omega
      case c4 => omega
      case c5 => have := HSn.out.2.size; simp; omega
      intro v7 w7 hown hgr hvb
      have hS7 := HSn.out.push 1 3 1 _ v7 (k + 1) (k + 1 + 1) _ _ rfl (below_alloc (Below.refl w9.heap.size w9) _) hgr hown hvb
      have HS7 := Lib.hid hS7
      clear hS7 hown hgr hvb
      go_wp2
      refine NoPanic.normal ?_
      go_wp2_with fail
      go_roundw
      case rel => exact ⟨k + 1, by omega, by go_num, by rw [HYN.out]; exact HS7.out⟩
      case measure => simp [RowKit.intOf]; omega
    · obtain rfl : n = k := by omega
      obtain ⟨go, uc2, hue, _, _, hucs⟩ := own_at (HS.out.row 1 _ _ _ _ _ rfl) (by omega)
      injection hue with hue _ huc
      subst hue
      subst huc
      have HU := Lib.hid hucs
      have d0 : decide ((n : Int) < (n : Int)) = false := decide_eq_false (by omega)
      clear hucs
      go_wp2_with fail
      go_ret
      refine ⟨HS.out.2, fun _ => ⟨go, uc, by rw [HNN.out]; rfl, ?_⟩, fun h => by rw [HTR.out] at h; cases h⟩
      rw [HNN.out]
      exact HU.out
end Go.Proofs.YtgppobaoclfgcaaGreatDoor
