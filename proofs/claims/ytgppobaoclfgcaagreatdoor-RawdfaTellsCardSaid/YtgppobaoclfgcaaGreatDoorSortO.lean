/- Runes: Less, the sort of at most 12. Conditions: what each lemma says. -/
import Derived.Test.YtgppobaoclfgcaaGreatDoorRegT
import Derived.Test.YtgppobaoclfgcaaGreatDoorClassC
import Derived.Test.YtgppobaoclfgcaaGreatDoorShelfN
import Derived.Deep.RegionHeld3
import Derived.Deep.QuietTactic
import Derived.Deep.Cut
import Derived.Deep.DeepCutAuto
set_option linter.unusedVariables false
set_option linter.unusedSimpArgs false
namespace Go.Proofs.YtgppobaoclfgcaaGreatDoor.Plain
end Go.Proofs.YtgppobaoclfgcaaGreatDoor.Plain
namespace Go.Proofs.YtgppobaoclfgcaaGreatDoor
open Go.RowKit Go.Lib
end Go.Proofs.YtgppobaoclfgcaaGreatDoor
namespace Go.Proofs.YtgppobaoclfgcaaGreatDoor
open Go.RowKit Go.Lib
theorem less_any (x y : Int) (w : World) : Calls Tryz.prog 86 #[.int .i32 x, .int .i32 y] w fun e w' => e = .returned (.bool (decide (x < y))) ∧ w = w' := by
  have cN := fun x w => nan_any x w
  go_enter Tryz.func86, Tryz.ntmps86
  go_wp2_with (go_at_call 108; (with_reducible refine (cN _ _).mono ?_); rintro e w' ⟨rfl, rfl⟩)
  go_ret
  exact ⟨rfl, rfl⟩
end Go.Proofs.YtgppobaoclfgcaaGreatDoor
namespace Go.Proofs.YtgppobaoclfgcaaGreatDoor.Plain
/-- all but the one at j rise up to k, and what is behind j is no less than it -/
structure Ris (T : List Int) (k j : Nat) : Prop where
  jk : j ≤ k
  rise : ∀ a b, a < b → b ≤ k → a ≠ j → b ≠ j → T.getD a 0 ≤ T.getD b 0
  behind : ∀ b, j < b → b ≤ k → T.getD j 0 ≤ T.getD b 0
def Sor (T : List Int) (k : Nat) : Prop := ∀ a b, a < b → b < k → T.getD a 0 ≤ T.getD b 0
theorem Ris.first {T : List Int} {k : Nat} (h : Sor T k) : Ris T k k where
  jk := Nat.le_refl _
  rise a b hab hb ha hb' := h a b hab (by omega)
  behind b h1 h2 := by omega
theorem Ris.last {T : List Int} {k j : Nat} (h : Ris T k j) (hc : j = 0 ∨ T.getD (j - 1) 0 ≤ T.getD j 0) : Sor T (k + 1) := fun a b hab hb => by
  by_cases ha : a = j
  · subst ha; exact h.behind b hab (by omega)
  · by_cases hbj : b = j
    · subst hbj
      rcases hc with h0 | h0
      · omega
      · by_cases e : a = b - 1
        · subst e; exact h0
        · have := h.rise a (b - 1) (by omega) (by have := h.jk; omega) ha (by omega)
          omega
    · exact h.rise a b hab (by omega) ha hbj
theorem getD_set (T : List Int) (i : Nat) (v : Int) (a : Nat) (hi : i < T.length) : (T.set i v).getD a 0 = if a = i then v else T.getD a 0 := by
  rw [List.getD_eq_getElem?_getD, List.getD_eq_getElem?_getD, List.getElem?_set]
  by_cases h : i = a
  · subst h; simp [hi]
  · rw [if_neg h, if_neg (fun e => h e.symm)]
/-- two neighbours, the other way round -/
def swap (T : List Int) (j : Nat) : List Int := (T.set (j + 1) (T.getD j 0)).set j (T.getD (j + 1) 0)
theorem swap_perm (T : List Int) (j : Nat) (hj : j + 1 < T.length) : (swap T j).Perm T := by
  unfold swap
  rw [List.getD_eq_getElem?_getD, List.getD_eq_getElem?_getD, List.getElem?_eq_getElem hj, List.getElem?_eq_getElem (by omega)]
  exact List.set_set_perm hj (by omega)
theorem swap_len (T : List Int) (j : Nat) : (swap T j).length = T.length := by unfold swap; simp
theorem swap_get (T : List Int) (j : Nat) (hj : j + 1 < T.length) (a : Nat) : (swap T j).getD a 0 = if a = j then T.getD (j + 1) 0 else if a = j + 1 then T.getD j 0 else T.getD a 0 := by
  unfold swap
  rw [getD_set _ _ _ _ (by simp; omega), getD_set _ _ _ _ hj]
theorem Ris.next {T : List Int} {k j : Nat} (h : Ris T k (j + 1)) (hk : k < T.length) (hc : T.getD (j + 1) 0 < T.getD j 0) : Ris (swap T j) k j := by
  have hj := h.jk
  have hg := swap_get T j (by omega)
  refine ⟨by omega, fun a b hab hb ha hb' => ?_, fun b h1 h2 => ?_⟩
  · rw [hg a, hg b, if_neg ha, if_neg hb']
    by_cases e1 : a = j + 1
    · rw [if_pos e1, if_neg (by omega)]
      exact h.rise j b (by omega) hb (by omega) (by omega)
    · rw [if_neg e1]
      by_cases e2 : b = j + 1
      · rw [if_pos e2]; exact h.rise a j (by omega) (by omega) e1 (by omega)
      · rw [if_neg e2]; exact h.rise a b hab hb e1 e2
  · rw [hg j, hg b, if_pos rfl, if_neg (by omega)]
    by_cases e2 : b = j + 1
    · rw [if_pos e2]; omega
    · rw [if_neg e2]; exact h.behind b (by omega) h2
end Go.Proofs.YtgppobaoclfgcaaGreatDoor.Plain
namespace Go.Proofs.YtgppobaoclfgcaaGreatDoor
open Go.RowKit Go.Lib
open Plain (Ris Sor swap)
theorem i32s_at (T : List Int) (k : Nat) (hk : k < T.length) : (i32s T)[k]? = some (.int .i32 (T.getD k 0)) := by
  unfold i32s; rw [List.getElem?_map, List.getElem?_eq_getElem hk, List.getD_eq_getElem?_getD, List.getElem?_eq_getElem hk]; rfl
theorem i32s_set (T : List Int) (k : Nat) (v : Int) : (i32s T).set k (.int .i32 v) = i32s (T.set k v) := by unfold i32s; rw [List.map_set]
def SO (base : Nat) (g c n : Nat) (R : List Int) (w : World) (wr : World) (T : List Int) : Prop :=
  T.Perm R ∧ wr.ownsRow base 21 1 (.slice (some ⟨g, 0, none⟩) n c) n (i32s T) ∧ Below base w wr
def Ou (base g c n : Nat) (R : List Int) (w : World) (i : Value) (wr : World) : Prop :=
  ∃ (k : Nat) (T : List Int), i = .int .i64 k ∧ 1 ≤ k ∧ k ≤ n ∧ Sor T k ∧ SO base g c n R w wr T
def Inn (base g c n : Nat) (R : List Int) (w : World) (k : Nat) (j : Value) (wr : World) : Prop :=
  ∃ (m : Nat) (T : List Int), j = .int .i64 m ∧ Ris T k m ∧ SO base g c n R w wr T
def RSortPost (base g c n : Nat) (R : List Int) (w : World) (e : Ending) (w' : World) : Prop :=
  e = .returned (.tuple #[]) ∧ ∃ T, T.Perm R ∧ Sor T n ∧ w'.ownsRow base 21 1 (.slice (some ⟨g, 0, none⟩) n c) n (i32s T) ∧ Below base w w'
set_option maxRecDepth 100000 in
set_option maxHeartbeats 4000000 in
theorem ins_any (R : List Int) (base g c n : Nat) (w : World) (hO : w.ownsRow base 21 1 (.slice (some ⟨g, 0, none⟩) n c) n (i32s R)) (hR : R.length = n) (h1 : 1 ≤ n) (hn : n ≤ 1000) :
    Calls Tryz.prog 80 #[.slice (some ⟨g, 0, none⟩) n c, .int .i64 0, .int .i64 n] w (RSortPost base g c n R w) := by
  have HO := Lib.hid hO
  have HR := Lib.hid hR
  have HBG := Lib.hid (show base ≤ g by
    obtain ⟨g', cap, hv, _, hbg, _⟩ := own_at hO (by omega)
    injection hv with hv1
    injection hv1 with hv1
    injection hv1 with hv1
    rw [hv1]; exact hbg)
  have cL := Lib.hid (fun x y w => (less_any x y w).mono (fun _ _ h => And.intro h.1 h.2.symm))
  clear hO hR
  go_enter Tryz.func80, Tryz.ntmps80
  go_wp2_with fail
  go_loopw [6, 7] (fun i _ wr => Ou base g c n R w i wr) (fun i _ _ => n - (RowKit.intOf i).toNat)
  case atStart => exact ⟨1, R, rfl, Nat.le_refl _, h1, fun a b hab hb => by omega, List.Perm.refl _, HO.out, Below.refl _ _⟩
  case round =>
    obtain ⟨k, T, rfl, hk1, hkn, hS, hP, hO, hB⟩ := hrel
    have HP := Lib.hid hP
    have HOk := Lib.hid hO
    have HB := Lib.hid hB
    have HS := Lib.hid hS
    have hTl : T.length = n := by rw [hP.length_eq]; exact HR.out
    clear hP hO hB hS
    by_cases hlt : k < n
    · have dk : decide ((k : Int) < (n : Int)) = true := by simp [hlt]
      go_wp2_with fail
      obtain ⟨w0, rfl⟩ : ∃ w0, w0 = wr := ⟨_, rfl⟩
      go_loopw [7] (fun j wr => Inn base g c n R w k j wr) (fun j _ => (RowKit.intOf j).toNat)
      case atStart => exact ⟨k, T, rfl, Plain.Ris.first HS.out, HP.out, HOk.out, HB.out⟩
      case round =>
        obtain ⟨m, T2, rfl, hRis, hP2, hO2, hB2⟩ := hrel
        have HP2 := Lib.hid hP2
        have HO2 := Lib.hid hO2
        have HB2 := Lib.hid hB2
        have HRI := Lib.hid hRis
        have hl2 : T2.length = n := by rw [hP2.length_eq]; exact HR.out
        have hmk := hRis.jk
        clear hP2 hO2 hB2 hRis
        rcases Nat.eq_zero_or_pos m with h0 | h0
        · subst h0
          have d0 : decide ((((0 : Nat)) : Int) > 0) = false := by decide
          go_upto_region 4 with fail
          go_quiet ((go_at_call 86; exact Calls.quiet_of_same (cL.out _ _ _)))
          have hso := Plain.Ris.last HRI.out (.inl rfl)
          have HSO := Lib.hid hso
          clear hso
          go_wp2_with fail
          go_roundw
          case rel => exact ⟨k + 1, T2, by go_num, by omega, by omega, HSO.out, HP2.out, HO2.out, HB2.out.trans (by exact ⟨rfl, rfl, rfl, Nat.le_refl _, fun _ _ => rfl⟩)⟩
          case measure => simp [RowKit.intOf]; omega
        · obtain ⟨j, hj⟩ : ∃ j, m = j + 1 := ⟨m - 1, by omega⟩
          have hjm : (m : Int) - 1 = (j : Int) := by omega
          have hjw : IntKind.i64.wrap ((m : Int) - 1) = (j : Int) := by rw [hjm, IntKind.wrap_i64]; omega
          have d0 : decide ((m : Int) > 0) = true := by simp; omega
          have d0n : decide (0 < m) = true := by simp; omega
          have hml : m < T2.length := by omega
          have hjl : j < T2.length := by omega
          have c0 := own_cell HO2.out m _ (i32s_at T2 m hml)
          have c1 := own_cell HO2.out j _ (i32s_at T2 j hjl)
          have f0 := own_frozen HO2.out m
          have f1 := own_frozen HO2.out j
          have lg := lt_of_some (own_blk HO2.out).choose_spec
          have g0 : (0 : Int) ≤ (m : Int) := by omega
          have g1 : (m : Int) < (n : Int) := by omega
          have g2 : (0 : Int) ≤ (j : Int) := by omega
          have g3 : (j : Int) < (n : Int) := by omega
          have hne : m ≠ j := by omega
          have hri := HRI.out
          have hsw0 : T2.getD (j + 1) 0 = T2.getD m 0 := by rw [hj]
          obtain ⟨x, hx⟩ : ∃ x, T2.getD m 0 = x := ⟨_, rfl⟩
          obtain ⟨y, hy⟩ : ∃ y, T2.getD j 0 = y := ⟨_, rfl⟩
          rw [hx] at c0 hsw0
          rw [hy] at c1
          have HJ := Lib.hid hj
          have HX := Lib.hid hx
          have HY := Lib.hid hy
          have HRJ := Lib.hid (show Ris T2 k (j + 1) by rw [← hj]; exact hri)
          have HSW := Lib.hid hsw0
          clear hj hx hy hri hsw0
          by_cases hc : x < y
          · have dl : decide (x < y) = true := by simp [hc]
            have CL := Lib.hid (fun w => cL.out x y w)
            have CL2 := CL.out
            rw [dl] at CL2
            have CL3 := Lib.hid CL2
            clear CL CL2
            go_upto_region 4 with fail
            go_quiet ((go_at_call 86; exact Calls.quiet_of_same (CL3.out _)))
            obtain ⟨wz, hwz⟩ : ∃ x, wr.drewN nq = x := ⟨_, rfl⟩
            have hbz : Below wr.heap.size wr wz := by rw [← hwz]; exact ⟨rfl, rfl, rfl, Nat.le_refl _, fun _ _ => rfl⟩
            rw [hwz]
            have HOz := Lib.hid (own_below HO2.out hbz)
            have HBz := Lib.hid (HB2.out.trans (show Below base wr wz by rw [← hwz]; exact ⟨rfl, rfl, rfl, Nat.le_refl _, fun _ _ => rfl⟩))
            clear hwz hbz c0 c1 f0 f1 lg
            have c0 := own_cell HOz.out m _ (i32s_at T2 m hml)
            have c1 := own_cell HOz.out j _ (i32s_at T2 j hjl)
            rw [HX.out] at c0
            rw [HY.out] at c1
            have f0 := own_frozen HOz.out m
            have f1 := own_frozen HOz.out j
            have lg := lt_of_some (own_blk HOz.out).choose_spec
            go_upto_region 6 with fail
            go_region
            obtain ⟨wy, hwy⟩ : ∃ q, ((wz.setCell ⟨g, m, none⟩ (.int .i32 y)).setCell ⟨g, j, none⟩ (.int .i32 x)).drew = q := ⟨_, rfl⟩
            rw [hwy]
            have h1 := (World.ownsRow.stored HOz.out m (.int .i32 y)).1
            rw [i32s_set] at h1
            have h2 := (World.ownsRow.stored h1 j (.int .i32 x)).1
            rw [i32s_set] at h2
            have hsw : (T2.set m y).set j x = swap T2 j := by
              unfold Plain.swap
              rw [HY.out, HSW.out, HJ.out]
            rw [hsw] at h2
            have h3 := own_below h2 (Below.refl _ _).drew
            have hb3 := ((HBz.out.setCell (p := ⟨g, m, none⟩) HBG.out (.int .i32 y)).setCell (p := ⟨g, j, none⟩) HBG.out (.int .i32 x)).drew
            rw [hwy] at h3 hb3
            have hRn := Plain.Ris.next HRJ.out (by omega) (by rw [HSW.out, HY.out]; exact hc)
            have HO3 := Lib.hid h3
            have HB3 := Lib.hid hb3
            have HRN := Lib.hid hRn
            have HP3 := Lib.hid ((Plain.swap_perm T2 j (by have := HJ.out; omega)).trans HP2.out)
            clear hwy h1 h2 h3 hb3 hsw hRn c0 c1 f0 f1 lg
            go_wp2_with fail
            go_roundw
            case rel => exact ⟨j, _, rfl, HRN.out, HP3.out, HO3.out, HB3.out⟩
            case measure => simp [RowKit.intOf]; have := HJ.out; omega
          · have dl : decide (x < y) = false := by simp; omega
            have CL := Lib.hid (fun w => cL.out x y w)
            have CL2 := CL.out
            rw [dl] at CL2
            have CL3 := Lib.hid CL2
            clear CL CL2
            go_upto_region 4 with fail
            go_quiet ((go_at_call 86; exact Calls.quiet_of_same (CL3.out _)))
            have hso := Plain.Ris.last HRI.out (.inr (by rw [show m - 1 = j by have := HJ.out; omega, HX.out, HY.out]; omega))
            have HSO := Lib.hid hso
            clear hso
            go_wp2_with fail
            go_roundw
            case rel => exact ⟨k + 1, T2, by go_num, by omega, by omega, HSO.out, HP2.out, HO2.out, HB2.out.trans (by exact ⟨rfl, rfl, rfl, Nat.le_refl _, fun _ _ => rfl⟩)⟩
            case measure => simp [RowKit.intOf]; omega
    · obtain rfl : k = n := by omega
      have dk : decide ((k : Int) < (k : Int)) = false := by simp
      go_wp2_with fail
      go_end0
      exact ⟨rfl, T, HP.out, HS.out, HOk.out, HB.out⟩
end Go.Proofs.YtgppobaoclfgcaaGreatDoor
namespace Go.Proofs.YtgppobaoclfgcaaGreatDoor
open Go.RowKit Go.Lib
open Plain (Ris Sor swap)
set_option maxRecDepth 100000 in
set_option maxHeartbeats 4000000 in
theorem pdq_any (R : List Int) (base g c n : Nat) (L : Int) (w : World) (hO : w.ownsRow base 21 1 (.slice (some ⟨g, 0, none⟩) n c) n (i32s R)) (hR : R.length = n) (h1 : 1 ≤ n) (hn : n ≤ 12) :
    Calls Tryz.prog 60 #[.slice (some ⟨g, 0, none⟩) n c, .int .i64 0, .int .i64 n, .int .i64 L] w (RSortPost base g c n R w) := by
  have C := Lib.hid (ins_any R base g c n w hO hR h1 (by omega))
  have e1 : IntKind.i64.wrap ((n : Int) - 0) = (n : Int) := by rw [IntKind.wrap_i64]; omega
  have d1 : decide ((n : Int) ≤ 12) = true := by simp; omega
  have d2 : decide (n ≤ 12) = true := by simp; omega
  clear hO
  go_enter Tryz.func60, Tryz.ntmps60
  go_wp2_with fail
  go_loopw [1, 2] (fun a b wr => a = .int .i64 0 ∧ b = .int .i64 n ∧ wr = w) (fun _ _ _ => 0)
  case atStart => exact ⟨rfl, rfl, by first | rfl | trivial⟩
  case round =>
    obtain ⟨rfl, rfl, rfl⟩ := hrel
    go_wp2_with fail
    refine C.out.mono ?_
    rintro e w2 ⟨rfl, T, h1, h2, h3, h4⟩
    have H1 := Lib.hid h1
    have H2 := Lib.hid h2
    have H3 := Lib.hid h3
    have H4 := Lib.hid h4
    clear h1 h2 h3 h4
    go_wp2_with fail
    go_end0
    exact ⟨rfl, T, H1.out, H2.out, H3.out, H4.out⟩
theorem rsort_any (R : List Int) (base g c n : Nat) (w : World) (hO : w.ownsRow base 21 1 (.slice (some ⟨g, 0, none⟩) n c) n (i32s R)) (hR : R.length = n) (h1 : 1 ≤ n) (hn : n ≤ 12) :
    Calls Tryz.prog 34 #[.slice (some ⟨g, 0, none⟩) n c] w (RSortPost base g c n R w) := by
  have cL := Lib.hid (Tryz.bits_Len (n : Int) w (by omega) (by omega))
  have C := Lib.hid (fun L => pdq_any R base g c n L w hO hR h1 hn)
  have e1 : IntKind.u64.wrap (n : Int) = (n : Int) := by rw [IntKind.wrap_u64]; omega
  clear hO
  go_enter Tryz.func34, Tryz.ntmps34
  go_wp2_with fail
  refine cL.out.mono ?_
  rintro e w1 ⟨rfl, rfl⟩
  go_wp2_with fail
  refine (C.out _).mono ?_
  rintro e w2 ⟨rfl, T, h1, h2, h3, h4⟩
  have H1 := Lib.hid h1
  have H2 := Lib.hid h2
  have H3 := Lib.hid h3
  have H4 := Lib.hid h4
  clear h1 h2 h3 h4
  go_wp2_with fail
  go_end0
  exact ⟨rfl, T, H1.out, H2.out, H3.out, H4.out⟩
end Go.Proofs.YtgppobaoclfgcaaGreatDoor
