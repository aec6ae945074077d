/- The sort of runes: partition. Conditions: what each lemma says. -/
import Derived.Test.YtgppobaoclfgcaaGreatDoorSortR
set_option linter.unusedVariables false
set_option linter.unusedSimpArgs false
namespace Go.Proofs.YtgppobaoclfgcaaGreatDoor
open Go.RowKit Go.Lib
open Go.Sort (swp ltInt scanUp scanDown partLoop partition partEqLoop partitionEqual)
theorem sup_go (P : Int → Bool) (d : Array Int) (j i : Nat) (h : i ≤ j) (h2 : P d[i]! = true) : scanUp P d j i = scanUp P d j (i + 1) := by
  rw [scanUp.eq_def P d j i, if_pos (by simp [h, h2])]
theorem sup_stop (P : Int → Bool) (d : Array Int) (j i : Nat) (h : ¬ i ≤ j ∨ P d[i]! = false) : scanUp P d j i = i := by
  rw [scanUp.eq_def P d j i, if_neg]
  simp only [Bool.and_eq_true, decide_eq_true_eq, not_and]
  intro h1 h2
  rcases h with h | h
  · exact h h1
  · rw [h] at h2; cases h2
theorem sdn_go (P : Int → Bool) (d : Array Int) (i j : Nat) (h : i ≤ j + 1) (h2 : P d[j + 1]! = true) : scanDown P d i (j + 1) = scanDown P d i j := by
  rw [scanDown, if_pos (by simp [h, h2])]
theorem sdn_stop (P : Int → Bool) (d : Array Int) (i j : Nat) (hi : 1 ≤ i) (h : ¬ i ≤ j ∨ P d[j]! = false) : scanDown P d i j = j := by
  cases j with
  | zero => rfl
  | succ j =>
    rw [scanDown, if_neg]
    simp only [Bool.and_eq_true, decide_eq_true_eq, not_and]
    intro h1 h2
    rcases h with h | h
    · exact h h1
    · rw [h] at h2; cases h2
theorem peq_stop (a i j i2 j2 : Nat) (d : Array Int) (h : scanUp (fun x => !ltInt d[a]! x) d j i = i2) (h2 : scanDown (fun x => ltInt d[a]! x) d i2 j = j2) (hg : i2 > j2) : partEqLoop ltInt a i j d = (i2, d) := by
  rw [partEqLoop]
  rw [h, h2, if_pos hg]
theorem peq_go (a i j i2 j2 : Nat) (d : Array Int) (h : scanUp (fun x => !ltInt d[a]! x) d j i = i2) (h2 : scanDown (fun x => ltInt d[a]! x) d i2 j = j2) (hg : ¬ i2 > j2) (hi : i ≤ i2) (hj : j2 ≤ j) : partEqLoop ltInt a i j d = partEqLoop ltInt a (i2 + 1) (j2 - 1) (swp d i2 j2) := by
  rw [partEqLoop]
  rw [h, h2, if_neg hg, dif_pos (by omega)]
theorem pl_stop (a i j i2 j2 : Nat) (d : Array Int) (h : scanUp (fun x => ltInt x d[a]!) d j i = i2) (h2 : scanDown (fun x => !ltInt x d[a]!) d i2 j = j2) (hg : i2 > j2) : partLoop ltInt a i j d = (j2, d) := by
  rw [partLoop]
  rw [h, h2, if_pos hg]
theorem pl_go (a i j i2 j2 : Nat) (d : Array Int) (h : scanUp (fun x => ltInt x d[a]!) d j i = i2) (h2 : scanDown (fun x => !ltInt x d[a]!) d i2 j = j2) (hg : ¬ i2 > j2) (hi : i ≤ i2) (hj : j2 ≤ j) : partLoop ltInt a i j d = partLoop ltInt a (i2 + 1) (j2 - 1) (swp d i2 j2) := by
  rw [partLoop]
  rw [h, h2, if_neg hg, dif_pos (by omega)]
set_option maxRecDepth 1000000 in
set_option maxHeartbeats 4000000 in
theorem peq_any (base g c n a b pivot : Nat) (d : Array Int) (w : World) (hO : Ow base g c n w d) (hap : a ≤ pivot) (hpb : pivot < b) (hb : b ≤ n) (hn : n ≤ 1000000) :
    Calls Tryz.prog 87 #[.slice (some ⟨g, 0, none⟩) n c, .int .i64 (a : Int), .int .i64 (b : Int), .int .i64 (pivot : Int)] w fun e w' => e = .returned (.int .i64 ((partitionEqual ltInt d a b pivot).1 : Int)) ∧ Ow base g c n w' (partitionEqual ltInt d a b pivot).2 ∧ Below base w w' := by
  unfold partitionEqual
  obtain ⟨a1, ha1⟩ : ∃ x, a + 1 = x := ⟨_, rfl⟩
  obtain ⟨b1, hb1⟩ : ∃ x, b - 1 = x := ⟨_, rfl⟩
  obtain ⟨d0, hd0⟩ : ∃ x, swp d a pivot = x := ⟨_, rfl⟩
  rw [ha1, hb1, hd0]
  obtain ⟨RES, hRES⟩ : ∃ x, partEqLoop ltInt a a1 b1 d0 = x := ⟨_, rfl⟩
  rw [hRES]
  have hn0 : 0 < n := by omega
  have HRES := Lib.hid hRES
  have HO := Lib.hid hO
  have HD0 := Lib.hid hd0
  have HA := Lib.hid (And.intro ha1 hb1)
  have cL := Lib.hid (fun x y w => (less_any x y w).mono (fun _ _ h => And.intro h.1 h.2.symm))
  have e0 : IntKind.i64.wrap ((a : Int) + 1) = (a1 : Int) := by rw [IntKind.wrap_i64]; omega
  have e1 : IntKind.i64.wrap ((b : Int) - 1) = (b1 : Int) := by rw [IntKind.wrap_i64]; omega
  have aln0 : a < n := by omega
  have pln : pivot < n := by omega
  clear hRES hO ha1 hb1 hd0
  go_enter Tryz.func87, Tryz.ntmps87
  have HBR := Lib.hid (RowKit.Below.refl base w)
  have HSWP := HD0
  go_upto_region 1 with fail
  go_cut [] (fun wx => Ow base g c n wx d0 ∧ RowKit.Below base w wx)
  case first =>
    have c0 := HO.out.cell aln0
    have c1 := HO.out.cell pln
    have lg := HO.out.lt
    have f0 := HO.out.frozen a
    have f1 := HO.out.frozen pivot
    obtain ⟨x, hx⟩ : ∃ z, d[a]! = z := ⟨_, rfl⟩
    obtain ⟨y, hy⟩ : ∃ z, d[pivot]! = z := ⟨_, rfl⟩
    have HS := Lib.hid (HO.out.sw hn0 hx hy)
    have HBS := Lib.hid (HBR.out.trans HS.out.2)
    have HD2 : Hid (swp d a pivot = d0) := Lib.hid HSWP.out
    rw [HD2.out] at HS
    rw [hx] at c0
    rw [hy] at c1
    clear hx hy HD2
    by_cases hne : a = pivot
    · subst hne
      have hxy : x = y := by have h := c0.symm.trans c1; simpa using h
      subst hxy
      go_region
      obtain ⟨wy, hwy⟩ : ∃ q, ((w.setCell ⟨g, a, none⟩ (.int .i32 x)).setCell ⟨g, a, none⟩ (.int .i32 x)).drew = q := ⟨_, rfl⟩
      rw [hwy] at HS HBS ⊢
      go_wp2_with fail
      go_meet
      case rel => exact ⟨HS.out.1, HBS.out⟩
    · skip
      go_region
      obtain ⟨wy, hwy⟩ : ∃ q, ((w.setCell ⟨g, a, none⟩ (.int .i32 y)).setCell ⟨g, pivot, none⟩ (.int .i32 x)).drew = q := ⟨_, rfl⟩
      rw [hwy] at HS HBS ⊢
      go_wp2_with fail
      go_meet
      case rel => exact ⟨HS.out.1, HBS.out⟩
  case rest =>
    obtain ⟨hO, hB⟩ := hcut
    have HO1 := Lib.hid hO
    have HB1 := Lib.hid hB
    clear hO hB HO
    go_wp2_with fail
    clear e0 e1
    go_loopw [9, 10] (fun x y wr => ∃ (i j : Nat) (d' : Array Int), x = .int .i64 (i : Int) ∧ y = .int .i64 (j : Int) ∧ a < i ∧ i ≤ j + 2 ∧ j < n ∧ partEqLoop ltInt a i j d' = RES ∧ Ow base g c n wr d' ∧ RowKit.Below base w wr) (fun x y _ => (RowKit.intOf y).toNat + 1 - (RowKit.intOf x).toNat)
    case atStart => exact ⟨a1, b1, d0, rfl, rfl, by have := HA.out; omega, by have := HA.out; omega, by have := HA.out; omega, HRES.out, HO1.out, HB1.out⟩
    case round =>
      obtain ⟨i, j, d1, rfl, rfl, hai, hij, hjn, hR, hO, hB⟩ := hrel
      obtain ⟨w0, rfl⟩ : ∃ x, x = wr := ⟨_, rfl⟩
      have HR := Lib.hid hR
      have HO2 := Lib.hid hO
      have HB2 := Lib.hid hB
      have HF := Lib.hid (show a < i ∧ 1 ≤ i ∧ j < n ∧ i ≤ j + 2 from ⟨hai, by omega, hjn, hij⟩)
      clear hR hO hB HO1 HB1 hai hij hjn
      obtain ⟨pv, hpv⟩ : ∃ z, d1[a]! = z := ⟨_, rfl⟩
      obtain ⟨P, hP⟩ : ∃ P, (fun x => !ltInt d1[a]! x) = P := ⟨_, rfl⟩
      obtain ⟨Q, hQ⟩ : ∃ P, (fun x => ltInt d1[a]! x) = P := ⟨_, rfl⟩
      obtain ⟨i2, hi2⟩ : ∃ z, scanUp P d1 j i = z := ⟨_, rfl⟩
      obtain ⟨j2, hj2⟩ : ∃ z, scanDown Q d1 i2 j = z := ⟨_, rfl⟩
      have hstop := peq_stop a i j i2 j2 d1 (by rw [hP]; exact hi2) (by rw [hQ]; exact hj2)
      have hgo := peq_go a i j i2 j2 d1 (by rw [hP]; exact hi2) (by rw [hQ]; exact hj2)
      have HP := Lib.hid (show ∀ z, P z = !decide (pv < z) by intro z; rw [← hP, hpv]; rfl)
      have HQ := Lib.hid (show ∀ z, Q z = decide (pv < z) by intro z; rw [← hQ, hpv]; rfl)
      have HPV := Lib.hid hpv
      have HI2 := Lib.hid hi2
      have HJ2 := Lib.hid hj2
      have HSTOP := Lib.hid hstop
      have HGO := Lib.hid hgo
      clear hpv hP hQ hi2 hj2 hstop hgo
      go_upto_block 2 with fail
      go_cut [9] (fun s wx => s = .int .i64 (i2 : Int) ∧ i ≤ i2 ∧ i2 ≤ j + 2 ∧ Ow base g c n wx d1 ∧ RowKit.Below base w wx)
      case first =>
        go_wp2_with fail
        go_loopw [9] (fun s wr => ∃ k : Nat, s = .int .i64 (k : Int) ∧ i ≤ k ∧ k ≤ j + 2 ∧ scanUp P d1 j k = i2 ∧ Ow base g c n wr d1 ∧ RowKit.Below base w wr) (fun s _ => j + 1 - (RowKit.intOf s).toNat)
        case atStart => exact ⟨i, rfl, Nat.le_refl _, by have := HF.out; omega, HI2.out, HO2.out, HB2.out⟩
        case round =>
          obtain ⟨k, rfl, hk0, hk1, hR, hO, hB⟩ := hrel
          have HRk := Lib.hid hR
          have HOk := Lib.hid hO
          have HBk := Lib.hid hB
          clear hR hO hB
          by_cases hlt : k ≤ j
          case neg =>
            have dk : decide ((k : Int) ≤ (j : Int)) = false := decide_eq_false (by omega)
            have dkn : decide (k ≤ j) = false := decide_eq_false hlt
            have HE := Lib.hid (show k = i2 by rw [← HRk.out]; exact (sup_stop _ _ _ _ (.inl hlt)).symm)
            go_upto_region 3 with fail
            go_quiet ((go_at_call 86; exact Calls.quiet_of_same (cL.out _ _ _)))
            go_wp2_with fail
            go_meet
            case rel => exact ⟨by rw [HE.out], by rw [← HE.out]; exact hk0, by rw [← HE.out]; exact hk1, HOk.out.nq _, bnq HBk.out _⟩
          have dk : decide ((k : Int) ≤ (j : Int)) = true := decide_eq_true (by omega)
          have dkn : decide (k ≤ j) = true := decide_eq_true hlt
          have kln : k < n := by have := HF.out; omega
          have aln : a < n := by have := HF.out; omega
          obtain ⟨k1, hk1'⟩ : ∃ x, k + 1 = x := ⟨_, rfl⟩
          have ek : IntKind.i64.wrap ((k : Int) + 1) = (k1 : Int) := by have := HF.out; rw [IntKind.wrap_i64]; omega
          obtain ⟨z, hz⟩ : ∃ z, d1[k]! = z := ⟨_, rfl⟩
          have HX := Lib.hid hz
          have hpz := (congrArg P hz).trans (HP.out z)
          have hgo : P d1[k]! = true → scanUp P d1 j k1 = i2 := fun h => by rw [← HRk.out, sup_go _ _ _ _ hlt h, hk1']
          have hsp : P d1[k]! = false → k = i2 := fun h => by rw [← HRk.out]; exact (sup_stop _ _ _ _ (.inr h)).symm
          have HGO := Lib.hid hgo
          have HSP := Lib.hid hsp
          have HPZ := Lib.hid hpz
          have HK1 := Lib.hid hk1'
          have c0 := HOk.out.cell kln
          have c1 := HOk.out.cell aln
          have lg := HOk.out.lt
          rw [HX.out] at c0
          rw [HPV.out] at c1
          clear hk1' hz hpz hgo hsp
          by_cases hc : pv < z
          · skip
            have HE := Lib.hid (HSP.out (by rw [HPZ.out]; first | exact decide_eq_false hc | simp [hc]))
            have CL := Lib.hid (fun w => cL.out pv z w)
            rw [decide_eq_true hc] at CL
            go_upto_region 3 with fail
            go_quiet ((go_at_call 86; exact Calls.quiet_of_same (CL.out _)))
            go_wp2_with fail
            go_meet
            case rel => exact ⟨by rw [HE.out], by rw [← HE.out]; exact hk0, by rw [← HE.out]; exact hk1, HOk.out.nq _, bnq HBk.out _⟩
          · skip
            have HG := Lib.hid (HGO.out (by rw [HPZ.out]; first | exact decide_eq_true hc | simp [hc] | (simp; omega)))
            have CL := Lib.hid (fun w => cL.out pv z w)
            rw [decide_eq_false hc] at CL
            go_upto_region 3 with fail
            go_quiet ((go_at_call 86; exact Calls.quiet_of_same (CL.out _)))
            go_wp2_with fail
            go_roundw
            case rel => exact ⟨k1, rfl, by have := HK1.out; omega, by have := HK1.out; omega, HG.out, HOk.out.nq _, bnq HBk.out _⟩
            case measure => simp [RowKit.intOf]; have := HK1.out; have := HF.out; omega
      case rest =>
        obtain ⟨rfl, hi2a, hi2b, hO, hB⟩ := hcut
        obtain ⟨w1, rfl⟩ : ∃ x, x = wc := ⟨_, rfl⟩
        have HO3 := Lib.hid hO
        have HB3 := Lib.hid hB
        have HF2 := Lib.hid (show a < i2 ∧ 1 ≤ i2 ∧ j < n ∧ i2 ≤ j + 2 by have := HF.out; omega)
        clear hO hB
        go_upto_block 4 with fail
        go_cut [10] (fun s wx => s = .int .i64 (j2 : Int) ∧ i2 ≤ j2 + 2 ∧ j2 ≤ j ∧ Ow base g c n wx d1 ∧ RowKit.Below base w wx)
        case first =>
          go_wp2_with fail
          go_loopw [10] (fun s wr => ∃ k : Nat, s = .int .i64 (k : Int) ∧ i2 ≤ k + 2 ∧ k ≤ j ∧ scanDown Q d1 i2 k = j2 ∧ Ow base g c n wr d1 ∧ RowKit.Below base w wr) (fun s _ => (RowKit.intOf s).toNat)
          case atStart => exact ⟨j, rfl, by have := HF2.out; omega, Nat.le_refl _, HJ2.out, HO3.out, HB3.out⟩
          case round =>
            obtain ⟨k, rfl, hk0, hk1, hR, hO, hB⟩ := hrel
            have HRk := Lib.hid hR
            have HOk := Lib.hid hO
            have HBk := Lib.hid hB
            clear hR hO hB
            by_cases hlt : i2 ≤ k
            case neg =>
              have dk : decide ((i2 : Int) ≤ (k : Int)) = false := decide_eq_false (by omega)
              have dkn : decide (i2 ≤ k) = false := decide_eq_false hlt
              have HE := Lib.hid (show k = j2 by rw [← HRk.out]; exact (sdn_stop _ _ _ _ (by have := HF2.out; omega) (.inl hlt)).symm)
              go_upto_region 5 with fail
              go_quiet ((go_at_call 86; exact Calls.quiet_of_same (cL.out _ _ _)))
              go_wp2_with fail
              go_meet
              case rel => exact ⟨by rw [HE.out], by rw [← HE.out]; exact hk0, by rw [← HE.out]; exact hk1, HOk.out.nq _, bnq HBk.out _⟩
            have dk : decide ((i2 : Int) ≤ (k : Int)) = true := decide_eq_true (by omega)
            have dkn : decide (i2 ≤ k) = true := decide_eq_true hlt
            have kln : k < n := by have := HF2.out; omega
            have aln : a < n := by have := HF2.out; omega
            obtain ⟨k1, hk1'⟩ : ∃ x, k - 1 = x := ⟨_, rfl⟩
            have ek : IntKind.i64.wrap ((k : Int) - 1) = (k1 : Int) := by have := HF2.out; rw [IntKind.wrap_i64]; omega
            obtain ⟨z, hz⟩ : ∃ z, d1[k]! = z := ⟨_, rfl⟩
            have HX := Lib.hid hz
            have hpz := (congrArg Q hz).trans (HQ.out z)
            have hgo : Q d1[k]! = true → scanDown Q d1 i2 k1 = j2 := fun h => by
              have h1 : k = k1 + 1 := by have := HF2.out; omega
              rw [← HRk.out, h1, sdn_go _ _ _ _ (by omega) (by rw [← h1]; exact h)]
            have hsp : Q d1[k]! = false → k = j2 := fun h => by rw [← HRk.out]; exact (sdn_stop _ _ _ _ (by have := HF2.out; omega) (.inr h)).symm
            have HGO := Lib.hid hgo
            have HSP := Lib.hid hsp
            have HPZ := Lib.hid hpz
            have HK1 := Lib.hid hk1'
            have c0 := HOk.out.cell kln
            have c1 := HOk.out.cell aln
            have lg := HOk.out.lt
            rw [HX.out] at c0
            rw [HPV.out] at c1
            clear hk1' hz hpz hgo hsp
            by_cases hc : pv < z
            · skip
              have HG := Lib.hid (HGO.out (by rw [HPZ.out]; first | exact decide_eq_true hc | simp [hc] | (simp; omega)))
              have CL := Lib.hid (fun w => cL.out pv z w)
              rw [decide_eq_true hc] at CL
              go_upto_region 5 with fail
              go_quiet ((go_at_call 86; exact Calls.quiet_of_same (CL.out _)))
              go_wp2_with fail
              go_roundw
              case rel => exact ⟨k1, rfl, by have := HK1.out; omega, by have := HK1.out; omega, HG.out, HOk.out.nq _, bnq HBk.out _⟩
              case measure => simp [RowKit.intOf]; have := HK1.out; have := HF2.out; omega
            · skip
              have HE := Lib.hid (HSP.out (by rw [HPZ.out]; first | exact decide_eq_false hc | simp [hc]))
              have CL := Lib.hid (fun w => cL.out pv z w)
              rw [decide_eq_false hc] at CL
              go_upto_region 5 with fail
              go_quiet ((go_at_call 86; exact Calls.quiet_of_same (CL.out _)))
              go_wp2_with fail
              go_meet
              case rel => exact ⟨by rw [HE.out], by rw [← HE.out]; exact hk0, by rw [← HE.out]; exact hk1, HOk.out.nq _, bnq HBk.out _⟩
        case rest =>
          obtain ⟨rfl, hj2a, hj2b, hO, hB⟩ := hcut
          obtain ⟨w2, rfl⟩ : ∃ x, x = wc := ⟨_, rfl⟩
          have HO4 := Lib.hid hO
          have HB4 := Lib.hid hB
          clear hO hB HO2 HB2 HO3 HB3
          by_cases hgt : j2 < i2
          · have dg : decide ((i2 : Int) > (j2 : Int)) = true := decide_eq_true (by omega)
            have dgn : decide (j2 < i2) = true := decide_eq_true hgt
            have HRR := Lib.hid (show RES = (i2, d1) by rw [← HR.out]; exact HSTOP.out hgt)
            go_wp2_with fail
            go_ret
            exact ⟨by rw [HRR.out]; rfl, by rw [HRR.out]; exact HO4.out, HB4.out⟩
          · have dg : decide ((i2 : Int) > (j2 : Int)) = false := decide_eq_false (by omega)
            have dgn : decide (j2 < i2) = false := decide_eq_false hgt
            have hgo := HGO.out (by omega) hi2a hj2b
            obtain ⟨i3, hi3⟩ : ∃ z, i2 + 1 = z := ⟨_, rfl⟩
            obtain ⟨j3, hj3⟩ : ∃ z, j2 - 1 = z := ⟨_, rfl⟩
            obtain ⟨d2, hd2⟩ : ∃ z, swp d1 i2 j2 = z := ⟨_, rfl⟩
            rw [hi3, hj3, hd2, HR.out] at hgo
            have HG := Lib.hid hgo.symm
            have HSWP := Lib.hid hd2
            have ei3 : IntKind.i64.wrap ((i2 : Int) + 1) = (i3 : Int) := by have := HF2.out; rw [IntKind.wrap_i64]; omega
            have ej3 : IntKind.i64.wrap ((j2 : Int) - 1) = (j3 : Int) := by have := HF2.out; rw [IntKind.wrap_i64]; omega
            have i2n : i2 < n := by have := HF2.out; omega
            have j2n : j2 < n := by have := HF2.out; omega
            have H3 := Lib.hid (And.intro hi3 hj3)
            clear hgo hi3 hj3 hd2
            go_upto_region 8 with fail
            go_cut [] (fun wx => Ow base g c n wx d2 ∧ RowKit.Below base w wx)
            case first =>
              have c0 := HO4.out.cell i2n
              have c1 := HO4.out.cell j2n
              have lg := HO4.out.lt
              have f0 := HO4.out.frozen i2
              have f1 := HO4.out.frozen j2
              obtain ⟨x, hx⟩ : ∃ z, d1[i2]! = z := ⟨_, rfl⟩
              obtain ⟨y, hy⟩ : ∃ z, d1[j2]! = z := ⟨_, rfl⟩
              have HS := Lib.hid (HO4.out.sw hn0 hx hy)
              have HBS := Lib.hid (HB4.out.trans HS.out.2)
              have HD2 : Hid (swp d1 i2 j2 = d2) := Lib.hid HSWP.out
              rw [HD2.out] at HS
              rw [hx] at c0
              rw [hy] at c1
              clear hx hy HD2
              by_cases hne : i2 = j2
              · subst hne
                have hxy : x = y := by have h := c0.symm.trans c1; simpa using h
                subst hxy
                go_region
                obtain ⟨wy, hwy⟩ : ∃ q, ((w2.setCell ⟨g, i2, none⟩ (.int .i32 x)).setCell ⟨g, i2, none⟩ (.int .i32 x)).drew = q := ⟨_, rfl⟩
                rw [hwy] at HS HBS ⊢
                go_wp2_with fail
                go_meet
                case rel => exact ⟨HS.out.1, HBS.out⟩
              · skip
                go_region
                obtain ⟨wy, hwy⟩ : ∃ q, ((w2.setCell ⟨g, i2, none⟩ (.int .i32 y)).setCell ⟨g, j2, none⟩ (.int .i32 x)).drew = q := ⟨_, rfl⟩
                rw [hwy] at HS HBS ⊢
                go_wp2_with fail
                go_meet
                case rel => exact ⟨HS.out.1, HBS.out⟩
            case rest =>
              obtain ⟨hO, hB⟩ := hcut
              have HO5 := Lib.hid hO
              have HB5 := Lib.hid hB
              clear hO hB
              go_wp2_with fail
              go_roundw
              case rel => exact ⟨i3, j3, d2, rfl, rfl, by have := H3.out; have := HF2.out; omega, by have := H3.out; have := HF2.out; omega, by have := H3.out; have := HF2.out; omega, HG.out, HO5.out, HB5.out⟩
              case measure => simp [RowKit.intOf]; have := H3.out; have := HF2.out; have := HF.out; omega
end Go.Proofs.YtgppobaoclfgcaaGreatDoor
namespace Go.Proofs.YtgppobaoclfgcaaGreatDoor
open Go.RowKit Go.Lib
open Go.Sort (swp ltInt scanUp scanDown partLoop partition partEqLoop partitionEqual)
theorem part_stop (d d0 : Array Int) (a b pivot i2 j2 : Nat) (hd : swp d a pivot = d0) (h : scanUp (fun x => ltInt x d0[a]!) d0 (b - 1) (a + 1) = i2) (h2 : scanDown (fun x => !ltInt x d0[a]!) d0 i2 (b - 1) = j2) (hg : i2 > j2) :
    partition ltInt d a b pivot = (j2, true, swp d0 j2 a) := by
  unfold partition
  simp only [hd, h, h2, if_pos hg]
theorem part_go (d d0 : Array Int) (a b pivot i2 j2 : Nat) (hd : swp d a pivot = d0) (h : scanUp (fun x => ltInt x d0[a]!) d0 (b - 1) (a + 1) = i2) (h2 : scanDown (fun x => !ltInt x d0[a]!) d0 i2 (b - 1) = j2) (hg : ¬ i2 > j2) :
    partition ltInt d a b pivot = ((partLoop ltInt a (i2 + 1) (j2 - 1) (swp d0 i2 j2)).1, false, swp (partLoop ltInt a (i2 + 1) (j2 - 1) (swp d0 i2 j2)).2 (partLoop ltInt a (i2 + 1) (j2 - 1) (swp d0 i2 j2)).1 a) := by
  unfold partition
  simp only [hd, h, h2, if_neg hg]
set_option maxRecDepth 1000000 in
set_option maxHeartbeats 8000000 in
theorem part_any (base g c n a b pivot : Nat) (d : Array Int) (w : World) (hO : Ow base g c n w d) (hap : a ≤ pivot) (hpb : pivot < b) (hb : b ≤ n) (hn : n ≤ 1000000) :
    Calls Tryz.prog 88 #[.slice (some ⟨g, 0, none⟩) n c, .int .i64 (a : Int), .int .i64 (b : Int), .int .i64 (pivot : Int)] w fun e w' => e = .returned (.tuple #[.int .i64 ((partition ltInt d a b pivot).1 : Int), .bool (partition ltInt d a b pivot).2.1]) ∧ Ow base g c n w' (partition ltInt d a b pivot).2.2 ∧ Below base w w' := by
  obtain ⟨a1, ha1⟩ : ∃ x, a + 1 = x := ⟨_, rfl⟩
  obtain ⟨b1, hb1⟩ : ∃ x, b - 1 = x := ⟨_, rfl⟩
  obtain ⟨d0, hd0⟩ : ∃ x, swp d a pivot = x := ⟨_, rfl⟩
  obtain ⟨RES, hRES⟩ : ∃ x, partition ltInt d a b pivot = x := ⟨_, rfl⟩
  rw [hRES]
  have hstop := fun i2 j2 h h2 hg => (part_stop d d0 a b pivot i2 j2 hd0 h h2 hg).symm.trans hRES
  have hgo := fun i2 j2 h h2 hg => (part_go d d0 a b pivot i2 j2 hd0 h h2 hg).symm.trans hRES
  rw [ha1, hb1] at hstop hgo
  have hn0 : 0 < n := by omega
  have HO := Lib.hid hO
  have HD0 := Lib.hid hd0
  have HA := Lib.hid (And.intro ha1 hb1)
  have cL := Lib.hid (fun x y w => (less_any x y w).mono (fun _ _ h => And.intro h.1 h.2.symm))
  have e0 : IntKind.i64.wrap ((a : Int) + 1) = (a1 : Int) := by rw [IntKind.wrap_i64]; omega
  have e1 : IntKind.i64.wrap ((b : Int) - 1) = (b1 : Int) := by rw [IntKind.wrap_i64]; omega
  have aln0 : a < n := by omega
  have pln : pivot < n := by omega
  obtain ⟨pv, hpv⟩ : ∃ z, d0[a]! = z := ⟨_, rfl⟩
  obtain ⟨P, hP⟩ : ∃ P, (fun x => ltInt x d0[a]!) = P := ⟨_, rfl⟩
  obtain ⟨Q, hQ⟩ : ∃ P, (fun x => !ltInt x d0[a]!) = P := ⟨_, rfl⟩
  rw [hP, hQ] at hstop hgo
  obtain ⟨i2, hi2⟩ : ∃ z, scanUp P d0 b1 a1 = z := ⟨_, rfl⟩
  obtain ⟨j2, hj2⟩ : ∃ z, scanDown Q d0 i2 b1 = z := ⟨_, rfl⟩
  replace hstop := hstop i2 j2 hi2 hj2
  replace hgo := hgo i2 j2 hi2 hj2
  have HP := Lib.hid (show ∀ z, P z = decide (z < pv) by intro z; rw [← hP, hpv]; rfl)
  have HQ := Lib.hid (show ∀ z, Q z = !decide (z < pv) by intro z; rw [← hQ, hpv]; rfl)
  have HPV := Lib.hid hpv
  have HI2 := Lib.hid hi2
  have HJ2 := Lib.hid hj2
  have HSTOP := Lib.hid hstop
  have HGO := Lib.hid hgo
  have HF := Lib.hid (show a < a1 ∧ 1 ≤ a1 ∧ b1 < n ∧ a1 ≤ b1 + 2 by omega)
  clear hRES hO ha1 hb1 hd0 hpv hP hQ hi2 hj2 hstop hgo
  go_enter Tryz.func88, Tryz.ntmps88
  have HBR := Lib.hid (RowKit.Below.refl base w)
  have HSWP := HD0
  go_upto_region 1 with fail
  go_cut [] (fun wx => Ow base g c n wx d0 ∧ RowKit.Below base w wx)
  case first =>
    have c0 := HO.out.cell aln0
    have c1 := HO.out.cell pln
    have lg := HO.out.lt
    have f0 := HO.out.frozen a
    have f1 := HO.out.frozen pivot
    obtain ⟨x, hx⟩ : ∃ z, d[a]! = z := ⟨_, rfl⟩
    obtain ⟨y, hy⟩ : ∃ z, d[pivot]! = z := ⟨_, rfl⟩
    have HS := Lib.hid (HO.out.sw hn0 hx hy)
    have HBS := Lib.hid (HBR.out.trans HS.out.2)
    have HD2 : Hid (swp d a pivot = d0) := Lib.hid HSWP.out
    rw [HD2.out] at HS
    rw [hx] at c0
    rw [hy] at c1
    clear hx hy HD2
    by_cases hne : a = pivot
    · subst hne
      have hxy : x = y := by have h := c0.symm.trans c1; simpa using h
      subst hxy
      go_region
      obtain ⟨wy, hwy⟩ : ∃ q, ((w.setCell ⟨g, a, none⟩ (.int .i32 x)).setCell ⟨g, a, none⟩ (.int .i32 x)).drew = q := ⟨_, rfl⟩
      rw [hwy] at HS HBS ⊢
      go_wp2_with fail
      go_meet
      case rel => exact ⟨HS.out.1, HBS.out⟩
    · skip
      go_region
      obtain ⟨wy, hwy⟩ : ∃ q, ((w.setCell ⟨g, a, none⟩ (.int .i32 y)).setCell ⟨g, pivot, none⟩ (.int .i32 x)).drew = q := ⟨_, rfl⟩
      rw [hwy] at HS HBS ⊢
      go_wp2_with fail
      go_meet
      case rel => exact ⟨HS.out.1, HBS.out⟩
  case rest =>
    obtain ⟨hO, hB⟩ := hcut
    obtain ⟨w0, rfl⟩ : ∃ x, x = wc := ⟨_, rfl⟩
    have HO2 := Lib.hid hO
    have HB2 := Lib.hid hB
    clear hO hB HO HSWP
    go_upto_block 0 with fail
    go_cut [10] (fun s wx => s = .int .i64 (i2 : Int) ∧ a1 ≤ i2 ∧ i2 ≤ b1 + 2 ∧ Ow base g c n wx d0 ∧ RowKit.Below base w wx)
    case first =>
      go_wp2_with fail
      go_loopw [10] (fun s wr => ∃ k : Nat, s = .int .i64 (k : Int) ∧ a1 ≤ k ∧ k ≤ b1 + 2 ∧ scanUp P d0 b1 k = i2 ∧ Ow base g c n wr d0 ∧ RowKit.Below base w wr) (fun s _ => b1 + 1 - (RowKit.intOf s).toNat)
      case atStart => exact ⟨a1, rfl, Nat.le_refl _, by have := HF.out; omega, HI2.out, HO2.out, HB2.out⟩
      case round =>
        obtain ⟨k, rfl, hk0, hk1, hR, hO, hB⟩ := hrel
        have HRk := Lib.hid hR
        have HOk := Lib.hid hO
        have HBk := Lib.hid hB
        clear hR hO hB
        by_cases hlt : k ≤ b1
        case neg =>
          have dk : decide ((k : Int) ≤ (b1 : Int)) = false := decide_eq_false (by omega)
          have dkn : decide (k ≤ b1) = false := decide_eq_false hlt
          have HE := Lib.hid (show k = i2 by rw [← HRk.out]; exact (sup_stop _ _ _ _ (.inl hlt)).symm)
          go_upto_region 3 with fail
          go_quiet ((go_at_call 86; exact Calls.quiet_of_same (cL.out _ _ _)))
          go_wp2_with fail
          go_meet
          case rel => exact ⟨by rw [HE.out], by rw [← HE.out]; exact hk0, by rw [← HE.out]; exact hk1, HOk.out.nq _, bnq HBk.out _⟩
        have dk : decide ((k : Int) ≤ (b1 : Int)) = true := decide_eq_true (by omega)
        have dkn : decide (k ≤ b1) = true := decide_eq_true hlt
        have kln : k < n := by have := HF.out; omega
        have aln : a < n := by have := HF.out; omega
        obtain ⟨k1, hk1'⟩ : ∃ x, k + 1 = x := ⟨_, rfl⟩
        have ek : IntKind.i64.wrap ((k : Int) + 1) = (k1 : Int) := by have := HF.out; rw [IntKind.wrap_i64]; omega
        obtain ⟨z, hz⟩ : ∃ z, d0[k]! = z := ⟨_, rfl⟩
        have HX := Lib.hid hz
        have hpz := (congrArg P hz).trans (HP.out z)
        have hgo : P d0[k]! = true → scanUp P d0 b1 k1 = i2 := fun h => by rw [← HRk.out, sup_go _ _ _ _ hlt h, hk1']
        have hsp : P d0[k]! = false → k = i2 := fun h => by rw [← HRk.out]; exact (sup_stop _ _ _ _ (.inr h)).symm
        have HGO := Lib.hid hgo
        have HSP := Lib.hid hsp
        have HPZ := Lib.hid hpz
        have HK1 := Lib.hid hk1'
        have c0 := HOk.out.cell kln
        have c1 := HOk.out.cell aln
        have lg := HOk.out.lt
        rw [HX.out] at c0
        rw [HPV.out] at c1
        clear hk1' hz hpz hgo hsp
        by_cases hc : z < pv
        · skip
          have HG := Lib.hid (HGO.out (by rw [HPZ.out]; first | exact decide_eq_true hc | simp [hc] | (simp; omega)))
          have CL := Lib.hid (fun w => cL.out z pv w)
          rw [decide_eq_true hc] at CL
          go_upto_region 3 with fail
          go_quiet ((go_at_call 86; exact Calls.quiet_of_same (CL.out _)))
          go_wp2_with fail
          go_roundw
          case rel => exact ⟨k1, rfl, by have := HK1.out; omega, by have := HK1.out; omega, HG.out, HOk.out.nq _, bnq HBk.out _⟩
          case measure => simp [RowKit.intOf]; have := HK1.out; have := HF.out; omega
        · skip
          have HE := Lib.hid (HSP.out (by rw [HPZ.out]; first | exact decide_eq_false hc | simp [hc]))
          have CL := Lib.hid (fun w => cL.out z pv w)
          rw [decide_eq_false hc] at CL
          go_upto_region 3 with fail
          go_quiet ((go_at_call 86; exact Calls.quiet_of_same (CL.out _)))
          go_wp2_with fail
          go_meet
          case rel => exact ⟨by rw [HE.out], by rw [← HE.out]; exact hk0, by rw [← HE.out]; exact hk1, HOk.out.nq _, bnq HBk.out _⟩
    case rest =>
      obtain ⟨rfl, hi2a, hi2b, hO, hB⟩ := hcut
      obtain ⟨w1, rfl⟩ : ∃ x, x = wc := ⟨_, rfl⟩
      have HO3 := Lib.hid hO
      have HB3 := Lib.hid hB
      have HF2 := Lib.hid (show a < i2 ∧ 1 ≤ i2 ∧ b1 < n ∧ i2 ≤ b1 + 2 by have := HF.out; omega)
      clear hO hB e0 e1
      go_upto_block 2 with fail
      go_cut [11] (fun s wx => s = .int .i64 (j2 : Int) ∧ i2 ≤ j2 + 2 ∧ j2 ≤ b1 ∧ Ow base g c n wx d0 ∧ RowKit.Below base w wx)
      case first =>
        go_wp2_with fail
        go_loopw [11] (fun s wr => ∃ k : Nat, s = .int .i64 (k : Int) ∧ i2 ≤ k + 2 ∧ k ≤ b1 ∧ scanDown Q d0 i2 k = j2 ∧ Ow base g c n wr d0 ∧ RowKit.Below base w wr) (fun s _ => (RowKit.intOf s).toNat)
        case atStart => exact ⟨b1, rfl, by have := HF2.out; omega, Nat.le_refl _, HJ2.out, HO3.out, HB3.out⟩
        case round =>
          obtain ⟨k, rfl, hk0, hk1, hR, hO, hB⟩ := hrel
          have HRk := Lib.hid hR
          have HOk := Lib.hid hO
          have HBk := Lib.hid hB
          clear hR hO hB
          by_cases hlt : i2 ≤ k
          case neg =>
            have dk : decide ((i2 : Int) ≤ (k : Int)) = false := decide_eq_false (by omega)
            have dkn : decide (i2 ≤ k) = false := decide_eq_false hlt
            have HE := Lib.hid (show k = j2 by rw [← HRk.out]; exact (sdn_stop _ _ _ _ (by have := HF2.out; omega) (.inl hlt)).symm)
            go_upto_region 5 with fail
            go_quiet ((go_at_call 86; exact Calls.quiet_of_same (cL.out _ _ _)))
            go_wp2_with fail
            go_meet
            case rel => exact ⟨by rw [HE.out], by rw [← HE.out]; exact hk0, by rw [← HE.out]; exact hk1, HOk.out.nq _, bnq HBk.out _⟩
          have dk : decide ((i2 : Int) ≤ (k : Int)) = true := decide_eq_true (by omega)
          have dkn : decide (i2 ≤ k) = true := decide_eq_true hlt
          have kln : k < n := by have := HF2.out; omega
          have aln : a < n := by have := HF2.out; omega
          obtain ⟨k1, hk1'⟩ : ∃ x, k - 1 = x := ⟨_, rfl⟩
          have ek : IntKind.i64.wrap ((k : Int) - 1) = (k1 : Int) := by have := HF2.out; rw [IntKind.wrap_i64]; omega
          obtain ⟨z, hz⟩ : ∃ z, d0[k]! = z := ⟨_, rfl⟩
          have HX := Lib.hid hz
          have hpz := (congrArg Q hz).trans (HQ.out z)
          have hgo : Q d0[k]! = true → scanDown Q d0 i2 k1 = j2 := fun h => by
            have h1 : k = k1 + 1 := by have := HF2.out; omega
            rw [← HRk.out, h1, sdn_go _ _ _ _ (by omega) (by rw [← h1]; exact h)]
          have hsp : Q d0[k]! = false → k = j2 := fun h => by rw [← HRk.out]; exact (sdn_stop _ _ _ _ (by have := HF2.out; omega) (.inr h)).symm
          have HGO := Lib.hid hgo
          have HSP := Lib.hid hsp
          have HPZ := Lib.hid hpz
          have HK1 := Lib.hid hk1'
          have c0 := HOk.out.cell kln
          have c1 := HOk.out.cell aln
          have lg := HOk.out.lt
          rw [HX.out] at c0
          rw [HPV.out] at c1
          clear hk1' hz hpz hgo hsp
          by_cases hc : z < pv
          · skip
            have HE := Lib.hid (HSP.out (by rw [HPZ.out]; first | exact decide_eq_false hc | simp [hc]))
            have CL := Lib.hid (fun w => cL.out z pv w)
            rw [decide_eq_true hc] at CL
            go_upto_region 5 with fail
            go_quiet ((go_at_call 86; exact Calls.quiet_of_same (CL.out _)))
            go_wp2_with fail
            go_meet
            case rel => exact ⟨by rw [HE.out], by rw [← HE.out]; exact hk0, by rw [← HE.out]; exact hk1, HOk.out.nq _, bnq HBk.out _⟩
          · skip
            have HG := Lib.hid (HGO.out (by rw [HPZ.out]; first | exact decide_eq_true hc | simp [hc] | (simp; omega)))
            have CL := Lib.hid (fun w => cL.out z pv w)
            rw [decide_eq_false hc] at CL
            go_upto_region 5 with fail
            go_quiet ((go_at_call 86; exact Calls.quiet_of_same (CL.out _)))
            go_wp2_with fail
            go_roundw
            case rel => exact ⟨k1, rfl, by have := HK1.out; omega, by have := HK1.out; omega, HG.out, HOk.out.nq _, bnq HBk.out _⟩
            case measure => simp [RowKit.intOf]; have := HK1.out; have := HF2.out; omega
      case rest =>
        obtain ⟨rfl, hj2a, hj2b, hO, hB⟩ := hcut
        obtain ⟨w2, rfl⟩ : ∃ x, x = wc := ⟨_, rfl⟩
        have HO4 := Lib.hid hO
        have HB4 := Lib.hid hB
        have j2n : j2 < n := by have := HF2.out; omega
        clear hO hB HO2 HB2 HO3 HB3
        by_cases hgt : j2 < i2
        · have dg : decide ((i2 : Int) > (j2 : Int)) = true := decide_eq_true (by omega)
          have dgn : decide (j2 < i2) = true := decide_eq_true hgt
          have HRR := Lib.hid (show RES = _ from (HSTOP.out hgt).symm)
          obtain ⟨dR, hdR⟩ : ∃ z, swp d0 j2 a = z := ⟨_, rfl⟩
          rw [hdR] at HRR
          have HSWP := Lib.hid hdR
          clear hdR
          go_upto_region 8 with fail
          go_cut [] (fun wx => Ow base g c n wx dR ∧ RowKit.Below base w wx)
          case first =>
            have c0 := HO4.out.cell j2n
            have c1 := HO4.out.cell aln0
            have lg := HO4.out.lt
            have f0 := HO4.out.frozen j2
            have f1 := HO4.out.frozen a
            obtain ⟨x, hx⟩ : ∃ z, d0[j2]! = z := ⟨_, rfl⟩
            obtain ⟨y, hy⟩ : ∃ z, d0[a]! = z := ⟨_, rfl⟩
            have HS := Lib.hid (HO4.out.sw hn0 hx hy)
            have HBS := Lib.hid (HB4.out.trans HS.out.2)
            have HD2 : Hid (swp d0 j2 a = dR) := Lib.hid HSWP.out
            rw [HD2.out] at HS
            rw [hx] at c0
            rw [hy] at c1
            clear hx hy HD2
            by_cases hne : j2 = a
            · subst hne
              have hxy : x = y := by have h := c0.symm.trans c1; simpa using h
              subst hxy
              go_region
              obtain ⟨wy, hwy⟩ : ∃ q, ((w2.setCell ⟨g, j2, none⟩ (.int .i32 x)).setCell ⟨g, j2, none⟩ (.int .i32 x)).drew = q := ⟨_, rfl⟩
              rw [hwy] at HS HBS ⊢
              go_wp2_with fail
              go_meet
              case rel => exact ⟨HS.out.1, HBS.out⟩
            · skip
              go_region
              obtain ⟨wy, hwy⟩ : ∃ q, ((w2.setCell ⟨g, j2, none⟩ (.int .i32 y)).setCell ⟨g, a, none⟩ (.int .i32 x)).drew = q := ⟨_, rfl⟩
              rw [hwy] at HS HBS ⊢
              go_wp2_with fail
              go_meet
              case rel => exact ⟨HS.out.1, HBS.out⟩
          case rest =>
            obtain ⟨hO, hB⟩ := hcut
            have HO5 := Lib.hid hO
            have HB5 := Lib.hid hB
            clear hO hB
            go_wp2_with fail
            go_ret2
            exact ⟨by rw [HRR.out]; rfl, by rw [HRR.out]; exact HO5.out, HB5.out⟩
        · have dg : decide ((i2 : Int) > (j2 : Int)) = false := decide_eq_false (by omega)
          have dgn : decide (j2 < i2) = false := decide_eq_false hgt
          have i2n : i2 < n := by omega
          have hgo := HGO.out hgt
          obtain ⟨i3, hi3⟩ : ∃ z, i2 + 1 = z := ⟨_, rfl⟩
          obtain ⟨j3, hj3⟩ : ∃ z, j2 - 1 = z := ⟨_, rfl⟩
          obtain ⟨d3, hd3⟩ : ∃ z, swp d0 i2 j2 = z := ⟨_, rfl⟩
          rw [hi3, hj3, hd3] at hgo
          obtain ⟨R2, hR2⟩ : ∃ z, partLoop ltInt a i3 j3 d3 = z := ⟨_, rfl⟩
          rw [hR2] at hgo
          have HRES := Lib.hid hgo.symm
          have HR2 := Lib.hid hR2
          have HSWP := Lib.hid hd3
          have ei3 : IntKind.i64.wrap ((i2 : Int) + 1) = (i3 : Int) := by have := HF2.out; rw [IntKind.wrap_i64]; omega
          have ej3 : IntKind.i64.wrap ((j2 : Int) - 1) = (j3 : Int) := by have := HF2.out; rw [IntKind.wrap_i64]; omega
          have H3 := Lib.hid (And.intro hi3 hj3)
          clear hgo hi3 hj3 hd3 hR2 HGO HSTOP
          go_upto_region 10 with fail
          go_cut [] (fun wx => Ow base g c n wx d3 ∧ RowKit.Below base w wx)
          case first =>
            have c0 := HO4.out.cell i2n
            have c1 := HO4.out.cell j2n
            have lg := HO4.out.lt
            have f0 := HO4.out.frozen i2
            have f1 := HO4.out.frozen j2
            obtain ⟨x, hx⟩ : ∃ z, d0[i2]! = z := ⟨_, rfl⟩
            obtain ⟨y, hy⟩ : ∃ z, d0[j2]! = z := ⟨_, rfl⟩
            have HS := Lib.hid (HO4.out.sw hn0 hx hy)
            have HBS := Lib.hid (HB4.out.trans HS.out.2)
            have HD2 : Hid (swp d0 i2 j2 = d3) := Lib.hid HSWP.out
            rw [HD2.out] at HS
            rw [hx] at c0
            rw [hy] at c1
            clear hx hy HD2
            by_cases hne : i2 = j2
            · subst hne
              have hxy : x = y := by have h := c0.symm.trans c1; simpa using h
              subst hxy
              go_region
              obtain ⟨wy, hwy⟩ : ∃ q, ((w2.setCell ⟨g, i2, none⟩ (.int .i32 x)).setCell ⟨g, i2, none⟩ (.int .i32 x)).drew = q := ⟨_, rfl⟩
              rw [hwy] at HS HBS ⊢
              go_wp2_with fail
              go_meet
              case rel => exact ⟨HS.out.1, HBS.out⟩
            · skip
              go_region
              obtain ⟨wy, hwy⟩ : ∃ q, ((w2.setCell ⟨g, i2, none⟩ (.int .i32 y)).setCell ⟨g, j2, none⟩ (.int .i32 x)).drew = q := ⟨_, rfl⟩
              rw [hwy] at HS HBS ⊢
              go_wp2_with fail
              go_meet
              case rel => exact ⟨HS.out.1, HBS.out⟩
          case rest =>
            obtain ⟨hO, hB⟩ := hcut
            obtain ⟨wl, rfl⟩ : ∃ x, x = wc := ⟨_, rfl⟩
            have HO5 := Lib.hid hO
            have HB5 := Lib.hid hB
            have hF3 : a < i3 ∧ i3 ≤ j3 + 2 ∧ j3 < n := by have := H3.out; have := HF2.out; omega
            have HF3 := Lib.hid hF3
            clear hO hB HO4 HB4 HP HQ HPV HI2 HJ2 P Q hF3
            go_wp2_with fail
            clear ei3 ej3
            go_loopw [10, 11] (fun x y wr => ∃ (i j : Nat) (d' : Array Int), x = .int .i64 (i : Int) ∧ y = .int .i64 (j : Int) ∧ a < i ∧ i ≤ j + 2 ∧ j < n ∧ partLoop ltInt a i j d' = R2 ∧ Ow base g c n wr d' ∧ RowKit.Below base w wr) (fun x y _ => (RowKit.intOf y).toNat + 1 - (RowKit.intOf x).toNat)
            case atStart => exact ⟨i3, j3, d3, rfl, rfl, HF3.out.1, HF3.out.2.1, HF3.out.2.2, HR2.out, HO5.out, HB5.out⟩
            case round =>
              obtain ⟨i, j, d1, rfl, rfl, hai, hij, hjn, hR, hO, hB⟩ := hrel
              obtain ⟨w0, rfl⟩ : ∃ x, x = wr := ⟨_, rfl⟩
              have HR := Lib.hid hR
              have HO2 := Lib.hid hO
              have HB2 := Lib.hid hB
              have HF := Lib.hid (show a < i ∧ 1 ≤ i ∧ j < n ∧ i ≤ j + 2 from ⟨hai, by omega, hjn, hij⟩)
              clear hR hO hB HO5 HB5 hai hij hjn
              obtain ⟨pv, hpv⟩ : ∃ z, d1[a]! = z := ⟨_, rfl⟩
              obtain ⟨P, hP⟩ : ∃ P, (fun x => ltInt x d1[a]!) = P := ⟨_, rfl⟩
              obtain ⟨Q, hQ⟩ : ∃ P, (fun x => !ltInt x d1[a]!) = P := ⟨_, rfl⟩
              obtain ⟨i2, hi2⟩ : ∃ z, scanUp P d1 j i = z := ⟨_, rfl⟩
              obtain ⟨j2, hj2⟩ : ∃ z, scanDown Q d1 i2 j = z := ⟨_, rfl⟩
              have hstop := pl_stop a i j i2 j2 d1 (by rw [hP]; exact hi2) (by rw [hQ]; exact hj2)
              have hgo := pl_go a i j i2 j2 d1 (by rw [hP]; exact hi2) (by rw [hQ]; exact hj2)
              have HP := Lib.hid (show ∀ z, P z = decide (z < pv) by intro z; rw [← hP, hpv]; rfl)
              have HQ := Lib.hid (show ∀ z, Q z = !decide (z < pv) by intro z; rw [← hQ, hpv]; rfl)
              have HPV := Lib.hid hpv
              have HI2 := Lib.hid hi2
              have HJ2 := Lib.hid hj2
              have HSTOP := Lib.hid hstop
              have HGO := Lib.hid hgo
              clear hpv hP hQ hi2 hj2 hstop hgo
              go_upto_block 6 with fail
              go_cut [10] (fun s wx => s = .int .i64 (i2 : Int) ∧ i ≤ i2 ∧ i2 ≤ j + 2 ∧ Ow base g c n wx d1 ∧ RowKit.Below base w wx)
              case first =>
                go_wp2_with fail
                go_loopw [10] (fun s wr => ∃ k : Nat, s = .int .i64 (k : Int) ∧ i ≤ k ∧ k ≤ j + 2 ∧ scanUp P d1 j k = i2 ∧ Ow base g c n wr d1 ∧ RowKit.Below base w wr) (fun s _ => j + 1 - (RowKit.intOf s).toNat)
                case atStart => exact ⟨i, rfl, Nat.le_refl _, by have := HF.out; omega, HI2.out, HO2.out, HB2.out⟩
                case round =>
                  obtain ⟨k, rfl, hk0, hk1, hR, hO, hB⟩ := hrel
                  have HRk := Lib.hid hR
                  have HOk := Lib.hid hO
                  have HBk := Lib.hid hB
                  clear hR hO hB
                  by_cases hlt : k ≤ j
                  case neg =>
                    have dk : decide ((k : Int) ≤ (j : Int)) = false := decide_eq_false (by omega)
                    have dkn : decide (k ≤ j) = false := decide_eq_false hlt
                    have HE := Lib.hid (show k = i2 by rw [← HRk.out]; exact (sup_stop _ _ _ _ (.inl hlt)).symm)
                    go_upto_region 13 with fail
                    go_quiet ((go_at_call 86; exact Calls.quiet_of_same (cL.out _ _ _)))
                    go_wp2_with fail
                    go_meet
                    case rel => exact ⟨by rw [HE.out], by rw [← HE.out]; exact hk0, by rw [← HE.out]; exact hk1, HOk.out.nq _, bnq HBk.out _⟩
                  have dk : decide ((k : Int) ≤ (j : Int)) = true := decide_eq_true (by omega)
                  have dkn : decide (k ≤ j) = true := decide_eq_true hlt
                  have kln : k < n := by have := HF.out; omega
                  have aln : a < n := by have := HF.out; omega
                  obtain ⟨k1, hk1'⟩ : ∃ x, k + 1 = x := ⟨_, rfl⟩
                  have ek : IntKind.i64.wrap ((k : Int) + 1) = (k1 : Int) := by have := HF.out; rw [IntKind.wrap_i64]; omega
                  obtain ⟨z, hz⟩ : ∃ z, d1[k]! = z := ⟨_, rfl⟩
                  have HX := Lib.hid hz
                  have hpz := (congrArg P hz).trans (HP.out z)
                  have hgo : P d1[k]! = true → scanUp P d1 j k1 = i2 := fun h => by rw [← HRk.out, sup_go _ _ _ _ hlt h, hk1']
                  have hsp : P d1[k]! = false → k = i2 := fun h => by rw [← HRk.out]; exact (sup_stop _ _ _ _ (.inr h)).symm
                  have HGO := Lib.hid hgo
                  have HSP := Lib.hid hsp
                  have HPZ := Lib.hid hpz
                  have HK1 := Lib.hid hk1'
                  have c0 := HOk.out.cell kln
                  have c1 := HOk.out.cell aln
                  have lg := HOk.out.lt
                  rw [HX.out] at c0
                  rw [HPV.out] at c1
                  clear hk1' hz hpz hgo hsp
                  by_cases hc : z < pv
                  · skip
                    have HG := Lib.hid (HGO.out (by rw [HPZ.out]; first | exact decide_eq_true hc | simp [hc] | (simp; omega)))
                    have CL := Lib.hid (fun w => cL.out z pv w)
                    rw [decide_eq_true hc] at CL
                    go_upto_region 13 with fail
                    go_quiet ((go_at_call 86; exact Calls.quiet_of_same (CL.out _)))
                    go_wp2_with fail
                    go_roundw
                    case rel => exact ⟨k1, rfl, by have := HK1.out; omega, by have := HK1.out; omega, HG.out, HOk.out.nq _, bnq HBk.out _⟩
                    case measure => simp [RowKit.intOf]; have := HK1.out; have := HF.out; omega
                  · skip
                    have HE := Lib.hid (HSP.out (by rw [HPZ.out]; first | exact decide_eq_false hc | simp [hc]))
                    have CL := Lib.hid (fun w => cL.out z pv w)
                    rw [decide_eq_false hc] at CL
                    go_upto_region 13 with fail
                    go_quiet ((go_at_call 86; exact Calls.quiet_of_same (CL.out _)))
                    go_wp2_with fail
                    go_meet
                    case rel => exact ⟨by rw [HE.out], by rw [← HE.out]; exact hk0, by rw [← HE.out]; exact hk1, HOk.out.nq _, bnq HBk.out _⟩
              case rest =>
                obtain ⟨rfl, hi2a, hi2b, hO, hB⟩ := hcut
                obtain ⟨w1, rfl⟩ : ∃ x, x = wc := ⟨_, rfl⟩
                have HO3 := Lib.hid hO
                have HB3 := Lib.hid hB
                have HF2 := Lib.hid (show a < i2 ∧ 1 ≤ i2 ∧ j < n ∧ i2 ≤ j + 2 by have := HF.out; omega)
                clear hO hB
                go_upto_block 8 with fail
                go_cut [11] (fun s wx => s = .int .i64 (j2 : Int) ∧ i2 ≤ j2 + 2 ∧ j2 ≤ j ∧ Ow base g c n wx d1 ∧ RowKit.Below base w wx)
                case first =>
                  go_wp2_with fail
                  go_loopw [11] (fun s wr => ∃ k : Nat, s = .int .i64 (k : Int) ∧ i2 ≤ k + 2 ∧ k ≤ j ∧ scanDown Q d1 i2 k = j2 ∧ Ow base g c n wr d1 ∧ RowKit.Below base w wr) (fun s _ => (RowKit.intOf s).toNat)
                  case atStart => exact ⟨j, rfl, by have := HF2.out; omega, Nat.le_refl _, HJ2.out, HO3.out, HB3.out⟩
                  case round =>
                    obtain ⟨k, rfl, hk0, hk1, hR, hO, hB⟩ := hrel
                    have HRk := Lib.hid hR
                    have HOk := Lib.hid hO
                    have HBk := Lib.hid hB
                    clear hR hO hB
                    by_cases hlt : i2 ≤ k
                    case neg =>
                      have dk : decide ((i2 : Int) ≤ (k : Int)) = false := decide_eq_false (by omega)
                      have dkn : decide (i2 ≤ k) = false := decide_eq_false hlt
                      have HE := Lib.hid (show k = j2 by rw [← HRk.out]; exact (sdn_stop _ _ _ _ (by have := HF2.out; omega) (.inl hlt)).symm)
                      go_upto_region 15 with fail
                      go_quiet ((go_at_call 86; exact Calls.quiet_of_same (cL.out _ _ _)))
                      go_wp2_with fail
                      go_meet
                      case rel => exact ⟨by rw [HE.out], by rw [← HE.out]; exact hk0, by rw [← HE.out]; exact hk1, HOk.out.nq _, bnq HBk.out _⟩
                    have dk : decide ((i2 : Int) ≤ (k : Int)) = true := decide_eq_true (by omega)
                    have dkn : decide (i2 ≤ k) = true := decide_eq_true hlt
                    have kln : k < n := by have := HF2.out; omega
                    have aln : a < n := by have := HF2.out; omega
                    obtain ⟨k1, hk1'⟩ : ∃ x, k - 1 = x := ⟨_, rfl⟩
                    have ek : IntKind.i64.wrap ((k : Int) - 1) = (k1 : Int) := by have := HF2.out; rw [IntKind.wrap_i64]; omega
                    obtain ⟨z, hz⟩ : ∃ z, d1[k]! = z := ⟨_, rfl⟩
                    have HX := Lib.hid hz
                    have hpz := (congrArg Q hz).trans (HQ.out z)
                    have hgo : Q d1[k]! = true → scanDown Q d1 i2 k1 = j2 := fun h => by
                      have h1 : k = k1 + 1 := by have := HF2.out; omega
                      rw [← HRk.out, h1, sdn_go _ _ _ _ (by omega) (by rw [← h1]; exact h)]
                    have hsp : Q d1[k]! = false → k = j2 := fun h => by rw [← HRk.out]; exact (sdn_stop _ _ _ _ (by have := HF2.out; omega) (.inr h)).symm
                    have HGO := Lib.hid hgo
                    have HSP := Lib.hid hsp
                    have HPZ := Lib.hid hpz
                    have HK1 := Lib.hid hk1'
                    have c0 := HOk.out.cell kln
                    have c1 := HOk.out.cell aln
                    have lg := HOk.out.lt
                    rw [HX.out] at c0
                    rw [HPV.out] at c1
                    clear hk1' hz hpz hgo hsp
                    by_cases hc : z < pv
                    · skip
                      have HE := Lib.hid (HSP.out (by rw [HPZ.out]; first | exact decide_eq_false hc | simp [hc]))
                      have CL := Lib.hid (fun w => cL.out z pv w)
                      rw [decide_eq_true hc] at CL
                      go_upto_region 15 with fail
                      go_quiet ((go_at_call 86; exact Calls.quiet_of_same (CL.out _)))
                      go_wp2_with fail
                      go_meet
                      case rel => exact ⟨by rw [HE.out], by rw [← HE.out]; exact hk0, by rw [← HE.out]; exact hk1, HOk.out.nq _, bnq HBk.out _⟩
                    · skip
                      have HG := Lib.hid (HGO.out (by rw [HPZ.out]; first | exact decide_eq_true hc | simp [hc] | (simp; omega)))
                      have CL := Lib.hid (fun w => cL.out z pv w)
                      rw [decide_eq_false hc] at CL
                      go_upto_region 15 with fail
                      go_quiet ((go_at_call 86; exact Calls.quiet_of_same (CL.out _)))
                      go_wp2_with fail
                      go_roundw
                      case rel => exact ⟨k1, rfl, by have := HK1.out; omega, by have := HK1.out; omega, HG.out, HOk.out.nq _, bnq HBk.out _⟩
                      case measure => simp [RowKit.intOf]; have := HK1.out; have := HF2.out; omega
                case rest =>
                  obtain ⟨rfl, hj2a, hj2b, hO, hB⟩ := hcut
                  obtain ⟨w2, rfl⟩ : ∃ x, x = wc := ⟨_, rfl⟩
                  have HO4 := Lib.hid hO
                  have HB4 := Lib.hid hB
                  clear hO hB HO2 HB2 HO3 HB3
                  have j2n : j2 < n := by have := HF2.out; omega
                  by_cases hgt : j2 < i2
                  · have dg : decide ((i2 : Int) > (j2 : Int)) = true := decide_eq_true (by omega)
                    have dgn : decide (j2 < i2) = true := decide_eq_true hgt
                    have hr2 : R2 = (j2, d1) := by rw [← HR.out]; exact HSTOP.out hgt
                    have hrr := HRES.out
                    rw [hr2] at hrr
                    obtain ⟨dR, hdR⟩ : ∃ z, swp d1 j2 a = z := ⟨_, rfl⟩
                    dsimp only at hrr
                    rw [hdR] at hrr
                    have HRR := Lib.hid hrr
                    have HSWP := Lib.hid hdR
                    clear hr2 hrr hdR
                    go_upto_region 21 with fail
                    go_cut [] (fun wx => Ow base g c n wx dR ∧ RowKit.Below base w wx)
                    case first =>
                      have c0 := HO4.out.cell j2n
                      have c1 := HO4.out.cell aln0
                      have lg := HO4.out.lt
                      have f0 := HO4.out.frozen j2
                      have f1 := HO4.out.frozen a
                      obtain ⟨x, hx⟩ : ∃ z, d1[j2]! = z := ⟨_, rfl⟩
                      obtain ⟨y, hy⟩ : ∃ z, d1[a]! = z := ⟨_, rfl⟩
                      have HS := Lib.hid (HO4.out.sw hn0 hx hy)
                      have HBS := Lib.hid (HB4.out.trans HS.out.2)
                      have HD2 : Hid (swp d1 j2 a = dR) := Lib.hid HSWP.out
                      rw [HD2.out] at HS
                      rw [hx] at c0
                      rw [hy] at c1
                      clear hx hy HD2
                      by_cases hne : j2 = a
                      · subst hne
                        have hxy : x = y := by have h := c0.symm.trans c1; simpa using h
                        subst hxy
                        go_region
                        obtain ⟨wy, hwy⟩ : ∃ q, ((w2.setCell ⟨g, j2, none⟩ (.int .i32 x)).setCell ⟨g, j2, none⟩ (.int .i32 x)).drew = q := ⟨_, rfl⟩
                        rw [hwy] at HS HBS ⊢
                        go_wp2_with fail
                        go_meet
                        case rel => exact ⟨HS.out.1, HBS.out⟩
                      · skip
                        go_region
                        obtain ⟨wy, hwy⟩ : ∃ q, ((w2.setCell ⟨g, j2, none⟩ (.int .i32 y)).setCell ⟨g, a, none⟩ (.int .i32 x)).drew = q := ⟨_, rfl⟩
                        rw [hwy] at HS HBS ⊢
                        go_wp2_with fail
                        go_meet
                        case rel => exact ⟨HS.out.1, HBS.out⟩
                    case rest =>
                      obtain ⟨hO, hB⟩ := hcut
                      have HO5 := Lib.hid hO
                      have HB5 := Lib.hid hB
                      clear hO hB
                      go_wp2_with fail
                      go_ret2
                      exact ⟨by rw [HRR.out]; rfl, by rw [HRR.out]; exact HO5.out, HB5.out⟩
                  · have dg : decide ((i2 : Int) > (j2 : Int)) = false := decide_eq_false (by omega)
                    have dgn : decide (j2 < i2) = false := decide_eq_false hgt
                    have hgo := HGO.out (by omega) hi2a hj2b
                    obtain ⟨i3, hi3⟩ : ∃ z, i2 + 1 = z := ⟨_, rfl⟩
                    obtain ⟨j3, hj3⟩ : ∃ z, j2 - 1 = z := ⟨_, rfl⟩
                    obtain ⟨d2, hd2⟩ : ∃ z, swp d1 i2 j2 = z := ⟨_, rfl⟩
                    rw [hi3, hj3, hd2, HR.out] at hgo
                    have HG := Lib.hid hgo.symm
                    have HSWP := Lib.hid hd2
                    have ei3 : IntKind.i64.wrap ((i2 : Int) + 1) = (i3 : Int) := by have := HF2.out; rw [IntKind.wrap_i64]; omega
                    have ej3 : IntKind.i64.wrap ((j2 : Int) - 1) = (j3 : Int) := by have := HF2.out; rw [IntKind.wrap_i64]; omega
                    have i2n : i2 < n := by have := HF2.out; omega
                    have H3 := Lib.hid (And.intro hi3 hj3)
                    clear hgo hi3 hj3 hd2
                    go_upto_region 18 with fail
                    go_cut [] (fun wx => Ow base g c n wx d2 ∧ RowKit.Below base w wx)
                    case first =>
                      have c0 := HO4.out.cell i2n
                      have c1 := HO4.out.cell j2n
                      have lg := HO4.out.lt
                      have f0 := HO4.out.frozen i2
                      have f1 := HO4.out.frozen j2
                      obtain ⟨x, hx⟩ : ∃ z, d1[i2]! = z := ⟨_, rfl⟩
                      obtain ⟨y, hy⟩ : ∃ z, d1[j2]! = z := ⟨_, rfl⟩
                      have HS := Lib.hid (HO4.out.sw hn0 hx hy)
                      have HBS := Lib.hid (HB4.out.trans HS.out.2)
                      have HD2 : Hid (swp d1 i2 j2 = d2) := Lib.hid HSWP.out
                      rw [HD2.out] at HS
                      rw [hx] at c0
                      rw [hy] at c1
                      clear hx hy HD2
                      by_cases hne : i2 = j2
                      · subst hne
                        have hxy : x = y := by have h := c0.symm.trans c1; simpa using h
                        subst hxy
                        go_region
                        obtain ⟨wy, hwy⟩ : ∃ q, ((w2.setCell ⟨g, i2, none⟩ (.int .i32 x)).setCell ⟨g, i2, none⟩ (.int .i32 x)).drew = q := ⟨_, rfl⟩
                        rw [hwy] at HS HBS ⊢
                        go_wp2_with fail
                        go_meet
                        case rel => exact ⟨HS.out.1, HBS.out⟩
                      · skip
                        go_region
                        obtain ⟨wy, hwy⟩ : ∃ q, ((w2.setCell ⟨g, i2, none⟩ (.int .i32 y)).setCell ⟨g, j2, none⟩ (.int .i32 x)).drew = q := ⟨_, rfl⟩
                        rw [hwy] at HS HBS ⊢
                        go_wp2_with fail
                        go_meet
                        case rel => exact ⟨HS.out.1, HBS.out⟩
                    case rest =>
                      obtain ⟨hO, hB⟩ := hcut
                      have HO5 := Lib.hid hO
                      have HB5 := Lib.hid hB
                      clear hO hB
                      go_wp2_with fail
                      go_roundw
                      case rel => exact ⟨i3, j3, d2, rfl, rfl, by have := H3.out; have := HF2.out; omega, by have := H3.out; have := HF2.out; omega, by have := H3.out; have := HF2.out; omega, HG.out, HO5.out, HB5.out⟩
                      case measure => simp [RowKit.intOf]; have := H3.out; have := HF2.out; have := HF.out; omega
end Go.Proofs.YtgppobaoclfgcaaGreatDoor
