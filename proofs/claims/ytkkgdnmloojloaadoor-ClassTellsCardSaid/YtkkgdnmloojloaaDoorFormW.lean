/- Chapter 4: ClassForm: what the code computes. Conditions: what each lemma says. -/
import Derived.Test.YtkkgdnmloojloaaDoorLawsW
import Derived.Deep.RegionHeld3
import Derived.Deep.QuietTactic
import Derived.Deep.Cut
import Derived.Deep.DeepCutAuto
set_option linter.unusedVariables false
set_option linter.unusedSimpArgs false
namespace Go.Proofs.YtkkgdnmloojloaaDoor.Plain
/-- a range cut in two where it may be -/
def backF (k : Int) (r : Rg) : List Rg :=
  if 0 ≤ r.1 ∧ r.2 ≤ 1114111 ∧ r.1 ≤ IntKind.i32.wrap (r.1 + k) ∧ IntKind.i32.wrap (r.1 + k) < r.2 then [(IntKind.i32.wrap (r.1 + k) + 1, r.2), (r.1, IntKind.i32.wrap (r.1 + k))] else [r]
def backs (k : Int) (L : List Rg) (j : Nat) : List Rg := (L.drop j).reverse.flatMap (backF k)
theorem backF_len (k : Int) (r : Rg) : (backF k r).length ≤ 2 := by unfold backF; split <;> simp
theorem backs_end (k : Int) (L : List Rg) : backs k L L.length = [] := by unfold backs; rw [List.drop_length]; rfl
theorem backs_step (k : Int) (L : List Rg) (j : Nat) (hj : j < L.length) : backs k L j = backs k L (j + 1) ++ backF k L[j] := by
  unfold backs
  rw [List.drop_eq_getElem_cons hj, List.reverse_cons, List.flatMap_append]
  simp
theorem flat_len (k : Int) : ∀ L : List Rg, (L.flatMap (backF k)).length ≤ 2 * L.length := by
  intro L
  induction L with
  | nil => simp
  | cons r L ih => have := backF_len k r; rw [List.flatMap_cons, List.length_append, List.length_cons]; omega
theorem backs_len (k : Int) (L : List Rg) (j : Nat) : (backs k L j).length ≤ 2 * L.length := by
  have := flat_len k (L.drop j).reverse
  unfold backs
  rw [List.length_reverse, List.length_drop] at this
  omega
theorem backF_in (k : Int) (r : Rg) (x : Int) : In ((backF k r).filter mayB) x ↔ In ([r].filter mayB) x := by
  unfold backF
  split
  · rename_i h
    obtain ⟨h1, h2, h3, h4⟩ := h
    generalize IntKind.i32.wrap (r.1 + k) = m at *
    have m1 : mayB (m + 1, r.2) = true := (mayB_iff _).2 ⟨by show 0 ≤ m + 1; omega, h2, by show m + 1 ≤ r.2; omega⟩
    have m2 : mayB (r.1, m) = true := (mayB_iff _).2 ⟨h1, by show m ≤ _; omega, h3⟩
    have m3 : mayB r = true := (mayB_iff _).2 ⟨h1, h2, by omega⟩
    rw [List.filter_cons, if_pos m1, List.filter_cons, if_pos m2, List.filter_cons, if_pos m3, List.filter_nil, In_cons, In_cons, In_cons]
    simp only [In_nil, or_false]
    omega
  · exact Iff.rfl
theorem flat_in (k : Int) (x : Int) : ∀ L : List Rg, In ((L.flatMap (backF k)).filter mayB) x ↔ In (L.filter mayB) x := by
  intro L
  induction L with
  | nil => exact Iff.rfl
  | cons r L ih =>
    rw [List.flatMap_cons, List.filter_append, In_append, backF_in, ih, ← In_append, ← List.filter_append]
    rfl
theorem cls_backs (k : Int) (L : List Rg) : cls (backs k L 0) = cls L := by
  refine Norm_unique (cls_norm _) (cls_norm _) fun x => ?_
  rw [cls_in, cls_in]
  unfold backs
  rw [flat_in, List.drop_zero]
  constructor
  · rintro ⟨r, h1, h2⟩; rw [List.mem_filter, List.mem_reverse] at h1; exact ⟨r, List.mem_filter.2 h1, h2⟩
  · rintro ⟨r, h1, h2⟩; rw [List.mem_filter] at h1; exact ⟨r, by rw [List.mem_filter, List.mem_reverse]; exact h1, h2⟩
end Go.Proofs.YtkkgdnmloojloaaDoor.Plain
namespace Go.Proofs.YtkkgdnmloojloaaDoor
open Go.RowKit Go.Lib
open Plain (Rg Rn May mayB In Norm cls cnot rightB runOf backF backs)
theorem runOf_wide (x : Rn) (h : RnOk x) : -2147483648 ≤ (runOf x).1 ∧ (runOf x).1 < 2147483648 ∧ -2147483648 ≤ (runOf x).2 ∧ (runOf x).2 < 2147483648 := by
  obtain ⟨a1, a2, a3, a4, a5, a6, a7, a8⟩ := h
  unfold runOf
  split
  · split
    · refine ⟨?_, ?_, ?_, ?_⟩ <;> dsimp only <;> omega
    · refine ⟨?_, ?_, ?_, ?_⟩ <;> dsimp only <;> omega
  · exact ⟨a1, a2, a3, a4⟩
theorem runs_wide (X : List Rn) (m : Nat) (h : ∀ x ∈ X, RnOk x) : Wide (runsOf X m) := fun r hr => by
  unfold runsOf at hr
  obtain ⟨x, hx, rfl⟩ := List.mem_map.1 hr
  exact runOf_wide x (h x (List.mem_of_mem_take hx))
def BackRel (w : World) (k : Int) (L : List Rg) (n : Nat) (v i : Value) (wr : World) : Prop :=
  ∃ j : Nat, j ≤ n ∧ i = .int .i64 ((j : Int) - 1) ∧ wr.ownsRow w.heap.size 82 2 v (backs k L j).length (rgs (backs k L j)) ∧ Below w.heap.size w wr
def ChkRel (w : World) (n : Nat) (i : Value) (wr : World) : Prop := ∃ k : Nat, k ≤ n ∧ i = .int .i64 k ∧ Below w.heap.size w wr
set_option maxRecDepth 100000 in
set_option maxHeartbeats 8000000 in
theorem form_walk (X : List Rn) (A : Option Addr) (n c : Nat) (cut k4 : Nat) (W : World) (hcut : cut < 256)
    (h4 : (cut : Int) % 4 = (k4 : Int)) (h4' : Int.tmod (cut : Int) 4 = (k4 : Int)) (h420 : k4 < 4)
    (hX : Rns W A X) (hR : X.length = n) (hn : n ≤ maxLen) (hok : ∀ x ∈ X, RnOk x) (hT : Tz W) :
    Calls Tryd.prog 11 #[.slice A n c, .int .u8 cut] W fun e w' => e = .returned (.bool true) ∧ Below W.heap.size W w' := by
  obtain ⟨i82, hi82, y0, y1, y2⟩ := info_parts info82
  have HT := Lib.hid hT
  have HX := Lib.hid hX
  have HR := Lib.hid hR
  have HN := Lib.hid hn
  have HOK := Lib.hid hok
  clear hT hX hR hn hok
  have e4 : IntKind.i32.wrap (k4 : Int) = (k4 : Int) := by rw [IntKind.wrap_i32]; omega
  go_enter Tryd.func11, Tryd.ntmps11
  have HB0 := Lib.hid (Below.refl W.heap.size W)
  go_wp2_with fail
  refine (classEx_any W HT.out).mono ?_
  rintro en1 w1 ⟨rfl, hb⟩
  have HB1 := Lib.hid (below_then HB0.out hb)
  clear hb
  go_wp2_with fail
  refine ((runs_cl 12 (HX.out.below HB1.out) HR.out (by decide) HN.out HOK.out)).mono ?_
  rintro en2 w2 ⟨AD, nD, cD, rfl, hD, hb⟩
  have HB2 := Lib.hid (below_then HB1.out hb)
  have HD2 := Lib.hid hD
  clear hb hD
  go_wp2_with fail
  refine ((of_cl HD2.out (Nat.le_trans (runs_len X 12) (by decide)))).mono ?_
  rintro en3 w3 ⟨AP, nP, cP, rfl, hP, hb⟩
  have HB3 := Lib.hid (below_then HB2.out hb)
  have HD3 := Lib.hid (HD2.out.below hb)
  have HP3 := Lib.hid hP
  clear hb hP
  have hwide := runs_wide X 12 HOK.out
  have hll := runs_len X 12
  obtain ⟨L, hL⟩ : ∃ C, runsOf X 12 = C := ⟨_, rfl⟩
  obtain ⟨C, hC⟩ : ∃ C, cls L = C := ⟨_, rfl⟩
  rw [hL] at hwide hll HD3 HP3
  rw [hC] at HP3
  have hNC : Norm C := by rw [← hC]; exact Plain.cls_norm _
  have hLC : C.length ≤ 12 := by rw [← hC]; exact Nat.le_trans (Plain.cls_len _) hll
  have hbk : cls (backs (k4 : Int) L 0) = C := by rw [Plain.cls_backs, hC]
  have hnD := HD3.out.2.1
  have hnP := HP3.out.2.1
  have hd12 : nD ≤ 12 := by rw [← hnD]; exact hll
  have hp12 : nP ≤ 12 := by rw [← hnP]; exact hLC
  have HW := Lib.hid hwide
  have HNC := Lib.hid hNC
  have HLC := Lib.hid hLC
  have HBK := Lib.hid hbk
  have HND := Lib.hid hnD
  have HNP := Lib.hid hnP
  clear hwide hNC hLC hbk hnD hnP hC hL hll
  have f1 : IntKind.i64.wrap ((nD : Int) - 1) = (nD : Int) - 1 := by rw [IntKind.wrap_i64]; omega
  go_wp2_with fail
  go_loopw [8, 9] (fun v i wr => BackRel w3 (k4 : Int) L nD v i wr) (fun _ i _ => (RowKit.intOf i + 1).toNat)
  case atStart =>
    refine ⟨nD, Nat.le_refl _, rfl, ?_, Below.refl _ _⟩
    rw [← HND.out, Plain.backs_end]
    exact World.ownsRow_nil _ _ _ _
  case round =>
    obtain ⟨j, hj, rfl, hO, hB⟩ := hrel
    obtain ⟨ua, uc, rfl⟩ := own_slice hO
    obtain ⟨bl, hbl⟩ : ∃ b, (backs (k4 : Int) L j).length = b := ⟨_, rfl⟩
    have hb24 : bl ≤ 24 := by have := Plain.backs_len (k4 : Int) L j; rw [hbl, HND.out] at this; omega
    rw [hbl] at hO ⊢
    have HO := Lib.hid hO
    have HB := Lib.hid hB
    have HBL := Lib.hid hbl
    clear hO hB hbl
    rcases Nat.eq_zero_or_pos j with h0 | h0
    · subst h0
      obtain ⟨w5, rfl⟩ : ∃ w5, w5 = wr := ⟨_, rfl⟩
      have HP5 := Lib.hid (HP3.out.below HB.out)
      have HB5 := Lib.hid (below_then HB3.out HB.out)
      have HBB := Lib.hid (Cl.of_own HO.out HBL.out)
      have hof := fun w (h : Cl w ua bl uc (backs (k4 : Int) L 0)) => of_cl h (by rw [HBL.out]; omega)
      rw [HBK.out] at hof
      have HOF := Lib.hid hof
      clear hof
      go_wp2_with fail
      refine ((HOF.out _ HBB.out)).mono ?_
      rintro en6 w6 ⟨AQ, nQ, cQ, rfl, hQ, hb⟩
      have HB6 := Lib.hid (below_then HB5.out hb)
      have HP6 := Lib.hid (HP5.out.below hb)
      have HQ6 := Lib.hid hQ
      clear hb hQ
      go_wp2_with fail
      go_loopw [13] (fun i wr => ChkRel w6 nP i wr) (fun i _ => nP - (RowKit.intOf i).toNat)
      case atStart => exact ⟨0, Nat.zero_le _, rfl, Below.refl _ _⟩
      case round =>
        obtain ⟨k, hk, rfl, hB⟩ := hrel
        by_cases hlt : k < nP
        · have hkl : k < C.length := by rw [HNP.out]; exact hlt
          have hrs := HP6.out.1.below hB
          obtain ⟨ba, off, rfl, hba, c0, c1⟩ := hrs.get k hkl
          obtain ⟨x, hx⟩ : ∃ x, C[k] = x := ⟨_, rfl⟩
          have hm := Plain.Norm_may HNC.out x (by rw [← hx]; exact List.getElem_mem hkl)
          rw [hx] at c0 c1
          rcases Nat.eq_zero_or_pos k with h0 | h0
          · subst h0
            simp only [Nat.zero_mul, Nat.add_zero] at c0 c1
            obtain ⟨lo, hi⟩ := x
            obtain ⟨b1, b2, b3⟩ := hm
            dsimp only at c0 c1 b1 b2 b3
            have g1 : decide (lo > hi) = false := by simp; omega
            have g2 : decide (lo < 0) = false := by simp; omega
            have g3 : decide (hi > 1114111) = false := by simp; omega
            have g4 : decide (((0 : Nat) : Int) > 0) = false := by decide
            have HB7 := Lib.hid hB
            clear hB hx
            go_upto_region 19 with fail
            go_quiet (fail)
            all_goals
              go_wp2_with fail
              go_roundw
              case rel =>
                refine ⟨0 + 1, by omega, by go_num, HB7.out.trans (by exact ⟨rfl, rfl, rfl, Nat.le_refl _, fun _ _ => rfl⟩)⟩
              case measure => simp [RowKit.intOf]; omega
          · obtain ⟨p, hpk⟩ : ∃ p, k = p + 1 := ⟨k - 1, by omega⟩
            obtain ⟨ba2, off2, hv2, _, d0, d1⟩ := hrs.get p (by omega)
            injection hv2 with hv2
            injection hv2 with hv3 hv4
            subst hv3 hv4
            obtain ⟨y, hy⟩ : ∃ y, C[p] = y := ⟨_, rfl⟩
            have hgap : y.2 + 1 < x.1 := by
              have hs : C = C.take k ++ C.drop k := (List.take_append_drop _ _).symm
              have hn2 := HNC.out
              rw [hs, Plain.Norm_append] at hn2
              refine hn2.2.2 y ?_ x ?_
              · rw [hpk, List.take_succ_eq_append_getElem (by omega), hy]; simp
              · rw [List.drop_eq_getElem_cons hkl, hx]; simp
            have hym := Plain.Norm_may HNC.out y (by rw [← hy]; exact List.getElem_mem _)
            rw [hy] at d0 d1
            obtain ⟨plo, ph⟩ := y
            obtain ⟨a1, a2, a3⟩ := hym
            obtain ⟨lo, hi⟩ := x
            obtain ⟨b1, b2, b3⟩ := hm
            dsimp only at c0 c1 b1 b2 b3 d0 d1 hgap a1 a2 a3
            have g1 : decide (lo > hi) = false := by simp; omega
            have g2 : decide (lo < 0) = false := by simp; omega
            have g3 : decide (hi > 1114111) = false := by simp; omega
            have hpc : (k : Int) - 1 = (p : Int) := by omega
            have g4 : decide ((k : Int) > 0) = true := by simp; omega
            have g4n : decide (0 < k) = true := by simp; omega
            have g5 : IntKind.i64.wrap ((k : Int) - 1) = (p : Int) := by rw [hpc, IntKind.wrap_i64]; omega
            have g8 : (0 : Int) ≤ (p : Int) := by omega
            have g9 : (p : Int) < (nP : Int) := by omega
            have g6 : IntKind.i32.wrap (ph + 1) = ph + 1 := by rw [IntKind.wrap_i32]; omega
            have g7 : decide (lo ≤ ph + 1) = false := by simp; omega
            have HB7 := Lib.hid hB
            clear hB hx hgap hy hpk
            go_upto_region 19 with fail
            go_quiet (fail)
            all_goals
              go_wp2_with fail
              go_roundw
              case rel =>
                refine ⟨k + 1, by omega, by go_num, HB7.out.trans (by exact ⟨rfl, rfl, rfl, Nat.le_refl _, fun _ _ => rfl⟩)⟩
              case measure => simp [RowKit.intOf]; omega
        · obtain rfl : k = nP := by omega
          obtain ⟨w7, rfl⟩ : ∃ w7, w7 = wr := ⟨_, rfl⟩
          have HP7 := Lib.hid (HP6.out.below hB)
          have HQ7 := Lib.hid (HQ6.out.below hB)
          have HB7 := Lib.hid (below_then HB6.out hB)
          clear hB
          have hl := Nat.le_trans HLC.out (by decide : 12 ≤ 10000)
          have HL := Lib.hid hl
          clear hl
          have hrt : ∀ w, Cl w AP k cP C → Calls Tryd.prog 40 #[.slice AP k cP] w fun e w' => e = .returned (.bool true) ∧ Below w.heap.size w w' := fun w h => by
            have h1 := right_cl h HL.out
            rw [(Plain.rightB_iff C).2 ⟨HNC.out, Nat.le_trans HLC.out (by decide)⟩] at h1
            exact h1
          have hof2 : ∀ w, Cl w AP k cP C → Calls Tryd.prog 34 #[.slice AP k cP] w (ClPost C w) := fun w h => by
            have h1 := of_cl h HL.out
            rw [Plain.cls_self HNC.out] at h1
            exact h1
          have HRT := Lib.hid hrt
          have HOF2 := Lib.hid hof2
          clear hrt hof2
          go_wp2_with fail
          refine ((same_true HP7.out HQ7.out HL.out)).mono ?_
          rintro en8 w8 ⟨rfl, hb⟩
          have HB8 := Lib.hid (below_then HB7.out hb)
          have HP8 := Lib.hid (HP7.out.below hb)
          have HQ8 := Lib.hid (HQ7.out.below hb)
          clear hb
          go_wp2_with fail
          refine ((HOF2.out _ HP8.out)).mono ?_
          rintro en9 w9 ⟨AZ, nZ, cZ, rfl, hZ, hb⟩
          have HB9 := Lib.hid (below_then HB8.out hb)
          have HP9 := Lib.hid (HP8.out.below hb)
          have HQ9 := Lib.hid (HQ8.out.below hb)
          have HZ9 := Lib.hid hZ
          clear hb hZ
          go_wp2_with fail
          refine ((same_true HZ9.out HP9.out HL.out)).mono ?_
          rintro en10 w10 ⟨rfl, hb⟩
          have HB10 := Lib.hid (below_then HB9.out hb)
          have HP10 := Lib.hid (HP9.out.below hb)
          have HQ10 := Lib.hid (HQ9.out.below hb)
          have HZ10 := Lib.hid (HZ9.out.below hb)
          clear hb
          go_wp2_with fail
          refine ((HRT.out _ HP10.out)).mono ?_
          rintro en11 w11 ⟨rfl, hb⟩
          have HB11 := Lib.hid (below_then HB10.out hb)
          have HP11 := Lib.hid (HP10.out.below hb)
          have HQ11 := Lib.hid (HQ10.out.below hb)
          have HZ11 := Lib.hid (HZ10.out.below hb)
          clear hb
          go_wp2_with fail
          go_ret
          exact ⟨rfl, HB11.out⟩
    · obtain ⟨p, rfl⟩ : ∃ p, j = p + 1 := ⟨j - 1, by omega⟩
      have hp1 : ((p + 1 : Nat) : Int) - 1 = (p : Int) := by omega
      rw [hp1]
      have hpl : p < L.length := by rw [HND.out]; omega
      obtain ⟨ba, off, rfl, hba, c0, c1⟩ := (HD3.out.1.below HB.out).get p hpl
      obtain ⟨x, hx⟩ : ∃ x, L[p] = x := ⟨_, rfl⟩
      have hwd := HW.out x (by rw [← hx]; exact List.getElem_mem hpl)
      have hnext := Plain.backs_step (k4 : Int) L p hpl
      rw [hx] at c0 c1 hnext
      obtain ⟨lo, hi⟩ := x
      obtain ⟨b1, b2, b3, b4⟩ := hwd
      dsimp only at c0 c1 b1 b2 b3 b4
      obtain ⟨mm, hmm⟩ : ∃ mm, IntKind.i32.wrap (lo + (k4 : Int)) = mm := ⟨_, rfl⟩
      have hdec : IntKind.i64.wrap ((p : Int) - 1) = (p : Int) - 1 := by rw [IntKind.wrap_i64]; omega
      have dp : decide ((p : Int) ≥ 0) = true := by simp
      have HNX := Lib.hid hnext
      clear hnext hx
      go_upto_region 11 with fail
      obtain ⟨wa, hwa⟩ : ∃ x, wr.alloc (.cells #[.int .i32 lo, .int .i32 hi] 82) = x := ⟨_, rfl⟩
      have hba2 : Below wr.heap.size wr wa := by rw [← hwa]; exact (Below.refl _ _).alloc (Nat.le_refl _) _
      have hxa : wa.heap[wr.heap.size]? = some (.cells #[.int .i32 lo, .int .i32 hi] 82 (0, 0)) := by rw [← hwa]; exact heap_alloc_new2 _ _ _ _ rfl
      rw [hwa]
      obtain ⟨x0, x1, x2, x3⟩ := box2 hxa
      have lx := lt_of_some hxa
      have HBA := Lib.hid (below_then HB.out hba2)
      have HOA := Lib.hid (own_below HO.out hba2)
      clear hwa hba2 hxa c0 c1 hba
      by_cases k1 : 0 ≤ lo
      · have g1 : decide (lo ≥ 0) = true := by simp [k1]
        by_cases k2 : hi ≤ 1114111
        · have g2 : decide (hi ≤ 1114111) = true := by simp [k2]
          by_cases k3 : lo ≤ mm
          · have g3 : decide (mm ≥ lo) = true := by simp [k3]
            by_cases k5 : mm < hi
            · have g5 : decide (mm < hi) = true := by simp [k5]
              have hbF : backF (k4 : Int) (lo, hi) = [(mm + 1, hi), (lo, mm)] := by
                unfold backF; dsimp only; rw [if_pos (by rw [hmm]; exact ⟨by omega, by omega, by omega, by omega⟩), hmm]
              have ew : IntKind.i32.wrap (mm + 1) = mm + 1 := by rw [IntKind.wrap_i32]; omega
              rw [hbF] at HNX
              have HBF := Lib.hid hbF
              clear hbF
              go_wp2_with (at_builtin; refine wpList_append_own2 _ rfl (.tmp 58) (.tmp 68) _ rfl w3.heap.size 82 i82 _ 2 8 Tryd.underlying59 hi82 y0 y1 y2 rfl (by decide) (.slice ua bl uc) bl (rgs (backs (k4 : Int) L (p + 1))) rfl (HOA.out.alloc _) ⟨wa.heap.size, 0, none⟩ 2 2 [.int .i32 (mm + 1), .int .i32 hi, .int .i32 lo, .int .i32 mm] rfl rfl (CellsAt_add (CellsAt.new wa _ _)) ?c2a ?c3a ?c4a ?c5a ?_)
              case c2a => first | exact ⟨rfl, rfl⟩ | exact ⟨rfl, rfl, rfl, rfl⟩ | (intro u hu; simp only [List.mem_cons, List.not_mem_nil, or_false] at hu; rcases hu with rfl | rfl | rfl | rfl <;> rfl) | (intro u hu; simp only [List.mem_cons, List.not_mem_nil, or_false] at hu; rcases hu with rfl | rfl <;> rfl)
              case c3a => simp only [maxLen]; omega
              case c4a => omega
              case c5a => have := HBA.out.size; simp; omega
              intro v3 w7 hown2 hg2 hvb
              have hBn : Below w3.heap.size w3 w7 := (HBA.out.alloc HBA.out.size _).grown hg2 (by have := HBA.out.size; simp; omega) (fun g hg => (HOA.out.lt g hg).1)
              have HBn := Lib.hid hBn
              have HO7 := Lib.hid hown2
              clear hBn hg2 hown2 hvb x0 x1 x2 x3 lx
              go_wp2
              go_roundw
              case rel =>
                refine ⟨p, by omega, rfl, ?_, HBn.out⟩
                rw [HNX.out, List.length_append, HBL.out, rgs_append]
                exact HO7.out
              case measure => simp [RowKit.intOf]
            · have g5 : decide (mm < hi) = false := by simp; omega
              have hbF : backF (k4 : Int) (lo, hi) = [(lo, hi)] := by
                unfold backF; dsimp only; rw [hmm, if_neg (by omega)]
              rw [hbF] at HNX
              have HBF := Lib.hid hbF
              clear hbF
              go_wp2_with (at_builtin; refine wpList_append_own2 _ rfl (.tmp 70) (.tmp 72) _ rfl w3.heap.size 82 i82 _ 2 8 Tryd.underlying59 hi82 y0 y1 y2 rfl (by decide) (.slice ua bl uc) bl (rgs (backs (k4 : Int) L (p + 1))) rfl (HOA.out.alloc _) ⟨wa.heap.size, 0, none⟩ 1 1 [.int .i32 lo, .int .i32 hi] rfl rfl (CellsAt_add (CellsAt.new wa _ _)) ?c2b ?c3b ?c4b ?c5b ?_)
              case c2b => first | exact ⟨rfl, rfl⟩ | exact ⟨rfl, rfl, rfl, rfl⟩ | (intro u hu; simp only [List.mem_cons, List.not_mem_nil, or_false] at hu; rcases hu with rfl | rfl | rfl | rfl <;> rfl) | (intro u hu; simp only [List.mem_cons, List.not_mem_nil, or_false] at hu; rcases hu with rfl | rfl <;> rfl)
              case c3b => simp only [maxLen]; omega
              case c4b => omega
              case c5b => have := HBA.out.size; simp; omega
              intro v3 w7 hown2 hg2 hvb
              have hBn : Below w3.heap.size w3 w7 := (HBA.out.alloc HBA.out.size _).grown hg2 (by have := HBA.out.size; simp; omega) (fun g hg => (HOA.out.lt g hg).1)
              have HBn := Lib.hid hBn
              have HO7 := Lib.hid hown2
              clear hBn hg2 hown2 hvb x0 x1 x2 x3 lx
              go_wp2
              go_roundw
              case rel =>
                refine ⟨p, by omega, rfl, ?_, HBn.out⟩
                rw [HNX.out, List.length_append, HBL.out, rgs_append]
                exact HO7.out
              case measure => simp [RowKit.intOf]
          · have g3 : decide (mm ≥ lo) = false := by simp; omega
            have hbF : backF (k4 : Int) (lo, hi) = [(lo, hi)] := by
              unfold backF; dsimp only; rw [hmm, if_neg (by omega)]
            rw [hbF] at HNX
            have HBF := Lib.hid hbF
            clear hbF
            go_wp2_with (at_builtin; refine wpList_append_own2 _ rfl (.tmp 70) (.tmp 72) _ rfl w3.heap.size 82 i82 _ 2 8 Tryd.underlying59 hi82 y0 y1 y2 rfl (by decide) (.slice ua bl uc) bl (rgs (backs (k4 : Int) L (p + 1))) rfl (HOA.out.alloc _) ⟨wa.heap.size, 0, none⟩ 1 1 [.int .i32 lo, .int .i32 hi] rfl rfl (CellsAt_add (CellsAt.new wa _ _)) ?c2c ?c3c ?c4c ?c5c ?_)
            case c2c => first | exact ⟨rfl, rfl⟩ | exact ⟨rfl, rfl, rfl, rfl⟩ | (intro u hu; simp only [List.mem_cons, List.not_mem_nil, or_false] at hu; rcases hu with rfl | rfl | rfl | rfl <;> rfl) | (intro u hu; simp only [List.mem_cons, List.not_mem_nil, or_false] at hu; rcases hu with rfl | rfl <;> rfl)
            case c3c => simp only [maxLen]; omega
            case c4c => omega
            case c5c => have := HBA.out.size; simp; omega
            intro v3 w7 hown2 hg2 hvb
            have hBn : Below w3.heap.size w3 w7 := (HBA.out.alloc HBA.out.size _).grown hg2 (by have := HBA.out.size; simp; omega) (fun g hg => (HOA.out.lt g hg).1)
            have HBn := Lib.hid hBn
            have HO7 := Lib.hid hown2
            clear hBn hg2 hown2 hvb x0 x1 x2 x3 lx
            go_wp2
            go_roundw
            case rel =>
              refine ⟨p, by omega, rfl, ?_, HBn.out⟩
              rw [HNX.out, List.length_append, HBL.out, rgs_append]
              exact HO7.out
            case measure => simp [RowKit.intOf]
        · have g2 : decide (hi ≤ 1114111) = false := by simp; omega
          have hbF : backF (k4 : Int) (lo, hi) = [(lo, hi)] := by
            unfold backF; dsimp only; rw [hmm, if_neg (by omega)]
          rw [hbF] at HNX
          have HBF := Lib.hid hbF
          clear hbF
          go_wp2_with (at_builtin; refine wpList_append_own2 _ rfl (.tmp 70) (.tmp 72) _ rfl w3.heap.size 82 i82 _ 2 8 Tryd.underlying59 hi82 y0 y1 y2 rfl (by decide) (.slice ua bl uc) bl (rgs (backs (k4 : Int) L (p + 1))) rfl (HOA.out.alloc _) ⟨wa.heap.size, 0, none⟩ 1 1 [.int .i32 lo, .int .i32 hi] rfl rfl (CellsAt_add (CellsAt.new wa _ _)) ?c2d ?c3d ?c4d ?c5d ?_)
          case c2d => first | exact ⟨rfl, rfl⟩ | exact ⟨rfl, rfl, rfl, rfl⟩ | (intro u hu; simp only [List.mem_cons, List.not_mem_nil, or_false] at hu; rcases hu with rfl | rfl | rfl | rfl <;> rfl) | (intro u hu; simp only [List.mem_cons, List.not_mem_nil, or_false] at hu; rcases hu with rfl | rfl <;> rfl)
          case c3d => simp only [maxLen]; omega
          case c4d => omega
          case c5d => have := HBA.out.size; simp; omega
          intro v3 w7 hown2 hg2 hvb
          have hBn : Below w3.heap.size w3 w7 := (HBA.out.alloc HBA.out.size _).grown hg2 (by have := HBA.out.size; simp; omega) (fun g hg => (HOA.out.lt g hg).1)
          have HBn := Lib.hid hBn
          have HO7 := Lib.hid hown2
          clear hBn hg2 hown2 hvb x0 x1 x2 x3 lx
          go_wp2
          go_roundw
          case rel =>
            refine ⟨p, by omega, rfl, ?_, HBn.out⟩
            rw [HNX.out, List.length_append, HBL.out, rgs_append]
            exact HO7.out
          case measure => simp [RowKit.intOf]
      · have g1 : decide (lo ≥ 0) = false := by simp; omega
        have hbF : backF (k4 : Int) (lo, hi) = [(lo, hi)] := by
          unfold backF; dsimp only; rw [hmm, if_neg (by omega)]
        rw [hbF] at HNX
        have HBF := Lib.hid hbF
        clear hbF
        go_wp2_with (at_builtin; refine wpList_append_own2 _ rfl (.tmp 70) (.tmp 72) _ rfl w3.heap.size 82 i82 _ 2 8 Tryd.underlying59 hi82 y0 y1 y2 rfl (by decide) (.slice ua bl uc) bl (rgs (backs (k4 : Int) L (p + 1))) rfl (HOA.out.alloc _) ⟨wa.heap.size, 0, none⟩ 1 1 [.int .i32 lo, .int .i32 hi] rfl rfl (CellsAt_add (CellsAt.new wa _ _)) ?c2e ?c3e ?c4e ?c5e ?_)
        case c2e => first | exact ⟨rfl, rfl⟩ | exact ⟨rfl, rfl, rfl, rfl⟩ | (intro u hu; simp only [List.mem_cons, List.not_mem_nil, or_false] at hu; rcases hu with rfl | rfl | rfl | rfl <;> rfl) | (intro u hu; simp only [List.mem_cons, List.not_mem_nil, or_false] at hu; rcases hu with rfl | rfl <;> rfl)
        case c3e => simp only [maxLen]; omega
        case c4e => omega
        case c5e => have := HBA.out.size; simp; omega
        intro v3 w7 hown2 hg2 hvb
        have hBn : Below w3.heap.size w3 w7 := (HBA.out.alloc HBA.out.size _).grown hg2 (by have := HBA.out.size; simp; omega) (fun g hg => (HOA.out.lt g hg).1)
        have HBn := Lib.hid hBn
        have HO7 := Lib.hid hown2
        clear hBn hg2 hown2 hvb x0 x1 x2 x3 lx
        go_wp2
        go_roundw
        case rel =>
          refine ⟨p, by omega, rfl, ?_, HBn.out⟩
          rw [HNX.out, List.length_append, HBL.out, rgs_append]
          exact HO7.out
        case measure => simp [RowKit.intOf]
end Go.Proofs.YtkkgdnmloojloaaDoor
namespace Go.Proofs.YtkkgdnmloojloaaDoor
open Go.RowKit Go.Lib Go.ChangeShapes Go.WideShapes
set_option maxRecDepth 100000 in
theorem form_all (a1 : Int) {H : Type} {enc : TypeId × Value → H} {base : Nat} {v : Value} {d : DataW H} {p : List MemPlace} (W : World)
    (hv : Value.okWide Tryd.prog W .any base 58 v) (h : DataW.Trod enc Tryd.prog W 0 (fun _ => true) true 58 v d p) (w1 : (Lit.int .u8 a1).wf = true) (hT : Tz W) :
    Calls Tryd.prog 11 #[v, .int .u8 a1] W fun e W' => e = .returned (.bool true) ∧ Below W.heap.size W W' := by
  obtain ⟨A, X, c, rfl, hX, hl, hok⟩ := open_runs hv h
  obtain ⟨k, rfl, b2⟩ := wf_u8 w1
  have t : ∀ (x : Nat) (m : Int), Int.tmod (x : Int) m = (x : Int) % m := fun x m => Int.tmod_eq_emod_of_nonneg (by omega)
  have q1 : (k : Int) % 4 = ((k % 4 : Nat) : Int) := by omega
  exact form_walk X A X.length c k (k % 4) W b2 q1 ((t k _).trans q1) (Nat.mod_lt _ (by omega)) hX rfl hl hok hT
end Go.Proofs.YtkkgdnmloojloaaDoor
