/- Chapter 4: ClassMany: what the code computes. Conditions: what each lemma says. -/
import Derived.Test.YtkkgdnmloojloaaDoorClassO
import Derived.Deep.RegionHeld3
import Derived.Deep.QuietTactic
import Derived.Deep.Cut
import Derived.Deep.DeepCutAuto
set_option linter.unusedVariables false
set_option linter.unusedSimpArgs false
namespace Go.Proofs.YtkkgdnmloojloaaDoor
open Go.RowKit Go.Lib
open Plain (Rg Rn May mayB In Norm cls cnot rightB runOf)
theorem cls_one (a b : Int) (h0 : 0 ≤ a) (h1 : a ≤ b) (h2 : b ≤ 1114111) : cls [(a, b)] = [(a, b)] := Plain.cls_self ((Plain.Norm_one _).2 ⟨h0, h2, h1⟩)
theorem cnot_nil : cnot [] = [(0, 1114111)] := (Plain.cnot_is (R := []) ((Plain.normB_iff _).1 (by decide)) fun x => by simp only [List.filter_nil, Plain.In_cons, Plain.In_nil, or_false, not_false_eq_true, and_true]).symm
theorem cnot_all : cnot [(0, 1114111)] = [] := (Plain.cnot_is (C := []) trivial fun x => by
  rw [Plain.Norm_filter ((Plain.normB_iff _).1 (by decide))]
  simp only [Plain.In_cons, Plain.In_nil, or_false]
  exact ⟨fun h => h.elim, fun h => h.2.2 ⟨h.1, h.2.1⟩⟩).symm
theorem cnt_nil0 : cnt [] = 0 := rfl
theorem cl_nil (w : World) : Cl w none 0 0 [] := ⟨Rs.nil _ _, rfl, fun _ => rfl⟩
def YCut (w : World) (y : Value) (wx : World) : Prop := ∃ z : Int, y = .int .i32 z ∧ -100 ≤ z ∧ z < 1200000 ∧ wx = w
def SumRel (w : World) (C : List Rg) (n : Nat) (s i : Value) (wr : World) : Prop := ∃ k : Nat, k ≤ n ∧ i = .int .i64 k ∧ s = .int .i64 (cnt (C.take k)) ∧ Below w.heap.size w wr
set_option maxRecDepth 100000 in
set_option maxHeartbeats 4000000 in
theorem many_walk (low long r a m3 m4 m7 : Nat) (X : List Rn) (A : Option Addr) (n c : Nat) (W : World) (hl16 : long < 65536) (hr : r < 4294967296)
    (ha : (low : Int) % 1048576 = (a : Int)) (ha' : Int.tmod (low : Int) 1048576 = (a : Int)) (ha20 : a < 1048576)
    (h4 : (r : Int) % 1114112 = (m4 : Int)) (h4' : Int.tmod (r : Int) 1114112 = (m4 : Int)) (h420 : m4 < 1114112)
    (h3 : (r : Int) % 3 = (m3 : Int)) (h3' : Int.tmod (r : Int) 3 = (m3 : Int))
    (h7 : (r : Int) % 70000 = (m7 : Int)) (h7' : Int.tmod (r : Int) 70000 = (m7 : Int)) (h720 : m7 < 70000)
    (hX : Rns W A X) (hR : X.length = n) (hn : n ≤ maxLen) (hok : ∀ x ∈ X, RnOk x) (hT : Tz W) :
    Calls Tryd.prog 13 #[.int .u32 low, .int .u16 long, .int .u32 r, .slice A n c] W fun e w' => e = .returned (.bool true) ∧ Below W.heap.size W w' := by
  have HT := Lib.hid hT
  have HX := Lib.hid hX
  have HR := Lib.hid hR
  have HN := Lib.hid hn
  have HOK := Lib.hid hok
  clear hT hX hR hn hok
  have e1 : IntKind.i32.wrap (a : Int) = (a : Int) := by rw [IntKind.wrap_i32]; omega
  have e2 : IntKind.i32.wrap (long : Int) = (long : Int) := by rw [IntKind.wrap_i32]; omega
  have e3 : IntKind.i32.wrap ((a : Int) + (long : Int)) = (a : Int) + (long : Int) := by rw [IntKind.wrap_i32]; omega
  have e4 : IntKind.i32.wrap (m4 : Int) = (m4 : Int) := by rw [IntKind.wrap_i32]; omega
  have e5 : IntKind.i32.wrap (m7 : Int) = (m7 : Int) := by rw [IntKind.wrap_i32]; omega
  have e6 : IntKind.i32.wrap ((a : Int) + (m7 : Int)) = (a : Int) + (m7 : Int) := by rw [IntKind.wrap_i32]; omega
  have e7 : IntKind.i32.wrap ((a : Int) + (m7 : Int) - 100) = (a : Int) + (m7 : Int) - 100 := by rw [IntKind.wrap_i32]; omega
  have e8 : IntKind.i64.wrap (long : Int) = (long : Int) := by rw [IntKind.wrap_i64]; omega
  have e9 : IntKind.i64.wrap ((long : Int) + 1) = (long : Int) + 1 := by rw [IntKind.wrap_i64]; omega
  have cc := cls_one (a : Int) ((a : Int) + (long : Int)) (by omega) (by omega) (by omega)
  have HC := Lib.hid cc
  clear cc
  go_enter Tryd.func13, Tryd.ntmps13
  have HB0 := Lib.hid (Below.refl W.heap.size W)
  go_wp2_with fail
  refine (classEx_any W HT.out).mono ?_
  rintro en1 w1 ⟨rfl, hb⟩
  have HB1 := Lib.hid (below_then HB0.out hb)
  clear hb
  go_wp2_with fail
  refine ((of_cl (Cl.new w1 [((a : Int), (a : Int) + (long : Int))] _ rfl) (by simp))).mono ?_
  rintro en2 w2 ⟨AC, nC, cC, rfl, hC, hb⟩
  have HB2 := Lib.hid (below_then (below_alloc HB1.out (.cells #[.int .i32 a, .int .i32 (a + long)] 82)) hb)
  have HC2 := Lib.hid hC
  clear hb hC
  rw [HC.out] at HC2
  obtain rfl : 1 = nC := HC2.out.2.1
  go_upto_if 37 with fail
  go_cut [13] (fun y wx => YCut w2 y wx)
  case first =>
    by_cases h30 : m3 = 0
    · have hb3 : ((m3 : Int) == 0) = true := by simp; omega
      go_wp2_with fail
      go_meet
      exact ⟨_, rfl, by omega, by omega, rfl⟩
    · have hb3 : ((m3 : Int) == 0) = false := by simp; omega
      go_wp2_with fail
      go_meet
      exact ⟨_, rfl, by omega, by omega, rfl⟩
  case rest =>
    obtain ⟨y, rfl, hy0, hy1, rfl⟩ := hcut
    go_wp2_with fail
    refine ((runs_cl 8 (HX.out.below HB2.out) HR.out (by decide) HN.out HOK.out)).mono ?_
    rintro en3 w3 ⟨AD, nD, cD, rfl, hD, hb⟩
    have HB3 := Lib.hid (below_then HB2.out hb)
    have HC3 := Lib.hid (HC2.out.below hb)
    have HD3 := Lib.hid hD
    clear hb hD
    go_wp2_with fail
    refine ((of_cl HD3.out (by unfold runsOf; rw [List.length_map, List.length_take]; omega))).mono ?_
    rintro en4 w4 ⟨AE, nE, cE, rfl, hE, hb⟩
    have HB4 := Lib.hid (below_then HB3.out hb)
    have HC4 := Lib.hid (HC3.out.below hb)
    have HE4 := Lib.hid hE
    clear hb hE
    obtain ⟨C, hC⟩ : ∃ C, cls (runsOf X 8) = C := ⟨_, rfl⟩
    have hNC : Norm C := by rw [← hC]; exact Plain.cls_norm _
    have hCl : C.length ≤ 8 := by
      have h1 := Plain.cls_len (runsOf X 8)
      rw [hC] at h1
      have h2 : (runsOf X 8).length ≤ 8 := by unfold runsOf; rw [List.length_map, List.length_take]; omega
      omega
    rw [hC] at HE4
    have HNC := Lib.hid hNC
    have hnE := HE4.out.2.1
    have HCL := Lib.hid hCl
    have HNE := Lib.hid hnE
    have hn8 : nE ≤ 8 := by rw [← hnE]; exact hCl
    clear hNC hC hnE hCl
    go_wp2_with fail
    go_loopw [15, 16] (fun s i wr => SumRel w4 C nE s i wr) (fun _ i _ => nE - (RowKit.intOf i).toNat)
    case atStart => exact ⟨0, Nat.zero_le _, rfl, rfl, Below.refl _ _⟩
    case round =>
      obtain ⟨k, hk, rfl, rfl, hB⟩ := hrel
      by_cases hlt : k < nE
      · have hkl : k < C.length := by rw [HNE.out]; exact hlt
        obtain ⟨ba, off, rfl, hba, c0, c1⟩ := (HE4.out.1.below hB).get k hkl
        obtain ⟨x, hx⟩ : ∃ x, C[k] = x := ⟨_, rfl⟩
        have hm := Plain.Norm_may HNC.out x (by rw [← hx]; exact List.getElem_mem hkl)
        have hb := cnt_bd (C.take k) (fun q hq => Plain.Norm_may HNC.out q (List.mem_of_mem_take hq))
        have hnext : cnt (C.take (k + 1)) = cnt (C.take k) + (x.2 - x.1 + 1) := by rw [List.take_succ_eq_append_getElem hkl, hx, cnt_snoc]
        have htl : (C.take k).length ≤ 8 := by rw [List.length_take]; omega
        rw [hx] at c0 c1
        obtain ⟨lo, hi⟩ := x
        obtain ⟨b1, b2, b3⟩ := hm
        obtain ⟨s, hs⟩ : ∃ s, cnt (C.take k) = s := ⟨_, rfl⟩
        rw [hs] at hb hnext ⊢
        dsimp only at c0 c1 b1 b2 b3 hnext
        have f1 : IntKind.i32.wrap (hi - lo) = hi - lo := by rw [IntKind.wrap_i32]; omega
        have f2 : IntKind.i64.wrap (hi - lo) = hi - lo := by rw [IntKind.wrap_i64]; omega
        have f3 : IntKind.i64.wrap (s + (hi - lo)) = s + (hi - lo) := by rw [IntKind.wrap_i64]; omega
        have f4 : IntKind.i64.wrap (s + (hi - lo) + 1) = s + (hi - lo) + 1 := by rw [IntKind.wrap_i64]; omega
        have HNX := Lib.hid hnext
        have HB5 := Lib.hid hB
        clear hnext hx hs hb hB
        go_upto_region 15 with fail
        go_quiet (fail)
        all_goals
          go_wp2_with fail
          go_roundw
          case rel =>
            refine ⟨k + 1, by omega, by go_num, ?_, HB5.out.trans (by exact ⟨rfl, rfl, rfl, Nat.le_refl _, fun _ _ => rfl⟩)⟩
            rw [HNX.out]
            congr 1; omega
          case measure => simp [RowKit.intOf]; omega
      · obtain rfl : k = nE := by omega
        have hT : C.take k = C := List.take_of_length_le (by rw [HNE.out]; exact Nat.le_refl _)
        rw [hT]
        obtain ⟨w5, rfl⟩ : ∃ w5, w5 = wr := ⟨_, rfl⟩
        have HB5 := Lib.hid (below_then HB4.out hB)
        have HC5 := Lib.hid (HC4.out.below hB)
        have HE5 := Lib.hid (HE4.out.below hB)
        clear hB hT
        have mC : ∀ w, Cl w AC 1 cC [((a : Int), (a : Int) + (long : Int))] → Calls Tryd.prog 44 #[.slice AC 1 cC] w fun e w' => e = .returned (.int .i64 ((long : Int) + 1)) ∧ Below w.heap.size w w' := fun w h => by
          have h1 := many_cl h (by simp)
          rw [HC.out, show cnt [((a : Int), (a : Int) + (long : Int))] = (long : Int) + 1 by unfold cnt; simp; omega] at h1
          exact h1
        have mE : ∀ w, Cl w AE k cE C → Calls Tryd.prog 44 #[.slice AE k cE] w fun e w' => e = .returned (.int .i64 (cnt C)) ∧ Below w.heap.size w w' := fun w h => by
          have h1 := many_cl h (by have := HCL.out; omega)
          rw [Plain.cls_self HNC.out] at h1
          exact h1
        have n1 : ∀ w, Calls Tryd.prog 38 #[.slice none 0 0] w (ClPost [(0, 1114111)] w) := fun w => by
          have h1 := not_cl (cl_nil w) (by simp)
          rw [cnot_nil] at h1; exact h1
        have n2 : ∀ w A n c, Cl w A n c [(0, 1114111)] → Calls Tryd.prog 38 #[.slice A n c] w (ClPost [] w) := fun w A n c h => by
          have h1 := not_cl h (by simp)
          rw [cnot_all] at h1; exact h1
        have n3 : ∀ w A n c, Cl w A n c [] → Calls Tryd.prog 44 #[.slice A n c] w fun e w' => e = .returned (.int .i64 0) ∧ Below w.heap.size w w' := fun w A n c h => by
          have h1 := many_cl h (by simp)
          rw [Plain.cls_self (R := []) trivial] at h1; exact h1
        obtain ⟨sC, hsC⟩ : ∃ s, cnt C = s := ⟨_, rfl⟩
        rw [hsC] at mE ⊢
        have MC := Lib.hid mC
        have ME := Lib.hid mE
        have N1 := Lib.hid n1
        have N2 := Lib.hid n2
        have N3 := Lib.hid n3
        clear mC mE n1 n2 n3 hsC
        by_cases hya : y < (a : Int)
        · have g1 : decide (y ≥ (a : Int)) = false := by simp; omega
          have hH : ∀ w, Cl w AC 1 cC [((a : Int), (a : Int) + (long : Int))] → Calls Tryd.prog 42 #[.slice AC 1 cC, .int .i32 y] w fun e w' => e = .returned (.bool false) ∧ Below w.heap.size w w' := fun w h => by
            have h1 := has_cl y h (by simp)
            have h2 := hasB_iff [((a : Int), (a : Int) + (long : Int))] y
            rw [Plain.In_cons] at h2
            simp only [Plain.In_nil, or_false] at h2
            have h3 : hasB [((a : Int), (a : Int) + (long : Int))] y = false := Bool.eq_false_iff.2 (fun hh => by have := h2.1 hh; omega)
            rw [h3] at h1
            exact h1
          have HH := Lib.hid hH
          clear hH
          go_wp2_with fail
          refine (MC.out _ HC5.out).mono ?_
          rintro en6 w6 ⟨rfl, hb⟩
          have HB6 := Lib.hid (below_then HB5.out hb)
          have HC6 := Lib.hid (HC5.out.below hb)
          have HE6 := Lib.hid (HE5.out.below hb)
          clear hb
          go_wp2_with fail
          refine (HH.out _ HC6.out).mono ?_
          rintro en7 w7 ⟨rfl, hb⟩
          have HB7 := Lib.hid (below_then HB6.out hb)
          have HC7 := Lib.hid (HC6.out.below hb)
          have HE7 := Lib.hid (HE6.out.below hb)
          clear hb
          go_wp2_with fail
          refine (ME.out _ HE7.out).mono ?_
          rintro en8 w8 ⟨rfl, hb⟩
          have HB8 := Lib.hid (below_then HB7.out hb)
          have HC8 := Lib.hid (HC7.out.below hb)
          have HE8 := Lib.hid (HE7.out.below hb)
          clear hb
          go_wp2_with fail
          refine (N1.out _).mono ?_
          rintro en9 w9 ⟨AF, nF, cF, rfl, hF, hb⟩
          have HB9 := Lib.hid (below_then HB8.out hb)
          have HC9 := Lib.hid (HC8.out.below hb)
          have HE9 := Lib.hid (HE8.out.below hb)
          have HF9 := Lib.hid hF
          clear hb hF
          go_wp2_with fail
          refine (N2.out _ _ _ _ HF9.out).mono ?_
          rintro en10 w10 ⟨AG, nG, cG, rfl, hG, hb⟩
          have HB10 := Lib.hid (below_then HB9.out hb)
          have HC10 := Lib.hid (HC9.out.below hb)
          have HE10 := Lib.hid (HE9.out.below hb)
          have HG10 := Lib.hid hG
          clear hb hG
          go_wp2_with fail
          refine (N3.out _ _ _ _ HG10.out).mono ?_
          rintro en11 w11 ⟨rfl, hb⟩
          have HB11 := Lib.hid (below_then HB10.out hb)
          have HC11 := Lib.hid (HC10.out.below hb)
          have HE11 := Lib.hid (HE10.out.below hb)
          have HG11 := Lib.hid (HG10.out.below hb)
          clear hb
          go_wp2_with fail
          go_ret
          exact ⟨rfl, HB11.out⟩
        · have g1 : decide (y ≥ (a : Int)) = true := by simp; omega
          by_cases hyb : y ≤ (a : Int) + (long : Int)
          · have g2 : decide (y ≤ (a : Int) + (long : Int)) = true := by simp; omega
            have hH : ∀ w, Cl w AC 1 cC [((a : Int), (a : Int) + (long : Int))] → Calls Tryd.prog 42 #[.slice AC 1 cC, .int .i32 y] w fun e w' => e = .returned (.bool true) ∧ Below w.heap.size w w' := fun w h => by
              have h1 := has_cl y h (by simp)
              have h2 := hasB_iff [((a : Int), (a : Int) + (long : Int))] y
              rw [Plain.In_cons] at h2
              simp only [Plain.In_nil, or_false] at h2
              have h3 : hasB [((a : Int), (a : Int) + (long : Int))] y = true := h2.2 ⟨by omega, by omega⟩
              rw [h3] at h1
              exact h1
            have HH := Lib.hid hH
            clear hH
            go_wp2_with fail
            refine (MC.out _ HC5.out).mono ?_
            rintro en6 w6 ⟨rfl, hb⟩
            have HB6 := Lib.hid (below_then HB5.out hb)
            have HC6 := Lib.hid (HC5.out.below hb)
            have HE6 := Lib.hid (HE5.out.below hb)
            clear hb
            go_wp2_with fail
            refine (HH.out _ HC6.out).mono ?_
            rintro en7 w7 ⟨rfl, hb⟩
            have HB7 := Lib.hid (below_then HB6.out hb)
            have HC7 := Lib.hid (HC6.out.below hb)
            have HE7 := Lib.hid (HE6.out.below hb)
            clear hb
            go_wp2_with fail
            refine (ME.out _ HE7.out).mono ?_
            rintro en8 w8 ⟨rfl, hb⟩
            have HB8 := Lib.hid (below_then HB7.out hb)
            have HC8 := Lib.hid (HC7.out.below hb)
            have HE8 := Lib.hid (HE7.out.below hb)
            clear hb
            go_wp2_with fail
            refine (N1.out _).mono ?_
            rintro en9 w9 ⟨AF, nF, cF, rfl, hF, hb⟩
            have HB9 := Lib.hid (below_then HB8.out hb)
            have HC9 := Lib.hid (HC8.out.below hb)
            have HE9 := Lib.hid (HE8.out.below hb)
            have HF9 := Lib.hid hF
            clear hb hF
            go_wp2_with fail
            refine (N2.out _ _ _ _ HF9.out).mono ?_
            rintro en10 w10 ⟨AG, nG, cG, rfl, hG, hb⟩
            have HB10 := Lib.hid (below_then HB9.out hb)
            have HC10 := Lib.hid (HC9.out.below hb)
            have HE10 := Lib.hid (HE9.out.below hb)
            have HG10 := Lib.hid hG
            clear hb hG
            go_wp2_with fail
            refine (N3.out _ _ _ _ HG10.out).mono ?_
            rintro en11 w11 ⟨rfl, hb⟩
            have HB11 := Lib.hid (below_then HB10.out hb)
            have HC11 := Lib.hid (HC10.out.below hb)
            have HE11 := Lib.hid (HE10.out.below hb)
            have HG11 := Lib.hid (HG10.out.below hb)
            clear hb
            go_wp2_with fail
            go_ret
            exact ⟨rfl, HB11.out⟩
          · have g2 : decide (y ≤ (a : Int) + (long : Int)) = false := by simp; omega
            have hH : ∀ w, Cl w AC 1 cC [((a : Int), (a : Int) + (long : Int))] → Calls Tryd.prog 42 #[.slice AC 1 cC, .int .i32 y] w fun e w' => e = .returned (.bool false) ∧ Below w.heap.size w w' := fun w h => by
              have h1 := has_cl y h (by simp)
              have h2 := hasB_iff [((a : Int), (a : Int) + (long : Int))] y
              rw [Plain.In_cons] at h2
              simp only [Plain.In_nil, or_false] at h2
              have h3 : hasB [((a : Int), (a : Int) + (long : Int))] y = false := Bool.eq_false_iff.2 (fun hh => by have := h2.1 hh; omega)
              rw [h3] at h1
              exact h1
            have HH := Lib.hid hH
            clear hH
            go_wp2_with fail
            refine (MC.out _ HC5.out).mono ?_
            rintro en6 w6 ⟨rfl, hb⟩
            have HB6 := Lib.hid (below_then HB5.out hb)
            have HC6 := Lib.hid (HC5.out.below hb)
            have HE6 := Lib.hid (HE5.out.below hb)
            clear hb
            go_wp2_with fail
            refine (HH.out _ HC6.out).mono ?_
            rintro en7 w7 ⟨rfl, hb⟩
            have HB7 := Lib.hid (below_then HB6.out hb)
            have HC7 := Lib.hid (HC6.out.below hb)
            have HE7 := Lib.hid (HE6.out.below hb)
            clear hb
            go_wp2_with fail
            refine (ME.out _ HE7.out).mono ?_
            rintro en8 w8 ⟨rfl, hb⟩
            have HB8 := Lib.hid (below_then HB7.out hb)
            have HC8 := Lib.hid (HC7.out.below hb)
            have HE8 := Lib.hid (HE7.out.below hb)
            clear hb
            go_wp2_with fail
            refine (N1.out _).mono ?_
            rintro en9 w9 ⟨AF, nF, cF, rfl, hF, hb⟩
            have HB9 := Lib.hid (below_then HB8.out hb)
            have HC9 := Lib.hid (HC8.out.below hb)
            have HE9 := Lib.hid (HE8.out.below hb)
            have HF9 := Lib.hid hF
            clear hb hF
            go_wp2_with fail
            refine (N2.out _ _ _ _ HF9.out).mono ?_
            rintro en10 w10 ⟨AG, nG, cG, rfl, hG, hb⟩
            have HB10 := Lib.hid (below_then HB9.out hb)
            have HC10 := Lib.hid (HC9.out.below hb)
            have HE10 := Lib.hid (HE9.out.below hb)
            have HG10 := Lib.hid hG
            clear hb hG
            go_wp2_with fail
            refine (N3.out _ _ _ _ HG10.out).mono ?_
            rintro en11 w11 ⟨rfl, hb⟩
            have HB11 := Lib.hid (below_then HB10.out hb)
            have HC11 := Lib.hid (HC10.out.below hb)
            have HE11 := Lib.hid (HE10.out.below hb)
            have HG11 := Lib.hid (HG10.out.below hb)
            clear hb
            go_wp2_with fail
            go_ret
            exact ⟨rfl, HB11.out⟩
end Go.Proofs.YtkkgdnmloojloaaDoor
namespace Go.Proofs.YtkkgdnmloojloaaDoor
open Go.RowKit Go.Lib Go.ChangeShapes Go.WideShapes
set_option maxRecDepth 100000 in
theorem many_all (a0 a1 a2 : Int) {H : Type} {enc : TypeId × Value → H} {base : Nat} {v : Value} {d : DataW H} {p : List MemPlace} (W : World) (w0 : (Lit.int .u32 a0).wf = true) (w1 : (Lit.int .u16 a1).wf = true) (w2 : (Lit.int .u32 a2).wf = true)
    (hv : Value.okWide Tryd.prog W .any base 58 v) (h : DataW.Trod enc Tryd.prog W 0 (fun _ => true) true 58 v d p) (hT : Tz W) :
    Calls Tryd.prog 13 #[.int .u32 a0, .int .u16 a1, .int .u32 a2, v] W fun e W' => e = .returned (.bool true) ∧ Below W.heap.size W W' := by
  obtain ⟨A, X, c, rfl, hX, hl, hok⟩ := open_runs hv h
  obtain ⟨low, rfl, b0⟩ := wf_u32 w0
  obtain ⟨long, rfl, b1⟩ := wf_u16 w1
  obtain ⟨r, rfl, b2⟩ := wf_u32 w2
  have t : ∀ (x : Nat) (m : Int), Int.tmod (x : Int) m = (x : Int) % m := fun x m => Int.tmod_eq_emod_of_nonneg (by omega)
  have q1 : (low : Int) % 1048576 = ((low % 1048576 : Nat) : Int) := by omega
  have q2 : (r : Int) % 1114112 = ((r % 1114112 : Nat) : Int) := by omega
  have q3 : (r : Int) % 3 = ((r % 3 : Nat) : Int) := by omega
  have q4 : (r : Int) % 70000 = ((r % 70000 : Nat) : Int) := by omega
  exact many_walk low long r (low % 1048576) (r % 3) (r % 1114112) (r % 70000) X A X.length c W b1 b2 q1 ((t low _).trans q1) (Nat.mod_lt _ (by omega)) q2 ((t r _).trans q2) (Nat.mod_lt _ (by omega)) q3 ((t r _).trans q3) q4 ((t r _).trans q4) (Nat.mod_lt _ (by omega)) hX rfl hl hok hT
end Go.Proofs.YtkkgdnmloojloaaDoor
