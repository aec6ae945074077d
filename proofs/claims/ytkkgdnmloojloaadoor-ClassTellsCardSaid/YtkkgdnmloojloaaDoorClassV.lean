/- Chapter 4, the document's answer: Right, Many, Not, Union: what the code computes. Conditions: what each lemma says. -/
import Derived.Test.YtkkgdnmloojloaaDoorClassU
import Derived.Deep.RegionHeld3
import Derived.Deep.QuietTactic
import Derived.Deep.Cut
import Derived.Deep.DeepCutAuto
import Derived.Laws.AppendOwnNone
set_option linter.unusedVariables false
set_option linter.unusedSimpArgs false
namespace Go.Proofs.YtkkgdnmloojloaaDoor
open Go.RowKit Go.Lib
open Plain (Rg May mayB In Norm rightB)
set_option maxRecDepth 100000 in
set_option maxHeartbeats 8000000 in
theorem rright_any {R : List Rg} {A : Option Addr} {n c : Nat} {w : World} (h : Cl w A n c R) (hn : n ≤ 10000) :
    Calls Tryd.prog 41 #[.slice A n c] w (RightPost R w) := by
  have HX := Lib.hid h.1
  have HR := Lib.hid h.2.1
  clear h
  by_cases h64 : n ≤ 64
  · have d64 : decide ((n : Int) > 64) = false := by simp; omega
    have d64n : decide (64 < n) = false := by simp; omega
    go_enter Tryd.func41, Tryd.ntmps41
    go_wp2_with fail
    go_loopw [3] (fun i wr => ∃ k : Nat, i = .int .i64 k ∧ k ≤ n ∧ Hid (Norm (R.take k)) ∧ RowKit.Below w.heap.size w wr) (fun i _ => n - (RowKit.intOf i).toNat)
    case atStart => exact ⟨0, rfl, Nat.zero_le _, Lib.hid trivial, RowKit.Below.refl _ _⟩
    case round =>
      obtain ⟨k, rfl, hk, HN, hB⟩ := hrel
      have HB := Lib.hid hB
      by_cases hlt : k < n
      · have hkS : k < R.length := by rw [HR.out]; exact hlt
        obtain ⟨ba, off, rfl, hba, c0, c1⟩ := (HX.out.below hB).get k hkS
        have HXr := Lib.hid (HX.out.below hB)
        obtain ⟨r, hr⟩ : ∃ r, R[k] = r := ⟨_, rfl⟩
        rw [hr] at c0 c1
        have htk : R.take (k + 1) = R.take k ++ [r] := by rw [List.take_succ_eq_append_getElem hkS, hr]
        obtain ⟨lo, hi⟩ := r
        dsimp only at c0 c1
        have HTK := Lib.hid htk
        obtain ⟨q, hq⟩ : ∃ q, mayB (lo, hi) = q := ⟨_, rfl⟩
        have cM := fun W => rmay_any lo hi W
        rw [hq] at cM
        have CM := Lib.hid cM
        have HQ := Lib.hid hq
        have g0 : (0 : Int) ≤ (k : Int) := by omega
        have g1 : (k : Int) < (n : Int) := by omega
        clear hr htk hq cM hB
        go_upto_region 6 with fail
        cases q
        · refine wp_region_noPanic ?_
          refine wp_region_held_drew (S := (fun w' => w'.cell? ⟨ba, off + k * 2, none⟩ = some (.int .i32 lo) ∧ w'.cell? ⟨ba, off + k * 2 + 1, none⟩ = some (.int .i32 hi))) (by kernel_rfl) ?_ (fun hHeld => ?_)
          · (try dsimp only) <;> (first | go_keep | exact ⟨(hb9.cell (p := ⟨ba, off + k * 2, none⟩) hba).trans c0, (hb9.cell (p := ⟨ba, off + k * 2 + 1, none⟩) hba).trans c1⟩)
          refine wpAnyH_take (i := 0) (oi := ⟨_, _, _, _, _, _⟩) (v := ?v0q1) rfl (by kernel_rfl) (by kernel_rfl) (by kernel_rfl) (fun _ _ _ h => h) (Or.inl ⟨by rfl, ?h0q1⟩) (by assumption) ?r0q1
          case h0q1 => (intro w hSw; (try dsimp only at hSw); go_simp <;> with_reducible rfl)
          case' r0q1 => try simp only [Act.put, List.setIfInBounds_toArray, List.set_cons_zero, List.set_cons_succ]
          refine wpAnyH_take (i := 1) (oi := ⟨_, _, _, _, _, _⟩) (v := ?v1q1) rfl (by kernel_rfl) (by kernel_rfl) (by kernel_rfl) (fun _ _ _ h => h) (Or.inl ⟨by rfl, ?h1q1⟩) (by assumption) ?r1q1
          case h1q1 => (intro w hSw; (try dsimp only at hSw); go_simp <;> with_reducible rfl)
          case' r1q1 => try simp only [Act.put, List.setIfInBounds_toArray, List.set_cons_zero, List.set_cons_succ]
          refine wpAnyH_take (i := 2) (oi := ⟨_, _, _, _, _, _⟩) (v := ?v2q1) rfl (by kernel_rfl) (by kernel_rfl) (by kernel_rfl) (fun _ _ _ h => h) (Or.inl ⟨by rfl, ?h2q1⟩) (by assumption) ?r2q1
          case h2q1 => (intro w hSw; (try dsimp only at hSw); go_simp <;> with_reducible rfl)
          case' r2q1 => try simp only [Act.put, List.setIfInBounds_toArray, List.set_cons_zero, List.set_cons_succ]
          refine wpAnyH_take (i := 3) (oi := ⟨_, _, _, _, _, _⟩) (v := ?v3q1) rfl (by kernel_rfl) (by kernel_rfl) (by kernel_rfl) (fun _ _ _ h => h) (Or.inl ⟨by rfl, ?h3q1⟩) (by assumption) ?r3q1
          case h3q1 => (intro w hSw; (try dsimp only at hSw); go_simp <;> with_reducible rfl)
          case' r3q1 => try simp only [Act.put, List.setIfInBounds_toArray, List.set_cons_zero, List.set_cons_succ]
          refine wpAnyH_ready (rs := [4]) (by kernel_rfl) (by simp) ?_
          refine AllReadyH.cons (o := ⟨_, _, _, _, _, _⟩) rfl (fun K hK => ?_) AllReadyH.nil
          rw [if_pos (by rfl)]
          (first | (go_at_call 60; (with_reducible refine (CM.out _).mono ?_); rintro e w9 ⟨rfl, hb9⟩) | (go_simp; first | ((go_at_call 60; (with_reducible refine (CM.out _).mono ?_); rintro e w9 ⟨rfl, hb9⟩); (try dsimp only)) | skip))
          refine hK.out _ _ ?_ (fun hHeld => ?_)
          · (try dsimp only) <;> (first | go_keep | exact ⟨(hb9.cell (p := ⟨ba, off + k * 2, none⟩) hba).trans c0, (hb9.cell (p := ⟨ba, off + k * 2 + 1, none⟩) hba).trans c1⟩)
          clear hK K
          try simp only [Act.put, List.setIfInBounds_toArray, List.set_cons_zero, List.set_cons_succ]
          refine wpAnyH_take (i := 5) (oi := ⟨_, _, _, _, _, _⟩) (v := ?v5q1) rfl (by kernel_rfl) (by kernel_rfl) (by kernel_rfl) (fun _ _ _ h => h) (Or.inl ⟨by rfl, ?h5q1⟩) (by assumption) ?r5q1
          case h5q1 => (intro w hSw; (try dsimp only at hSw); go_simp <;> with_reducible rfl)
          case' r5q1 => try simp only [Act.put, List.setIfInBounds_toArray, List.set_cons_zero, List.set_cons_succ]
          refine wpAnyH_take (i := 6) (oi := ⟨_, _, _, _, _, _⟩) (v := ?v6q1) rfl (by kernel_rfl) (by kernel_rfl) (by kernel_rfl) (fun _ _ _ h => h) (Or.inl ⟨by rfl, ?h6q1⟩) (by assumption) ?r6q1
          case h6q1 => (intro w hSw; (try dsimp only at hSw); go_simp <;> with_reducible rfl)
          case' r6q1 => try simp only [Act.put, List.setIfInBounds_toArray, List.set_cons_zero, List.set_cons_succ]
          refine wpAnyH_take (i := 7) (oi := ⟨_, _, _, _, _, _⟩) (v := undef) rfl (by kernel_rfl) (by kernel_rfl) (by kernel_rfl) (fun _ _ _ h => h) (Or.inr ⟨by rfl, rfl⟩) (by assumption) ?_
          try simp only [Act.put, List.setIfInBounds_toArray, List.set_cons_zero, List.set_cons_succ]
          refine wpAnyH_take (i := 8) (oi := ⟨_, _, _, _, _, _⟩) (v := undef) rfl (by kernel_rfl) (by kernel_rfl) (by kernel_rfl) (fun _ _ _ h => h) (Or.inr ⟨by rfl, rfl⟩) (by assumption) ?_
          try simp only [Act.put, List.setIfInBounds_toArray, List.set_cons_zero, List.set_cons_succ]
          refine wpAnyH_take (i := 9) (oi := ⟨_, _, _, _, _, _⟩) (v := undef) rfl (by kernel_rfl) (by kernel_rfl) (by kernel_rfl) (fun _ _ _ h => h) (Or.inr ⟨by rfl, rfl⟩) (by assumption) ?_
          try simp only [Act.put, List.setIfInBounds_toArray, List.set_cons_zero, List.set_cons_succ]
          refine wpAnyH_take (i := 10) (oi := ⟨_, _, _, _, _, _⟩) (v := undef) rfl (by kernel_rfl) (by kernel_rfl) (by kernel_rfl) (fun _ _ _ h => h) (Or.inr ⟨by rfl, rfl⟩) (by assumption) ?_
          try simp only [Act.put, List.setIfInBounds_toArray, List.set_cons_zero, List.set_cons_succ]
          refine wpAnyH_take (i := 11) (oi := ⟨_, _, _, _, _, _⟩) (v := undef) rfl (by kernel_rfl) (by kernel_rfl) (by kernel_rfl) (fun _ _ _ h => h) (Or.inr ⟨by rfl, rfl⟩) (by assumption) ?_
          try simp only [Act.put, List.setIfInBounds_toArray, List.set_cons_zero, List.set_cons_succ]
          refine wpAnyH_take (i := 12) (oi := ⟨_, _, _, _, _, _⟩) (v := undef) rfl (by kernel_rfl) (by kernel_rfl) (by kernel_rfl) (fun _ _ _ h => h) (Or.inr ⟨by rfl, rfl⟩) (by assumption) ?_
          try simp only [Act.put, List.setIfInBounds_toArray, List.set_cons_zero, List.set_cons_succ]
          refine wpAnyH_take (i := 13) (oi := ⟨_, _, _, _, _, _⟩) (v := undef) rfl (by kernel_rfl) (by kernel_rfl) (by kernel_rfl) (fun _ _ _ h => h) (Or.inr ⟨by rfl, rfl⟩) (by assumption) ?_
          try simp only [Act.put, List.setIfInBounds_toArray, List.set_cons_zero, List.set_cons_succ]
          refine wpAnyH_take (i := 14) (oi := ⟨_, _, _, _, _, _⟩) (v := undef) rfl (by kernel_rfl) (by kernel_rfl) (by kernel_rfl) (fun _ _ _ h => h) (Or.inr ⟨by rfl, rfl⟩) (by assumption) ?_
          try simp only [Act.put, List.setIfInBounds_toArray, List.set_cons_zero, List.set_cons_succ]
          refine wpAnyH_take (i := 15) (oi := ⟨_, _, _, _, _, _⟩) (v := undef) rfl (by kernel_rfl) (by kernel_rfl) (by kernel_rfl) (fun _ _ _ h => h) (Or.inr ⟨by rfl, rfl⟩) (by assumption) ?_
          try simp only [Act.put, List.setIfInBounds_toArray, List.set_cons_zero, List.set_cons_succ]
          refine wpAnyH_take (i := 16) (oi := ⟨_, _, _, _, _, _⟩) (v := undef) rfl (by kernel_rfl) (by kernel_rfl) (by kernel_rfl) (fun _ _ _ h => h) (Or.inr ⟨by rfl, rfl⟩) (by assumption) ?_
          try simp only [Act.put, List.setIfInBounds_toArray, List.set_cons_zero, List.set_cons_succ]
          refine wpAnyH_take (i := 17) (oi := ⟨_, _, _, _, _, _⟩) (v := undef) rfl (by kernel_rfl) (by kernel_rfl) (by kernel_rfl) (fun _ _ _ h => h) (Or.inr ⟨by rfl, rfl⟩) (by assumption) ?_
          try simp only [Act.put, List.setIfInBounds_toArray, List.set_cons_zero, List.set_cons_succ]
          refine wpAnyH_take (i := 18) (oi := ⟨_, _, _, _, _, _⟩) (v := undef) rfl (by kernel_rfl) (by kernel_rfl) (by kernel_rfl) (fun _ _ _ h => h) (Or.inr ⟨by rfl, rfl⟩) (by assumption) ?_
          try simp only [Act.put, List.setIfInBounds_toArray, List.set_cons_zero, List.set_cons_succ]
          refine wpAnyH_take (i := 19) (oi := ⟨_, _, _, _, _, _⟩) (v := undef) rfl (by kernel_rfl) (by kernel_rfl) (by kernel_rfl) (fun _ _ _ h => h) (Or.inr ⟨by rfl, rfl⟩) (by assumption) ?_
          try simp only [Act.put, List.setIfInBounds_toArray, List.set_cons_zero, List.set_cons_succ]
          refine wpAnyH_take (i := 20) (oi := ⟨_, _, _, _, _, _⟩) (v := undef) rfl (by kernel_rfl) (by kernel_rfl) (by kernel_rfl) (fun _ _ _ h => h) (Or.inr ⟨by rfl, rfl⟩) (by assumption) ?_
          try simp only [Act.put, List.setIfInBounds_toArray, List.set_cons_zero, List.set_cons_succ]
          refine wpAnyH_take (i := 21) (oi := ⟨_, _, _, _, _, _⟩) (v := undef) rfl (by kernel_rfl) (by kernel_rfl) (by kernel_rfl) (fun _ _ _ h => h) (Or.inr ⟨by rfl, rfl⟩) (by assumption) ?_
          try simp only [Act.put, List.setIfInBounds_toArray, List.set_cons_zero, List.set_cons_succ]
          refine wpAnyH_take (i := 22) (oi := ⟨_, _, _, _, _, _⟩) (v := undef) rfl (by kernel_rfl) (by kernel_rfl) (by kernel_rfl) (fun _ _ _ h => h) (Or.inr ⟨by rfl, rfl⟩) (by assumption) ?_
          try simp only [Act.put, List.setIfInBounds_toArray, List.set_cons_zero, List.set_cons_succ]
          refine wpAnyH_take (i := 23) (oi := ⟨_, _, _, _, _, _⟩) (v := undef) rfl (by kernel_rfl) (by kernel_rfl) (by kernel_rfl) (fun _ _ _ h => h) (Or.inr ⟨by rfl, rfl⟩) (by assumption) ?_
          try simp only [Act.put, List.setIfInBounds_toArray, List.set_cons_zero, List.set_cons_succ]
          refine wpAnyH_take (i := 24) (oi := ⟨_, _, _, _, _, _⟩) (v := ?v24q1) rfl (by kernel_rfl) (by kernel_rfl) (by kernel_rfl) (fun _ _ _ h => h) (Or.inl ⟨by rfl, ?h24q1⟩) (by assumption) ?r24q1
          case h24q1 => (intro w hSw; (try dsimp only at hSw); go_simp <;> with_reducible rfl)
          case' r24q1 => try simp only [Act.put, List.setIfInBounds_toArray, List.set_cons_zero, List.set_cons_succ]
          refine wpAnyH_done (by kernel_rfl) ?_ _
          refine NoPanic.normal ?_
          all_goals
            have HB9 := Lib.hid (below_then HB.out (⟨hb9.os, hb9.tape, hb9.output, hb9.size, hb9.block⟩ : RowKit.Below wr.heap.size wr w9))
            clear hb9 c0 c1
            go_wp2_with fail
            go_ret
            refine ⟨false, rfl, ⟨(fun h => by cases h), fun h => ?_⟩, HB9.out⟩
            have h1 := norm_take h.1 (k + 1)
            rw [HTK.out] at h1
            have h2 := Plain.Norm_may h1 (lo, hi) (by simp)
            have h3 := (Plain.mayB_iff (lo, hi)).2 h2
            rw [HQ.out] at h3
            cases h3
        · have hmay : May (lo, hi) := (Plain.mayB_iff _).1 HQ.out
          obtain ⟨b1, b2, b3⟩ := hmay
          dsimp only at b1 b2 b3
          rcases Nat.eq_zero_or_pos k with hk0 | hk0
          · subst hk0
            simp only [Nat.zero_mul, Nat.add_zero] at c0 c1
            refine wp_region_noPanic ?_
            refine wp_region_held_drew (S := (fun w' => w'.cell? ⟨ba, off, none⟩ = some (.int .i32 lo) ∧ w'.cell? ⟨ba, off + 1, none⟩ = some (.int .i32 hi))) (by kernel_rfl) ?_ (fun hHeld => ?_)
            · (try dsimp only) <;> (first | go_keep | exact ⟨(hb9.cell (p := ⟨ba, off, none⟩) hba).trans c0, (hb9.cell (p := ⟨ba, off + 1, none⟩) hba).trans c1⟩)
            refine wpAnyH_take (i := 0) (oi := ⟨_, _, _, _, _, _⟩) (v := ?v0q2) rfl (by kernel_rfl) (by kernel_rfl) (by kernel_rfl) (fun _ _ _ h => h) (Or.inl ⟨by rfl, ?h0q2⟩) (by assumption) ?r0q2
            case h0q2 => (intro w hSw; (try dsimp only at hSw); go_simp <;> with_reducible rfl)
            case' r0q2 => try simp only [Act.put, List.setIfInBounds_toArray, List.set_cons_zero, List.set_cons_succ]
            refine wpAnyH_take (i := 1) (oi := ⟨_, _, _, _, _, _⟩) (v := ?v1q2) rfl (by kernel_rfl) (by kernel_rfl) (by kernel_rfl) (fun _ _ _ h => h) (Or.inl ⟨by rfl, ?h1q2⟩) (by assumption) ?r1q2
            case h1q2 => (intro w hSw; (try dsimp only at hSw); go_simp <;> with_reducible rfl)
            case' r1q2 => try simp only [Act.put, List.setIfInBounds_toArray, List.set_cons_zero, List.set_cons_succ]
            refine wpAnyH_take (i := 2) (oi := ⟨_, _, _, _, _, _⟩) (v := ?v2q2) rfl (by kernel_rfl) (by kernel_rfl) (by kernel_rfl) (fun _ _ _ h => h) (Or.inl ⟨by rfl, ?h2q2⟩) (by assumption) ?r2q2
            case h2q2 => (intro w hSw; (try dsimp only at hSw); go_simp <;> with_reducible rfl)
            case' r2q2 => try simp only [Act.put, List.setIfInBounds_toArray, List.set_cons_zero, List.set_cons_succ]
            refine wpAnyH_take (i := 3) (oi := ⟨_, _, _, _, _, _⟩) (v := ?v3q2) rfl (by kernel_rfl) (by kernel_rfl) (by kernel_rfl) (fun _ _ _ h => h) (Or.inl ⟨by rfl, ?h3q2⟩) (by assumption) ?r3q2
            case h3q2 => (intro w hSw; (try dsimp only at hSw); go_simp <;> with_reducible rfl)
            case' r3q2 => try simp only [Act.put, List.setIfInBounds_toArray, List.set_cons_zero, List.set_cons_succ]
            refine wpAnyH_ready (rs := [4]) (by kernel_rfl) (by simp) ?_
            refine AllReadyH.cons (o := ⟨_, _, _, _, _, _⟩) rfl (fun K hK => ?_) AllReadyH.nil
            rw [if_pos (by rfl)]
            (first | (go_at_call 60; (with_reducible refine (CM.out _).mono ?_); rintro e w9 ⟨rfl, hb9⟩) | (go_simp; first | ((go_at_call 60; (with_reducible refine (CM.out _).mono ?_); rintro e w9 ⟨rfl, hb9⟩); (try dsimp only)) | skip))
            refine hK.out _ _ ?_ (fun hHeld => ?_)
            · (try dsimp only) <;> (first | go_keep | exact ⟨(hb9.cell (p := ⟨ba, off, none⟩) hba).trans c0, (hb9.cell (p := ⟨ba, off + 1, none⟩) hba).trans c1⟩)
            clear hK K
            try simp only [Act.put, List.setIfInBounds_toArray, List.set_cons_zero, List.set_cons_succ]
            refine wpAnyH_take (i := 5) (oi := ⟨_, _, _, _, _, _⟩) (v := ?v5q2) rfl (by kernel_rfl) (by kernel_rfl) (by kernel_rfl) (fun _ _ _ h => h) (Or.inl ⟨by rfl, ?h5q2⟩) (by assumption) ?r5q2
            case h5q2 => (intro w hSw; (try dsimp only at hSw); go_simp <;> with_reducible rfl)
            case' r5q2 => try simp only [Act.put, List.setIfInBounds_toArray, List.set_cons_zero, List.set_cons_succ]
            refine wpAnyH_take (i := 6) (oi := ⟨_, _, _, _, _, _⟩) (v := ?v6q2) rfl (by kernel_rfl) (by kernel_rfl) (by kernel_rfl) (fun _ _ _ h => h) (Or.inl ⟨by rfl, ?h6q2⟩) (by assumption) ?r6q2
            case h6q2 => (intro w hSw; (try dsimp only at hSw); go_simp <;> with_reducible rfl)
            case' r6q2 => try simp only [Act.put, List.setIfInBounds_toArray, List.set_cons_zero, List.set_cons_succ]
            refine wpAnyH_take (i := 7) (oi := ⟨_, _, _, _, _, _⟩) (v := ?v7q2) rfl (by kernel_rfl) (by kernel_rfl) (by kernel_rfl) (fun _ _ _ h => h) (Or.inl ⟨by rfl, ?h7q2⟩) (by assumption) ?r7q2
            case h7q2 => (intro w hSw; (try dsimp only at hSw); go_simp <;> with_reducible rfl)
            case' r7q2 => try simp only [Act.put, List.setIfInBounds_toArray, List.set_cons_zero, List.set_cons_succ]
            refine wpAnyH_take (i := 8) (oi := ⟨_, _, _, _, _, _⟩) (v := ?v8q2) rfl (by kernel_rfl) (by kernel_rfl) (by kernel_rfl) (fun _ _ _ h => h) (Or.inl ⟨by rfl, ?h8q2⟩) (by assumption) ?r8q2
            case h8q2 => (intro w hSw; (try dsimp only at hSw); go_simp <;> with_reducible rfl)
            case' r8q2 => try simp only [Act.put, List.setIfInBounds_toArray, List.set_cons_zero, List.set_cons_succ]
            refine wpAnyH_take (i := 9) (oi := ⟨_, _, _, _, _, _⟩) (v := ?v9q2) rfl (by kernel_rfl) (by kernel_rfl) (by kernel_rfl) (fun _ _ _ h => h) (Or.inl ⟨by rfl, ?h9q2⟩) (by assumption) ?r9q2
            case h9q2 => (intro w hSw; (try dsimp only at hSw); go_simp <;> with_reducible rfl)
            case' r9q2 => try simp only [Act.put, List.setIfInBounds_toArray, List.set_cons_zero, List.set_cons_succ]
            refine wpAnyH_take (i := 10) (oi := ⟨_, _, _, _, _, _⟩) (v := undef) rfl (by kernel_rfl) (by kernel_rfl) (by kernel_rfl) (fun _ _ _ h => h) (Or.inr ⟨by rfl, rfl⟩) (by assumption) ?_
            try simp only [Act.put, List.setIfInBounds_toArray, List.set_cons_zero, List.set_cons_succ]
            refine wpAnyH_take (i := 11) (oi := ⟨_, _, _, _, _, _⟩) (v := undef) rfl (by kernel_rfl) (by kernel_rfl) (by kernel_rfl) (fun _ _ _ h => h) (Or.inr ⟨by rfl, rfl⟩) (by assumption) ?_
            try simp only [Act.put, List.setIfInBounds_toArray, List.set_cons_zero, List.set_cons_succ]
            refine wpAnyH_take (i := 12) (oi := ⟨_, _, _, _, _, _⟩) (v := undef) rfl (by kernel_rfl) (by kernel_rfl) (by kernel_rfl) (fun _ _ _ h => h) (Or.inr ⟨by rfl, rfl⟩) (by assumption) ?_
            try simp only [Act.put, List.setIfInBounds_toArray, List.set_cons_zero, List.set_cons_succ]
            refine wpAnyH_take (i := 13) (oi := ⟨_, _, _, _, _, _⟩) (v := undef) rfl (by kernel_rfl) (by kernel_rfl) (by kernel_rfl) (fun _ _ _ h => h) (Or.inr ⟨by rfl, rfl⟩) (by assumption) ?_
            try simp only [Act.put, List.setIfInBounds_toArray, List.set_cons_zero, List.set_cons_succ]
            refine wpAnyH_take (i := 14) (oi := ⟨_, _, _, _, _, _⟩) (v := undef) rfl (by kernel_rfl) (by kernel_rfl) (by kernel_rfl) (fun _ _ _ h => h) (Or.inr ⟨by rfl, rfl⟩) (by assumption) ?_
            try simp only [Act.put, List.setIfInBounds_toArray, List.set_cons_zero, List.set_cons_succ]
            refine wpAnyH_take (i := 15) (oi := ⟨_, _, _, _, _, _⟩) (v := undef) rfl (by kernel_rfl) (by kernel_rfl) (by kernel_rfl) (fun _ _ _ h => h) (Or.inr ⟨by rfl, rfl⟩) (by assumption) ?_
            try simp only [Act.put, List.setIfInBounds_toArray, List.set_cons_zero, List.set_cons_succ]
            refine wpAnyH_take (i := 16) (oi := ⟨_, _, _, _, _, _⟩) (v := undef) rfl (by kernel_rfl) (by kernel_rfl) (by kernel_rfl) (fun _ _ _ h => h) (Or.inr ⟨by rfl, rfl⟩) (by assumption) ?_
            try simp only [Act.put, List.setIfInBounds_toArray, List.set_cons_zero, List.set_cons_succ]
            refine wpAnyH_take (i := 17) (oi := ⟨_, _, _, _, _, _⟩) (v := undef) rfl (by kernel_rfl) (by kernel_rfl) (by kernel_rfl) (fun _ _ _ h => h) (Or.inr ⟨by rfl, rfl⟩) (by assumption) ?_
            try simp only [Act.put, List.setIfInBounds_toArray, List.set_cons_zero, List.set_cons_succ]
            refine wpAnyH_take (i := 18) (oi := ⟨_, _, _, _, _, _⟩) (v := undef) rfl (by kernel_rfl) (by kernel_rfl) (by kernel_rfl) (fun _ _ _ h => h) (Or.inr ⟨by rfl, rfl⟩) (by assumption) ?_
            try simp only [Act.put, List.setIfInBounds_toArray, List.set_cons_zero, List.set_cons_succ]
            refine wpAnyH_take (i := 19) (oi := ⟨_, _, _, _, _, _⟩) (v := undef) rfl (by kernel_rfl) (by kernel_rfl) (by kernel_rfl) (fun _ _ _ h => h) (Or.inr ⟨by rfl, rfl⟩) (by assumption) ?_
            try simp only [Act.put, List.setIfInBounds_toArray, List.set_cons_zero, List.set_cons_succ]
            refine wpAnyH_take (i := 20) (oi := ⟨_, _, _, _, _, _⟩) (v := undef) rfl (by kernel_rfl) (by kernel_rfl) (by kernel_rfl) (fun _ _ _ h => h) (Or.inr ⟨by rfl, rfl⟩) (by assumption) ?_
            try simp only [Act.put, List.setIfInBounds_toArray, List.set_cons_zero, List.set_cons_succ]
            refine wpAnyH_take (i := 21) (oi := ⟨_, _, _, _, _, _⟩) (v := undef) rfl (by kernel_rfl) (by kernel_rfl) (by kernel_rfl) (fun _ _ _ h => h) (Or.inr ⟨by rfl, rfl⟩) (by assumption) ?_
            try simp only [Act.put, List.setIfInBounds_toArray, List.set_cons_zero, List.set_cons_succ]
            refine wpAnyH_take (i := 22) (oi := ⟨_, _, _, _, _, _⟩) (v := undef) rfl (by kernel_rfl) (by kernel_rfl) (by kernel_rfl) (fun _ _ _ h => h) (Or.inr ⟨by rfl, rfl⟩) (by assumption) ?_
            try simp only [Act.put, List.setIfInBounds_toArray, List.set_cons_zero, List.set_cons_succ]
            refine wpAnyH_take (i := 23) (oi := ⟨_, _, _, _, _, _⟩) (v := ?v23q2) rfl (by kernel_rfl) (by kernel_rfl) (by kernel_rfl) (fun _ _ _ h => h) (Or.inl ⟨by rfl, ?h23q2⟩) (by assumption) ?r23q2
            case h23q2 => (intro w hSw; (try dsimp only at hSw); go_simp <;> with_reducible rfl)
            case' r23q2 => try simp only [Act.put, List.setIfInBounds_toArray, List.set_cons_zero, List.set_cons_succ]
            refine wpAnyH_take (i := 24) (oi := ⟨_, _, _, _, _, _⟩) (v := ?v24q2) rfl (by kernel_rfl) (by kernel_rfl) (by kernel_rfl) (fun _ _ _ h => h) (Or.inl ⟨by rfl, ?h24q2⟩) (by assumption) ?r24q2
            case h24q2 => (intro w hSw; (try dsimp only at hSw); go_simp <;> with_reducible rfl)
            case' r24q2 => try simp only [Act.put, List.setIfInBounds_toArray, List.set_cons_zero, List.set_cons_succ]
            refine wpAnyH_done (by kernel_rfl) ?_ _
            refine NoPanic.normal ?_
            all_goals
              have HB9 := Lib.hid (below_then HB.out (⟨hb9.os, hb9.tape, hb9.output, hb9.size, hb9.block⟩ : RowKit.Below wr.heap.size wr w9))
              clear hb9 c0 c1
              go_wp2_with fail
              go_roundw
              case rel => exact ⟨1, rfl, by omega, Lib.hid (by rw [HTK.out]; exact (Plain.Norm_one _).2 ⟨b1, b2, b3⟩), HB9.out⟩
              case measure => simp [RowKit.intOf]; omega
          · obtain ⟨j, hj⟩ : ∃ j, k = j + 1 := ⟨k - 1, by omega⟩
            have hjS : j < R.length := by omega
            obtain ⟨_, p0, p1⟩ := HXr.out.spot j hjS
            obtain ⟨p, hp⟩ : ∃ p, R[j] = p := ⟨_, rfl⟩
            rw [hp] at p0 p1
            have htj : R.take k = R.take j ++ [p] := by rw [hj, List.take_succ_eq_append_getElem hjS, hp]
            have hpm : May p := Plain.Norm_may HN.out p (by rw [htj]; simp)
            obtain ⟨pl, ph⟩ := p
            obtain ⟨d1, d2, d3⟩ := hpm
            dsimp only at p0 p1 d1 d2 d3
            have HTJ := Lib.hid htj
            have hw11 : (k : Int) - 1 = (j : Int) := by omega
            have hw1 : IntKind.i64.wrap ((k : Int) - 1) = (j : Int) := by rw [hw11, IntKind.wrap_i64]; omega
            have hj0 : (0 : Int) ≤ (j : Int) := by omega
            have hj1 : (j : Int) < (n : Int) := by omega
            have hw3 : IntKind.i64.wrap (j : Int) = (j : Int) := by rw [IntKind.wrap_i64]; omega
            have hw2 : IntKind.i32.wrap (ph + 1) = ph + 1 := by rw [IntKind.wrap_i32]; omega
            have hk1 : decide ((k : Int) > 0) = true := by simp; omega
            have hk00 : decide (0 < k) = true := by simp; omega
            clear hp htj hj
            by_cases hc : lo ≤ ph + 1
            · have dc : decide (lo ≤ ph + 1) = true := by simp [hc]
              go_region_held3 (fun w' => w'.cell? ⟨ba, off + k * 2, none⟩ = some (.int .i32 lo) ∧ w'.cell? ⟨ba, off + k * 2 + 1, none⟩ = some (.int .i32 hi) ∧ w'.cell? ⟨ba, off + j * 2 + 1, none⟩ = some (.int .i32 ph)) (first | go_keep | exact ⟨(hb9.cell (p := ⟨ba, off + k * 2, none⟩) hba).trans c0, (hb9.cell (p := ⟨ba, off + k * 2 + 1, none⟩) hba).trans c1, (hb9.cell (p := ⟨ba, off + j * 2 + 1, none⟩) hba).trans p1⟩) (first | (go_at_call 60; (with_reducible refine (CM.out _).mono ?_); rintro e w9 ⟨rfl, hb9⟩))
              all_goals
                have HB9 := Lib.hid (below_then HB.out (⟨hb9.os, hb9.tape, hb9.output, hb9.size, hb9.block⟩ : RowKit.Below wr.heap.size wr w9))
                clear hb9 c0 c1 p0 p1
                go_wp2_with fail
                go_ret
                refine ⟨false, rfl, ⟨(fun h => by cases h), fun h => ?_⟩, HB9.out⟩
                have h1 := norm_take h.1 (k + 1)
                rw [HTK.out, HTJ.out, norm_snoc] at h1
                have h2 : ph + 1 < lo := h1.2.2
                omega
            · have dc : decide (lo ≤ ph + 1) = false := by simp; omega
              go_region_held3 (fun w' => w'.cell? ⟨ba, off + k * 2, none⟩ = some (.int .i32 lo) ∧ w'.cell? ⟨ba, off + k * 2 + 1, none⟩ = some (.int .i32 hi) ∧ w'.cell? ⟨ba, off + j * 2 + 1, none⟩ = some (.int .i32 ph)) (first | go_keep | exact ⟨(hb9.cell (p := ⟨ba, off + k * 2, none⟩) hba).trans c0, (hb9.cell (p := ⟨ba, off + k * 2 + 1, none⟩) hba).trans c1, (hb9.cell (p := ⟨ba, off + j * 2 + 1, none⟩) hba).trans p1⟩) (first | (go_at_call 60; (with_reducible refine (CM.out _).mono ?_); rintro e w9 ⟨rfl, hb9⟩))
              all_goals
                have HB9 := Lib.hid (below_then HB.out (⟨hb9.os, hb9.tape, hb9.output, hb9.size, hb9.block⟩ : RowKit.Below wr.heap.size wr w9))
                clear hb9 c0 c1 p0 p1
                go_wp2_with fail
                go_roundw
                case rel => exact ⟨k + 1, by go_num, by omega, Lib.hid (by rw [HTK.out, HTJ.out, norm_snoc]; exact ⟨by rw [← HTJ.out]; exact HN.out, ⟨b1, b2, b3⟩, by show ph + 1 < lo; omega⟩), HB9.out⟩
                case measure => simp [RowKit.intOf]; omega
      · obtain rfl : k = n := by omega
        have hT : R.take k = R := List.take_of_length_le (by rw [HR.out]; exact Nat.le_refl _)
        have HT := Lib.hid hT
        clear hT hB
        go_wp2_with fail
        go_ret
        exact ⟨true, rfl, ⟨fun _ => ⟨by have := HN.out; rw [HT.out] at this; exact this, by rw [HR.out]; exact h64⟩, fun _ => rfl⟩, HB.out⟩
  · have d64 : decide ((n : Int) > 64) = true := by simp; omega
    have d64n : decide (64 < n) = true := by simp; omega
    go_enter Tryd.func41, Tryd.ntmps41
    go_wp2_with fail
    go_ret
    exact ⟨false, rfl, ⟨(fun h => by cases h), fun h => absurd h.2 (by rw [HR.out]; exact h64)⟩, RowKit.Below.refl _ _⟩
end Go.Proofs.YtkkgdnmloojloaaDoor
namespace Go.Proofs.YtkkgdnmloojloaaDoor
open Go.RowKit Go.Lib
open Plain (Rg May mayB In Norm cls)
set_option maxRecDepth 100000 in
set_option maxHeartbeats 4000000 in
theorem rmany_any {R : List Rg} {A : Option Addr} {n c : Nat} {w : World} (h : Cl w A n c R) (hn : n ≤ 10000) : Calls Tryd.prog 45 #[.slice A n c] w fun e w' => e = .returned (.int .i64 (cnt (cls R))) ∧ Below w.heap.size w w' := by
  have CO := Lib.hid (rof_any h hn)
  have hlR : (cls R).length ≤ 10000 := by have := Plain.cls_len R; have := h.2.1; omega
  have hNC : Norm (cls R) := Plain.cls_norm R
  obtain ⟨C, hC⟩ : ∃ C, cls R = C := ⟨_, rfl⟩
  rw [hC] at CO hNC hlR ⊢
  have HNC := Lib.hid hNC
  clear hC hNC
  clear h
  go_enter Tryd.func45, Tryd.ntmps45
  go_wp2_with fail
  refine CO.out.mono ?_
  rintro e w4 ⟨AE, nE, cE, rfl, hE, hb⟩
  have HB4 := Lib.hid hb
  have HE4 := Lib.hid hE
  clear hb hE
  have hnE := HE4.out.2.1
  have HNE := Lib.hid hnE
  have hn8 : nE ≤ 10000 := by rw [← hnE]; exact hlR
  clear hnE hlR
  go_wp2_with fail
  go_loopw [4, 5] (fun s i wr => SumRel w4 C nE s i wr) (fun _ i _ => nE - (RowKit.intOf i).toNat)
  case atStart => exact ⟨0, Nat.zero_le _, rfl, rfl, Below.refl _ _⟩
  case round =>
    obtain ⟨k, hk, rfl, rfl, hB⟩ := hrel
    by_cases hlt : k < nE
    · have hkl : k < C.length := by rw [HNE.out]; exact hlt
      obtain ⟨ba, off, rfl, hba, c0, c1⟩ := (HE4.out.1.below hB).get k hkl
      obtain ⟨x, hx⟩ : ∃ x, C[k] = x := ⟨_, rfl⟩
      have hm := Plain.Norm_may HNC.out x (by rw [← hx]; exact List.getElem_mem hkl)
      have hb := cnt_bd (C.take k) (fun q hq => Plain.Norm_may HNC.out q (List.mem_of_mem_take hq))
      have hnext : cnt (C.take (k + 1)) = cnt (C.take k) + (x.2 - x.1 + 1) := by rw [List.take_succ_eq_append_getElem hkl, hx, cnt_snoc]
      have htl : (C.take k).length ≤ 10000 := by rw [List.length_take]; omega
      rw [hx] at c0 c1
      obtain ⟨lo, hi⟩ := x
      obtain ⟨b1, b2, b3⟩ := hm
      obtain ⟨s, hs⟩ : ∃ s, cnt (C.take k) = s := ⟨_, rfl⟩
      rw [hs] at hb hnext ⊢
      dsimp only at c0 c1 b1 b2 b3 hnext
      have f1 : IntKind.i32.wrap (hi - lo) = hi - lo := by rw [IntKind.wrap_i32]; omega
      have f2 : IntKind.i64.wrap (hi - lo) = hi - lo := by rw [IntKind.wrap_i64]; omega
      have f3 : IntKind.i64.wrap (s + (hi - lo)) = s + (hi - lo) := by rw [IntKind.wrap_i64]; omega
      have f4 : IntKind.i64.wrap (s + (hi - lo) + 1) = s + (hi - lo) + 1 := by rw [IntKind.wrap_i64]; omega
      have HNX := Lib.hid hnext
      have HB5 := Lib.hid hB
      clear hnext hx hs hb hB
      go_upto_region 6 with fail
      go_quiet (fail)
      all_goals
        go_wp2_with fail
        go_roundw
        case rel =>
          refine ⟨k + 1, by omega, by go_num, ?_, HB5.out.trans (by exact ⟨rfl, rfl, rfl, Nat.le_refl _, fun _ _ => rfl⟩)⟩
          rw [HNX.out]
          congr 1; omega
        case measure => simp [RowKit.intOf]; omega
    · obtain rfl : k = nE := by omega
      have hT : C.take k = C := List.take_of_length_le (by rw [HNE.out]; exact Nat.le_refl _)
      rw [hT]
      have HB5 := Lib.hid (below_then HB4.out hB)
      clear hB hT
      go_wp2_with fail
      go_ret
      exact ⟨rfl, HB5.out⟩
end Go.Proofs.YtkkgdnmloojloaaDoor
namespace Go.Proofs.YtkkgdnmloojloaaDoor
open Go.RowKit Go.Lib
open Plain (Rg May mayB In Norm cls cnot gaps gapF)
theorem cnot_cls (R : List Rg) : cnot R = (gaps 0 (cls R)).filter mayB := by
  have h : cnot R = cnot (cls R) := by unfold Plain.cnot; rw [Plain.cls_self (Plain.cls_norm R)]
  rw [h, cnot_gaps (Plain.cls_norm R)]
theorem gapF_low : ∀ (C : List Rg), (∀ r ∈ C, May r) → 0 ≤ (C.foldl gapF ([], 0)).2 ∧ (C.foldl gapF ([], 0)).2 ≤ 1114112 := by
  intro C h
  rcases List.eq_nil_or_concat C with e | ⟨T, r, e⟩
  · subst e; exact ⟨Int.le_refl _, by decide⟩
  · rw [List.concat_eq_append] at e
    subst e
    obtain ⟨a, b, c⟩ := h r (by simp)
    rw [gapF_snoc]
    show 0 ≤ r.2 + 1 ∧ r.2 + 1 ≤ 1114112
    omega
def RNotRel (w : World) (D : List Rg) (n : Nat) (v lo i : Value) (wr : World) : Prop :=
  ∃ (k m : Nat) (F : List Rg), k ≤ n ∧ i = .int .i64 k ∧ lo = .int .i32 ((D.take k).foldl gapF ([], 0)).2 ∧ F = (((D.take k).foldl gapF ([], 0)).1).filter mayB ∧ m = F.length ∧ m ≤ k ∧ wr.ownsRow w.heap.size 91 2 v m (rgs F) ∧ Below w.heap.size w wr
set_option maxRecDepth 100000 in
set_option maxHeartbeats 4000000 in
theorem rnot_any {R : List Rg} {A : Option Addr} {n c : Nat} {w : World} (h : Cl w A n c R) (hn : n ≤ 1000) : Calls Tryd.prog 39 #[.slice A n c] w (ClPost (cnot R) w) := by
  obtain ⟨i91, hi91, y0, y1, y2⟩ := info_parts info91
  have CO := Lib.hid (rof_any h (by omega))
  have hlR : (cls R).length ≤ 1000 := by have := Plain.cls_len R; have := h.2.1; omega
  rw [cnot_cls]
  have hNC : Norm (cls R) := Plain.cls_norm R
  obtain ⟨C, hC⟩ : ∃ C, cls R = C := ⟨_, rfl⟩
  rw [hC] at CO hNC hlR ⊢
  have HNC := Lib.hid hNC
  clear hC hNC
  clear h
  go_enter Tryd.func39, Tryd.ntmps39
  go_wp2_with fail
  refine CO.out.mono ?_
  rintro e w4 ⟨AE, nE, cE, rfl, hE, hb⟩
  have HB4 := Lib.hid hb
  have HE4 := Lib.hid hE
  clear hb hE
  have hnE := HE4.out.2.1
  have HNE := Lib.hid hnE
  have hn8 : nE ≤ 1000 := by rw [← hnE]; exact hlR
  clear hnE hlR
  go_wp2_with fail
  go_loopw [4, 5, 6] (fun v lo i wr => RNotRel w4 C nE v lo i wr) (fun _ _ i _ => nE - (RowKit.intOf i).toNat)
  case atStart => exact ⟨0, 0, [], Nat.zero_le _, rfl, rfl, rfl, rfl, Nat.le_refl _, World.ownsRow_nil _ _ _ _, Below.refl _ _⟩
  case round =>
    obtain ⟨k, m, F, hk, rfl, rfl, hF, hm, hmk, hO, hB⟩ := hrel
    obtain ⟨ua, uc, rfl⟩ := own_slice hO
    have hlow := gapF_low (C.take k) (fun q hq => Plain.Norm_may HNC.out q (List.mem_of_mem_take hq))
    obtain ⟨st, hst⟩ : ∃ st, (C.take k).foldl gapF ([], 0) = st := ⟨_, rfl⟩
    rw [hst] at hF hlow ⊢
    obtain ⟨G, low⟩ := st
    dsimp only at hF hlow ⊢
    have HO := Lib.hid hO
    have HB := Lib.hid hB
    have HF := Lib.hid hF
    have HM := Lib.hid hm
    have HST := Lib.hid hst
    obtain ⟨l0, l1⟩ := hlow
    clear hO hF hm hst
    by_cases hlt : k < nE
    · have hkl : k < C.length := by rw [HNE.out]; exact hlt
      obtain ⟨ba, off, rfl, hba, c0, c1⟩ := (HE4.out.1.below hB).get k hkl
      obtain ⟨x, hx⟩ : ∃ x, C[k] = x := ⟨_, rfl⟩
      have hm := Plain.Norm_may HNC.out x (by rw [← hx]; exact List.getElem_mem hkl)
      have hnx : (C.take (k + 1)).foldl gapF ([], 0) = (G ++ [(low, x.1 - 1)], x.2 + 1) := by rw [List.take_succ_eq_append_getElem hkl, gapF_snoc, HST.out, hx]; rfl
      rw [hx] at c0 c1
      obtain ⟨lo, hi⟩ := x
      obtain ⟨b1, b2, b3⟩ := hm
      dsimp only at c0 c1 b1 b2 b3 hnx
      have f1 : IntKind.i32.wrap (lo - 1) = lo - 1 := by rw [IntKind.wrap_i32]; omega
      have f2 : IntKind.i32.wrap (hi + 1) = hi + 1 := by rw [IntKind.wrap_i32]; omega
      have HNX := Lib.hid hnx
      clear hnx hx hB
      by_cases hc : lo > low
      · have d1 : decide (lo > low) = true := by simp; omega
        have d1n : decide (low < lo) = true := by simp; omega
        have hfil : (G ++ [(low, lo - 1)]).filter mayB = F ++ [(low, lo - 1)] := by
          rw [List.filter_append, ← HF.out, List.filter_cons, if_pos ((Plain.mayB_iff _).2 ⟨l0, by show lo - 1 ≤ _; omega, by show low ≤ lo - 1; omega⟩), List.filter_nil]
        have HFIL := Lib.hid hfil
        clear hfil
        go_wp2_with (at_builtin; refine wpList_append_own2 _ rfl (.tmp 22) (.tmp 31) _ rfl w4.heap.size 91 i91 _ 2 8 Tryd.underlying61 hi91 y0 y1 y2 rfl (by decide) (.slice ua m uc) m (rgs F) rfl (HO.out.alloc _) ⟨wr.heap.size, 0, none⟩ 1 1 [.int .i32 low, .int .i32 (lo - 1)] rfl rfl (CellsAt_add (CellsAt.new wr _ _)) ?c2 ?c3 ?c4 ?c5 ?_)
        case c2 => first | exact ⟨rfl, rfl⟩ | (intro u hu; simp only [List.mem_cons, List.not_mem_nil, or_false] at hu; rcases hu with rfl | rfl <;> rfl)
        case c3 => simp only [maxLen]; omega
        case c4 => omega
        case c5 => have := HB.out.size; simp; omega
        intro v3 w7 hown2 hg2 hvb
        have hBn : Below w4.heap.size w4 w7 := (HB.out.alloc HB.out.size _).grown hg2 (by have := HB.out.size; simp; omega) (fun g hg => (HO.out.lt g hg).1)
        have HBn := Lib.hid hBn
        have HO7 := Lib.hid hown2
        clear hBn hg2 hown2 hvb c0 c1 hba
        obtain ⟨hba, c0, c1⟩ := (HE4.out.1.below HBn.out).spot k hkl
        have hxx : C[k] = (lo, hi) := by
          have h1 := HNX.out
          rw [List.take_succ_eq_append_getElem hkl, gapF_snoc, HST.out] at h1
          unfold Plain.gapF at h1
          dsimp only at h1
          injection h1 with h2 h3
          have h4 := List.append_cancel_left h2
          injection h4 with h4
          injection h4 with _ h4
          exact Prod.ext (by show C[k].1 = lo; omega) (by show C[k].2 = hi; omega)
        rw [hxx] at c0 c1
        clear hxx
        dsimp only at c0 c1
        go_wp2
        go_roundw
        case rel =>
          refine ⟨k + 1, m + 1, F ++ [(low, lo - 1)], by omega, by go_num, ?_, ?_, ?_, by omega, ?_, HBn.out⟩
          · rw [HNX.out]
          · rw [HNX.out, ← HFIL.out]
          · rw [List.length_append, ← HM.out]; rfl
          · rw [rgs_append]; exact HO7.out
        case measure => simp [RowKit.intOf]; omega
      · have d1 : decide (lo > low) = false := by simp; omega
        have d1n : decide (low < lo) = false := by simp; omega
        have hfil : (G ++ [(low, lo - 1)]).filter mayB = F := by
          rw [List.filter_append, ← HF.out, List.filter_cons, if_neg (fun h => by have := ((Plain.mayB_iff _).1 h).2.2; have h3 : low ≤ lo - 1 := this; omega), List.filter_nil, List.append_nil]
        have HFIL := Lib.hid hfil
        clear hfil
        go_wp2_with fail
        go_roundw
        case rel =>
          refine ⟨k + 1, m, F, by omega, by go_num, ?_, ?_, HM.out, by omega, HO.out, HB.out⟩
          · rw [HNX.out]
          · rw [HNX.out, ← HFIL.out]
        case measure => simp [RowKit.intOf]; omega
    · obtain rfl : k = nE := by omega
      have hT : C.take k = C := List.take_of_length_le (by rw [HNE.out]; exact Nat.le_refl _)
      have hga := Plain.gapF_all C [] 0
      have hst := HST.out
      rw [hT] at hst
      rw [hst] at hga
      dsimp only at hga
      rw [List.nil_append] at hga
      have HGA := Lib.hid hga
      clear hst hga hT hB
      by_cases hc : low ≤ 1114111
      · have d1 : decide (low ≤ 1114111) = true := by simp [hc]
        have hfil : (gaps 0 C).filter mayB = F ++ [(low, 1114111)] := by
          rw [← HGA.out, List.filter_append, ← HF.out, List.filter_cons, if_pos ((Plain.mayB_iff _).2 ⟨l0, Int.le_refl _, hc⟩), List.filter_nil]
        have HFIL := Lib.hid hfil
        clear hfil
        go_wp2_with (at_builtin; refine wpList_append_own2 _ rfl (.tmp 41) (.tmp 44) _ rfl w4.heap.size 91 i91 _ 2 8 Tryd.underlying61 hi91 y0 y1 y2 rfl (by decide) (.slice ua m uc) m (rgs F) rfl (HO.out.alloc _) ⟨wr.heap.size, 0, none⟩ 1 1 [.int .i32 low, .int .i32 1114111] rfl rfl (CellsAt_add (CellsAt.new wr _ _)) ?e2 ?e3 ?e4 ?e5 ?_)
        case e2 => first | exact ⟨rfl, rfl⟩ | (intro u hu; simp only [List.mem_cons, List.not_mem_nil, or_false] at hu; rcases hu with rfl | rfl <;> rfl)
        case e3 => simp only [maxLen]; omega
        case e4 => omega
        case e5 => have := HB.out.size; simp; omega
        intro v3 w7 hown2 hg2 hvb
        obtain ⟨va, vc, rfl⟩ := own_slice hown2
        have hBn : Below w4.heap.size w4 w7 := (HB.out.alloc HB.out.size _).grown hg2 (by have := HB.out.size; simp; omega) (fun g hg => (HO.out.lt g hg).1)
        have HBn := Lib.hid (below_then HB4.out hBn)
        have HO7 := Lib.hid hown2
        clear hBn hg2 hown2 hvb
        go_wp2_with fail
        go_ret
        refine ⟨va, m + 1, vc, rfl, ?_, HBn.out⟩
        rw [HFIL.out]
        exact Cl.of_own91 (by rw [rgs_append]; exact HO7.out) (by rw [List.length_append, ← HM.out]; rfl)
      · have d1 : decide (low ≤ 1114111) = false := by simp; omega
        have hfil : (gaps 0 C).filter mayB = F := by
          rw [← HGA.out, List.filter_append, ← HF.out, List.filter_cons, if_neg (fun h => by have h3 : low ≤ 1114111 := ((Plain.mayB_iff _).1 h).2.2; exact hc h3), List.filter_nil, List.append_nil]
        have HFIL := Lib.hid hfil
        clear hfil
        go_wp2_with fail
        go_ret
        refine ⟨ua, m, uc, rfl, ?_, below_then HB4.out HB.out⟩
        rw [HFIL.out]
        exact Cl.of_own91 HO.out HM.out.symm
end Go.Proofs.YtkkgdnmloojloaaDoor
namespace Go.Proofs.YtkkgdnmloojloaaDoor
open Go.RowKit Go.Lib
open Plain (Rg May mayB In Norm cls)
set_option maxRecDepth 100000 in
set_option maxHeartbeats 4000000 in
theorem runion_any {R S : List Rg} {A B : Option Addr} {n c m d : Nat} {w : World} (h : Cl w A n c R) (k : Cl w B m d S) (hn : n ≤ 1000) (hm : m ≤ 1000) : Calls Tryd.prog 37 #[.slice A n c, .slice B m d] w (ClPost (cls (R ++ S)) w) := by
  obtain ⟨i91, hi91, y0, y1, y2⟩ := info_parts info91
  have HX := Lib.hid h.1
  have HR := Lib.hid h.2.1
  have HAN := Lib.hid h.2.2
  have HY := Lib.hid k.1
  have HS := Lib.hid k.2.1
  have HBN := Lib.hid k.2.2
  clear h k
  cases A with
  | none =>
    cases B with
    | none =>
      have hA0 := HAN.out rfl
      subst hA0
      have hnil : R = [] := by
        cases hr : R with
        | nil => rfl
        | cons r T => obtain ⟨b, off, e, _⟩ := HX.out (by rw [hr]; simp); cases e
      have hn0 : n = 0 := by rw [← HR.out, hnil]; rfl
      subst hn0
      have hB0 := HBN.out rfl
      subst hB0
      have hnil2 : S = [] := by
        cases hr : S with
        | nil => rfl
        | cons r T => obtain ⟨b, off, e, _⟩ := HY.out (by rw [hr]; simp); cases e
      have hm0 : m = 0 := by rw [← HS.out, hnil2]; rfl
      subst hm0
      go_enter Tryd.func37, Tryd.ntmps37
      go_wp2_with (at_builtin; first | (refine wpList_append_own_none rfl (.const (.slice none 0 0)) (.tmp 5) _ rfl w.heap.size 91 i91 2 Tryd.underlying61 hi91 (.slice none 0 0) 0 [] rfl (World.ownsRow_nil _ _ _ _) rfl ?_) | (refine wpList_append_own_none rfl (.tmp 6) (.tmp 7) _ rfl w.heap.size 91 i91 2 Tryd.underlying61 hi91 (.slice none 0 0) 0 [] rfl (World.ownsRow_nil _ _ _ _) rfl ?_))
      have CO := Lib.hid (rof_any (R := R ++ S) (A := none) (n := 0) (c := 0) (w := w) (by rw [hnil, hnil2]; exact cl_nil w) (by omega))
      go_wp2_with fail
      refine CO.out.mono ?_
      rintro e w9 ⟨A9, n9, c9, rfl, h9, hb⟩
      have HB9 := Lib.hid (below_then (Below.refl w.heap.size w) hb)
      have H9 := Lib.hid h9
      clear hb h9
      go_wp2_with fail
      go_ret
      exact ⟨A9, n9, c9, rfl, H9.out, HB9.out⟩
    | some ad2 =>
      have hA0 := HAN.out rfl
      subst hA0
      have hnil : R = [] := by
        cases hr : R with
        | nil => rfl
        | cons r T => obtain ⟨b, off, e, _⟩ := HX.out (by rw [hr]; simp); cases e
      have hn0 : n = 0 := by rw [← HR.out, hnil]; rfl
      subst hn0
      go_enter Tryd.func37, Tryd.ntmps37
      go_wp2_with (at_builtin; first | (refine wpList_append_own_none rfl (.const (.slice none 0 0)) (.tmp 5) _ rfl w.heap.size 91 i91 2 Tryd.underlying61 hi91 (.slice none 0 0) 0 [] rfl (World.ownsRow_nil _ _ _ _) rfl ?_) | (refine wpList_append_own2 _ rfl (.tmp 6) (.tmp 7) _ rfl w.heap.size 91 i91 _ 2 8 Tryd.underlying61 hi91 y0 y1 y2 rfl (by decide) (.slice none 0 0) 0 [] rfl (World.ownsRow_nil _ _ _ _) ad2 m d (rgs S) rfl (by rw [rgs_len, HS.out]) (HY.out.below (Below.refl _ _)).flat (rgs_one S) (by simp only [maxLen]; omega) (by omega) (Nat.le_refl _) ?_))
      intro v4 w4 hown4 hg4 hvb4
      try rw [Nat.zero_add] at hown4
      try rw [List.nil_append] at hown4
      obtain ⟨za, zc, rfl⟩ := own_slice hown4
      have hB4 : Below w.heap.size w w4 := (Below.refl _ _).grown hg4 (Nat.le_refl _) (fun g hg => by cases hg)
      have HO4 := Lib.hid hown4
      have HB4 := Lib.hid hB4
      clear hg4 hown4 hvb4 hB4
      have CO := Lib.hid (rof_any (R := R ++ S) (by rw [hnil, List.nil_append]; exact Cl.of_own91 HO4.out HS.out) (by omega))
      go_wp2_with fail
      refine CO.out.mono ?_
      rintro e w9 ⟨A9, n9, c9, rfl, h9, hb⟩
      have HB9 := Lib.hid (below_then HB4.out hb)
      have H9 := Lib.hid h9
      clear hb h9
      go_wp2_with fail
      go_ret
      exact ⟨A9, n9, c9, rfl, H9.out, HB9.out⟩
  | some ad =>
    cases B with
    | none =>
      have hA0 := trivial
      have hB0 := HBN.out rfl
      subst hB0
      have hnil2 : S = [] := by
        cases hr : S with
        | nil => rfl
        | cons r T => obtain ⟨b, off, e, _⟩ := HY.out (by rw [hr]; simp); cases e
      have hm0 : m = 0 := by rw [← HS.out, hnil2]; rfl
      subst hm0
      go_enter Tryd.func37, Tryd.ntmps37
      go_wp2_with (at_builtin; refine wpList_append_own2 _ rfl (.const (.slice none 0 0)) (.tmp 5) _ rfl w.heap.size 91 i91 _ 2 8 Tryd.underlying61 hi91 y0 y1 y2 rfl (by decide) (.slice none 0 0) 0 [] rfl (World.ownsRow_nil _ _ _ _) ad n c (rgs R) rfl (by rw [rgs_len, HR.out]) HX.out.flat (rgs_one R) (by simp only [maxLen]; omega) (by omega) (Nat.le_refl _) ?_)
      intro v3 w3 hown3 hg3 hvb3
      try rw [Nat.zero_add] at hown3
      try rw [List.nil_append] at hown3
      obtain ⟨va, vc, rfl⟩ := own_slice hown3
      have hB3 : Below w.heap.size w w3 := (Below.refl _ _).grown hg3 (Nat.le_refl _) (fun g hg => by cases hg)
      have HO3 := Lib.hid hown3
      have HB3 := Lib.hid hB3
      clear hg3 hown3 hvb3 hB3
      go_wp2_with (at_builtin; refine wpList_append_own_none rfl (.tmp 6) (.tmp 7) _ rfl w.heap.size 91 i91 2 Tryd.underlying61 hi91 (.slice va n vc) n (rgs R) rfl HO3.out rfl ?_)
      have CO := Lib.hid (rof_any (R := R ++ S) (by rw [hnil2, List.append_nil]; exact Cl.of_own91 HO3.out HR.out) (by omega))
      go_wp2_with fail
      refine CO.out.mono ?_
      rintro e w9 ⟨A9, n9, c9, rfl, h9, hb⟩
      have HB9 := Lib.hid (below_then HB3.out hb)
      have H9 := Lib.hid h9
      clear hb h9
      go_wp2_with fail
      go_ret
      exact ⟨A9, n9, c9, rfl, H9.out, HB9.out⟩
    | some ad2 =>
      have hA0 := trivial
      go_enter Tryd.func37, Tryd.ntmps37
      go_wp2_with (at_builtin; refine wpList_append_own2 _ rfl (.const (.slice none 0 0)) (.tmp 5) _ rfl w.heap.size 91 i91 _ 2 8 Tryd.underlying61 hi91 y0 y1 y2 rfl (by decide) (.slice none 0 0) 0 [] rfl (World.ownsRow_nil _ _ _ _) ad n c (rgs R) rfl (by rw [rgs_len, HR.out]) HX.out.flat (rgs_one R) (by simp only [maxLen]; omega) (by omega) (Nat.le_refl _) ?_)
      intro v3 w3 hown3 hg3 hvb3
      try rw [Nat.zero_add] at hown3
      try rw [List.nil_append] at hown3
      obtain ⟨va, vc, rfl⟩ := own_slice hown3
      have hB3 : Below w.heap.size w w3 := (Below.refl _ _).grown hg3 (Nat.le_refl _) (fun g hg => by cases hg)
      have HO3 := Lib.hid hown3
      have HB3 := Lib.hid hB3
      clear hg3 hown3 hvb3 hB3
      go_wp2_with (at_builtin; refine wpList_append_own2 _ rfl (.tmp 6) (.tmp 7) _ rfl w.heap.size 91 i91 _ 2 8 Tryd.underlying61 hi91 y0 y1 y2 rfl (by decide) (.slice va n vc) n (rgs R) rfl HO3.out ad2 m d (rgs S) rfl (by rw [rgs_len, HS.out]) (HY.out.below HB3.out).flat (rgs_one S) (by simp only [maxLen]; omega) (by omega) HB3.out.size ?_)
      intro v4 w4 hown4 hg4 hvb4
      try rw [Nat.zero_add] at hown4
      try rw [List.nil_append] at hown4
      obtain ⟨za, zc, rfl⟩ := own_slice hown4
      have hB4 : Below w.heap.size w w4 := HB3.out.grown hg4 HB3.out.size (fun g hg => (HO3.out.lt g hg).1)
      have HO4 := Lib.hid hown4
      have HB4 := Lib.hid hB4
      clear hg4 hown4 hvb4 hB4
      have CO := Lib.hid (rof_any (R := R ++ S) (Cl.of_own91 (by rw [rgs_append]; exact HO4.out) (by rw [List.length_append, HR.out, HS.out])) (by omega))
      go_wp2_with fail
      refine CO.out.mono ?_
      rintro e w9 ⟨A9, n9, c9, rfl, h9, hb⟩
      have HB9 := Lib.hid (below_then HB4.out hb)
      have H9 := Lib.hid h9
      clear hb h9
      go_wp2_with fail
      go_ret
      exact ⟨A9, n9, c9, rfl, H9.out, HB9.out⟩
end Go.Proofs.YtkkgdnmloojloaaDoor
