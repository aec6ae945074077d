/- The document's Right, RightInst, Slots (chapters 4, 8): what they compute. Conditions: what each lemma says. -/
import Derived.Test.YtpeheppiolfpfaaDoorRefE
set_option linter.unusedVariables false
set_option linter.unusedSimpArgs false
namespace Go.Proofs.YtpeheppiolfpfaaDoor
open Go.RowKit Go.Lib
open Plain (slotsOf)
theorem slotsOf_sm (g : Int) (h : 0 ≤ g) (h2 : g < 1000000000000) : slotsOf g = 2 * g + 2 := by
  unfold Plain.slotsOf
  rw [if_neg (by omega), IntWalk.wrap64_in (2 * g) (by omega), IntWalk.wrap64_in (2 * g + 2) (by omega)]
theorem cells_of {w : World} {g : Nat} {cs : Array Value} {t : TypeId} (h : w.heap[g]? = some (.cells cs t (0, 0))) : CellsAt w g cs.toList := ⟨lt_of_some h, fun j u hu => by rw [cell_of_row _ _ _ _ _ _ h]; simpa using hu⟩
end Go.Proofs.YtpeheppiolfpfaaDoor
namespace Go.Proofs.YtpeheppiolfpfaaDoor
open Go.RowKit Go.Lib
open Plain (Rg May mayB In Norm rightB)
theorem Rs.spot {w : World} {ba off : Nat} {R : List Rg} (h : Rs w (some ⟨ba, off, none⟩) R) (k : Nat) (hk : k < R.length) : ba < w.heap.size ∧ w.cell? ⟨ba, off + k * 2, none⟩ = some (.int .i32 R[k].1) ∧ w.cell? ⟨ba, off + k * 2 + 1, none⟩ = some (.int .i32 R[k].2) := by
  obtain ⟨b, o, e, h1, h2, h3⟩ := h.get k hk
  injection e with e
  injection e with e1 e2
  subst e1 e2
  exact ⟨h1, h2, h3⟩
theorem rmay_any (lo hi : Int) (w : World) : Calls Tryd.prog 53 #[.agg #[.int .i32 lo, .int .i32 hi]] w fun e w' => e = .returned (.bool (mayB (lo, hi))) ∧ Below w.heap.size w w' := by
  unfold mayB
  dsimp only
  by_cases h1 : 0 ≤ lo
  · by_cases h2 : hi ≤ 1114111
    · by_cases h3 : lo ≤ hi
      · have d1 : decide (0 ≤ lo) = true := by simp [h1]
        have d2 : decide (hi ≤ 1114111) = true := by simp [h2]
        have d3 : decide (lo ≤ hi) = true := by simp [h3]
        go_enter Tryd.func53, Tryd.ntmps53
        go_wp2
        go_ret
        exact ⟨ret_bool (by simp [*]), (Below.refl _ _).alloc (Nat.le_refl _) _⟩
      · have d1 : decide (0 ≤ lo) = true := by simp [h1]
        have d2 : decide (hi ≤ 1114111) = true := by simp [h2]
        have d3 : decide (lo ≤ hi) = false := by simp; omega
        go_enter Tryd.func53, Tryd.ntmps53
        go_wp2
        go_ret
        exact ⟨ret_bool (by simp [*]), (Below.refl _ _).alloc (Nat.le_refl _) _⟩
    · have d1 : decide (0 ≤ lo) = true := by simp [h1]
      have d2 : decide (hi ≤ 1114111) = false := by simp; omega
      go_enter Tryd.func53, Tryd.ntmps53
      go_wp2
      go_ret
      exact ⟨ret_bool (by simp [*]), (Below.refl _ _).alloc (Nat.le_refl _) _⟩
  · have d1 : decide (0 ≤ lo) = false := by simp; omega
    go_enter Tryd.func53, Tryd.ntmps53
    go_wp2
    go_ret
    exact ⟨ret_bool (by simp [*]), (Below.refl _ _).alloc (Nat.le_refl _) _⟩
set_option maxRecDepth 100000 in
set_option maxHeartbeats 8000000 in
theorem rright_any {R : List Rg} {A : Option Addr} {n c : Nat} {w : World} (h : Rs w A R ∧ R.length = n ∧ True) (hn : n ≤ maxLen) :
    Calls Tryd.prog 40 #[.slice A n c] w (RightPost R w) := by
  have HX := Lib.hid h.1
  have HR := Lib.hid h.2.1
  clear h
  by_cases h64 : n ≤ 64
  · have d64 : decide ((n : Int) > 64) = false := by simp; omega
    have d64n : decide (64 < n) = false := by simp; omega
    go_enter Tryd.func40, Tryd.ntmps40
    go_wp2_with fail
    go_loopw [3] (fun i wr => ∃ k : Nat, i = .int .i64 k ∧ k ≤ n ∧ Hid (Norm (R.take k)) ∧ RowKit.Below w.heap.size w wr) (fun i _ => n - (RowKit.intOf i).toNat)
    case atStart => exact ⟨0, rfl, Nat.zero_le _, Lib.hid trivial, RowKit.Below.refl _ _⟩
    case round =>
      obtain ⟨k, rfl, hk, HN, hB⟩ := hrel
      have HB := Lib.hid hB
      by_cases hlt : k < n
      · have hkS : k < R.length := by rw [HR.out]; exact hlt
        obtain ⟨ba, off, rfl, hba, c0, c1⟩ := (HX.out.below hB).get k hkS
        have HXr := Lib.hid (HX.out.below hB)
        obtain ⟨r, hr⟩ : ∃ r, R[k] = r := ⟨_, rfl⟩
        rw [hr] at c0 c1
        have htk : R.take (k + 1) = R.take k ++ [r] := by rw [List.take_succ_eq_append_getElem hkS, hr]
        obtain ⟨lo, hi⟩ := r
        dsimp only at c0 c1
        have HTK := Lib.hid htk
        obtain ⟨q, hq⟩ : ∃ q, mayB (lo, hi) = q := ⟨_, rfl⟩
        have cM := fun W => rmay_any lo hi W
        rw [hq] at cM
        have CM := Lib.hid cM
        have HQ := Lib.hid hq
        have g0 : (0 : Int) ≤ (k : Int) := by omega
        have g1 : (k : Int) < (n : Int) := by omega
        clear hr htk hq cM hB
        go_upto_region 6 with fail
        cases q
        · refine wp_region_noPanic ?_
          refine wp_region_held_drew (S := (fun w' => w'.cell? ⟨ba, off + k * 2, none⟩ = some (.int .i32 lo) ∧ w'.cell? ⟨ba, off + k * 2 + 1, none⟩ = some (.int .i32 hi))) (by kernel_rfl) ?_ (fun hHeld => ?_)
          · (try dsimp only) <;> (first | go_keep | exact ⟨(hb9.cell (p := ⟨ba, off + k * 2, none⟩) hba).trans c0, (hb9.cell (p := ⟨ba, off + k * 2 + 1, none⟩) hba).trans c1⟩)
          refine wpAnyH_take (i := 0) (oi := ⟨_, _, _, _, _, _⟩) (v := ?v0q1) rfl (by kernel_rfl) (by kernel_rfl) (by kernel_rfl) (fun _ _ _ h => h) (Or.inl ⟨by rfl, ?h0q1⟩) (by assumption) ?r0q1
          case h0q1 => (intro w hSw; (try dsimp only at hSw); go_simp <;> with_reducible rfl)
          case' r0q1 => try simp only [Act.put, List.setIfInBounds_toArray, List.set_cons_zero, List.set_cons_succ]
          refine wpAnyH_take (i := 1) (oi := ⟨_, _, _, _, _, _⟩) (v := ?v1q1) rfl (by kernel_rfl) (by kernel_rfl) (by kernel_rfl) (fun _ _ _ h => h) (Or.inl ⟨by rfl, ?h1q1⟩) (by assumption) ?r1q1
          case h1q1 => (intro w hSw; (try dsimp only at hSw); go_simp <;> with_reducible rfl)
          case' r1q1 => try simp only [Act.put, List.setIfInBounds_toArray, List.set_cons_zero, List.set_cons_succ]
          refine wpAnyH_take (i := 2) (oi := ⟨_, _, _, _, _, _⟩) (v := ?v2q1) rfl (by kernel_rfl) (by kernel_rfl) (by kernel_rfl) (fun _ _ _ h => h) (Or.inl ⟨by rfl, ?h2q1⟩) (by assumption) ?r2q1
          case h2q1 => (intro w hSw; (try dsimp only at hSw); go_simp <;> with_reducible rfl)
          case' r2q1 => try simp only [Act.put, List.setIfInBounds_toArray, List.set_cons_zero, List.set_cons_succ]
          refine wpAnyH_take (i := 3) (oi := ⟨_, _, _, _, _, _⟩) (v := ?v3q1) rfl (by kernel_rfl) (by kernel_rfl) (by kernel_rfl) (fun _ _ _ h => h) (Or.inl ⟨by rfl, ?h3q1⟩) (by assumption) ?r3q1
          case h3q1 => (intro w hSw; (try dsimp only at hSw); go_simp <;> with_reducible rfl)
          case' r3q1 => try simp only [Act.put, List.setIfInBounds_toArray, List.set_cons_zero, List.set_cons_succ]
          refine wpAnyH_ready (rs := [4]) (by kernel_rfl) (by simp) ?_
          refine AllReadyH.cons (o := ⟨_, _, _, _, _, _⟩) rfl (fun K hK => ?_) AllReadyH.nil
          rw [if_pos (by rfl)]
          (first | (go_at_call 53; (with_reducible refine (CM.out _).mono ?_); rintro e w9 ⟨rfl, hb9⟩) | (go_simp; first | ((go_at_call 53; (with_reducible refine (CM.out _).mono ?_); rintro e w9 ⟨rfl, hb9⟩); (try dsimp only)) | skip))
          refine hK.out _ _ ?_ (fun hHeld => ?_)
          · (try dsimp only) <;> (first | go_keep | exact ⟨(hb9.cell (p := ⟨ba, off + k * 2, none⟩) hba).trans c0, (hb9.cell (p := ⟨ba, off + k * 2 + 1, none⟩) hba).trans c1⟩)
          clear hK K
          try simp only [Act.put, List.setIfInBounds_toArray, List.set_cons_zero, List.set_cons_succ]
          refine wpAnyH_take (i := 5) (oi := ⟨_, _, _, _, _, _⟩) (v := ?v5q1) rfl (by kernel_rfl) (by kernel_rfl) (by kernel_rfl) (fun _ _ _ h => h) (Or.inl ⟨by rfl, ?h5q1⟩) (by assumption) ?r5q1
          case h5q1 => (intro w hSw; (try dsimp only at hSw); go_simp <;> with_reducible rfl)
          case' r5q1 => try simp only [Act.put, List.setIfInBounds_toArray, List.set_cons_zero, List.set_cons_succ]
          refine wpAnyH_take (i := 6) (oi := ⟨_, _, _, _, _, _⟩) (v := ?v6q1) rfl (by kernel_rfl) (by kernel_rfl) (by kernel_rfl) (fun _ _ _ h => h) (Or.inl ⟨by rfl, ?h6q1⟩) (by assumption) ?r6q1
          case h6q1 => (intro w hSw; (try dsimp only at hSw); go_simp <;> with_reducible rfl)
          case' r6q1 => try simp only [Act.put, List.setIfInBounds_toArray, List.set_cons_zero, List.set_cons_succ]
          refine wpAnyH_take (i := 7) (oi := ⟨_, _, _, _, _, _⟩) (v := undef) rfl (by kernel_rfl) (by kernel_rfl) (by kernel_rfl) (fun _ _ _ h => h) (Or.inr ⟨by rfl, rfl⟩) (by assumption) ?_
          try simp only [Act.put, List.setIfInBounds_toArray, List.set_cons_zero, List.set_cons_succ]
          refine wpAnyH_take (i := 8) (oi := ⟨_, _, _, _, _, _⟩) (v := undef) rfl (by kernel_rfl) (by kernel_rfl) (by kernel_rfl) (fun _ _ _ h => h) (Or.inr ⟨by rfl, rfl⟩) (by assumption) ?_
          try simp only [Act.put, List.setIfInBounds_toArray, List.set_cons_zero, List.set_cons_succ]
          refine wpAnyH_take (i := 9) (oi := ⟨_, _, _, _, _, _⟩) (v := undef) rfl (by kernel_rfl) (by kernel_rfl) (by kernel_rfl) (fun _ _ _ h => h) (Or.inr ⟨by rfl, rfl⟩) (by assumption) ?_
          try simp only [Act.put, List.setIfInBounds_toArray, List.set_cons_zero, List.set_cons_succ]
          refine wpAnyH_take (i := 10) (oi := ⟨_, _, _, _, _, _⟩) (v := undef) rfl (by kernel_rfl) (by kernel_rfl) (by kernel_rfl) (fun _ _ _ h => h) (Or.inr ⟨by rfl, rfl⟩) (by assumption) ?_
          try simp only [Act.put, List.setIfInBounds_toArray, List.set_cons_zero, List.set_cons_succ]
          refine wpAnyH_take (i := 11) (oi := ⟨_, _, _, _, _, _⟩) (v := undef) rfl (by kernel_rfl) (by kernel_rfl) (by kernel_rfl) (fun _ _ _ h => h) (Or.inr ⟨by rfl, rfl⟩) (by assumption) ?_
          try simp only [Act.put, List.setIfInBounds_toArray, List.set_cons_zero, List.set_cons_succ]
          refine wpAnyH_take (i := 12) (oi := ⟨_, _, _, _, _, _⟩) (v := undef) rfl (by kernel_rfl) (by kernel_rfl) (by kernel_rfl) (fun _ _ _ h => h) (Or.inr ⟨by rfl, rfl⟩) (by assumption) ?_
          try simp only [Act.put, List.setIfInBounds_toArray, List.set_cons_zero, List.set_cons_succ]
          refine wpAnyH_take (i := 13) (oi := ⟨_, _, _, _, _, _⟩) (v := undef) rfl (by kernel_rfl) (by kernel_rfl) (by kernel_rfl) (fun _ _ _ h => h) (Or.inr ⟨by rfl, rfl⟩) (by assumption) ?_
          try simp only [Act.put, List.setIfInBounds_toArray, List.set_cons_zero, List.set_cons_succ]
          refine wpAnyH_take (i := 14) (oi := ⟨_, _, _, _, _, _⟩) (v := undef) rfl (by kernel_rfl) (by kernel_rfl) (by kernel_rfl) (fun _ _ _ h => h) (Or.inr ⟨by rfl, rfl⟩) (by assumption) ?_
          try simp only [Act.put, List.setIfInBounds_toArray, List.set_cons_zero, List.set_cons_succ]
          refine wpAnyH_take (i := 15) (oi := ⟨_, _, _, _, _, _⟩) (v := undef) rfl (by kernel_rfl) (by kernel_rfl) (by kernel_rfl) (fun _ _ _ h => h) (Or.inr ⟨by rfl, rfl⟩) (by assumption) ?_
          try simp only [Act.put, List.setIfInBounds_toArray, List.set_cons_zero, List.set_cons_succ]
          refine wpAnyH_take (i := 16) (oi := ⟨_, _, _, _, _, _⟩) (v := undef) rfl (by kernel_rfl) (by kernel_rfl) (by kernel_rfl) (fun _ _ _ h => h) (Or.inr ⟨by rfl, rfl⟩) (by assumption) ?_
          try simp only [Act.put, List.setIfInBounds_toArray, List.set_cons_zero, List.set_cons_succ]
          refine wpAnyH_take (i := 17) (oi := ⟨_, _, _, _, _, _⟩) (v := undef) rfl (by kernel_rfl) (by kernel_rfl) (by kernel_rfl) (fun _ _ _ h => h) (Or.inr ⟨by rfl, rfl⟩) (by assumption) ?_
          try simp only [Act.put, List.setIfInBounds_toArray, List.set_cons_zero, List.set_cons_succ]
          refine wpAnyH_take (i := 18) (oi := ⟨_, _, _, _, _, _⟩) (v := undef) rfl (by kernel_rfl) (by kernel_rfl) (by kernel_rfl) (fun _ _ _ h => h) (Or.inr ⟨by rfl, rfl⟩) (by assumption) ?_
          try simp only [Act.put, List.setIfInBounds_toArray, List.set_cons_zero, List.set_cons_succ]
          refine wpAnyH_take (i := 19) (oi := ⟨_, _, _, _, _, _⟩) (v := undef) rfl (by kernel_rfl) (by kernel_rfl) (by kernel_rfl) (fun _ _ _ h => h) (Or.inr ⟨by rfl, rfl⟩) (by assumption) ?_
          try simp only [Act.put, List.setIfInBounds_toArray, List.set_cons_zero, List.set_cons_succ]
          refine wpAnyH_take (i := 20) (oi := ⟨_, _, _, _, _, _⟩) (v := undef) rfl (by kernel_rfl) (by kernel_rfl) (by kernel_rfl) (fun _ _ _ h => h) (Or.inr ⟨by rfl, rfl⟩) (by assumption) ?_
          try simp only [Act.put, List.setIfInBounds_toArray, List.set_cons_zero, List.set_cons_succ]
          refine wpAnyH_take (i := 21) (oi := ⟨_, _, _, _, _, _⟩) (v := undef) rfl (by kernel_rfl) (by kernel_rfl) (by kernel_rfl) (fun _ _ _ h => h) (Or.inr ⟨by rfl, rfl⟩) (by assumption) ?_
          try simp only [Act.put, List.setIfInBounds_toArray, List.set_cons_zero, List.set_cons_succ]
          refine wpAnyH_take (i := 22) (oi := ⟨_, _, _, _, _, _⟩) (v := undef) rfl (by kernel_rfl) (by kernel_rfl) (by kernel_rfl) (fun _ _ _ h => h) (Or.inr ⟨by rfl, rfl⟩) (by assumption) ?_
          try simp only [Act.put, List.setIfInBounds_toArray, List.set_cons_zero, List.set_cons_succ]
          refine wpAnyH_take (i := 23) (oi := ⟨_, _, _, _, _, _⟩) (v := undef) rfl (by kernel_rfl) (by kernel_rfl) (by kernel_rfl) (fun _ _ _ h => h) (Or.inr ⟨by rfl, rfl⟩) (by assumption) ?_
          try simp only [Act.put, List.setIfInBounds_toArray, List.set_cons_zero, List.set_cons_succ]
          refine wpAnyH_take (i := 24) (oi := ⟨_, _, _, _, _, _⟩) (v := ?v24q1) rfl (by kernel_rfl) (by kernel_rfl) (by kernel_rfl) (fun _ _ _ h => h) (Or.inl ⟨by rfl, ?h24q1⟩) (by assumption) ?r24q1
          case h24q1 => (intro w hSw; (try dsimp only at hSw); go_simp <;> with_reducible rfl)
          case' r24q1 => try simp only [Act.put, List.setIfInBounds_toArray, List.set_cons_zero, List.set_cons_succ]
          refine wpAnyH_done (by kernel_rfl) ?_ _
          refine NoPanic.normal ?_
          all_goals
            have HB9 := Lib.hid (below_then HB.out (⟨hb9.os, hb9.tape, hb9.output, hb9.size, hb9.block⟩ : RowKit.Below wr.heap.size wr w9))
            clear hb9 c0 c1
            go_wp2_with fail
            go_ret
            refine ⟨false, rfl, ⟨(fun h => by cases h), fun h => ?_⟩, HB9.out⟩
            have h1 := norm_take h.1 (k + 1)
            rw [HTK.out] at h1
            have h2 := Plain.Norm_may h1 (lo, hi) (by simp)
            have h3 := (Plain.mayB_iff (lo, hi)).2 h2
            rw [HQ.out] at h3
            cases h3
        · have hmay : May (lo, hi) := (Plain.mayB_iff _).1 HQ.out
          obtain ⟨b1, b2, b3⟩ := hmay
          dsimp only at b1 b2 b3
          rcases Nat.eq_zero_or_pos k with hk0 | hk0
          · subst hk0
            simp only [Nat.zero_mul, Nat.add_zero] at c0 c1
            refine wp_region_noPanic ?_
            refine wp_region_held_drew (S := (fun w' => w'.cell? ⟨ba, off, none⟩ = some (.int .i32 lo) ∧ w'.cell? ⟨ba, off + 1, none⟩ = some (.int .i32 hi))) (by kernel_rfl) ?_ (fun hHeld => ?_)
            · (try dsimp only) <;> (first | go_keep | exact ⟨(hb9.cell (p := ⟨ba, off, none⟩) hba).trans c0, (hb9.cell (p := ⟨ba, off + 1, none⟩) hba).trans c1⟩)
            refine wpAnyH_take (i := 0) (oi := ⟨_, _, _, _, _, _⟩) (v := ?v0q2) rfl (by kernel_rfl) (by kernel_rfl) (by kernel_rfl) (fun _ _ _ h => h) (Or.inl ⟨by rfl, ?h0q2⟩) (by assumption) ?r0q2
            case h0q2 => (intro w hSw; (try dsimp only at hSw); go_simp <;> with_reducible rfl)
            case' r0q2 => try simp only [Act.put, List.setIfInBounds_toArray, List.set_cons_zero, List.set_cons_succ]
            refine wpAnyH_take (i := 1) (oi := ⟨_, _, _, _, _, _⟩) (v := ?v1q2) rfl (by kernel_rfl) (by kernel_rfl) (by kernel_rfl) (fun _ _ _ h => h) (Or.inl ⟨by rfl, ?h1q2⟩) (by assumption) ?r1q2
            case h1q2 => (intro w hSw; (try dsimp only at hSw); go_simp <;> with_reducible rfl)
            case' r1q2 => try simp only [Act.put, List.setIfInBounds_toArray, List.set_cons_zero, List.set_cons_succ]
            refine wpAnyH_take (i := 2) (oi := ⟨_, _, _, _, _, _⟩) (v := ?v2q2) rfl (by kernel_rfl) (by kernel_rfl) (by kernel_rfl) (fun _ _ _ h => h) (Or.inl ⟨by rfl, ?h2q2⟩) (by assumption) ?r2q2
            case h2q2 => (intro w hSw; (try dsimp only at hSw); go_simp <;> with_reducible rfl)
            case' r2q2 => try simp only [Act.put, List.setIfInBounds_toArray, List.set_cons_zero, List.set_cons_succ]
            refine wpAnyH_take (i := 3) (oi := ⟨_, _, _, _, _, _⟩) (v := ?v3q2) rfl (by kernel_rfl) (by kernel_rfl) (by kernel_rfl) (fun _ _ _ h => h) (Or.inl ⟨by rfl, ?h3q2⟩) (by assumption) ?r3q2
            case h3q2 => (intro w hSw; (try dsimp only at hSw); go_simp <;> with_reducible rfl)
            case' r3q2 => try simp only [Act.put, List.setIfInBounds_toArray, List.set_cons_zero, List.set_cons_succ]
            refine wpAnyH_ready (rs := [4]) (by kernel_rfl) (by simp) ?_
            refine AllReadyH.cons (o := ⟨_, _, _, _, _, _⟩) rfl (fun K hK => ?_) AllReadyH.nil
            rw [if_pos (by rfl)]
            (first | (go_at_call 53; (with_reducible refine (CM.out _).mono ?_); rintro e w9 ⟨rfl, hb9⟩) | (go_simp; first | ((go_at_call 53; (with_reducible refine (CM.out _).mono ?_); rintro e w9 ⟨rfl, hb9⟩); (try dsimp only)) | skip))
            refine hK.out _ _ ?_ (fun hHeld => ?_)
            · (try dsimp only) <;> (first | go_keep | exact ⟨(hb9.cell (p := ⟨ba, off, none⟩) hba).trans c0, (hb9.cell (p := ⟨ba, off + 1, none⟩) hba).trans c1⟩)
            clear hK K
            try simp only [Act.put, List.setIfInBounds_toArray, List.set_cons_zero, List.set_cons_succ]
            refine wpAnyH_take (i := 5) (oi := ⟨_, _, _, _, _, _⟩) (v := ?v5q2) rfl (by kernel_rfl) (by kernel_rfl) (by kernel_rfl) (fun _ _ _ h => h) (Or.inl ⟨by rfl, ?h5q2⟩) (by assumption) ?r5q2
            case h5q2 => (intro w hSw; (try dsimp only at hSw); go_simp <;> with_reducible rfl)
            case' r5q2 => try simp only [Act.put, List.setIfInBounds_toArray, List.set_cons_zero, List.set_cons_succ]
            refine wpAnyH_take (i := 6) (oi := ⟨_, _, _, _, _, _⟩) (v := ?v6q2) rfl (by kernel_rfl) (by kernel_rfl) (by kernel_rfl) (fun _ _ _ h => h) (Or.inl ⟨by rfl, ?h6q2⟩) (by assumption) ?r6q2
            case h6q2 => (intro w hSw; (try dsimp only at hSw); go_simp <;> with_reducible rfl)
            case' r6q2 => try simp only [Act.put, List.setIfInBounds_toArray, List.set_cons_zero, List.set_cons_succ]
            refine wpAnyH_take (i := 7) (oi := ⟨_, _, _, _, _, _⟩) (v := ?v7q2) rfl (by kernel_rfl) (by kernel_rfl) (by kernel_rfl) (fun _ _ _ h => h) (Or.inl ⟨by rfl, ?h7q2⟩) (by assumption) ?r7q2
            case h7q2 => (intro w hSw; (try dsimp only at hSw); go_simp <;> with_reducible rfl)
            case' r7q2 => try simp only [Act.put, List.setIfInBounds_toArray, List.set_cons_zero, List.set_cons_succ]
            refine wpAnyH_take (i := 8) (oi := ⟨_, _, _, _, _, _⟩) (v := ?v8q2) rfl (by kernel_rfl) (by kernel_rfl) (by kernel_rfl) (fun _ _ _ h => h) (Or.inl ⟨by rfl, ?h8q2⟩) (by assumption) ?r8q2
            case h8q2 => (intro w hSw; (try dsimp only at hSw); go_simp <;> with_reducible rfl)
            case' r8q2 => try simp only [Act.put, List.setIfInBounds_toArray, List.set_cons_zero, List.set_cons_succ]
            refine wpAnyH_take (i := 9) (oi := ⟨_, _, _, _, _, _⟩) (v := ?v9q2) rfl (by kernel_rfl) (by kernel_rfl) (by kernel_rfl) (fun _ _ _ h => h) (Or.inl ⟨by rfl, ?h9q2⟩) (by assumption) ?r9q2
            case h9q2 => (intro w hSw; (try dsimp only at hSw); go_simp <;> with_reducible rfl)
            case' r9q2 => try simp only [Act.put, List.setIfInBounds_toArray, List.set_cons_zero, List.set_cons_succ]
            refine wpAnyH_take (i := 10) (oi := ⟨_, _, _, _, _, _⟩) (v := undef) rfl (by kernel_rfl) (by kernel_rfl) (by kernel_rfl) (fun _ _ _ h => h) (Or.inr ⟨by rfl, rfl⟩) (by assumption) ?_
            try simp only [Act.put, List.setIfInBounds_toArray, List.set_cons_zero, List.set_cons_succ]
            refine wpAnyH_take (i := 11) (oi := ⟨_, _, _, _, _, _⟩) (v := undef) rfl (by kernel_rfl) (by kernel_rfl) (by kernel_rfl) (fun _ _ _ h => h) (Or.inr ⟨by rfl, rfl⟩) (by assumption) ?_
            try simp only [Act.put, List.setIfInBounds_toArray, List.set_cons_zero, List.set_cons_succ]
            refine wpAnyH_take (i := 12) (oi := ⟨_, _, _, _, _, _⟩) (v := undef) rfl (by kernel_rfl) (by kernel_rfl) (by kernel_rfl) (fun _ _ _ h => h) (Or.inr ⟨by rfl, rfl⟩) (by assumption) ?_
            try simp only [Act.put, List.setIfInBounds_toArray, List.set_cons_zero, List.set_cons_succ]
            refine wpAnyH_take (i := 13) (oi := ⟨_, _, _, _, _, _⟩) (v := undef) rfl (by kernel_rfl) (by kernel_rfl) (by kernel_rfl) (fun _ _ _ h => h) (Or.inr ⟨by rfl, rfl⟩) (by assumption) ?_
            try simp only [Act.put, List.setIfInBounds_toArray, List.set_cons_zero, List.set_cons_succ]
            refine wpAnyH_take (i := 14) (oi := ⟨_, _, _, _, _, _⟩) (v := undef) rfl (by kernel_rfl) (by kernel_rfl) (by kernel_rfl) (fun _ _ _ h => h) (Or.inr ⟨by rfl, rfl⟩) (by assumption) ?_
            try simp only [Act.put, List.setIfInBounds_toArray, List.set_cons_zero, List.set_cons_succ]
            refine wpAnyH_take (i := 15) (oi := ⟨_, _, _, _, _, _⟩) (v := undef) rfl (by kernel_rfl) (by kernel_rfl) (by kernel_rfl) (fun _ _ _ h => h) (Or.inr ⟨by rfl, rfl⟩) (by assumption) ?_
            try simp only [Act.put, List.setIfInBounds_toArray, List.set_cons_zero, List.set_cons_succ]
            refine wpAnyH_take (i := 16) (oi := ⟨_, _, _, _, _, _⟩) (v := undef) rfl (by kernel_rfl) (by kernel_rfl) (by kernel_rfl) (fun _ _ _ h => h) (Or.inr ⟨by rfl, rfl⟩) (by assumption) ?_
            try simp only [Act.put, List.setIfInBounds_toArray, List.set_cons_zero, List.set_cons_succ]
            refine wpAnyH_take (i := 17) (oi := ⟨_, _, _, _, _, _⟩) (v := undef) rfl (by kernel_rfl) (by kernel_rfl) (by kernel_rfl) (fun _ _ _ h => h) (Or.inr ⟨by rfl, rfl⟩) (by assumption) ?_
            try simp only [Act.put, List.setIfInBounds_toArray, List.set_cons_zero, List.set_cons_succ]
            refine wpAnyH_take (i := 18) (oi := ⟨_, _, _, _, _, _⟩) (v := undef) rfl (by kernel_rfl) (by kernel_rfl) (by kernel_rfl) (fun _ _ _ h => h) (Or.inr ⟨by rfl, rfl⟩) (by assumption) ?_
            try simp only [Act.put, List.setIfInBounds_toArray, List.set_cons_zero, List.set_cons_succ]
            refine wpAnyH_take (i := 19) (oi := ⟨_, _, _, _, _, _⟩) (v := undef) rfl (by kernel_rfl) (by kernel_rfl) (by kernel_rfl) (fun _ _ _ h => h) (Or.inr ⟨by rfl, rfl⟩) (by assumption) ?_
            try simp only [Act.put, List.setIfInBounds_toArray, List.set_cons_zero, List.set_cons_succ]
            refine wpAnyH_take (i := 20) (oi := ⟨_, _, _, _, _, _⟩) (v := undef) rfl (by kernel_rfl) (by kernel_rfl) (by kernel_rfl) (fun _ _ _ h => h) (Or.inr ⟨by rfl, rfl⟩) (by assumption) ?_
            try simp only [Act.put, List.setIfInBounds_toArray, List.set_cons_zero, List.set_cons_succ]
            refine wpAnyH_take (i := 21) (oi := ⟨_, _, _, _, _, _⟩) (v := undef) rfl (by kernel_rfl) (by kernel_rfl) (by kernel_rfl) (fun _ _ _ h => h) (Or.inr ⟨by rfl, rfl⟩) (by assumption) ?_
            try simp only [Act.put, List.setIfInBounds_toArray, List.set_cons_zero, List.set_cons_succ]
            refine wpAnyH_take (i := 22) (oi := ⟨_, _, _, _, _, _⟩) (v := undef) rfl (by kernel_rfl) (by kernel_rfl) (by kernel_rfl) (fun _ _ _ h => h) (Or.inr ⟨by rfl, rfl⟩) (by assumption) ?_
            try simp only [Act.put, List.setIfInBounds_toArray, List.set_cons_zero, List.set_cons_succ]
            refine wpAnyH_take (i := 23) (oi := ⟨_, _, _, _, _, _⟩) (v := ?v23q2) rfl (by kernel_rfl) (by kernel_rfl) (by kernel_rfl) (fun _ _ _ h => h) (Or.inl ⟨by rfl, ?h23q2⟩) (by assumption) ?r23q2
            case h23q2 => (intro w hSw; (try dsimp only at hSw); go_simp <;> with_reducible rfl)
            case' r23q2 => try simp only [Act.put, List.setIfInBounds_toArray, List.set_cons_zero, List.set_cons_succ]
            refine wpAnyH_take (i := 24) (oi := ⟨_, _, _, _, _, _⟩) (v := ?v24q2) rfl (by kernel_rfl) (by kernel_rfl) (by kernel_rfl) (fun _ _ _ h => h) (Or.inl ⟨by rfl, ?h24q2⟩) (by assumption) ?r24q2
            case h24q2 => (intro w hSw; (try dsimp only at hSw); go_simp <;> with_reducible rfl)
            case' r24q2 => try simp only [Act.put, List.setIfInBounds_toArray, List.set_cons_zero, List.set_cons_succ]
            refine wpAnyH_done (by kernel_rfl) ?_ _
            refine NoPanic.normal ?_
            all_goals
              have HB9 := Lib.hid (below_then HB.out (⟨hb9.os, hb9.tape, hb9.output, hb9.size, hb9.block⟩ : RowKit.Below wr.heap.size wr w9))
              clear hb9 c0 c1
              go_wp2_with fail
              go_roundw
              case rel => exact ⟨1, rfl, by omega, Lib.hid (by rw [HTK.out]; exact (Plain.Norm_one _).2 ⟨b1, b2, b3⟩), HB9.out⟩
              case measure => simp [RowKit.intOf]; omega
          · obtain ⟨j, hj⟩ : ∃ j, k = j + 1 := ⟨k - 1, by omega⟩
            have hjS : j < R.length := by omega
            obtain ⟨_, p0, p1⟩ := HXr.out.spot j hjS
            obtain ⟨p, hp⟩ : ∃ p, R[j] = p := ⟨_, rfl⟩
            rw [hp] at p0 p1
            have htj : R.take k = R.take j ++ [p] := by rw [hj, List.take_succ_eq_append_getElem hjS, hp]
            have hpm : May p := Plain.Norm_may HN.out p (by rw [htj]; simp)
            obtain ⟨pl, ph⟩ := p
            obtain ⟨d1, d2, d3⟩ := hpm
            dsimp only at p0 p1 d1 d2 d3
            have HTJ := Lib.hid htj
            have hw11 : (k : Int) - 1 = (j : Int) := by omega
            have hw1 : IntKind.i64.wrap ((k : Int) - 1) = (j : Int) := by rw [hw11, IntKind.wrap_i64]; omega
            have hj0 : (0 : Int) ≤ (j : Int) := by omega
            have hj1 : (j : Int) < (n : Int) := by omega
            have hw3 : IntKind.i64.wrap (j : Int) = (j : Int) := by rw [IntKind.wrap_i64]; omega
            have hw2 : IntKind.i32.wrap (ph + 1) = ph + 1 := by rw [IntKind.wrap_i32]; omega
            have hk1 : decide ((k : Int) > 0) = true := by simp; omega
            have hk00 : decide (0 < k) = true := by simp; omega
            clear hp htj hj
            by_cases hc : lo ≤ ph + 1
            · have dc : decide (lo ≤ ph + 1) = true := by simp [hc]
              go_region_held3 (fun w' => w'.cell? ⟨ba, off + k * 2, none⟩ = some (.int .i32 lo) ∧ w'.cell? ⟨ba, off + k * 2 + 1, none⟩ = some (.int .i32 hi) ∧ w'.cell? ⟨ba, off + j * 2 + 1, none⟩ = some (.int .i32 ph)) (first | go_keep | exact ⟨(hb9.cell (p := ⟨ba, off + k * 2, none⟩) hba).trans c0, (hb9.cell (p := ⟨ba, off + k * 2 + 1, none⟩) hba).trans c1, (hb9.cell (p := ⟨ba, off + j * 2 + 1, none⟩) hba).trans p1⟩) (first | (go_at_call 53; (with_reducible refine (CM.out _).mono ?_); rintro e w9 ⟨rfl, hb9⟩))
              all_goals
                have HB9 := Lib.hid (below_then HB.out (⟨hb9.os, hb9.tape, hb9.output, hb9.size, hb9.block⟩ : RowKit.Below wr.heap.size wr w9))
                clear hb9 c0 c1 p0 p1
                go_wp2_with fail
                go_ret
                refine ⟨false, rfl, ⟨(fun h => by cases h), fun h => ?_⟩, HB9.out⟩
                have h1 := norm_take h.1 (k + 1)
                rw [HTK.out, HTJ.out, norm_snoc] at h1
                have h2 : ph + 1 < lo := h1.2.2
                omega
            · have dc : decide (lo ≤ ph + 1) = false := by simp; omega
              go_region_held3 (fun w' => w'.cell? ⟨ba, off + k * 2, none⟩ = some (.int .i32 lo) ∧ w'.cell? ⟨ba, off + k * 2 + 1, none⟩ = some (.int .i32 hi) ∧ w'.cell? ⟨ba, off + j * 2 + 1, none⟩ = some (.int .i32 ph)) (first | go_keep | exact ⟨(hb9.cell (p := ⟨ba, off + k * 2, none⟩) hba).trans c0, (hb9.cell (p := ⟨ba, off + k * 2 + 1, none⟩) hba).trans c1, (hb9.cell (p := ⟨ba, off + j * 2 + 1, none⟩) hba).trans p1⟩) (first | (go_at_call 53; (with_reducible refine (CM.out _).mono ?_); rintro e w9 ⟨rfl, hb9⟩))
              all_goals
                have HB9 := Lib.hid (below_then HB.out (⟨hb9.os, hb9.tape, hb9.output, hb9.size, hb9.block⟩ : RowKit.Below wr.heap.size wr w9))
                clear hb9 c0 c1 p0 p1
                go_wp2_with fail
                go_roundw
                case rel => exact ⟨k + 1, by go_num, by omega, Lib.hid (by rw [HTK.out, HTJ.out, norm_snoc]; exact ⟨by rw [← HTJ.out]; exact HN.out, ⟨b1, b2, b3⟩, by show ph + 1 < lo; omega⟩), HB9.out⟩
                case measure => simp [RowKit.intOf]; omega
      · obtain rfl : k = n := by omega
        have hT : R.take k = R := List.take_of_length_le (by rw [HR.out]; exact Nat.le_refl _)
        have HT := Lib.hid hT
        clear hT hB
        go_wp2_with fail
        go_ret
        exact ⟨true, rfl, ⟨fun _ => ⟨by have := HN.out; rw [HT.out] at this; exact this, by rw [HR.out]; exact h64⟩, fun _ => rfl⟩, HB.out⟩
  · have d64 : decide ((n : Int) > 64) = true := by simp; omega
    have d64n : decide (64 < n) = true := by simp; omega
    go_enter Tryd.func40, Tryd.ntmps40
    go_wp2_with fail
    go_ret
    exact ⟨false, rfl, ⟨(fun h => by cases h), fun h => absurd h.2 (by rw [HR.out]; exact h64)⟩, RowKit.Below.refl _ _⟩
end Go.Proofs.YtpeheppiolfpfaaDoor
namespace Go.Proofs.YtpeheppiolfpfaaDoor
open Go.RowKit
end Go.Proofs.YtpeheppiolfpfaaDoor
namespace Go.Proofs.YtpeheppiolfpfaaDoor
open Go.RowKit Go.Lib
end Go.Proofs.YtpeheppiolfpfaaDoor
namespace Go.Proofs.YtpeheppiolfpfaaDoor
open Go.RowKit Go.Lib
open Plain (Rg May mayB In Norm In4 slotsOf insB bnd riB)
theorem insB_one (z : Int) : insB z 1 = (z == 0) := by
  unfold insB
  rw [Bool.eq_iff_iff, Bool.and_eq_true, decide_eq_true_iff, decide_eq_true_iff, beq_iff_eq]; omega
set_option maxRecDepth 100000 in
theorem rslots_any (I C : Option Addr) (n c m d : Nat) (g : Int) (w : World) :
    Calls Tryd.prog 21 #[pgV I n c C m d g] w fun e w' => e = .returned (.int .i64 (slotsOf g)) ∧ Below w.heap.size w w' := by
  unfold pgV
  by_cases h : g < 1
  · have hs : slotsOf g = 2 := by
      have h2 : RowKit.wrap64 (RowKit.wrap64 (2 * 0) + 2) = 2 := by
        have := slotsOf_sm 0 (by decide) (by decide)
        unfold slotsOf at this
        rw [if_neg (by decide)] at this
        exact this
      unfold slotsOf
      by_cases h0 : g < 0
      · rw [if_pos h0]; exact h2
      · rw [if_neg h0, show g = 0 by omega]; exact h2
    have hd : decide (g < 1) = true := decide_eq_true h
    rw [hs]
    clear hs
    go_enter Tryd.func21, Tryd.ntmps21
    go_wp2
    go_ret
    exact ⟨rfl, (Below.refl _ _).alloc (Nat.le_refl _) _⟩
  · have hs : slotsOf g = RowKit.wrap64 (RowKit.wrap64 (2 * g) + 2) := if_neg (by omega)
    have hd : decide (g < 1) = false := decide_eq_false h
    rw [hs]
    clear hs
    go_enter Tryd.func21, Tryd.ntmps21
    go_wp2
    go_ret
    exact ⟨rfl, (Below.refl _ _).alloc (Nat.le_refl _) _⟩
def rriBX (n : Nat) (op x : Int) : Bool := if op = 0 then x == 0 else insB x n
set_option maxRecDepth 100000 in
set_option maxHeartbeats 4000000 in
theorem rri_any (I C : Option Addr) (n c m d : Nat) (g : Int) (t : In4) (w : World) :
    Calls Tryd.prog 19 #[i4V t, pgV I n c C m d g] w fun e w' => e = .returned (.bool (riB n m g t)) ∧ Below w.heap.size w w' := by
  obtain ⟨op, x, y, a⟩ := t
  unfold i4V
  dsimp only
  have CI := Lib.hid (fun (p q : Int) (W : World) => rinside_any p q W)
  have CS := Lib.hid (fun W => rslots_any I C n c m d g W)
  by_cases h0 : 0 ≤ op
  case neg =>
    have hr : riB n m g (op, x, y, a) = false := by unfold riB; dsimp only; rw [decide_eq_false h0]; simp
    have hd : decide (op < 0) = true := decide_eq_true (by omega)
    rw [hr]
    unfold pgV
    clear hr
    go_enter Tryd.func19, Tryd.ntmps19
    go_wp2_with fail
    go_ret
    exact ⟨rfl, ((Below.refl _ _).alloc (Nat.le_refl _) _).alloc (by simp) _⟩
  by_cases h5 : op ≤ 5
  case neg =>
    have hr : riB n m g (op, x, y, a) = false := by unfold riB; dsimp only; rw [decide_eq_false h5]; simp
    have hd : decide (op < 0) = false := decide_eq_false (by omega)
    have hd5 : decide (op > 5) = true := decide_eq_true (by omega)
    rw [hr]
    unfold pgV
    clear hr
    go_enter Tryd.func19, Tryd.ntmps19
    go_wp2_with fail
    go_ret
    exact ⟨rfl, ((Below.refl _ _).alloc (Nat.le_refl _) _).alloc (by simp) _⟩
  have hr : riB n m g (op, x, y, a) = (insB x (bnd n m g op).1 && insB y (bnd n m g op).2.1 && insB a (bnd n m g op).2.2) := by
    unfold riB; dsimp only; rw [decide_eq_true h0, decide_eq_true h5]; simp
  rw [hr]
  clear hr
  obtain ⟨b1, e1⟩ : ∃ b, insB x n = b := ⟨_, rfl⟩
  obtain ⟨b2, e2⟩ : ∃ b, insB y n = b := ⟨_, rfl⟩
  obtain ⟨b3, e3⟩ : ∃ b, insB a m = b := ⟨_, rfl⟩
  obtain ⟨b4, e4⟩ : ∃ b, insB a 4 = b := ⟨_, rfl⟩
  obtain ⟨sl, e5⟩ : ∃ s, slotsOf g = s := ⟨_, rfl⟩
  obtain ⟨b6, e6⟩ : ∃ b, insB a sl = b := ⟨_, rfl⟩
  obtain ⟨z1, f1⟩ : ∃ b, (x == 0) = b := ⟨_, rfl⟩
  obtain ⟨z2, f2⟩ : ∃ b, (y == 0) = b := ⟨_, rfl⟩
  obtain ⟨z3, f3⟩ : ∃ b, (a == 0) = b := ⟨_, rfl⟩
  have C1 := Lib.hid (fun W => by have := CI.out x n W; rw [e1] at this; exact this)
  have C2 := Lib.hid (fun W => by have := CI.out y n W; rw [e2] at this; exact this)
  have C3 := Lib.hid (fun W => by have := CI.out a m W; rw [e3] at this; exact this)
  have C4 := Lib.hid (fun W => by have := CI.out a 4 W; rw [e4] at this; exact this)
  have C6 := Lib.hid (fun W => by have := CI.out a sl W; rw [e6] at this; exact this)
  rw [e5] at CS
  unfold pgV at CS ⊢
  have hop : op = 0 ∨ op = 1 ∨ op = 2 ∨ op = 3 ∨ op = 4 ∨ op = 5 := by omega
  clear h0 h5 CI
  rcases hop with rfl | rfl | rfl | rfl | rfl | rfl
  · rw [show bnd n m g 0 = (1, 1, 1) from rfl]; dsimp only; rw [insB_one, insB_one, insB_one, f1, f2, f3]
    clear e1 e2 e3 e4 e5 e6
    go_enter Tryd.func19, Tryd.ntmps19
    go_wp2_with fail
    refine Calls.mono (C1.out _) ?_
    rintro _ w1 ⟨rfl, hw⟩
    subst hw
    cases z1 <;> cases z2 <;> cases z3
    all_goals
      go_wp2_with fail
      go_ret
      exact ⟨rfl, ((Below.refl _ _).alloc (Nat.le_refl _) _).alloc (by simp) _⟩
  · rw [show bnd n m g 1 = ((n : Int), 1, (m : Int)) from rfl]; dsimp only; rw [insB_one, e1, e3, f2]
    clear e1 e2 e3 e4 e5 e6
    go_enter Tryd.func19, Tryd.ntmps19
    go_wp2_with fail
    refine Calls.mono (C1.out _) ?_
    rintro _ w1 ⟨rfl, hw⟩
    subst hw
    go_wp2_with fail
    refine Calls.mono (C3.out _) ?_
    rintro _ w1 ⟨rfl, hw⟩
    subst hw
    cases b1 <;> cases z2 <;> cases b3
    all_goals
      go_wp2_with fail
      go_ret
      exact ⟨rfl, ((Below.refl _ _).alloc (Nat.le_refl _) _).alloc (by simp) _⟩
  · rw [show bnd n m g 2 = ((n : Int), (n : Int), 1) from rfl]; dsimp only; rw [insB_one, e1, e2, f3]
    clear e1 e2 e3 e4 e5 e6
    go_enter Tryd.func19, Tryd.ntmps19
    go_wp2_with fail
    refine Calls.mono (C1.out _) ?_
    rintro _ w1 ⟨rfl, hw⟩
    subst hw
    go_wp2_with fail
    refine Calls.mono (C2.out _) ?_
    rintro _ w1 ⟨rfl, hw⟩
    subst hw
    cases b1 <;> cases b2 <;> cases z3
    all_goals
      go_wp2_with fail
      go_ret
      exact ⟨rfl, ((Below.refl _ _).alloc (Nat.le_refl _) _).alloc (by simp) _⟩
  · rw [show bnd n m g 3 = ((n : Int), 1, 1) from rfl]; dsimp only; rw [insB_one, insB_one, e1, f2, f3]
    clear e1 e2 e3 e4 e5 e6
    go_enter Tryd.func19, Tryd.ntmps19
    go_wp2_with fail
    refine Calls.mono (C1.out _) ?_
    rintro _ w1 ⟨rfl, hw⟩
    subst hw
    cases b1 <;> cases z2 <;> cases z3
    all_goals
      go_wp2_with fail
      go_ret
      exact ⟨rfl, ((Below.refl _ _).alloc (Nat.le_refl _) _).alloc (by simp) _⟩
  · rw [show bnd n m g 4 = ((n : Int), 1, slotsOf g) from rfl]; dsimp only; rw [e5, insB_one, e1, f2, e6]
    clear e1 e2 e3 e4 e5 e6
    go_enter Tryd.func19, Tryd.ntmps19
    go_wp2_with fail
    refine Calls.mono (C1.out _) ?_
    rintro _ w1 ⟨rfl, hw⟩
    subst hw
    go_upto_region 14 with fail
    have C6B := Lib.hid (fun W => Calls.mono (C6.out W) (fun e w' h => (⟨h.1, by rw [h.2]; exact Below.refl _ _⟩ : e = .returned (.bool b6) ∧ Below W.heap.size W w')))
    have hx := blk_alloc (heap_alloc_new2 w (.cells #[.int .i64 4, .int .i64 x, .int .i64 y, .int .i64 a] 47) w.heap.size _ rfl) (.cells #[.slice I n c, .slice C m d, .int .i64 g] 36)
    have hy := heap_alloc_new2 (w.alloc (.cells #[.int .i64 4, .int .i64 x, .int .i64 y, .int .i64 a] 47)) (.cells #[.slice I n c, .slice C m d, .int .i64 g] 36) (w.heap.size + 1) _ (by simp)
    have hb := below_alloc (below_alloc (Below.refl w.heap.size w) (.cells #[.int .i64 4, .int .i64 x, .int .i64 y, .int .i64 a] 47)) (.cells #[.slice I n c, .slice C m d, .int .i64 g] 36)
    obtain ⟨w2, hw2⟩ : ∃ z, (w.alloc (.cells #[.int .i64 4, .int .i64 x, .int .i64 y, .int .i64 a] 47)).alloc (.cells #[.slice I n c, .slice C m d, .int .i64 g] 36) = z := ⟨_, rfl⟩
    rw [hw2] at hx hy hb ⊢
    have HB2 := Lib.hid hb
    have hbd : Below w2.heap.size w2 w2.drew := (Below.refl w2.heap.size w2).drew
    obtain ⟨wd, hwd⟩ : ∃ z, w2.drew = z := ⟨_, rfl⟩
    rw [hwd] at hbd
    have HBD := Lib.hid hbd
    have HF := Lib.hid (fun (w' : World) (h : Below w2.heap.size w2 w') => (⟨(cells_of (blk_later hx h)).at_ 0 _ rfl, (cells_of (blk_later hx h)).at_ 1 _ rfl, (cells_of (blk_later hx h)).at_ 2 _ rfl, (cells_of (blk_later hx h)).at_ 3 _ rfl, (cells_of (blk_later hy h)).at_ 0 _ rfl, (cells_of (blk_later hy h)).at_ 1 _ rfl, (cells_of (blk_later hy h)).at_ 2 _ rfl⟩ : _ ∧ _ ∧ _ ∧ _ ∧ _ ∧ _ ∧ _))
    clear hx hy hb hbd hw2
    refine wp_region_noPanic ?_
    refine wp_region_T 5 (S := fun w' : World => Below w2.heap.size w2 w') (by kernel_rfl) (by decide) ?_
    rw [hwd]
    clear hwd
    refine wpAnyT_take2 0 (v := ?tvq1) (by kernel_rfl) rfl (by kernel_rfl) (fun _ _ _ h => h) (Or.inl ⟨by rfl, ?tyq1⟩) HBD.out ?trq1
    case tyq1 => (intro w' hSw; (try dsimp only at hSw); go_simp; try with_reducible rfl)
    try simp only [Act.put, List.setIfInBounds_toArray, List.set_cons_zero, List.set_cons_succ]
    refine wpAnyT_take2 1 (v := ?tvq2) (by kernel_rfl) rfl (by kernel_rfl) (fun _ _ _ h => h) (Or.inl ⟨by rfl, ?tyq2⟩) HBD.out ?trq2
    case tyq2 => (intro w' hSw; obtain ⟨p0, p1, p2, p3, k0, k1, k2⟩ := HF.out w' hSw; (try dsimp only at hSw); go_simp; try with_reducible rfl)
    try simp only [Act.put, List.setIfInBounds_toArray, List.set_cons_zero, List.set_cons_succ]
    refine wpAnyT_take2 2 (v := ?tvq3) (by kernel_rfl) rfl (by kernel_rfl) (fun _ _ _ h => h) (Or.inl ⟨by rfl, ?tyq3⟩) HBD.out ?trq3
    case tyq3 => (intro w' hSw; obtain ⟨p0, p1, p2, p3, k0, k1, k2⟩ := HF.out w' hSw; (try dsimp only at hSw); go_simp; try with_reducible rfl)
    try simp only [Act.put, List.setIfInBounds_toArray, List.set_cons_zero, List.set_cons_succ]
    refine wpAnyT_one2 3 rfl (by kernel_rfl) ?_
    intro K' hK'
    rw [if_pos (by rfl)]
    have HK := Lib.hid hK'
    clear hK'
    go_wp2_with (go_at_call 21; refine (CS.out _).mono ?_; rintro eq4 wq4 ⟨rfl, hb⟩)
    have HBq4 := Lib.hid (below_then HBD.out hb)
    clear hb
    refine HK.out _ _ ⟨HBq4.out, ?_⟩
    clear HK K'
    try simp only [Act.put, List.setIfInBounds_toArray, List.set_cons_zero, List.set_cons_succ]
    refine wpAnyT_one2 4 rfl (by kernel_rfl) ?_
    intro K' hK'
    rw [if_pos (by rfl)]
    have HK := Lib.hid hK'
    clear hK'
    go_wp2_with (go_at_call 30; refine (C6B.out _).mono ?_; rintro eq5 wq5 ⟨rfl, hb⟩)
    have HBq5 := Lib.hid (below_then HBq4.out hb)
    clear hb
    refine HK.out _ _ ⟨HBq5.out, ?_⟩
    clear HK K'
    try simp only [Act.put, List.setIfInBounds_toArray, List.set_cons_zero, List.set_cons_succ]
    refine ⟨by kernel_rfl, ?_⟩
    change wpList _ _ _ [_] _ _
    go_wp2
    refine NoPanic.normal ?_
    cases b1 <;> cases z2 <;> cases b6
    all_goals
      go_wp2
      go_ret
      exact ⟨rfl, HB2.out.trans (HBq5.out.mono HB2.out.size)⟩
  · rw [show bnd n m g 5 = ((n : Int), 1, 4) from rfl]; dsimp only; rw [insB_one, e1, f2, e4]
    clear e1 e2 e3 e4 e5 e6
    go_enter Tryd.func19, Tryd.ntmps19
    go_wp2_with fail
    refine Calls.mono (C1.out _) ?_
    rintro _ w1 ⟨rfl, hw⟩
    subst hw
    go_wp2_with fail
    refine Calls.mono (C4.out _) ?_
    rintro _ w1 ⟨rfl, hw⟩
    subst hw
    cases b1 <;> cases z2 <;> cases b4
    all_goals
      go_wp2_with fail
      go_ret
      exact ⟨rfl, ((Below.refl _ _).alloc (Nat.le_refl _) _).alloc (by simp) _⟩
end Go.Proofs.YtpeheppiolfpfaaDoor
namespace Go.Proofs.YtpeheppiolfpfaaDoor
open Go.RowKit Go.Lib
open Plain (Rg May mayB In Norm In4 slotsOf insB bnd riB rightB getD_lt)
theorem any_true_of {α : Type} (l : List α) (p : α → Bool) (x : α) (hx : x ∈ l) (h : p x = true) : l.any p = true := List.any_eq_true.2 ⟨x, hx, h⟩
set_option maxRecDepth 1000000 in
set_option maxHeartbeats 8000000 in
theorem rpright_any (I C : Option Addr) (L : List In4) (K : List Cs) (c d : Nat) (g : Int) (w : World) (hP : PgAt w I L C K) :
    Calls Tryd.prog 17 #[pgV I L.length c C K.length d g] w fun e w' => e = .returned (.bool (pgR L K g)) ∧ Below w.heap.size w w' := by
  have hb0 : Below w.heap.size w (w.alloc (.cells #[.slice I L.length c, .slice C K.length d, .int .i64 g] 36)) := (Below.refl _ _).alloc (Nat.le_refl _) _
  have hbox : CellsAt (w.alloc (.cells #[.slice I L.length c, .slice C K.length d, .int .i64 g] 36)) w.heap.size [.slice I L.length c, .slice C K.length d, .int .i64 g] := CellsAt.new w _ _
  have hli := hP.li
  have hlc := hP.lc
  unfold maxLen at hli hlc
  unfold pgR pgV
  obtain ⟨q1, hq1⟩ : ∃ q, (L.any fun t => !riB L.length K.length g t) = q := ⟨_, rfl⟩
  obtain ⟨q2, hq2⟩ : ∃ q, (K.any fun x => badB x.R) = q := ⟨_, rfl⟩
  rw [hq1, hq2]
  have HI := Lib.hid hP.insts
  have HC := Lib.hid hP.cls
  have HE := Lib.hid hP.each
  obtain ⟨n, hn⟩ : ∃ x, L.length = x := ⟨_, rfl⟩
  obtain ⟨m, hm⟩ : ∃ x, K.length = x := ⟨_, rfl⟩
  rw [hn] at hq1 hb0 hbox hli
  rw [hm] at hq1 hb0 hbox hlc
  rw [hn, hm]
  have HN := Lib.hid hn
  have HM := Lib.hid hm
  have HQ1 := Lib.hid hq1
  have HQ2 := Lib.hid hq2
  have HB0 := Lib.hid hb0
  have HBOX := Lib.hid hbox
  clear hn hm hq1 hq2 hb0 hbox hP
  obtain ⟨res, hres⟩ : ∃ b, (decide (0 < n) && decide (n ≤ 512) && decide (m ≤ 64) && decide (0 ≤ g) && decide (g ≤ 8) && !q1 && !q2) = b := ⟨_, rfl⟩
  rw [hres]
  have HRES := Lib.hid hres
  clear hres
  go_enter Tryd.func17, Tryd.ntmps17
  obtain ⟨x0, x1, x2⟩ := (⟨HBOX.out.at_ 0 _ rfl, HBOX.out.at_ 1 _ rfl, HBOX.out.at_ 2 _ rfl⟩ : _ ∧ _ ∧ _)
  by_cases h1 : 0 < n
  case neg =>
    have d1 : decide ((n : Int) < 1) = true := decide_eq_true (by omega)
    have d2 : decide (n < 1) = true := decide_eq_true (by omega)
    have hres : res = false := by rw [← HRES.out, decide_eq_false (show ¬ 0 < n by omega)]; simp
    rw [hres]
    clear hres HRES
    go_wp2_with fail
    go_ret
    exact ⟨rfl, HB0.out⟩
  have d1 : decide ((n : Int) < 1) = false := decide_eq_false (by omega)
  have d1n : decide (n < 1) = false := decide_eq_false (by omega)
  by_cases h2 : n ≤ 512
  case neg =>
    have d2 : decide ((n : Int) > 512) = true := decide_eq_true (by omega)
    have d2n : decide (512 < n) = true := decide_eq_true (by omega)
    have hres : res = false := by rw [← HRES.out, decide_eq_false (show ¬ n ≤ 512 by omega)]; simp
    rw [hres]
    clear hres HRES
    go_wp2_with fail
    go_ret
    exact ⟨rfl, HB0.out⟩
  have d2 : decide ((n : Int) > 512) = false := decide_eq_false (by omega)
  have d2n : decide (512 < n) = false := decide_eq_false (by omega)
  by_cases h3 : m ≤ 64
  case neg =>
    have d3 : decide ((m : Int) > 64) = true := decide_eq_true (by omega)
    have d3n : decide (64 < m) = true := decide_eq_true (by omega)
    have hres : res = false := by rw [← HRES.out, decide_eq_false (show ¬ m ≤ 64 by omega)]; simp
    rw [hres]
    clear hres HRES
    go_wp2_with fail
    go_ret
    exact ⟨rfl, HB0.out⟩
  have d3 : decide ((m : Int) > 64) = false := decide_eq_false (by omega)
  have d3n : decide (64 < m) = false := decide_eq_false (by omega)
  by_cases h4 : 0 ≤ g
  case neg =>
    have d4 : decide (g < 0) = true := decide_eq_true (by omega)
    have hres : res = false := by rw [← HRES.out, decide_eq_false (show ¬ 0 ≤ g by omega)]; simp
    rw [hres]
    clear hres HRES
    go_wp2_with fail
    go_ret
    exact ⟨rfl, HB0.out⟩
  have d4 : decide (g < 0) = false := decide_eq_false (by omega)
  by_cases h5 : g ≤ 8
  case neg =>
    have d5 : decide (g > 8) = true := decide_eq_true (by omega)
    have hres : res = false := by rw [← HRES.out, decide_eq_false (show ¬ g ≤ 8 by omega)]; simp
    rw [hres]
    clear hres HRES
    go_wp2_with fail
    go_ret
    exact ⟨rfl, HB0.out⟩
  have d5 : decide (g > 8) = false := decide_eq_false (by omega)
  have hr : (!q1 && !q2) = res := by
    rw [← HRES.out, decide_eq_true h1, decide_eq_true h2, decide_eq_true h3, decide_eq_true h4, decide_eq_true h5]; rfl
  have HR := Lib.hid hr
  clear hr
  obtain ⟨gi, oi, hIe, hgi, hci⟩ := HI.out (by rw [i4s_len, HN.out]; omega)
  subst hIe
  have HCI := Lib.hid hci
  clear hci
  go_wp2_with fail
  clear x0 x1 x2
  obtain ⟨w0, hw0⟩ : ∃ x, w.alloc (.cells #[.slice (some ⟨gi, oi, none⟩) n c, .slice C m d, .int .i64 g] 36) = x := ⟨_, rfl⟩
  rw [hw0] at HB0 HBOX ⊢
  have HW0 := Lib.hid hw0
  clear hw0
  go_loopw [3] (fun i wr => ∃ j : Nat, j ≤ n ∧ i = .int .i64 j ∧ (∀ k, k < j → riB n m g (L.getD k  (0, 0, 0, 0)) = true) ∧ Below w.heap.size w wr ∧ Below w0.heap.size w0 wr) (fun i _ => n - (RowKit.intOf i).toNat)
  case atStart => exact ⟨0, Nat.zero_le _, rfl, fun k hk => absurd hk (by omega), HB0.out, Below.refl _ _⟩
  case round =>
    obtain ⟨j, hj, rfl, hall, hB, hB0⟩ := hrel
    have HB := Lib.hid hB
    have HALL := Lib.hid hall
    have HBX := Lib.hid (HBOX.out.below hB0)
    have HB9 := Lib.hid hB0
    clear hB hB0 hall
    obtain ⟨x0, x1, x2⟩ := (⟨HBX.out.at_ 0 _ rfl, HBX.out.at_ 1 _ rfl, HBX.out.at_ 2 _ rfl⟩ : _ ∧ _ ∧ _)
    have hlw := HBX.out.1
    by_cases hlt : j < n
    · obtain ⟨t, ht⟩ : ∃ t, L.getD j  (0, 0, 0, 0) = t := ⟨_, rfl⟩
      have hget : L[j]? = some t := by rw [← ht, getD_lt L _ j (by rw [HN.out]; exact hlt)]; exact List.getElem?_eq_getElem _
      obtain ⟨u0, u1, u2, u3⟩ := i4s_get _ _ _ hget
      have c0 : wr.cell? ⟨gi, oi + j * 4, none⟩ = some (.int .i64 t.1) := (HB.out.cell (p := ⟨gi, oi + j * 4, none⟩) hgi).trans (HCI.out _ _ u0)
      have c1 : wr.cell? ⟨gi, oi + j * 4 + 1, none⟩ = some (.int .i64 t.2.1) := (HB.out.cell (p := ⟨gi, oi + j * 4 + 1, none⟩) hgi).trans (HCI.out _ _ u1)
      have c2 : wr.cell? ⟨gi, oi + j * 4 + 2, none⟩ = some (.int .i64 t.2.2.1) := (HB.out.cell (p := ⟨gi, oi + j * 4 + 2, none⟩) hgi).trans (HCI.out _ _ u2)
      have c3 : wr.cell? ⟨gi, oi + j * 4 + 3, none⟩ = some (.int .i64 t.2.2.2) := (HB.out.cell (p := ⟨gi, oi + j * 4 + 3, none⟩) hgi).trans (HCI.out _ _ u3)
      have hgw : gi < wr.heap.size := Nat.lt_of_lt_of_le hgi HB.out.size
      obtain ⟨bb, hbb⟩ : ∃ b, riB n m g t = b := ⟨_, rfl⟩
      have cR := fun W => rri_any (some ⟨gi, oi, none⟩) C n c m d g t W
      rw [hbb] at cR
      have HBB := Lib.hid (show riB n m g (L.getD j  (0, 0, 0, 0)) = bb by rw [ht]; exact hbb)
      obtain ⟨t1, t2, t3, t4⟩ := t
      unfold i4V pgV at cR
      dsimp only at c0 c1 c2 c3 cR
      have CR := Lib.hid cR
      have HF := Lib.hid (fun (w' : World) (h : Below wr.heap.size wr w') => (⟨(h.cell (p := ⟨gi, oi + j * 4, none⟩) hgw).trans c0, (h.cell (p := ⟨gi, oi + j * 4 + 1, none⟩) hgw).trans c1, (h.cell (p := ⟨gi, oi + j * 4 + 2, none⟩) hgw).trans c2, (h.cell (p := ⟨gi, oi + j * 4 + 3, none⟩) hgw).trans c3, (HBX.out.below h).at_ 0 _ rfl, (HBX.out.below h).at_ 1 _ rfl, (HBX.out.below h).at_ 2 _ rfl⟩ : _ ∧ _ ∧ _ ∧ _ ∧ _ ∧ _ ∧ _))
      clear hbb cR ht hget u0 u1 u2 u3
      go_upto_region 6 with fail
      clear c0 c1 c2 c3 x0 x1 x2
      have hbd : Below wr.heap.size wr wr.drew := (Below.refl wr.heap.size wr).drew
      obtain ⟨wd, hwd⟩ : ∃ z, wr.drew = z := ⟨_, rfl⟩
      rw [hwd] at hbd
      have HBD := Lib.hid hbd
      clear hbd
      refine wp_region_noPanic ?_
      refine wp_region_T 7 (S := fun w' : World => Below wr.heap.size wr w') (by kernel_rfl) (by decide) ?_
      rw [hwd]
      clear hwd
      refine wpAnyT_take2 0 (v := ?tvq1) (by kernel_rfl) rfl (by kernel_rfl) (fun _ _ _ h => h) (Or.inl ⟨by rfl, ?tyq1⟩) HBD.out ?trq1
      case tyq1 => (intro w' hSw; (try dsimp only at hSw); go_simp; try with_reducible rfl)
      try simp only [Act.put, List.setIfInBounds_toArray, List.set_cons_zero, List.set_cons_succ]
      refine wpAnyT_take2 1 (v := ?tvq2) (by kernel_rfl) rfl (by kernel_rfl) (fun _ _ _ h => h) (Or.inl ⟨by rfl, ?tyq2⟩) HBD.out ?trq2
      case tyq2 => (intro w' hSw; obtain ⟨p0, p1, p2, p3, k0, k1, k2⟩ := HF.out w' hSw; (try dsimp only at hSw); go_simp; try with_reducible rfl)
      try simp only [Act.put, List.setIfInBounds_toArray, List.set_cons_zero, List.set_cons_succ]
      refine wpAnyT_take2 2 (v := ?tvq3) (by kernel_rfl) rfl (by kernel_rfl) (fun _ _ _ h => h) (Or.inl ⟨by rfl, ?tyq3⟩) HBD.out ?trq3
      case tyq3 => (intro w' hSw; (try dsimp only at hSw); go_simp; try with_reducible rfl)
      try simp only [Act.put, List.setIfInBounds_toArray, List.set_cons_zero, List.set_cons_succ]
      refine wpAnyT_take2 3 (v := ?tvq4) (by kernel_rfl) rfl (by kernel_rfl) (fun _ _ _ h => h) (Or.inl ⟨by rfl, ?tyq4⟩) HBD.out ?trq4
      case tyq4 => (intro w' hSw; (try dsimp only at hSw); go_simp; try with_reducible rfl)
      try simp only [Act.put, List.setIfInBounds_toArray, List.set_cons_zero, List.set_cons_succ]
      refine wpAnyT_take2 4 (v := ?tvq5) (by kernel_rfl) rfl (by kernel_rfl) (fun _ _ _ h => h) (Or.inl ⟨by rfl, ?tyq5⟩) HBD.out ?trq5
      case tyq5 => (intro w' hSw; obtain ⟨p0, p1, p2, p3, k0, k1, k2⟩ := HF.out w' hSw; (try dsimp only at hSw); go_simp; try with_reducible rfl)
      try simp only [Act.put, List.setIfInBounds_toArray, List.set_cons_zero, List.set_cons_succ]
      refine wpAnyT_take2 5 (v := ?tvq6) (by kernel_rfl) rfl (by kernel_rfl) (fun _ _ _ h => h) (Or.inl ⟨by rfl, ?tyq6⟩) HBD.out ?trq6
      case tyq6 => (intro w' hSw; obtain ⟨p0, p1, p2, p3, k0, k1, k2⟩ := HF.out w' hSw; (try dsimp only at hSw); go_simp; try with_reducible rfl)
      try simp only [Act.put, List.setIfInBounds_toArray, List.set_cons_zero, List.set_cons_succ]
      refine wpAnyT_one2 6 rfl (by kernel_rfl) ?_
      intro K' hK'
      rw [if_pos (by rfl)]
      have HK := Lib.hid hK'
      clear hK'
      go_wp2_with (go_at_call 19; refine (CR.out _).mono ?_; rintro eq7 wq7 ⟨rfl, hb⟩)
      have HBq7 := Lib.hid (below_then HBD.out hb)
      clear hb
      refine HK.out _ _ ⟨HBq7.out, ?_⟩
      clear HK K'
      try simp only [Act.put, List.setIfInBounds_toArray, List.set_cons_zero, List.set_cons_succ]
      refine ⟨by kernel_rfl, ?_⟩
      change wpList _ _ _ [_] _ _
      go_wp2
      refine NoPanic.normal ?_
      cases bb
      · have hres : res = false := by
          have h1 := any_true_of L (fun t => !riB n m g t) (L.getD j  (0, 0, 0, 0)) (by rw [getD_lt L _ j (by rw [HN.out]; exact hlt)]; exact List.getElem_mem _) (by show (!riB n m g (L.getD j  (0, 0, 0, 0))) = true; rw [HBB.out]; rfl)
          rw [HQ1.out] at h1
          rw [← HRES.out, h1]; simp
        have HRF := Lib.hid hres
        clear hres
        go_wp2_with fail
        go_ret
        exact ⟨by rw [HRF.out]; rfl, below_then HB.out HBq7.out⟩
      · go_wp2_with fail
        go_roundw
        case rel => exact ⟨j + 1, by omega, by go_num, fun k hk => by
            by_cases e : k = j
            · rw [e]; exact HBB.out
            · exact HALL.out k (by omega), below_then HB.out HBq7.out, below_then HB9.out HBq7.out⟩
        case measure => simp [RowKit.intOf]; omega

    · obtain rfl : j = n := by omega
      have hq1 : q1 = false := by
        rw [← HQ1.out, List.any_eq_false]
        intro t ht
        obtain ⟨k, hk, rfl⟩ := List.mem_iff_getElem.1 ht
        have := HALL.out k (by rw [← HN.out]; exact hk)
        rw [getD_lt L _ k hk] at this
        rw [this]; simp
      have hr2 : (!q2) = res := by rw [← HR.out, hq1]; rfl
      have HR2 := Lib.hid hr2
      clear hq1 hr2 HALL HR HRES
      go_wp2_with fail
      clear x0 x1 x2 hlw
      obtain ⟨w1, hw1⟩ : ∃ x, x = wr := ⟨_, rfl⟩
      rw [← hw1] at HB HBX HB9 ⊢
      clear hw1
      go_loopw [4] (fun i wr => ∃ k : Nat, k ≤ m ∧ i = .int .i64 k ∧ (∀ q x, q < k → K[q]? = some x → badB x.R = false) ∧ Below w.heap.size w wr ∧ Below w1.heap.size w1 wr) (fun i _ => m - (RowKit.intOf i).toNat)
      case atStart => exact ⟨0, Nat.zero_le _, rfl, fun q x hq => absurd hq (by omega), HB.out, Below.refl _ _⟩
      case round =>
        obtain ⟨k, hk, rfl, hall, hB, hB1⟩ := hrel
        have HBk := Lib.hid hB
        have HALL := Lib.hid hall
        have HBXk := Lib.hid (HBX.out.below hB1)
        have HB1 := Lib.hid hB1
        clear hB hB1 hall
        obtain ⟨x0, x1, x2⟩ := (⟨HBXk.out.at_ 0 _ rfl, HBXk.out.at_ 1 _ rfl, HBXk.out.at_ 2 _ rfl⟩ : _ ∧ _ ∧ _)
        have hlw := HBXk.out.1
        by_cases hkm : k < m
        · obtain ⟨x, hx⟩ : ∃ x, K[k]? = some x := ⟨_, List.getElem?_eq_getElem (by rw [HM.out]; exact hkm)⟩
          obtain ⟨gc, oc, hCe, hgc, hcc⟩ := HC.out (by rw [List.length_map, HM.out]; omega)
          subst hCe
          have hcl : wr.cell? ⟨gc, oc + k, none⟩ = some (.slice x.A x.R.length x.c) := (HBk.out.cell (p := ⟨gc, oc + k, none⟩) hgc).trans (hcc k _ (by rw [List.getElem?_map, hx]; rfl))
          have hgw : gc < wr.heap.size := Nat.lt_of_lt_of_le hgc HBk.out.size
          have hex := HE.out x (List.mem_of_getElem? hx)
          have cR := rright_any (w := wr) (c := x.c) ⟨hex.1.below HBk.out, rfl, trivial⟩ hex.2
          have HX := Lib.hid hx
          have hxl : x.R.length ≤ 9223372036854775807 := hex.2
          obtain ⟨A, xc, R⟩ := x
          dsimp only at hcl cR hxl
          obtain ⟨rn, hrn⟩ : ∃ y, R.length = y := ⟨_, rfl⟩
          rw [hrn] at hcl cR hxl
          have HRN := Lib.hid hrn
          have CR := Lib.hid cR
          have HCL := Lib.hid hcl
          clear hx hcc hex cR hrn
          go_wp2_with fail
          clear hcl x0 x1 x2
          refine Calls.mono CR.out ?_
          rintro e w2 ⟨b, rfl, hbi, hb2⟩
          obtain ⟨x0, x1, x2⟩ := (⟨(HBXk.out.below hb2).at_ 0 _ rfl, (HBXk.out.below hb2).at_ 1 _ rfl, (HBXk.out.below hb2).at_ 2 _ rfl⟩ : _ ∧ _ ∧ _)
          have hlw2 := (HBXk.out.below hb2).1
          have hcl : w2.cell? ⟨gc, oc + k, none⟩ = some (.slice A rn xc) := (hb2.cell (p := ⟨gc, oc + k, none⟩) hgw).trans HCL.out
          have HBn := Lib.hid (below_then HBk.out hb2)
          have HBI := Lib.hid (hbi.trans (Plain.rightB_iff R).symm)
          have HB2 := Lib.hid hb2
          clear hbi hb2
          have hbad : badB R = (decide (rn = 0) || !Plain.rightB R) := by unfold badB; rw [HRN.out]; rfl
          have HBAD := Lib.hid hbad
          clear hbad
          cases b
          · have hres : res = false := by
              have hrb : Plain.rightB R = false := by cases h : Plain.rightB R; rfl; exact absurd (HBI.out.2 h) (by simp)
              have h1 := any_true_of K (fun x => badB x.R) _ (List.mem_of_getElem? HX.out) (by show badB R = true; rw [HBAD.out, hrb]; simp)
              rw [HQ2.out] at h1
              rw [← HR2.out, h1]; rfl
            have HRF := Lib.hid hres
            clear hres
            go_wp2_with fail
            go_ret
            exact ⟨by rw [HRF.out]; rfl, HBn.out⟩
          · by_cases hz : rn = 0
            · have hres : res = false := by
                have h1 := any_true_of K (fun x => badB x.R) _ (List.mem_of_getElem? HX.out) (by show badB R = true; rw [HBAD.out, decide_eq_true hz]; rfl)
                rw [HQ2.out] at h1
                rw [← HR2.out, h1]; rfl
              have hz2 : ((rn : Int) == 0) = true := by rw [hz]; rfl
              have HRF := Lib.hid hres
              clear hres
              go_wp2_with fail
              go_ret
              exact ⟨by rw [HRF.out]; rfl, HBn.out⟩
            · have hgood : badB R = false := by rw [HBAD.out, decide_eq_false hz, HBI.out.1 rfl]; rfl
              have hz2 : ((rn : Int) == 0) = false := by rw [beq_eq_false_iff_ne]; omega
              have HGD := Lib.hid hgood
              clear hgood
              go_wp2_with fail
              go_roundw
              case rel => exact ⟨k + 1, by omega, by go_num, fun q x hq hx => by
                  by_cases e : q = k
                  · rw [e, HX.out] at hx; injection hx with hx; rw [← hx]; exact HGD.out
                  · exact HALL.out q x (by omega) hx, HBn.out, below_then HB1.out HB2.out⟩
              case measure => simp [RowKit.intOf]; omega
        · obtain rfl : k = m := by omega
          have hq2 : q2 = false := by
            rw [← HQ2.out, List.any_eq_false]
            intro x hx
            obtain ⟨q, hq, rfl⟩ := List.mem_iff_getElem.1 hx
            rw [HALL.out q _ (by rw [← HM.out]; exact hq) (List.getElem?_eq_getElem hq)]; simp
          have hres : res = true := by rw [← HR2.out, hq2]; rfl
          have HRF := Lib.hid hres
          clear hq2 hres
          go_wp2_with fail
          go_ret
          exact ⟨by rw [HRF.out]; rfl, HBk.out⟩
end Go.Proofs.YtpeheppiolfpfaaDoor
namespace Go.Proofs.YtpeheppiolfpfaaDoor
open Go.RowKit Go.Lib
open Plain (Rg May mayB In Norm In4 slotsOf insB bnd riB rightB)
end Go.Proofs.YtpeheppiolfpfaaDoor
namespace Go.Proofs.YtpeheppiolfpfaaDoor
open Go.RowKit Go.Lib
open Plain (Rg May mayB In Norm rightB)
end Go.Proofs.YtpeheppiolfpfaaDoor
namespace Go.Proofs.YtpeheppiolfpfaaDoor
open Go.RowKit Go.Lib
open Plain (Rg May mayB In Norm In4 slotsOf insB bnd riB rightB)
end Go.Proofs.YtpeheppiolfpfaaDoor
namespace Go.Proofs.YtpeheppiolfpfaaDoor
open Go.RowKit Go.Lib
end Go.Proofs.YtpeheppiolfpfaaDoor
namespace Go.Proofs.YtpeheppiolfpfaaDoor
open Go.RowKit Go.Lib
end Go.Proofs.YtpeheppiolfpfaaDoor
namespace Go.Proofs.YtpeheppiolfpfaaDoor
open Go.RowKit Go.Lib
end Go.Proofs.YtpeheppiolfpfaaDoor
