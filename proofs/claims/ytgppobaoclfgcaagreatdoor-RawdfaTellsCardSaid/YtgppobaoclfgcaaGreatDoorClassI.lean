/- class.Right; a class as a function. Conditions: what each lemma says. -/
import Derived.Test.YtgppobaoclfgcaaGreatDoorClassC
import Derived.Deep.RegionHeld3
import Derived.Deep.QuietTactic
import Derived.Deep.Cut
set_option linter.unusedVariables false
set_option linter.unusedSimpArgs false
namespace Go.Proofs.YtgppobaoclfgcaaGreatDoor
open Go.RowKit Go.Lib
open Plain (Rg May mayB In Norm put1 mergeL gapF gaps)
def RightPost (R : List Rg) (w : World) (en : Ending) (w' : World) : Prop := ∃ b : Bool, en = .returned (.bool b) ∧ (b = true ↔ Norm R ∧ R.length ≤ 64) ∧ RowKit.Below w.heap.size w w'
theorem norm_snoc (R : List Rg) (p r : Rg) : Norm (R ++ [p] ++ [r]) ↔ Norm (R ++ [p]) ∧ May r ∧ p.2 + 1 < r.1 := by
  rw [Plain.Norm_append (R ++ [p]) [r], Plain.Norm_one]
  constructor
  · rintro ⟨h1, h2, h3⟩; exact ⟨h1, h2, h3 p (by simp) r (by simp)⟩
  · rintro ⟨h1, h2, h3⟩
    refine ⟨h1, h2, fun x hx s hs => ?_⟩
    simp only [List.mem_cons, List.not_mem_nil, or_false] at hs
    subst hs
    rcases List.mem_append.1 hx with e | e
    · have h4 := (Plain.Norm_append R [p]).1 h1
      have := h4.2.2 x e p (by simp)
      have := ((Plain.Norm_one p).1 h4.2.1).2.2
      omega
    · simp only [List.mem_cons, List.not_mem_nil, or_false] at e
      subst e; exact h3
theorem norm_take {R : List Rg} (h : Norm R) (k : Nat) : Norm (R.take k) := by
  have : Norm (R.take k ++ R.drop k) := by rw [List.take_append_drop]; exact h
  exact ((Plain.Norm_append _ _).1 this).1
set_option maxRecDepth 100000 in
set_option maxHeartbeats 4000000 in
theorem right_any (R : List Rg) (A : Option Addr) (n c : Nat) (w : World) (hX : Rs w A R) (hR : R.length = n) (hn : n ≤ maxLen) :
    Calls Tryz.prog 31 #[.slice A n c] w (RightPost R w) := by
  unfold maxLen at hn
  have HX := Lib.hid hX
  have HR := Lib.hid hR
  clear hX hR
  go_enter Tryz.func31, Tryz.ntmps31
  go_wp2
  go_loopw [7] (fun i wr => ∃ k : Nat, i = .int .i64 k ∧ k ≤ n ∧ Hid (Norm (R.take k)) ∧ RowKit.Below w.heap.size w wr) (fun i _ => n - (RowKit.intOf i).toNat)
  case atStart => exact ⟨0, rfl, Nat.zero_le _, Lib.hid trivial, RowKit.Below.refl _ _⟩
  case round =>
    obtain ⟨k, rfl, hk, HN, hB⟩ := hrel
    have HB := Lib.hid hB
    by_cases hlt : k < n
    · have hkS : k < R.length := by rw [HR.out]; exact hlt
      have hXr := HX.out.below hB
      obtain ⟨ba, off, rfl, hba, c0, c1⟩ := hXr.get k hkS
      obtain ⟨r, hr⟩ : ∃ r, R[k] = r := ⟨_, rfl⟩
      rw [hr] at c0 c1
      have htk : R.take (k + 1) = R.take k ++ [r] := by rw [List.take_succ_eq_append_getElem hkS, hr]
      obtain ⟨lo, hi⟩ := r
      dsimp only at c0 c1
      have HTK := Lib.hid htk
      obtain ⟨q, hq⟩ : ∃ q, mayB (lo, hi) = q := ⟨_, rfl⟩
      have cM := may_any lo hi
      rw [hq] at cM
      have HQ := Lib.hid hq
      have CM := Lib.hid cM
      have HXr := Lib.hid hXr
      clear hr htk hq cM hB hXr
      go_upto_region 4 with fail
      obtain ⟨wb, hwa⟩ : ∃ x, wr.alloc (.cells #[.int .i32 lo, .int .i32 hi] 71) = x := ⟨_, rfl⟩
      have hba2 : RowKit.Below wr.heap.size wr wb := by rw [← hwa]; exact (RowKit.Below.refl _ _).alloc (Nat.le_refl _) _
      have hxa : wb.heap[wr.heap.size]? = some (.cells #[.int .i32 lo, .int .i32 hi] 71 (0, 0)) := by rw [← hwa]; exact heap_alloc_new2 _ _ _ _ rfl
      rw [hwa]
      obtain ⟨x0, x1, x2, x3⟩ := box2 hxa
      have lx := lt_of_some hxa
      have HBb := Lib.hid (below_then HB.out hba2)
      have HXb := Lib.hid (HXr.out.below hba2)
      clear hwa hba2 hxa c0 c1
      cases q
      · refine wp_region_noPanic ?_
        refine wp_region_held_drew (S := (fun w' => w'.cell? ⟨wr.heap.size, 0, none⟩ = some (.int .i32 lo) ∧ w'.cell? ⟨wr.heap.size, 1, none⟩ = some (.int .i32 hi))) (by kernel_rfl) ?_ (fun hHeld => ?_)
        · (try dsimp only) <;> (first | go_keep | exact ⟨(hb9.cell (p := ⟨wr.heap.size, 0, none⟩) lx).trans x0, (hb9.cell (p := ⟨wr.heap.size, 1, none⟩) lx).trans x1⟩)
        refine wpAnyH_take (i := 0) (oi := ⟨_, _, _, _, _, _⟩) (v := ?v0q1) rfl (by kernel_rfl) (by kernel_rfl) (by kernel_rfl) (fun _ _ _ h => h) (Or.inl ⟨by rfl, ?h0q1⟩) (by assumption) ?r0q1
        case h0q1 => (intro w hSw; (try dsimp only at hSw); go_simp <;> with_reducible rfl)
        case' r0q1 => try simp only [Act.put, List.setIfInBounds_toArray, List.set_cons_zero, List.set_cons_succ]
        refine wpAnyH_ready (rs := [1]) (by kernel_rfl) (by simp) ?_
        refine AllReadyH.cons (o := ⟨_, _, _, _, _, _⟩) rfl (fun K hK => ?_) AllReadyH.nil
        rw [if_pos (by rfl)]
        (first | (first | (go_at_call 57; (with_reducible refine (CM.out _).mono ?_); rintro e w9 ⟨rfl, hb9⟩)) | (go_simp; first | ((first | (go_at_call 57; (with_reducible refine (CM.out _).mono ?_); rintro e w9 ⟨rfl, hb9⟩)); (try dsimp only)) | skip))
        refine hK.out _ _ ?_ (fun hHeld => ?_)
        · (try dsimp only) <;> (first | go_keep | exact ⟨(hb9.cell (p := ⟨wr.heap.size, 0, none⟩) lx).trans x0, (hb9.cell (p := ⟨wr.heap.size, 1, none⟩) lx).trans x1⟩)
        clear hK K
        try simp only [Act.put, List.setIfInBounds_toArray, List.set_cons_zero, List.set_cons_succ]
        refine wpAnyH_take (i := 2) (oi := ⟨_, _, _, _, _, _⟩) (v := ?v2q1) rfl (by kernel_rfl) (by kernel_rfl) (by kernel_rfl) (fun _ _ _ h => h) (Or.inl ⟨by rfl, ?h2q1⟩) (by assumption) ?r2q1
        case h2q1 => (intro w hSw; (try dsimp only at hSw); go_simp <;> with_reducible rfl)
        case' r2q1 => try simp only [Act.put, List.setIfInBounds_toArray, List.set_cons_zero, List.set_cons_succ]
        refine wpAnyH_take (i := 3) (oi := ⟨_, _, _, _, _, _⟩) (v := ?v3q1) rfl (by kernel_rfl) (by kernel_rfl) (by kernel_rfl) (fun _ _ _ h => h) (Or.inl ⟨by rfl, ?h3q1⟩) (by assumption) ?r3q1
        case h3q1 => (intro w hSw; (try dsimp only at hSw); go_simp <;> with_reducible rfl)
        case' r3q1 => try simp only [Act.put, List.setIfInBounds_toArray, List.set_cons_zero, List.set_cons_succ]
        refine wpAnyH_take (i := 4) (oi := ⟨_, _, _, _, _, _⟩) (v := undef) rfl (by kernel_rfl) (by kernel_rfl) (by kernel_rfl) (fun _ _ _ h => h) (Or.inr ⟨by rfl, rfl⟩) (by assumption) ?_
        try simp only [Act.put, List.setIfInBounds_toArray, List.set_cons_zero, List.set_cons_succ]
        refine wpAnyH_take (i := 5) (oi := ⟨_, _, _, _, _, _⟩) (v := undef) rfl (by kernel_rfl) (by kernel_rfl) (by kernel_rfl) (fun _ _ _ h => h) (Or.inr ⟨by rfl, rfl⟩) (by assumption) ?_
        try simp only [Act.put, List.setIfInBounds_toArray, List.set_cons_zero, List.set_cons_succ]
        refine wpAnyH_take (i := 6) (oi := ⟨_, _, _, _, _, _⟩) (v := undef) rfl (by kernel_rfl) (by kernel_rfl) (by kernel_rfl) (fun _ _ _ h => h) (Or.inr ⟨by rfl, rfl⟩) (by assumption) ?_
        try simp only [Act.put, List.setIfInBounds_toArray, List.set_cons_zero, List.set_cons_succ]
        refine wpAnyH_take (i := 7) (oi := ⟨_, _, _, _, _, _⟩) (v := undef) rfl (by kernel_rfl) (by kernel_rfl) (by kernel_rfl) (fun _ _ _ h => h) (Or.inr ⟨by rfl, rfl⟩) (by assumption) ?_
        try simp only [Act.put, List.setIfInBounds_toArray, List.set_cons_zero, List.set_cons_succ]
        refine wpAnyH_take (i := 8) (oi := ⟨_, _, _, _, _, _⟩) (v := undef) rfl (by kernel_rfl) (by kernel_rfl) (by kernel_rfl) (fun _ _ _ h => h) (Or.inr ⟨by rfl, rfl⟩) (by assumption) ?_
        try simp only [Act.put, List.setIfInBounds_toArray, List.set_cons_zero, List.set_cons_succ]
        refine wpAnyH_take (i := 9) (oi := ⟨_, _, _, _, _, _⟩) (v := undef) rfl (by kernel_rfl) (by kernel_rfl) (by kernel_rfl) (fun _ _ _ h => h) (Or.inr ⟨by rfl, rfl⟩) (by assumption) ?_
        try simp only [Act.put, List.setIfInBounds_toArray, List.set_cons_zero, List.set_cons_succ]
        refine wpAnyH_take (i := 10) (oi := ⟨_, _, _, _, _, _⟩) (v := undef) rfl (by kernel_rfl) (by kernel_rfl) (by kernel_rfl) (fun _ _ _ h => h) (Or.inr ⟨by rfl, rfl⟩) (by assumption) ?_
        try simp only [Act.put, List.setIfInBounds_toArray, List.set_cons_zero, List.set_cons_succ]
        refine wpAnyH_take (i := 11) (oi := ⟨_, _, _, _, _, _⟩) (v := undef) rfl (by kernel_rfl) (by kernel_rfl) (by kernel_rfl) (fun _ _ _ h => h) (Or.inr ⟨by rfl, rfl⟩) (by assumption) ?_
        try simp only [Act.put, List.setIfInBounds_toArray, List.set_cons_zero, List.set_cons_succ]
        refine wpAnyH_take (i := 12) (oi := ⟨_, _, _, _, _, _⟩) (v := undef) rfl (by kernel_rfl) (by kernel_rfl) (by kernel_rfl) (fun _ _ _ h => h) (Or.inr ⟨by rfl, rfl⟩) (by assumption) ?_
        try simp only [Act.put, List.setIfInBounds_toArray, List.set_cons_zero, List.set_cons_succ]
        refine wpAnyH_take (i := 13) (oi := ⟨_, _, _, _, _, _⟩) (v := undef) rfl (by kernel_rfl) (by kernel_rfl) (by kernel_rfl) (fun _ _ _ h => h) (Or.inr ⟨by rfl, rfl⟩) (by assumption) ?_
        try simp only [Act.put, List.setIfInBounds_toArray, List.set_cons_zero, List.set_cons_succ]
        refine wpAnyH_take (i := 14) (oi := ⟨_, _, _, _, _, _⟩) (v := undef) rfl (by kernel_rfl) (by kernel_rfl) (by kernel_rfl) (fun _ _ _ h => h) (Or.inr ⟨by rfl, rfl⟩) (by assumption) ?_
        try simp only [Act.put, List.setIfInBounds_toArray, List.set_cons_zero, List.set_cons_succ]
        refine wpAnyH_take (i := 15) (oi := ⟨_, _, _, _, _, _⟩) (v := undef) rfl (by kernel_rfl) (by kernel_rfl) (by kernel_rfl) (fun _ _ _ h => h) (Or.inr ⟨by rfl, rfl⟩) (by assumption) ?_
        try simp only [Act.put, List.setIfInBounds_toArray, List.set_cons_zero, List.set_cons_succ]
        refine wpAnyH_take (i := 16) (oi := ⟨_, _, _, _, _, _⟩) (v := undef) rfl (by kernel_rfl) (by kernel_rfl) (by kernel_rfl) (fun _ _ _ h => h) (Or.inr ⟨by rfl, rfl⟩) (by assumption) ?_
        try simp only [Act.put, List.setIfInBounds_toArray, List.set_cons_zero, List.set_cons_succ]
        refine wpAnyH_take (i := 17) (oi := ⟨_, _, _, _, _, _⟩) (v := undef) rfl (by kernel_rfl) (by kernel_rfl) (by kernel_rfl) (fun _ _ _ h => h) (Or.inr ⟨by rfl, rfl⟩) (by assumption) ?_
        try simp only [Act.put, List.setIfInBounds_toArray, List.set_cons_zero, List.set_cons_succ]
        refine wpAnyH_take (i := 18) (oi := ⟨_, _, _, _, _, _⟩) (v := ?v18q1) rfl (by kernel_rfl) (by kernel_rfl) (by kernel_rfl) (fun _ _ _ h => h) (Or.inl ⟨by rfl, ?h18q1⟩) (by assumption) ?r18q1
        case h18q1 => (intro w hSw; (try dsimp only at hSw); go_simp <;> with_reducible rfl)
        case' r18q1 => try simp only [Act.put, List.setIfInBounds_toArray, List.set_cons_zero, List.set_cons_succ]
        refine wpAnyH_done (by kernel_rfl) ?_ _
        refine NoPanic.normal ?_
        all_goals
          have HB9 := Lib.hid (below_then HBb.out (⟨hb9.os, hb9.tape, hb9.output, hb9.size, hb9.block⟩ : RowKit.Below wb.heap.size wb w9))
          clear hb9 x0 x1 x2 x3 lx
          go_wp2
          go_ret
          refine ⟨false, rfl, ⟨(fun h => by cases h), fun h => ?_⟩, HB9.out⟩
          have h1 := norm_take h.1 (k + 1)
          rw [HTK.out] at h1
          have h2 := Plain.Norm_may h1 (lo, hi) (by simp)
          have h3 := (Plain.mayB_iff (lo, hi)).2 h2
          rw [HQ.out] at h3
          cases h3
      · have hmay : May (lo, hi) := (Plain.mayB_iff _).1 HQ.out
        obtain ⟨b1, b2, b3⟩ := hmay
        dsimp only at b1 b2 b3
        cases k with
        | zero =>
          refine wp_region_noPanic ?_
          refine wp_region_held_drew (S := (fun w' => w'.cell? ⟨wr.heap.size, 0, none⟩ = some (.int .i32 lo) ∧ w'.cell? ⟨wr.heap.size, 1, none⟩ = some (.int .i32 hi))) (by kernel_rfl) ?_ (fun hHeld => ?_)
          · (try dsimp only) <;> (first | go_keep | exact ⟨(hb9.cell (p := ⟨wr.heap.size, 0, none⟩) lx).trans x0, (hb9.cell (p := ⟨wr.heap.size, 1, none⟩) lx).trans x1⟩)
          refine wpAnyH_take (i := 0) (oi := ⟨_, _, _, _, _, _⟩) (v := ?v0q2) rfl (by kernel_rfl) (by kernel_rfl) (by kernel_rfl) (fun _ _ _ h => h) (Or.inl ⟨by rfl, ?h0q2⟩) (by assumption) ?r0q2
          case h0q2 => (intro w hSw; (try dsimp only at hSw); go_simp <;> with_reducible rfl)
          case' r0q2 => try simp only [Act.put, List.setIfInBounds_toArray, List.set_cons_zero, List.set_cons_succ]
          refine wpAnyH_ready (rs := [1]) (by kernel_rfl) (by simp) ?_
          refine AllReadyH.cons (o := ⟨_, _, _, _, _, _⟩) rfl (fun K hK => ?_) AllReadyH.nil
          rw [if_pos (by rfl)]
          (first | (first | (go_at_call 57; (with_reducible refine (CM.out _).mono ?_); rintro e w9 ⟨rfl, hb9⟩)) | (go_simp; first | ((first | (go_at_call 57; (with_reducible refine (CM.out _).mono ?_); rintro e w9 ⟨rfl, hb9⟩)); (try dsimp only)) | skip))
          refine hK.out _ _ ?_ (fun hHeld => ?_)
          · (try dsimp only) <;> (first | go_keep | exact ⟨(hb9.cell (p := ⟨wr.heap.size, 0, none⟩) lx).trans x0, (hb9.cell (p := ⟨wr.heap.size, 1, none⟩) lx).trans x1⟩)
          clear hK K
          try simp only [Act.put, List.setIfInBounds_toArray, List.set_cons_zero, List.set_cons_succ]
          refine wpAnyH_take (i := 2) (oi := ⟨_, _, _, _, _, _⟩) (v := ?v2q2) rfl (by kernel_rfl) (by kernel_rfl) (by kernel_rfl) (fun _ _ _ h => h) (Or.inl ⟨by rfl, ?h2q2⟩) (by assumption) ?r2q2
          case h2q2 => (intro w hSw; (try dsimp only at hSw); go_simp <;> with_reducible rfl)
          case' r2q2 => try simp only [Act.put, List.setIfInBounds_toArray, List.set_cons_zero, List.set_cons_succ]
          refine wpAnyH_take (i := 3) (oi := ⟨_, _, _, _, _, _⟩) (v := ?v3q2) rfl (by kernel_rfl) (by kernel_rfl) (by kernel_rfl) (fun _ _ _ h => h) (Or.inl ⟨by rfl, ?h3q2⟩) (by assumption) ?r3q2
          case h3q2 => (intro w hSw; (try dsimp only at hSw); go_simp <;> with_reducible rfl)
          case' r3q2 => try simp only [Act.put, List.setIfInBounds_toArray, List.set_cons_zero, List.set_cons_succ]
          refine wpAnyH_take (i := 4) (oi := ⟨_, _, _, _, _, _⟩) (v := ?v4q2) rfl (by kernel_rfl) (by kernel_rfl) (by kernel_rfl) (fun _ _ _ h => h) (Or.inl ⟨by rfl, ?h4q2⟩) (by assumption) ?r4q2
          case h4q2 => (intro w hSw; (try dsimp only at hSw); go_simp <;> with_reducible rfl)
          case' r4q2 => try simp only [Act.put, List.setIfInBounds_toArray, List.set_cons_zero, List.set_cons_succ]
          refine wpAnyH_take (i := 5) (oi := ⟨_, _, _, _, _, _⟩) (v := ?v5q2) rfl (by kernel_rfl) (by kernel_rfl) (by kernel_rfl) (fun _ _ _ h => h) (Or.inl ⟨by rfl, ?h5q2⟩) (by assumption) ?r5q2
          case h5q2 => (intro w hSw; (try dsimp only at hSw); go_simp <;> with_reducible rfl)
          case' r5q2 => try simp only [Act.put, List.setIfInBounds_toArray, List.set_cons_zero, List.set_cons_succ]
          refine wpAnyH_take (i := 6) (oi := ⟨_, _, _, _, _, _⟩) (v := ?v6q2) rfl (by kernel_rfl) (by kernel_rfl) (by kernel_rfl) (fun _ _ _ h => h) (Or.inl ⟨by rfl, ?h6q2⟩) (by assumption) ?r6q2
          case h6q2 => (intro w hSw; (try dsimp only at hSw); go_simp <;> with_reducible rfl)
          case' r6q2 => try simp only [Act.put, List.setIfInBounds_toArray, List.set_cons_zero, List.set_cons_succ]
          refine wpAnyH_take (i := 7) (oi := ⟨_, _, _, _, _, _⟩) (v := undef) rfl (by kernel_rfl) (by kernel_rfl) (by kernel_rfl) (fun _ _ _ h => h) (Or.inr ⟨by rfl, rfl⟩) (by assumption) ?_
          try simp only [Act.put, List.setIfInBounds_toArray, List.set_cons_zero, List.set_cons_succ]
          refine wpAnyH_take (i := 8) (oi := ⟨_, _, _, _, _, _⟩) (v := undef) rfl (by kernel_rfl) (by kernel_rfl) (by kernel_rfl) (fun _ _ _ h => h) (Or.inr ⟨by rfl, rfl⟩) (by assumption) ?_
          try simp only [Act.put, List.setIfInBounds_toArray, List.set_cons_zero, List.set_cons_succ]
          refine wpAnyH_take (i := 9) (oi := ⟨_, _, _, _, _, _⟩) (v := undef) rfl (by kernel_rfl) (by kernel_rfl) (by kernel_rfl) (fun _ _ _ h => h) (Or.inr ⟨by rfl, rfl⟩) (by assumption) ?_
          try simp only [Act.put, List.setIfInBounds_toArray, List.set_cons_zero, List.set_cons_succ]
          refine wpAnyH_take (i := 10) (oi := ⟨_, _, _, _, _, _⟩) (v := undef) rfl (by kernel_rfl) (by kernel_rfl) (by kernel_rfl) (fun _ _ _ h => h) (Or.inr ⟨by rfl, rfl⟩) (by assumption) ?_
          try simp only [Act.put, List.setIfInBounds_toArray, List.set_cons_zero, List.set_cons_succ]
          refine wpAnyH_take (i := 11) (oi := ⟨_, _, _, _, _, _⟩) (v := undef) rfl (by kernel_rfl) (by kernel_rfl) (by kernel_rfl) (fun _ _ _ h => h) (Or.inr ⟨by rfl, rfl⟩) (by assumption) ?_
          try simp only [Act.put, List.setIfInBounds_toArray, List.set_cons_zero, List.set_cons_succ]
          refine wpAnyH_take (i := 12) (oi := ⟨_, _, _, _, _, _⟩) (v := undef) rfl (by kernel_rfl) (by kernel_rfl) (by kernel_rfl) (fun _ _ _ h => h) (Or.inr ⟨by rfl, rfl⟩) (by assumption) ?_
          try simp only [Act.put, List.setIfInBounds_toArray, List.set_cons_zero, List.set_cons_succ]
          refine wpAnyH_take (i := 13) (oi := ⟨_, _, _, _, _, _⟩) (v := undef) rfl (by kernel_rfl) (by kernel_rfl) (by kernel_rfl) (fun _ _ _ h => h) (Or.inr ⟨by rfl, rfl⟩) (by assumption) ?_
          try simp only [Act.put, List.setIfInBounds_toArray, List.set_cons_zero, List.set_cons_succ]
          refine wpAnyH_take (i := 14) (oi := ⟨_, _, _, _, _, _⟩) (v := undef) rfl (by kernel_rfl) (by kernel_rfl) (by kernel_rfl) (fun _ _ _ h => h) (Or.inr ⟨by rfl, rfl⟩) (by assumption) ?_
          try simp only [Act.put, List.setIfInBounds_toArray, List.set_cons_zero, List.set_cons_succ]
          refine wpAnyH_take (i := 15) (oi := ⟨_, _, _, _, _, _⟩) (v := undef) rfl (by kernel_rfl) (by kernel_rfl) (by kernel_rfl) (fun _ _ _ h => h) (Or.inr ⟨by rfl, rfl⟩) (by assumption) ?_
          try simp only [Act.put, List.setIfInBounds_toArray, List.set_cons_zero, List.set_cons_succ]
          refine wpAnyH_take (i := 16) (oi := ⟨_, _, _, _, _, _⟩) (v := undef) rfl (by kernel_rfl) (by kernel_rfl) (by kernel_rfl) (fun _ _ _ h => h) (Or.inr ⟨by rfl, rfl⟩) (by assumption) ?_
          try simp only [Act.put, List.setIfInBounds_toArray, List.set_cons_zero, List.set_cons_succ]
          refine wpAnyH_take (i := 17) (oi := ⟨_, _, _, _, _, _⟩) (v := ?v17q2) rfl (by kernel_rfl) (by kernel_rfl) (by kernel_rfl) (fun _ _ _ h => h) (Or.inl ⟨by rfl, ?h17q2⟩) (by assumption) ?r17q2
          case h17q2 => (intro w hSw; (try dsimp only at hSw); go_simp <;> with_reducible rfl)
          case' r17q2 => try simp only [Act.put, List.setIfInBounds_toArray, List.set_cons_zero, List.set_cons_succ]
          refine wpAnyH_take (i := 18) (oi := ⟨_, _, _, _, _, _⟩) (v := ?v18q2) rfl (by kernel_rfl) (by kernel_rfl) (by kernel_rfl) (fun _ _ _ h => h) (Or.inl ⟨by rfl, ?h18q2⟩) (by assumption) ?r18q2
          case h18q2 => (intro w hSw; (try dsimp only at hSw); go_simp <;> with_reducible rfl)
          case' r18q2 => try simp only [Act.put, List.setIfInBounds_toArray, List.set_cons_zero, List.set_cons_succ]
          refine wpAnyH_done (by kernel_rfl) ?_ _
          refine NoPanic.normal ?_
          all_goals
            have HB9 := Lib.hid (below_then HBb.out (⟨hb9.os, hb9.tape, hb9.output, hb9.size, hb9.block⟩ : RowKit.Below wb.heap.size wb w9))
            clear hb9 x0 x1 x2 x3 lx
            go_wp2
            go_roundw
            case rel => exact ⟨1, rfl, by omega, Lib.hid (by rw [HTK.out]; exact (Plain.Norm_one _).2 ⟨b1, b2, b3⟩), HB9.out⟩
            case measure => simp [RowKit.intOf]; omega
        | succ j =>
          have hjS : j < R.length := by omega
          obtain ⟨ba2, off2, hA2, hbb, p0, p1⟩ := HXb.out.get j hjS
          injection hA2 with hA2
          injection hA2 with e1 e2 e3
          subst e1 e2
          clear e3
          obtain ⟨p, hp⟩ : ∃ p, R[j] = p := ⟨_, rfl⟩
          rw [hp] at p0 p1
          have htj : R.take (j + 1) = R.take j ++ [p] := by rw [List.take_succ_eq_append_getElem hjS, hp]
          have hpm : May p := Plain.Norm_may HN.out p (by rw [htj]; simp)
          obtain ⟨pl, ph⟩ := p
          obtain ⟨d1, d2, d3⟩ := hpm
          dsimp only at p0 p1 d1 d2 d3
          have HTJ := Lib.hid htj
          have hw1 : IntKind.i64.wrap (((j + 1 : Nat) : Int) - 1) = (j : Int) := by rw [IntKind.wrap_i64]; omega
          have hw11 : ((j + 1 : Nat) : Int) - 1 = (j : Int) := by omega
          obtain ⟨kk, hkk⟩ : ∃ kk, j + 1 = kk := ⟨_, rfl⟩
          rw [hkk] at hw1 hw11 hk hlt ⊢
          have HKK := Lib.hid hkk
          have hj0 : (0 : Int) ≤ (j : Int) := by omega
          have hj1 : (j : Int) < (n : Int) := by omega
          have hw3 : IntKind.i64.wrap (j : Int) = (j : Int) := by rw [IntKind.wrap_i64]; omega
          have hw2 : IntKind.i32.wrap (ph + 1) = ph + 1 := by rw [IntKind.wrap_i32]; omega
          have hk0 : decide ((0 : Int) < (kk : Int)) = true := by simp; omega
          have hk00 : decide (0 < kk) = true := by simp; omega
          clear hp htj hkk
          by_cases hc : lo ≤ ph + 1
          · have dc : decide (lo ≤ ph + 1) = true := by simp [hc]
            go_region_held3 (fun w' => w'.cell? ⟨wr.heap.size, 0, none⟩ = some (.int .i32 lo) ∧ w'.cell? ⟨wr.heap.size, 1, none⟩ = some (.int .i32 hi) ∧ w'.cell? ⟨ba, off + j * 2 + 1, none⟩ = some (.int .i32 ph)) (first | go_keep | exact ⟨(hb9.cell (p := ⟨wr.heap.size, 0, none⟩) lx).trans x0, (hb9.cell (p := ⟨wr.heap.size, 1, none⟩) lx).trans x1, (hb9.cell (p := ⟨ba, off + j * 2 + 1, none⟩) hbb).trans p1⟩) (first | (go_at_call 57; (with_reducible refine (CM.out _).mono ?_); rintro e w9 ⟨rfl, hb9⟩))
            all_goals
              have HB9 := Lib.hid (below_then HBb.out (⟨hb9.os, hb9.tape, hb9.output, hb9.size, hb9.block⟩ : RowKit.Below wb.heap.size wb w9))
              clear hb9 x0 x1 x2 x3 lx p0 p1
              go_wp2
              go_ret
              refine ⟨false, rfl, ⟨(fun h => by cases h), fun h => ?_⟩, HB9.out⟩
              have h1 := norm_take h.1 (j + 1 + 1)
              rw [HTK.out, HTJ.out, norm_snoc] at h1
              have h2 : ph + 1 < lo := h1.2.2
              omega
          · have dc : decide (lo ≤ ph + 1) = false := by simp; omega
            go_region_held3 (fun w' => w'.cell? ⟨wr.heap.size, 0, none⟩ = some (.int .i32 lo) ∧ w'.cell? ⟨wr.heap.size, 1, none⟩ = some (.int .i32 hi) ∧ w'.cell? ⟨ba, off + j * 2 + 1, none⟩ = some (.int .i32 ph)) (first | go_keep | exact ⟨(hb9.cell (p := ⟨wr.heap.size, 0, none⟩) lx).trans x0, (hb9.cell (p := ⟨wr.heap.size, 1, none⟩) lx).trans x1, (hb9.cell (p := ⟨ba, off + j * 2 + 1, none⟩) hbb).trans p1⟩) (first | (go_at_call 57; (with_reducible refine (CM.out _).mono ?_); rintro e w9 ⟨rfl, hb9⟩))
            all_goals
              have HB9 := Lib.hid (below_then HBb.out (⟨hb9.os, hb9.tape, hb9.output, hb9.size, hb9.block⟩ : RowKit.Below wb.heap.size wb w9))
              clear hb9 x0 x1 x2 x3 lx p0 p1
              go_wp2
              go_roundw
              case rel => exact ⟨kk + 1, by go_num, by omega, Lib.hid (by rw [← HKK.out, HTK.out, HTJ.out, norm_snoc]; exact ⟨by rw [← HTJ.out]; exact HN.out, ⟨b1, b2, b3⟩, by show ph + 1 < lo; omega⟩), HB9.out⟩
              case measure => simp [RowKit.intOf]; omega
    · obtain rfl : k = n := by omega
      have hT : R.take k = R := List.take_of_length_le (by rw [HR.out]; exact Nat.le_refl _)
      clear hB
      by_cases h64 : k ≤ 64
      · have d1 : decide ((k : Int) ≤ 64) = true := by simp; omega
        have HT := Lib.hid hT
        clear hT
        go_wp2
        go_ret
        exact ⟨true, rfl, ⟨fun _ => ⟨by have := HN.out; rw [HT.out] at this; exact this, by rw [HR.out]; exact h64⟩, fun _ => rfl⟩, HB.out⟩
      · have d1 : decide ((k : Int) ≤ 64) = false := by simp; omega
        have HT := Lib.hid hT
        clear hT
        go_wp2
        go_ret
        exact ⟨false, rfl, ⟨(fun h => by cases h), fun h => absurd h.2 (by rw [HR.out]; exact h64)⟩, HB.out⟩
end Go.Proofs.YtgppobaoclfgcaaGreatDoor
namespace Go.Proofs.YtgppobaoclfgcaaGreatDoor.Plain
/-- the class of some ranges -/
def cls (R : List Rg) : List Rg := mergeL ((R.filter mayB).mergeSort fun a b => decide (a.1 ≤ b.1))
theorem cls_holds (R : List Rg) : Norm (cls R) ∧ (∀ x, In (cls R) x ↔ In (R.filter mayB) x) ∧ (cls R).length ≤ R.length := by
  have hp := List.mergeSort_perm (R.filter mayB) fun a b => decide (a.1 ≤ b.1)
  have hs := List.pairwise_mergeSort (le := fun (a b : Rg) => decide (a.1 ≤ b.1)) (fun a b c h1 h2 => by simp at *; omega) (fun a b => by simp; omega) (R.filter mayB)
  have hm := merge_holds _ _ rfl (fun r hr => (mayB_iff r).1 (List.mem_filter.1 (hp.mem_iff.1 hr)).2) (hs.imp fun h => by simpa using h)
  refine ⟨hm.1, fun x => ?_, ?_⟩
  · show In (mergeL _) x ↔ _
    rw [hm.2.1 x]
    constructor
    · rintro ⟨r, h1, h2⟩; exact ⟨r, hp.mem_iff.1 h1, h2⟩
    · rintro ⟨r, h1, h2⟩; exact ⟨r, hp.mem_iff.2 h1, h2⟩
  · have h1 := hm.2.2.2
    rw [hp.length_eq] at h1
    exact Nat.le_trans h1 (List.length_filter_le _ _)
theorem cls_is {R C : List Rg} (hN : Norm C) (hI : ∀ x, In C x ↔ In (R.filter mayB) x) : C = cls R :=
  Norm_unique hN (cls_holds R).1 fun x => (hI x).trans ((cls_holds R).2.1 x).symm
theorem cls_norm (R : List Rg) : Norm (cls R) := (cls_holds R).1
theorem cls_in (R : List Rg) (x : Int) : In (cls R) x ↔ In (R.filter mayB) x := (cls_holds R).2.1 x
theorem cls_len (R : List Rg) : (cls R).length ≤ R.length := (cls_holds R).2.2
theorem Norm_filter {R : List Rg} (h : Norm R) : R.filter mayB = R := List.filter_eq_self.2 fun r hr => (mayB_iff r).2 (Norm_may h r hr)
theorem cls_self {R : List Rg} (h : Norm R) : cls R = R := (cls_is h fun x => by rw [Norm_filter h]).symm
/-- what is not -/
def cnot (R : List Rg) : List Rg := cls (gaps 0 (cls R))
theorem cnot_norm (R : List Rg) : Norm (cnot R) := cls_norm _
theorem cnot_in (R : List Rg) (x : Int) : In (cnot R) x ↔ 0 ≤ x ∧ x ≤ 1114111 ∧ ¬ In (R.filter mayB) x := by
  unfold cnot
  rw [cls_in, gaps_in (cls R) 0 (Int.le_refl _) (cls_norm R) (fun r hr => (Norm_may (cls_norm R) r hr).1), cls_in]
theorem cnot_is {R C : List Rg} (hN : Norm C) (hI : ∀ x, In C x ↔ 0 ≤ x ∧ x ≤ 1114111 ∧ ¬ In (R.filter mayB) x) : C = cnot R :=
  Norm_unique hN (cnot_norm R) fun x => (hI x).trans (cnot_in R x).symm
theorem cnot_len (R : List Rg) : (cnot R).length ≤ R.length + 1 := by
  have h1 := cls_len (gaps 0 (cls R))
  rw [gaps_len] at h1
  have h2 := cls_len R
  unfold cnot; omega
def normB : List Rg → Bool
  | [] => true
  | r :: R => mayB r && R.all (fun s => decide (r.2 + 1 < s.1)) && normB R
theorem normB_iff : ∀ R : List Rg, normB R = true ↔ Norm R := by
  intro R
  induction R with
  | nil => exact ⟨fun _ => trivial, fun _ => rfl⟩
  | cons r R ih =>
    unfold normB
    rw [Bool.and_eq_true, Bool.and_eq_true, mayB_iff, List.all_eq_true, ih, Norm_cons, and_assoc]
    simp only [decide_eq_true_eq]
def rightB (R : List Rg) : Bool := normB R && decide (R.length ≤ 64)
theorem rightB_iff (R : List Rg) : rightB R = true ↔ Norm R ∧ R.length ≤ 64 := by unfold rightB; rw [Bool.and_eq_true, normB_iff, decide_eq_true_eq]
end Go.Proofs.YtgppobaoclfgcaaGreatDoor.Plain
namespace Go.Proofs.YtgppobaoclfgcaaGreatDoor
open Go.RowKit Go.Lib
open Plain (Rg May mayB In Norm cls cnot rightB)
/-- a class that lies somewhere -/
def Cl (w : World) (A : Option Addr) (n c : Nat) (C : List Rg) : Prop := Rs w A C ∧ C.length = n ∧ (A = none → c = 0)
theorem Cl.below {w w' : World} {A : Option Addr} {n c : Nat} {C : List Rg} (h : Cl w A n c C) (hb : Below w.heap.size w w') : Cl w' A n c C := ⟨h.1.below hb, h.2.1, h.2.2⟩
theorem Cl.of_own {w : World} {base n c : Nat} {A : Option Addr} {C : List Rg} (h : w.ownsRow base 71 2 (.slice A n c) n (rgs C)) (hl : C.length = n) : Cl w A n c C :=
  ⟨Rs.of_own h hl, hl, fun hA => by
    subst hA
    rcases h.2 with ⟨hv, _⟩ | ⟨g, cap, cur, hv, _⟩
    · injection hv
    · cases hv⟩
def ClPost (C : List Rg) (w : World) (en : Ending) (w' : World) : Prop := ∃ A n c, en = .returned (.slice A n c) ∧ Cl w' A n c C ∧ Below w.heap.size w w'
theorem of_cl {R : List Rg} {A : Option Addr} {n c : Nat} {w : World} (h : Cl w A n c R) (hn : R.length ≤ 10000) : Calls Tryz.prog 43 #[.slice A n c] w (ClPost (cls R) w) := by
  obtain ⟨h1, h2, _⟩ := h
  refine (of_any R A n c w h1 h2 (by omega)).mono ?_
  rintro e w' ⟨C, A', c', rfl, hN, hI, _, hO, hB⟩
  obtain rfl := Plain.cls_is hN hI
  exact ⟨A', _, c', rfl, Cl.of_own hO rfl, hB⟩
theorem not_cl {R : List Rg} {A : Option Addr} {n c : Nat} {w : World} (h : Cl w A n c R) (hn : R.length ≤ 10000) : Calls Tryz.prog 20 #[.slice A n c] w (ClPost (cnot R) w) := by
  obtain ⟨h1, h2, _⟩ := h
  refine (not_any R A n c w h1 h2 (by omega)).mono ?_
  rintro e w' ⟨C, A', c', rfl, hN, hI, _, hO, hB⟩
  obtain rfl := Plain.cnot_is hN hI
  exact ⟨A', _, c', rfl, Cl.of_own hO rfl, hB⟩
theorem right_cl {R : List Rg} {A : Option Addr} {n c : Nat} {w : World} (h : Cl w A n c R) (hn : R.length ≤ 10000) : Calls Tryz.prog 31 #[.slice A n c] w fun e w' => e = .returned (.bool (rightB R)) ∧ Below w.heap.size w w' := by
  obtain ⟨h1, h2, _⟩ := h
  refine (right_any R A n c w h1 h2 (by unfold maxLen; omega)).mono ?_
  rintro e w' ⟨b, rfl, hb, hB⟩
  have : b = rightB R := by rw [Bool.eq_iff_iff, hb, Plain.rightB_iff]
  rw [this]
  exact ⟨rfl, hB⟩
end Go.Proofs.YtgppobaoclfgcaaGreatDoor
namespace Go.Proofs.YtgppobaoclfgcaaGreatDoor.Plain
end Go.Proofs.YtgppobaoclfgcaaGreatDoor.Plain
namespace Go.Proofs.YtgppobaoclfgcaaGreatDoor
open Go.RowKit Go.Lib
open Plain (Rg May mayB In Norm cls cnot rightB)
theorem Cl.new (w : World) (C : List Rg) (cs : Array Value) (h : cs.toList = rgs C) : Cl (w.alloc (.cells cs 71)) (some ⟨w.heap.size, 0, none⟩) C.length C.length C := by
  refine ⟨fun _ => ⟨w.heap.size, 0, rfl, by simp, fun i r hi => ?_⟩, rfl, fun h => by cases h⟩
  have hc := CellsAt.new w cs 71
  rw [h] at hc
  have := rgs_get C i r hi
  rw [Nat.zero_add]
  exact ⟨hc.2 _ _ this.1, hc.2 _ _ this.2⟩
end Go.Proofs.YtgppobaoclfgcaaGreatDoor
