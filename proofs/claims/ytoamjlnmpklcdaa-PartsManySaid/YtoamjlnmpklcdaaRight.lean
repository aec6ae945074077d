/- Chapter 4: may, ranges that lie somewhere, class.Right: what the code computes. Conditions: what each lemma says. -/
import Derived.Test.YtoamjlnmpklcdaaKit
import Derived.Test.YtoamjlnmpklcdaaClassP
import Derived.Deep.RegionHeld3
import Derived.Deep.QuietTactic
import Derived.Deep.Cut
import Derived.Deep.DeepCutAuto
set_option linter.unusedVariables false
set_option linter.unusedSimpArgs false
namespace Go.Proofs.Ytoamjlnmpklcdaa
open Go.RowKit Go.Lib
open Plain (Rg May mayB In Norm put1 mergeL)
/-- a range's value, a row of ranges as cells -/
def rgV (r : Rg) : Value := .agg #[.int .i32 r.1, .int .i32 r.2]
def rgc (r : Rg) : List Value := [.int .i32 r.1, .int .i32 r.2]
def rgs (R : List Rg) : List Value := R.flatMap rgc
theorem may_any (lo hi : Int) (w : World) : Calls Try.prog 27 #[.agg #[.int .i32 lo, .int .i32 hi]] w fun e w' => e = .returned (.bool (mayB (lo, hi))) ∧ Below w.heap.size w w' := by
  unfold mayB
  dsimp only
  by_cases h1 : 0 ≤ lo
  · by_cases h2 : hi ≤ 1114111
    · by_cases h3 : lo ≤ hi
      · have d1 : decide (0 ≤ lo) = true := by simp [h1]
        have d2 : decide (hi ≤ 1114111) = true := by simp [h2]
        have d3 : decide (lo ≤ hi) = true := by simp [h3]
        go_enter Try.func27, Try.ntmps27
        go_wp2
        go_ret
        exact ⟨ret_bool (by simp [*]), (Below.refl _ _).alloc (Nat.le_refl _) _⟩
      · have d1 : decide (0 ≤ lo) = true := by simp [h1]
        have d2 : decide (hi ≤ 1114111) = true := by simp [h2]
        have d3 : decide (lo ≤ hi) = false := by simp; omega
        go_enter Try.func27, Try.ntmps27
        go_wp2
        go_ret
        exact ⟨ret_bool (by simp [*]), (Below.refl _ _).alloc (Nat.le_refl _) _⟩
    · have d1 : decide (0 ≤ lo) = true := by simp [h1]
      have d2 : decide (hi ≤ 1114111) = false := by simp; omega
      go_enter Try.func27, Try.ntmps27
      go_wp2
      go_ret
      exact ⟨ret_bool (by simp [*]), (Below.refl _ _).alloc (Nat.le_refl _) _⟩
  · have d1 : decide (0 ≤ lo) = false := by simp; omega
    go_enter Try.func27, Try.ntmps27
    go_wp2
    go_ret
    exact ⟨ret_bool (by simp [*]), (Below.refl _ _).alloc (Nat.le_refl _) _⟩
/-- ranges that lie somewhere -/
def Rs (w : World) (A : Option Addr) (R : List Rg) : Prop :=
  0 < R.length → ∃ b off, A = some ⟨b, off, none⟩ ∧ b < w.heap.size ∧ ∀ i (r : Rg), R[i]? = some r → w.cell? ⟨b, off + i * 2, none⟩ = some (.int .i32 r.1) ∧ w.cell? ⟨b, off + i * 2 + 1, none⟩ = some (.int .i32 r.2)
theorem Rs.below {w w' : World} {A : Option Addr} {R : List Rg} (h : Rs w A R) (hb : Below w.heap.size w w') : Rs w' A R := fun hn => by
  obtain ⟨b, off, e, hl, hc⟩ := h hn
  exact ⟨b, off, e, Nat.lt_of_lt_of_le hl hb.size, fun i r hi => ⟨(hb.cell (p := ⟨b, off + i * 2, none⟩) hl).trans (hc i r hi).1, (hb.cell (p := ⟨b, off + i * 2 + 1, none⟩) hl).trans (hc i r hi).2⟩⟩
theorem Rs.nil (w : World) (A : Option Addr) : Rs w A [] := fun h => absurd h (by simp)
theorem Rs.get {w : World} {A : Option Addr} {R : List Rg} (h : Rs w A R) (k : Nat) (hk : k < R.length) : ∃ b off, A = some ⟨b, off, none⟩ ∧ b < w.heap.size ∧ w.cell? ⟨b, off + k * 2, none⟩ = some (.int .i32 R[k].1) ∧ w.cell? ⟨b, off + k * 2 + 1, none⟩ = some (.int .i32 R[k].2) := by
  obtain ⟨b, off, e, hl, hc⟩ := h (by omega)
  exact ⟨b, off, e, hl, hc k _ (List.getElem?_eq_getElem hk)⟩
theorem rgs_len (R : List Rg) : (rgs R).length = R.length * 2 := by
  induction R with
  | nil => rfl
  | cons r R ih => unfold rgs at ih ⊢; rw [List.flatMap_cons, List.length_append, ih, List.length_cons]; simp [rgc]; omega
theorem rgs_cons (r : Rg) (R : List Rg) : rgs (r :: R) = .int .i32 r.1 :: .int .i32 r.2 :: rgs R := rfl
theorem rgs_append (R S : List Rg) : rgs (R ++ S) = rgs R ++ rgs S := by unfold rgs; rw [List.flatMap_append]
theorem rgs_get : ∀ (R : List Rg) (i : Nat) (r : Rg), R[i]? = some r → (rgs R)[i * 2]? = some (.int .i32 r.1) ∧ (rgs R)[i * 2 + 1]? = some (.int .i32 r.2) := by
  intro R
  induction R with
  | nil => intro i r h; simp at h
  | cons a R ih =>
    intro i r h
    cases i with
    | zero => simp at h; subst h; exact ⟨rfl, rfl⟩
    | succ i =>
      rw [List.getElem?_cons_succ] at h
      have := ih i r h
      rw [rgs_cons, show (i + 1) * 2 = i * 2 + 1 + 1 by omega, List.getElem?_cons_succ, List.getElem?_cons_succ, show i * 2 + 1 + 1 + 1 = i * 2 + 1 + 1 + 1 from rfl, List.getElem?_cons_succ, List.getElem?_cons_succ]
      exact this
theorem Rs.of_own {w : World} {base n c : Nat} {e : TypeId} {A : Option Addr} {R : List Rg} (h : w.ownsRow base e 2 (.slice A n c) n (rgs R)) (hl : R.length = n) : Rs w A R := fun hn => by
  obtain ⟨g, cap, hv, _, _, hc⟩ := own_at h (by omega)
  injection hv with h1 h2 h3
  exact ⟨g, 0, h1, hc.1, fun i r hi => by
    rw [Nat.zero_add]
    have := rgs_get R i r hi
    exact ⟨hc.2 _ _ this.1, hc.2 _ _ this.2⟩⟩
theorem rgs_at : ∀ (R : List Rg) (j : Nat) (u : Value), (rgs R)[j]? = some u → ∃ r, R[j / 2]? = some r ∧ ((j % 2 = 0 ∧ u = .int .i32 r.1) ∨ (j % 2 = 1 ∧ u = .int .i32 r.2)) := by
  intro R
  induction R with
  | nil => intro j u h; simp [rgs] at h
  | cons r R ih =>
    intro j u h
    rw [rgs_cons] at h
    match j with
    | 0 => simp at h; exact ⟨r, rfl, .inl ⟨rfl, h.symm⟩⟩
    | 1 => simp at h; exact ⟨r, rfl, .inr ⟨rfl, h.symm⟩⟩
    | j + 2 =>
      rw [List.getElem?_cons_succ, List.getElem?_cons_succ] at h
      obtain ⟨r', h1, h2⟩ := ih j u h
      refine ⟨r', ?_, ?_⟩
      · rw [show (j + 2) / 2 = j / 2 + 1 by omega, List.getElem?_cons_succ]; exact h1
      · rw [show (j + 2) % 2 = j % 2 by omega]; exact h2
theorem Rs.flat {w : World} {ad : Addr} {R : List Rg} (h : Rs w (some ad) R) : ∀ (j : Nat) u, (rgs R)[j]? = some u → w.cell? (ad.add j) = some u := by
  intro j u hu
  have hj := (List.getElem?_eq_some_iff.1 hu).1
  rw [rgs_len] at hj
  obtain ⟨b, off, e, hl, hc⟩ := h (by omega)
  injection e with e
  subst e
  have hadd : (⟨b, off, none⟩ : Addr).add j = ⟨b, off + j, none⟩ := by unfold Addr.add; split <;> simp_all
  rw [hadd]
  obtain ⟨r, h1, h2⟩ := rgs_at R j u hu
  have := hc _ _ h1
  rcases h2 with ⟨h2, rfl⟩ | ⟨h2, rfl⟩
  · rw [show off + j = off + j / 2 * 2 by omega]; exact this.1
  · rw [show off + j = off + j / 2 * 2 + 1 by omega]; exact this.2
theorem rgs_one (R : List Rg) : ∀ u ∈ rgs R, u.oneCell' = true := by
  intro u hu
  obtain ⟨j, hj, rfl⟩ := List.getElem_of_mem hu
  obtain ⟨r, _, h | h⟩ := rgs_at R j _ (List.getElem?_eq_getElem hj)
  · rw [h.2]; rfl
  · rw [h.2]; rfl
theorem Rs.spot {w : World} {ba off : Nat} {R : List Rg} (h : Rs w (some ⟨ba, off, none⟩) R) (k : Nat) (hk : k < R.length) : ba < w.heap.size ∧ w.cell? ⟨ba, off + k * 2, none⟩ = some (.int .i32 R[k].1) ∧ w.cell? ⟨ba, off + k * 2 + 1, none⟩ = some (.int .i32 R[k].2) := by
  obtain ⟨b, o, e, h1, h2, h3⟩ := h.get k hk
  injection e with e
  injection e with e1 e2
  subst e1 e2
  exact ⟨h1, h2, h3⟩
end Go.Proofs.Ytoamjlnmpklcdaa
namespace Go.Proofs.Ytoamjlnmpklcdaa
open Go.RowKit Go.Lib
open Plain (Rg May mayB In Norm put1 mergeL gapF gaps)
def RightPost (R : List Rg) (w : World) (en : Ending) (w' : World) : Prop := ∃ b : Bool, en = .returned (.bool b) ∧ (b = true ↔ Norm R ∧ R.length ≤ 64) ∧ RowKit.Below w.heap.size w w'
theorem norm_snoc (R : List Rg) (p r : Rg) : Norm (R ++ [p] ++ [r]) ↔ Norm (R ++ [p]) ∧ May r ∧ p.2 + 1 < r.1 := by
  rw [Plain.Norm_append (R ++ [p]) [r], Plain.Norm_one]
  constructor
  · rintro ⟨h1, h2, h3⟩; exact ⟨h1, h2, h3 p (by simp) r (by simp)⟩
  · rintro ⟨h1, h2, h3⟩
    refine ⟨h1, h2, fun x hx s hs => ?_⟩
    simp only [List.mem_cons, List.not_mem_nil, or_false] at hs
    subst hs
    rcases List.mem_append.1 hx with e | e
    · have h4 := (Plain.Norm_append R [p]).1 h1
      have := h4.2.2 x e p (by simp)
      have := ((Plain.Norm_one p).1 h4.2.1).2.2
      omega
    · simp only [List.mem_cons, List.not_mem_nil, or_false] at e
      subst e; exact h3
theorem norm_take {R : List Rg} (h : Norm R) (k : Nat) : Norm (R.take k) := by
  have : Norm (R.take k ++ R.drop k) := by rw [List.take_append_drop]; exact h
  exact ((Plain.Norm_append _ _).1 this).1
set_option maxRecDepth 100000 in
set_option maxHeartbeats 4000000 in
theorem right_any (R : List Rg) (A : Option Addr) (n c : Nat) (w : World) (hX : Rs w A R) (hR : R.length = n) (hn : n ≤ maxLen) :
    Calls Try.prog 18 #[.slice A n c] w (RightPost R w) := by
  unfold maxLen at hn
  have HX := Lib.hid hX
  have HR := Lib.hid hR
  clear hX hR
  go_enter Try.func18, Try.ntmps18
  go_wp2
  go_loopw [7] (fun i wr => ∃ k : Nat, i = .int .i64 k ∧ k ≤ n ∧ Hid (Norm (R.take k)) ∧ RowKit.Below w.heap.size w wr) (fun i _ => n - (RowKit.intOf i).toNat)
  case atStart => exact ⟨0, rfl, Nat.zero_le _, Lib.hid trivial, RowKit.Below.refl _ _⟩
  case round =>
    obtain ⟨k, rfl, hk, HN, hB⟩ := hrel
    have HB := Lib.hid hB
    by_cases hlt : k < n
    · have hkS : k < R.length := by rw [HR.out]; exact hlt
      have hXr := HX.out.below hB
      obtain ⟨ba, off, rfl, hba, c0, c1⟩ := hXr.get k hkS
      obtain ⟨r, hr⟩ : ∃ r, R[k] = r := ⟨_, rfl⟩
      rw [hr] at c0 c1
      have htk : R.take (k + 1) = R.take k ++ [r] := by rw [List.take_succ_eq_append_getElem hkS, hr]
      obtain ⟨lo, hi⟩ := r
      dsimp only at c0 c1
      have HTK := Lib.hid htk
      obtain ⟨q, hq⟩ : ∃ q, mayB (lo, hi) = q := ⟨_, rfl⟩
      have cM := may_any lo hi
      rw [hq] at cM
      have HQ := Lib.hid hq
      have CM := Lib.hid cM
      have HXr := Lib.hid hXr
      clear hr htk hq cM hB hXr
      go_upto_region 4 with fail
      obtain ⟨wb, hwa⟩ : ∃ x, wr.alloc (.cells #[.int .i32 lo, .int .i32 hi] 46) = x := ⟨_, rfl⟩
      have hba2 : RowKit.Below wr.heap.size wr wb := by rw [← hwa]; exact (RowKit.Below.refl _ _).alloc (Nat.le_refl _) _
      have hxa : wb.heap[wr.heap.size]? = some (.cells #[.int .i32 lo, .int .i32 hi] 46 (0, 0)) := by rw [← hwa]; exact heap_alloc_new2 _ _ _ _ rfl
      rw [hwa]
      obtain ⟨x0, x1, x2, x3⟩ := box2 hxa
      have lx := lt_of_some hxa
      have HBb := Lib.hid (below_then HB.out hba2)
      have HXb := Lib.hid (HXr.out.below hba2)
      clear hwa hba2 hxa c0 c1
      cases q
      · refine wp_region_noPanic ?_
        refine wp_region_held_drew (S := (fun w' => w'.cell? ⟨wr.heap.size, 0, none⟩ = some (.int .i32 lo) ∧ w'.cell? ⟨wr.heap.size, 1, none⟩ = some (.int .i32 hi))) (by kernel_rfl) ?_ (fun hHeld => ?_)
        · (try dsimp only) <;> (first | go_keep | exact ⟨(hb9.cell (p := ⟨wr.heap.size, 0, none⟩) lx).trans x0, (hb9.cell (p := ⟨wr.heap.size, 1, none⟩) lx).trans x1⟩)
        refine wpAnyH_take (i := 0) (oi := ⟨_, _, _, _, _, _⟩) (v := ?v0q1) rfl (by kernel_rfl) (by kernel_rfl) (by kernel_rfl) (fun _ _ _ h => h) (Or.inl ⟨by rfl, ?h0q1⟩) (by assumption) ?r0q1
        case h0q1 => (intro w hSw; (try dsimp only at hSw); go_simp <;> with_reducible rfl)
        case' r0q1 => try simp only [Act.put, List.setIfInBounds_toArray, List.set_cons_zero, List.set_cons_succ]
        refine wpAnyH_ready (rs := [1]) (by kernel_rfl) (by simp) ?_
        refine AllReadyH.cons (o := ⟨_, _, _, _, _, _⟩) rfl (fun K hK => ?_) AllReadyH.nil
        rw [if_pos (by rfl)]
        (first | (first | (go_at_call 27; (with_reducible refine (CM.out _).mono ?_); rintro e w9 ⟨rfl, hb9⟩)) | (go_simp; first | ((first | (go_at_call 27; (with_reducible refine (CM.out _).mono ?_); rintro e w9 ⟨rfl, hb9⟩)); (try dsimp only)) | skip))
        refine hK.out _ _ ?_ (fun hHeld => ?_)
        · (try dsimp only) <;> (first | go_keep | exact ⟨(hb9.cell (p := ⟨wr.heap.size, 0, none⟩) lx).trans x0, (hb9.cell (p := ⟨wr.heap.size, 1, none⟩) lx).trans x1⟩)
        clear hK K
        try simp only [Act.put, List.setIfInBounds_toArray, List.set_cons_zero, List.set_cons_succ]
        refine wpAnyH_take (i := 2) (oi := ⟨_, _, _, _, _, _⟩) (v := ?v2q1) rfl (by kernel_rfl) (by kernel_rfl) (by kernel_rfl) (fun _ _ _ h => h) (Or.inl ⟨by rfl, ?h2q1⟩) (by assumption) ?r2q1
        case h2q1 => (intro w hSw; (try dsimp only at hSw); go_simp <;> with_reducible rfl)
        case' r2q1 => try simp only [Act.put, List.setIfInBounds_toArray, List.set_cons_zero, List.set_cons_succ]
        refine wpAnyH_take (i := 3) (oi := ⟨_, _, _, _, _, _⟩) (v := ?v3q1) rfl (by kernel_rfl) (by kernel_rfl) (by kernel_rfl) (fun _ _ _ h => h) (Or.inl ⟨by rfl, ?h3q1⟩) (by assumption) ?r3q1
        case h3q1 => (intro w hSw; (try dsimp only at hSw); go_simp <;> with_reducible rfl)
        case' r3q1 => try simp only [Act.put, List.setIfInBounds_toArray, List.set_cons_zero, List.set_cons_succ]
        refine wpAnyH_take (i := 4) (oi := ⟨_, _, _, _, _, _⟩) (v := undef) rfl (by kernel_rfl) (by kernel_rfl) (by kernel_rfl) (fun _ _ _ h => h) (Or.inr ⟨by rfl, rfl⟩) (by assumption) ?_
        try simp only [Act.put, List.setIfInBounds_toArray, List.set_cons_zero, List.set_cons_succ]
        refine wpAnyH_take (i := 5) (oi := ⟨_, _, _, _, _, _⟩) (v := undef) rfl (by kernel_rfl) (by kernel_rfl) (by kernel_rfl) (fun _ _ _ h => h) (Or.inr ⟨by rfl, rfl⟩) (by assumption) ?_
        try simp only [Act.put, List.setIfInBounds_toArray, List.set_cons_zero, List.set_cons_succ]
        refine wpAnyH_take (i := 6) (oi := ⟨_, _, _, _, _, _⟩) (v := undef) rfl (by kernel_rfl) (by kernel_rfl) (by kernel_rfl) (fun _ _ _ h => h) (Or.inr ⟨by rfl, rfl⟩) (by assumption) ?_
        try simp only [Act.put, List.setIfInBounds_toArray, List.set_cons_zero, List.set_cons_succ]
        refine wpAnyH_take (i := 7) (oi := ⟨_, _, _, _, _, _⟩) (v := undef) rfl (by kernel_rfl) (by kernel_rfl) (by kernel_rfl) (fun _ _ _ h => h) (Or.inr ⟨by rfl, rfl⟩) (by assumption) ?_
        try simp only [Act.put, List.setIfInBounds_toArray, List.set_cons_zero, List.set_cons_succ]
        refine wpAnyH_take (i := 8) (oi := ⟨_, _, _, _, _, _⟩) (v := undef) rfl (by kernel_rfl) (by kernel_rfl) (by kernel_rfl) (fun _ _ _ h => h) (Or.inr ⟨by rfl, rfl⟩) (by assumption) ?_
        try simp only [Act.put, List.setIfInBounds_toArray, List.set_cons_zero, List.set_cons_succ]
        refine wpAnyH_take (i := 9) (oi := ⟨_, _, _, _, _, _⟩) (v := undef) rfl (by kernel_rfl) (by kernel_rfl) (by kernel_rfl) (fun _ _ _ h => h) (Or.inr ⟨by rfl, rfl⟩) (by assumption) ?_
        try simp only [Act.put, List.setIfInBounds_toArray, List.set_cons_zero, List.set_cons_succ]
        refine wpAnyH_take (i := 10) (oi := ⟨_, _, _, _, _, _⟩) (v := undef) rfl (by kernel_rfl) (by kernel_rfl) (by kernel_rfl) (fun _ _ _ h => h) (Or.inr ⟨by rfl, rfl⟩) (by assumption) ?_
        try simp only [Act.put, List.setIfInBounds_toArray, List.set_cons_zero, List.set_cons_succ]
        refine wpAnyH_take (i := 11) (oi := ⟨_, _, _, _, _, _⟩) (v := undef) rfl (by kernel_rfl) (by kernel_rfl) (by kernel_rfl) (fun _ _ _ h => h) (Or.inr ⟨by rfl, rfl⟩) (by assumption) ?_
        try simp only [Act.put, List.setIfInBounds_toArray, List.set_cons_zero, List.set_cons_succ]
        refine wpAnyH_take (i := 12) (oi := ⟨_, _, _, _, _, _⟩) (v := undef) rfl (by kernel_rfl) (by kernel_rfl) (by kernel_rfl) (fun _ _ _ h => h) (Or.inr ⟨by rfl, rfl⟩) (by assumption) ?_
        try simp only [Act.put, List.setIfInBounds_toArray, List.set_cons_zero, List.set_cons_succ]
        refine wpAnyH_take (i := 13) (oi := ⟨_, _, _, _, _, _⟩) (v := undef) rfl (by kernel_rfl) (by kernel_rfl) (by kernel_rfl) (fun _ _ _ h => h) (Or.inr ⟨by rfl, rfl⟩) (by assumption) ?_
        try simp only [Act.put, List.setIfInBounds_toArray, List.set_cons_zero, List.set_cons_succ]
        refine wpAnyH_take (i := 14) (oi := ⟨_, _, _, _, _, _⟩) (v := undef) rfl (by kernel_rfl) (by kernel_rfl) (by kernel_rfl) (fun _ _ _ h => h) (Or.inr ⟨by rfl, rfl⟩) (by assumption) ?_
        try simp only [Act.put, List.setIfInBounds_toArray, List.set_cons_zero, List.set_cons_succ]
        refine wpAnyH_take (i := 15) (oi := ⟨_, _, _, _, _, _⟩) (v := undef) rfl (by kernel_rfl) (by kernel_rfl) (by kernel_rfl) (fun _ _ _ h => h) (Or.inr ⟨by rfl, rfl⟩) (by assumption) ?_
        try simp only [Act.put, List.setIfInBounds_toArray, List.set_cons_zero, List.set_cons_succ]
        refine wpAnyH_take (i := 16) (oi := ⟨_, _, _, _, _, _⟩) (v := undef) rfl (by kernel_rfl) (by kernel_rfl) (by kernel_rfl) (fun _ _ _ h => h) (Or.inr ⟨by rfl, rfl⟩) (by assumption) ?_
        try simp only [Act.put, List.setIfInBounds_toArray, List.set_cons_zero, List.set_cons_succ]
        refine wpAnyH_take (i := 17) (oi := ⟨_, _, _, _, _, _⟩) (v := undef) rfl (by kernel_rfl) (by kernel_rfl) (by kernel_rfl) (fun _ _ _ h => h) (Or.inr ⟨by rfl, rfl⟩) (by assumption) ?_
        try simp only [Act.put, List.setIfInBounds_toArray, List.set_cons_zero, List.set_cons_succ]
        refine wpAnyH_take (i := 18) (oi := ⟨_, _, _, _, _, _⟩) (v := ?v18q1) rfl (by kernel_rfl) (by kernel_rfl) (by kernel_rfl) (fun _ _ _ h => h) (Or.inl ⟨by rfl, ?h18q1⟩) (by assumption) ?r18q1
        case h18q1 => (intro w hSw; (try dsimp only at hSw); go_simp <;> with_reducible rfl)
        case' r18q1 => try simp only [Act.put, List.setIfInBounds_toArray, List.set_cons_zero, List.set_cons_succ]
        refine wpAnyH_done (by kernel_rfl) ?_ _
        refine NoPanic.normal ?_
        all_goals
          have HB9 := Lib.hid (below_then HBb.out (⟨hb9.os, hb9.tape, hb9.output, hb9.size, hb9.block⟩ : RowKit.Below wb.heap.size wb w9))
          clear hb9 x0 x1 x2 x3 lx
          go_wp2
          go_ret
          refine ⟨false, rfl, ⟨(fun h => by cases h), fun h => ?_⟩, HB9.out⟩
          have h1 := norm_take h.1 (k + 1)
          rw [HTK.out] at h1
          have h2 := Plain.Norm_may h1 (lo, hi) (by simp)
          have h3 := (Plain.mayB_iff (lo, hi)).2 h2
          rw [HQ.out] at h3
          cases h3
      · have hmay : May (lo, hi) := (Plain.mayB_iff _).1 HQ.out
        obtain ⟨b1, b2, b3⟩ := hmay
        dsimp only at b1 b2 b3
        cases k with
        | zero =>
          refine wp_region_noPanic ?_
          refine wp_region_held_drew (S := (fun w' => w'.cell? ⟨wr.heap.size, 0, none⟩ = some (.int .i32 lo) ∧ w'.cell? ⟨wr.heap.size, 1, none⟩ = some (.int .i32 hi))) (by kernel_rfl) ?_ (fun hHeld => ?_)
          · (try dsimp only) <;> (first | go_keep | exact ⟨(hb9.cell (p := ⟨wr.heap.size, 0, none⟩) lx).trans x0, (hb9.cell (p := ⟨wr.heap.size, 1, none⟩) lx).trans x1⟩)
          refine wpAnyH_take (i := 0) (oi := ⟨_, _, _, _, _, _⟩) (v := ?v0q2) rfl (by kernel_rfl) (by kernel_rfl) (by kernel_rfl) (fun _ _ _ h => h) (Or.inl ⟨by rfl, ?h0q2⟩) (by assumption) ?r0q2
          case h0q2 => (intro w hSw; (try dsimp only at hSw); go_simp <;> with_reducible rfl)
          case' r0q2 => try simp only [Act.put, List.setIfInBounds_toArray, List.set_cons_zero, List.set_cons_succ]
          refine wpAnyH_ready (rs := [1]) (by kernel_rfl) (by simp) ?_
          refine AllReadyH.cons (o := ⟨_, _, _, _, _, _⟩) rfl (fun K hK => ?_) AllReadyH.nil
          rw [if_pos (by rfl)]
          (first | (first | (go_at_call 27; (with_reducible refine (CM.out _).mono ?_); rintro e w9 ⟨rfl, hb9⟩)) | (go_simp; first | ((first | (go_at_call 27; (with_reducible refine (CM.out _).mono ?_); rintro e w9 ⟨rfl, hb9⟩)); (try dsimp only)) | skip))
          refine hK.out _ _ ?_ (fun hHeld => ?_)
          · (try dsimp only) <;> (first | go_keep | exact ⟨(hb9.cell (p := ⟨wr.heap.size, 0, none⟩) lx).trans x0, (hb9.cell (p := ⟨wr.heap.size, 1, none⟩) lx).trans x1⟩)
          clear hK K
          try simp only [Act.put, List.setIfInBounds_toArray, List.set_cons_zero, List.set_cons_succ]
          refine wpAnyH_take (i := 2) (oi := ⟨_, _, _, _, _, _⟩) (v := ?v2q2) rfl (by kernel_rfl) (by kernel_rfl) (by kernel_rfl) (fun _ _ _ h => h) (Or.inl ⟨by rfl, ?h2q2⟩) (by assumption) ?r2q2
          case h2q2 => (intro w hSw; (try dsimp only at hSw); go_simp <;> with_reducible rfl)
          case' r2q2 => try simp only [Act.put, List.setIfInBounds_toArray, List.set_cons_zero, List.set_cons_succ]
          refine wpAnyH_take (i := 3) (oi := ⟨_, _, _, _, _, _⟩) (v := ?v3q2) rfl (by kernel_rfl) (by kernel_rfl) (by kernel_rfl) (fun _ _ _ h => h) (Or.inl ⟨by rfl, ?h3q2⟩) (by assumption) ?r3q2
          case h3q2 => (intro w hSw; (try dsimp only at hSw); go_simp <;> with_reducible rfl)
          case' r3q2 => try simp only [Act.put, List.setIfInBounds_toArray, List.set_cons_zero, List.set_cons_succ]
          refine wpAnyH_take (i := 4) (oi := ⟨_, _, _, _, _, _⟩) (v := ?v4q2) rfl (by kernel_rfl) (by kernel_rfl) (by kernel_rfl) (fun _ _ _ h => h) (Or.inl ⟨by rfl, ?h4q2⟩) (by assumption) ?r4q2
          case h4q2 => (intro w hSw; (try dsimp only at hSw); go_simp <;> with_reducible rfl)
          case' r4q2 => try simp only [Act.put, List.setIfInBounds_toArray, List.set_cons_zero, List.set_cons_succ]
          refine wpAnyH_take (i := 5) (oi := ⟨_, _, _, _, _, _⟩) (v := ?v5q2) rfl (by kernel_rfl) (by kernel_rfl) (by kernel_rfl) (fun _ _ _ h => h) (Or.inl ⟨by rfl, ?h5q2⟩) (by assumption) ?r5q2
          case h5q2 => (intro w hSw; (try dsimp only at hSw); go_simp <;> with_reducible rfl)
          case' r5q2 => try simp only [Act.put, List.setIfInBounds_toArray, List.set_cons_zero, List.set_cons_succ]
          refine wpAnyH_take (i := 6) (oi := ⟨_, _, _, _, _, _⟩) (v := ?v6q2) rfl (by kernel_rfl) (by kernel_rfl) (by kernel_rfl) (fun _ _ _ h => h) (Or.inl ⟨by rfl, ?h6q2⟩) (by assumption) ?r6q2
          case h6q2 => (intro w hSw; (try dsimp only at hSw); go_simp <;> with_reducible rfl)
          case' r6q2 => try simp only [Act.put, List.setIfInBounds_toArray, List.set_cons_zero, List.set_cons_succ]
          refine wpAnyH_take (i := 7) (oi := ⟨_, _, _, _, _, _⟩) (v := undef) rfl (by kernel_rfl) (by kernel_rfl) (by kernel_rfl) (fun _ _ _ h => h) (Or.inr ⟨by rfl, rfl⟩) (by assumption) ?_
          try simp only [Act.put, List.setIfInBounds_toArray, List.set_cons_zero, List.set_cons_succ]
          refine wpAnyH_take (i := 8) (oi := ⟨_, _, _, _, _, _⟩) (v := undef) rfl (by kernel_rfl) (by kernel_rfl) (by kernel_rfl) (fun _ _ _ h => h) (Or.inr ⟨by rfl, rfl⟩) (by assumption) ?_
          try simp only [Act.put, List.setIfInBounds_toArray, List.set_cons_zero, List.set_cons_succ]
          refine wpAnyH_take (i := 9) (oi := ⟨_, _, _, _, _, _⟩) (v := undef) rfl (by kernel_rfl) (by kernel_rfl) (by kernel_rfl) (fun _ _ _ h => h) (Or.inr ⟨by rfl, rfl⟩) (by assumption) ?_
          try simp only [Act.put, List.setIfInBounds_toArray, List.set_cons_zero, List.set_cons_succ]
          refine wpAnyH_take (i := 10) (oi := ⟨_, _, _, _, _, _⟩) (v := undef) rfl (by kernel_rfl) (by kernel_rfl) (by kernel_rfl) (fun _ _ _ h => h) (Or.inr ⟨by rfl, rfl⟩) (by assumption) ?_
          try simp only [Act.put, List.setIfInBounds_toArray, List.set_cons_zero, List.set_cons_succ]
          refine wpAnyH_take (i := 11) (oi := ⟨_, _, _, _, _, _⟩) (v := undef) rfl (by kernel_rfl) (by kernel_rfl) (by kernel_rfl) (fun _ _ _ h => h) (Or.inr ⟨by rfl, rfl⟩) (by assumption) ?_
          try simp only [Act.put, List.setIfInBounds_toArray, List.set_cons_zero, List.set_cons_succ]
          refine wpAnyH_take (i := 12) (oi := ⟨_, _, _, _, _, _⟩) (v := undef) rfl (by kernel_rfl) (by kernel_rfl) (by kernel_rfl) (fun _ _ _ h => h) (Or.inr ⟨by rfl, rfl⟩) (by assumption) ?_
          try simp only [Act.put, List.setIfInBounds_toArray, List.set_cons_zero, List.set_cons_succ]
          refine wpAnyH_take (i := 13) (oi := ⟨_, _, _, _, _, _⟩) (v := undef) rfl (by kernel_rfl) (by kernel_rfl) (by kernel_rfl) (fun _ _ _ h => h) (Or.inr ⟨by rfl, rfl⟩) (by assumption) ?_
          try simp only [Act.put, List.setIfInBounds_toArray, List.set_cons_zero, List.set_cons_succ]
          refine wpAnyH_take (i := 14) (oi := ⟨_, _, _, _, _, _⟩) (v := undef) rfl (by kernel_rfl) (by kernel_rfl) (by kernel_rfl) (fun _ _ _ h => h) (Or.inr ⟨by rfl, rfl⟩) (by assumption) ?_
          try simp only [Act.put, List.setIfInBounds_toArray, List.set_cons_zero, List.set_cons_succ]
          refine wpAnyH_take (i := 15) (oi := ⟨_, _, _, _, _, _⟩) (v := undef) rfl (by kernel_rfl) (by kernel_rfl) (by kernel_rfl) (fun _ _ _ h => h) (Or.inr ⟨by rfl, rfl⟩) (by assumption) ?_
          try simp only [Act.put, List.setIfInBounds_toArray, List.set_cons_zero, List.set_cons_succ]
          refine wpAnyH_take (i := 16) (oi := ⟨_, _, _, _, _, _⟩) (v := undef) rfl (by kernel_rfl) (by kernel_rfl) (by kernel_rfl) (fun _ _ _ h => h) (Or.inr ⟨by rfl, rfl⟩) (by assumption) ?_
          try simp only [Act.put, List.setIfInBounds_toArray, List.set_cons_zero, List.set_cons_succ]
          refine wpAnyH_take (i := 17) (oi := ⟨_, _, _, _, _, _⟩) (v := ?v17q2) rfl (by kernel_rfl) (by kernel_rfl) (by kernel_rfl) (fun _ _ _ h => h) (Or.inl ⟨by rfl, ?h17q2⟩) (by assumption) ?r17q2
          case h17q2 => (intro w hSw; (try dsimp only at hSw); go_simp <;> with_reducible rfl)
          case' r17q2 => try simp only [Act.put, List.setIfInBounds_toArray, List.set_cons_zero, List.set_cons_succ]
          refine wpAnyH_take (i := 18) (oi := ⟨_, _, _, _, _, _⟩) (v := ?v18q2) rfl (by kernel_rfl) (by kernel_rfl) (by kernel_rfl) (fun _ _ _ h => h) (Or.inl ⟨by rfl, ?h18q2⟩) (by assumption) ?r18q2
          case h18q2 => (intro w hSw; (try dsimp only at hSw); go_simp <;> with_reducible rfl)
          case' r18q2 => try simp only [Act.put, List.setIfInBounds_toArray, List.set_cons_zero, List.set_cons_succ]
          refine wpAnyH_done (by kernel_rfl) ?_ _
          refine NoPanic.normal ?_
          all_goals
            have HB9 := Lib.hid (below_then HBb.out (⟨hb9.os, hb9.tape, hb9.output, hb9.size, hb9.block⟩ : RowKit.Below wb.heap.size wb w9))
            clear hb9 x0 x1 x2 x3 lx
            go_wp2
            go_roundw
            case rel => exact ⟨1, rfl, by omega, Lib.hid (by rw [HTK.out]; exact (Plain.Norm_one _).2 ⟨b1, b2, b3⟩), HB9.out⟩
            case measure => simp [RowKit.intOf]; omega
        | succ j =>
          have hjS : j < R.length := by omega
          obtain ⟨ba2, off2, hA2, hbb, p0, p1⟩ := HXb.out.get j hjS
          injection hA2 with hA2
          injection hA2 with e1 e2 e3
          subst e1 e2
          clear e3
          obtain ⟨p, hp⟩ : ∃ p, R[j] = p := ⟨_, rfl⟩
          rw [hp] at p0 p1
          have htj : R.take (j + 1) = R.take j ++ [p] := by rw [List.take_succ_eq_append_getElem hjS, hp]
          have hpm : May p := Plain.Norm_may HN.out p (by rw [htj]; simp)
          obtain ⟨pl, ph⟩ := p
          obtain ⟨d1, d2, d3⟩ := hpm
          dsimp only at p0 p1 d1 d2 d3
          have HTJ := Lib.hid htj
          have hw1 : IntKind.i64.wrap (((j + 1 : Nat) : Int) - 1) = (j : Int) := by rw [IntKind.wrap_i64]; omega
          have hw11 : ((j + 1 : Nat) : Int) - 1 = (j : Int) := by omega
          obtain ⟨kk, hkk⟩ : ∃ kk, j + 1 = kk := ⟨_, rfl⟩
          rw [hkk] at hw1 hw11 hk hlt ⊢
          have HKK := Lib.hid hkk
          have hj0 : (0 : Int) ≤ (j : Int) := by omega
          have hj1 : (j : Int) < (n : Int) := by omega
          have hw3 : IntKind.i64.wrap (j : Int) = (j : Int) := by rw [IntKind.wrap_i64]; omega
          have hw2 : IntKind.i32.wrap (ph + 1) = ph + 1 := by rw [IntKind.wrap_i32]; omega
          have hk0 : decide ((0 : Int) < (kk : Int)) = true := by simp; omega
          have hk00 : decide (0 < kk) = true := by simp; omega
          clear hp htj hkk
          by_cases hc : lo ≤ ph + 1
          · have dc : decide (lo ≤ ph + 1) = true := by simp [hc]
            go_region_held3 (fun w' => w'.cell? ⟨wr.heap.size, 0, none⟩ = some (.int .i32 lo) ∧ w'.cell? ⟨wr.heap.size, 1, none⟩ = some (.int .i32 hi) ∧ w'.cell? ⟨ba, off + j * 2 + 1, none⟩ = some (.int .i32 ph)) (first | go_keep | exact ⟨(hb9.cell (p := ⟨wr.heap.size, 0, none⟩) lx).trans x0, (hb9.cell (p := ⟨wr.heap.size, 1, none⟩) lx).trans x1, (hb9.cell (p := ⟨ba, off + j * 2 + 1, none⟩) hbb).trans p1⟩) (first | (go_at_call 27; (with_reducible refine (CM.out _).mono ?_); rintro e w9 ⟨rfl, hb9⟩))
            all_goals
              have HB9 := Lib.hid (below_then HBb.out (⟨hb9.os, hb9.tape, hb9.output, hb9.size, hb9.block⟩ : RowKit.Below wb.heap.size wb w9))
              clear hb9 x0 x1 x2 x3 lx p0 p1
              go_wp2
              go_ret
              refine ⟨false, rfl, ⟨(fun h => by cases h), fun h => ?_⟩, HB9.out⟩
              have h1 := norm_take h.1 (j + 1 + 1)
              rw [HTK.out, HTJ.out, norm_snoc] at h1
              have h2 : ph + 1 < lo := h1.2.2
              omega
          · have dc : decide (lo ≤ ph + 1) = false := by simp; omega
            go_region_held3 (fun w' => w'.cell? ⟨wr.heap.size, 0, none⟩ = some (.int .i32 lo) ∧ w'.cell? ⟨wr.heap.size, 1, none⟩ = some (.int .i32 hi) ∧ w'.cell? ⟨ba, off + j * 2 + 1, none⟩ = some (.int .i32 ph)) (first | go_keep | exact ⟨(hb9.cell (p := ⟨wr.heap.size, 0, none⟩) lx).trans x0, (hb9.cell (p := ⟨wr.heap.size, 1, none⟩) lx).trans x1, (hb9.cell (p := ⟨ba, off + j * 2 + 1, none⟩) hbb).trans p1⟩) (first | (go_at_call 27; (with_reducible refine (CM.out _).mono ?_); rintro e w9 ⟨rfl, hb9⟩))
            all_goals
              have HB9 := Lib.hid (below_then HBb.out (⟨hb9.os, hb9.tape, hb9.output, hb9.size, hb9.block⟩ : RowKit.Below wb.heap.size wb w9))
              clear hb9 x0 x1 x2 x3 lx p0 p1
              go_wp2
              go_roundw
              case rel => exact ⟨kk + 1, by go_num, by omega, Lib.hid (by rw [← HKK.out, HTK.out, HTJ.out, norm_snoc]; exact ⟨by rw [← HTJ.out]; exact HN.out, ⟨b1, b2, b3⟩, by show ph + 1 < lo; omega⟩), HB9.out⟩
              case measure => simp [RowKit.intOf]; omega
    · obtain rfl : k = n := by omega
      have hT : R.take k = R := List.take_of_length_le (by rw [HR.out]; exact Nat.le_refl _)
      clear hB
      by_cases h64 : k ≤ 64
      · have d1 : decide ((k : Int) ≤ 64) = true := by simp; omega
        have HT := Lib.hid hT
        clear hT
        go_wp2
        go_ret
        exact ⟨true, rfl, ⟨fun _ => ⟨by have := HN.out; rw [HT.out] at this; exact this, by rw [HR.out]; exact h64⟩, fun _ => rfl⟩, HB.out⟩
      · have d1 : decide ((k : Int) ≤ 64) = false := by simp; omega
        have HT := Lib.hid hT
        clear hT
        go_wp2
        go_ret
        exact ⟨false, rfl, ⟨(fun h => by cases h), fun h => absurd h.2 (by rw [HR.out]; exact h64)⟩, HB.out⟩
end Go.Proofs.Ytoamjlnmpklcdaa
