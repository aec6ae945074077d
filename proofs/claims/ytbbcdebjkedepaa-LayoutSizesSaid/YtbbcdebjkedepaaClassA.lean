/- Chapter 4: may, the closures, the first that may not be, ranges that lie somewhere, an owned row cleared: what the code computes. Conditions: what each lemma says. -/
import Derived.Test.YtbbcdebjkedepaaKit
import Derived.Test.YtbbcdebjkedepaaClassP
import Derived.BigQuiet
import Derived.Deep.QuietTactic
import Derived.Deep.RegionHeld3
import Derived.Laws.CopyOwn
import Derived.Laws.CopyRow
import Derived.Lib.Small
set_option linter.unusedVariables false
set_option linter.unusedSimpArgs false
namespace Go.Proofs.Ytbbcdebjkedepaa
open Go.RowKit Go.Lib
open Plain (Rg May mayB In Norm put1 mergeL)
/-- a range's value, a row of ranges as cells -/
def rgV (r : Rg) : Value := .agg #[.int .i32 r.1, .int .i32 r.2]
def rgc (r : Rg) : List Value := [.int .i32 r.1, .int .i32 r.2]
def rgs (R : List Rg) : List Value := R.flatMap rgc
theorem may_any (lo hi : Int) (w : World) : Calls Try.prog 51 #[.agg #[.int .i32 lo, .int .i32 hi]] w fun e w' => e = .returned (.bool (mayB (lo, hi))) ∧ Below w.heap.size w w' := by
  unfold mayB
  dsimp only
  by_cases h1 : 0 ≤ lo
  · by_cases h2 : hi ≤ 1114111
    · by_cases h3 : lo ≤ hi
      · have d1 : decide (0 ≤ lo) = true := by simp [h1]
        have d2 : decide (hi ≤ 1114111) = true := by simp [h2]
        have d3 : decide (lo ≤ hi) = true := by simp [h3]
        go_enter Try.func51, Try.ntmps51
        go_wp2
        go_ret
        exact ⟨ret_bool (by simp [*]), (Below.refl _ _).alloc (Nat.le_refl _) _⟩
      · have d1 : decide (0 ≤ lo) = true := by simp [h1]
        have d2 : decide (hi ≤ 1114111) = true := by simp [h2]
        have d3 : decide (lo ≤ hi) = false := by simp; omega
        go_enter Try.func51, Try.ntmps51
        go_wp2
        go_ret
        exact ⟨ret_bool (by simp [*]), (Below.refl _ _).alloc (Nat.le_refl _) _⟩
    · have d1 : decide (0 ≤ lo) = true := by simp [h1]
      have d2 : decide (hi ≤ 1114111) = false := by simp; omega
      go_enter Try.func51, Try.ntmps51
      go_wp2
      go_ret
      exact ⟨ret_bool (by simp [*]), (Below.refl _ _).alloc (Nat.le_refl _) _⟩
  · have d1 : decide (0 ≤ lo) = false := by simp; omega
    go_enter Try.func51, Try.ntmps51
    go_wp2
    go_ret
    exact ⟨ret_bool (by simp [*]), (Below.refl _ _).alloc (Nat.le_refl _) _⟩
theorem notmay_any (lo hi : Int) (w : World) : Calls Try.prog 59 #[.agg #[.int .i32 lo, .int .i32 hi]] w fun e w' => e = .returned (.bool (!mayB (lo, hi))) ∧ Below w.heap.size w w' := by
  have cM := may_any lo hi
  obtain ⟨b, hb⟩ : ∃ b, mayB (lo, hi) = b := ⟨_, rfl⟩
  rw [hb] at cM ⊢
  have CM := Lib.hid cM
  clear cM hb
  go_enter Try.func59, Try.ntmps59
  go_wp2_with fail
  refine (CM.out _).mono ?_
  rintro en w1 ⟨rfl, h⟩
  have HB := Lib.hid (below_then (below_alloc (Below.refl _ _) _) h)
  clear h
  cases b
  all_goals
    go_wp2
    go_ret
    exact ⟨rfl, HB.out⟩
theorem nan_any (x : Int) (w : World) : Calls Try.prog 66 #[.int .i32 x] w fun e w' => e = .returned (.bool false) ∧ w = w' := by
  go_enter Try.func66, Try.ntmps66
  go_wp2
  go_ret
  exact ⟨rfl, rfl⟩
theorem compare_any (x y : Int) (w : World) : Calls Try.prog 62 #[.int .i32 x, .int .i32 y] w fun e w' => e = .returned (.int .i64 (Lib.compareInt x y)) ∧ w = w' := by
  unfold Lib.compareInt
  have cN := fun x w => nan_any x w
  rcases Int.lt_trichotomy x y with h | h | h
  · have d1 : decide (x < y) = true := by simp [h]
    go_enter Try.func62, Try.ntmps62
    go_wp2_with (go_at_call 66; (with_reducible refine (cN _ _).mono ?_); rintro e w' ⟨rfl, rfl⟩)
    go_ret
    exact ⟨ret_int (by simp [h]), rfl⟩
  · subst h
    have d1 : decide (x < x) = false := by simp
    go_enter Try.func62, Try.ntmps62
    go_wp2_with (go_at_call 66; (with_reducible refine (cN _ _).mono ?_); rintro e w' ⟨rfl, rfl⟩)
    go_ret
    exact ⟨ret_int (by simp), rfl⟩
  · have d1 : decide (x < y) = false := by simp; omega
    have d2 : decide (y < x) = true := by simp [h]
    go_enter Try.func62, Try.ntmps62
    go_wp2_with (go_at_call 66; (with_reducible refine (cN _ _).mono ?_); rintro e w' ⟨rfl, rfl⟩)
    go_ret
    exact ⟨rfl, rfl⟩
theorem cmp_any (a b c d : Int) (w : World) : Calls Try.prog 61 #[.agg #[.int .i32 a, .int .i32 b], .agg #[.int .i32 c, .int .i32 d]] w fun e w' => e = .returned (.int .i64 (Lib.compareInt a c)) ∧ Below w.heap.size w w' := by
  have cC := fun w => compare_any a c w
  obtain ⟨z, hz⟩ : ∃ z, Lib.compareInt a c = z := ⟨_, rfl⟩
  rw [hz] at cC ⊢
  have CC := Lib.hid cC
  clear cC hz
  go_enter Try.func61, Try.ntmps61
  go_wp2_with (go_at_call 62; (with_reducible refine (CC.out _).mono ?_); rintro e w' ⟨rfl, rfl⟩)
  go_ret
  exact ⟨rfl, ((Below.refl _ _).alloc (Nat.le_refl _) _).alloc (by simp) _⟩
end Go.Proofs.Ytbbcdebjkedepaa
namespace Go.Proofs.Ytbbcdebjkedepaa
open Go.RowKit Go.Lib
open Plain (Rg May mayB In Norm put1 mergeL)
/-- ranges that lie somewhere -/
def Rs (w : World) (A : Option Addr) (R : List Rg) : Prop :=
  0 < R.length → ∃ b off, A = some ⟨b, off, none⟩ ∧ b < w.heap.size ∧ ∀ i (r : Rg), R[i]? = some r → w.cell? ⟨b, off + i * 2, none⟩ = some (.int .i32 r.1) ∧ w.cell? ⟨b, off + i * 2 + 1, none⟩ = some (.int .i32 r.2)
theorem Rs.below {w w' : World} {A : Option Addr} {R : List Rg} (h : Rs w A R) (hb : Below w.heap.size w w') : Rs w' A R := fun hn => by
  obtain ⟨b, off, e, hl, hc⟩ := h hn
  exact ⟨b, off, e, Nat.lt_of_lt_of_le hl hb.size, fun i r hi => ⟨(hb.cell (p := ⟨b, off + i * 2, none⟩) hl).trans (hc i r hi).1, (hb.cell (p := ⟨b, off + i * 2 + 1, none⟩) hl).trans (hc i r hi).2⟩⟩
theorem Rs.nil (w : World) (A : Option Addr) : Rs w A [] := fun h => absurd h (by simp)
theorem Rs.get {w : World} {A : Option Addr} {R : List Rg} (h : Rs w A R) (k : Nat) (hk : k < R.length) : ∃ b off, A = some ⟨b, off, none⟩ ∧ b < w.heap.size ∧ w.cell? ⟨b, off + k * 2, none⟩ = some (.int .i32 R[k].1) ∧ w.cell? ⟨b, off + k * 2 + 1, none⟩ = some (.int .i32 R[k].2) := by
  obtain ⟨b, off, e, hl, hc⟩ := h (by omega)
  exact ⟨b, off, e, hl, hc k _ (List.getElem?_eq_getElem hk)⟩
theorem rgs_len (R : List Rg) : (rgs R).length = R.length * 2 := by
  induction R with
  | nil => rfl
  | cons r R ih => unfold rgs at ih ⊢; rw [List.flatMap_cons, List.length_append, ih, List.length_cons]; simp [rgc]; omega
theorem rgs_cons (r : Rg) (R : List Rg) : rgs (r :: R) = .int .i32 r.1 :: .int .i32 r.2 :: rgs R := rfl
theorem rgs_append (R S : List Rg) : rgs (R ++ S) = rgs R ++ rgs S := by unfold rgs; rw [List.flatMap_append]
theorem rgs_get : ∀ (R : List Rg) (i : Nat) (r : Rg), R[i]? = some r → (rgs R)[i * 2]? = some (.int .i32 r.1) ∧ (rgs R)[i * 2 + 1]? = some (.int .i32 r.2) := by
  intro R
  induction R with
  | nil => intro i r h; simp at h
  | cons a R ih =>
    intro i r h
    cases i with
    | zero => simp at h; subst h; exact ⟨rfl, rfl⟩
    | succ i =>
      rw [List.getElem?_cons_succ] at h
      have := ih i r h
      rw [rgs_cons, show (i + 1) * 2 = i * 2 + 1 + 1 by omega, List.getElem?_cons_succ, List.getElem?_cons_succ, show i * 2 + 1 + 1 + 1 = i * 2 + 1 + 1 + 1 from rfl, List.getElem?_cons_succ, List.getElem?_cons_succ]
      exact this
theorem Rs.of_own {w : World} {base n c : Nat} {e : TypeId} {A : Option Addr} {R : List Rg} (h : w.ownsRow base e 2 (.slice A n c) n (rgs R)) (hl : R.length = n) : Rs w A R := fun hn => by
  obtain ⟨g, cap, hv, _, _, hc⟩ := own_at h (by omega)
  injection hv with h1 h2 h3
  exact ⟨g, 0, h1, hc.1, fun i r hi => by
    rw [Nat.zero_add]
    have := rgs_get R i r hi
    exact ⟨hc.2 _ _ this.1, hc.2 _ _ this.2⟩⟩
/-- the first place where it holds, or -1 -/
def idx (p : Rg → Bool) (R : List Rg) : Int := if R.any p then (R.findIdx p : Nat) else -1
theorem idx_some (p : Rg → Bool) (R : List Rg) (k : Nat) (hk : k < R.length) (h : ∀ j (hj : j < R.length), j < k → p R[j] = false) (hp : p R[k] = true) : idx p R = k := by
  have h1 : R.any p = true := List.any_eq_true.2 ⟨R[k], List.getElem_mem hk, hp⟩
  unfold idx
  rw [if_pos h1]
  congr 1
  rw [List.findIdx_eq hk]
  exact ⟨hp, fun j hj => h j (by omega) hj⟩
theorem idx_none (p : Rg → Bool) (R : List Rg) (h : ∀ j (hj : j < R.length), p R[j] = false) : idx p R = -1 := by
  unfold idx
  rw [if_neg]
  intro h1
  obtain ⟨x, hx, hp⟩ := List.any_eq_true.1 h1
  obtain ⟨j, hj, rfl⟩ := List.getElem_of_mem hx
  rw [h j hj] at hp; cases hp
set_option maxRecDepth 100000 in
set_option maxHeartbeats 1000000 in
theorem idx76_any (R : List Rg) (A : Option Addr) (cap : Nat) (w : World) (hX : Rs w A R) (hn : R.length ≤ maxLen) :
    Calls Try.prog 63 #[.slice A R.length cap, .func (Fn.func 59) #[] #[]] w fun e w' => e = .returned (.int .i64 (idx (fun r => !mayB r) R)) ∧ Below w.heap.size w w' := by
  unfold maxLen at hn
  obtain ⟨n, hN⟩ : ∃ n, R.length = n := ⟨_, rfl⟩
  have HX := Lib.hid hX
  have HNN := Lib.hid hN
  rw [hN] at hn ⊢
  clear hX hN
  go_enter Try.func63, Try.ntmps63
  go_wp2
  go_loopw [5, 8] (fun _ i wr => ∃ k : Nat, k ≤ n ∧ i = .int .i64 k ∧ Hid (∀ j (hj : j < R.length), j < k → (!mayB R[j]) = false) ∧ Below w.heap.size w wr) (fun _ i _ => n - (RowKit.intOf i).toNat)
  case atStart => exact ⟨0, Nat.zero_le _, rfl, Lib.hid (fun j _ h => absurd h (by omega)), Below.refl _ _⟩
  case round =>
    obtain ⟨k, hk, rfl, HA, hB⟩ := hrel
    by_cases hlt : k < n
    · have hkl : k < R.length := by rw [HNN.out]; exact hlt
      obtain ⟨ba, off, rfl, hba, c0, c1⟩ := (HX.out.below hB).get k hkl
      obtain ⟨r, hr⟩ : ∃ r, R[k] = r := ⟨_, rfl⟩
      rw [hr] at c0 c1
      obtain ⟨lo, hi⟩ := r
      dsimp only at c0 c1
      have HR := Lib.hid hr
      obtain ⟨q, hq⟩ : ∃ q, (!mayB (lo, hi)) = q := ⟨_, rfl⟩
      have cS := fun (W : World) => notmay_any lo hi W
      rw [hq] at cS
      have HQ := Lib.hid hq
      have HS := Lib.hid cS
      clear hq cS hr
      cases q
      · go_wp2_with (go_at_call 59; refine (HS.out _).mono ?_; rintro e w' ⟨rfl, hb1⟩)
        go_roundw
        case rel =>
          refine ⟨k + 1, by omega, by go_num, Lib.hid (fun j hj hjk => ?_), hB.trans ((by assumption : Below wr.heap.size wr _).mono hB.size)⟩
          rcases Nat.lt_or_ge j k with h | h
          · exact HA.out j hj h
          · obtain rfl : j = k := by omega
            rw [HR.out]; exact HQ.out
        case measure => simp [RowKit.intOf]; omega
      · have hv := idx_some (fun r => !mayB r) R k hkl HA.out (by rw [HR.out]; exact HQ.out)
        have HV := Lib.hid hv
        clear hv
        go_wp2_with (go_at_call 59; refine (HS.out _).mono ?_; rintro e w' ⟨rfl, hb1⟩)
        go_ret
        exact ⟨ret_int HV.out.symm, hB.trans ((by assumption : Below wr.heap.size wr _).mono hB.size)⟩
    · obtain rfl : n = k := by omega
      have hv := idx_none (fun r => !mayB r) R (fun j hj => HA.out j hj (by rw [← HNN.out]; exact hj))
      have HV := Lib.hid hv
      clear hv
      go_wp2
      go_ret
      exact ⟨ret_int HV.out.symm, hB⟩
end Go.Proofs.Ytbbcdebjkedepaa
namespace Go.Proofs.Ytbbcdebjkedepaa
open Go.RowKit Go.Lib
open Plain (Rg May mayB In Norm put1 mergeL)
theorem info82 : (Try.prog.info? 86).map (fun i => (i.zero, i.size, i.bytes)) = some (some (.agg #[.int .i32 0, .int .i32 0]), 2, 8) := by kernel_rfl
theorem zero82 (w : World) : (zeroValue 86).run Try.prog w = .ok (.agg #[.int .i32 0, .int .i32 0]) w := by kernel_rfl
/-- the rest of an owned row is cleared -/
theorem clear_own {w : World} {base g n cap : Nat} {xs : List Value} (h : w.ownsRow base 86 2 (.slice (some ⟨g, 0, none⟩) n cap) n xs) (i c : Nat) (hi : i < n) (ty : TypeId) :
    ∃ w', (Builtin.clear_ #[73] ty #[.slice (some ⟨g, i * 2, none⟩) (n - i) c]).run Try.prog w = .ok (.tuple #[]) w' ∧ w'.ownsRow base 86 2 (.slice (some ⟨g, 0, none⟩) i cap) i (xs.take (i * 2)) ∧ Below base w w' := by
  have hl := h.1
  rcases h.2 with ⟨hv, _⟩ | ⟨g', cap', cur, hv, hbg, hg, hnc, hcm, hcs, htake⟩
  · cases hv
  · injection hv with h1 h2 h3
    injection h1 with h1
    injection h1 with h1
    subst h1 h3
    have hz : (Builtin.zeroCells (Value.agg #[.int .i32 0, .int .i32 0]).cells (n - i)).toList.length = (n - i) * 2 := by simp [Builtin.zeroCells, Value.cells]
    have h1c : ∀ v ∈ (Builtin.zeroCells (Value.agg #[.int .i32 0, .int .i32 0]).cells (n - i)).toList, v.oneCell' = true := by
      intro v hv
      simp [Builtin.zeroCells, Value.cells] at hv
      obtain ⟨a, _, rfl⟩ := hv
      rcases Nat.mod_two_eq_zero_or_one a with e | e <;> rw [e] <;> rfl
    have hst := run_storeCells_at Try.prog g (i * 2) 86 (Builtin.zeroCells (Value.agg #[.int .i32 0, .int .i32 0]).cells (n - i)).toList 0 cur w hg (by rw [hz]; omega) h1c
    obtain ⟨Z, hZ⟩ : ∃ Z, (Builtin.zeroCells (Value.agg #[.int .i32 0, .int .i32 0]).cells (n - i)).toList = Z := ⟨_, rfl⟩
    rw [hZ] at hst hz
    have hrow := setRow_heap w g cur ((cur.toList.take (i * 2 + 0) ++ Z ++ cur.toList.drop (i * 2 + 0 + Z.length)).toArray) 86 (0, 0) hg
    refine ⟨w.setRow g ((cur.toList.take (i * 2 + 0) ++ Z ++ cur.toList.drop (i * 2 + 0 + Z.length)).toArray), ?_, ?_, below_setRow (Below.refl _ _) hbg _⟩
    · obtain ⟨m, hm⟩ : ∃ m, n - i = m + 1 := ⟨n - i - 1, by omega⟩
      rw [hm] at hZ ⊢
      simp only [Builtin.clear_, Sem.run_bind, run_underlying Try.underlying73, Result.andThen_ok]
      simp [zero82, hZ, hst]
    · refine ⟨by rw [List.length_take, hl]; omega, .inr ⟨g, cap, _, rfl, hbg, hrow, by omega, hcm, ?_, ?_⟩⟩
      · simp only [List.size_toArray, List.length_append, List.length_take, List.length_drop, Array.length_toList]
        omega
      · simp only [Nat.add_zero]
        rw [List.append_assoc, List.take_append_of_le_length (by rw [List.length_take, Array.length_toList]; omega), List.take_take, Nat.min_self, ← htake, List.take_take, Nat.min_eq_left (by omega)]
end Go.Proofs.Ytbbcdebjkedepaa
