/- The class functions. Conditions: what each lemma says. -/
import Derived.Test.YtgppobaoclfgcaaGreatDoorKit
import Derived.Test.YtgppobaoclfgcaaGreatDoorClassP
import Derived.BigQuiet
import Derived.Deep.QuietTactic
import Derived.Deep.RegionHeld3
import Derived.Laws.CopyOwn
import Derived.Laws.CopyRow
import Derived.Lib.Small
import Derived.ArgAppend
set_option linter.unusedVariables false
set_option linter.unusedSimpArgs false
namespace Go.Proofs.YtgppobaoclfgcaaGreatDoor
open Go.RowKit Go.Lib
open Plain (Rg May mayB In Norm put1 mergeL)
/-- a range's value, a row of ranges as cells -/
def rgV (r : Rg) : Value := .agg #[.int .i32 r.1, .int .i32 r.2]
def rgc (r : Rg) : List Value := [.int .i32 r.1, .int .i32 r.2]
def rgs (R : List Rg) : List Value := R.flatMap rgc
theorem may_any (lo hi : Int) (w : World) : Calls Tryz.prog 57 #[.agg #[.int .i32 lo, .int .i32 hi]] w fun e w' => e = .returned (.bool (mayB (lo, hi))) ∧ Below w.heap.size w w' := by
  unfold mayB
  dsimp only
  by_cases h1 : 0 ≤ lo
  · by_cases h2 : hi ≤ 1114111
    · by_cases h3 : lo ≤ hi
      · have d1 : decide (0 ≤ lo) = true := by simp [h1]
        have d2 : decide (hi ≤ 1114111) = true := by simp [h2]
        have d3 : decide (lo ≤ hi) = true := by simp [h3]
        go_enter Tryz.func57, Tryz.ntmps57
        go_wp2
        go_ret
        exact ⟨ret_bool (by simp [*]), (Below.refl _ _).alloc (Nat.le_refl _) _⟩
      · have d1 : decide (0 ≤ lo) = true := by simp [h1]
        have d2 : decide (hi ≤ 1114111) = true := by simp [h2]
        have d3 : decide (lo ≤ hi) = false := by simp; omega
        go_enter Tryz.func57, Tryz.ntmps57
        go_wp2
        go_ret
        exact ⟨ret_bool (by simp [*]), (Below.refl _ _).alloc (Nat.le_refl _) _⟩
    · have d1 : decide (0 ≤ lo) = true := by simp [h1]
      have d2 : decide (hi ≤ 1114111) = false := by simp; omega
      go_enter Tryz.func57, Tryz.ntmps57
      go_wp2
      go_ret
      exact ⟨ret_bool (by simp [*]), (Below.refl _ _).alloc (Nat.le_refl _) _⟩
  · have d1 : decide (0 ≤ lo) = false := by simp; omega
    go_enter Tryz.func57, Tryz.ntmps57
    go_wp2
    go_ret
    exact ⟨ret_bool (by simp [*]), (Below.refl _ _).alloc (Nat.le_refl _) _⟩
theorem notmay_any (lo hi : Int) (w : World) : Calls Tryz.prog 71 #[.agg #[.int .i32 lo, .int .i32 hi]] w fun e w' => e = .returned (.bool (!mayB (lo, hi))) ∧ Below w.heap.size w w' := by
  have cM := may_any lo hi
  obtain ⟨b, hb⟩ : ∃ b, mayB (lo, hi) = b := ⟨_, rfl⟩
  rw [hb] at cM ⊢
  have CM := Lib.hid cM
  clear cM hb
  go_enter Tryz.func71, Tryz.ntmps71
  go_wp2_with fail
  refine (CM.out _).mono ?_
  rintro en w1 ⟨rfl, h⟩
  have HB := Lib.hid (below_then (below_alloc (Below.refl _ _) _) h)
  clear h
  cases b
  all_goals
    go_wp2
    go_ret
    exact ⟨rfl, HB.out⟩
theorem nan_any (x : Int) (w : World) : Calls Tryz.prog 108 #[.int .i32 x] w fun e w' => e = .returned (.bool false) ∧ w = w' := by
  go_enter Tryz.func108, Tryz.ntmps108
  go_wp2
  go_ret
  exact ⟨rfl, rfl⟩
theorem compare_any (x y : Int) (w : World) : Calls Tryz.prog 74 #[.int .i32 x, .int .i32 y] w fun e w' => e = .returned (.int .i64 (Lib.compareInt x y)) ∧ w = w' := by
  unfold Lib.compareInt
  have cN := fun x w => nan_any x w
  rcases Int.lt_trichotomy x y with h | h | h
  · have d1 : decide (x < y) = true := by simp [h]
    go_enter Tryz.func74, Tryz.ntmps74
    go_wp2_with (go_at_call 108; (with_reducible refine (cN _ _).mono ?_); rintro e w' ⟨rfl, rfl⟩)
    go_ret
    exact ⟨ret_int (by simp [h]), rfl⟩
  · subst h
    have d1 : decide (x < x) = false := by simp
    go_enter Tryz.func74, Tryz.ntmps74
    go_wp2_with (go_at_call 108; (with_reducible refine (cN _ _).mono ?_); rintro e w' ⟨rfl, rfl⟩)
    go_ret
    exact ⟨ret_int (by simp), rfl⟩
  · have d1 : decide (x < y) = false := by simp; omega
    have d2 : decide (y < x) = true := by simp [h]
    go_enter Tryz.func74, Tryz.ntmps74
    go_wp2_with (go_at_call 108; (with_reducible refine (cN _ _).mono ?_); rintro e w' ⟨rfl, rfl⟩)
    go_ret
    exact ⟨rfl, rfl⟩
theorem cmp_any (a b c d : Int) (w : World) : Calls Tryz.prog 73 #[.agg #[.int .i32 a, .int .i32 b], .agg #[.int .i32 c, .int .i32 d]] w fun e w' => e = .returned (.int .i64 (Lib.compareInt a c)) ∧ Below w.heap.size w w' := by
  have cC := fun w => compare_any a c w
  obtain ⟨z, hz⟩ : ∃ z, Lib.compareInt a c = z := ⟨_, rfl⟩
  rw [hz] at cC ⊢
  have CC := Lib.hid cC
  clear cC hz
  go_enter Tryz.func73, Tryz.ntmps73
  go_wp2_with (go_at_call 74; (with_reducible refine (CC.out _).mono ?_); rintro e w' ⟨rfl, rfl⟩)
  go_ret
  exact ⟨rfl, ((Below.refl _ _).alloc (Nat.le_refl _) _).alloc (by simp) _⟩
end Go.Proofs.YtgppobaoclfgcaaGreatDoor
namespace Go.Proofs.YtgppobaoclfgcaaGreatDoor
open Go.RowKit Go.Lib
open Plain (Rg May mayB In Norm put1 mergeL)
/-- ranges that lie somewhere -/
def Rs (w : World) (A : Option Addr) (R : List Rg) : Prop :=
  0 < R.length → ∃ b off, A = some ⟨b, off, none⟩ ∧ b < w.heap.size ∧ ∀ i (r : Rg), R[i]? = some r → w.cell? ⟨b, off + i * 2, none⟩ = some (.int .i32 r.1) ∧ w.cell? ⟨b, off + i * 2 + 1, none⟩ = some (.int .i32 r.2)
theorem Rs.below {w w' : World} {A : Option Addr} {R : List Rg} (h : Rs w A R) (hb : Below w.heap.size w w') : Rs w' A R := fun hn => by
  obtain ⟨b, off, e, hl, hc⟩ := h hn
  exact ⟨b, off, e, Nat.lt_of_lt_of_le hl hb.size, fun i r hi => ⟨(hb.cell (p := ⟨b, off + i * 2, none⟩) hl).trans (hc i r hi).1, (hb.cell (p := ⟨b, off + i * 2 + 1, none⟩) hl).trans (hc i r hi).2⟩⟩
theorem Rs.nil (w : World) (A : Option Addr) : Rs w A [] := fun h => absurd h (by simp)
theorem Rs.get {w : World} {A : Option Addr} {R : List Rg} (h : Rs w A R) (k : Nat) (hk : k < R.length) : ∃ b off, A = some ⟨b, off, none⟩ ∧ b < w.heap.size ∧ w.cell? ⟨b, off + k * 2, none⟩ = some (.int .i32 R[k].1) ∧ w.cell? ⟨b, off + k * 2 + 1, none⟩ = some (.int .i32 R[k].2) := by
  obtain ⟨b, off, e, hl, hc⟩ := h (by omega)
  exact ⟨b, off, e, hl, hc k _ (List.getElem?_eq_getElem hk)⟩
theorem rgs_len (R : List Rg) : (rgs R).length = R.length * 2 := by
  induction R with
  | nil => rfl
  | cons r R ih => unfold rgs at ih ⊢; rw [List.flatMap_cons, List.length_append, ih, List.length_cons]; simp [rgc]; omega
theorem rgs_cons (r : Rg) (R : List Rg) : rgs (r :: R) = .int .i32 r.1 :: .int .i32 r.2 :: rgs R := rfl
theorem rgs_append (R S : List Rg) : rgs (R ++ S) = rgs R ++ rgs S := by unfold rgs; rw [List.flatMap_append]
theorem rgs_get : ∀ (R : List Rg) (i : Nat) (r : Rg), R[i]? = some r → (rgs R)[i * 2]? = some (.int .i32 r.1) ∧ (rgs R)[i * 2 + 1]? = some (.int .i32 r.2) := by
  intro R
  induction R with
  | nil => intro i r h; simp at h
  | cons a R ih =>
    intro i r h
    cases i with
    | zero => simp at h; subst h; exact ⟨rfl, rfl⟩
    | succ i =>
      rw [List.getElem?_cons_succ] at h
      have := ih i r h
      rw [rgs_cons, show (i + 1) * 2 = i * 2 + 1 + 1 by omega, List.getElem?_cons_succ, List.getElem?_cons_succ, show i * 2 + 1 + 1 + 1 = i * 2 + 1 + 1 + 1 from rfl, List.getElem?_cons_succ, List.getElem?_cons_succ]
      exact this
theorem Rs.of_own {w : World} {base n c : Nat} {e : TypeId} {A : Option Addr} {R : List Rg} (h : w.ownsRow base e 2 (.slice A n c) n (rgs R)) (hl : R.length = n) : Rs w A R := fun hn => by
  obtain ⟨g, cap, hv, _, _, hc⟩ := own_at h (by omega)
  injection hv with h1 h2 h3
  exact ⟨g, 0, h1, hc.1, fun i r hi => by
    rw [Nat.zero_add]
    have := rgs_get R i r hi
    exact ⟨hc.2 _ _ this.1, hc.2 _ _ this.2⟩⟩
/-- the first place where it holds, or -1 -/
def idx (p : Rg → Bool) (R : List Rg) : Int := if R.any p then (R.findIdx p : Nat) else -1
theorem idx_some (p : Rg → Bool) (R : List Rg) (k : Nat) (hk : k < R.length) (h : ∀ j (hj : j < R.length), j < k → p R[j] = false) (hp : p R[k] = true) : idx p R = k := by
  have h1 : R.any p = true := List.any_eq_true.2 ⟨R[k], List.getElem_mem hk, hp⟩
  unfold idx
  rw [if_pos h1]
  congr 1
  rw [List.findIdx_eq hk]
  exact ⟨hp, fun j hj => h j (by omega) hj⟩
theorem idx_none (p : Rg → Bool) (R : List Rg) (h : ∀ j (hj : j < R.length), p R[j] = false) : idx p R = -1 := by
  unfold idx
  rw [if_neg]
  intro h1
  obtain ⟨x, hx, hp⟩ := List.any_eq_true.1 h1
  obtain ⟨j, hj, rfl⟩ := List.getElem_of_mem hx
  rw [h j hj] at hp; cases hp
set_option maxRecDepth 100000 in
set_option maxHeartbeats 1000000 in
theorem idx76_any (R : List Rg) (A : Option Addr) (cap : Nat) (w : World) (hX : Rs w A R) (hn : R.length ≤ maxLen) :
    Calls Tryz.prog 106 #[.slice A R.length cap, .func (Fn.func 71) #[] #[]] w fun e w' => e = .returned (.int .i64 (idx (fun r => !mayB r) R)) ∧ Below w.heap.size w w' := by
  unfold maxLen at hn
  obtain ⟨n, hN⟩ : ∃ n, R.length = n := ⟨_, rfl⟩
  have HX := Lib.hid hX
  have HNN := Lib.hid hN
  rw [hN] at hn ⊢
  clear hX hN
  go_enter Tryz.func106, Tryz.ntmps106
  go_wp2
  go_loopw [5, 8] (fun _ i wr => ∃ k : Nat, k ≤ n ∧ i = .int .i64 k ∧ Hid (∀ j (hj : j < R.length), j < k → (!mayB R[j]) = false) ∧ Below w.heap.size w wr) (fun _ i _ => n - (RowKit.intOf i).toNat)
  case atStart => exact ⟨0, Nat.zero_le _, rfl, Lib.hid (fun j _ h => absurd h (by omega)), Below.refl _ _⟩
  case round =>
    obtain ⟨k, hk, rfl, HA, hB⟩ := hrel
    by_cases hlt : k < n
    · have hkl : k < R.length := by rw [HNN.out]; exact hlt
      obtain ⟨ba, off, rfl, hba, c0, c1⟩ := (HX.out.below hB).get k hkl
      obtain ⟨r, hr⟩ : ∃ r, R[k] = r := ⟨_, rfl⟩
      rw [hr] at c0 c1
      obtain ⟨lo, hi⟩ := r
      dsimp only at c0 c1
      have HR := Lib.hid hr
      obtain ⟨q, hq⟩ : ∃ q, (!mayB (lo, hi)) = q := ⟨_, rfl⟩
      have cS := fun (W : World) => notmay_any lo hi W
      rw [hq] at cS
      have HQ := Lib.hid hq
      have HS := Lib.hid cS
      clear hq cS hr
      cases q
      · go_wp2_with (go_at_call 71; refine (HS.out _).mono ?_; rintro e w' ⟨rfl, hb1⟩)
        go_roundw
        case rel =>
          refine ⟨k + 1, by omega, by go_num, Lib.hid (fun j hj hjk => ?_), hB.trans ((by assumption : Below wr.heap.size wr _).mono hB.size)⟩
          rcases Nat.lt_or_ge j k with h | h
          · exact HA.out j hj h
          · obtain rfl : j = k := by omega
            rw [HR.out]; exact HQ.out
        case measure => simp [RowKit.intOf]; omega
      · have hv := idx_some (fun r => !mayB r) R k hkl HA.out (by rw [HR.out]; exact HQ.out)
        have HV := Lib.hid hv
        clear hv
        go_wp2_with (go_at_call 71; refine (HS.out _).mono ?_; rintro e w' ⟨rfl, hb1⟩)
        go_ret
        exact ⟨ret_int HV.out.symm, hB.trans ((by assumption : Below wr.heap.size wr _).mono hB.size)⟩
    · obtain rfl : n = k := by omega
      have hv := idx_none (fun r => !mayB r) R (fun j hj => HA.out j hj (by rw [← HNN.out]; exact hj))
      have HV := Lib.hid hv
      clear hv
      go_wp2
      go_ret
      exact ⟨ret_int HV.out.symm, hB⟩
end Go.Proofs.YtgppobaoclfgcaaGreatDoor
namespace Go.Proofs.YtgppobaoclfgcaaGreatDoor
open Go.RowKit Go.Lib
open Plain (Rg May mayB In Norm put1 mergeL)
theorem info82 : (Tryz.prog.info? 71).map (fun i => (i.zero, i.size, i.bytes)) = some (some (.agg #[.int .i32 0, .int .i32 0]), 2, 8) := by kernel_rfl
theorem zero82 (w : World) : (zeroValue 71).run Tryz.prog w = .ok (.agg #[.int .i32 0, .int .i32 0]) w := by kernel_rfl
/-- the rest of an owned row is cleared -/
theorem clear_own {w : World} {base g n cap : Nat} {xs : List Value} (h : w.ownsRow base 71 2 (.slice (some ⟨g, 0, none⟩) n cap) n xs) (i c : Nat) (hi : i < n) (ty : TypeId) :
    ∃ w', (Builtin.clear_ #[72] ty #[.slice (some ⟨g, i * 2, none⟩) (n - i) c]).run Tryz.prog w = .ok (.tuple #[]) w' ∧ w'.ownsRow base 71 2 (.slice (some ⟨g, 0, none⟩) i cap) i (xs.take (i * 2)) ∧ Below base w w' := by
  have hl := h.1
  rcases h.2 with ⟨hv, _⟩ | ⟨g', cap', cur, hv, hbg, hg, hnc, hcm, hcs, htake⟩
  · cases hv
  · injection hv with h1 h2 h3
    injection h1 with h1
    injection h1 with h1
    subst h1 h3
    have hz : (Builtin.zeroCells (Value.agg #[.int .i32 0, .int .i32 0]).cells (n - i)).toList.length = (n - i) * 2 := by simp [Builtin.zeroCells, Value.cells]
    have h1c : ∀ v ∈ (Builtin.zeroCells (Value.agg #[.int .i32 0, .int .i32 0]).cells (n - i)).toList, v.oneCell' = true := by
      intro v hv
      simp [Builtin.zeroCells, Value.cells] at hv
      obtain ⟨a, _, rfl⟩ := hv
      rcases Nat.mod_two_eq_zero_or_one a with e | e <;> rw [e] <;> rfl
    have hst := run_storeCells_at Tryz.prog g (i * 2) 71 (Builtin.zeroCells (Value.agg #[.int .i32 0, .int .i32 0]).cells (n - i)).toList 0 cur w hg (by rw [hz]; omega) h1c
    obtain ⟨Z, hZ⟩ : ∃ Z, (Builtin.zeroCells (Value.agg #[.int .i32 0, .int .i32 0]).cells (n - i)).toList = Z := ⟨_, rfl⟩
    rw [hZ] at hst hz
    have hrow := setRow_heap w g cur ((cur.toList.take (i * 2 + 0) ++ Z ++ cur.toList.drop (i * 2 + 0 + Z.length)).toArray) 71 (0, 0) hg
    refine ⟨w.setRow g ((cur.toList.take (i * 2 + 0) ++ Z ++ cur.toList.drop (i * 2 + 0 + Z.length)).toArray), ?_, ?_, below_setRow (Below.refl _ _) hbg _⟩
    · obtain ⟨m, hm⟩ : ∃ m, n - i = m + 1 := ⟨n - i - 1, by omega⟩
      rw [hm] at hZ ⊢
      simp only [Builtin.clear_, Sem.run_bind, run_underlying Tryz.underlying72, Result.andThen_ok]
      simp [zero82, hZ, hst]
    · refine ⟨by rw [List.length_take, hl]; omega, .inr ⟨g, cap, _, rfl, hbg, hrow, by omega, hcm, ?_, ?_⟩⟩
      · simp only [List.size_toArray, List.length_append, List.length_take, List.length_drop, Array.length_toList]
        omega
      · simp only [Nat.add_zero]
        rw [List.append_assoc, List.take_append_of_le_length (by rw [List.length_take, Array.length_toList]; omega), List.take_take, Nat.min_self, ← htake, List.take_take, Nat.min_eq_left (by omega)]
end Go.Proofs.YtgppobaoclfgcaaGreatDoor
namespace Go.Proofs.YtgppobaoclfgcaaGreatDoor
open Go.RowKit Go.Lib
open Plain (Rg May mayB In Norm put1 mergeL)
theorem rgs_set : ∀ (L : List Rg) (i : Nat) (r : Rg), ((rgs L).set (i * 2) (.int .i32 r.1)).set (i * 2 + 1) (.int .i32 r.2) = rgs (L.set i r) := by
  intro L
  induction L with
  | nil => intro i r; rfl
  | cons a L ih =>
    intro i r
    cases i with
    | zero => rfl
    | succ i =>
      rw [List.set_cons_succ, rgs_cons, rgs_cons, ← ih i r, show (i + 1) * 2 = i * 2 + 1 + 1 by omega, List.set_cons_succ, List.set_cons_succ, List.set_cons_succ, List.set_cons_succ]
theorem set_mid (F M T : List Rg) (m r : Rg) : (F ++ (m :: M) ++ r :: T).set F.length r = (F ++ [r]) ++ (M ++ [r]) ++ T := by
  rw [List.append_assoc, List.set_append_right _ _ (Nat.le_refl _), Nat.sub_self, List.cons_append, List.set_cons_zero]
  simp
theorem own_frozen {w : World} {base : Nat} {e : TypeId} {size n c g : Nat} {xs : List Value} (h : w.ownsRow base e size (.slice (some ⟨g, 0, none⟩) n c) n xs) (j : Nat) : w.frozen? ⟨g, j, none⟩ = false := by
  rcases h.2 with ⟨hv, _⟩ | ⟨g', cap', cur, hv, hbg, hg, _⟩
  · cases hv
  · injection hv with h1
    injection h1 with h1
    injection h1 with h1
    subst h1
    exact blk_frozen hg j
theorem mid_len (F M : List Rg) (T : List Rg) (j : Nat) (h : F.length + M.length = j) (r : Rg) (T' : List Rg) (hT : T = r :: T') : (F ++ M ++ T)[j]? = some r := by
  subst hT
  rw [List.getElem?_append_right (by rw [List.length_append]; omega), List.length_append, h, Nat.sub_self]; rfl
def DelPost (base : Nat) (R : List Rg) (w : World) (e : Ending) (w' : World) : Prop :=
  ∃ A' c', e = .returned (.slice A' (R.filter mayB).length c') ∧ w'.ownsRow base 71 2 (.slice A' (R.filter mayB).length c') (R.filter mayB).length (rgs (R.filter mayB)) ∧ Below base w w'
def DelRel (base g n c : Nat) (R : List Rg) (w : World) (a b : Value) (wr : World) : Prop :=
  ∃ (j : Nat) (M : List Rg), a = .int .i64 ((R.take j).filter mayB).length ∧ b = .int .i64 j ∧ j ≤ n ∧ 1 ≤ M.length ∧ ((R.take j).filter mayB).length + M.length = j ∧ wr.ownsRow base 71 2 (.slice (some ⟨g, 0, none⟩) n c) n (rgs ((R.take j).filter mayB ++ M ++ R.drop j)) ∧ Below base w wr
set_option maxRecDepth 100000 in
set_option maxHeartbeats 2000000 in
theorem del_any (R : List Rg) (A : Option Addr) (n c base : Nat) (w : World) (hown : w.ownsRow base 71 2 (.slice A n c) n (rgs R)) (hR : R.length = n) (hb0 : base ≤ w.heap.size) (hn : n ≤ maxLen) :
    Calls Tryz.prog 69 #[.slice A n c, .func (Fn.func 71) #[] #[]] w (DelPost base R w) := by
  have cI := idx76_any R A c w (Rs.of_own hown hR) (by omega)
  rw [hR] at cI
  have hcn := own_le hown
  unfold maxLen at hn
  by_cases hall : ∀ j (hj : j < R.length), (!mayB R[j]) = false
  · rw [idx_none _ R hall] at cI
    have hf : R.filter mayB = R := List.filter_eq_self.2 fun x hx => by
      obtain ⟨j, hj, rfl⟩ := List.getElem_of_mem hx
      have := hall j hj; simpa using this
    have CI := Lib.hid cI
    have HO := Lib.hid hown
    have HF := Lib.hid hf
    have HR := Lib.hid hR
    clear cI hown hf hall hR
    go_enter Tryz.func69, Tryz.ntmps69
    go_wp2_with fail
    refine CI.out.mono ?_
    rintro e w1 ⟨rfl, hb⟩
    have HB := Lib.hid hb
    clear hb
    go_wp2
    go_ret
    refine ⟨A, c, ?_, ?_, HB.out.mono hb0⟩
    · rw [HF.out, HR.out]; rfl
    · rw [HF.out, HR.out]; exact own_below HO.out HB.out
  · have hex : ∃ i, ∃ hi : i < R.length, mayB R[i] = false ∧ ∀ j (hj : j < R.length), j < i → mayB R[j] = true := by
      have h1 : R.any (fun r => !mayB r) = true := by
        by_cases h : R.any (fun r => !mayB r) = true
        · exact h
        · exfalso; apply hall; intro j hj
          have h2 : R.any (fun r => !mayB r) = false := by simpa using h
          exact List.any_eq_false.1 h2 R[j] (List.getElem_mem hj) |> fun h => by simpa using h
      have hlt := List.findIdx_lt_length_of_exists (xs := R) (p := fun r => !mayB r) (by obtain ⟨x, hx, hp⟩ := List.any_eq_true.1 h1; exact ⟨x, hx, hp⟩)
      refine ⟨R.findIdx (fun r => !mayB r), hlt, ?_, fun j hj hlt2 => ?_⟩
      · have := List.findIdx_getElem (xs := R) (p := fun r => !mayB r) (w := hlt)
        simpa using this
      · have := List.not_of_lt_findIdx (xs := R) (p := fun r => !mayB r) hlt2
        simpa using this
    obtain ⟨i, hi, hi1, hi2⟩ := hex
    rw [idx_some _ R i hi (fun j hj h => by rw [hi2 j hj h]; rfl) (by rw [hi1]; rfl)] at cI
    obtain ⟨g, cap, hv, hcc, hbg, _⟩ := own_at hown (by omega)
    injection hv with hv1 hv2 hv3
    subst hv1 hv3
    clear hv2
    have hft : (R.take i).filter mayB = R.take i := List.filter_eq_self.2 fun x hx => by
      obtain ⟨j, hj, rfl⟩ := List.getElem_of_mem hx
      rw [List.length_take] at hj
      rw [List.getElem_take]; exact hi2 j (by omega) (by omega)
    have hft1 : (R.take (i + 1)).filter mayB = R.take i := by
      rw [List.take_succ_eq_append_getElem hi, List.filter_append, hft]
      simp [hi1]
    have hl1 : (R.take i).length = i := by rw [List.length_take]; omega
    have hstart : rgs R = rgs ((R.take (i + 1)).filter mayB ++ [R[i]] ++ R.drop (i + 1)) := by
      rw [hft1, List.append_assoc, List.singleton_append, ← List.drop_eq_getElem_cons hi, List.take_append_drop]
    have CI := Lib.hid cI
    have HO := Lib.hid hown
    have HR := Lib.hid hR
    have HFT := Lib.hid hft1
    have HL := Lib.hid hl1
    have HS := Lib.hid hstart
    have hin : i < n := by omega
    have di : ((i : Int) == -1) = false := by rw [beq_eq_false_iff_ne]; omega
    clear cI hown hall hft hft1 hl1 hstart hi1 hi2
    go_enter Tryz.func69, Tryz.ntmps69
    go_wp2_with fail
    refine CI.out.mono ?_
    rintro e w1 ⟨rfl, hb⟩
    have HB1 := Lib.hid (hb.mono hb0)
    have HO1 := Lib.hid (own_below HO.out hb)
    have hs1 := hb.size
    clear hb
    go_wp2_with fail
    go_loopw [5, 6] (fun a b wr => DelRel base g n c R w a b wr) (fun _ b _ => n - (RowKit.intOf b).toNat)
    case atStart =>
      refine ⟨i + 1, [R[i]], ?_, by go_num, by omega, by simp, ?_, ?_, HB1.out⟩
      · rw [HFT.out, HL.out]
      · rw [HFT.out, HL.out]; rfl
      · rw [← HS.out]; exact HO1.out
    case round =>
      obtain ⟨j, M, rfl, rfl, hj, hM, hlen, hown, hB⟩ := hrel
      obtain ⟨F, hF⟩ : ∃ F, (R.take j).filter mayB = F := ⟨_, rfl⟩
      rw [hF] at hlen hown
      have HF := Lib.hid hF
      obtain ⟨fi, hfi⟩ : ∃ fi, F.length = fi := ⟨_, rfl⟩
      rw [hF, hfi]
      rw [hfi] at hlen
      have HFI := Lib.hid hfi
      clear hF hfi
      have HB := Lib.hid hB
      have HOW := Lib.hid hown
      by_cases hlt : j < n
      · have hjl : j < R.length := by rw [HR.out]; exact hlt
        have hdrop := List.drop_eq_getElem_cons hjl
        obtain ⟨r, hr⟩ : ∃ r, R[j] = r := ⟨_, rfl⟩
        rw [hr] at hdrop
        have hLj := mid_len F M (R.drop j) j (by rw [HFI.out]; exact hlen) r _ hdrop
        obtain ⟨m, M', rfl⟩ : ∃ m M', M = m :: M' := by cases M with
          | nil => simp at hM
          | cons m M' => exact ⟨m, M', rfl⟩
        have hLi : (F ++ (m :: M') ++ R.drop j)[fi]? = some m := by
          rw [List.append_assoc, List.getElem?_append_right (by rw [HFI.out]; exact Nat.le_refl _), HFI.out, Nat.sub_self]; rfl
        obtain ⟨lo, hi⟩ := r
        obtain ⟨g', cap', hv, _, _, hcl⟩ := own_at hown (by omega)
        injection hv with hv1 hv2 hv3
        clear hv2 hv3
        injection hv1 with hv1
        injection hv1 with hv1
        subst hv1
        have gj := rgs_get _ _ _ hLj
        have gi := rgs_get _ _ _ hLi
        have c0 := hcl.2 _ _ gj.1
        have c1 := hcl.2 _ _ gj.2
        have lg := hcl.1
        dsimp only at c0 c1
        have HGI := Lib.hid gi
        have HDR := Lib.hid hdrop
        have HRJ := Lib.hid hr
        obtain ⟨q, hq⟩ : ∃ q, (!mayB (lo, hi)) = q := ⟨_, rfl⟩
        have cS := fun (W : World) => notmay_any lo hi W
        rw [hq] at cS
        have HQ := Lib.hid hq
        have HSS := Lib.hid cS
        have hfj : fi < j := by simp at hlen; omega
        clear hdrop hLj hLi gj gi hcl hr hq cS hown hB
        cases q
        · go_wp2_with fail
          refine (HSS.out _).mono ?_
          rintro e w2 ⟨rfl, hb⟩
          have hb2 := (below_alloc (Below.refl wr.heap.size wr) (.cells #[.int .i32 lo, .int .i32 hi] 71)).trans (hb.mono (by simp))
          have hO2 := own_below HOW.out hb2
          obtain ⟨_, _, hv, _, _, hcl2⟩ := own_at hO2 (by omega)
          injection hv with hv1 hv2 hv3
          clear hv2 hv3
          injection hv1 with hv1
          injection hv1 with hv1
          subst hv1
          have d0 := hcl2.2 _ _ HGI.out.1
          have d1 := hcl2.2 _ _ HGI.out.2
          have f0 := own_frozen hO2 (fi * 2)
          have f1 := own_frozen hO2 (fi * 2 + 1)
          have lg2 := hcl2.1
          have hbx := blk_later (heap_alloc_new2 wr (.cells #[.int .i32 lo, .int .i32 hi] 71) wr.heap.size (.cells #[.int .i32 lo, .int .i32 hi] 71 (0, 0)) rfl) hb
          obtain ⟨x0, x1, x2, x3⟩ := box2 hbx
          have HO2 := Lib.hid hO2
          have HB2 := Lib.hid (HB.out.trans (hb2.mono (Nat.le_trans hb0 HB.out.size)))
          clear hb hb2 hO2 hcl2 hbx c0 c1
          go_wp2_with fail
          go_roundw
          case rel =>
            have hq : mayB (lo, hi) = true := by have := HQ.out; simpa using this
            have hF1 : (R.take (j + 1)).filter mayB = F ++ [(lo, hi)] := by
              rw [List.take_succ_eq_append_getElem hjl, List.filter_append, HF.out, HRJ.out]
              simp [hq]
            have h1 := (World.ownsRow.stored HO2.out (fi * 2) (.int .i32 lo)).1
            have h2 := (World.ownsRow.stored h1 (fi * 2 + 1) (.int .i32 hi)).1
            rw [rgs_set _ fi (lo, hi), ← HFI.out, HDR.out, set_mid] at h2
            refine ⟨j + 1, M' ++ [(lo, hi)], ?_, by go_num, by omega, by simp, ?_, ?_, ?_⟩
            · rw [hF1, List.length_append, HFI.out]; rfl
            · rw [hF1, List.length_append, List.length_append, HFI.out]; simp at hlen ⊢; omega
            · rw [hF1]; rw [HFI.out] at h2; exact h2
            · exact (HB2.out.setCell (p := ⟨g, fi * 2, none⟩) hbg _).setCell (p := ⟨g, fi * 2 + 1, none⟩) hbg _
          case measure => simp [RowKit.intOf]; omega
        · go_wp2_with fail
          refine (HSS.out _).mono ?_
          rintro e w2 ⟨rfl, hb⟩
          have hb2 := (below_alloc (Below.refl wr.heap.size wr) (.cells #[.int .i32 lo, .int .i32 hi] 71)).trans (hb.mono (by simp))
          have HO2 := Lib.hid (own_below HOW.out hb2)
          have HB2 := Lib.hid (HB.out.trans (hb2.mono (Nat.le_trans hb0 HB.out.size)))
          clear hb hb2 c0 c1
          go_wp2_with fail
          go_roundw
          case rel =>
            have hq : mayB (lo, hi) = false := by have := HQ.out; simpa using this
            have hF1 : (R.take (j + 1)).filter mayB = F := by
              rw [List.take_succ_eq_append_getElem hjl, List.filter_append, HF.out, HRJ.out]
              simp [hq]
            refine ⟨j + 1, m :: M' ++ [(lo, hi)], ?_, by go_num, by omega, by simp, ?_, ?_, HB2.out⟩
            · rw [hF1, HFI.out]
            · rw [hF1, HFI.out, List.length_append]; simp at hlen ⊢; omega
            · rw [hF1]
              have h2 := HO2.out
              rw [HDR.out] at h2
              rw [show F ++ (m :: M' ++ [(lo, hi)]) ++ R.drop (j + 1) = F ++ (m :: M') ++ (lo, hi) :: R.drop (j + 1) by simp]
              exact h2
          case measure => simp [RowKit.intOf]; omega
      · obtain rfl : j = n := by omega
        have hfn : fi < j := by omega
        obtain ⟨w', hcl, hO2, hB2⟩ := clear_own HOW.out fi (c - fi) hfn 0
        have hFA : F = R.filter mayB := by rw [← HF.out, List.take_of_length_le (by rw [HR.out]; exact Nat.le_refl _)]
        have hFI2 := HFI.out
        have hE : (rgs (F ++ M ++ R.drop j)).take (fi * 2) = rgs F := by
          rw [List.append_assoc, rgs_append, ← HFI.out, ← rgs_len, List.take_left]
        rw [hE] at hO2
        have HO2 := Lib.hid hO2
        have HB2 := Lib.hid (HB.out.trans hB2)
        have HFA := Lib.hid hFA
        have HFI2 := Lib.hid hFI2
        clear hO2 hB2 hFA hFI2 hE hown hB
        go_wp2
        go_ret
        refine ⟨some ⟨g, 0, none⟩, c, ?_, ?_, HB2.out⟩
        · rw [← HFA.out, HFI2.out]; rfl
        · rw [← HFA.out, HFI2.out]; exact HO2.out
end Go.Proofs.YtgppobaoclfgcaaGreatDoor
namespace Go.Proofs.YtgppobaoclfgcaaGreatDoor
open Go.RowKit Go.Lib
open Plain (Rg May mayB In Norm put1 mergeL)
theorem rgs_at : ∀ (R : List Rg) (j : Nat) (u : Value), (rgs R)[j]? = some u → ∃ r, R[j / 2]? = some r ∧ ((j % 2 = 0 ∧ u = .int .i32 r.1) ∨ (j % 2 = 1 ∧ u = .int .i32 r.2)) := by
  intro R
  induction R with
  | nil => intro j u h; simp [rgs] at h
  | cons r R ih =>
    intro j u h
    rw [rgs_cons] at h
    match j with
    | 0 => simp at h; exact ⟨r, rfl, .inl ⟨rfl, h.symm⟩⟩
    | 1 => simp at h; exact ⟨r, rfl, .inr ⟨rfl, h.symm⟩⟩
    | j + 2 =>
      rw [List.getElem?_cons_succ, List.getElem?_cons_succ] at h
      obtain ⟨r', h1, h2⟩ := ih j u h
      refine ⟨r', ?_, ?_⟩
      · rw [show (j + 2) / 2 = j / 2 + 1 by omega, List.getElem?_cons_succ]; exact h1
      · rw [show (j + 2) % 2 = j % 2 by omega]; exact h2
theorem Rs.flat {w : World} {ad : Addr} {R : List Rg} (h : Rs w (some ad) R) : ∀ (j : Nat) u, (rgs R)[j]? = some u → w.cell? (ad.add j) = some u := by
  intro j u hu
  have hj := (List.getElem?_eq_some_iff.1 hu).1
  rw [rgs_len] at hj
  obtain ⟨b, off, e, hl, hc⟩ := h (by omega)
  injection e with e
  subst e
  have hadd : (⟨b, off, none⟩ : Addr).add j = ⟨b, off + j, none⟩ := by unfold Addr.add; split <;> simp_all
  rw [hadd]
  obtain ⟨r, h1, h2⟩ := rgs_at R j u hu
  have := hc _ _ h1
  rcases h2 with ⟨h2, rfl⟩ | ⟨h2, rfl⟩
  · rw [show off + j = off + j / 2 * 2 by omega]; exact this.1
  · rw [show off + j = off + j / 2 * 2 + 1 by omega]; exact this.2
theorem rgs_one (R : List Rg) : ∀ u ∈ rgs R, u.oneCell' = true := by
  intro u hu
  obtain ⟨j, hj, rfl⟩ := List.getElem_of_mem hu
  obtain ⟨r, _, h | h⟩ := rgs_at R j _ (List.getElem?_eq_getElem hj)
  · rw [h.2]; rfl
  · rw [h.2]; rfl
def OwnPost (base : Nat) (e : TypeId) (R : List Rg) (w : World) (en : Ending) (w' : World) : Prop :=
  ∃ A' c', en = .returned (.slice A' R.length c') ∧ w'.ownsRow base e 2 (.slice A' R.length c') R.length (rgs R) ∧ Below base w w'
set_option maxRecDepth 100000 in
set_option maxHeartbeats 2000000 in
theorem clone_any (R : List Rg) (A : Option Addr) (n c : Nat) (w : World) (hX : Rs w A R) (hR : R.length = n) (hn : n ≤ 1000000) :
    Calls Tryz.prog 70 #[.slice A n c] w (OwnPost w.heap.size 71 R w) := by
  cases A with
  | none =>
    have h0 : R = [] := by
      cases R with
      | nil => rfl
      | cons r R => obtain ⟨b, off, e, _⟩ := hX (by simp); cases e
    subst h0
    subst hR
    have hq := fun w => Lib.run_eql_slice_nil (P := Tryz.prog) w 72 71 none 0 c 0 0 Tryz.underlying72
    go_enter Tryz.func70, Tryz.ntmps70
    go_wp2
    go_ret
    exact ⟨none, 0, rfl, World.ownsRow_nil _ _ _ _, Below.refl _ _⟩
  | some ad =>
    have hq := fun w => Lib.run_eql_slice_nil (P := Tryz.prog) w 72 71 (some ad) n c 0 0 Tryz.underlying72
    obtain ⟨i82, hi82, y0, y1, y2⟩ := info_parts info82
    have HX := Lib.hid hX
    have HR := Lib.hid hR
    clear hX hR
    go_enter Tryz.func70, Tryz.ntmps70
    go_wp2_with (at_builtin; refine wpList_append_arg _ rfl (.tmp 5) (.tmp 6) _ rfl 71 i82 _ 2 8 Tryz.underlying72 hi82 y0 y1 y2 rfl (by decide) w.heap.size 0 0 0 [] rfl ?lo ?olds ad n c (rgs R) rfl ?hn ?c1 ?c2 ?spare ?c3 ?c4 ?room ?grow)
    case lo => rfl
    case olds => intro j u hu; simp at hu
    case hn => rw [rgs_len, HR.out]
    case c1 => exact (HX.out.below ((Below.refl _ _).alloc (Nat.le_refl _) _)).flat
    case c2 => exact rgs_one R
    case spare => intro hr j hj; rw [rgs_len, HR.out] at hj; omega
    case c3 => simp only [maxLen]; omega
    case c4 => omega
    case room =>
      intro hr
      have h0 : R = [] := List.eq_nil_of_length_eq_zero (by rw [HR.out]; omega)
      have hn0 : n = 0 := by omega
      subst hn0
      rw [h0]
      have ho : (w.alloc (.cells #[] 71)).ownsRow w.heap.size 71 2 (.slice (some ⟨w.heap.size, 0, none⟩) 0 0) 0 [] := ⟨rfl, .inr ⟨w.heap.size, 0, #[], rfl, Nat.le_refl _, heap_alloc_new2 _ _ _ _ rfl, Nat.le_refl _, by unfold maxLen; omega, rfl, rfl⟩⟩
      have HO := Lib.hid ho
      clear ho hr
      rw [show (w.alloc (.cells #[] 71)).setCells w.heap.size (0 + 0 * 2) (rgs []) = w.alloc (.cells #[] 71) from rfl]
      go_wp2
      go_ret
      subst h0
      exact ⟨_, _, rfl, HO.out, (Below.refl _ _).alloc (Nat.le_refl _) _⟩
    case grow =>
      intro hr v' w' hown hg
      obtain ⟨ua, uc, rfl⟩ := own_slice hown
      have HO := Lib.hid (own_base hown (show w.heap.size ≤ _ by simp))
      have HB := Lib.hid (((Below.refl w.heap.size w).alloc (Nat.le_refl _) (.cells #[] 71)).grown hg (by simp) (fun k hk => by cases hk))
      clear hown hg
      go_wp2
      go_ret
      have hR := HR.out
      subst hR
      exact ⟨_, _, rfl, HO.out, HB.out⟩
end Go.Proofs.YtgppobaoclfgcaaGreatDoor
