/- Chapter 10: Right, Index, Low, rows of runes the same, Less: what the code computes. Conditions: what each lemma says. -/
import Derived.Test.YtoamjlnmpklcdaaRight
import Derived.Deep.RegionHeld3
import Derived.Deep.QuietTactic
import Derived.Deep.Cut
import Derived.Deep.DeepCutAuto
set_option linter.unusedVariables false
set_option linter.unusedSimpArgs false
namespace Go.Proofs.Ytoamjlnmpklcdaa.Plain
/-- parts are right -/
def partsRight (P : List Int) : Bool :=
  !(P.length == 0) && decide (P.length ≤ 64) && (P.getD 0 0 == 0) && decide (P.getD (P.length - 1) 0 ≤ 1114111) && (List.range (P.length - 1)).all fun k => decide (P.getD k 0 < P.getD (k + 1) 0)
/-- where the first is that answers so, or -1 -/
def idx {α : Type} (p : α → Bool) (l : List α) : Int := if l.any p then (l.findIdx p : Nat) else -1
theorem idx_some {α : Type} (p : α → Bool) (l : List α) (d : α) (k : Nat) (hk : k < l.length) (h : ∀ j, j < k → p (l.getD j d) = false) (hp : p (l.getD k d) = true) : idx p l = k := by
  have hg : ∀ j (hj : j < l.length), l.getD j d = l[j] := fun j hj => by simp [List.getD, List.getElem?_eq_getElem hj]
  have hany : l.any p = true := List.any_eq_true.2 ⟨l[k], List.getElem_mem hk, by rw [← hg k hk]; exact hp⟩
  have hf : l.findIdx p = k := by
    rw [List.findIdx_eq hk]
    refine ⟨by rw [← hg k hk]; exact hp, fun j hj => ?_⟩
    rw [← hg j (by omega)]; exact h j hj
  unfold idx; rw [if_pos hany, hf]
theorem any_none {α : Type} (p : α → Bool) (l : List α) (d : α) (h : ∀ j, j < l.length → p (l.getD j d) = false) : l.any p = false := by
  rw [List.any_eq_false]
  intro x hx
  obtain ⟨j, hj, rfl⟩ := List.getElem_of_mem hx
  have := h j hj
  simp [List.getD, List.getElem?_eq_getElem hj] at this
  simp [this]
theorem idx_none {α : Type} (p : α → Bool) (l : List α) (d : α) (h : ∀ j, j < l.length → p (l.getD j d) = false) : idx p l = -1 := by
  unfold idx; rw [any_none p l d h]; rfl
/-- which part a rune is in -/
def partOf (P : List Int) (r : Int) : Nat := (P.drop 1).findIdx fun low => decide (r < low)
theorem partOf_eq (P : List Int) (r : Int) (hm : ∀ k j, k < j → j < P.length → P.getD k 0 < P.getD j 0) (k : Nat) (hk : k < P.length) (h1 : k = 0 ∨ P.getD k 0 ≤ r) (h2 : k + 1 = P.length ∨ r < P.getD (k + 1) 0) : partOf P r = k := by
  have hg : ∀ i (hi : i < (P.drop 1).length), (P.drop 1)[i] = P.getD (i + 1) 0 := fun i hi => by
    have h3 : i + 1 < P.length := by rw [List.length_drop] at hi; omega
    rw [List.getElem_drop]
    simp [List.getD, List.getElem?_eq_getElem h3, Nat.add_comm]
  unfold partOf
  have hlow : ∀ i (hi : i < (P.drop 1).length), i < k → ¬ (r < (P.drop 1)[i]) := fun i hi hik => by
    rw [hg i hi]
    rcases h1 with h1 | h1
    · omega
    · rcases Nat.lt_or_ge (i + 1) k with h3 | h3
      · have := hm (i + 1) k h3 hk; omega
      · obtain rfl : i + 1 = k := by omega
        omega
  rcases h2 with h2 | h2
  · have hle : (P.drop 1).length = k := by rw [List.length_drop]; omega
    rw [← hle]
    apply List.findIdx_eq_length.2
    intro x hx
    obtain ⟨i, hi, rfl⟩ := List.getElem_of_mem hx
    simpa using hlow i hi (by omega)
  · rcases Nat.lt_or_ge k (P.drop 1).length with h3 | h3
    · rw [List.findIdx_eq h3]
      exact ⟨by rw [hg k h3]; simpa using h2, fun i hi => by simpa using hlow i (by omega) hi⟩
    · have hle : (P.drop 1).length = k := by rw [List.length_drop] at h3 ⊢; omega
      rw [← hle]
      apply List.findIdx_eq_length.2
      intro x hx
      obtain ⟨i, hi, rfl⟩ := List.getElem_of_mem hx
      simpa using hlow i hi (by omega)
theorem partOf_lt (P : List Int) (r : Int) (h : 0 < P.length) : partOf P r < P.length := by
  have := List.findIdx_le_length (p := fun low => decide (r < low)) (xs := P.drop 1)
  unfold partOf
  rw [List.length_drop] at this
  omega
end Go.Proofs.Ytoamjlnmpklcdaa.Plain
namespace Go.Proofs.Ytoamjlnmpklcdaa
open Go.RowKit Go.Lib
theorem Sl.get {w : World} {A : Option Addr} {L : List Int} {k : IntKind} (h : Sl w A (L.map (Value.int k))) (j : Nat) (hj : j < L.length) : ∃ b off, A = some ⟨b, off, none⟩ ∧ b < w.heap.size ∧ w.cell? ⟨b, off + j, none⟩ = some (.int k (L.getD j 0)) := by
  obtain ⟨b, off, e, hb, hc⟩ := h (by rw [List.length_map]; omega)
  exact ⟨b, off, e, hb, hc j _ (by rw [List.getElem?_map, List.getElem?_eq_getElem hj]; simp [List.getD, List.getElem?_eq_getElem hj])⟩
set_option maxRecDepth 100000 in
set_option maxHeartbeats 1000000 in
theorem pright_any (P : List Int) (A : Option Addr) (cap : Nat) (w : World) (hX : Sl w A (i32s P)) (hn : P.length ≤ maxLen) :
    Calls Try.prog 8 #[.slice A P.length cap] w fun e w' => e = .returned (.bool (Plain.partsRight P)) ∧ Below w.heap.size w w' := by
  unfold maxLen at hn
  have HX := Lib.hid hX
  clear hX
  obtain ⟨n, hN⟩ : ∃ n, P.length = n := ⟨_, rfl⟩
  rw [hN] at hn ⊢
  have HNN := Lib.hid hN
  by_cases h0 : n = 0
  · have hv : Plain.partsRight P = false := by unfold Plain.partsRight; rw [hN, h0]; rfl
    rw [hv]; clear hN hv
    subst h0
    go_enter Try.func8, Try.ntmps8
    go_wp2
    go_ret
    exact ⟨rfl, Below.refl _ _⟩
  by_cases h64 : n ≤ 64
  case neg =>
    have hv : Plain.partsRight P = false := by unfold Plain.partsRight; rw [hN]; simp; omega
    rw [hv]; clear hN hv
    go_enter Try.func8, Try.ntmps8
    go_wp2
    go_ret
    exact ⟨rfl, Below.refl _ _⟩
  have hne : ((n : Int) == 0) = false := by simp [h0]
  have hng : decide ((64 : Int) < (n : Int)) = false := by simp; omega
  obtain ⟨b, off, rfl, hb, hc⟩ := HX.out (by rw [i32s, List.length_map]; omega)
  have hget : ∀ k, k < n → w.cell? ⟨b, off + k, none⟩ = some (.int .i32 (P.getD k 0)) := fun k hk => hc k _ (by rw [i32s, List.getElem?_map, List.getElem?_eq_getElem (by omega)]; simp [List.getD, List.getElem?_eq_getElem (show k < P.length by omega)])
  have hg0 := hget 0 (by omega)
  rw [Nat.add_zero] at hg0
  have hgl := hget (n - 1) (by omega)
  obtain ⟨p0, hp0⟩ : ∃ x, P.getD 0 0 = x := ⟨_, rfl⟩
  obtain ⟨pl, hpl⟩ : ∃ x, P.getD (n - 1) 0 = x := ⟨_, rfl⟩
  rw [hp0] at hg0
  rw [hpl] at hgl
  have hval : Plain.partsRight P = ((p0 == 0) && decide (pl ≤ 1114111) && (List.range (n - 1)).all fun k => decide (P.getD k 0 < P.getD (k + 1) 0)) := by
    unfold Plain.partsRight; rw [hN, hp0, hpl, show (n == 0) = false from by simp [h0], show decide (n ≤ 64) = true from by simp [h64]]; rfl
  rw [hval]
  have HP0 := Lib.hid hp0
  have HPL := Lib.hid hpl
  have HG := Lib.hid hget
  clear hp0 hpl hval hN hget hc
  by_cases hz : p0 = 0
  case neg =>
    rw [show (p0 == 0) = false from by simp [hz]]
    go_enter Try.func8, Try.ntmps8
    go_wp2
    go_ret
    exact ⟨rfl, Below.refl _ _⟩
  by_cases hm : pl ≤ 1114111
  case neg =>
    rw [show decide (pl ≤ 1114111) = false from by simp; omega, Bool.and_false, Bool.false_and]
    go_enter Try.func8, Try.ntmps8
    go_wp2
    go_ret
    exact ⟨rfl, Below.refl _ _⟩
  subst hz
  rw [show decide (pl ≤ 1114111) = true from by simp; omega]
  simp only [BEq.rfl, Bool.true_and]
  go_enter Try.func8, Try.ntmps8
  go_wp2
  go_loopw [3, 30] (fun _ i wr => ∃ k : Nat, k ≤ n - 1 ∧ i = .int .i64 k ∧ (∀ j, j < k → P.getD j 0 < P.getD (j + 1) 0) ∧ Below w.heap.size w wr) (fun _ i _ => n - (RowKit.intOf i).toNat)
  case atStart => exact ⟨0, Nat.zero_le _, rfl, fun j h => absurd h (by omega), Below.refl _ _⟩
  case round =>
    obtain ⟨k, hk, rfl, hall, hB⟩ := hrel
    have HA := Lib.hid hall
    clear hall
    by_cases hlt : k < n - 1
    · have c0 := (hB.cell (p := ⟨b, off + k, none⟩) hb).trans (HG.out k (by omega))
      have c1 := (hB.cell (p := ⟨b, off + (k + 1), none⟩) hb).trans (HG.out (k + 1) (by omega))
      obtain ⟨x, hx⟩ : ∃ x, P.getD k 0 = x := ⟨_, rfl⟩
      obtain ⟨y, hy⟩ : ∃ x, P.getD (k + 1) 0 = x := ⟨_, rfl⟩
      rw [hx] at c0
      rw [hy] at c1
      have HX := Lib.hid hx
      have HY := Lib.hid hy
      clear hx hy
      by_cases hxy : x < y
      · go_wp2_with fail
        go_quiet (fail)
        go_wp2
        go_roundw
        case rel =>
          refine ⟨k + 1, by omega, by go_num, fun j hj => ?_, below_drewN hB _⟩
          rcases Nat.lt_or_ge j k with h | h
          · exact HA.out j h
          · obtain rfl : j = k := by omega
            rw [HX.out, HY.out]; exact hxy
        case measure => simp [RowKit.intOf]; omega
      · have hv : ((List.range (n - 1)).all fun k => decide (P.getD k 0 < P.getD (k + 1) 0)) = false := by
          rw [List.all_eq_false]
          exact ⟨k, List.mem_range.2 hlt, by rw [HX.out, HY.out]; simpa using hxy⟩
        have HV := Lib.hid hv
        clear hv
        go_wp2_with fail
        go_quiet (fail)
        go_wp2
        go_ret
        exact ⟨ret_bool HV.out.symm, below_drewN hB _⟩
    · obtain rfl : k = n - 1 := by omega
      have hv : ((List.range (n - 1)).all fun k => decide (P.getD k 0 < P.getD (k + 1) 0)) = true := by
        rw [List.all_eq_true]
        exact fun j hj => by simpa using HA.out j (List.mem_range.1 hj)
      have HV := Lib.hid hv
      clear hv
      go_wp2
      go_ret
      exact ⟨ret_bool HV.out.symm, hB⟩
theorem above_any (x r : Int) (b : Nat) (w : World) (hc : w.cell? ⟨b, 0, none⟩ = some (.int .i32 r)) :
    Calls Try.prog 15 #[.int .i32 x, .pointer (some ⟨b, 0, none⟩)] w fun e w' => e = .returned (.bool (decide (r < x))) ∧ Below w.heap.size w w' := by
  go_enter Try.func15, Try.ntmps15
  go_wp2
  go_ret
  exact ⟨rfl, Below.refl _ _⟩
set_option maxRecDepth 100000 in
set_option maxHeartbeats 1000000 in
theorem idx28_any (L : List Int) (A : Option Addr) (cap : Nat) (b : Nat) (r : Int) (w : World) (hX : Sl w A (i32s L)) (hn : L.length ≤ maxLen)
    (hb : b < w.heap.size) (hc : w.cell? ⟨b, 0, none⟩ = some (.int .i32 r)) :
    Calls Try.prog 14 #[.slice A L.length cap, .func (Fn.func 15) #[] #[.pointer (some ⟨b, 0, none⟩)]] w fun e w' => e = .returned (.int .i64 (Plain.idx (fun low => decide (r < low)) L)) ∧ Below w.heap.size w w' := by
  unfold maxLen at hn
  obtain ⟨n, hN⟩ : ∃ n, L.length = n := ⟨_, rfl⟩
  have HX := Lib.hid hX
  have HC := Lib.hid hc
  have HNN := Lib.hid hN
  rw [hN] at hn ⊢
  clear hX hc hN
  go_enter Try.func14, Try.ntmps14
  go_wp2
  go_loopw [5, 8] (fun _ i wr => ∃ k : Nat, k ≤ n ∧ i = .int .i64 k ∧ (∀ j, j < k → decide (r < L.getD j 0) = false) ∧ Below w.heap.size w wr) (fun _ i _ => n - (RowKit.intOf i).toNat)
  case atStart => exact ⟨0, Nat.zero_le _, rfl, fun j h => absurd h (by omega), Below.refl _ _⟩
  case round =>
    obtain ⟨k, hk, rfl, hall, hB⟩ := hrel
    have HA := Lib.hid hall
    clear hall
    by_cases hlt : k < n
    · have hkl : k < L.length := by rw [HNN.out]; exact hlt
      obtain ⟨ba, off, rfl, hba, c0⟩ := (HX.out.below hB).get k hkl
      have hcb := (hB.cell (p := ⟨b, 0, none⟩) hb).trans HC.out
      obtain ⟨x, hx⟩ : ∃ x, L.getD k 0 = x := ⟨_, rfl⟩
      rw [hx] at c0
      have HXX := Lib.hid hx
      clear hx
      obtain ⟨q, hq⟩ : ∃ q, decide (r < x) = q := ⟨_, rfl⟩
      have cS := fun (W : World) (h2 : W.cell? ⟨b, 0, none⟩ = some (.int .i32 r)) => above_any x r b W h2
      rw [hq] at cS
      have HQ := Lib.hid hq
      have HS := Lib.hid cS
      clear hq cS
      cases q
      · go_wp2_with (go_at_call 15; refine (HS.out _ hcb).mono ?_; rintro e w' ⟨rfl, hb1⟩)
        go_roundw
        case rel =>
          refine ⟨k + 1, by omega, by go_num, fun j hj => ?_, hB.trans ((by assumption : Below wr.heap.size wr _).mono hB.size)⟩
          rcases Nat.lt_or_ge j k with h | h
          · exact HA.out j h
          · obtain rfl : j = k := by omega
            rw [HXX.out]; exact HQ.out
        case measure => simp [RowKit.intOf]; omega
      · have hv := Plain.idx_some (fun low => decide (r < low)) L 0 k hkl HA.out (by rw [HXX.out]; exact HQ.out)
        have HV := Lib.hid hv
        clear hv
        go_wp2_with (go_at_call 15; refine (HS.out _ hcb).mono ?_; rintro e w' ⟨rfl, hb1⟩)
        go_ret
        exact ⟨ret_int HV.out.symm, hB.trans ((by assumption : Below wr.heap.size wr _).mono hB.size)⟩
    · obtain rfl : n = k := by omega
      have hv := Plain.idx_none (fun low => decide (r < low)) L 0 (by rw [HNN.out]; exact HA.out)
      have HV := Lib.hid hv
      clear hv
      go_wp2
      go_ret
      exact ⟨ret_int HV.out.symm, hB⟩
theorem Sl.drop1v {w : World} {b off : Nat} {xs : List Value} (h : Sl w (some ⟨b, off, none⟩) xs) : Sl w (some ⟨b, off + 1, none⟩) (xs.drop 1) := fun hn => by
  rw [List.length_drop] at hn
  obtain ⟨b', off', e, hb, hc⟩ := h (by omega)
  injection e with e
  injection e with e1 e2 e3
  subst e1 e2
  exact ⟨b, off + 1, rfl, hb, fun i u hu => by rw [Nat.add_assoc]; exact hc (1 + i) u (by rw [← hu, List.getElem?_drop])⟩
theorem part_idx (P : List Int) (r : Int) : (Plain.idx (fun low => decide (r < low)) (P.drop 1) = (Plain.partOf P r : Nat) ∧ Plain.partOf P r < P.length - 1) ∨ (Plain.idx (fun low => decide (r < low)) (P.drop 1) = -1 ∧ Plain.partOf P r = P.length - 1) := by
  unfold Plain.idx Plain.partOf
  cases h : (P.drop 1).any fun low => decide (r < low)
  · right
    refine ⟨rfl, ?_⟩
    rw [List.findIdx_eq_length.2 (fun x hx => by have := List.any_eq_false.1 h x hx; simpa using this), List.length_drop]
  · left
    refine ⟨rfl, ?_⟩
    obtain ⟨x, hx, hp⟩ := List.any_eq_true.1 h
    have := List.findIdx_lt_length_of_exists (p := fun low => decide (r < low)) ⟨x, hx, hp⟩
    rwa [List.length_drop] at this
set_option maxRecDepth 100000 in
set_option maxHeartbeats 1000000 in
theorem index_any (P : List Int) (A : Option Addr) (cap : Nat) (r : Int) (w : World) (hX : Sl w A (i32s P)) (h0 : 0 < P.length) (hn : P.length ≤ 64) (hcp : P.length ≤ cap) :
    Calls Try.prog 7 #[.slice A P.length cap, .int .i32 r] w fun e w' => e = .returned (.int .i64 (Plain.partOf P r : Nat)) ∧ Below w.heap.size w w' := by
  obtain ⟨b, off, rfl, hbl, _⟩ := hX (by simpa [i32s] using h0)
  have hdl : (P.drop 1).length = P.length - 1 := List.length_drop
  have hpi := part_idx P r
  have hb0 : Below w.heap.size w (w.alloc (.cells #[.int .i32 r] 21)) := (Below.refl _ _).alloc (Nat.le_refl _) _
  have c28 : ∀ o c, o = off + 1 ∨ P.length = 1 → Calls Try.prog 14 #[.slice (some ⟨b, o, none⟩) (P.length - 1) c, .func (Fn.func 15) #[] #[.pointer (some ⟨w.heap.size, 0, none⟩)]] (w.alloc (.cells #[.int .i32 r] 21)) fun e w' => e = .returned (.int .i64 (Plain.idx (fun low => decide (r < low)) (P.drop 1))) ∧ Below (w.alloc (.cells #[.int .i32 r] 21)).heap.size (w.alloc (.cells #[.int .i32 r] 21)) w' := fun o c ho => by
    rw [← hdl]
    refine idx28_any (P.drop 1) _ c w.heap.size r _ ?_ (by rw [hdl]; unfold maxLen; omega) (by simp) ((CellsAt.new w _ _).at_ 0 _ rfl)
    rcases ho with rfl | ho
    · have h := (hX.below hb0).drop1v
      unfold i32s at h ⊢
      rwa [← List.map_drop] at h
    · intro hh; simp [i32s] at hh; omega
  obtain ⟨k, hk⟩ : ∃ k, Plain.partOf P r = k := ⟨_, rfl⟩
  obtain ⟨z, hz⟩ : ∃ z, Plain.idx (fun low => decide (r < low)) (P.drop 1) = z := ⟨_, rfl⟩
  rw [hk, hz] at hpi
  rw [hz] at c28
  rw [hk]
  have HC := Lib.hid c28
  have HB0 := Lib.hid hb0
  clear c28 hb0 hdl hX hk hz
  obtain ⟨n, hN⟩ : ∃ n, P.length = n := ⟨_, rfl⟩
  rw [hN] at h0 hn hcp hpi HC ⊢
  clear hN
  have hmin : min (n : Int) 1 = 1 := by omega
  have hi1 : (1 : Int) ≤ (n : Int) := by omega
  have hi2 : (n : Int) ≤ (cap : Int) := by omega
  by_cases hc1 : cap = 1
  · have hn1 : n = 1 := by omega
    subst hc1 hn1
    go_enter Try.func7, Try.ntmps7
    have hC1 := HC.out off 0 (.inr (by simp))
    rw [show (1 : Nat) - 1 = 0 from rfl] at hC1
    have HC1 := Lib.hid hC1
    clear hC1
    go_wp2_with fail
    refine HC1.out.mono ?_
    rintro e w1 ⟨rfl, hb1⟩
    have hF := HB0.out.trans (hb1.mono (by simp))
    have HF := Lib.hid hF
    clear hF hb1
    rcases hpi with ⟨rfl, h⟩ | ⟨rfl, rfl⟩
    · omega
    · go_wp2
      go_ret
      exact ⟨rfl, HF.out⟩
  · go_enter Try.func7, Try.ntmps7
    go_wp2_with fail
    · refine (HC.out _ _ (.inl rfl)).mono ?_
      rintro e w1 ⟨rfl, hb1⟩
      have hF := HB0.out.trans (hb1.mono (by simp))
      have HF := Lib.hid hF
      clear hF hb1
      rcases hpi with ⟨rfl, h⟩ | ⟨rfl, rfl⟩
      · go_wp2
        go_ret
        exact ⟨rfl, HF.out⟩
      · go_wp2
        go_ret
        exact ⟨ret_int (by omega), HF.out⟩
    · obtain rfl : n = 1 := by omega
      have hC1 := HC.out (off + 1) (cap - 1) (.inl rfl)
      rw [show (1 : Nat) - 1 = 0 from rfl] at hC1
      refine hC1.mono ?_
      rintro e w1 ⟨rfl, hb1⟩
      have hF := HB0.out.trans (hb1.mono (by simp))
      have HF := Lib.hid hF
      clear hF hb1
      rcases hpi with ⟨rfl, h⟩ | ⟨rfl, rfl⟩
      · omega
      · go_wp2
        go_ret
        exact ⟨ret_int (by omega), HF.out⟩
end Go.Proofs.Ytoamjlnmpklcdaa
namespace Go.Proofs.Ytoamjlnmpklcdaa
open Go.RowKit Go.Lib
def lowAt (zs : List Int) (i : Int) : Int := if 0 ≤ i ∧ i < zs.length then zs.getD i.toNat 0 else 0
set_option maxRecDepth 100000 in
theorem low_any (zs : List Int) (A : Option Addr) (c : Nat) (i : Int) (w : World) (h : Sl w A (i32s zs)) :
    Calls Try.prog 9 #[.slice A zs.length c, .int .i64 i] w fun e w' => e = .returned (.int .i32 (lowAt zs i)) ∧ w' = w := by
  unfold lowAt
  obtain ⟨n, hN⟩ : ∃ n, zs.length = n := ⟨_, rfl⟩
  rw [hN]
  by_cases h0 : 0 ≤ i
  · have d0 : decide (i < 0) = false := by simp; omega
    by_cases h1 : i < n
    · have d1 : decide (i ≥ (n : Int)) = false := by simp; omega
      obtain ⟨k, rfl⟩ : ∃ k : Nat, i = (k : Int) := ⟨i.toNat, by omega⟩
      obtain ⟨b, off, rfl, hb, c0⟩ := Sl.get h k (by omega)
      obtain ⟨y, hy⟩ : ∃ y, zs.getD k 0 = y := ⟨_, rfl⟩
      rw [hy] at c0
      rw [if_pos ⟨h0, h1⟩, Int.toNat_natCast, hy]
      clear h hy hN
      go_enter Try.func9, Try.ntmps9
      go_wp2_with fail
      go_ret
      exact ⟨rfl, rfl⟩
    · have d1 : decide (i ≥ (n : Int)) = true := by simp; omega
      rw [if_neg (by omega)]
      clear h hN
      go_enter Try.func9, Try.ntmps9
      go_wp2_with fail
      go_ret
      exact ⟨rfl, rfl⟩
  · have d0 : decide (i < 0) = true := by simp; omega
    rw [if_neg (by omega)]
    clear h hN
    go_enter Try.func9, Try.ntmps9
    go_wp2_with fail
    go_ret
    exact ⟨rfl, rfl⟩
set_option maxRecDepth 100000 in
set_option maxHeartbeats 2000000 in
theorem isame_any (R S : List Int) (A B : Option Addr) (c d : Nat) (w : World) (hX : Sl w A (i32s R)) (hY : Sl w B (i32s S)) (hn : R.length ≤ 10000) (hn2 : S.length ≤ 10000) :
    Calls Try.prog 12 #[.slice A R.length c, .slice B S.length d] w fun e w' => e = .returned (.bool (decide (R = S))) ∧ Below w.heap.size w w' := by
  obtain ⟨n, hN⟩ : ∃ n, R.length = n := ⟨_, rfl⟩
  obtain ⟨m, hM⟩ : ∃ m, S.length = m := ⟨_, rfl⟩
  obtain ⟨q, hq⟩ : ∃ q, decide (R = S) = q := ⟨_, rfl⟩
  rw [hN] at hn ⊢
  rw [hM] at hn2 ⊢
  rw [hq]
  have HX := Lib.hid hX
  have HY := Lib.hid hY
  have HN := Lib.hid hN
  have HM := Lib.hid hM
  have HQ := Lib.hid hq
  clear hX hY hN hM hq
  by_cases hnm : n = m
  · have e1 : ((n : Int) != (m : Int)) = false := by rw [hnm]; simp
    have HNM := Lib.hid hnm
    clear hnm
    go_enter Try.func12, Try.ntmps12
    go_wp2
    go_loopw [5] (fun i wr => ∃ k : Nat, k ≤ n ∧ i = .int .i64 k ∧ Hid (∀ j, j < k → R.getD j 0 = S.getD j 0) ∧ RowKit.Below w.heap.size w wr) (fun i _ => n - (RowKit.intOf i).toNat)
    case atStart => exact ⟨0, Nat.zero_le _, rfl, Lib.hid (fun j h => absurd h (by omega)), RowKit.Below.refl _ _⟩
    case round =>
      obtain ⟨k, hk, rfl, HA, hB⟩ := hrel
      have HB := Lib.hid hB
      by_cases hlt : k < n
      · have hk1 : k < R.length := by rw [HN.out]; exact hlt
        have hk2 : k < S.length := by rw [HM.out, ← HNM.out]; exact hlt
        have hltm : k < m := by rw [← HNM.out]; exact hlt
        obtain ⟨ba, off, rfl, hba, c0⟩ := Sl.get (HX.out.below hB) k hk1
        obtain ⟨bb, off2, rfl, hbb, d0⟩ := Sl.get (HY.out.below hB) k hk2
        obtain ⟨r, hr⟩ : ∃ r, R.getD k 0 = r := ⟨_, rfl⟩
        obtain ⟨s, hs⟩ : ∃ s, S.getD k 0 = s := ⟨_, rfl⟩
        rw [hr] at c0
        rw [hs] at d0
        have HR := Lib.hid hr
        have HS := Lib.hid hs
        have g0 : (0 : Int) ≤ (k : Int) := by omega
        have g1 : (k : Int) < (n : Int) := by omega
        have g2 : (k : Int) < (m : Int) := by omega
        clear hr hs hB
        by_cases hrs : r = s
        · have e2 : (r != s) = false := by simp [hrs]
          subst hrs
          go_upto_region 6 with fail
          go_quiet (fail)
          have hBd := Lib.hid (below_then HB.out (⟨rfl, rfl, rfl, Nat.le_refl _, fun _ _ => rfl⟩ : RowKit.Below wr.heap.size wr (wr.drewN nq)))
          go_wp2
          go_roundw
          case rel =>
            refine ⟨k + 1, by omega, by go_num, Lib.hid (fun j hjk => ?_), hBd.out⟩
            by_cases e : j = k
            · subst e; rw [HR.out, HS.out]
            · exact HA.out j (by omega)
          case measure => simp [RowKit.intOf]; omega
        · have e2 : (r != s) = true := by simp [hrs]
          have e3 : (r == s) = false := by simp [hrs]
          have hqv : q = false := by
            rw [← HQ.out]
            simp only [decide_eq_false_iff_not]
            intro h; subst h
            exact hrs (HR.out.symm.trans HS.out)
          subst hqv
          go_upto_region 6 with fail
          go_quiet (fail)
          have hBd := Lib.hid (below_then HB.out (⟨rfl, rfl, rfl, Nat.le_refl _, fun _ _ => rfl⟩ : RowKit.Below wr.heap.size wr (wr.drewN nq)))
          go_wp2
          go_ret
          exact ⟨rfl, hBd.out⟩
      · have hqv : q = true := by
          rw [← HQ.out]
          refine decide_eq_true (List.ext_getElem (by rw [HN.out, HM.out, HNM.out]) fun j h1 h2 => ?_)
          have h3 := HA.out j (by rw [HN.out] at h1; omega)
          rw [List.getD_eq_getElem?_getD, List.getD_eq_getElem?_getD, List.getElem?_eq_getElem h1, List.getElem?_eq_getElem h2] at h3
          exact h3
        subst hqv
        clear hB
        go_wp2
        go_ret
        exact ⟨rfl, HB.out⟩
  · have e1 : ((n : Int) != (m : Int)) = true := by simp; omega
    have hqv : q = false := by
      rw [← HQ.out]
      simp only [decide_eq_false_iff_not]
      intro h; subst h
      exact hnm (HN.out.symm.trans HM.out)
    subst hqv
    go_enter Try.func12, Try.ntmps12
    go_wp2
    go_ret
    exact ⟨rfl, RowKit.Below.refl _ _⟩
theorem nan_any (x : Int) (w : World) : Calls Try.prog 36 #[.int .i32 x] w fun e w' => e = .returned (.bool false) ∧ w = w' := by
  go_enter Try.func36, Try.ntmps36
  go_wp2
  go_ret
  exact ⟨rfl, rfl⟩
theorem less_any (x y : Int) (w : World) : Calls Try.prog 43 #[.int .i32 x, .int .i32 y] w fun e w' => e = .returned (.bool (decide (x < y))) ∧ w = w' := by
  have cN := fun x w => nan_any x w
  go_enter Try.func43, Try.ntmps43
  go_wp2_with (go_at_call 36; (with_reducible refine (cN _ _).mono ?_); rintro e w' ⟨rfl, rfl⟩)
  go_ret
  exact ⟨rfl, rfl⟩
end Go.Proofs.Ytoamjlnmpklcdaa
