/- parts.Of of at most 64 right classes. Conditions: what each lemma says. -/
import Derived.Test.YtgppobaoclfgcaaGreatDoorSortT
import Derived.Test.YtgppobaoclfgcaaGreatDoorPgB
import Derived.Deep.RegionHeld3
import Derived.Deep.QuietTactic
import Derived.Deep.Cut
import Derived.Deep.DeepCutAuto
set_option linter.unusedVariables false
set_option linter.unusedSimpArgs false
namespace Go.Proofs.YtgppobaoclfgcaaGreatDoor.Plain
/-- where a range's parts begin -/
def end1 (r : Rg) : List Int := if r.2 < 1114111 then [r.1, r.2 + 1] else [r.1]
def ends (R : List Rg) : List Int := R.flatMap end1
theorem end1_len (r : Rg) : 1 ≤ (end1 r).length ∧ (end1 r).length ≤ 2 := by unfold end1; split <;> simp
theorem ends_take (R : List Rg) (k : Nat) : (ends (R.take k)).length ≤ (ends R).length := by
  have h : ends R = ends (R.take k) ++ ends (R.drop k) := by unfold ends; rw [← List.flatMap_append, List.take_append_drop]
  rw [h, List.length_append]; omega
end Go.Proofs.YtgppobaoclfgcaaGreatDoor.Plain
namespace Go.Proofs.YtgppobaoclfgcaaGreatDoor
open Go.RowKit Go.Lib
open Plain (Rg May mayB In Norm end1 ends Sor)
def allR (L : List Cs) : List Rg := L.flatMap Cs.R
theorem allR_take (L : List Cs) (k : Nat) : (ends (allR (L.take k))).length ≤ (ends (allR L)).length := by
  have h : ends (allR L) = ends (allR (L.take k)) ++ ends (allR (L.drop k)) := by unfold ends allR; rw [← List.flatMap_append, ← List.flatMap_append, List.take_append_drop]
  rw [h, List.length_append]; omega
theorem allR_snoc (L : List Cs) (k : Nat) (hk : k < L.length) : ends (allR (L.take (k + 1))) = ends (allR (L.take k)) ++ ends L[k].R := by
  unfold ends allR; rw [List.take_succ_eq_append_getElem hk, List.flatMap_append, List.flatMap_append]; simp
theorem ends_snoc (R : List Rg) (k : Nat) (hk : k < R.length) : ends (R.take (k + 1)) = ends (R.take k) ++ end1 R[k] := by
  unfold ends; rw [List.take_succ_eq_append_getElem hk, List.flatMap_append]; simp
theorem info21 : (Tryz.prog.info? 21).map (fun i => (i.zero, i.size, i.bytes)) = some (some (.int .i32 0), 1, 4) := by kernel_rfl
end Go.Proofs.YtgppobaoclfgcaaGreatDoor
namespace Go.Proofs.YtgppobaoclfgcaaGreatDoor
open Go.RowKit Go.Lib
open Plain (Rg May mayB In Norm end1 ends Sor)
end Go.Proofs.YtgppobaoclfgcaaGreatDoor
namespace Go.Proofs.YtgppobaoclfgcaaGreatDoor.Plain
/-- runes that rise -/
def Inc (P : List Int) : Prop := ∀ a b, a < b → b < P.length → P.getD a 0 < P.getD b 0
structure Cmpr (T T' : List Int) (k p : Nat) : Prop where
  len : T'.length = T.length
  rest : ∀ i, p - 1 ≤ i → T'.getD i 0 = T.getD i 0
  inc : ∀ a b, a < b → b < k → T'.getD a 0 < T'.getD b 0
  last : T'.getD (k - 1) 0 = T.getD (p - 1) 0
  mem : ∀ x, (∃ a, a < k ∧ T'.getD a 0 = x) ↔ (∃ a, a < p ∧ T.getD a 0 = x)
theorem Cmpr.start {T : List Int} {k : Nat} (h1 : 1 ≤ k) (hi : ∀ a b, a < b → b < k → T.getD a 0 < T.getD b 0) (he : T.getD k 0 = T.getD (k - 1) 0) : Cmpr T T k (k + 1) where
  len := rfl
  rest _ _ := rfl
  inc := hi
  last := by rw [Nat.add_sub_cancel, he]
  mem x := by
    constructor
    · rintro ⟨a, ha, h⟩; exact ⟨a, by omega, h⟩
    · rintro ⟨a, ha, h⟩
      by_cases e : a = k
      · subst e; exact ⟨a - 1, by omega, by rw [← he]; exact h⟩
      · exact ⟨a, by omega, h⟩
theorem Cmpr.same {T T' : List Int} {k p : Nat} (h : Cmpr T T' k p) (hp : 1 ≤ p) (he : T.getD p 0 = T.getD (p - 1) 0) : Cmpr T T' k (p + 1) where
  len := h.len
  rest i hi := h.rest i (by omega)
  inc := h.inc
  last := by rw [Nat.add_sub_cancel, he]; exact h.last
  mem x := by
    rw [h.mem x]
    constructor
    · rintro ⟨a, ha, hx⟩; exact ⟨a, by omega, hx⟩
    · rintro ⟨a, ha, hx⟩
      by_cases e : a = p
      · subst e; exact ⟨a - 1, by omega, by rw [← he]; exact hx⟩
      · exact ⟨a, by omega, hx⟩
theorem gset (T : List Int) (k i : Nat) (v : Int) (hk : k < T.length) : (T.set k v).getD i 0 = if i = k then v else T.getD i 0 := by
  simp only [List.getD_eq_getElem?_getD, List.getElem?_set]
  by_cases e : k = i
  · subst e; simp [hk]
  · rw [if_neg e, if_neg (fun h => e h.symm)]
theorem Cmpr.push {T T' : List Int} {k p : Nat} (h : Cmpr T T' k p) (hk1 : 1 ≤ k) (hkp : k + 1 ≤ p) (hp : p < T.length) (hs : T.getD (p - 1) 0 < T.getD p 0) : Cmpr T (T'.set k (T.getD p 0)) (k + 1) (p + 1) where
  len := by rw [List.length_set, h.len]
  rest i hi := by rw [gset _ _ _ _ (by rw [h.len]; omega), if_neg (by omega)]; exact h.rest i (by omega)
  inc a b hab hb := by
    rw [gset _ _ _ _ (by rw [h.len]; omega), gset _ _ _ _ (by rw [h.len]; omega), if_neg (by omega)]
    by_cases e : b = k
    · rw [if_pos e]
      have hl : T'.getD a 0 ≤ T'.getD (k - 1) 0 := by
        by_cases ea : a = k - 1
        · rw [ea]; exact Int.le_refl _
        · exact Int.le_of_lt (h.inc a (k - 1) (by omega) (by omega))
      rw [h.last] at hl
      omega
    · rw [if_neg e]; exact h.inc a b hab (by omega)
  last := by rw [Nat.add_sub_cancel, Nat.add_sub_cancel, gset _ _ _ _ (by rw [h.len]; omega), if_pos rfl]
  mem x := by
    constructor
    · rintro ⟨a, ha, hx⟩
      rw [gset _ _ _ _ (by rw [h.len]; omega)] at hx
      by_cases e : a = k
      · rw [if_pos e] at hx; exact ⟨p, by omega, hx⟩
      · rw [if_neg e] at hx
        obtain ⟨b, hb, h2⟩ := (h.mem x).1 ⟨a, by omega, hx⟩
        exact ⟨b, by omega, h2⟩
    · rintro ⟨a, ha, hx⟩
      by_cases e : a = p
      · subst e; exact ⟨k, by omega, by rw [gset _ _ _ _ (by rw [h.len]; omega), if_pos rfl]; exact hx⟩
      · obtain ⟨b, hb, h2⟩ := (h.mem x).2 ⟨a, by omega, hx⟩
        exact ⟨b, by omega, by rw [gset _ _ _ _ (by rw [h.len]; omega), if_neg (by omega)]; exact h2⟩
theorem mem_getD (T : List Int) (x : Int) : x ∈ T ↔ ∃ a, a < T.length ∧ T.getD a 0 = x := by
  rw [List.mem_iff_getElem]
  constructor
  · rintro ⟨a, ha, h⟩; exact ⟨a, ha, by rw [List.getD_eq_getElem?_getD, List.getElem?_eq_getElem ha]; exact h⟩
  · rintro ⟨a, ha, h⟩; exact ⟨a, ha, by rw [List.getD_eq_getElem?_getD, List.getElem?_eq_getElem ha] at h; exact h⟩
theorem getD_take (T : List Int) (k i : Nat) (h : i < k) : (T.take k).getD i 0 = T.getD i 0 := by
  simp only [List.getD_eq_getElem?_getD, List.getElem?_take, if_pos h]
theorem Cmpr.fin {T T' : List Int} {k : Nat} (h : Cmpr T T' k T.length) (hk : k ≤ T.length) : Inc (T'.take k) ∧ (∀ x, x ∈ T'.take k ↔ x ∈ T) ∧ (T'.take k).length = k := by
  have hl : (T'.take k).length = k := by rw [List.length_take, h.len]; omega
  refine ⟨fun a b hab hb => ?_, fun x => ?_, hl⟩
  · rw [hl] at hb
    rw [getD_take _ _ _ (by omega), getD_take _ _ _ hb]
    exact h.inc a b hab hb
  · rw [mem_getD, mem_getD, ← h.mem x, hl]
    constructor
    · rintro ⟨a, ha, hx⟩; exact ⟨a, ha, by rw [← hx, getD_take _ _ _ ha]⟩
    · rintro ⟨a, ha, hx⟩; exact ⟨a, ha, by rw [getD_take _ _ _ ha]; exact hx⟩
end Go.Proofs.YtgppobaoclfgcaaGreatDoor.Plain
namespace Go.Proofs.YtgppobaoclfgcaaGreatDoor
open Go.RowKit Go.Lib
open Plain (Sor Inc Cmpr)
theorem zero21 (w : World) : (zeroValue 21).run Tryz.prog w = .ok (.int .i32 0) w := by kernel_rfl
/-- the rest of an owned row of runes is cleared -/
theorem clear26 {w : World} {base g n cap : Nat} {xs : List Value} (h : w.ownsRow base 21 1 (.slice (some ⟨g, 0, none⟩) n cap) n xs) (i m c : Nat) (hi : i < n) (hm : i + m = n) (ty : TypeId) :
    ∃ w', (Builtin.clear_ #[23] ty #[.slice (some ⟨g, i, none⟩) m c]).run Tryz.prog w = .ok (.tuple #[]) w' ∧ w'.ownsRow base 21 1 (.slice (some ⟨g, 0, none⟩) i cap) i (xs.take i) ∧ Below base w w' := by
  have hl := h.1
  rcases h.2 with ⟨hv, _⟩ | ⟨g', cap', cur, hv, hbg, hg, hnc, hcm, hcs, htake⟩
  · cases hv
  · injection hv with h1 h2 h3
    injection h1 with h1
    injection h1 with h1
    subst h1 h3
    have hz : (Builtin.zeroCells (Value.int .i32 0).cells m).toList.length = m := by simp [Builtin.zeroCells, Value.cells]
    have h1c : ∀ v ∈ (Builtin.zeroCells (Value.int .i32 0).cells m).toList, v.oneCell' = true := by
      intro v hv
      simp [Builtin.zeroCells, Value.cells] at hv
      obtain ⟨a, _, rfl⟩ := hv
      rw [Nat.mod_one]
      rfl
    have hst := run_storeCells_at Tryz.prog g i 21 (Builtin.zeroCells (Value.int .i32 0).cells m).toList 0 cur w hg (by rw [hz]; omega) h1c
    obtain ⟨Z, hZ⟩ : ∃ Z, (Builtin.zeroCells (Value.int .i32 0).cells m).toList = Z := ⟨_, rfl⟩
    rw [hZ] at hst hz
    have hrow := setRow_heap w g cur ((cur.toList.take (i + 0) ++ Z ++ cur.toList.drop (i + 0 + Z.length)).toArray) 21 (0, 0) hg
    refine ⟨w.setRow g ((cur.toList.take (i + 0) ++ Z ++ cur.toList.drop (i + 0 + Z.length)).toArray), ?_, ?_, below_setRow (Below.refl _ _) hbg _⟩
    · obtain ⟨q, hq⟩ : ∃ q, m = q + 1 := ⟨m - 1, by omega⟩
      rw [hq] at hZ ⊢
      simp only [Builtin.clear_, Sem.run_bind, run_underlying Tryz.underlying23, Result.andThen_ok]
      simp [zero21, hZ, hst]
    · refine ⟨by rw [List.length_take, hl]; omega, .inr ⟨g, cap, _, rfl, hbg, hrow, by omega, hcm, ?_, ?_⟩⟩
      · simp only [List.size_toArray, List.length_append, List.length_take, List.length_drop, Array.length_toList]
        omega
      · simp only [Nat.add_zero]
        rw [List.append_assoc, List.take_append_of_le_length (by rw [List.length_take, Array.length_toList]; omega), List.take_take, Nat.mul_one, Nat.min_self, ← htake, List.take_take, Nat.mul_one, Nat.min_eq_left (by omega)]
def CompPost (base g c : Nat) (T : List Int) (w : World) (e : Ending) (w' : World) : Prop :=
  ∃ (m : Nat) (P : List Int), e = .returned (.slice (some ⟨g, 0, none⟩) m c) ∧ P.length = m ∧ m ≤ c ∧ Inc P ∧ (∀ x, x ∈ P ↔ x ∈ T) ∧ Sl w' (some ⟨g, 0, none⟩) (i32s P) ∧ Below base w w'
set_option maxRecDepth 100000 in
set_option maxHeartbeats 4000000 in
/-- slices.Compact of runes in their order -/
theorem compactg_any (T : List Int) (base g c n : Nat) (w : World) (hO : w.ownsRow base 21 1 (.slice (some ⟨g, 0, none⟩) n c) n (i32s T)) (hT : T.length = n) (hn0 : 0 < n) (hn : n ≤ 1000000) (hs : Sor T n) :
    Calls Tryz.prog 35 #[.slice (some ⟨g, 0, none⟩) n c] w (CompPost base g c T w) := by
  have HO := Lib.hid hO
  have HT := Lib.hid hT
  have HS := Lib.hid hs
  have HNC := Lib.hid (own_cap hO)
  have HBG := Lib.hid (show base ≤ g by
    obtain ⟨g', cap, hv, _, hbg, _⟩ := own_at hO hn0
    injection hv with hv1
    injection hv1 with hv1
    injection hv1 with hv1
    rw [hv1]; exact hbg)
  clear hO hT hs
  have fin0 : ∀ k, k = n → (∀ j, j + 1 < k → T.getD j 0 < T.getD (j + 1) 0) → Inc T := by
    intro k hk hj a b hab hb
    rw [HT.out] at hb
    obtain ⟨d, hd⟩ : ∃ d, b = a + 1 + d := ⟨b - a - 1, by omega⟩
    subst hd
    have h1 := hj a (by omega)
    have h2 := HS.out
    by_cases e : d = 0
    · subst e; exact h1
    · have := h2 (a + 1) (a + 1 + d) (by omega) hb; omega
  have FIN0 := Lib.hid fin0
  clear fin0
  by_cases h2 : n < 2
  · have d1 : decide ((n : Int) < 2) = true := decide_eq_true (by omega)
    have d2 : decide (n < 2) = true := decide_eq_true h2
    go_enter Tryz.func35, Tryz.ntmps35
    go_wp2_with fail
    go_ret
    exact ⟨n, T, rfl, HT.out, HNC.out, FIN0.out n rfl (fun j hj => by omega), fun x => Iff.rfl, own_Sl HO.out (by unfold i32s; rw [List.length_map]; exact HT.out), Below.refl _ _⟩
  · have d1 : decide ((n : Int) < 2) = false := decide_eq_false (by omega)
    have d2 : decide (n < 2) = false := decide_eq_false h2
    go_enter Tryz.func35, Tryz.ntmps35
    go_wp2_with fail
    go_loopw [3, 4, 5] (fun i _ _ wr => ∃ k : Nat, 1 ≤ k ∧ k ≤ n ∧ i = .int .i64 k ∧ (∀ j, j + 1 < k → T.getD j 0 < T.getD (j + 1) 0) ∧ RowKit.Below w.heap.size w wr) (fun i _ _ _ => n - (RowKit.intOf i).toNat)
    case atStart => exact ⟨1, Nat.le_refl _, by omega, rfl, fun j hj => by omega, Below.refl _ _⟩
    case round =>
      obtain ⟨k, hk1, hkn, rfl, hinc, hB⟩ := hrel
      obtain ⟨w0, rfl⟩ : ∃ x, x = wr := ⟨_, rfl⟩
      have HB := Lib.hid hB
      have HO2 := Lib.hid (own_below HO.out hB)
      have HINC := Lib.hid hinc
      clear hB hinc
      by_cases hlt : k < n
      case neg =>
        obtain rfl : k = n := by omega
        have dk : decide ((k : Int) < (k : Int)) = false := by simp
        go_wp2_with fail
        go_ret
        exact ⟨k, T, rfl, HT.out, HNC.out, FIN0.out k rfl HINC.out, fun x => Iff.rfl, own_Sl HO2.out (by unfold i32s; rw [List.length_map]; exact HT.out), HB.out.mono (Nat.le_of_lt (Nat.lt_of_le_of_lt HBG.out (lt_of_some (own_blk HO.out).choose_spec)))⟩
      have dk : decide ((k : Int) < (n : Int)) = true := decide_eq_true (by omega)
      have dkn : decide (k < n) = true := decide_eq_true hlt
      obtain ⟨j, hj⟩ : ∃ j, k = j + 1 := ⟨k - 1, by omega⟩
      have hjw : IntKind.i64.wrap ((k : Int) - 1) = (j : Int) := by rw [IntKind.wrap_i64]; omega
      have jn : j < n := by omega
      have kl : k < T.length := by rw [HT.out]; exact hlt
      have jl : j < T.length := by rw [HT.out]; omega
      have c0 := own_cell HO2.out k _ (i32s_at T k kl)
      have c1 := own_cell HO2.out j _ (i32s_at T j jl)
      have lg := lt_of_some (own_blk HO2.out).choose_spec
      have hle := HS.out j k (by omega) (by omega)
      obtain ⟨x, hx⟩ : ∃ x, T.getD k 0 = x := ⟨_, rfl⟩
      obtain ⟨y, hy⟩ : ∃ y, T.getD j 0 = y := ⟨_, rfl⟩
      rw [hx] at c0 hle
      rw [hy] at c1 hle
      have HX := Lib.hid hx
      have HY := Lib.hid hy
      have HJ := Lib.hid hj
      clear hx hy hj kl jl
      by_cases hxy : x = y
      case neg =>
        have hb : (x == y) = false := beq_eq_false_iff_ne.2 hxy
        go_upto_region 6 with fail
        go_quiet (fail)
        have HB3 := Lib.hid (bnq HB.out nq)
        go_wp2_with fail
        go_roundw
        case rel =>
          refine ⟨k + 1, by omega, by omega, by go_num, fun i hi => ?_, HB3.out⟩
          by_cases e : i + 1 < k
          · exact HINC.out i e
          · obtain rfl : i = j := by have := HJ.out; omega
            have := HX.out
            have hjj := HJ.out
            rw [← hjj, HX.out, HY.out]; omega
        case measure => simp [RowKit.intOf]; omega
      · have hb : (x == y) = true := by rw [hxy]; exact beq_self_eq_true _
        have hst : Cmpr T T k (k + 1) := Cmpr.start hk1 (fun a b hab hb => by
          have h3 := HINC.out
          obtain ⟨d, hd⟩ : ∃ d, b = a + 1 + d := ⟨b - a - 1, by omega⟩
          subst hd
          have h4 := h3 a (by omega)
          by_cases e : d = 0
          · subst e; exact h4
          · have := HS.out (a + 1) (a + 1 + d) (by omega) (by omega); omega) (by rw [HX.out, hxy, ← HY.out]; congr 1; have := HJ.out; omega)
        have HST := Lib.hid hst
        clear hst
        go_upto_region 6 with fail
        go_quiet (fail)
        have HB3 := Lib.hid (bnq HB.out nq)
        have HO3 := Lib.hid (own_below HO2.out (below_drewN (RowKit.Below.refl _ w0) nq))
        obtain ⟨w1, hw1⟩ : ∃ x, w0.drewN nq = x := ⟨_, rfl⟩
        rw [hw1] at HB3 HO3 ⊢
        clear hw1 c0 c1 lg
        obtain ⟨m, hm⟩ : ∃ m, n - k = m := ⟨_, rfl⟩
        obtain ⟨cm, hcm⟩ : ∃ m, c - k = m := ⟨_, rfl⟩
        have f1 : ((n : Int) - (k : Int)).toNat = m := by omega
        have hck : ¬ c = k := by have := HNC.out; omega
        go_wp2_with fail
        have HM := Lib.hid (And.intro hm hcm)
        clear hm hcm f1
        go_loopw [3, 5] (fun x y wr => ∃ (k1 k2 : Nat) (T' : List Int), x = .int .i64 (k1 : Int) ∧ y = .int .i64 (k2 : Int) ∧ 1 ≤ k2 ∧ k2 ≤ m ∧ 1 ≤ k1 ∧ k1 + 1 ≤ k + k2 ∧ Cmpr T T' k1 (k + k2) ∧ wr.ownsRow base 21 1 (.slice (some ⟨g, 0, none⟩) n c) n (i32s T') ∧ RowKit.Below base w wr) (fun _ y _ => m - (RowKit.intOf y).toNat)
        case atStart => exact ⟨k, 1, T, rfl, rfl, Nat.le_refl _, by have := HM.out; omega, hk1, Nat.le_refl _, HST.out, HO3.out, HB3.out.mono (Nat.le_of_lt (Nat.lt_of_le_of_lt HBG.out (lt_of_some (own_blk HO.out).choose_spec)))⟩
        case round =>
          obtain ⟨k1, k2, T', rfl, rfl, h21, h2m, h11, h12, hc, hO, hB⟩ := hrel
          obtain ⟨w2, rfl⟩ : ∃ x, x = wr := ⟨_, rfl⟩
          have HC := Lib.hid hc
          have HO4 := Lib.hid hO
          have HB4 := Lib.hid hB
          have HR2 := Lib.hid (And.intro h21 (And.intro h2m (And.intro h11 h12)))
          have hT'l : T'.length = n := by rw [hc.len]; exact HT.out
          clear hc hO hB h21 h2m h11 h12
          by_cases hlt2 : k2 < m
          case neg =>
            have dm : decide ((k2 : Int) < (m : Int)) = false := decide_eq_false (by omega)
            have dmn : decide (k2 < m) = false := decide_eq_false hlt2
            have hk1n : k1 < n := by have := HR2.out; have := HM.out; omega
            have hcf := HC.out
            rw [show k + k2 = T.length by have := HR2.out; have := HM.out; have := HT.out; omega] at hcf
            obtain ⟨q1, q2, q3⟩ := hcf.fin (by rw [HT.out]; omega)
            obtain ⟨m1, hm1⟩ : ∃ m, n - k1 = m := ⟨_, rfl⟩
            obtain ⟨cm1, hcm1⟩ : ∃ m, c - k1 = m := ⟨_, rfl⟩
            obtain ⟨w', hcl, hO5, hB5⟩ := clear26 HO4.out k1 m1 cm1 hk1n (by omega) 0
            have hnc := HNC.out
            have HO5 := Lib.hid hO5
            have HB5 := Lib.hid (HB4.out.trans hB5)
            have HQ := Lib.hid (And.intro q1 (And.intro q2 q3))
            have hk1c : k1 ≤ c := by omega
            have hck1 : ¬ c = k1 := by omega
            clear hO5 hB5 q1 q2 q3 hcf
            go_wp2_with fail
            go_ret
            refine ⟨k1, T'.take k1, rfl, HQ.out.2.2, hk1c, HQ.out.1, HQ.out.2.1, own_Sl (c := c) (n := k1) (base := base) (e := 21) (size := 1) ?_ (by unfold i32s; rw [List.length_map]; exact HQ.out.2.2), HB5.out⟩
            have h := HO5.out
            unfold i32s at h ⊢
            rw [List.map_take]
            exact h
          have dm : decide ((k2 : Int) < (m : Int)) = true := decide_eq_true (by omega)
          have dmn : decide (k2 < m) = true := decide_eq_true hlt2
          obtain ⟨j2, hj2⟩ : ∃ j, k2 - 1 = j := ⟨_, rfl⟩
          have ej2 : IntKind.i64.wrap ((k2 : Int) - 1) = (j2 : Int) := by have := HR2.out; have := HM.out; rw [IntKind.wrap_i64]; omega
          have pn : k + k2 < n := by have := HM.out; omega
          have qn : k + j2 < n := by omega
          have j2m : j2 < m := by omega
          have hpq : k + k2 - 1 = k + j2 := by have := HR2.out; omega
          have c0 := own_cell HO4.out (k + k2) _ (i32s_at T' (k + k2) (by omega))
          have c1 := own_cell HO4.out (k + j2) _ (i32s_at T' (k + j2) (by omega))
          have lg := lt_of_some (own_blk HO4.out).choose_spec
          have hr0 := HC.out.rest (k + k2) (by omega)
          have hr1 := HC.out.rest (k + j2) (by omega)
          rw [hr0] at c0
          rw [hr1] at c1
          have hle := HS.out (k + j2) (k + k2) (by have := HR2.out; omega) pn
          have hsame := HC.out.same (by omega)
          have hpush := HC.out.push HR2.out.2.2.1 HR2.out.2.2.2 (by rw [HT.out]; exact pn)
          rw [hpq] at hsame hpush
          obtain ⟨x2, hx2⟩ : ∃ x, T.getD (k + k2) 0 = x := ⟨_, rfl⟩
          obtain ⟨y2, hy2⟩ : ∃ x, T.getD (k + j2) 0 = x := ⟨_, rfl⟩
          obtain ⟨k21, hk21⟩ : ∃ x, k2 + 1 = x := ⟨_, rfl⟩
          obtain ⟨k11, hk11⟩ : ∃ x, k1 + 1 = x := ⟨_, rfl⟩
          rw [hx2] at c0 hle hsame hpush
          rw [hy2] at c1 hle hsame hpush
          rw [Nat.add_assoc, hk21] at hsame hpush
          rw [hk11] at hpush
          have ek21 : IntKind.i64.wrap ((k2 : Int) + 1) = (k21 : Int) := by rw [IntKind.wrap_i64]; omega
          have ek11 : IntKind.i64.wrap ((k1 : Int) + 1) = (k11 : Int) := by have := HR2.out; rw [IntKind.wrap_i64]; omega
          have HX2 := Lib.hid hx2
          have HSAME := Lib.hid hsame
          have HPUSH := Lib.hid hpush
          have HK2 := Lib.hid (And.intro hj2 (And.intro hk21 hk11))
          have k1n : k1 < n := by have := HR2.out; omega
          clear hr0 hr1 hsame hpush hx2 hy2 hk21 hk11 hj2 hpq
          by_cases hxy2 : x2 = y2
          · have hb2 : (x2 != y2) = false := by simp [hxy2]
            go_upto_region 11 with fail
            go_quiet (fail)
            have HB5 := Lib.hid (bnq HB4.out nq)
            have HO5 := Lib.hid (own_below HO4.out (below_drewN (RowKit.Below.refl _ w2) nq))
            go_wp2_with fail
            go_roundw
            case rel => exact ⟨k1, k21, T', rfl, rfl, by have := HK2.out; omega, by have := HK2.out; omega, HR2.out.2.2.1, by have := HK2.out; have := HR2.out; omega, HSAME.out hxy2, HO5.out, HB5.out⟩
            case measure => simp [RowKit.intOf]; have := HK2.out; omega
          · have hb2 : (x2 != y2) = true := by simpa using hxy2
            have hlt3 : y2 < x2 := by omega
            have HPP := Lib.hid (HPUSH.out hlt3)
            go_upto_region 11 with fail
            go_quiet (fail)
            have HB5 := Lib.hid (bnq HB4.out nq)
            have HO5 := Lib.hid (own_below HO4.out (below_drewN (RowKit.Below.refl _ w2) nq))
            obtain ⟨w3, hw3⟩ : ∃ x, w2.drewN nq = x := ⟨_, rfl⟩
            rw [hw3] at HB5 HO5 ⊢
            clear hw3 c0 c1 lg
            have c0 := own_cell HO5.out (k + k2) _ (i32s_at T' (k + k2) (by omega))
            have c2 := own_cell HO5.out k1 _ (i32s_at T' k1 (by omega))
            have lg := lt_of_some (own_blk HO5.out).choose_spec
            have f2 := own_frozen HO5.out k1
            have hr0 := HC.out.rest (k + k2) (by omega)
            rw [hr0, HX2.out] at c0
            have hst := (World.ownsRow.stored HO5.out k1 (.int .i32 x2)).1
            rw [i32s_set] at hst
            have HO6 := Lib.hid hst
            have HB6 := Lib.hid (HB5.out.setCell (p := ⟨g, k1, none⟩) HBG.out (.int .i32 x2))
            clear hst hr0
            go_wp2_with fail
            go_roundw
            case rel => exact ⟨k11, k21, _, rfl, rfl, by have := HK2.out; omega, by have := HK2.out; omega, by have := HK2.out; omega, by have := HK2.out; have := HR2.out; omega, HPP.out, HO6.out, HB6.out⟩
            case measure => simp [RowKit.intOf]; have := HK2.out; omega
end Go.Proofs.YtgppobaoclfgcaaGreatDoor
namespace Go.Proofs.YtgppobaoclfgcaaGreatDoor
open Go.RowKit Go.Lib
open Plain (Rg May mayB In Norm end1 ends Sor Inc)
theorem ends_le2 (R : List Rg) : (ends R).length ≤ 2 * R.length := by
  induction R with
  | nil => simp [ends]
  | cons r R ih =>
    have h : ends (r :: R) = end1 r ++ ends R := by simp [ends]
    rw [h, List.length_append, List.length_cons]
    have := (Plain.end1_len r).2
    omega
theorem ends_bd (L : List Cs) (h : ∀ x ∈ L, Norm x.R ∧ x.R.length ≤ 64) (hl : L.length ≤ 64) : (ends (allR L)).length ≤ 9998 := by
  have h1 : (allR L).length ≤ 64 * L.length := by
    clear hl
    induction L with
    | nil => simp [allR]
    | cons x L ih =>
      have e : allR (x :: L) = x.R ++ allR L := by simp [allR]
      rw [e, List.length_append, List.length_cons]
      have h2 := (h x (by simp)).2
      have h3 := ih (fun y hy => h y (by simp [hy]))
      omega
  have h2 := ends_le2 (allR L)
  omega
def OuRelG (w : World) (L : List Cs) (v i : Value) (wr : World) : Prop :=
  ∃ (k n : Nat) (E : List Int), k ≤ L.length ∧ i = .int .i64 k ∧ E = 0 :: ends (allR (L.take k)) ∧ E.length = n ∧ n ≤ 9999 ∧ wr.ownsRow w.heap.size 21 1 v n (i32s E) ∧ Below w.heap.size w wr
def InRelG (w : World) (E : List Int) (R : List Rg) (v i : Value) (wr : World) : Prop :=
  ∃ (q n : Nat) (G : List Int), q ≤ R.length ∧ i = .int .i64 q ∧ G = E ++ ends (R.take q) ∧ G.length = n ∧ n ≤ 9999 ∧ wr.ownsRow w.heap.size 21 1 v n (i32s G) ∧ Below w.heap.size w wr
/-- parts: those that begin somewhere in E, or too many -/
def OfPostG (w : World) (E : List Int) (en : Ending) (w' : World) : Prop :=
  ∃ P, Inc P ∧ (∀ x, x ∈ P ↔ x ∈ E) ∧ Below w.heap.size w w' ∧
    ((P.length ≤ 64 ∧ ∃ A c, en = .returned (.tuple #[.slice A P.length c, .int .i64 0]) ∧ Sl w' A (i32s P) ∧ P.length ≤ c) ∨ (64 < P.length ∧ en = .returned (.tuple #[.slice none 0 0, .int .i64 3])))
set_option maxRecDepth 100000 in
set_option maxHeartbeats 8000000 in
theorem ofg_any (L : List Cs) (A0 : Option Addr) (c0 : Nat) (w : World) (hX : Sl w A0 (L.map clV)) (hRs : ∀ x ∈ L, Rs w x.A x.R) (hrt : ∀ x ∈ L, Norm x.R ∧ x.R.length ≤ 64) (hl : L.length ≤ 64) :
    Calls Tryz.prog 16 #[.slice A0 L.length c0] w (OfPostG w (0 :: ends (allR L))) := by
  obtain ⟨i21, hi21, y0, y1, y2⟩ := info_parts info21
  have hbw : Below w.heap.size w (w.alloc (.cells #[.int .i32 0] 21)) := (Below.refl _ _).alloc (Nat.le_refl _) _
  have hO0 : (w.alloc (.cells #[.int .i32 0] 21)).ownsRow w.heap.size 21 1 (.slice (some ⟨w.heap.size, 0, none⟩) 1 1) 1 (i32s [0]) := ⟨rfl, .inr ⟨w.heap.size, 1, #[.int .i32 0], rfl, Nat.le_refl _, heap_alloc_new2 _ _ _ _ rfl, Nat.le_refl _, by unfold maxLen; omega, rfl, rfl⟩⟩
  have HO0 := Lib.hid hO0
  have HBW := Lib.hid hbw
  have HX := Lib.hid hX
  have HRS := Lib.hid hRs
  have HRT := Lib.hid hrt
  have H12 := Lib.hid (ends_bd L hrt hl)
  obtain ⟨m, hm⟩ : ∃ m, L.length = m := ⟨_, rfl⟩
  rw [hm] at hl ⊢
  have HM := Lib.hid hm
  clear hO0 hbw hX hRs hrt hm
  go_enter Tryz.func16, Tryz.ntmps16
  go_wp2_with fail
  go_loopw [4, 12] (fun v i wr => OuRelG w L v i wr) (fun _ i _ => m - (RowKit.intOf i).toNat)
  case atStart => exact ⟨0, 1, [0], Nat.zero_le _, rfl, rfl, rfl, by omega, HO0.out, HBW.out⟩
  case round =>
    obtain ⟨k, n, E, hk, rfl, hE, hn, hn12, hO, hB⟩ := hrel
    rw [HM.out] at hk
    obtain ⟨ua, uc, rfl⟩ := own_slice hO
    have HO := Lib.hid hO
    have HB := Lib.hid hB
    have HE := Lib.hid hE
    have HN := Lib.hid hn
    clear hO hB hE hn
    by_cases hlt : k < m
    · have hkl : k < L.length := by rw [HM.out]; exact hlt
      obtain ⟨x, hx⟩ : ∃ x, L[k] = x := ⟨_, rfl⟩
      have hxm : x ∈ L := by rw [← hx]; exact List.getElem_mem hkl
      obtain ⟨ba, off, rfl, hba, hcs⟩ := (HX.out.below HB.out) (by rw [List.length_map]; omega)
      have c0 := hcs k (clV x) (by rw [List.getElem?_map, List.getElem?_eq_getElem hkl, hx]; rfl)
      have hrs0 := HRS.out x hxm
      have hrs := (HRS.out x hxm).below HB.out
      have hrt := HRT.out x hxm
      have hsn := allR_snoc L k hkl
      rw [hx] at hsn
      have h11 := allR_take L (k + 1)
      have H11 := Lib.hid h11
      obtain ⟨XA, xc, R⟩ := x
      unfold clV at c0
      dsimp only at c0 hrs hrs0 hrt hsn
      have hRl : R.length ≤ 64 := hrt.2
      obtain ⟨rl, hrl⟩ : ∃ rl, R.length = rl := ⟨_, rfl⟩
      rw [hrl] at c0 hRl
      have CR := Lib.hid (right_any R XA rl xc wr hrs hrl (by unfold maxLen; omega))
      have HRS0 := Lib.hid hrs0
      have HRSx := Lib.hid hrs
      have HRTx := Lib.hid hrt
      have HSN := Lib.hid hsn
      have HRL := Lib.hid hrl
      clear hrs hrs0 hrt hsn hcs hx hxm hrl h11
      go_wp2_with fail
      refine CR.out.mono ?_
      rintro e w2 ⟨b, rfl, hb, hb2⟩
      have hbt : b = true := hb.2 HRTx.out
      subst hbt
      have HB2 := Lib.hid (below_then HB.out hb2)
      have HO2 := Lib.hid (own_below HO.out hb2)
      have HRS2 := Lib.hid (HRSx.out.below hb2)
      clear hb hb2 c0 hba
      go_wp2_with fail
      obtain ⟨w3, rfl⟩ : ∃ w3, w3 = w2 := ⟨_, rfl⟩
      go_loopw [4, 21] (fun v i wr => InRelG w E R v i wr) (fun _ i _ => rl - (RowKit.intOf i).toNat)
      case atStart => exact ⟨0, n, E, Nat.zero_le _, rfl, by simp [ends], HN.out, hn12, HO2.out, HB2.out⟩
      case round =>
        obtain ⟨q, n2, G, hq, rfl, hG, hn2, hn212, hO, hB⟩ := hrel
        rw [HRL.out] at hq
        obtain ⟨va, vc, rfl⟩ := own_slice hO
        have HOr := Lib.hid hO
        have HBr := Lib.hid hB
        have HG := Lib.hid hG
        have HN2 := Lib.hid hn2
        clear hO hB hG hn2
        by_cases hlq : q < rl
        · have hql : q < R.length := by rw [HRL.out]; exact hlq
          obtain ⟨bb, of, rfl, hbb, c0, c1⟩ := (HRS0.out.below HBr.out).get q hql
          obtain ⟨r, hr⟩ : ∃ r, R[q] = r := ⟨_, rfl⟩
          have hrm := Plain.Norm_may HRTx.out.1 r (by rw [← hr]; exact List.getElem_mem hql)
          have hes := ends_snoc R q hql
          rw [hr] at c0 c1 hes
          have h11 : (ends (allR (L.take (k + 1)))).length ≤ 9998 := Nat.le_trans H11.out H12.out
          have hlen : G.length + (end1 r).length ≤ 9999 := by
            have h1 := Plain.ends_take R (q + 1)
            rw [hes, List.length_append] at h1
            rw [HSN.out, List.length_append] at h11
            have h2 : E.length = 1 + (ends (allR (L.take k))).length := by rw [HE.out]; simp; omega
            have h3 : G.length = E.length + (ends (R.take q)).length := by rw [HG.out, List.length_append]
            omega
          rw [HN2.out] at hlen
          obtain ⟨lo, hi⟩ := r
          obtain ⟨b1, b2, b3⟩ := hrm
          dsimp only at c0 c1 b1 b2 b3
          have HES := Lib.hid hes
          have HLEN := Lib.hid hlen
          clear hes hr h11 hlen
          go_upto_region 10 with fail
          obtain ⟨wb, hwa⟩ : ∃ x, wr.alloc (.cells #[.int .i32 lo, .int .i32 hi] 71) = x := ⟨_, rfl⟩
          have hba2 : Below wr.heap.size wr wb := by rw [← hwa]; exact (Below.refl _ _).alloc (Nat.le_refl _) _
          have hxa : wb.heap[wr.heap.size]? = some (.cells #[.int .i32 lo, .int .i32 hi] 71 (0, 0)) := by rw [← hwa]; exact heap_alloc_new2 _ _ _ _ rfl
          rw [hwa]
          obtain ⟨x0, x1, x2, x3⟩ := box2 hxa
          have lx := lt_of_some hxa
          have HXA := Lib.hid hxa
          have HBb := Lib.hid (below_then HBr.out hba2)
          have HOb := Lib.hid (own_below HOr.out hba2)
          clear hwa hba2 hxa c0 c1 hbb
          go_wp2_with (at_builtin; refine wpList_append_own2 _ rfl (.tmp 25) (.tmp 28) _ rfl w.heap.size 21 i21 _ 1 4 Tryz.underlying23 hi21 y0 y1 y2 rfl (by decide) (.slice va n2 vc) n2 (i32s G) rfl (HOb.out.alloc _) ⟨wb.heap.size, 0, none⟩ 1 1 [.int .i32 lo] rfl rfl (CellsAt_add (CellsAt.new wb _ _)) (fun u hu => by simp only [List.mem_cons, List.not_mem_nil, or_false] at hu; subst hu; rfl) (by simp only [maxLen]; omega) (by omega) (by have := HBb.out.size; simp; omega) ?_)
          intro v7 w7 hown7 hg7 hvb7
          obtain ⟨a7, d7, rfl⟩ := own_slice hown7
          have hB7 : Below w.heap.size w w7 := (HBb.out.alloc HBb.out.size _).grown hg7 (by have := HBb.out.size; simp; omega) (fun g hg => (HOb.out.lt g hg).1)
          have hx7 : w7.heap[wr.heap.size]? = some (.cells #[.int .i32 lo, .int .i32 hi] 71 (0, 0)) := blk_grown HXA.out hg7 (fun e => by have := (HOr.out.lt _ e).2; omega)
          have HB7 := Lib.hid hB7
          have HO7 := Lib.hid hown7
          have HX7 := Lib.hid hx7
          clear hB7 hg7 hown7 hvb7 hx7 x0 x1 x2 x3 lx
          obtain ⟨x0, x1, x2, x3⟩ := box2 HX7.out
          have lx := lt_of_some HX7.out
          have hown7 := HO7.out
          by_cases hm : hi < 1114111
          · have d1 : decide (hi < 1114111) = true := by simp [hm]
            have e1 : IntKind.i32.wrap (hi + 1) = hi + 1 := by rw [IntKind.wrap_i32]; omega
            have hend : end1 (lo, hi) = [lo, hi + 1] := by unfold end1; rw [if_pos hm]
            have hl12 : n2 + 2 ≤ 9999 := by have := HLEN.out; rw [hend] at this; exact this
            have HEND := Lib.hid hend
            have HOs := Lib.hid (show w7.ownsRow w.heap.size 21 1 (.slice a7 (n2 + 1) d7) (n2 + 1) (i32s (G ++ [lo])) by have h := HO7.out; unfold i32s at h ⊢; rw [List.map_append]; exact h)
            have HOr0 := HOr
            clear hown7 hend
            go_wp2_with (at_builtin; refine wpList_append_own2 _ rfl (.tmp 33) (.tmp 37) _ rfl w.heap.size 21 i21 _ 1 4 Tryz.underlying23 hi21 y0 y1 y2 rfl (by decide) (.slice a7 (n2 + 1) d7) (n2 + 1) (i32s (G ++ [lo])) rfl (HOs.out.alloc _) ⟨w7.heap.size, 0, none⟩ 1 1 [.int .i32 (hi + 1)] rfl rfl (CellsAt_add (CellsAt.new w7 _ _)) (fun u hu => by simp only [List.mem_cons, List.not_mem_nil, or_false] at hu; subst hu; rfl) (by simp only [maxLen]; omega) (by omega) (by have := HB7.out.size; simp; omega) ?_)
            intro v8 w8 hown8 hg8 hvb8
            have hB8 : Below w.heap.size w w8 := (HB7.out.alloc HB7.out.size _).grown hg8 (by have := HB7.out.size; simp; omega) (fun g hg => (HOs.out.lt g hg).1)
            have HB8 := Lib.hid hB8
            have HO8 := Lib.hid hown8
            clear hB8 hg8 hown8 hvb8 x0 x1 x2 x3 lx
            go_wp2
            go_roundw
            case rel =>
              refine ⟨q + 1, n2 + 1 + 1, G ++ [lo, hi + 1], by rw [HRL.out]; omega, by go_num, ?_, ?_, by omega, ?_, HB8.out⟩
              · rw [HES.out, HEND.out, HG.out, List.append_assoc]
              · rw [List.length_append, HN2.out]; rfl
              · have h := HO8.out
                have e : i32s (G ++ [lo, hi + 1]) = i32s (G ++ [lo]) ++ [.int .i32 (hi + 1)] := by unfold i32s; simp
                rw [e]; exact h
            case measure => simp [RowKit.intOf]; omega
          · have d1 : decide (hi < 1114111) = false := by simp; omega
            have hend : end1 (lo, hi) = [lo] := by unfold end1; rw [if_neg hm]
            have hl12 : n2 + 1 ≤ 9999 := by have := HLEN.out; rw [hend] at this; exact this
            have HEND := Lib.hid hend
            clear hown7 hend
            go_wp2_with fail
            go_roundw
            case rel =>
              refine ⟨q + 1, n2 + 1, G ++ [lo], by rw [HRL.out]; omega, by go_num, ?_, ?_, by omega, ?_, HB7.out⟩
              · rw [HES.out, HEND.out, HG.out, List.append_assoc]
              · rw [List.length_append, HN2.out]; rfl
              · have h := HO7.out
                have e : i32s (G ++ [lo]) = i32s G ++ [.int .i32 lo] := by unfold i32s; simp
                rw [e]; exact h
            case measure => simp [RowKit.intOf]; omega
        · obtain rfl : q = rl := by omega
          have hT : R.take q = R := List.take_of_length_le (by rw [HRL.out]; exact Nat.le_refl _)
          have hG := HG.out
          rw [hT] at hG
          have HGE := Lib.hid hG
          clear hT hG
          go_wp2_with fail
          go_roundw
          case rel =>
            refine ⟨k + 1, n2, G, by omega, by go_num, ?_, HN2.out, hn212, HOr.out, HBr.out⟩
            rw [HGE.out, HE.out, HSN.out]; rfl
          case measure => simp [RowKit.intOf]; omega
    · obtain rfl : k = m := by omega
      have hT : L.take k = L := List.take_of_length_le (by rw [HM.out]; exact Nat.le_refl _)
      have hE := HE.out
      rw [hT] at hE
      have hnE : n = 1 + (ends (allR L)).length := by rw [← HN.out, hE]; simp; omega
      obtain ⟨g, cap, hv, hnc, hbg, _⟩ := own_at HO.out (by omega)
      injection hv with hv1 hv2 hv3
      subst hv1 hv3
      clear hv2
      have CS := Lib.hid (sortr_any E w.heap.size g uc n wr HO.out HN.out (by omega) (by omega))
      have hsl : (srt E).length = n := by rw [(srt_perm E).length_eq]; exact HN.out
      have HSL := Lib.hid hsl
      have HEE := Lib.hid hE
      have HNE := Lib.hid hnE
      have hn1 : 1 ≤ n := by omega
      clear hT hE hnE hsl
      go_wp2_with fail
      refine CS.out.mono ?_
      rintro e w2 ⟨rfl, hO2, hb2⟩
      have HB2 := Lib.hid (HB.out.trans hb2)
      have CC := Lib.hid (compactg_any (srt E) w.heap.size g uc n w2 hO2 HSL.out (by omega) (by omega) (srt_sor E n HN.out))
      clear hO2 hb2
      go_wp2_with fail
      refine CC.out.mono ?_
      rintro e w4 ⟨pm, P, rfl, hPl, hPc, hPi, hPm, hPs, hb4⟩
      have HB4 := Lib.hid (HB2.out.trans hb4)
      have HP := Lib.hid (And.intro hPl (And.intro hPc (And.intro hPi (And.intro (show ∀ x, x ∈ P ↔ x ∈ 0 :: ends (allR L) from fun x => by rw [hPm x, (srt_perm E).mem_iff, HEE.out]) hPs))))
      clear hb4 hPl hPc hPi hPm hPs
      by_cases h64 : 64 < pm
      · have d1 : decide ((pm : Int) > 64) = true := decide_eq_true (by omega)
        have d2 : decide (64 < pm) = true := decide_eq_true h64
        go_wp2_with fail
        go_ret2
        exact ⟨P, HP.out.2.2.1, HP.out.2.2.2.1, HB4.out, .inr ⟨by rw [HP.out.1]; exact h64, rfl⟩⟩
      · have d1 : decide ((pm : Int) > 64) = false := decide_eq_false (by omega)
        have d2 : decide (64 < pm) = false := decide_eq_false h64
        go_wp2_with fail
        go_ret2
        exact ⟨P, HP.out.2.2.1, HP.out.2.2.2.1, HB4.out, .inl ⟨by rw [HP.out.1]; omega, some ⟨g, 0, none⟩, uc, by rw [HP.out.1]; rfl, HP.out.2.2.2.2, by rw [HP.out.1]; exact HP.out.2.1⟩⟩
end Go.Proofs.YtgppobaoclfgcaaGreatDoor
