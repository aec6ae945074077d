/- The document's Reach and Asserts (chapter 8): what they compute. Conditions: at most 2^20 instructions. -/
import Derived.Test.YtpeheppiolfpfaaDoorRefD
import Derived.Test.YtpeheppiolfpfaaDoorReachA
set_option linter.unusedVariables false
set_option linter.unusedSimpArgs false
namespace Go.Proofs.YtpeheppiolfpfaaDoor
open Go.RowKit Go.Lib
open Plain (In4 insB nextL Rch getD_set count_set getD_rep)
/-- what the document's table of reached ones holds on the way -/
structure FI (L : List In4) (O : List Bool) : Prop where
  len : O.length = L.length
  zero : 0 < L.length → O.getD 0 false = true
  snd : ∀ k, O.getD k false = true → Rch L k
/-- where an instruction goes to is told, if it is -/
def Clo (L : List In4) (O : List Bool) (i : Nat) : Prop := O.getD i false = true → ∀ m : Nat, m < L.length → (m : Int) ∈ nextL (L.getD i (0, 0, 0, 0)) → O.getD m false = true
theorem FI.start (L : List In4) (h : 0 < L.length) : FI L ((List.replicate L.length false).set 0 true) where
  len := by simp
  zero _ := by rw [getD_set _ _ _ (by simpa using h), if_pos rfl]
  snd k hk := by
    rw [getD_set _ _ _ (by simpa using h)] at hk
    by_cases e : k = 0
    · subst e; exact Rch.zero h
    · rw [if_neg e, getD_rep] at hk; cases hk
theorem FI.empty (L : List In4) (h : L.length = 0) : FI L [] where
  len := by simp [h]
  zero h0 := by omega
  snd k hk := by simp at hk
theorem FI.set {L : List In4} {O : List Bool} (h : FI L O) {i m : Nat} (hi : O.getD i false = true) (hm : m < L.length) (hn : (m : Int) ∈ nextL (L.getD i (0, 0, 0, 0))) : FI L (O.set m true) where
  len := by rw [List.length_set, h.len]
  zero h0 := by
    rw [getD_set _ _ _ (by rw [h.len]; exact hm)]
    split
    · rfl
    · exact h.zero h0
  snd k hk := by
    rw [getD_set _ _ _ (by rw [h.len]; exact hm)] at hk
    by_cases e : k = m
    · subst e; exact (h.snd i hi).step hm hn
    · rw [if_neg e] at hk; exact h.snd k hk
theorem FI.done {L : List In4} {O : List Bool} (h : FI L O) (hc : ∀ i, i < L.length → Clo L O i) (k : Nat) (hk : k < L.length) : O.getD k false = true ↔ Rch L k := by
  constructor
  · exact h.snd k
  · intro hr
    exact hr.2 (fun j => O.getD j false = true) (h.zero (by omega)) (fun a m ha hs hm hn => hc a ha hs m hm hn)
theorem Clo.off {L : List In4} {O : List Bool} {i : Nat} (h : O.getD i false = false) : Clo L O i := fun h1 => by rw [h] at h1; cases h1
theorem Clo.none {L : List In4} {O : List Bool} {i : Nat} {t : In4} (ht : L.getD i (0, 0, 0, 0) = t) (h : t.1 < 1 ∨ 5 < t.1) : Clo L O i := fun _ m _ hn => by
  rw [ht] at hn
  unfold nextL at hn
  rw [if_neg (by omega), if_neg (by omega)] at hn
  cases hn
theorem next_x {t : In4} (h1 : 1 ≤ t.1) (h5 : t.1 ≤ 5) : t.2.1 ∈ nextL t := by
  unfold nextL
  by_cases h : t.1 = 2
  · rw [if_pos h]; simp
  · rw [if_neg h, if_pos (by omega)]; simp
theorem next_y {t : In4} (h : t.1 = 2) : t.2.2.1 ∈ nextL t := by unfold nextL; rw [if_pos h]; simp
theorem next_of {t : In4} {z : Int} (h : z ∈ nextL t) : z = t.2.1 ∨ (t.1 = 2 ∧ z = t.2.2.1) := by
  unfold nextL at h
  split at h
  · simp at h; rcases h with e | e
    · exact .inl e
    · exact .inr ⟨by assumption, e⟩
  · split at h
    · simp at h; exact .inl h
    · cases h
theorem Clo.both {L : List In4} {O : List Bool} {i : Nat} {t : In4} (ht : L.getD i (0, 0, 0, 0) = t) (hx : ∀ m : Nat, m < L.length → (m : Int) = t.2.1 → O.getD m false = true) (hy : t.1 = 2 → ∀ m : Nat, m < L.length → (m : Int) = t.2.2.1 → O.getD m false = true) : Clo L O i := fun _ m hm hn => by
  rw [ht] at hn
  rcases next_of hn with e | ⟨e1, e⟩
  · exact hx m hm e
  · exact hy e1 m hm e
/-- one that is told, more -/
def Up1 (L : List In4) (O O2 : List Bool) (b b2 : Bool) (P : Prop) : Prop := (b2 = b ∧ O2 = O ∧ P) ∨ (b2 = true ∧ FI L O2 ∧ O2.count false < O.count false ∧ ∀ k, O.getD k false = true → O2.getD k false = true)
theorem Up1.put {L : List In4} {O : List Bool} {b : Bool} {P : Prop} (h : FI L O) {i m : Nat} (hi : O.getD i false = true) (hm : m < L.length) (hn : (m : Int) ∈ nextL (L.getD i (0, 0, 0, 0))) (hf : O.getD m false = false) : Up1 L O (O.set m true) b true P := by
  refine .inr ⟨rfl, h.set hi hm hn, ?_, fun k hk => ?_⟩
  · have := count_set O m (by rw [h.len]; exact hm) hf; omega
  · rw [getD_set _ _ _ (by rw [h.len]; exact hm)]
    split
    · rfl
    · exact hk
end Go.Proofs.YtpeheppiolfpfaaDoor
namespace Go.Proofs.YtpeheppiolfpfaaDoor
open Go.RowKit Go.Lib
open Plain (In4 insB nextL Rch getD_set count_set getD_rep)
theorem bls_store {w : World} {go : Nat} {O : List Bool} (h : w.heap[go]? = some (.cells (bls O) 4 (0, 0))) (k : Nat) : (w.setCell ⟨go, k, none⟩ (.bool true)).heap[go]? = some (.cells (bls (O.set k true)) 4 (0, 0)) := by
  have h1 := heap_setCell_same w go k _ _ (.bool true) h
  rw [h1]
  unfold bls
  rw [List.map_set]
  simp
theorem bls_set (O : List Bool) (k : Nat) : (bls O).setIfInBounds k (.bool true) = bls (O.set k true) := by unfold bls; rw [List.map_set]; simp
theorem bls_cell {w : World} {go : Nat} {O : List Bool} (h : w.heap[go]? = some (.cells (bls O) 4 (0, 0))) {k : Nat} (hk : k < O.length) : w.cell? ⟨go, k, none⟩ = some (.bool (O.getD k false)) := by
  rw [cell_of_row _ _ _ _ _ _ h]
  simp [bls, hk, List.getD_eq_getElem?_getD, List.getElem?_eq_getElem hk]
theorem rinside_any (n m : Int) (w : World) : Calls Tryd.prog 30 #[.int .i64 n, .int .i64 m] w fun e w' => e = .returned (.bool (insB n m)) ∧ w' = w := by
  unfold Plain.insB
  by_cases h : 0 ≤ n
  · have d0 : decide (n ≥ 0) = true := by simp [h]
    rw [decide_eq_true h]
    go_enter Tryd.func30, Tryd.ntmps30
    go_wp2_with fail
    go_ret
    exact ⟨by simp, rfl⟩
  · have d0 : decide (n ≥ 0) = false := by simp; omega
    rw [decide_eq_false h]
    go_enter Tryd.func30, Tryd.ntmps30
    go_wp2_with fail
    go_ret
    exact ⟨rfl, rfl⟩
/-- the table on the way: the box of the program, the row of Booleans -/
structure RS (w : World) (b3 : Array Value) (L : List In4) (go : Nat) (O : List Bool) (W : World) : Prop where
  bel : Below w.heap.size w W
  box : W.heap[w.heap.size]? = some (.cells b3 36 (0, 0))
  row : W.heap[go]? = some (.cells (bls O) 4 (0, 0))
  fi : FI L O
theorem RS.alloc {w W : World} {b3 : Array Value} {L : List In4} {go : Nat} {O : List Bool} (h : RS w b3 L go O W) (o : Obj) : RS w b3 L go O (W.alloc o) :=
  ⟨h.bel.alloc h.bel.size _, blk_alloc h.box o, blk_alloc h.row o, h.fi⟩
theorem RS.put {w W : World} {b3 : Array Value} {L : List In4} {go : Nat} {O : List Bool} (h : RS w b3 L go O W) (hgo : w.heap.size < go) {k : Nat} (hf : FI L (O.set k true)) : RS w b3 L go (O.set k true) (W.setCell ⟨go, k, none⟩ (.bool true)) :=
  ⟨h.bel.setCell (p := ⟨go, k, none⟩) (Nat.le_of_lt hgo) _, (heap_setCell_other W ⟨go, k, none⟩ w.heap.size (.bool true) (Nat.ne_of_lt hgo)).trans h.box, bls_store h.row k, hf⟩
set_option maxRecDepth 100000 in
set_option maxHeartbeats 8000000 in
theorem rreach_any (I C : Option Addr) (L : List In4) (c m d : Nat) (g : Int) (w : World) (hI : Sl w I (i4s L)) (hl : L.length ≤ 1048576) :
    Calls Tryd.prog 13 #[.agg #[.slice I L.length c, .slice C m d, .int .i64 g]] w (ReachRes L w) := by
  obtain ⟨n, hN⟩ : ∃ n, L.length = n := ⟨_, rfl⟩
  rw [hN] at hl ⊢
  have hmk := fun (W : World) => make_bools W n hl
  obtain ⟨b3, hb3⟩ : ∃ z : Array Value, #[.slice I n c, .slice C m d, .int .i64 g] = z := ⟨_, rfl⟩
  obtain ⟨wb, hwb⟩ : ∃ z, w.alloc (.cells #[.slice I n c, .slice C m d, .int .i64 g] 36) = z := ⟨_, rfl⟩
  have hbb : Below w.heap.size w wb := by rw [← hwb]; exact (Below.refl _ _).alloc (Nat.le_refl _) _
  have hblk : wb.heap[w.heap.size]? = some (.cells #[.slice I n c, .slice C m d, .int .i64 g] 36 (0, 0)) := by rw [← hwb]; exact heap_alloc_new2 _ _ _ _ rfl
  have x0 := (blk_cells3 hblk).1
  have lx := lt_of_some hblk
  have hrow0 : (wb.alloc (.cells (bls (List.replicate n false)) 4)).heap[wb.heap.size]? = some (.cells (bls (List.replicate n false)) 4 (0, 0)) := heap_alloc_new2 _ _ _ _ rfl
  have HW0 := Lib.hid (show Below w.heap.size w (wb.alloc (.cells (bls (List.replicate n false)) 4)) ∧ (wb.alloc (.cells (bls (List.replicate n false)) 4)).heap[w.heap.size]? = some (.cells b3 36 (0, 0)) from ⟨hbb.alloc hbb.size _, by rw [← hb3]; exact blk_alloc hblk _⟩)
  have HR0 := Lib.hid hrow0
  have HBB := Lib.hid hbb
  have HBK := Lib.hid (show wb.heap[w.heap.size]? = some (.cells b3 36 (0, 0)) by rw [← hb3]; exact hblk)
  have HI := Lib.hid hI
  have HN := Lib.hid hN
  have HB3 := Lib.hid hb3
  have CI := Lib.hid (fun z k (W : World) => rinside_any z k W)
  have hlt0 := lt_of_some hrow0
  have hfr : ∀ j, (wb.alloc (.cells (bls (List.replicate n false)) 4)).frozen? ⟨wb.heap.size, j, none⟩ = false := fun j => blk_frozen hrow0 j
  clear hI hN hbb hblk hrow0 hb3
  go_enter Tryd.func13, Tryd.ntmps13
  go_upto_if 13 with fail
  go_cut [] (fun wx => ∃ O, RS w b3 L wb.heap.size O wx ∧ O.count false ≤ n)
  case first =>
    by_cases h0 : 0 < n
    · have d0 : decide ((n : Int) > 0) = true := decide_eq_true (by omega)
      have d0n : decide (0 < n) = true := decide_eq_true h0
      have c0 := bls_cell HR0.out (k := 0) (by simpa using h0)
      have f0 := hfr 0
      have HS := Lib.hid (show RS w b3 L wb.heap.size ((List.replicate n false).set 0 true) (wb.alloc (.cells ((bls (List.replicate n false)).setIfInBounds 0 (.bool true)) 4)) from
        ⟨HBB.out.alloc HBB.out.size _, blk_alloc HBK.out _, by rw [bls_set]; exact heap_alloc_new2 _ _ _ _ rfl, by have h := FI.start L (by rw [HN.out]; exact h0); rw [HN.out] at h; exact h⟩)
      go_wp2_with fail
      go_meet
      case rel => exact ⟨_, HS.out, by have h := List.count_le_length (a := false) (l := (List.replicate n false).set 0 true); simpa using h⟩
    · have d0 : decide ((n : Int) > 0) = false := decide_eq_false (by omega)
      have d0n : decide (0 < n) = false := decide_eq_false h0
      have hn0 : n = 0 := by omega
      have HS := Lib.hid (show RS w b3 L wb.heap.size (List.replicate n false) (wb.alloc (.cells (bls (List.replicate n false)) 4)) from
        ⟨HW0.out.1, HW0.out.2, HR0.out, by rw [hn0]; exact FI.empty L (by rw [HN.out, hn0])⟩)
      clear hn0
      go_wp2_with fail
      go_meet
      case rel => exact ⟨_, HS.out, by simp⟩
  case rest =>
    obtain ⟨O0, hS0, hc0⟩ := hcut
    obtain ⟨w2, rfl⟩ : ∃ z, z = wc := ⟨_, rfl⟩
    have HS0 := Lib.hid hS0
    obtain ⟨go, hgo⟩ : ∃ z, wb.heap.size = z := ⟨_, rfl⟩
    rw [hgo] at HS0 lx ⊢
    clear hS0 hlt0 hfr hmk
    go_wp2_with fail
    go_loopg [4] (2 * O0.count false + 1) (fun gk bv wr => ∃ (O : List Bool) (b : Bool), bv = .bool b ∧ RS w b3 L go O wr ∧ gk = 2 * O.count false + (if b then 1 else 0) ∧ gk ≤ 2 * O0.count false + 1 ∧ (b = false → ∀ i, i < L.length → Clo L O i))
    case atStart => exact ⟨O0, true, rfl, HS0.out, by rfl, Nat.le_refl _, fun h => by cases h⟩
    case round =>
      obtain ⟨O, b, rfl, hS, hgk, hgn, hcl⟩ := hrel
      obtain ⟨w3, rfl⟩ : ∃ z, z = wr := ⟨_, rfl⟩
      have HS := Lib.hid hS
      cases b with
      | false =>
        have HCL := Lib.hid (hcl rfl)
        clear hS hgk hgn hcl
        go_wp2_with fail
        go_ret
        exact ⟨go, O, by rw [HN.out]; rfl, HS.out.fi.len, HS.out.row, fun k hk => HS.out.fi.done HCL.out k hk, HS.out.bel⟩
      | true =>
        have HGK := Lib.hid (show gk = 2 * O.count false + 1 ∧ gk ≤ 2 * O0.count false + 1 from ⟨hgk, hgn⟩)
        clear hS hgk hgn hcl
        go_wp2_with fail
        go_loopw [4, 5, 6] (fun bv iv _ wr => ∃ (O2 : List Bool) (b2 : Bool) (i : Nat), bv = .bool b2 ∧ iv = .int .i64 (i : Int) ∧ i ≤ n ∧ RS w b3 L go O2 wr ∧ ((b2 = false ∧ O2 = O ∧ ∀ j, j < i → Clo L O j) ∨ (b2 = true ∧ O2.count false < O.count false))) (fun _ iv _ _ => n - (RowKit.intOf iv).toNat)
        case atStart => exact ⟨O, false, 0, rfl, rfl, Nat.zero_le _, HS.out, .inl ⟨rfl, rfl, fun j hj => by omega⟩⟩
        case round =>
          obtain ⟨O2, b2, i, rfl, rfl, hin, hS2, hinv⟩ := hrel
          obtain ⟨w4, rfl⟩ : ∃ z, z = wr := ⟨_, rfl⟩
          have HS2 := Lib.hid hS2
          have HV := Lib.hid hinv
          clear hS2 hinv
          by_cases hlt : i < n
          case neg =>
            have hie : i = n := by omega
            have d0 : decide ((i : Int) < (n : Int)) = false := decide_eq_false (by omega)
            have d0n : decide (i < n) = false := decide_eq_false hlt
            rcases HV.out with ⟨rfl, rfl, hc⟩ | ⟨rfl, hc⟩
            · have HC := Lib.hid (show ∀ j, j < L.length → Clo L O2 j from fun j hj => hc j (by rw [hie, ← HN.out]; exact hj))
              clear hie hc
              go_wp2_with fail
              go_roundg (2 * O2.count false)
              case measure => have := HGK.out; omega
              case rel => exact ⟨O2, false, rfl, HS2.out, by rfl, by have := HGK.out; omega, fun _ => HC.out⟩
            · have HC := Lib.hid hc
              clear hie hc
              go_wp2_with fail
              go_roundg (2 * O2.count false + 1)
              case measure => have := HGK.out; have := HC.out; omega
              case rel => exact ⟨O2, true, rfl, HS2.out, by rfl, by have := HGK.out; have := HC.out; omega, fun h => by cases h⟩
          have d0 : decide ((i : Int) < (n : Int)) = true := decide_eq_true (by omega)
          have d0n : decide (i < n) = true := decide_eq_true hlt
          have hil : i < L.length := by rw [HN.out]; exact hlt
          obtain ⟨b, off, hIe, hbb, c0, c1, c2, c3⟩ := i4_at (HI.out.below HS2.out.bel) i hil
          obtain ⟨t, ht⟩ : ∃ t, L[i] = t := ⟨_, rfl⟩
          have hLd : L.getD i (0, 0, 0, 0) = t := by rw [Plain.getD_lt L (0, 0, 0, 0) i hil, ht]
          rw [ht] at c0 c1 c2 c3
          have HLD := Lib.hid hLd
          obtain ⟨op, x, y, a⟩ := t
          dsimp only at c0 c1 c2 c3
          have bx := HS2.out.box
          rw [← HB3.out] at bx
          have x0 := (blk_cells3 bx).1
          have lxw := lt_of_some bx
          subst hIe
          have i0 : (0 : Int) ≤ (i : Int) := by omega
          clear bx ht hLd
          go_upto_region 11 with fail
          obtain ⟨w5, hw5⟩ : ∃ z, w4.alloc (.cells #[.int .i64 op, .int .i64 x, .int .i64 y, .int .i64 a] 47) = z := ⟨_, rfl⟩
          have hS5 : RS w b3 L go O2 w5 := by rw [← hw5]; exact HS2.out.alloc _
          have hbx5 : w5.heap[w4.heap.size]? = some (.cells #[.int .i64 op, .int .i64 x, .int .i64 y, .int .i64 a] 47 (0, 0)) := by rw [← hw5]; exact heap_alloc_new2 _ _ _ _ rfl
          rw [hw5]
          have hgo4 : go < w4.heap.size := lt_of_some HS2.out.row
          have HS5 := Lib.hid hS5
          have HBX := Lib.hid hbx5
          obtain ⟨gb, hgb⟩ : ∃ z, w4.heap.size = z := ⟨_, rfl⟩
          rw [hgb] at HBX hgo4 ⊢
          clear hw5 hS5 hbx5 hgb c0 c1 c2 c3 x0 lxw
          have hOl : O2.length = n := by rw [HS5.out.fi.len, HN.out]
          obtain ⟨q0, q1, q2, q3⟩ := blk_cells4 HBX.out
          have lq := lt_of_some HBX.out
          have lgo := lt_of_some HS5.out.row
          have co := bls_cell HS5.out.row (k := i) (by rw [hOl]; exact hlt)
          have cx : ∀ k, k < n → w5.cell? ⟨go, k, none⟩ = some (.bool (O2.getD k false)) := fun k hk => bls_cell HS5.out.row (by rw [hOl]; exact hk)
          have HCX := Lib.hid cx
          clear cx
          -- one that stays as it is
          have stay : Clo L O2 i → ((b2 = false ∧ O2 = O ∧ ∀ j, j < i + 1 → Clo L O j) ∨ (b2 = true ∧ O2.count false < O.count false)) := fun hc => by
            rcases HV.out with ⟨h1, h2, h3⟩ | h
            · refine .inl ⟨h1, h2, fun j hj => ?_⟩
              by_cases e : j = i
              · subst e; rw [← h2]; exact hc
              · exact h3 j (by omega)
            · exact .inr h
          have HST := Lib.hid stay
          clear stay
          obtain ⟨oi, hoi⟩ : ∃ z, O2.getD i false = z := ⟨_, rfl⟩
          rw [hoi] at co
          have HOI := Lib.hid hoi
          clear hoi
          cases oi with
          | false =>
            have HC := Lib.hid (HST.out (Clo.off HOI.out))
            go_wp2_with fail
            go_roundw
            case rel => exact ⟨O2, b2, i + 1, rfl, by go_num, by omega, HS5.out, HC.out⟩
            case measure => simp [RowKit.intOf]; omega
          | true =>
          by_cases hop1 : op < 1
          · have d1 : decide (op < 1) = true := decide_eq_true hop1
            have HC := Lib.hid (HST.out (Clo.none HLD.out (.inl hop1)))
            go_wp2_with fail
            go_roundw
            case rel => exact ⟨O2, b2, i + 1, rfl, by go_num, by omega, HS5.out, HC.out⟩
            case measure => simp [RowKit.intOf]; omega
          have d1 : decide (op < 1) = false := decide_eq_false hop1
          by_cases hop5 : 5 < op
          · have d5 : decide (op > 5) = true := decide_eq_true hop5
            have HC := Lib.hid (HST.out (Clo.none HLD.out (.inr hop5)))
            go_wp2_with fail
            go_roundw
            case rel => exact ⟨O2, b2, i + 1, rfl, by go_num, by omega, HS5.out, HC.out⟩
            case measure => simp [RowKit.intOf]; omega
          have d5 : decide (op > 5) = false := decide_eq_false hop5
          have hxn : x ∈ nextL (L.getD i (0, 0, 0, 0)) := by rw [HLD.out]; exact next_x (by show 1 ≤ op; omega) (by show op ≤ 5; omega)
          have HXN := Lib.hid hxn
          clear hxn
          obtain ⟨bi, hbi⟩ : ∃ z, insB x (n : Int) = z := ⟨_, rfl⟩
          have CX1 := Lib.hid (CI.out x (n : Int) w5)
          rw [hbi] at CX1
          have HBI := Lib.hid hbi
          obtain ⟨cX, hcX⟩ : ∃ z, (bi && !(O2.getD x.toNat false)) = z := ⟨_, rfl⟩
          have HCXX := Lib.hid hcX
          clear hbi hcX
          go_upto_region 12 with fail
          go_cut [4, 55] (fun s4 s55 wx => s4 = .bool b2 ∧ s55 = .bool cX ∧ wx = w5)
          case first =>
            cases bi with
            | false =>
              have HF := Lib.hid (show cX = false by rw [← HCXX.out]; rfl)
              go_wp2_with fail
              refine CX1.out.mono ?_
              rintro e w6 ⟨rfl, rfl⟩
              go_wp2_with fail
              go_meet
              case rel => exact ⟨rfl, by rw [HF.out], rfl⟩
            | true =>
              obtain ⟨hz0, hzn⟩ := (insB_iff x n).1 HBI.out
              obtain ⟨k, rfl⟩ := Int.eq_ofNat_of_zero_le hz0
              have hkn : k < n := by omega
              have ck := HCX.out k hkn
              have j0 : (0 : Int) ≤ (k : Int) := by omega
              have j1 : (k : Int) < (n : Int) := by omega
              obtain ⟨ok, hok⟩ : ∃ z, O2.getD k false = z := ⟨_, rfl⟩
              rw [hok] at ck
              have HF := Lib.hid (show cX = !ok by rw [← HCXX.out, Int.toNat_natCast, hok]; rfl)
              clear hok
              go_wp2_with fail
              refine CX1.out.mono ?_
              rintro e w6 ⟨rfl, rfl⟩
              go_wp2_with fail
              go_meet
              case rel => exact ⟨rfl, by rw [HF.out], rfl⟩
          case rest =>
            obtain ⟨rfl, rfl, rfl⟩ := hcut
            obtain ⟨w6, rfl⟩ : ∃ z, z = wc := ⟨_, rfl⟩
            have hPX : (cX = true → ∃ k : Nat, x = (k : Int) ∧ k < n ∧ O2.getD k false = false) ∧ (cX = false → ∀ m : Nat, m < L.length → (m : Int) = x → O2.getD m false = true) := by
              have h1 := HCXX.out
              rw [← HBI.out] at h1
              refine ⟨fun h => ?_, fun h k hk he => ?_⟩
              · rw [h, Bool.and_eq_true, Bool.not_eq_true'] at h1
                obtain ⟨hz0, hzn⟩ := (insB_iff x n).1 h1.1
                obtain ⟨k, rfl⟩ := Int.eq_ofNat_of_zero_le hz0
                exact ⟨k, rfl, by omega, by rw [Int.toNat_natCast] at h1; exact h1.2⟩
              · subst he
                rw [h, (insB_iff (k : Int) n).2 ⟨by omega, by rw [← HN.out]; omega⟩, Int.toNat_natCast] at h1
                cases hq : O2.getD k false with
                | true => rfl
                | false => rw [hq] at h1; cases h1
            have HPX := Lib.hid hPX
            clear hPX HCXX HBI CX1
            go_upto_if 55 with fail
            go_cut [4] (fun s4 wx => ∃ (O3 : List Bool) (b3' : Bool), s4 = .bool b3' ∧ RS w b3 L go O3 wx ∧ wx.heap[gb]? = some (.cells #[.int .i64 op, .int .i64 x, .int .i64 y, .int .i64 a] 47 (0, 0)) ∧ Up1 L O2 O3 b2 b3' (∀ m : Nat, m < L.length → (m : Int) = x → O2.getD m false = true))
            case first =>
              cases cX with
              | false =>
                have HPF := Lib.hid (HPX.out.2 rfl)
                go_wp2_with fail
                go_meet
                case rel => exact ⟨O2, b2, rfl, HS5.out, HBX.out, .inl ⟨rfl, rfl, HPF.out⟩⟩
              | true =>
                obtain ⟨k, hxk, hkn, hok⟩ := HPX.out.1 rfl
                subst hxk
                have ck := HCX.out k hkn
                have fk := blk_frozen HS5.out.row k
                have j0 : (0 : Int) ≤ (k : Int) := by omega
                have j1 : (k : Int) < (n : Int) := by omega
                rw [hok] at ck
                have hup := Up1.put (b := b2) (P := ∀ m : Nat, m < L.length → (m : Int) = (k : Int) → O2.getD m false = true) HS5.out.fi HOI.out (by rw [HN.out]; exact hkn) HXN.out hok
                have hfi := HS5.out.fi.set HOI.out (by rw [HN.out]; exact hkn) HXN.out
                have HP := Lib.hid (HS5.out.put lx hfi)
                have HU := Lib.hid hup
                have HB2 := Lib.hid ((heap_setCell_other w6 ⟨go, k, none⟩ gb (.bool true) (Nat.ne_of_gt hgo4)).trans HBX.out)
                clear hup hfi hok
                go_wp2_with fail
                go_meet
                case rel => exact ⟨_, true, rfl, HP.out, HB2.out, HU.out⟩
            case rest =>
              obtain ⟨O3, b4, rfl, hS6, hbx6, hup⟩ := hcut
              obtain ⟨w7, rfl⟩ : ∃ z, z = wc := ⟨_, rfl⟩
              have hO3l : O3.length = n := by rw [hS6.fi.len, HN.out]
              have hO3i : O3.getD i false = true := by
                rcases hup with ⟨_, rfl, _⟩ | ⟨_, _, _, h⟩
                · exact HOI.out
                · exact h i HOI.out
              have hcle : O3.count false ≤ O.count false := by
                have h1 : O3.count false ≤ O2.count false := by
                  rcases hup with ⟨_, rfl, _⟩ | ⟨_, _, h, _⟩
                  · exact Nat.le_refl _
                  · omega
                rcases HV.out with ⟨_, h2, _⟩ | ⟨_, h2⟩
                · rw [← h2]; exact h1
                · omega
              have hinv : (op = 2 → ∀ m : Nat, m < L.length → (m : Int) = y → O3.getD m false = true) → ((b4 = false ∧ O3 = O ∧ ∀ j, j < i + 1 → Clo L O j) ∨ (b4 = true ∧ O3.count false < O.count false)) := fun hy => by
                rcases hup with ⟨rfl, rfl, hx⟩ | ⟨rfl, _, h, _⟩
                · exact HST.out (Clo.both HLD.out hx hy)
                · refine .inr ⟨rfl, ?_⟩
                  rcases HV.out with ⟨_, h2, _⟩ | ⟨_, h2⟩
                  · rw [← h2]; exact h
                  · omega
              have HINV := Lib.hid hinv
              have HCLE := Lib.hid (And.intro hcle hO3i)
              have HS6 := Lib.hid hS6
              have HBX6 := Lib.hid hbx6
              have cy : ∀ k, k < n → w7.cell? ⟨go, k, none⟩ = some (.bool (O3.getD k false)) := fun k hk => bls_cell hS6.row (by rw [hO3l]; exact hk)
              have HCY := Lib.hid cy
              obtain ⟨q0, q1, q2, q3⟩ := blk_cells4 hbx6
              have lq7 := lt_of_some hbx6
              have lgo7 := lt_of_some hS6.row
              clear hup hinv hcle hO3i hS6 hbx6 cy hO3l
              obtain ⟨bj, hbj⟩ : ∃ z, insB y (n : Int) = z := ⟨_, rfl⟩
              have CY1 := Lib.hid (CI.out y (n : Int) w7)
              rw [hbj] at CY1
              have HBJ := Lib.hid hbj
              obtain ⟨o2, ho2⟩ : ∃ z, (op == 2) = z := ⟨_, rfl⟩
              have HO2 := Lib.hid ho2
              obtain ⟨cY, hcY⟩ : ∃ z, (o2 && bj && !(O3.getD y.toNat false)) = z := ⟨_, rfl⟩
              have HCYY := Lib.hid hcY
              clear hbj hcY
              go_upto_region 15 with fail
              go_cut [4, 77] (fun s4 s77 wx => s4 = .bool b4 ∧ s77 = .bool cY ∧ wx = w7)
              case first =>
                cases o2 with
                | false =>
                  have HF := Lib.hid (show cY = false by rw [← HCYY.out]; rfl)
                  go_wp2_with fail
                  go_meet
                  case rel => exact ⟨rfl, by rw [HF.out], rfl⟩
                | true =>
                cases bj with
                | false =>
                  have HF := Lib.hid (show cY = false by rw [← HCYY.out]; rfl)
                  go_wp2_with fail
                  refine CY1.out.mono ?_
                  rintro e w6 ⟨rfl, rfl⟩
                  go_wp2_with fail
                  go_meet
                  case rel => exact ⟨rfl, by rw [HF.out], rfl⟩
                | true =>
                  obtain ⟨hz0, hzn⟩ := (insB_iff y n).1 HBJ.out
                  obtain ⟨k, hyk⟩ := Int.eq_ofNat_of_zero_le hz0
                  subst hyk
                  have hkn : k < n := by omega
                  have ck := HCY.out k hkn
                  have j0 : (0 : Int) ≤ (k : Int) := by omega
                  have j1 : (k : Int) < (n : Int) := by omega
                  obtain ⟨ok, hok⟩ : ∃ z, O3.getD k false = z := ⟨_, rfl⟩
                  rw [hok] at ck
                  have HF := Lib.hid (show cY = !ok by rw [← HCYY.out, Int.toNat_natCast, hok]; rfl)
                  clear hok
                  go_wp2_with fail
                  refine CY1.out.mono ?_
                  rintro e w6 ⟨rfl, rfl⟩
                  go_wp2_with fail
                  go_meet
                  case rel => exact ⟨rfl, by rw [HF.out], rfl⟩
              case rest =>
                obtain ⟨rfl, rfl, rfl⟩ := hcut
                obtain ⟨w8, rfl⟩ : ∃ z, z = wc := ⟨_, rfl⟩
                cases cY with
                | false =>
                  have hpy : op = 2 → ∀ m : Nat, m < L.length → (m : Int) = y → O3.getD m false = true := fun h2 k hk he => by
                    subst he
                    have h1 := HCYY.out
                    have h3 := HO2.out
                    rw [h2] at h3
                    rw [← h3, ← HBJ.out, (insB_iff (k : Int) n).2 ⟨by omega, by rw [← HN.out]; omega⟩, Int.toNat_natCast] at h1
                    cases hq : O3.getD k false with
                    | true => rfl
                    | false => rw [hq] at h1; cases h1
                  have HC := Lib.hid (HINV.out hpy)
                  clear hpy
                  go_wp2_with fail
                  go_roundw
                  case rel => exact ⟨O3, b4, i + 1, rfl, by go_num, by omega, HS6.out, HC.out⟩
                  case measure => simp [RowKit.intOf]; omega
                | true =>
                  have h1 := HCYY.out
                  rw [Bool.and_eq_true, Bool.and_eq_true, Bool.not_eq_true'] at h1
                  have h2 := HO2.out.trans h1.1.1
                  have hop2 : op = 2 := beq_iff_eq.1 h2
                  obtain ⟨hz0, hzn⟩ := (insB_iff y n).1 (HBJ.out.trans h1.1.2)
                  obtain ⟨k, hyk⟩ := Int.eq_ofNat_of_zero_le hz0
                  subst hyk
                  have hkn : k < n := by omega
                  have hok : O3.getD k false = false := by have h := h1.2; rwa [Int.toNat_natCast] at h
                  have ck := HCY.out k hkn
                  rw [hok] at ck
                  have fk := blk_frozen HS6.out.row k
                  have j0 : (0 : Int) ≤ (k : Int) := by omega
                  have j1 : (k : Int) < (n : Int) := by omega
                  have hyn : (k : Int) ∈ nextL (L.getD i (0, 0, 0, 0)) := by rw [HLD.out]; exact next_y hop2
                  have hfi := HS6.out.fi.set HCLE.out.2 (by rw [HN.out]; exact hkn) hyn
                  have hcs := count_set O3 k (by rw [HS6.out.fi.len, HN.out]; exact hkn) hok
                  have HP := Lib.hid (HS6.out.put lx hfi)
                  have HC := Lib.hid (show (O3.set k true).count false < O.count false by have := HCLE.out.1; omega)
                  clear h1 h2 hop2 hyn hfi hcs hok ho2
                  go_wp2_with fail
                  go_roundw
                  case rel => exact ⟨_, true, i + 1, rfl, by go_num, by omega, HP.out, .inr ⟨rfl, HC.out⟩⟩
                  case measure => simp [RowKit.intOf]; omega
end Go.Proofs.YtpeheppiolfpfaaDoor
namespace Go.Proofs.YtpeheppiolfpfaaDoor
open Go.RowKit Go.Lib
open Plain (In4 nextL Rch cntA)
set_option maxRecDepth 100000 in
set_option maxHeartbeats 4000000 in
theorem rasserts_any (I C : Option Addr) (L : List In4) (c m d : Nat) (g : Int) (w : World) (hI : Sl w I (i4s L)) (hl : L.length ≤ maxLen) :
    Calls Tryd.prog 23 #[.agg #[.slice I L.length c, .slice C m d, .int .i64 g]] w fun e w' => e = .returned (.int .i64 (cntA L : Nat)) ∧ Below w.heap.size w w' := by
  unfold maxLen at hl
  obtain ⟨n, hN⟩ : ∃ n, L.length = n := ⟨_, rfl⟩
  rw [hN] at hl ⊢
  obtain ⟨wb, hwb⟩ : ∃ z, w.alloc (.cells #[.slice I n c, .slice C m d, .int .i64 g] 36) = z := ⟨_, rfl⟩
  have hbb : Below w.heap.size w wb := by rw [← hwb]; exact (Below.refl _ _).alloc (Nat.le_refl _) _
  have hblk : wb.heap[w.heap.size]? = some (.cells #[.slice I n c, .slice C m d, .int .i64 g] 36 (0, 0)) := by rw [← hwb]; exact heap_alloc_new2 _ _ _ _ rfl
  have HI := Lib.hid (hI.below hbb)
  have HN := Lib.hid hN
  have HBB := Lib.hid hbb
  have x0 := (blk_cells3 hblk).1
  have lx := lt_of_some hblk
  clear hI hN hbb hblk
  go_enter Tryd.func23, Tryd.ntmps23
  go_wp2_with fail
  go_loop [3, 4] (fun s i => ∃ k : Nat, k ≤ n ∧ i = .int .i64 k ∧ s = .int .i64 (cntA (L.take k) : Nat)) (fun _ i => n - (RowKit.intOf i).toNat)
  case atStart => exact ⟨0, Nat.zero_le _, rfl, rfl⟩
  case round =>
    obtain ⟨k, hk, rfl, rfl⟩ := hrel
    by_cases hlt : k < n
    case neg =>
      have hkn : k = n := by omega
      have d0 : decide ((k : Int) < (n : Int)) = false := decide_eq_false (by omega)
      have d0n : decide (k < n) = false := decide_eq_false hlt
      have HKN := Lib.hid (show cntA (L.take k) = cntA L by rw [List.take_of_length_le (by rw [HN.out, hkn]; exact Nat.le_refl _)])
      clear hkn
      go_wp2_with fail
      go_ret
      exact ⟨ret_int (by rw [HKN.out]), HBB.out⟩
    have d0 : decide ((k : Int) < (n : Int)) = true := decide_eq_true (by omega)
    have d0n : decide (k < n) = true := decide_eq_true hlt
    have hk1 : k < L.length := by rw [HN.out]; exact hlt
    obtain ⟨b, off, hIe, hbb, c0, c1, c2, c3⟩ := i4_at HI.out k hk1
    have hst := Plain.cntA_take L k hk1
    have hle := Plain.cntA_le (L.take k)
    have htl : (L.take k).length ≤ k := List.length_take_le _ _
    obtain ⟨t, ht⟩ : ∃ t, L[k] = t := ⟨_, rfl⟩
    rw [ht] at c0 hst
    obtain ⟨op, x, y, a⟩ := t
    dsimp only at c0 hst
    subst hIe
    obtain ⟨s0, hs0⟩ : ∃ z, cntA (L.take k) = z := ⟨_, rfl⟩
    rw [hs0] at hst hle ⊢
    have HST := Lib.hid hst
    have e1 : IntKind.i64.wrap ((s0 : Int) + 1) = ((s0 + 1 : Nat) : Int) := by rw [IntKind.wrap_i64]; omega
    have i0 : (0 : Int) ≤ (k : Int) := by omega
    have i1 : (k : Int) < (n : Int) := by omega
    clear hst hle htl ht hs0 c1 c2 c3
    by_cases h5 : op = 5
    · have e5 : (op == 5) = true := by rw [h5]; rfl
      have HS5 := Lib.hid (show cntA (L.take (k + 1)) = s0 + 1 by rw [HST.out, if_pos h5])
      clear h5
      go_wp2_with fail
      go_round
      case rel => exact ⟨k + 1, by omega, by go_num, by rw [HS5.out]; try rfl⟩
      case measure => simp [RowKit.intOf]; omega
    · have e5 : (op == 5) = false := beq_eq_false_iff_ne.2 h5
      have HS5 := Lib.hid (show cntA (L.take (k + 1)) = s0 by rw [HST.out, if_neg h5]; rfl)
      clear h5
      go_wp2_with fail
      go_round
      case rel => exact ⟨k + 1, by omega, by go_num, by rw [HS5.out]⟩
      case measure => simp [RowKit.intOf]; omega
end Go.Proofs.YtpeheppiolfpfaaDoor
