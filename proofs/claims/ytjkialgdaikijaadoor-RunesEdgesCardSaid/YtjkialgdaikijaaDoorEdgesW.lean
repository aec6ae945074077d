/- The walk of RunesEdges: it returns true for all numbers. Conditions: the two tables of the library lie as laid. -/
import Derived.Test.YtjkialgdaikijaaDoorWalksE
import Derived.WalkKit
import Derived.WalkLawsBesides
import Derived.WalkSpells
import Derived.Laws.IdiomStrings
import Derived.Deep.DeepCutAuto
import Derived.Deep.CutBlock
namespace Go.Proofs.YtjkialgdaikijaaDoor
open Go.RowKit Go.Lib
/-- what is no word: the pieces that stand ahead and behind -/
def ePieces : List (List UInt8 × Nat) := [([32], 32), ([45], 45), ([195, 169], 233), ([255], 65533)]
def eP (x : Int) : List UInt8 × Nat := ePieces.getD (x % 4).toNat ([32], 32)
def ed (X : Nat → Int) : Nat → ByteArray
  | 0 => ⟨#[]⟩
  | k + 1 => ed X k ++ ⟨(eP (X k)).1.toArray⟩
theorem ed_list (X : Nat → Int) (k : Nat) : (ed X k).data.toList = ((List.range k).map fun i => eP (X i)).flatMap (·.1) := by
  induction k with
  | zero => rfl
  | succ k ih => rw [List.range_succ, List.map_append, List.flatMap_append, ← ih, ed, ByteArray.data_append, Array.toList_append]; simp
theorem eP_mem (x : Int) : eP x ∈ ePieces := by
  have h : ∀ i, i < 4 → ePieces.getD i ([32], 32) ∈ ePieces := by decide
  exact h _ (by omega)
theorem eP_le (x : Int) : (⟨(eP x).1.toArray⟩ : ByteArray).size ≤ 2 := by
  have h : ∀ y ∈ ePieces, y.1.length ≤ 2 := by decide
  exact h _ (eP_mem x)
theorem ed_le (X : Nat → Int) (k : Nat) : (ed X k).size ≤ 2 * k := by
  induction k with
  | zero => exact Nat.le_refl _
  | succ k ih => rw [ed, ByteArray.size_append]; have := eP_le (X k); omega
theorem one_of (b : UInt8) (u : List UInt8) (h : b.toNat < 128) : decodeL ([b] ++ u) = (b.toNat, 1) := by
  rw [decodeL_N]; exact Plain.dN1 _ _ _ _ _ h
theorem ePieces_fine : ∀ y ∈ ePieces, (y.1 ≠ [] ∧ ∀ u, decodeL (y.1 ++ u) = (y.2, y.1.length)) ∧ Plain.wordB y.2 = false := by
  intro y hy
  simp only [ePieces, List.mem_cons, List.not_mem_nil, or_false] at hy
  rcases hy with rfl | rfl | rfl | rfl
  · exact ⟨⟨by simp, fun u => one_of 32 u (by decide)⟩, by decide⟩
  · exact ⟨⟨by simp, fun u => one_of 45 u (by decide)⟩, by decide⟩
  · refine ⟨⟨by simp, fun u => ?_⟩, by decide⟩
    rw [decodeL_N]
    show decodeN ([195, 169] ++ u).length 195 169 _ _ = _
    exact Plain.dN2 _ _ _ _ _ (by decide) (by rw [List.length_append]; show 1 < 2 + u.length; omega) (by decide) (by decide)
  · refine ⟨⟨by simp, fun u => ?_⟩, by decide⟩
    rw [decodeL_N]
    show decodeN _ 255 _ _ _ = _
    unfold decodeN
    rw [if_neg (by decide), if_neg (by rintro ⟨h, _⟩; revert h; decide), if_neg (by rintro ⟨h, _⟩; revert h; decide), if_neg (by rintro ⟨h, _⟩; revert h; decide)]
    rfl
def wLet : List UInt8 := [97, 98, 122, 65, 90, 48, 57, 95]
def wL (x : Int) : UInt8 := wLet.getD (x % 8).toNat 97
def wd (X : Nat → Int) : Nat → ByteArray
  | 0 => ⟨#[120]⟩
  | k + 1 => wd X k ++ ⟨#[wL (X k)]⟩
def wPs (X : Nat → Int) (k : Nat) : List (List UInt8 × Nat) := ([120], 120) :: (List.range k).map fun i => ([wL (X i)], (wL (X i)).toNat)
theorem wd_list (X : Nat → Int) (k : Nat) : (wd X k).data.toList = (wPs X k).flatMap (·.1) := by
  induction k with
  | zero => rfl
  | succ k ih =>
    have : wPs X (k + 1) = wPs X k ++ [([wL (X k)], (wL (X k)).toNat)] := by simp [wPs, List.range_succ]
    rw [this, List.flatMap_append, ← ih, wd, ByteArray.data_append, Array.toList_append]; simp
theorem wd_le (X : Nat → Int) (k : Nat) : (wd X k).size = k + 1 := by
  induction k with
  | zero => rfl
  | succ k ih => rw [wd, ByteArray.size_append, ih]; rfl
theorem wL_fine (x : Int) : (wL x).toNat < 128 ∧ Plain.wordB (wL x).toNat = true := by
  have h : ∀ i, i < 8 → ((wLet.getD i 97).toNat < 128 ∧ Plain.wordB (wLet.getD i 97).toNat = true) := by decide
  exact h _ (by omega)
theorem wPs_fine (X : Nat → Int) (k : Nat) : ∀ y ∈ wPs X k, (y.1.length = 1 ∧ ∀ u, decodeL (y.1 ++ u) = (y.2, y.1.length)) ∧ Plain.wordB y.2 = true := by
  intro y hy
  simp only [wPs, List.mem_cons, List.mem_map] at hy
  rcases hy with rfl | ⟨i, _, rfl⟩
  · exact ⟨⟨rfl, fun u => one_of 120 u (by decide)⟩, by decide⟩
  · exact ⟨⟨rfl, fun u => one_of _ u (wL_fine _).1⟩, (wL_fine _).2⟩
theorem edges_of (X Y Z : Nat → Int) (i j k : Nat) (a : Int) : Plain.edgeB (Plain.allA 0 (ed X i ++ wd Y j ++ ed Z k).data.toList) a = (a == ((ed X i).size : Int) || a == ((ed X i).size : Int) + (wd Y j).size) := by
  rw [ByteArray.data_append, Array.toList_append, ByteArray.data_append, Array.toList_append, List.append_assoc, size_eq (ed X i), size_eq (wd Y j), ed_list, ed_list, wd_list]
  exact Plain.edges _ _ _ (fun x hx => by obtain ⟨i, _, rfl⟩ := List.mem_map.1 hx; exact ePieces_fine _ (eP_mem _)) (fun x hx => by obtain ⟨i, _, rfl⟩ := List.mem_map.1 hx; exact ePieces_fine _ (eP_mem _)) (wPs_fine Y j) (by simp [wPs]) a
theorem or_no (a b c : Int) (h1 : a ≠ b) (h2 : a ≠ c) : (a == b || a == c) = false := by rw [beq_eq_false_iff_ne.2 h1, beq_eq_false_iff_ne.2 h2]; rfl
theorem idx_let (x : Int) (W : World) : (Instr.index 9 (.string ⟨#[97, 98, 122, 65, 90, 48, 57, 95]⟩) (.int .u8 (x % 8))).run Tryd.prog W = .ok (.int .u8 ((wL x).toNat : Int)) W := by
  rw [run_index_string _ 9 _ _ _ Tryd.underlying9]
  have hs : (⟨#[97, 98, 122, 65, 90, 48, 57, 95]⟩ : ByteArray).size = 8 := rfl
  rw [dif_pos ⟨by omega, by rw [hs]; omega⟩]
  unfold wL
  have h : ∀ i (hi : i < 8), (⟨#[97, 98, 122, 65, 90, 48, 57, 95]⟩ : ByteArray)[i]'(by rw [hs]; exact hi) = wLet.getD i 97 := by
    intro i hi
    match i, hi with
    | 0, _ => rfl
    | 1, _ => rfl
    | 2, _ => rfl
    | 3, _ => rfl
    | 4, _ => rfl
    | 5, _ => rfl
    | 6, _ => rfl
    | 7, _ => rfl
  rw [h _ (by omega)]
theorem conv_one (w : World) (b : UInt8) : (convert 22 9 (.slice (some ⟨w.heap.size, 0, none⟩) 1 1)).run Tryd.prog (w.alloc (.cells #[.int .u8 (b.toNat : Int)] 5)) = .ok (.string ⟨#[b]⟩) (w.alloc (.cells #[.int .u8 (b.toNat : Int)] 5)) :=
  run_convert_bytes_back (P := Tryd.prog) _ 22 9 5 ⟨w.heap.size, 0, none⟩ 1 [b] Tryd.underlying22 Tryd.underlying5 Tryd.underlying9 (fun j hj => by
    have hj0 : j = 0 := by simpa using hj
    subst hj0
    rw [cells_new w [.int .u8 (b.toNat : Int)] 5 0 _ rfl]; rfl)
set_option maxRecDepth 1000000 in
set_option maxHeartbeats 1000000 in
theorem edges_walk (A0 A1 A2 : Option Addr) (n0 c0 n1 c1 n2 c2 : Nat) (X Y Z : Nat → Int) (w : World) (hX : Bts w A0 n0 X) (hn0 : n0 ≤ maxLen) (hY : Bts w A1 n1 Y) (hn1 : n1 ≤ maxLen) (hZ : Bts w A2 n2 Z) (hn2 : n2 ≤ maxLen) (hT : Tabs w) :
    Calls Tryd.prog 6 #[.slice A0 n0 c0, .slice A1 n1 c1, .slice A2 n2 c2] w fun e w' => e = .returned (.bool true) ∧ Below w.heap.size w w' := by
  unfold maxLen at hn0 hn1 hn2
  have HX := Lib.hid hX
  have HY := Lib.hid hY
  have HZ := Lib.hid hZ
  clear hX hY hZ
  go_enter Tryd.func6, Tryd.ntmps6
  go_wp2_with fail
  refine (examples_any _ hT).mono ?_
  rintro e w1 ⟨rfl, hb1⟩
  have hT1 := hT.below hb1
  go_upto_block 0 with fail
  go_cut [8] (fun s wx => s = .string (ed X (min n0 6)) ∧ Below w1.heap.size w1 wx)
  case first =>
    go_wp2_with fail
    go_loopw [8, 11] (fun s i wr => ∃ k : Nat, k ≤ min n0 6 ∧ i = .int .i64 k ∧ s = .string (ed X k) ∧ Below w1.heap.size w1 wr) (fun _ i _ => 6 - (RowKit.intOf i).toNat)
    case atStart => exact ⟨0, Nat.zero_le _, rfl, rfl, Below.refl _ _⟩
    case round =>
      obtain ⟨k, hk, rfl, rfl, hb⟩ := hrel
      by_cases hlt : k < n0 ∧ k < 6
      · obtain ⟨h1, h2⟩ := hlt
        have hB := (hb.alloc hb.size (.cells (ePieces.map fun y => Value.string ⟨y.1.toArray⟩).toArray 9))
        obtain ⟨b, off, rfl, _, hc⟩ := (HX.out.below (hb1.trans ((hB).mono hb1.size))).1 (by omega)
        obtain ⟨x0, x1⟩ := HX.out.2 k h1
        have hck := hc k h1
        have hstep : ed X (k + 1) = ed X k ++ ⟨(eP (X k)).1.toArray⟩ := rfl
        have hl := ed_le X k
        have hpl := eP_le (X k)
        obtain ⟨j, hj, hj4⟩ : ∃ j : Nat, X k % 4 = (j : Int) ∧ j < 4 := ⟨(X k % 4).toNat, by omega, by omega⟩
        have hpt : (wr.alloc (.cells (ePieces.map fun y => Value.string ⟨y.1.toArray⟩).toArray 9)).cell? ⟨wr.heap.size, j, none⟩ = some (.string ⟨(eP (X k)).1.toArray⟩) := by
          rw [cell_of_row _ _ _ _ _ _ (heap_alloc_new _ _)]
          unfold eP
          rw [hj, Int.toNat_natCast]
          have : j < ePieces.length := hj4
          simp [List.getD, this]
        generalize (⟨(eP (X k)).1.toArray⟩ : ByteArray) = q at *
        generalize X k = x at *
        simp only [ePieces, List.map_cons, List.map_nil] at hck hpt hB
        have HS := Lib.hid hstep
        have HB := Lib.hid hB
        clear hstep hc hB hb
        go_wp2
        go_roundw
        case rel => exact ⟨k + 1, by omega, by go_num, by rw [HS.out], HB.out⟩
        case measure => simp [RowKit.intOf]; omega
      · have hex : (¬ k < n0) ∨ (k < n0 ∧ ¬ k < 6) := by omega
        have hm : ed X (min n0 6) = ed X k := by rw [show min n0 6 = k from by omega]
        have HM := Lib.hid hm
        clear hm hlt
        rcases hex with h | ⟨h, h'⟩
        all_goals
          go_wp2_with fail
          go_meet
          exact ⟨by rw [HM.out], hb⟩
  case rest =>
    obtain ⟨rfl, hcw1⟩ := hcut
    obtain ⟨w2, rfl⟩ : ∃ w2, w2 = wc := ⟨_, rfl⟩
    have hbw2 := hb1.trans (hcw1.mono hb1.size)
    clear hcw1
    go_upto_block 2 with fail
    go_cut [9] (fun s wx => s = .string (wd Y (min n1 8)) ∧ Below w2.heap.size w2 wx)
    case first =>
      go_wp2_with fail
      go_loopw [9, 12] (fun s i wr => ∃ k : Nat, k ≤ min n1 8 ∧ i = .int .i64 k ∧ s = .string (wd Y k) ∧ Below w2.heap.size w2 wr) (fun _ i _ => 8 - (RowKit.intOf i).toNat)
      case atStart => exact ⟨0, Nat.zero_le _, rfl, rfl, Below.refl _ _⟩
      case round =>
        obtain ⟨k, hk, rfl, rfl, hb⟩ := hrel
        by_cases hlt : k < n1 ∧ k < 8
        · obtain ⟨h1, h2⟩ := hlt
          obtain ⟨b, off, rfl, _, hc⟩ := (HY.out.below (hbw2.trans (hb.mono hbw2.size))).1 (by omega)
          obtain ⟨x0, x1⟩ := HY.out.2 k h1
          have hck := hc k h1
          have hstep : wd Y (k + 1) = wd Y k ++ ⟨#[wL (Y k)]⟩ := rfl
          have hl := wd_le Y k
          have hidx : ∀ W : World, (Instr.index 9 (.string ⟨#[97, 98, 122, 65, 90, 48, 57, 95]⟩) (.int .u8 (Y k % 8))).run Tryd.prog W = .ok (.int .u8 ((wL (Y k)).toNat : Int)) W := fun W => idx_let (Y k) W
          have hB := hb.alloc hb.size (.cells #[.int .u8 ((wL (Y k)).toNat : Int)] 5)
          have hcv := conv_one wr (wL (Y k))
          generalize wL (Y k) = q at *
          generalize Y k = x at *
          have HS := Lib.hid hstep
          have HB := Lib.hid hB
          have HL := Lib.hid hl
          have hl2 : (wd Y k).size ≤ 8 := by rw [HL.out]; omega
          clear hstep hc hB hb hl
          go_wp2
          go_roundw
          case rel => exact ⟨k + 1, by omega, by go_num, by rw [HS.out], HB.out⟩
          case measure => simp [RowKit.intOf]; omega
        · have hex : (¬ k < n1) ∨ (k < n1 ∧ ¬ k < 8) := by omega
          have hm : wd Y (min n1 8) = wd Y k := by rw [show min n1 8 = k from by omega]
          have HM := Lib.hid hm
          clear hm hlt
          rcases hex with h | ⟨h, h'⟩
          all_goals
            go_wp2_with fail
            go_meet
            exact ⟨by rw [HM.out], hb⟩
    case rest =>
      obtain ⟨rfl, hcw2⟩ := hcut
      obtain ⟨w3, rfl⟩ : ∃ w3, w3 = wc := ⟨_, rfl⟩
      have hbw3 := hbw2.trans (hcw2.mono hbw2.size)
      clear hcw2
      go_upto_block 4 with fail
      go_cut [10] (fun s wx => s = .string (ed Z (min n2 6)) ∧ Below w3.heap.size w3 wx)
      case first =>
        go_wp2_with fail
        go_loopw [10, 13] (fun s i wr => ∃ k : Nat, k ≤ min n2 6 ∧ i = .int .i64 k ∧ s = .string (ed Z k) ∧ Below w3.heap.size w3 wr) (fun _ i _ => 6 - (RowKit.intOf i).toNat)
        case atStart => exact ⟨0, Nat.zero_le _, rfl, rfl, Below.refl _ _⟩
        case round =>
          obtain ⟨k, hk, rfl, rfl, hb⟩ := hrel
          by_cases hlt : k < n2 ∧ k < 6
          · obtain ⟨h1, h2⟩ := hlt
            have hB := (hb.alloc hb.size (.cells (ePieces.map fun y => Value.string ⟨y.1.toArray⟩).toArray 9))
            obtain ⟨b, off, rfl, _, hc⟩ := (HZ.out.below (hbw3.trans ((hB).mono hbw3.size))).1 (by omega)
            obtain ⟨x0, x1⟩ := HZ.out.2 k h1
            have hck := hc k h1
            have hstep : ed Z (k + 1) = ed Z k ++ ⟨(eP (Z k)).1.toArray⟩ := rfl
            have hl := ed_le Z k
            have hpl := eP_le (Z k)
            obtain ⟨j, hj, hj4⟩ : ∃ j : Nat, Z k % 4 = (j : Int) ∧ j < 4 := ⟨(Z k % 4).toNat, by omega, by omega⟩
            have hpt : (wr.alloc (.cells (ePieces.map fun y => Value.string ⟨y.1.toArray⟩).toArray 9)).cell? ⟨wr.heap.size, j, none⟩ = some (.string ⟨(eP (Z k)).1.toArray⟩) := by
              rw [cell_of_row _ _ _ _ _ _ (heap_alloc_new _ _)]
              unfold eP
              rw [hj, Int.toNat_natCast]
              have : j < ePieces.length := hj4
              simp [List.getD, this]
            generalize (⟨(eP (Z k)).1.toArray⟩ : ByteArray) = q at *
            generalize Z k = x at *
            simp only [ePieces, List.map_cons, List.map_nil] at hck hpt hB
            have HS := Lib.hid hstep
            have HB := Lib.hid hB
            clear hstep hc hB hb
            go_wp2
            go_roundw
            case rel => exact ⟨k + 1, by omega, by go_num, by rw [HS.out], HB.out⟩
            case measure => simp [RowKit.intOf]; omega
          · have hex : (¬ k < n2) ∨ (k < n2 ∧ ¬ k < 6) := by omega
            have hm : ed Z (min n2 6) = ed Z k := by rw [show min n2 6 = k from by omega]
            have HM := Lib.hid hm
            clear hm hlt
            rcases hex with h | ⟨h, h'⟩
            all_goals
              go_wp2_with fail
              go_meet
              exact ⟨by rw [HM.out], hb⟩
      case rest =>
        obtain ⟨rfl, hcw3⟩ := hcut
        obtain ⟨wz, rfl⟩ : ∃ wz, wz = wc := ⟨_, rfl⟩
        have hB4 := hbw3.trans (hcw3.mono hbw3.size)
        have hT4 := hT.below hB4
        have HBz := Lib.hid hB4
        have HTz := Lib.hid hT4
        clear hcw3 hbw3 hB4 hT4
        have hB4 := HBz.out
        have hT4 := HTz.out
        have hd0 := ed_le X (min n0 6)
        have hd1 := wd_le Y (min n1 8)
        have hd2 := ed_le Z (min n2 6)
        have hE := fun a => edges_of X Y Z (min n0 6) (min n1 8) (min n2 6) a
        generalize ed X (min n0 6) = P at *
        generalize wd Y (min n1 8) = Q at *
        generalize ed Z (min n2 6) = R at *
        have hs0 : P.size ≤ 12 := by omega
        have hs1 : Q.size ≤ 9 := by omega
        have hs1' : 1 ≤ Q.size := by omega
        have hs2 : R.size ≤ 12 := by omega
        have hsz : (P ++ Q ++ R).size = P.size + Q.size + R.size := by rw [ByteArray.size_append, ByteArray.size_append]
        have cE : ∀ (W : World) (a : Int) (b : Bool), Tabs W → (a == (P.size : Int) || a == (P.size : Int) + Q.size) = b → Calls Tryd.prog 18 #[.string (P ++ Q ++ R), .int .i64 a] W fun e w' => e = .returned (.bool b) ∧ Below W.heap.size W w' := fun W a b hW hb => by
          have := edge_any (P ++ Q ++ R) a W (by rw [hsz]; omega) hW
          rw [hE, hb] at this
          exact this
        have HE := Lib.hid cE
        clear cE hE hd0 hd1 hd2 hsz HX HY HZ
        go_wp2_with fail
        go_loopw [15, 16] (fun i _ wr => ∃ k : Nat, k ≤ P.size + Q.size + R.size + 1 ∧ i = .int .i64 k ∧ Below wz.heap.size wz wr) (fun i _ _ => P.size + Q.size + R.size + 1 - (RowKit.intOf i).toNat)
        case atStart => exact ⟨0, Nat.zero_le _, rfl, Below.refl _ _⟩
        case round =>
          obtain ⟨k, hk, rfl, hb⟩ := hrel
          have hTr := hT4.below hb
          by_cases hlt : k ≤ P.size + Q.size + R.size
          · have hthree : k = P.size ∨ k = P.size + Q.size ∨ (¬ k = P.size ∧ ¬ k = P.size + Q.size) := by omega
            rcases hthree with rfl | rfl | ⟨h1, h2⟩
            · go_wp2_with fail
              refine (HE.out _ _ true hTr (by simp)).mono ?_
              rintro e w8 ⟨rfl, hb8⟩
              have hB8 := hb.trans (hb8.mono hb.size)
              clear hb hb8 hTr
              go_wp2
              go_roundw
              case rel => exact ⟨P.size + 1, by omega, by go_num, hB8⟩
              case measure =>
                have f1 : RowKit.intOf (.int .i64 ((P.size : Int) + 1)) = (P.size : Int) + 1 := rfl
                have f2 : RowKit.intOf (.int .i64 (P.size : Int)) = (P.size : Int) := rfl
                rw [f1, f2]; omega
            · have e1 : ((P.size : Int) + Q.size == (P.size : Int)) = false := by rw [beq_eq_false_iff_ne]; omega
              go_wp2_with fail
              refine (HE.out _ _ true hTr (by simp)).mono ?_
              rintro e w8 ⟨rfl, hb8⟩
              have hB8 := hb.trans (hb8.mono hb.size)
              clear hb hb8 hTr
              go_wp2
              go_roundw
              case rel => exact ⟨P.size + Q.size + 1, by omega, by go_num, hB8⟩
              case measure => simp [RowKit.intOf]; omega
            · have e1 : ((k : Int) == (P.size : Int)) = false := by rw [beq_eq_false_iff_ne]; omega
              have e2 : ((k : Int) == (P.size : Int) + Q.size) = false := by rw [beq_eq_false_iff_ne]; omega
              have e3 : (k == P.size) = false := by simp [h1]
              clear h1 h2
              go_wp2_with fail
              refine (HE.out _ _ false hTr (by rw [e1, e2]; rfl)).mono ?_
              rintro e w8 ⟨rfl, hb8⟩
              have hB8 := hb.trans (hb8.mono hb.size)
              clear hb hb8 hTr
              go_wp2
              go_roundw
              case rel => exact ⟨k + 1, by omega, by go_num, hB8⟩
              case measure => simp [RowKit.intOf]; omega
          · have hBr := hB4.trans (hb.mono hB4.size)
            clear hb
            go_wp2_with fail
            refine (HE.out _ _ false hTr (or_no _ _ _ (by omega) (by omega))).mono ?_
            rintro e w8 ⟨rfl, hb8⟩
            have hT8 := hTr.below hb8
            have hB8 := hBr.trans (hb8.mono hBr.size)
            clear hBr hb8 hTr
            go_wp2_with fail
            refine (HE.out _ _ false hT8 (or_no _ _ _ (by omega) (by omega))).mono ?_
            rintro e w9 ⟨rfl, hb9⟩
            have hB9 := hB8.trans (hb9.mono hB8.size)
            clear hB8 hb9 hT8
            go_wp2
            go_ret
            exact ⟨rfl, hB9⟩
theorem edges_all (a0 : Option Addr) (l0 c0 : Nat) (a1 : Option Addr) (l1 c1 : Nat) (a2 : Option Addr) (l2 c2 : Nat) (w : World) (z0 : List Int) (h0 : (a0 = none ∧ l0 = 0 ∧ c0 = 0 ∧ z0 = []) ∨
    ∃ x, a0 = some x ∧ l0 ≤ c0 ∧ c0 ≤ maxLen ∧ z0.length = c0 ∧ (∀ i, i < z0.length → w.cell? (x.add i) = some (.int .u8 (z0.getD i 0))) ∧ ∀ n ∈ z0, (Lit.int .u8 n).wf = true) (z1 : List Int) (h1 : (a1 = none ∧ l1 = 0 ∧ c1 = 0 ∧ z1 = []) ∨
    ∃ x, a1 = some x ∧ l1 ≤ c1 ∧ c1 ≤ maxLen ∧ z1.length = c1 ∧ (∀ i, i < z1.length → w.cell? (x.add i) = some (.int .u8 (z1.getD i 0))) ∧ ∀ n ∈ z1, (Lit.int .u8 n).wf = true) (z2 : List Int) (h2 : (a2 = none ∧ l2 = 0 ∧ c2 = 0 ∧ z2 = []) ∨
    ∃ x, a2 = some x ∧ l2 ≤ c2 ∧ c2 ≤ maxLen ∧ z2.length = c2 ∧ (∀ i, i < z2.length → w.cell? (x.add i) = some (.int .u8 (z2.getD i 0))) ∧ ∀ n ∈ z2, (Lit.int .u8 n).wf = true) (hT : Tabs w) :
    Calls Tryd.prog 6 #[.slice a0 l0 c0, .slice a1 l1 c1, .slice a2 l2 c2] w fun e w' => e = .returned (.bool true) ∧ Below w.heap.size w w' := by
  obtain ⟨x0, y0⟩ := bts_of a0 l0 c0 z0 w h0
  obtain ⟨x1, y1⟩ := bts_of a1 l1 c1 z1 w h1
  obtain ⟨x2, y2⟩ := bts_of a2 l2 c2 z2 w h2
  exact edges_walk a0 a1 a2 l0 c0 l1 c1 l2 c2 _ _ _ w x0 y0 x1 y1 x2 y2 hT
end Go.Proofs.YtjkialgdaikijaaDoor
