/- The sort of runes: insertion, patterns. Conditions: what each lemma says. -/
import Derived.Test.YtgppobaoclfgcaaGreatDoorSortQ
import Derived.Sort.LotD5
import Derived.Laws.Bits64
import Derived.Laws.Bits64b
import Derived.Deep.CutBlock
set_option linter.unusedVariables false
set_option linter.unusedSimpArgs false
namespace Go.Proofs.YtgppobaoclfgcaaGreatDoor
open Go.RowKit Go.Lib
open Go.Sort (swp ltInt insInner insOuter insertionSort)
set_option maxRecDepth 100000 in
set_option maxHeartbeats 4000000 in
theorem insr_any (base g c n a b : Nat) (d : Array Int) (w : World) (hO : Ow base g c n w d) (hb : b ≤ n) (ha : a ≤ n) (hn : n ≤ 1000000) :
    Calls Tryz.prog 80 #[.slice (some ⟨g, 0, none⟩) n c, .int .i64 (a : Int), .int .i64 (b : Int)] w fun e w' => e = .returned (.tuple #[]) ∧ Ow base g c n w' (insertionSort ltInt d a b) ∧ Below base w w' := by
  unfold insertionSort
  obtain ⟨a1, ha1⟩ : ∃ x, a + 1 = x := ⟨_, rfl⟩
  rw [ha1]
  obtain ⟨RES, hRES⟩ : ∃ x, insOuter ltInt a b a1 d = x := ⟨_, rfl⟩
  rw [hRES]
  have HRES := Lib.hid hRES
  have HO := Lib.hid hO
  have cL := Lib.hid (fun x y w => (less_any x y w).mono (fun _ _ h => And.intro h.1 h.2.symm))
  have e0 : IntKind.i64.wrap ((a : Int) + 1) = (a1 : Int) := by rw [IntKind.wrap_i64]; omega
  have ha1n : a1 ≤ n + 1 := by omega
  clear hRES hO ha1
  go_enter Tryz.func80, Tryz.ntmps80
  go_wp2_with fail
  clear e0
  go_loopw [6, 7] (fun i _ wr => ∃ (k : Nat) (d' : Array Int), i = .int .i64 (k : Int) ∧ k ≤ n + 1 ∧ insOuter ltInt a b k d' = RES ∧ Ow base g c n wr d' ∧ RowKit.Below base w wr) (fun i _ _ => b - (RowKit.intOf i).toNat)
  case atStart => exact ⟨a1, d, rfl, ha1n, HRES.out, HO.out, Below.refl _ _⟩
  case round =>
    obtain ⟨k, d1, rfl, hk, hR, hO, hB⟩ := hrel
    have HR := Lib.hid hR
    have HO1 := Lib.hid hO
    have HB1 := Lib.hid hB
    clear hR hO hB
    by_cases hlt : k < b
    case neg =>
      have dk : decide ((k : Int) < (b : Int)) = false := decide_eq_false (by omega)
      have dkn : decide (k < b) = false := decide_eq_false (by omega)
      have hr : d1 = RES := by rw [← HR.out, insOuter, if_neg hlt]
      have HRR := Lib.hid hr
      clear hr
      go_wp2_with fail
      go_end0
      exact ⟨rfl, by rw [← HRR.out]; exact HO1.out, HB1.out⟩
    have dk : decide ((k : Int) < (b : Int)) = true := decide_eq_true (by omega)
    have dkn : decide (k < b) = true := decide_eq_true hlt
    obtain ⟨R2, hR2⟩ : ∃ x, insInner ltInt a k d1 = x := ⟨_, rfl⟩
    have hr : insOuter ltInt a b (k + 1) R2 = RES := by rw [← HR.out, insOuter.eq_def ltInt a b k d1, if_pos hlt, hR2]
    have HRR := Lib.hid hr
    have HR2 := Lib.hid hR2
    clear hr hR2
    go_wp2_with fail
    obtain ⟨w0, rfl⟩ : ∃ w0, w0 = wr := ⟨_, rfl⟩
    go_loopw [7] (fun j wr => ∃ (m : Nat) (d' : Array Int), j = .int .i64 (m : Int) ∧ m ≤ k ∧ insInner ltInt a m d' = R2 ∧ Ow base g c n wr d' ∧ RowKit.Below base w wr) (fun j _ => (RowKit.intOf j).toNat)
    case atStart => exact ⟨k, d1, rfl, Nat.le_refl _, HR2.out, HO1.out, HB1.out⟩
    case round =>
      obtain ⟨m, d2, rfl, hm, hR, hO, hB⟩ := hrel
      have HR3 := Lib.hid hR
      have HO2 := Lib.hid hO
      have HB2 := Lib.hid hB
      clear hR hO hB
      by_cases hma : a < m
      case neg =>
        have d0 : decide ((m : Int) > (a : Int)) = false := decide_eq_false (by omega)
        have d0n : decide (a < m) = false := decide_eq_false hma
        have hr : d2 = R2 := by
          rw [← HR3.out]
          cases m with
          | zero => rfl
          | succ m => rw [insInner, if_neg (by simp; omega)]
        have HR4 := Lib.hid hr
        clear hr
        go_upto_region 4 with fail
        go_quiet ((go_at_call 86; exact Calls.quiet_of_same (cL.out _ _ _)))
        go_wp2_with fail
        go_roundw
        case rel => exact ⟨k + 1, d2, by go_num, by omega, by rw [HR4.out]; exact HRR.out, HO2.out.nq _, bnq HB2.out _⟩
        case measure => simp [RowKit.intOf]; omega
      obtain ⟨j, hj⟩ : ∃ j, m = j + 1 := ⟨m - 1, by omega⟩
      have hjm : (m : Int) - 1 = (j : Int) := by omega
      have hjw : IntKind.i64.wrap ((m : Int) - 1) = (j : Int) := by rw [hjm, IntKind.wrap_i64]; omega
      have d0 : decide ((m : Int) > (a : Int)) = true := decide_eq_true (by omega)
      have d0n : decide (a < m) = true := decide_eq_true hma
      have hml : m < n := by omega
      have hjl : j < n := by omega
      obtain ⟨x, hx⟩ : ∃ z, d2[m]! = z := ⟨_, rfl⟩
      obtain ⟨y, hy⟩ : ∃ z, d2[j]! = z := ⟨_, rfl⟩
      have hst : insInner ltInt a m d2 = if x < y then insInner ltInt a j (swp d2 m j) else d2 := by
        rw [← hx, ← hy, hj, insInner]
        have : decide (j + 1 > a) = true := decide_eq_true (by omega)
        unfold ltInt
        simp only [this, Bool.true_and, decide_eq_true_eq]
      have c0 := HO2.out.cell hml
      have c1 := HO2.out.cell hjl
      have lg := HO2.out.lt
      have hne : m ≠ j := by omega
      have hn0 : 0 < n := by omega
      rw [hx] at c0
      rw [hy] at c1
      have HJ := Lib.hid hj
      have HX := Lib.hid hx
      have HY := Lib.hid hy
      have HST := Lib.hid hst
      clear hj hx hy hst
      by_cases hc : x < y
      · have CL := Lib.hid (fun w => cL.out x y w)
        rw [decide_eq_true hc] at CL
        go_upto_region 4 with fail
        go_quiet ((go_at_call 86; exact Calls.quiet_of_same (CL.out _)))
        obtain ⟨wz, hwz⟩ : ∃ x, wr.drewN nq = x := ⟨_, rfl⟩
        have hoz : Ow base g c n wz d2 := by rw [← hwz]; exact HO2.out.nq _
        have hbz : Below base w wz := by rw [← hwz]; exact bnq HB2.out _
        rw [hwz]
        have HBz := Lib.hid hbz
        have HOz := Lib.hid hoz
        clear hwz hbz hoz c0 c1 lg
        have c0 := HOz.out.cell hml
        have c1 := HOz.out.cell hjl
        rw [HX.out] at c0
        rw [HY.out] at c1
        have f0 := HOz.out.frozen m
        have f1 := HOz.out.frozen j
        have lg := HOz.out.lt
        have HS := Lib.hid (HOz.out.sw hn0 HX.out HY.out)
        go_upto_region 6 with fail
        go_region
        have hR5 : insInner ltInt a j (swp d2 m j) = R2 := by rw [← HR3.out, HST.out, if_pos hc]
        have HR5 := Lib.hid hR5
        have HBy := Lib.hid (HBz.out.trans HS.out.2)
        obtain ⟨wy, hwy⟩ : ∃ q, ((wz.setCell ⟨g, m, none⟩ (.int .i32 y)).setCell ⟨g, j, none⟩ (.int .i32 x)).drew = q := ⟨_, rfl⟩
        rw [hwy] at HS HBy ⊢
        clear hR5 hwy c0 c1 f0 f1 lg
        go_wp2_with fail
        go_roundw
        case rel => exact ⟨j, _, rfl, by omega, HR5.out, HS.out.1, HBy.out⟩
        case measure => simp [RowKit.intOf]; have := HJ.out; omega
      · have CL := Lib.hid (fun w => cL.out x y w)
        rw [decide_eq_false hc] at CL
        go_upto_region 4 with fail
        go_quiet ((go_at_call 86; exact Calls.quiet_of_same (CL.out _)))
        have hr : d2 = R2 := by rw [← HR3.out, HST.out, if_neg hc]
        have HR4 := Lib.hid hr
        clear hr
        go_wp2_with fail
        go_roundw
        case rel => exact ⟨k + 1, d2, by go_num, by omega, by rw [HR4.out]; exact HRR.out, HO2.out.nq _, bnq HB2.out _⟩
        case measure => simp [RowKit.intOf]; omega
end Go.Proofs.YtgppobaoclfgcaaGreatDoor
namespace Go.Proofs.YtgppobaoclfgcaaGreatDoor
open Go.RowKit Go.Lib
open Go.Sort (xorNextN)
/-- the box of a generator -/
def Ux (w : World) (sb : Nat) (s : Nat) : Prop := w.heap[sb]? = some (.cells #[.int .u64 (s : Int)] 177 (0, 0))
theorem Ux.set {w : World} {sb s : Nat} (h : Ux w sb s) (t : Nat) : Ux (w.setCell ⟨sb, 0, none⟩ (.int .u64 (t : Int))) sb t := by
  unfold Ux at h ⊢
  show (w.heap.modify sb _)[sb]? = _
  rw [Array.getElem?_modify, if_pos rfl, h]
  rfl
theorem Ux.cell {w : World} {sb s : Nat} (h : Ux w sb s) : w.cell? ⟨sb, 0, none⟩ = some (.int .u64 (s : Int)) := by rw [cell_of_row _ _ _ _ _ _ h]; rfl
/-- what turned is one box alone -/
def OneBox (sb : Nat) (w w' : World) : Prop := ∀ (base g c n : Nat) (d : Array Int), base ≤ sb → sb ≠ g → Ow base g c n w d → Ow base g c n w' d ∧ Below base w w'
theorem OneBox.step (sb : Nat) (w : World) (v : Value) : OneBox sb w ((w.setCell ⟨sb, 0, none⟩ v).drew) := by
  intro base g c n d hb hne hO
  exact ⟨(hO.other hne v).below (Below.refl _ _).drew, ((Below.refl base w).setCell (p := ⟨sb, 0, none⟩) hb v).drew⟩
theorem OneBox.trans {sb : Nat} {w w1 w2 : World} (h : OneBox sb w w1) (h2 : OneBox sb w1 w2) : OneBox sb w w2 := by
  intro base g c n d hb hne hO
  obtain ⟨a1, b1⟩ := h base g c n d hb hne hO
  obtain ⟨a2, b2⟩ := h2 base g c n d hb hne a1
  exact ⟨a2, b1.trans b2⟩
set_option maxRecDepth 100000 in
set_option maxHeartbeats 4000000 in
theorem xnext_any (sb X : Nat) (hX : X < 18446744073709551616) (w : World) (hU : Ux w sb X) :
    Calls Tryz.prog 113 #[.pointer (some ⟨sb, 0, none⟩)] w fun e w' => e = .returned (.int .u64 (xorNextN X : Nat)) ∧ Ux w' sb (xorNextN X) ∧ OneBox sb w w' := by
  obtain ⟨A, hA⟩ : ∃ A : Nat, A = X ^^^ (X * 8192 % 18446744073709551616) := ⟨_, rfl⟩
  obtain ⟨B, hB⟩ : ∃ B : Nat, B = A ^^^ (A / 128) := ⟨_, rfl⟩
  obtain ⟨C, hC⟩ : ∃ C : Nat, C = B ^^^ (B * 131072 % 18446744073709551616) := ⟨_, rfl⟩
  have lA : A < 18446744073709551616 := by rw [hA]; exact Nat.xor_lt_two_pow (n := 64) (by omega) (by omega)
  have lB : B < 18446744073709551616 := by rw [hB]; exact Nat.xor_lt_two_pow (n := 64) (by omega) (by omega)
  have e1 : bits .xor .u64 (X : Int) (IntKind.u64.wrap ((X : Int) * 8192)) = (A : Int) := by
    rw [IntKind.wrap_u64, show ((X : Int) * 8192 % 18446744073709551616) = ((X * 8192 % 18446744073709551616 : Nat) : Int) by omega, bits_xor_u64_nat _ _ hX (by omega), hA]
  have e2 : bits .xor .u64 (A : Int) ((A : Int) / 128) = (B : Int) := by
    rw [show ((A : Int) / 128) = ((A / 128 : Nat) : Int) by omega, bits_xor_u64_nat _ _ lA (by omega), hB]
  have e3 : bits .xor .u64 (B : Int) (IntKind.u64.wrap ((B : Int) * 131072)) = (C : Int) := by
    rw [IntKind.wrap_u64, show ((B : Int) * 131072 % 18446744073709551616) = ((B * 131072 % 18446744073709551616 : Nat) : Int) by omega, bits_xor_u64_nat _ _ lB (by omega), hC]
  have hv : xorNextN X = C := by unfold xorNextN; simp only []; rw [← hA, ← hB, ← hC]
  rw [hv]
  clear hA hB hC hv
  have x0 := hU.cell
  have f0 := blk_frozen hU 0
  have ls := lt_of_some hU
  have HU := Lib.hid hU
  clear hU
  go_enter Tryz.func113, Tryz.ntmps113
  go_upto_region 1 with fail
  go_region
  have hu1 : Ux ((w.setCell ⟨sb, 0, none⟩ (.int .u64 (A : Int))).drew) sb A := HU.out.set A
  have ho1 := OneBox.step sb w (.int .u64 (A : Int))
  obtain ⟨w1, hw1⟩ : ∃ x, (w.setCell ⟨sb, 0, none⟩ (.int .u64 (A : Int))).drew = x := ⟨_, rfl⟩
  rw [hw1] at hu1 ho1 ⊢
  clear hw1 x0 f0 ls
  have x0 := hu1.cell
  have f0 := blk_frozen hu1 0
  have ls := lt_of_some hu1
  have HU1 := Lib.hid hu1
  have HO1 := Lib.hid ho1
  clear hu1 ho1
  go_upto_region 2 with fail
  go_region
  have hu1 : Ux ((w1.setCell ⟨sb, 0, none⟩ (.int .u64 (B : Int))).drew) sb B := HU1.out.set B
  have ho1 := HO1.out.trans (OneBox.step sb w1 (.int .u64 (B : Int)))
  obtain ⟨w2, hw1⟩ : ∃ x, (w1.setCell ⟨sb, 0, none⟩ (.int .u64 (B : Int))).drew = x := ⟨_, rfl⟩
  rw [hw1] at hu1 ho1 ⊢
  clear hw1 x0 f0 ls
  have x0 := hu1.cell
  have f0 := blk_frozen hu1 0
  have ls := lt_of_some hu1
  have HU2 := Lib.hid hu1
  have HO2 := Lib.hid ho1
  clear hu1 ho1
  go_upto_region 3 with fail
  go_region
  have hu1 : Ux ((w2.setCell ⟨sb, 0, none⟩ (.int .u64 (C : Int))).drew) sb C := HU2.out.set C
  have ho1 := HO2.out.trans (OneBox.step sb w2 (.int .u64 (C : Int)))
  obtain ⟨w3, hw1⟩ : ∃ x, (w2.setCell ⟨sb, 0, none⟩ (.int .u64 (C : Int))).drew = x := ⟨_, rfl⟩
  rw [hw1] at hu1 ho1 ⊢
  clear hw1 x0 f0 ls
  have x0 := hu1.cell
  have f0 := blk_frozen hu1 0
  have ls := lt_of_some hu1
  have HU3 := Lib.hid hu1
  have HO3 := Lib.hid ho1
  clear hu1 ho1
  go_wp2_with fail
  go_ret
  exact ⟨rfl, HU3.out, HO3.out⟩
end Go.Proofs.YtgppobaoclfgcaaGreatDoor
namespace Go.Proofs.YtgppobaoclfgcaaGreatDoor
open Go.RowKit Go.Lib
open Go.Sort (xorNextN xorNext bitsLen breakStep breakPatterns swp)
def bpR (a L M : Nat) : Nat → Nat → UInt64 × Array Int → Array Int
  | 0, _, st => st.2
  | k + 1, idx, st => bpR a L M k (idx + 1) (breakStep a L M st idx)
theorem break_eq (d : Array Int) (a b : Nat) (h : 8 ≤ b - a) : breakPatterns d a b = bpR a (b - a) (2 ^ bitsLen (b - a)) 3 (a + (b - a) / 4 * 2 - 1) (UInt64.ofNat (b - a), d) := by
  unfold breakPatterns
  simp only [if_pos h, Nat.one_shiftLeft]
  rfl
theorem bpR_step (a L M k idx : Nat) (r : UInt64) (R O : Nat) (d : Array Int) (hR : xorNextN r.toNat = R) (hO : O = if L ≤ R &&& (M - 1) then (R &&& (M - 1)) - L else R &&& (M - 1)) :
    bpR a L M (k + 1) idx (r, d) = bpR a L M k (idx + 1) (xorNext r, swp d idx (a + O)) ∧ (xorNext r).toNat = R := by
  have h := Go.Sort.xorNext_toNat r
  rw [hR] at h
  refine ⟨?_, h⟩
  rw [bpR]
  unfold breakStep
  dsimp only
  rw [h, hO]
set_option maxRecDepth 100000 in
set_option maxHeartbeats 4000000 in
theorem break_any (base g c n a b : Nat) (d : Array Int) (w : World) (hO : Ow base g c n w d) (hab : a + 12 < b) (hb : b ≤ n) (hn : n ≤ 1000000) (hbw : base ≤ w.heap.size) :
    Calls Tryz.prog 82 #[.slice (some ⟨g, 0, none⟩) n c, .int .i64 (a : Int), .int .i64 (b : Int)] w fun e w' => e = .returned (.tuple #[]) ∧ Ow base g c n w' (breakPatterns d a b) ∧ Below base w w' := by
  rw [break_eq d a b (by omega)]
  obtain ⟨l, hl⟩ : ∃ x, b - a = x := ⟨_, rfl⟩
  obtain ⟨q, hq⟩ : ∃ x, l / 4 = x := ⟨_, rfl⟩
  obtain ⟨i, hi⟩ : ∃ x, a + q * 2 - 1 = x := ⟨_, rfl⟩
  obtain ⟨i1, hi1⟩ : ∃ x, i + 1 = x := ⟨_, rfl⟩
  obtain ⟨top, htop⟩ : ∃ x, i + 2 = x := ⟨_, rfl⟩
  rw [hl, hq, hi]
  have l8 : 8 ≤ l := by omega
  have e1 : IntKind.i64.wrap ((b : Int) - (a : Int)) = (l : Int) := by rw [IntKind.wrap_i64]; omega
  have e1' : IntKind.u64.wrap (l : Int) = (l : Int) := by rw [IntKind.wrap_u64]; omega
  have e2 : Int.tdiv (l : Int) 4 = (q : Int) := by rw [Int.tdiv_eq_ediv_of_nonneg (by omega)]; omega
  have e3 : IntKind.i64.wrap (q : Int) = (q : Int) := by rw [IntKind.wrap_i64]; omega
  have e4 : IntKind.i64.wrap ((q : Int) * 2) = (q : Int) * 2 := by rw [IntKind.wrap_i64]; omega
  have e5 : IntKind.i64.wrap ((a : Int) + (q : Int) * 2) = (i1 : Int) := by rw [IntKind.wrap_i64]; omega
  have e6 : IntKind.i64.wrap ((i1 : Int) - 1) = (i : Int) := by rw [IntKind.wrap_i64]; omega
  have e7 : IntKind.i64.wrap ((i1 : Int) + 1) = (top : Int) := by rw [IntKind.wrap_i64]; omega
  have d8 : decide ((8 : Int) ≤ (l : Int)) = true := decide_eq_true (by omega)
  have htn : top < n := by omega
  have hlb : a + l ≤ n := by omega
  have h20 : bitsLen l ≤ 20 := (Go.Sort.bitsLen_le_iff l 20).2 (by omega)
  have hM2 : 2 ^ bitsLen l ≤ 2 * l := by
    have h := Go.Sort.two_pow_bitsLen_le (n := l) (by omega)
    exact h
  have hM1 : 1 ≤ 2 ^ bitsLen l := Nat.two_pow_pos _
  have cN := next2_any l
  obtain ⟨M, hM⟩ : ∃ M, 2 ^ bitsLen l = M := ⟨_, rfl⟩
  simp only [hM] at cN hM2 hM1
  rw [hM]
  have hne : w.heap.size ≠ g := by have := hO.lt; omega
  have hb0 := below_alloc (Below.refl w.heap.size w) (.cells #[.int .u64 (l : Int)] 177)
  have hO0 := hO.below hb0
  have hU0 : Ux (w.alloc (.cells #[.int .u64 (l : Int)] 177)) w.heap.size l := heap_alloc_new2 _ _ _ _ rfl
  have hlt0 := lt_of_some hU0
  have hbb := Below.mono hb0 hbw
  have hun : (UInt64.ofNat l).toNat = l := by simp; omega
  obtain ⟨U, hUU⟩ : ∃ U, UInt64.ofNat l = U := ⟨_, rfl⟩
  rw [hUU] at hun ⊢
  obtain ⟨RES, hRES⟩ : ∃ x, bpR a l M 3 i (U, d) = x := ⟨_, rfl⟩
  rw [hRES]
  have HRES := Lib.hid hRES
  have CN := Lib.hid (fun w => cN w (by omega))
  have H0 := Lib.hid (And.intro hO0 (And.intro hU0 (And.intro hbb (And.intro hlt0 hun))))
  have HI := Lib.hid (And.intro hi1 (And.intro htop (And.intro hlb (And.intro hM1 hM2))))
  have hn0 : 0 < n := by omega
  have CX := Lib.hid (fun X hX w h => xnext_any w.heap.size X hX w h)
  have CX := Lib.hid (fun (X : Nat) (hX : X < 18446744073709551616) (wr : World) (h : Ux wr w.heap.size X) => xnext_any w.heap.size X hX wr h)
  clear hRES cN hO0 hU0 hbb hb0 hlt0 hl hq hi hi1 htop hlb hM1 hM2 hM h20 hun hUU hO
  go_enter Tryz.func82, Tryz.ntmps82
  go_wp2_with fail
  refine Calls.mono (CN.out _) ?_
  rintro e w1 ⟨rfl, hb1⟩
  have HW1 := Lib.hid (show Ow base g c n w1 d ∧ Ux w1 w.heap.size l ∧ Below base w w1 from
    ⟨H0.out.1.below (hb1.mono (Nat.le_refl _)), blk_later H0.out.2.1 hb1, H0.out.2.2.1.trans (hb1.mono (Nat.le_trans hbw (Nat.le_of_lt (H0.out.2.2.2.1))))⟩)
  have HUN := Lib.hid H0.out.2.2.2.2
  clear hb1 H0 CN
  go_wp2_with fail
  go_loopw [9, 10] (fun x _ wr => ∃ (k idx : Nat) (r : UInt64) (d' : Array Int), x = .int .i64 (idx : Int) ∧ idx + k = top + 1 ∧ i ≤ idx ∧ bpR a l M k idx (r, d') = RES ∧ Ow base g c n wr d' ∧ Ux wr w.heap.size r.toNat ∧ RowKit.Below base w wr) (fun x _ _ => top + 1 - (RowKit.intOf x).toNat)
  case atStart => exact ⟨3, i, U, d, rfl, by have := HI.out; omega, Nat.le_refl _, HRES.out, HW1.out.1, by rw [HUN.out]; exact HW1.out.2.1, HW1.out.2.2⟩
  case round =>
    obtain ⟨k, idx, r, d1, rfl, hk, hik, hR, hO, hU, hB⟩ := hrel
    obtain ⟨w0, rfl⟩ : ∃ x, x = wr := ⟨_, rfl⟩
    have HR := Lib.hid hR
    have HO1 := Lib.hid hO
    have HB1 := Lib.hid hB
    have HU1 := Lib.hid hU
    have HK := Lib.hid (And.intro hk hik)
    clear hR hO hB hU hk hik HW1
    cases k with
    | zero =>
      have dt : decide ((idx : Int) ≤ (top : Int)) = false := decide_eq_false (by have := HK.out; omega)
      have dtn : decide (idx ≤ top) = false := decide_eq_false (by have := HK.out; omega)
      have HRR := Lib.hid (show d1 = RES from HR.out)
      go_wp2_with fail
      go_end0
      exact ⟨rfl, by rw [← HRR.out]; exact HO1.out, HB1.out⟩
    | succ k =>
      have dt : decide ((idx : Int) ≤ (top : Int)) = true := decide_eq_true (by have := HK.out; omega)
      have dtn : decide (idx ≤ top) = true := decide_eq_true (by have := HK.out; omega)
      have hrl : r.toNat < 18446744073709551616 := r.toNat_lt
      have cx := CX.out r.toNat hrl w0 HU1.out
      have hRl := Go.Sort.xorNextN_lt r.toNat hrl
      obtain ⟨R, hRR⟩ : ∃ R, xorNextN r.toNat = R := ⟨_, rfl⟩
      rw [hRR] at cx hRl
      obtain ⟨m1, hm1⟩ : ∃ m, M - 1 = m := ⟨_, rfl⟩
      have hst := fun O hO => bpR_step a l M k idx r R O d1 hRR hO
      rw [hm1] at hst
      obtain ⟨p, hp⟩ : ∃ p, R &&& m1 = p := ⟨_, rfl⟩
      rw [hp] at hst
      have hpl : p ≤ m1 := by rw [← hp]; exact Nat.and_le_right
      have hi := HI.out
      have g1 : IntKind.u64.wrap ((M : Int) - 1) = (m1 : Int) := by rw [IntKind.wrap_u64]; omega
      have g2 : bits .and .u64 (R : Int) (m1 : Int) = (p : Int) := by rw [bits_and_u64_nat _ _ hRl (by omega), hp]
      have g3 : IntKind.i64.wrap (p : Int) = (p : Int) := by rw [IntKind.wrap_i64]; omega
      have hpM : p < 2 * l := by omega
      have HST := Lib.hid hst
      have CXX := Lib.hid cx
      have idn : idx < n := by have := HK.out; omega
      have hlb : a + l ≤ n := hi.2.2.1
      obtain ⟨idx1, hx1⟩ : ∃ x, idx + 1 = x := ⟨_, rfl⟩
      have g6 : IntKind.i64.wrap ((idx : Int) + 1) = (idx1 : Int) := by rw [IntKind.wrap_i64]; omega
      have HX1 := Lib.hid hx1
      clear hst cx hRR hm1 hp hi hx1 hrl
      go_wp2_with fail
      refine Calls.mono CXX.out ?_
      rintro e w2 ⟨rfl, hu2, hob⟩
      have hob := hob base g c n d1 hbw hne HO1.out
      have HU2 := Lib.hid hu2
      have HO2 := Lib.hid hob.1
      have HB2 := Lib.hid (HB1.out.trans hob.2)
      clear hu2 hob
      by_cases hlp : l ≤ p
      · have dl : decide ((l : Int) ≤ (p : Int)) = true := decide_eq_true (by omega)
        have dln : decide (l ≤ p) = true := decide_eq_true hlp
        obtain ⟨O, hO⟩ : ∃ O, p - l = O := ⟨_, rfl⟩
        obtain ⟨hst, hrt⟩ := HST.out O (by rw [if_pos hlp]; exact hO.symm)
        obtain ⟨ao, hao⟩ : ∃ x, a + O = x := ⟨_, rfl⟩
        have g4 : IntKind.i64.wrap ((p : Int) - (l : Int)) = (O : Int) := by rw [IntKind.wrap_i64]; omega
        have g5 : IntKind.i64.wrap ((a : Int) + (O : Int)) = (ao : Int) := by rw [IntKind.wrap_i64]; omega
        have aon : ao < n := by omega
        rw [hao, HX1.out] at hst
        obtain ⟨x, hx⟩ : ∃ z, d1[idx]! = z := ⟨_, rfl⟩
        obtain ⟨y, hy⟩ : ∃ z, d1[ao]! = z := ⟨_, rfl⟩
        have c0 := HO2.out.cell idn
        have c1 := HO2.out.cell aon
        have lg := HO2.out.lt
        have f0 := HO2.out.frozen idx
        have f1 := HO2.out.frozen ao
        rw [hx] at c0
        rw [hy] at c1
        have HS := Lib.hid (HO2.out.sw hn0 hx hy)
        have hu3 := (heap_setCell_other (w2.setCell ⟨g, idx, none⟩ (.int .i32 y)) ⟨g, ao, none⟩ w.heap.size (.int .i32 x) hne).trans ((heap_setCell_other w2 ⟨g, idx, none⟩ w.heap.size (.int .i32 y) hne).trans HU2.out)
        have HU3 := Lib.hid (show Ux (((w2.setCell ⟨g, idx, none⟩ (.int .i32 y)).setCell ⟨g, ao, none⟩ (.int .i32 x)).drew) w.heap.size (xorNext r).toNat by rw [hrt]; exact hu3)
        have HST2 := Lib.hid (hst.symm.trans HR.out)
        have HB3 := Lib.hid (HB2.out.trans HS.out.2)
        clear hst hrt hx hy hu3 hO hao
        go_upto_region 10 with fail
        by_cases hne2 : idx = ao
        · subst hne2
          have hxy : x = y := by have h := c0.symm.trans c1; simpa using h
          subst hxy
          go_region
          obtain ⟨wy, hwy⟩ : ∃ q, ((w2.setCell ⟨g, idx, none⟩ (.int .i32 x)).setCell ⟨g, idx, none⟩ (.int .i32 x)).drew = q := ⟨_, rfl⟩
          rw [hwy] at HS HU3 HB3 ⊢
          clear hwy c0 c1 f0 f1 lg g1 g2 g3 g5
          go_wp2_with fail
          go_roundw
          case rel => exact ⟨k, idx1, xorNext r, _, rfl, by have := HX1.out; have := HK.out; omega, by have := HX1.out; have := HK.out; omega, HST2.out, HS.out.1, HU3.out, HB3.out⟩
          case measure => simp [RowKit.intOf]; have := HX1.out; have := HK.out; omega
        · skip
          go_region
          obtain ⟨wy, hwy⟩ : ∃ q, ((w2.setCell ⟨g, idx, none⟩ (.int .i32 y)).setCell ⟨g, ao, none⟩ (.int .i32 x)).drew = q := ⟨_, rfl⟩
          rw [hwy] at HS HU3 HB3 ⊢
          clear hwy c0 c1 f0 f1 lg g1 g2 g3 g5
          go_wp2_with fail
          go_roundw
          case rel => exact ⟨k, idx1, xorNext r, _, rfl, by have := HX1.out; have := HK.out; omega, by have := HX1.out; have := HK.out; omega, HST2.out, HS.out.1, HU3.out, HB3.out⟩
          case measure => simp [RowKit.intOf]; have := HX1.out; have := HK.out; omega
      · have dl : decide ((l : Int) ≤ (p : Int)) = false := decide_eq_false (by omega)
        have dln : decide (l ≤ p) = false := decide_eq_false hlp
        obtain ⟨O, hO⟩ : ∃ O, p = O := ⟨_, rfl⟩
        subst hO
        obtain ⟨hst, hrt⟩ := HST.out p (by rw [if_neg hlp])
        obtain ⟨ao, hao⟩ : ∃ x, a + p = x := ⟨_, rfl⟩
        have g5 : IntKind.i64.wrap ((a : Int) + (p : Int)) = (ao : Int) := by rw [IntKind.wrap_i64]; omega
        have aon : ao < n := by omega
        rw [hao, HX1.out] at hst
        obtain ⟨x, hx⟩ : ∃ z, d1[idx]! = z := ⟨_, rfl⟩
        obtain ⟨y, hy⟩ : ∃ z, d1[ao]! = z := ⟨_, rfl⟩
        have c0 := HO2.out.cell idn
        have c1 := HO2.out.cell aon
        have lg := HO2.out.lt
        have f0 := HO2.out.frozen idx
        have f1 := HO2.out.frozen ao
        rw [hx] at c0
        rw [hy] at c1
        have HS := Lib.hid (HO2.out.sw hn0 hx hy)
        have hu3 := (heap_setCell_other (w2.setCell ⟨g, idx, none⟩ (.int .i32 y)) ⟨g, ao, none⟩ w.heap.size (.int .i32 x) hne).trans ((heap_setCell_other w2 ⟨g, idx, none⟩ w.heap.size (.int .i32 y) hne).trans HU2.out)
        have HU3 := Lib.hid (show Ux (((w2.setCell ⟨g, idx, none⟩ (.int .i32 y)).setCell ⟨g, ao, none⟩ (.int .i32 x)).drew) w.heap.size (xorNext r).toNat by rw [hrt]; exact hu3)
        have HST2 := Lib.hid (hst.symm.trans HR.out)
        have HB3 := Lib.hid (HB2.out.trans HS.out.2)
        clear hst hrt hx hy hu3 hao
        go_upto_region 10 with fail
        by_cases hne2 : idx = ao
        · subst hne2
          have hxy : x = y := by have h := c0.symm.trans c1; simpa using h
          subst hxy
          go_region
          obtain ⟨wy, hwy⟩ : ∃ q, ((w2.setCell ⟨g, idx, none⟩ (.int .i32 x)).setCell ⟨g, idx, none⟩ (.int .i32 x)).drew = q := ⟨_, rfl⟩
          rw [hwy] at HS HU3 HB3 ⊢
          clear hwy c0 c1 f0 f1 lg g1 g2 g3 g5
          go_wp2_with fail
          go_roundw
          case rel => exact ⟨k, idx1, xorNext r, _, rfl, by have := HX1.out; have := HK.out; omega, by have := HX1.out; have := HK.out; omega, HST2.out, HS.out.1, HU3.out, HB3.out⟩
          case measure => simp [RowKit.intOf]; have := HX1.out; have := HK.out; omega
        · skip
          go_region
          obtain ⟨wy, hwy⟩ : ∃ q, ((w2.setCell ⟨g, idx, none⟩ (.int .i32 y)).setCell ⟨g, ao, none⟩ (.int .i32 x)).drew = q := ⟨_, rfl⟩
          rw [hwy] at HS HU3 HB3 ⊢
          clear hwy c0 c1 f0 f1 lg g1 g2 g3 g5
          go_wp2_with fail
          go_roundw
          case rel => exact ⟨k, idx1, xorNext r, _, rfl, by have := HX1.out; have := HK.out; omega, by have := HX1.out; have := HK.out; omega, HST2.out, HS.out.1, HU3.out, HB3.out⟩
          case measure => simp [RowKit.intOf]; have := HX1.out; have := HK.out; omega
end Go.Proofs.YtgppobaoclfgcaaGreatDoor
namespace Go.Proofs.YtgppobaoclfgcaaGreatDoor
open Go.RowKit Go.Lib
open Go.Sort (swp ltInt scanSorted shiftDown shiftUp partialIns partialInsertionSort)
theorem ss_go (d : Array Int) (b i : Nat) (h : i < b) (h2 : ¬ d[i]! < d[i - 1]!) : scanSorted ltInt d b i = scanSorted ltInt d b (i + 1) := by
  rw [scanSorted.eq_def ltInt d b i, if_pos (by unfold ltInt; simp [h, Int.not_lt.1 h2])]
theorem ss_stop (d : Array Int) (b i : Nat) (h : ¬ i < b ∨ d[i]! < d[i - 1]!) : scanSorted ltInt d b i = i := by
  rw [scanSorted.eq_def ltInt d b i, if_neg]
  unfold ltInt
  simp only [Bool.and_eq_true, decide_eq_true_eq, Bool.not_eq_true', decide_eq_false_iff_not, not_and]
  intro h1 h2
  rcases h with h | h
  · exact h h1
  · exact h2 h
theorem sd_go (d : Array Int) (j : Nat) (h : d[j + 1]! < d[j]!) : shiftDown ltInt (j + 1) d = shiftDown ltInt j (swp d (j + 1) j) := by
  rw [shiftDown, if_neg (by unfold ltInt; simpa using h)]
theorem sd_stop (d : Array Int) (j : Nat) (h : ¬ d[j + 1]! < d[j]!) : shiftDown ltInt (j + 1) d = d := by
  rw [shiftDown, if_pos (by unfold ltInt; simpa using h)]
theorem su_go (d : Array Int) (b j : Nat) (hb : j < b) (h : d[j]! < d[j - 1]!) : shiftUp ltInt b j d = shiftUp ltInt b (j + 1) (swp d j (j - 1)) := by
  rw [shiftUp.eq_def ltInt b j d, if_pos hb, if_neg (by unfold ltInt; simpa using h)]
theorem su_stop (d : Array Int) (b j : Nat) (h : ¬ j < b ∨ ¬ d[j]! < d[j - 1]!) : shiftUp ltInt b j d = d := by
  rw [shiftUp.eq_def ltInt b j d]
  by_cases hb : j < b
  · rw [if_pos hb, if_pos]
    unfold ltInt
    rcases h with h | h
    · exact absurd hb h
    · simpa using h
  · rw [if_neg hb]
theorem pi_step (d : Array Int) (a b s i i2 : Nat) (h : scanSorted ltInt d b i = i2) : partialIns ltInt a b (s + 1) i d =
    if i2 = b then (d, true) else if b - a < 50 then (d, false) else
      partialIns ltInt a b s i2 (if b - i2 ≥ 2 then shiftUp ltInt b (i2 + 1) (if i2 - a ≥ 2 then shiftDown ltInt (i2 - 1) (swp d i2 (i2 - 1)) else swp d i2 (i2 - 1)) else (if i2 - a ≥ 2 then shiftDown ltInt (i2 - 1) (swp d i2 (i2 - 1)) else swp d i2 (i2 - 1))) := by
  rw [partialIns]
  simp only [h]
set_option maxRecDepth 1000000 in
set_option maxHeartbeats 4000000 in
theorem partial_any (base g c n a b : Nat) (d : Array Int) (w : World) (hO : Ow base g c n w d) (hab : a < b) (hb : b ≤ n) (hn : n ≤ 1000000) :
    Calls Tryz.prog 85 #[.slice (some ⟨g, 0, none⟩) n c, .int .i64 (a : Int), .int .i64 (b : Int)] w fun e w' => e = .returned (.bool (partialInsertionSort ltInt d a b).2) ∧ Ow base g c n w' (partialInsertionSort ltInt d a b).1 ∧ Below base w w' := by
  unfold partialInsertionSort
  obtain ⟨a1, ha1⟩ : ∃ x, a + 1 = x := ⟨_, rfl⟩
  rw [ha1]
  obtain ⟨RES, hRES⟩ : ∃ x, partialIns ltInt a b 5 a1 d = x := ⟨_, rfl⟩
  rw [hRES]
  have hn0 : 0 < n := by omega
  have HRES := Lib.hid hRES
  have HO := Lib.hid hO
  have HA := Lib.hid ha1
  have cL := Lib.hid (fun x y w => (less_any x y w).mono (fun _ _ h => And.intro h.1 h.2.symm))
  have e0 : IntKind.i64.wrap ((a : Int) + 1) = (a1 : Int) := by rw [IntKind.wrap_i64]; omega
  have a1b : a1 ≤ b := by omega
  clear hRES hO ha1
  go_enter Tryz.func85, Tryz.ntmps85
  go_wp2_with fail
  clear e0
  go_loopw [7, 8, 9, 10] (fun x y _ _ wr => ∃ (i j s : Nat) (d' : Array Int), x = .int .i64 (i : Int) ∧ y = .int .i64 (j : Int) ∧ j + s = 5 ∧ a1 ≤ i ∧ i ≤ b ∧ partialIns ltInt a b s i d' = RES ∧ Ow base g c n wr d' ∧ RowKit.Below base w wr) (fun _ y _ _ _ => 5 - (RowKit.intOf y).toNat)
  case atStart => exact ⟨a1, 0, 5, d, rfl, rfl, rfl, Nat.le_refl _, a1b, HRES.out, HO.out, Below.refl _ _⟩
  case round =>
    obtain ⟨i0, j, s, d1, rfl, rfl, hjs, hai, hib, hR, hO, hB⟩ := hrel
    obtain ⟨w0, rfl⟩ : ∃ x, x = wr := ⟨_, rfl⟩
    have HR := Lib.hid hR
    have HO1 := Lib.hid hO
    have HB1 := Lib.hid hB
    have HJS := Lib.hid hjs
    clear hR hO hB hjs
    cases s with
    | zero =>
      have dj : decide ((j : Int) < 5) = false := decide_eq_false (by have := HJS.out; omega)
      have djn : decide (j < 5) = false := decide_eq_false (by have := HJS.out; omega)
      have hr : RES = (d1, false) := by rw [← HR.out]; rfl
      have HRR := Lib.hid hr
      clear hr
      go_wp2_with fail
      go_ret
      exact ⟨by rw [HRR.out]; rfl, by rw [HRR.out]; exact HO1.out, HB1.out⟩
    | succ s =>
      have dj : decide ((j : Int) < 5) = true := decide_eq_true (by have := HJS.out; omega)
      have djn : decide (j < 5) = true := decide_eq_true (by have := HJS.out; omega)
      obtain ⟨j1, hj1⟩ : ∃ x, j + 1 = x := ⟨_, rfl⟩
      have ej : IntKind.i64.wrap ((j : Int) + 1) = (j1 : Int) := by have := HJS.out; rw [IntKind.wrap_i64]; omega
      obtain ⟨i2, hi2⟩ : ∃ x, scanSorted ltInt d1 b i0 = x := ⟨_, rfl⟩
      have hst := pi_step d1 a b s i0 i2 hi2
      rw [HR.out] at hst
      have HST := Lib.hid hst
      have HI2 := Lib.hid hi2
      have HJ1 := Lib.hid hj1
      clear hst hi2 hj1
      go_upto_block 2 with fail
      go_cut [7] (fun s7 wx => s7 = .int .i64 (i2 : Int) ∧ i0 ≤ i2 ∧ i2 ≤ b ∧ Ow base g c n wx d1 ∧ RowKit.Below base w wx)
      case first =>
        go_wp2_with fail
        go_loopw [7] (fun x wr => ∃ i : Nat, x = .int .i64 (i : Int) ∧ i0 ≤ i ∧ i ≤ b ∧ scanSorted ltInt d1 b i = i2 ∧ Ow base g c n wr d1 ∧ RowKit.Below base w wr) (fun x _ => b - (RowKit.intOf x).toNat)
        case atStart => exact ⟨i0, rfl, Nat.le_refl _, hib, HI2.out, HO1.out, HB1.out⟩
        case round =>
          obtain ⟨i, rfl, hi0, hib2, hR, hO, hB⟩ := hrel
          have HR2 := Lib.hid hR
          have HO2 := Lib.hid hO
          have HB2 := Lib.hid hB
          clear hR hO hB
          by_cases hlt : i < b
          case neg =>
            have di : decide ((i : Int) < (b : Int)) = false := decide_eq_false (by omega)
            have din : decide (i < b) = false := decide_eq_false hlt
            have he : i = i2 := by rw [← HR2.out, ss_stop _ _ _ (.inl hlt)]
            have HE := Lib.hid he
            clear he
            go_upto_region 5 with fail
            go_quiet ((go_at_call 86; exact Calls.quiet_of_same (cL.out _ _ _)))
            go_wp2_with fail
            go_meet
            case rel => exact ⟨by rw [HE.out], by rw [← HE.out]; exact hi0, by rw [← HE.out]; exact hib2, HO2.out.nq _, bnq HB2.out _⟩
          have di : decide ((i : Int) < (b : Int)) = true := decide_eq_true (by omega)
          have din : decide (i < b) = true := decide_eq_true hlt
          obtain ⟨k, hk⟩ : ∃ k, i - 1 = k := ⟨_, rfl⟩
          obtain ⟨i1, hi1⟩ : ∃ k, i + 1 = k := ⟨_, rfl⟩
          have ek : IntKind.i64.wrap ((i : Int) - 1) = (k : Int) := by have := HA.out; rw [IntKind.wrap_i64]; omega
          have ei : IntKind.i64.wrap ((i : Int) + 1) = (i1 : Int) := by rw [IntKind.wrap_i64]; omega
          have iln : i < n := by omega
          have kln : k < n := by omega
          obtain ⟨x, hx⟩ : ∃ z, d1[i]! = z := ⟨_, rfl⟩
          obtain ⟨y, hy⟩ : ∃ z, d1[k]! = z := ⟨_, rfl⟩
          have hgo := ss_go d1 b i hlt
          have hsp := ss_stop d1 b i
          rw [hk, hx, hy] at hgo hsp
          rw [hi1] at hgo
          have HGO := Lib.hid hgo
          have HSP := Lib.hid hsp
          have HX := Lib.hid hx
          have HY := Lib.hid hy
          have HI1 := Lib.hid (And.intro hk hi1)
          clear hgo hsp hx hy hk hi1
          have c0 := HO2.out.cell iln
          have c1 := HO2.out.cell kln
          have lg := HO2.out.lt
          rw [HX.out] at c0
          rw [HY.out] at c1
          by_cases hc : x < y
          · have he : i = i2 := by rw [← HR2.out, HSP.out (.inr hc)]
            have HE := Lib.hid he
            clear he
            have CL := Lib.hid (fun w => cL.out x y w)
            rw [decide_eq_true hc] at CL
            go_upto_region 5 with fail
            go_quiet ((go_at_call 86; exact Calls.quiet_of_same (CL.out _)))
            go_wp2_with fail
            go_meet
            case rel => exact ⟨by rw [HE.out], by rw [← HE.out]; exact hi0, by rw [← HE.out]; exact hib2, HO2.out.nq _, bnq HB2.out _⟩
          · have hr : scanSorted ltInt d1 b i1 = i2 := by rw [← HR2.out, HGO.out hc]
            have HRR := Lib.hid hr
            clear hr
            have CL := Lib.hid (fun w => cL.out x y w)
            rw [decide_eq_false hc] at CL
            go_upto_region 5 with fail
            go_quiet ((go_at_call 86; exact Calls.quiet_of_same (CL.out _)))
            go_wp2_with fail
            go_roundw
            case rel => exact ⟨i1, rfl, by have := HI1.out; omega, by have := HI1.out; omega, HRR.out, HO2.out.nq _, bnq HB2.out _⟩
            case measure => simp [RowKit.intOf]; have := HI1.out; omega
      case rest =>
        obtain ⟨rfl, hi02, hi2b, hO, hB⟩ := hcut
        obtain ⟨w1, rfl⟩ : ∃ x, x = wc := ⟨_, rfl⟩
        have HO2 := Lib.hid hO
        have HB2 := Lib.hid hB
        clear hO hB HO1 HB1
        by_cases heq : i2 = b
        · have de : ((i2 : Int) == (b : Int)) = true := by rw [heq]; exact beq_self_eq_true _
          have hr : RES = (d1, true) := by rw [HST.out, if_pos heq]
          have HRR := Lib.hid hr
          clear hr heq
          go_wp2_with fail
          go_ret
          exact ⟨by rw [HRR.out]; rfl, by rw [HRR.out]; exact HO2.out, HB2.out⟩
        have de : ((i2 : Int) == (b : Int)) = false := beq_eq_false_iff_ne.2 (by omega)
        obtain ⟨l, hl⟩ : ∃ x, b - a = x := ⟨_, rfl⟩
        have el : IntKind.i64.wrap ((b : Int) - (a : Int)) = (l : Int) := by rw [IntKind.wrap_i64]; omega
        have hst := HST.out
        rw [if_neg heq, hl] at hst
        by_cases hl50 : l < 50
        · have dl : decide ((l : Int) < 50) = true := decide_eq_true (by omega)
          have dln : decide (l < 50) = true := decide_eq_true hl50
          have hr : RES = (d1, false) := by rw [hst, if_pos hl50]
          have HRR := Lib.hid hr
          clear hr hst hl
          go_wp2_with fail
          go_ret
          exact ⟨by rw [HRR.out]; rfl, by rw [HRR.out]; exact HO2.out, HB2.out⟩
        have dl : decide ((l : Int) < 50) = false := decide_eq_false (by omega)
        have dln : decide (l < 50) = false := decide_eq_false hl50
        rw [if_neg hl50] at hst
        have hib3 : i2 < b := by omega
        obtain ⟨k, hk⟩ : ∃ k, i2 - 1 = k := ⟨_, rfl⟩
        obtain ⟨i3, hi3⟩ : ∃ k, i2 + 1 = k := ⟨_, rfl⟩
        obtain ⟨u, hu⟩ : ∃ k, i2 - a = k := ⟨_, rfl⟩
        obtain ⟨v, hv⟩ : ∃ k, b - i2 = k := ⟨_, rfl⟩
        rw [hk, hi3, hu, hv] at hst
        have ek : IntKind.i64.wrap ((i2 : Int) - 1) = (k : Int) := by have := HA.out; rw [IntKind.wrap_i64]; omega
        have ei3 : IntKind.i64.wrap ((i2 : Int) + 1) = (i3 : Int) := by rw [IntKind.wrap_i64]; omega
        have eu : IntKind.i64.wrap ((i2 : Int) - (a : Int)) = (u : Int) := by have := HA.out; rw [IntKind.wrap_i64]; omega
        have ev : IntKind.i64.wrap ((b : Int) - (i2 : Int)) = (v : Int) := by rw [IntKind.wrap_i64]; omega
        obtain ⟨dA, hdA⟩ : ∃ z, swp d1 i2 k = z := ⟨_, rfl⟩
        obtain ⟨dB, hdB⟩ : ∃ z, (if u ≥ 2 then shiftDown ltInt k dA else dA) = z := ⟨_, rfl⟩
        obtain ⟨dC, hdC⟩ : ∃ z, (if v ≥ 2 then shiftUp ltInt b i3 dB else dB) = z := ⟨_, rfl⟩
        rw [hdA, hdB, hdC] at hst
        have HSTT := Lib.hid hst.symm
        have hne : i2 ≠ k := by have := HA.out; omega
        have iln : i2 < n := by omega
        have kln : k < n := by omega
        have HK := Lib.hid (And.intro hk (And.intro hi3 (And.intro hu hv)))
        have HDA := Lib.hid hdA
        have HDB := Lib.hid hdB
        have HDC := Lib.hid hdC
        clear hst hk hi3 hu hv hl hdA hdB hdC
        obtain ⟨x, hx⟩ : ∃ z, d1[i2]! = z := ⟨_, rfl⟩
        obtain ⟨y, hy⟩ : ∃ z, d1[k]! = z := ⟨_, rfl⟩
        have HX := Lib.hid hx
        have HY := Lib.hid hy
        clear hx hy
        have c0 := HO2.out.cell iln
        have c1 := HO2.out.cell kln
        have lg := HO2.out.lt
        rw [HX.out] at c0
        rw [HY.out] at c1
        have f0 := HO2.out.frozen i2
        have f1 := HO2.out.frozen k
        have HSA := Lib.hid (HO2.out.sw hn0 HX.out HY.out)
        have HBA := Lib.hid (HB2.out.trans HSA.out.2)
        go_upto_region 11 with fail
        go_region
        obtain ⟨wa, hwy⟩ : ∃ q, ((w1.setCell ⟨g, i2, none⟩ (.int .i32 y)).setCell ⟨g, k, none⟩ (.int .i32 x)).drew = q := ⟨_, rfl⟩
        rw [hwy] at HSA HBA ⊢
        clear hwy c0 c1 f0 f1 lg
        rw [HDA.out] at HSA
        clear HX HY
        go_upto_if 61 with fail
        go_cut [9] (fun _ wx => Ow base g c n wx dB ∧ RowKit.Below base w wx)
        case first =>
          by_cases hu2 : 2 ≤ u
          case neg =>
            have du : decide ((2 : Int) ≤ (u : Int)) = false := decide_eq_false (by omega)
            have dun : decide (2 ≤ u) = false := decide_eq_false hu2
            have HE := Lib.hid (show dA = dB by rw [← HDB.out, if_neg hu2])
            go_wp2_with fail
            go_meet
            case rel => exact ⟨by rw [← HE.out]; exact HSA.out.1, HBA.out⟩
          have du : decide ((2 : Int) ≤ (u : Int)) = true := decide_eq_true (by omega)
          have dun : decide (2 ≤ u) = true := decide_eq_true hu2
          have HE := Lib.hid (show shiftDown ltInt k dA = dB by rw [← HDB.out, if_pos hu2])
          go_wp2_with fail
          go_loopw [9] (fun x wr => ∃ (m : Nat) (d' : Array Int), x = .int .i64 (m : Int) ∧ m ≤ k ∧ shiftDown ltInt m d' = dB ∧ Ow base g c n wr d' ∧ RowKit.Below base w wr) (fun x _ => (RowKit.intOf x).toNat)
          case atStart => exact ⟨k, dA, rfl, Nat.le_refl _, HE.out, HSA.out.1, HBA.out⟩
          case round =>
            obtain ⟨m, d2, rfl, hmk, hR, hO, hB⟩ := hrel
            have HRm := Lib.hid hR
            have HO3 := Lib.hid hO
            have HB3 := Lib.hid hB
            clear hR hO hB
            cases m with
            | zero =>
              have HRR := Lib.hid (show d2 = dB from HRm.out)
              have dm : decide ((1 : Int) ≤ ((0 : Nat) : Int)) = false := by decide
              go_wp2_with fail
              go_meet
              case rel => exact ⟨by rw [← HRR.out]; exact HO3.out, HB3.out⟩
            | succ t =>
              have hgo := sd_go d2 t
              have hsp := sd_stop d2 t
              obtain ⟨m, hm⟩ : ∃ m, t + 1 = m := ⟨_, rfl⟩
              rw [hm] at hgo hsp HRm hmk ⊢
              have dm : decide ((1 : Int) ≤ (m : Int)) = true := decide_eq_true (by omega)
              have dmn : decide (1 ≤ m) = true := decide_eq_true (by omega)
              have em : IntKind.i64.wrap ((m : Int) - 1) = (t : Int) := by rw [IntKind.wrap_i64]; omega
              have mln : m < n := by omega
              have tln : t < n := by omega
              have hne2 : m ≠ t := by omega
              have HM := Lib.hid hm
              obtain ⟨x, hx⟩ : ∃ z, d2[m]! = z := ⟨_, rfl⟩
              obtain ⟨y, hy⟩ : ∃ z, d2[t]! = z := ⟨_, rfl⟩
              rw [hx, hy] at hgo hsp
              have HGO := Lib.hid hgo
              have HSP := Lib.hid hsp
              have HX := Lib.hid hx
              have HY := Lib.hid hy
              clear hm hgo hsp hx hy
              have c0 := HO3.out.cell mln
              have c1 := HO3.out.cell tln
              have lg := HO3.out.lt
              rw [HX.out] at c0
              rw [HY.out] at c1
              by_cases hc : x < y
              · have HG := Lib.hid ((HGO.out hc).symm.trans HRm.out)
                have CL := Lib.hid (fun w => cL.out x y w)
                rw [decide_eq_true hc] at CL
                go_upto_region 16 with fail
                go_quiet ((go_at_call 86; exact Calls.quiet_of_same (CL.out _)))
                obtain ⟨wz, hwz⟩ : ∃ x, wr.drewN nq = x := ⟨_, rfl⟩
                have hoz := HO3.out.nq nq
                have hbz := bnq HB3.out nq
                rw [hwz] at hoz hbz ⊢
                have HOz := Lib.hid hoz
                have HBz := Lib.hid hbz
                clear hwz hoz hbz
                clear c0 c1 lg
                have c0 := HOz.out.cell mln
                have c1 := HOz.out.cell tln
                have lg := HOz.out.lt
                rw [HX.out] at c0
                rw [HY.out] at c1
                have f0 := HOz.out.frozen m
                have f1 := HOz.out.frozen t
                have HS := Lib.hid (HOz.out.sw hn0 HX.out HY.out)
                have HBy := Lib.hid (HBz.out.trans HS.out.2)
                go_upto_region 17 with fail
                go_region
                obtain ⟨wy, hwy⟩ : ∃ q, ((wz.setCell ⟨g, m, none⟩ (.int .i32 y)).setCell ⟨g, t, none⟩ (.int .i32 x)).drew = q := ⟨_, rfl⟩
                rw [hwy] at HS HBy ⊢
                clear hwy c0 c1 f0 f1 lg
                go_wp2_with fail
                go_roundw
                case rel => exact ⟨t, _, rfl, by have := HM.out; omega, HG.out, HS.out.1, HBy.out⟩
                case measure => simp [RowKit.intOf]; have := HM.out; omega
              · have HG := Lib.hid ((HSP.out hc).symm.trans HRm.out)
                have CL := Lib.hid (fun w => cL.out x y w)
                rw [decide_eq_false hc] at CL
                go_upto_region 16 with fail
                go_quiet ((go_at_call 86; exact Calls.quiet_of_same (CL.out _)))
                go_wp2_with fail
                go_meet
                case rel => exact ⟨by rw [← HG.out]; exact HO3.out.nq _, bnq HB3.out _⟩
        case rest =>
          obtain ⟨hO, hB⟩ := hcut
          obtain ⟨w2, rfl⟩ : ∃ x, x = wc := ⟨_, rfl⟩
          have HO3 := Lib.hid hO
          have HB3 := Lib.hid hB
          clear hO hB HSA HBA HO2 HB2
          have FIN := Lib.hid (And.intro HJ1.out HJS.out)
          by_cases hv2 : 2 ≤ v
          case neg =>
            have du : decide ((2 : Int) ≤ (v : Int)) = false := decide_eq_false (by omega)
            have dun : decide (2 ≤ v) = false := decide_eq_false hv2
            have HE := Lib.hid (show dB = dC by rw [← HDC.out, if_neg hv2])
            go_wp2_with fail
            go_roundw
            case rel => exact ⟨i2, j1, s, dC, rfl, rfl, by have := FIN.out; omega, by omega, hi2b, HSTT.out, by rw [← HE.out]; exact HO3.out, HB3.out⟩
            case measure => simp [RowKit.intOf]; have := FIN.out; omega
          have du : decide ((2 : Int) ≤ (v : Int)) = true := decide_eq_true (by omega)
          have dun : decide (2 ≤ v) = true := decide_eq_true hv2
          have HE := Lib.hid (show shiftUp ltInt b i3 dB = dC by rw [← HDC.out, if_pos hv2])
          go_wp2_with fail
          go_loopw [10] (fun x wr => ∃ (m : Nat) (d' : Array Int), x = .int .i64 (m : Int) ∧ i3 ≤ m ∧ m ≤ n ∧ shiftUp ltInt b m d' = dC ∧ Ow base g c n wr d' ∧ RowKit.Below base w wr) (fun x _ => b - (RowKit.intOf x).toNat)
          case atStart => exact ⟨i3, dB, rfl, Nat.le_refl _, by have := HK.out; omega, HE.out, HO3.out, HB3.out⟩
          case round =>
            obtain ⟨m, d2, rfl, hmi, hmn, hR, hO, hB⟩ := hrel
            have HRm := Lib.hid hR
            have HO4 := Lib.hid hO
            have HB4 := Lib.hid hB
            clear hR hO hB
            by_cases hmb : m < b
            case neg =>
              have HRR := Lib.hid (show d2 = dC by rw [← HRm.out, su_stop _ _ _ (.inl hmb)])
              have dm : decide ((m : Int) < (b : Int)) = false := decide_eq_false (by omega)
              have dmn : decide (m < b) = false := decide_eq_false hmb
              go_wp2_with fail
              go_roundw
              case rel => exact ⟨i2, j1, s, dC, rfl, rfl, by have := FIN.out; omega, by omega, hi2b, HSTT.out, by rw [← HRR.out]; exact HO4.out, HB4.out⟩
              case measure => simp [RowKit.intOf]; have := FIN.out; omega
            have hgo := su_go d2 b m hmb
            have hsp := su_stop d2 b m
            obtain ⟨t, ht⟩ : ∃ t, m - 1 = t := ⟨_, rfl⟩
            obtain ⟨m1, hm1⟩ : ∃ t, m + 1 = t := ⟨_, rfl⟩
            rw [ht, hm1] at hgo
            rw [ht] at hsp
            have dm : decide ((m : Int) < (b : Int)) = true := decide_eq_true (by omega)
            have dmn : decide (m < b) = true := decide_eq_true hmb
            have em : IntKind.i64.wrap ((m : Int) - 1) = (t : Int) := by have := HK.out; rw [IntKind.wrap_i64]; omega
            have em1 : IntKind.i64.wrap ((m : Int) + 1) = (m1 : Int) := by rw [IntKind.wrap_i64]; omega
            have mln : m < n := by omega
            have tln : t < n := by omega
            have hne2 : m ≠ t := by have := HK.out; omega
            have HM := Lib.hid (And.intro ht hm1)
            obtain ⟨x, hx⟩ : ∃ z, d2[m]! = z := ⟨_, rfl⟩
            obtain ⟨y, hy⟩ : ∃ z, d2[t]! = z := ⟨_, rfl⟩
            rw [hx, hy] at hgo hsp
            have HGO := Lib.hid hgo
            have HSP := Lib.hid hsp
            have HX := Lib.hid hx
            have HY := Lib.hid hy
            clear ht hm1 hgo hsp hx hy
            have c0 := HO4.out.cell mln
            have c1 := HO4.out.cell tln
            have lg := HO4.out.lt
            rw [HX.out] at c0
            rw [HY.out] at c1
            by_cases hc : x < y
            · have HG := Lib.hid ((HGO.out hc).symm.trans HRm.out)
              have CL := Lib.hid (fun w => cL.out x y w)
              rw [decide_eq_true hc] at CL
              go_upto_region 22 with fail
              go_quiet ((go_at_call 86; exact Calls.quiet_of_same (CL.out _)))
              obtain ⟨wz, hwz⟩ : ∃ x, wr.drewN nq = x := ⟨_, rfl⟩
              have hoz := HO4.out.nq nq
              have hbz := bnq HB4.out nq
              rw [hwz] at hoz hbz ⊢
              have HOz := Lib.hid hoz
              have HBz := Lib.hid hbz
              clear hwz hoz hbz
              clear c0 c1 lg
              have c0 := HOz.out.cell mln
              have c1 := HOz.out.cell tln
              have lg := HOz.out.lt
              rw [HX.out] at c0
              rw [HY.out] at c1
              have f0 := HOz.out.frozen m
              have f1 := HOz.out.frozen t
              have HS := Lib.hid (HOz.out.sw hn0 HX.out HY.out)
              have HBy := Lib.hid (HBz.out.trans HS.out.2)
              go_upto_region 23 with fail
              go_region
              obtain ⟨wy, hwy⟩ : ∃ q, ((wz.setCell ⟨g, m, none⟩ (.int .i32 y)).setCell ⟨g, t, none⟩ (.int .i32 x)).drew = q := ⟨_, rfl⟩
              rw [hwy] at HS HBy ⊢
              clear hwy c0 c1 f0 f1 lg
              go_wp2_with fail
              go_roundw
              case rel => exact ⟨m1, _, rfl, by have := HM.out; omega, by have := HM.out; omega, HG.out, HS.out.1, HBy.out⟩
              case measure => simp [RowKit.intOf]; have := HM.out; omega
            · have HG := Lib.hid ((HSP.out (.inr hc)).symm.trans HRm.out)
              have CL := Lib.hid (fun w => cL.out x y w)
              rw [decide_eq_false hc] at CL
              go_upto_region 22 with fail
              go_quiet ((go_at_call 86; exact Calls.quiet_of_same (CL.out _)))
              go_wp2_with fail
              go_roundw
              case rel => exact ⟨i2, j1, s, dC, rfl, rfl, by have := FIN.out; omega, by omega, hi2b, HSTT.out, by rw [← HG.out]; exact HO4.out.nq _, bnq HB4.out _⟩
              case measure => simp [RowKit.intOf]; have := FIN.out; omega
end Go.Proofs.YtgppobaoclfgcaaGreatDoor
