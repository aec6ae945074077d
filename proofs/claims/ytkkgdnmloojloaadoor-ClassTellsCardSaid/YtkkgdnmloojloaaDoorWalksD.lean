/- Chapter 2: the chapter's examples: what the code computes. Conditions: none. -/
import Derived.Test.YtkkgdnmloojloaaDoorWalksC
set_option linter.unusedVariables false
set_option linter.unusedSimpArgs false
namespace Go.Proofs.YtkkgdnmloojloaaDoor
open Go.RowKit Go.Lib
theorem below_alloc {w w1 : World} (h : Below w.heap.size w w1) (o : Obj) : Below w.heap.size w (w1.alloc o) := h.alloc h.size o
theorem blk_alloc {w : World} {k : Nat} {c : Obj} (h : w.heap[k]? = some c) (o : Obj) : (w.alloc o).heap[k]? = some c := (Below.heap_alloc w o k (lt_of_some h)).trans h
theorem put300 : Plain.putL 300 = [172, 2] := by
  rw [Plain.putL_big _ (by decide), Plain.putL_small _ (by decide)]; rfl
theorem exP (w : World) : Calls Tryd.prog 15 #[.int .u64 300] w fun e w' => e = .returned (.string ⟨#[172, 2]⟩) ∧ Below w.heap.size w w' := by
  have h := put_any 300 w (by decide)
  rw [put300] at h
  exact h
theorem exT (w : World) : Calls Tryd.prog 16 #[.string ⟨#[97, 98]⟩] w fun e w' => e = .returned (.string ⟨#[2, 97, 98]⟩) ∧ Below w.heap.size w w' := by
  have h := textS_any ⟨#[97, 98]⟩ w (by decide)
  have e : Plain.putL (ByteArray.size ⟨#[97, 98]⟩) = [2] := by
    rw [show ByteArray.size ⟨#[97, 98]⟩ = 2 from rfl, Plain.putL_small _ (by decide)]; rfl
  rw [e] at h
  exact h
theorem exN (w : World) : Calls Tryd.prog 20 #[.agg #[.string ⟨#[172, 2, 2, 97, 98, 0, 0, 120]⟩, .int .i64 0]] w fun e w' => e = .returned (.tuple #[.int .u64 300, .agg #[.string ⟨#[2, 97, 98, 0, 0, 120]⟩, .int .i64 0]]) ∧ Below w.heap.size w w' := by
  have h := next_any ⟨[172, 2, 2, 97, 98, 0, 0, 120], 0⟩ w (by decide)
  refine h.mono ?_
  rintro e w' ⟨rfl, hb⟩
  exact ⟨by rfl, hb⟩
theorem exU (w : World) : Calls Tryd.prog 22 #[.agg #[.string ⟨#[2, 97, 98, 0, 0, 120]⟩, .int .i64 0], .int .u64 2] w fun e w' => e = .returned (.tuple #[.string ⟨#[97, 98]⟩, .agg #[.string ⟨#[0, 0, 120]⟩, .int .i64 0]]) ∧ Below w.heap.size w w' := by
  have h := text_any ⟨[2, 97, 98, 0, 0, 120], 0⟩ 2 w (by decide) (by decide)
  refine h.mono ?_
  rintro e w' ⟨rfl, hb⟩
  exact ⟨by rfl, hb⟩
theorem exD (w : World) : Calls Tryd.prog 26 #[.agg #[.string ⟨#[0, 0, 120]⟩, .int .i64 0], .int .i64 2] w fun e w' => e = .returned (.agg #[.string ⟨#[120]⟩, .int .i64 0]) ∧ Below w.heap.size w w' := by
  have h := pad_any ⟨[0, 0, 120], 0⟩ 2 w (by decide)
  refine h.mono ?_
  rintro e w' ⟨rfl, hb⟩
  exact ⟨by rfl, hb⟩
theorem exB (w : World) : Calls Tryd.prog 24 #[.agg #[.string ⟨#[120]⟩, .int .i64 0], .int .i64 1] w fun e w' => e = .returned (.tuple #[.string ⟨#[120]⟩, .agg #[.string ⟨#[]⟩, .int .i64 0]]) ∧ Below w.heap.size w w' := by
  have h := bytes_any ⟨[120], 0⟩ 1 w (by decide)
  refine h.mono ?_
  rintro e w' ⟨rfl, hb⟩
  exact ⟨by rfl, hb⟩
theorem exL (w : World) : Calls Tryd.prog 20 #[.agg #[.string ⟨#[128, 0]⟩, .int .i64 0]] w fun e w' => e = .returned (.tuple #[.int .u64 0, .agg #[.string ⟨#[]⟩, .int .i64 5]]) ∧ Below w.heap.size w w' := by
  have h := next_any ⟨[128, 0], 0⟩ w (by decide)
  refine h.mono ?_
  rintro e w' ⟨rfl, hb⟩
  exact ⟨by rfl, hb⟩
theorem exS (w : World) : Calls Tryd.prog 20 #[.agg #[.string ⟨#[128]⟩, .int .i64 0]] w fun e w' => e = .returned (.tuple #[.int .u64 0, .agg #[.string ⟨#[]⟩, .int .i64 4]]) ∧ Below w.heap.size w w' := by
  have h := next_any ⟨[128], 0⟩ w (by decide)
  refine h.mono ?_
  rintro e w' ⟨rfl, hb⟩
  exact ⟨by rfl, hb⟩
theorem exG (w : World) : Calls Tryd.prog 22 #[.agg #[.string ⟨#[3, 97, 98, 99]⟩, .int .i64 0], .int .u64 2] w fun e w' => e = .returned (.tuple #[.string ⟨#[]⟩, .agg #[.string ⟨#[]⟩, .int .i64 3]]) ∧ Below w.heap.size w w' := by
  have h := text_any ⟨[3, 97, 98, 99], 0⟩ 2 w (by decide) (by decide)
  refine h.mono ?_
  rintro e w' ⟨rfl, hb⟩
  exact ⟨by rfl, hb⟩
theorem exZ1 (w : World) : Calls Tryd.prog 28 #[.agg #[.string ⟨#[]⟩, .int .i64 0]] w fun e w' => e = .returned (.int .i64 0) ∧ Below w.heap.size w w' := by
  have h := end_any ⟨[], 0⟩ w
  refine h.mono ?_
  rintro e w' ⟨rfl, hb⟩
  exact ⟨by rfl, hb⟩
theorem exZ2 (w : World) : Calls Tryd.prog 28 #[.agg #[.string ⟨#[120]⟩, .int .i64 0]] w fun e w' => e = .returned (.int .i64 8) ∧ Below w.heap.size w w' := by
  have h := end_any ⟨[120], 0⟩ w
  refine h.mono ?_
  rintro e w' ⟨rfl, hb⟩
  exact ⟨by rfl, hb⟩
theorem exD2 (w : World) : Calls Tryd.prog 26 #[.agg #[.string ⟨#[120]⟩, .int .i64 0], .int .i64 1] w fun e w' => e = .returned (.agg #[.string ⟨#[]⟩, .int .i64 9]) ∧ Below w.heap.size w w' := by
  have h := pad_any ⟨[120], 0⟩ 1 w (by decide)
  refine h.mono ?_
  rintro e w' ⟨rfl, hb⟩
  exact ⟨by rfl, hb⟩

set_option maxRecDepth 1000000 in
set_option maxHeartbeats 1000000 in
theorem examples_any (w : World) : Calls Tryd.prog 14 #[] w fun e w' => e = .returned (.bool true) ∧ Below w.heap.size w w' := by
  go_enter Tryd.func14, Tryd.ntmps14
  go_wp2_with fail
  refine (exP _).mono ?_
  rintro en1 w1 ⟨rfl, hb⟩
  have hB1 := below_then (Below.refl _ _) hb
  have L1 := hb.size
  try simp at L1
  have HB1 := Lib.hid hB1
  clear hb hB1
  go_wp2_with fail
  refine (exT _).mono ?_
  rintro en2 w2 ⟨rfl, hb⟩
  have hB2 := below_then HB1.out hb
  have L2 := hb.size
  try simp at L2
  have HB2 := Lib.hid hB2
  clear hb hB2
  go_wp2_with fail
  refine (exN _).mono ?_
  rintro en3 w3 ⟨rfl, hb⟩
  have hB3 := below_then HB2.out hb
  have L3 := hb.size
  try simp at L3
  have HB3 := Lib.hid hB3
  clear hb hB3
  go_wp2_with fail
  refine (exU _).mono ?_
  rintro en4 w4 ⟨rfl, hb⟩
  have hB4 := below_then (below_alloc HB3.out _) hb
  have L4 := hb.size
  try simp at L4
  have hKR4 : w4.heap[w3.heap.size]? = some (.cells #[.string ⟨#[2, 97, 98, 0, 0, 120]⟩, .int .i64 0] 24 (0, 0)) := blk_later (heap_alloc_new2 _ _ _ _ (by simp)) hb
  obtain ⟨mR4, nR4, fR4, gR4⟩ := box2 hKR4
  have KR4 := Lib.hid hKR4
  clear hKR4
  have HB4 := Lib.hid hB4
  clear hb hB4
  go_wp2_with fail
  refine (exD _).mono ?_
  rintro en5 w5 ⟨rfl, hb⟩
  have hB5 := below_then (set2_below HB4.out (by omega) (.string ⟨#[0, 0, 120]⟩) (.int .i64 0)) hb
  have L5 := hb.size
  try simp at L5
  have hKR5 : w5.heap[w3.heap.size]? = some (.cells #[.string ⟨#[0, 0, 120]⟩, .int .i64 0] 24 (0, 0)) := blk_later (set2_same KR4.out (.string ⟨#[0, 0, 120]⟩) (.int .i64 0)) hb
  obtain ⟨mR5, nR5, fR5, gR5⟩ := box2 hKR5
  have KR5 := Lib.hid hKR5
  clear hKR5
  have HB5 := Lib.hid hB5
  clear hb hB5 mR4 nR4 fR4 gR4
  go_wp2_with fail
  refine (exB _).mono ?_
  rintro en6 w6 ⟨rfl, hb⟩
  have hB6 := below_then (set2_below HB5.out (by omega) (.string ⟨#[120]⟩) (.int .i64 0)) hb
  have L6 := hb.size
  try simp at L6
  have hKR6 : w6.heap[w3.heap.size]? = some (.cells #[.string ⟨#[120]⟩, .int .i64 0] 24 (0, 0)) := blk_later (set2_same KR5.out (.string ⟨#[120]⟩) (.int .i64 0)) hb
  obtain ⟨mR6, nR6, fR6, gR6⟩ := box2 hKR6
  have KR6 := Lib.hid hKR6
  clear hKR6
  have HB6 := Lib.hid hB6
  clear hb hB6 mR5 nR5 fR5 gR5
  go_wp2_with fail
  refine (exL _).mono ?_
  rintro en7 w7 ⟨rfl, hb⟩
  have hB7 := below_then (below_alloc HB6.out _) hb
  have L7 := hb.size
  try simp at L7
  have hKR7 : w7.heap[w3.heap.size]? = some (.cells #[.string ⟨#[120]⟩, .int .i64 0] 24 (0, 0)) := blk_later (blk_alloc KR6.out _) hb
  obtain ⟨mR7, nR7, fR7, gR7⟩ := box2 hKR7
  have KR7 := Lib.hid hKR7
  clear hKR7
  have hKB7 : w7.heap[w6.heap.size]? = some (.cells #[.string ⟨#[]⟩, .int .i64 0] 24 (0, 0)) := blk_later (heap_alloc_new2 _ _ _ _ (by simp)) hb
  obtain ⟨mB7, nB7, fB7, gB7⟩ := box2 hKB7
  have KB7 := Lib.hid hKB7
  clear hKB7
  have HB7 := Lib.hid hB7
  clear hb hB7 mR6 nR6 fR6 gR6
  go_wp2_with fail
  refine (exS _).mono ?_
  rintro en8 w8 ⟨rfl, hb⟩
  have hB8 := below_then (below_alloc HB7.out _) hb
  have L8 := hb.size
  try simp at L8
  have hKR8 : w8.heap[w3.heap.size]? = some (.cells #[.string ⟨#[120]⟩, .int .i64 0] 24 (0, 0)) := blk_later (blk_alloc KR7.out _) hb
  obtain ⟨mR8, nR8, fR8, gR8⟩ := box2 hKR8
  have KR8 := Lib.hid hKR8
  clear hKR8
  have hKB8 : w8.heap[w6.heap.size]? = some (.cells #[.string ⟨#[]⟩, .int .i64 0] 24 (0, 0)) := blk_later (blk_alloc KB7.out _) hb
  obtain ⟨mB8, nB8, fB8, gB8⟩ := box2 hKB8
  have KB8 := Lib.hid hKB8
  clear hKB8
  have hKL8 : w8.heap[w7.heap.size]? = some (.cells #[.string ⟨#[]⟩, .int .i64 5] 24 (0, 0)) := blk_later (heap_alloc_new2 _ _ _ _ (by simp)) hb
  obtain ⟨mL8, nL8, fL8, gL8⟩ := box2 hKL8
  have KL8 := Lib.hid hKL8
  clear hKL8
  have HB8 := Lib.hid hB8
  clear hb hB8 mR7 nR7 fR7 gR7 mB7 nB7 fB7 gB7
  go_wp2_with fail
  refine (exG _).mono ?_
  rintro en9 w9 ⟨rfl, hb⟩
  have hB9 := below_then (below_alloc HB8.out _) hb
  have L9 := hb.size
  try simp at L9
  have hKR9 : w9.heap[w3.heap.size]? = some (.cells #[.string ⟨#[120]⟩, .int .i64 0] 24 (0, 0)) := blk_later (blk_alloc KR8.out _) hb
  obtain ⟨mR9, nR9, fR9, gR9⟩ := box2 hKR9
  have KR9 := Lib.hid hKR9
  clear hKR9
  have hKB9 : w9.heap[w6.heap.size]? = some (.cells #[.string ⟨#[]⟩, .int .i64 0] 24 (0, 0)) := blk_later (blk_alloc KB8.out _) hb
  obtain ⟨mB9, nB9, fB9, gB9⟩ := box2 hKB9
  have KB9 := Lib.hid hKB9
  clear hKB9
  have hKL9 : w9.heap[w7.heap.size]? = some (.cells #[.string ⟨#[]⟩, .int .i64 5] 24 (0, 0)) := blk_later (blk_alloc KL8.out _) hb
  obtain ⟨mL9, nL9, fL9, gL9⟩ := box2 hKL9
  have KL9 := Lib.hid hKL9
  clear hKL9
  have hKS9 : w9.heap[w8.heap.size]? = some (.cells #[.string ⟨#[]⟩, .int .i64 4] 24 (0, 0)) := blk_later (heap_alloc_new2 _ _ _ _ (by simp)) hb
  obtain ⟨mS9, nS9, fS9, gS9⟩ := box2 hKS9
  have KS9 := Lib.hid hKS9
  clear hKS9
  have HB9 := Lib.hid hB9
  clear hb hB9 mR8 nR8 fR8 gR8 mB8 nB8 fB8 gB8 mL8 nL8 fL8 gL8
  go_wp2_with fail
  refine (exP _).mono ?_
  rintro en10 w10 ⟨rfl, hb⟩
  have hB10 := below_then (below_alloc HB9.out _) hb
  have L10 := hb.size
  try simp at L10
  have hKR10 : w10.heap[w3.heap.size]? = some (.cells #[.string ⟨#[120]⟩, .int .i64 0] 24 (0, 0)) := blk_later (blk_alloc KR9.out _) hb
  obtain ⟨mR10, nR10, fR10, gR10⟩ := box2 hKR10
  have KR10 := Lib.hid hKR10
  clear hKR10
  have hKB10 : w10.heap[w6.heap.size]? = some (.cells #[.string ⟨#[]⟩, .int .i64 0] 24 (0, 0)) := blk_later (blk_alloc KB9.out _) hb
  obtain ⟨mB10, nB10, fB10, gB10⟩ := box2 hKB10
  have KB10 := Lib.hid hKB10
  clear hKB10
  have hKL10 : w10.heap[w7.heap.size]? = some (.cells #[.string ⟨#[]⟩, .int .i64 5] 24 (0, 0)) := blk_later (blk_alloc KL9.out _) hb
  obtain ⟨mL10, nL10, fL10, gL10⟩ := box2 hKL10
  have KL10 := Lib.hid hKL10
  clear hKL10
  have hKS10 : w10.heap[w8.heap.size]? = some (.cells #[.string ⟨#[]⟩, .int .i64 4] 24 (0, 0)) := blk_later (blk_alloc KS9.out _) hb
  obtain ⟨mS10, nS10, fS10, gS10⟩ := box2 hKS10
  have KS10 := Lib.hid hKS10
  clear hKS10
  have hKG10 : w10.heap[w9.heap.size]? = some (.cells #[.string ⟨#[]⟩, .int .i64 3] 24 (0, 0)) := blk_later (heap_alloc_new2 _ _ _ _ (by simp)) hb
  obtain ⟨mG10, nG10, fG10, gG10⟩ := box2 hKG10
  have KG10 := Lib.hid hKG10
  clear hKG10
  have HB10 := Lib.hid hB10
  clear hb hB10 mR9 nR9 fR9 gR9 mB9 nB9 fB9 gB9 mL9 nL9 fL9 gL9 mS9 nS9 fS9 gS9
  go_wp2_with fail
  refine (exZ1 _).mono ?_
  rintro en11 w11 ⟨rfl, hb⟩
  have hB11 := below_then HB10.out hb
  have L11 := hb.size
  try simp at L11
  have hKR11 : w11.heap[w3.heap.size]? = some (.cells #[.string ⟨#[120]⟩, .int .i64 0] 24 (0, 0)) := blk_later KR10.out hb
  obtain ⟨mR11, nR11, fR11, gR11⟩ := box2 hKR11
  have KR11 := Lib.hid hKR11
  clear hKR11
  have hKB11 : w11.heap[w6.heap.size]? = some (.cells #[.string ⟨#[]⟩, .int .i64 0] 24 (0, 0)) := blk_later KB10.out hb
  obtain ⟨mB11, nB11, fB11, gB11⟩ := box2 hKB11
  have KB11 := Lib.hid hKB11
  clear hKB11
  have hKL11 : w11.heap[w7.heap.size]? = some (.cells #[.string ⟨#[]⟩, .int .i64 5] 24 (0, 0)) := blk_later KL10.out hb
  obtain ⟨mL11, nL11, fL11, gL11⟩ := box2 hKL11
  have KL11 := Lib.hid hKL11
  clear hKL11
  have hKS11 : w11.heap[w8.heap.size]? = some (.cells #[.string ⟨#[]⟩, .int .i64 4] 24 (0, 0)) := blk_later KS10.out hb
  obtain ⟨mS11, nS11, fS11, gS11⟩ := box2 hKS11
  have KS11 := Lib.hid hKS11
  clear hKS11
  have hKG11 : w11.heap[w9.heap.size]? = some (.cells #[.string ⟨#[]⟩, .int .i64 3] 24 (0, 0)) := blk_later KG10.out hb
  obtain ⟨mG11, nG11, fG11, gG11⟩ := box2 hKG11
  have KG11 := Lib.hid hKG11
  clear hKG11
  have HB11 := Lib.hid hB11
  clear hb hB11 mR10 nR10 fR10 gR10 mB10 nB10 fB10 gB10 mL10 nL10 fL10 gL10 mS10 nS10 fS10 gS10 mG10 nG10 fG10 gG10
  go_wp2_with fail
  refine (exZ2 _).mono ?_
  rintro en12 w12 ⟨rfl, hb⟩
  have hB12 := below_then HB11.out hb
  have L12 := hb.size
  try simp at L12
  have hKR12 : w12.heap[w3.heap.size]? = some (.cells #[.string ⟨#[120]⟩, .int .i64 0] 24 (0, 0)) := blk_later KR11.out hb
  obtain ⟨mR12, nR12, fR12, gR12⟩ := box2 hKR12
  have KR12 := Lib.hid hKR12
  clear hKR12
  have hKB12 : w12.heap[w6.heap.size]? = some (.cells #[.string ⟨#[]⟩, .int .i64 0] 24 (0, 0)) := blk_later KB11.out hb
  obtain ⟨mB12, nB12, fB12, gB12⟩ := box2 hKB12
  have KB12 := Lib.hid hKB12
  clear hKB12
  have hKL12 : w12.heap[w7.heap.size]? = some (.cells #[.string ⟨#[]⟩, .int .i64 5] 24 (0, 0)) := blk_later KL11.out hb
  obtain ⟨mL12, nL12, fL12, gL12⟩ := box2 hKL12
  have KL12 := Lib.hid hKL12
  clear hKL12
  have hKS12 : w12.heap[w8.heap.size]? = some (.cells #[.string ⟨#[]⟩, .int .i64 4] 24 (0, 0)) := blk_later KS11.out hb
  obtain ⟨mS12, nS12, fS12, gS12⟩ := box2 hKS12
  have KS12 := Lib.hid hKS12
  clear hKS12
  have hKG12 : w12.heap[w9.heap.size]? = some (.cells #[.string ⟨#[]⟩, .int .i64 3] 24 (0, 0)) := blk_later KG11.out hb
  obtain ⟨mG12, nG12, fG12, gG12⟩ := box2 hKG12
  have KG12 := Lib.hid hKG12
  clear hKG12
  have HB12 := Lib.hid hB12
  clear hb hB12 mR11 nR11 fR11 gR11 mB11 nB11 fB11 gB11 mL11 nL11 fL11 gL11 mS11 nS11 fS11 gS11 mG11 nG11 fG11 gG11
  go_wp2_with fail
  refine (exD2 _).mono ?_
  rintro en13 w13 ⟨rfl, hb⟩
  have hB13 := below_then HB12.out hb
  have L13 := hb.size
  try simp at L13
  have hKR13 : w13.heap[w3.heap.size]? = some (.cells #[.string ⟨#[120]⟩, .int .i64 0] 24 (0, 0)) := blk_later KR12.out hb
  obtain ⟨mR13, nR13, fR13, gR13⟩ := box2 hKR13
  have KR13 := Lib.hid hKR13
  clear hKR13
  have hKB13 : w13.heap[w6.heap.size]? = some (.cells #[.string ⟨#[]⟩, .int .i64 0] 24 (0, 0)) := blk_later KB12.out hb
  obtain ⟨mB13, nB13, fB13, gB13⟩ := box2 hKB13
  have KB13 := Lib.hid hKB13
  clear hKB13
  have hKL13 : w13.heap[w7.heap.size]? = some (.cells #[.string ⟨#[]⟩, .int .i64 5] 24 (0, 0)) := blk_later KL12.out hb
  obtain ⟨mL13, nL13, fL13, gL13⟩ := box2 hKL13
  have KL13 := Lib.hid hKL13
  clear hKL13
  have hKS13 : w13.heap[w8.heap.size]? = some (.cells #[.string ⟨#[]⟩, .int .i64 4] 24 (0, 0)) := blk_later KS12.out hb
  obtain ⟨mS13, nS13, fS13, gS13⟩ := box2 hKS13
  have KS13 := Lib.hid hKS13
  clear hKS13
  have hKG13 : w13.heap[w9.heap.size]? = some (.cells #[.string ⟨#[]⟩, .int .i64 3] 24 (0, 0)) := blk_later KG12.out hb
  obtain ⟨mG13, nG13, fG13, gG13⟩ := box2 hKG13
  have KG13 := Lib.hid hKG13
  clear hKG13
  have HB13 := Lib.hid hB13
  clear hb hB13 mR12 nR12 fR12 gR12 mB12 nB12 fB12 gB12 mL12 nL12 fL12 gL12 mS12 nS12 fS12 gS12 mG12 nG12 fG12 gG12
  have kf : ∀ w, (Instr.field 24 (.agg #[.string ⟨#[]⟩, .int .i64 9]) 1).run Tryd.prog w = .ok (.int .i64 9) w := fun _ => by kernel_rfl
  go_wp2
  go_ret
  exact ⟨rfl, HB13.out⟩
end Go.Proofs.YtkkgdnmloojloaaDoor
