/- Chapter 12: GetTable's closures: what the code computes. Conditions: what each lemma says. -/
import Derived.Test.YtmiacgkidldjmaaGreatDoorWireG
set_option linter.unusedVariables false
set_option linter.unusedSimpArgs false
namespace Go.Proofs.YtmiacgkidldjmaaGreatDoor
open Go.RowKit Go.Lib
theorem SepB.move4 {W w : World} {a b c d e f : Th} {l : List Th} (h : SepB W w (a :: b :: c :: d :: e :: f :: l)) : SepB W w (a :: b :: d :: e :: f :: c :: l) :=
  h.perm (.cons a (.cons b (.trans (.swap d c _) (.cons d (.trans (.swap e c _) (.cons e (.swap f c _)))))))
theorem i64s_snoc (L : List Int) (x : Int) : i64s (L ++ [x]) = i64s L ++ [.int .i64 x] := by simp [i64s]
/-- behind a cell that was read -/
def Post71 (W : World) (g rc cb : Nat) (more : List Th) (t : Plain.St) (R : List Int) (w' : World) : Prop :=
  ∃ v', SepB W w' (boxT g (rdCs t) 173 :: boxT rc #[.pointer (some ⟨g, 0, none⟩)] 127 :: boxT cb #[v'] 60 :: rowT 3 1 v' R.length (i64s R) :: more)
set_option maxRecDepth 1000000 in
set_option maxHeartbeats 4000000 in
theorem cl71_any {W w : World} (t : Plain.St) (R : List Int) (v : Value) (g rc cb : Nat) (more : List Th) (h : SepB W w (boxT g (rdCs t) 173 :: boxT rc #[.pointer (some ⟨g, 0, none⟩)] 127 :: boxT cb #[v] 60 :: rowT 3 1 v R.length (i64s R) :: more)) (hsm : t.small) (hl : R.length ≤ 1000) :
    Calls Tryz.prog 71 #[.pointer (some ⟨cb, 0, none⟩), .pointer (some ⟨rc, 0, none⟩)] w fun e w' => e = .returned (.tuple #[]) ∧ Post71 W g rc cb more (Plain.gCell (t, R)).1 (Plain.gCell (t, R)).2 w' := by
  obtain ⟨⟨a, t1⟩, hx⟩ : ∃ x, t.number Plain.mw = x := ⟨_, rfl⟩
  have hg : Plain.gCell (t, R) = (t1, R ++ [(a : Int)]) := by unfold Plain.gCell; dsimp only; rw [hx]
  rw [hg]
  dsimp only
  obtain ⟨i3, hi3, y0, y1, y2⟩ := info_parts info3
  have HS := Lib.hid h
  have C1 := Lib.hid (fun W' (h' : SepB W W' (boxT g (rdCs t) 173 :: boxT rc #[.pointer (some ⟨g, 0, none⟩)] 127 :: boxT cb #[v] 60 :: rowT 3 1 v R.length (i64s R) :: more)) => number_at (w := W') 0 g t Plain.mw 16777215 a t1 h' rfl hsm (by decide) (by decide) hx)
  clear h hx hg hsm
  go_enter Tryz.func71, Tryz.ntmps71
  go_wp2_with fail
  obtain ⟨wd, hwd⟩ : ∃ x, w.drew = x := ⟨_, rfl⟩
  have hS' := HS.out.drew
  rw [hwd] at hS'
  have HD := Lib.hid hS'
  have HF := Lib.hid (fun (w' : World) (h : wd.grownBy w' (some g)) => (⟨blk1 (gr_blk h (HD.out.box 1 _ _ _ rfl).2 (HD.out.ne 0 1 _ _ _ _ _ _ (by decide) rfl rfl).symm), blk1 (gr_blk h (HD.out.box 2 _ _ _ rfl).2 (HD.out.ne 0 2 _ _ _ _ _ _ (by decide) rfl rfl).symm)⟩ : _ ∧ _))
  have HG0 := Lib.hid (gr_refl wd (some g))
  clear hS'
  refine wp_region_noPanic ?_
  refine wp_region_T 4 (S := fun w' : World => wd.grownBy w' (some g)) (by kernel_rfl) (by decide) ?_
  rw [hwd]
  clear hwd
  refine wpAnyT_take2 0 (v := ?tvq0) (by kernel_rfl) rfl (by kernel_rfl) (fun _ _ _ h => h) (Or.inl ⟨by rfl, ?tyq0⟩) HG0.out ?trq0
  case tyq0 => (intro w' hSw; obtain ⟨x0, z0⟩ := HF.out w' hSw; (try dsimp only at hSw); go_simp; try with_reducible rfl)
  try simp only [Act.put, List.setIfInBounds_toArray, List.set_cons_zero, List.set_cons_succ]
  refine wpAnyT_take2 1 (v := ?tvq1) (by kernel_rfl) rfl (by kernel_rfl) (fun _ _ _ h => h) (Or.inl ⟨by rfl, ?tyq1⟩) HG0.out ?trq1
  case tyq1 => (intro w' hSw; obtain ⟨x0, z0⟩ := HF.out w' hSw; (try dsimp only at hSw); go_simp; try with_reducible rfl)
  try simp only [Act.put, List.setIfInBounds_toArray, List.set_cons_zero, List.set_cons_succ]
  refine wpAnyT_one2 2 rfl (by kernel_rfl) ?_
  intro K' hK'
  rw [if_pos (by rfl)]
  have HK := Lib.hid hK'
  clear hK'
  go_wp2_with (go_at_call 62; refine (C1.out _ HD.out).mono ?_; rintro _ w5 ⟨rfl, hS5, hg5⟩)
  have HS5 := Lib.hid hS5
  have HG5 := Lib.hid hg5
  clear hS5 hg5
  refine HK.out _ _ ⟨HG5.out, ?_⟩
  clear HK K'
  try simp only [Act.put, List.setIfInBounds_toArray, List.set_cons_zero, List.set_cons_succ]
  refine wpAnyT_one2 3 rfl (by kernel_rfl) ?_
  intro K' hK'
  rw [if_pos (by rfl)]
  have HK := Lib.hid hK'
  clear hK'
  go_simp
  have HG6 := Lib.hid (gr_trans HG5.out (World.grownBy_alloc w5 (.cells #[.int .i64 (a : Int)] 3) (some g)))
  refine HK.out _ _ ⟨HG6.out, ?_⟩
  clear HK K'
  try simp only [Act.put, List.setIfInBounds_toArray, List.set_cons_zero, List.set_cons_succ]
  refine ⟨by kernel_rfl, ?_⟩
  change wpList _ _ _ [_, _] _ _
  have HS6 := Lib.hid (show SepB W w5 (boxT g (rdCs t1) 173 :: boxT rc #[.pointer (some ⟨g, 0, none⟩)] 127 :: boxT cb #[v] 60 :: rowT 3 1 v R.length (i64s R) :: more) from HS5.out)
  go_wp2_with (at_builtin; refine wpList_append_own2 _ rfl (.tmp 2) (.tmp 5) _ rfl W.heap.size 3 i3 _ 1 8 Tryz.underlying60 hi3 y0 y1 y2 rfl (by decide) v R.length (i64s R) rfl (HS6.out.row 3 _ _ _ _ _ rfl |>.alloc _) ⟨w5.heap.size, 0, none⟩ 1 1 [.int .i64 (a : Int)] rfl rfl ?c1 ?c2 ?c3 ?c4 ?c5 ?_)
  case c1 => exact CellsAt_add (CellsAt.new w5 _ _)
  case c2 => intro u hu; simp only [List.mem_cons, List.not_mem_nil, or_false] at hu; rcases hu with rfl; rfl
  case c3 => simp only [maxLen]; omega
  case c4 => omega
  case c5 => have := HS6.out.2.size; simp; omega
  intro v2 w2 hown2 hg2 hb2
  obtain ⟨a2, cp2, rfl⟩ := own_slice hown2
  have hP := HS6.out.push 3 3 1 (v) (.slice a2 (R.length + 1) cp2) R.length (R.length + 1) (i64s R) _ rfl (below_alloc (Below.refl _ _) (.cells #[.int .i64 (a : Int)] 3)) hg2 hown2 (by rw [show (w5.alloc (.cells #[.int .i64 (a : Int)] 3)).heap.size = w5.heap.size + 1 by simp]; exact hb2)
  have hB : w2.heap[cb]? = some (.cells #[v] 60 (0, 0)) := (SepB.box hP 2 cb #[v] 60 rfl).2
  have f0 := blk_frozen hB 0
  have z0 := blk1 hB
  have hQ := hP.store 2 cb #[v] 60 rfl 0 (.slice a2 (R.length + 1) cp2)
  have hfin : Post71 W g rc cb more t1 (R ++ [(a : Int)]) (w2.setCell ⟨cb, 0, none⟩ (.slice a2 (R.length + 1) cp2)) := by
    refine ⟨.slice a2 (R.length + 1) cp2, ?_⟩
    rw [i64s_snoc, List.length_append]
    exact hQ
  have HFIN := Lib.hid hfin
  clear hP hB hQ hfin hown2 hg2 hb2
  go_wp2
  refine NoPanic.normal ?_
  go_wp2
  go_end0
  exact ⟨rfl, HFIN.out⟩
/-- behind an accept that was read -/
def Post72 (W : World) (g rc tb : Nat) (v0 v1 : Value) (more : List Th) (t : Plain.St) (C : List Bool) (w' : World) : Prop :=
  ∃ v', SepB W w' (boxT g (rdCs t) 173 :: boxT rc #[.pointer (some ⟨g, 0, none⟩)] 127 :: boxT tb #[v0, v1, v'] 34 :: rowT 4 1 v' C.length (C.map Value.bool) :: more)
set_option maxRecDepth 1000000 in
set_option maxHeartbeats 4000000 in
theorem cl72_any {W w : World} (t : Plain.St) (C : List Bool) (v0 v1 v : Value) (g rc tb : Nat) (more : List Th) (h : SepB W w (boxT g (rdCs t) 173 :: boxT rc #[.pointer (some ⟨g, 0, none⟩)] 127 :: boxT tb #[v0, v1, v] 34 :: rowT 4 1 v C.length (C.map Value.bool) :: more)) (hsm : t.small) (hl : C.length ≤ 1000) :
    Calls Tryz.prog 72 #[.pointer (some ⟨tb, 0, none⟩), .pointer (some ⟨rc, 0, none⟩)] w fun e w' => e = .returned (.tuple #[]) ∧ Post72 W g rc tb v0 v1 more (Plain.gAcc (t, C)).1 (Plain.gAcc (t, C)).2 w' := by
  obtain ⟨⟨a, t1⟩, hx⟩ : ∃ x, t.number 1 = x := ⟨_, rfl⟩
  have hg : Plain.gAcc (t, C) = (t1, C ++ [a == 1]) := by unfold Plain.gAcc; dsimp only; rw [hx]
  rw [hg]
  dsimp only
  obtain ⟨i4, hi4, y0, y1, y2⟩ := info_parts info4
  have HS := Lib.hid h
  have C1 := Lib.hid (fun W' (h' : SepB W W' (boxT g (rdCs t) 173 :: boxT rc #[.pointer (some ⟨g, 0, none⟩)] 127 :: boxT tb #[v0, v1, v] 34 :: rowT 4 1 v C.length (C.map Value.bool) :: more)) => number_at (w := W') 0 g t 1 1 a t1 h' rfl hsm (by decide) (by decide) hx)
  obtain ⟨q, hq⟩ : ∃ x, (a == 1) = x := ⟨_, rfl⟩
  have hq1 : ((a : Int) == 1) = q := by rw [← hq, Bool.eq_iff_iff, beq_iff_eq, beq_iff_eq]; omega
  rw [hq]
  clear h hx hg hsm hq
  go_enter Tryz.func72, Tryz.ntmps72
  go_wp2_with fail
  obtain ⟨wd, hwd⟩ : ∃ x, w.drew = x := ⟨_, rfl⟩
  have hS' := HS.out.drew
  rw [hwd] at hS'
  have HD := Lib.hid hS'
  have HF := Lib.hid (fun (w' : World) (h : wd.grownBy w' (some g)) => (⟨blk1 (gr_blk h (HD.out.box 1 _ _ _ rfl).2 (HD.out.ne 0 1 _ _ _ _ _ _ (by decide) rfl rfl).symm), blk_cells3 (gr_blk h (HD.out.box 2 _ _ _ rfl).2 (HD.out.ne 0 2 _ _ _ _ _ _ (by decide) rfl rfl).symm)⟩ : _ ∧ _))
  have HG0 := Lib.hid (gr_refl wd (some g))
  clear hS'
  refine wp_region_noPanic ?_
  refine wp_region_T 6 (S := fun w' : World => wd.grownBy w' (some g)) (by kernel_rfl) (by decide) ?_
  rw [hwd]
  clear hwd
  refine wpAnyT_take2 0 (v := ?tvp0) (by kernel_rfl) rfl (by kernel_rfl) (fun _ _ _ h => h) (Or.inl ⟨by rfl, ?typ0⟩) HG0.out ?trp0
  case typ0 => (intro w' hSw; (try dsimp only at hSw); go_simp; try with_reducible rfl)
  try simp only [Act.put, List.setIfInBounds_toArray, List.set_cons_zero, List.set_cons_succ]
  refine wpAnyT_take2 1 (v := ?tvp1) (by kernel_rfl) rfl (by kernel_rfl) (fun _ _ _ h => h) (Or.inl ⟨by rfl, ?typ1⟩) HG0.out ?trp1
  case typ1 => (intro w' hSw; obtain ⟨x0, z0, z1, z2⟩ := HF.out w' hSw; (try dsimp only at hSw); go_simp; try with_reducible rfl)
  try simp only [Act.put, List.setIfInBounds_toArray, List.set_cons_zero, List.set_cons_succ]
  refine wpAnyT_take2 2 (v := ?tvp2) (by kernel_rfl) rfl (by kernel_rfl) (fun _ _ _ h => h) (Or.inl ⟨by rfl, ?typ2⟩) HG0.out ?trp2
  case typ2 => (intro w' hSw; obtain ⟨x0, z0, z1, z2⟩ := HF.out w' hSw; (try dsimp only at hSw); go_simp; try with_reducible rfl)
  try simp only [Act.put, List.setIfInBounds_toArray, List.set_cons_zero, List.set_cons_succ]
  refine wpAnyT_one2 3 rfl (by kernel_rfl) ?_
  intro K' hK'
  rw [if_pos (by rfl)]
  have HK := Lib.hid hK'
  clear hK'
  go_wp2_with (go_at_call 62; refine (C1.out _ HD.out).mono ?_; rintro _ w5 ⟨rfl, hS5, hg5⟩)
  have HS5 := Lib.hid hS5
  have HG5 := Lib.hid hg5
  clear hS5 hg5
  refine HK.out _ _ ⟨HG5.out, ?_⟩
  clear HK K'
  try simp only [Act.put, List.setIfInBounds_toArray, List.set_cons_zero, List.set_cons_succ]
  refine wpAnyT_take2 4 (v := ?tvp4) (by kernel_rfl) rfl (by kernel_rfl) (fun _ _ _ h => h) (Or.inl ⟨by rfl, ?typ4⟩) HG5.out ?trp4
  case typ4 => (intro w' hSw; (try dsimp only at hSw); go_simp; try with_reducible rfl)
  try simp only [Act.put, List.setIfInBounds_toArray, List.set_cons_zero, List.set_cons_succ]
  refine wpAnyT_one2 5 rfl (by kernel_rfl) ?_
  intro K' hK'
  rw [if_pos (by rfl)]
  have HK := Lib.hid hK'
  clear hK'
  go_simp
  have HG6 := Lib.hid (gr_trans HG5.out (World.grownBy_alloc w5 (.cells #[.bool q] 4) (some g)))
  refine HK.out _ _ ⟨HG6.out, ?_⟩
  clear HK K'
  try simp only [Act.put, List.setIfInBounds_toArray, List.set_cons_zero, List.set_cons_succ]
  refine ⟨by kernel_rfl, ?_⟩
  change wpList _ _ _ [_, _, _] _ _
  have HS6 := Lib.hid (show SepB W w5 (boxT g (rdCs t1) 173 :: boxT rc #[.pointer (some ⟨g, 0, none⟩)] 127 :: boxT tb #[v0, v1, v] 34 :: rowT 4 1 v C.length (C.map Value.bool) :: more) from HS5.out)
  go_wp2_with (at_builtin; refine wpList_append_own2 _ rfl (.tmp 3) (.tmp 7) _ rfl W.heap.size 4 i4 _ 1 1 Tryz.underlying32 hi4 y0 y1 y2 rfl (by decide) v C.length (C.map Value.bool) rfl (HS6.out.row 3 _ _ _ _ _ rfl |>.alloc _) ⟨w5.heap.size, 0, none⟩ 1 1 [.bool q] rfl rfl ?c1 ?c2 ?c3 ?c4 ?c5 ?_)
  case c1 => exact CellsAt_add (CellsAt.new w5 _ _)
  case c2 => intro u hu; simp only [List.mem_cons, List.not_mem_nil, or_false] at hu; rcases hu with rfl; rfl
  case c3 => simp only [maxLen]; omega
  case c4 => omega
  case c5 => have := HS6.out.2.size; simp; omega
  intro v2 w2 hown2 hg2 hb2
  obtain ⟨a2, cp2, rfl⟩ := own_slice hown2
  have hP := HS6.out.push 3 4 1 (v) (.slice a2 (C.length + 1) cp2) C.length (C.length + 1) (C.map Value.bool) _ rfl (below_alloc (Below.refl _ _) (.cells #[.bool q] 4)) hg2 hown2 (by rw [show (w5.alloc (.cells #[.bool q] 4)).heap.size = w5.heap.size + 1 by simp]; exact hb2)
  have hB : w2.heap[tb]? = some (.cells #[v0, v1, v] 34 (0, 0)) := (SepB.box hP 2 tb _ 34 rfl).2
  have f2 := blk_frozen hB 2
  obtain ⟨z0, z1, z2⟩ := blk_cells3 hB
  have hQ := hP.store 2 tb #[v0, v1, v] 34 rfl 2 (.slice a2 (C.length + 1) cp2)
  have hfin : Post72 W g rc tb v0 v1 more t1 (C ++ [q]) (w2.setCell ⟨tb, 2, none⟩ (.slice a2 (C.length + 1) cp2)) := by
    refine ⟨.slice a2 (C.length + 1) cp2, ?_⟩
    rw [List.map_append, List.length_append]
    exact hQ
  have HFIN := Lib.hid hfin
  clear hP hB hQ hfin hown2 hg2 hb2
  go_wp2
  refine NoPanic.normal ?_
  go_wp2
  go_end0
  exact ⟨rfl, HFIN.out⟩
/-- behind a part that was read -/
def Post69 (W : World) (g rc lb tb : Nat) (v1 v2 : Value) (more : List Th) (t : Plain.St) (last : Int) (P : List Int) (w' : World) : Prop :=
  ∃ v', SepB W w' (boxT g (rdCs t) 173 :: boxT rc #[.pointer (some ⟨g, 0, none⟩)] 127 :: boxT lb #[.int .i64 last] 3 :: boxT tb #[v', v1, v2] 34 :: rowT 21 1 v' P.length (i32s P) :: more)
set_option maxRecDepth 1000000 in
set_option maxHeartbeats 4000000 in
theorem cl69_any {W w : World} (t : Plain.St) (last : Int) (P : List Int) (v v1 v2 : Value) (g rc lb tb : Nat) (more : List Th) (h : SepB W w (boxT g (rdCs t) 173 :: boxT rc #[.pointer (some ⟨g, 0, none⟩)] 127 :: boxT lb #[.int .i64 last] 3 :: boxT tb #[v, v1, v2] 34 :: rowT 21 1 v P.length (i32s P) :: more)) (hsm : t.small) (hl : P.length ≤ 1000) (hla : 0 ≤ last ∧ last ≤ 1200000000) :
    Calls Tryz.prog 69 #[.pointer (some ⟨lb, 0, none⟩), .pointer (some ⟨rc, 0, none⟩), .pointer (some ⟨tb, 0, none⟩)] w fun e w' => e = .returned (.tuple #[]) ∧ Post69 W g rc lb tb v1 v2 more (Plain.gPart (t, last, P)).1 (Plain.gPart (t, last, P)).2.1 (Plain.gPart (t, last, P)).2.2 w' := by
  have hm := Plain.number_most t Plain.mw
  obtain ⟨⟨a, t1⟩, hx⟩ : ∃ x, t.number Plain.mw = x := ⟨_, rfl⟩
  have hg : Plain.gPart (t, last, P) = (t1, last + a, P ++ [last + (a : Int)]) := by unfold Plain.gPart; dsimp only; rw [hx]
  rw [hg]
  rw [hx] at hm
  dsimp only at hm ⊢
  unfold Plain.mw at hm
  obtain ⟨i21, hi21, y0, y1, y2⟩ := info_parts info21
  have hw1 : IntKind.i64.wrap (last + (a : Int)) = last + (a : Int) := by rw [IntKind.wrap_i64]; omega
  have hw2 : IntKind.i32.wrap (last + (a : Int)) = last + (a : Int) := by rw [IntKind.wrap_i32]; omega
  have HS := Lib.hid h
  have C1 := Lib.hid (fun W' (h' : SepB W W' (boxT g (rdCs t) 173 :: boxT rc #[.pointer (some ⟨g, 0, none⟩)] 127 :: boxT lb #[.int .i64 last] 3 :: boxT tb #[v, v1, v2] 34 :: rowT 21 1 v P.length (i32s P) :: more)) => number_at (w := W') 0 g t Plain.mw 16777215 a t1 h' rfl hsm (by decide) (by decide) hx)
  clear h hx hg hsm
  go_enter Tryz.func69, Tryz.ntmps69
  go_wp2_with fail
  obtain ⟨wd, hwd⟩ : ∃ x, w.drew = x := ⟨_, rfl⟩
  have hS' := HS.out.drew
  rw [hwd] at hS'
  have HD := Lib.hid hS'
  have HF := Lib.hid (fun (w' : World) (h : wd.grownBy w' (some g)) => (⟨blk1 (gr_blk h (HD.out.box 1 _ _ _ rfl).2 (HD.out.ne 0 1 _ _ _ _ _ _ (by decide) rfl rfl).symm), blk1 (gr_blk h (HD.out.box 2 _ _ _ rfl).2 (HD.out.ne 0 2 _ _ _ _ _ _ (by decide) rfl rfl).symm)⟩ : _ ∧ _))
  have HG0 := Lib.hid (gr_refl wd (some g))
  clear hS'
  refine wp_region_noPanic ?_
  refine wp_region_T 4 (S := fun w' : World => wd.grownBy w' (some g)) (by kernel_rfl) (by decide) ?_
  rw [hwd]
  clear hwd
  refine wpAnyT_take2 0 (v := ?tvr0) (by kernel_rfl) rfl (by kernel_rfl) (fun _ _ _ h => h) (Or.inl ⟨by rfl, ?tyr0⟩) HG0.out ?trr0
  case tyr0 => (intro w' hSw; obtain ⟨x0, z0⟩ := HF.out w' hSw; (try dsimp only at hSw); go_simp; try with_reducible rfl)
  try simp only [Act.put, List.setIfInBounds_toArray, List.set_cons_zero, List.set_cons_succ]
  refine wpAnyT_take2 1 (v := ?tvr1) (by kernel_rfl) rfl (by kernel_rfl) (fun _ _ _ h => h) (Or.inl ⟨by rfl, ?tyr1⟩) HG0.out ?trr1
  case tyr1 => (intro w' hSw; obtain ⟨x0, z0⟩ := HF.out w' hSw; (try dsimp only at hSw); go_simp; try with_reducible rfl)
  try simp only [Act.put, List.setIfInBounds_toArray, List.set_cons_zero, List.set_cons_succ]
  refine wpAnyT_one2 2 rfl (by kernel_rfl) ?_
  intro K' hK'
  rw [if_pos (by rfl)]
  have HK := Lib.hid hK'
  clear hK'
  go_wp2_with (go_at_call 62; refine (C1.out _ HD.out).mono ?_; rintro _ w5 ⟨rfl, hS5, hg5⟩)
  have HS5 := Lib.hid hS5
  have HG5 := Lib.hid hg5
  clear hS5 hg5
  refine HK.out _ _ ⟨HG5.out, ?_⟩
  clear HK K'
  try simp only [Act.put, List.setIfInBounds_toArray, List.set_cons_zero, List.set_cons_succ]
  refine wpAnyT_take2 3 (v := ?tvr3) (by kernel_rfl) rfl (by kernel_rfl) (fun _ _ _ h => h) (Or.inl ⟨by rfl, ?tyr3⟩) HG5.out ?trr3
  case tyr3 => (intro w' hSw; (try dsimp only at hSw); go_simp; try with_reducible rfl)
  try simp only [Act.put, List.setIfInBounds_toArray, List.set_cons_zero, List.set_cons_succ]
  refine ⟨by kernel_rfl, ?_⟩
  change wpList _ _ _ [_] _ _
  have hS5 : SepB W w5 (boxT g (rdCs t1) 173 :: boxT rc #[.pointer (some ⟨g, 0, none⟩)] 127 :: boxT lb #[.int .i64 last] 3 :: boxT tb #[v, v1, v2] 34 :: rowT 21 1 v P.length (i32s P) :: more) := HS5.out
  have hB := (hS5.box 2 _ _ _ rfl).2
  have f0 := blk_frozen hB 0
  have z0 := blk1 hB
  have hS6 : SepB W _ (boxT g (rdCs t1) 173 :: boxT rc #[.pointer (some ⟨g, 0, none⟩)] 127 :: boxT lb #[.int .i64 (last + (a : Int))] 3 :: boxT tb #[v, v1, v2] 34 :: rowT 21 1 v P.length (i32s P) :: more) := hS5.store 2 lb _ 3 rfl 0 (.int .i64 (last + (a : Int)))
  have HS6 := Lib.hid hS6
  clear hS5 hB hS6
  go_upto_region 1 with fail
  refine NoPanic.normal ?_
  go_upto_region 1 with fail
  obtain ⟨w6, hw6⟩ : ∃ x, w5.setCell ⟨lb, 0, none⟩ (.int .i64 (last + (a : Int))) = x := ⟨_, rfl⟩
  rw [hw6] at HS6 ⊢
  clear hw6 f0 z0
  have z0 := blk1 (HS6.out.box 2 _ _ _ rfl).2
  obtain ⟨p0, p1, p2⟩ := blk_cells3 (HS6.out.box 3 _ _ _ rfl).2
  go_wp2_with (at_builtin; refine wpList_append_own2 _ rfl (.tmp 8) (.tmp 11) _ rfl W.heap.size 21 i21 _ 1 4 Tryz.underlying30 hi21 y0 y1 y2 rfl (by decide) v P.length (i32s P) rfl (HS6.out.row 4 _ _ _ _ _ rfl |>.alloc _) ⟨w6.heap.size, 0, none⟩ 1 1 [.int .i32 (last + (a : Int))] rfl rfl ?c1 ?c2 ?c3 ?c4 ?c5 ?_)
  case c1 => exact CellsAt_add (CellsAt.new w6 _ _)
  case c2 => intro u hu; simp only [List.mem_cons, List.not_mem_nil, or_false] at hu; rcases hu with rfl; rfl
  case c3 => simp only [maxLen]; omega
  case c4 => omega
  case c5 => have := HS6.out.2.size; simp; omega
  intro u2 w2 hown2 hg2 hb2
  obtain ⟨a2, cp2, rfl⟩ := own_slice hown2
  have hP := HS6.out.push 4 21 1 (v) (.slice a2 (P.length + 1) cp2) P.length (P.length + 1) (i32s P) _ rfl (below_alloc (Below.refl _ _) (.cells #[.int .i32 (last + (a : Int))] 21)) hg2 hown2 (by rw [show (w6.alloc (.cells #[.int .i32 (last + (a : Int))] 21)).heap.size = w6.heap.size + 1 by simp]; exact hb2)
  have hB : w2.heap[tb]? = some (.cells #[v, v1, v2] 34 (0, 0)) := (SepB.box hP 3 tb _ 34 rfl).2
  have f0 := blk_frozen hB 0
  clear p0 p1 p2
  obtain ⟨p0, p1, p2⟩ := blk_cells3 hB
  have hQ := hP.store 3 tb #[v, v1, v2] 34 rfl 0 (.slice a2 (P.length + 1) cp2)
  have hfin : Post69 W g rc lb tb v1 v2 more t1 (last + (a : Int)) (P ++ [last + (a : Int)]) (w2.setCell ⟨tb, 0, none⟩ (.slice a2 (P.length + 1) cp2)) := by
    refine ⟨.slice a2 (P.length + 1) cp2, ?_⟩
    rw [i32s_snoc, List.length_append]
    exact hQ
  have HFIN := Lib.hid hfin
  clear hP hB hQ hfin hown2 hg2 hb2
  go_wp2
  go_end0
  exact ⟨rfl, HFIN.out⟩
end Go.Proofs.YtmiacgkidldjmaaGreatDoor
namespace Go.Proofs.YtmiacgkidldjmaaGreatDoor
open Go.RowKit Go.Lib
def rowTh (r : Row) : Th := rowT 3 1 (rowV r) r.2.2.length (i64s r.2.2)
theorem gCell_small (t : Plain.St) (R : List Int) (h : t.small) : (Plain.gCell (t, R)).1.small := Plain.small_number _ _ h
theorem gCell_len (t : Plain.St) (R : List Int) : (Plain.gCell (t, R)).2.length = R.length + 1 := by unfold Plain.gCell; simp
theorem gPart_small (t : Plain.St) (a : Int) (P : List Int) (h : t.small) : (Plain.gPart (t, a, P)).1.small := Plain.small_number _ _ h
theorem gAcc_small (t : Plain.St) (C : List Bool) (h : t.small) : (Plain.gAcc (t, C)).1.small := Plain.small_number _ _ h
theorem gAcc_len (t : Plain.St) (C : List Bool) : (Plain.gAcc (t, C)).2.length = C.length + 1 := by unfold Plain.gAcc; simp
theorem gRow_len (w : Nat) (t : Plain.St) (N : List (List Int)) : (Plain.gRow w (t, N)).2.length = N.length + 1 := by unfold Plain.gRow; simp
theorem gRow_small (w : Nat) (t : Plain.St) (N : List (List Int)) (h : t.small) : (Plain.gRow w (t, N)).1.small := by
  unfold Plain.gRow
  dsimp only
  exact many_small Plain.gCell (fun s hs => gCell_small s.1 s.2 hs) _ _ h
/-- a table's rows, as they come -/
def Post70 (W : World) (g rc wb tb wd : Nat) (v0 v2 : Value) (mo : List Th) (t : Plain.St) (N : List (List Int)) (w' : World) : Prop :=
  ∃ R v1, nums R = N ∧ SepB W w' (boxT g (rdCs t) 173 :: boxT rc #[.pointer (some ⟨g, 0, none⟩)] 127 :: boxT wb #[.int .i64 (wd : Int)] 3 :: boxT tb #[v0, v1, v2] 34 :: rowT 60 1 v1 R.length (R.map rowV) :: (R.reverse.map rowTh ++ mo))
set_option maxRecDepth 1000000 in
set_option maxHeartbeats 4000000 in
theorem cl70_any {W w : World} (t : Plain.St) (R : List Row) (v0 v1 v2 : Value) (g rc wb tb wd : Nat) (mo : List Th) (h : SepB W w (boxT g (rdCs t) 173 :: boxT rc #[.pointer (some ⟨g, 0, none⟩)] 127 :: boxT wb #[.int .i64 (wd : Int)] 3 :: boxT tb #[v0, v1, v2] 34 :: rowT 60 1 v1 R.length (R.map rowV) :: (R.reverse.map rowTh ++ mo))) (hsm : t.small) (hl : R.length ≤ 1000) (hwd : wd ≤ 64) :
    Calls Tryz.prog 70 #[.pointer (some ⟨rc, 0, none⟩), .pointer (some ⟨wb, 0, none⟩), .pointer (some ⟨tb, 0, none⟩)] w fun e w' => e = .returned (.tuple #[]) ∧ Post70 W g rc wb tb wd v0 v2 mo (Plain.gRow wd (t, nums R)).1 (Plain.gRow wd (t, nums R)).2 w' := by
  obtain ⟨⟨t2, S⟩, hy⟩ : ∃ x, Plain.many (fun s : Plain.SW => s.1.bad) Plain.gCell wd (t, []) = x := ⟨_, rfl⟩
  have hg : Plain.gRow wd (t, nums R) = (t2, nums R ++ [S]) := by unfold Plain.gRow; dsimp only; rw [hy]
  rw [hg]
  dsimp only
  obtain ⟨i49, hi49, y0, y1, y2⟩ := info_parts info49
  have hnew := (h.new #[.slice none 0 0] 60 (.cells #[.slice none 0 0] 60)).empty 3 1
  obtain ⟨cb, hcb⟩ : ∃ x, w.heap.size = x := ⟨_, rfl⟩
  rw [hcb] at hnew
  have H0 := Lib.hid (show SepB W (w.alloc (.cells #[.slice none 0 0] 60)) (boxT g (rdCs t) 173 :: boxT rc #[.pointer (some ⟨g, 0, none⟩)] 127 :: boxT cb #[.slice none 0 0] 60 :: rowT 3 1 (.slice none 0 0) 0 (i64s []) :: boxT wb #[.int .i64 (wd : Int)] 3 :: boxT tb #[v0, v1, v2] 34 :: rowT 60 1 v1 R.length (R.map rowV) :: (R.reverse.map rowTh ++ mo)) from hnew.move22)
  have HCB := Lib.hid hcb
  have CM := Lib.hid (fun (more : List Th) (W' : World) (h' : SepB W W' (boxT g (rdCs t) 173 :: boxT rc #[.pointer (some ⟨g, 0, none⟩)] 127 :: boxT cb #[.slice none 0 0] 60 :: rowT 3 1 (.slice none 0 0) 0 (i64s []) :: more)) =>
    many_any (fun k (s : Plain.SW) W' => s.1.small ∧ s.2.length ≤ k ∧ Post71 W g rc cb more s.1 s.2 W') (fun s => s.1.bad) Plain.gCell g 71 wd #[.pointer (some ⟨cb, 0, none⟩), .pointer (some ⟨rc, 0, none⟩)] (t, []) W' (by omega) (fun W => enter71 _ W)
      (fun k s W' hI => by
        obtain ⟨_, _, v', hS⟩ := hI
        exact (blk_cells5 (hS.box 0 _ _ _ rfl).2).2.2.2.2)
      (fun k s W' hk hI _ => by
        obtain ⟨hsm, hle, v', hS⟩ := hI
        obtain ⟨ts, Rs⟩ := s
        try dsimp only at hle
        refine (cl71_any ts Rs v' g rc cb more hS hsm (by omega)).mono ?_
        rintro e w' ⟨rfl, hP⟩
        refine ⟨rfl, gCell_small ts Rs hsm, ?_, hP⟩
        rw [gCell_len]; omega)
      ⟨hsm, by simp, _, h'⟩)
  rw [hy] at CM
  clear h hy hg hsm hnew hcb
  go_enter Tryz.func70, Tryz.ntmps70
  go_upto_region 1 with fail
  rw [HCB.out]
  obtain ⟨w1, hw1⟩ : ∃ x, w.alloc (.cells #[.slice none 0 0] 60) = x := ⟨_, rfl⟩
  rw [hw1] at H0 ⊢
  clear hw1
  have x0 := blk1 (H0.out.box 1 _ _ _ rfl).2
  have z0 := blk1 (H0.out.box 4 _ _ _ rfl).2
  go_wp2_with fail
  clear x0 z0
  refine (CM.out _ _ H0.out).mono ?_
  rintro _ w6 ⟨rfl, k, hk, _, hR, v, hS6⟩
  try dsimp only at hS6
  have hown := hS6.row 3 _ _ _ _ _ rfl
  obtain ⟨A, c, rfl⟩ := own_slice hown
  have HS6 := Lib.hid hS6
  have hB := (hS6.box 2 _ _ _ rfl).2
  have hP := (hS6.box 5 _ _ _ rfl).2
  have z0 := blk1 hB
  obtain ⟨p0, p1, p2⟩ := blk_cells3 hP
  clear hS6 hown hB hP hR
  go_wp2_with (at_builtin; refine wpList_append_own2 _ rfl (.tmp 9) (.tmp 11) _ rfl W.heap.size 60 i49 _ 1 24 Tryz.underlying31 hi49 y0 y1 y2 rfl (by decide) v1 R.length (R.map rowV) rfl (HS6.out.row 6 _ _ _ _ _ rfl |>.alloc _) ⟨w6.heap.size, 0, none⟩ 1 1 [.slice A S.length c] rfl rfl ?c1 ?c2 ?c3 ?c4 ?c5 ?_)
  case c1 => exact CellsAt_add (CellsAt.new w6 _ _)
  case c2 => intro u hu; simp only [List.mem_cons, List.not_mem_nil, or_false] at hu; rcases hu with rfl; rfl
  case c3 => simp only [maxLen]; omega
  case c4 => omega
  case c5 => have := HS6.out.2.size; simp; omega
  intro u2 w2 hown2 hg2 hb2
  obtain ⟨a2, cp2, rfl⟩ := own_slice hown2
  have hP := HS6.out.push 6 60 1 (v1) (.slice a2 (R.length + 1) cp2) R.length (R.length + 1) (R.map rowV) _ rfl (below_alloc (Below.refl _ _) (.cells #[.slice A S.length c] 60)) hg2 hown2 (by rw [show (w6.alloc (.cells #[.slice A S.length c] 60)).heap.size = w6.heap.size + 1 by simp]; exact hb2)
  have hB : w2.heap[tb]? = some (.cells #[v0, v1, v2] 34 (0, 0)) := (SepB.box hP 5 tb _ 34 rfl).2
  have f1 := blk_frozen hB 1
  clear p0 p1 p2
  obtain ⟨p0, p1, p2⟩ := blk_cells3 hB
  have hQ := hP.store 5 tb #[v0, v1, v2] 34 rfl 1 (.slice a2 (R.length + 1) cp2)
  have hfin : Post70 W g rc wb tb wd v0 v2 mo t2 (nums R ++ [S]) (w2.setCell ⟨tb, 1, none⟩ (.slice a2 (R.length + 1) cp2)) := by
    refine ⟨R ++ [(A, c, S)], .slice a2 (R.length + 1) cp2, by unfold nums; simp, ?_⟩
    rw [List.length_append, List.map_append, List.reverse_append]
    exact (hQ.erase 2).move4
  have HFIN := Lib.hid hfin
  clear hP hB hQ hfin hown2 hg2 hb2
  go_wp2
  go_end0
  exact ⟨rfl, HFIN.out⟩
end Go.Proofs.YtmiacgkidldjmaaGreatDoor
