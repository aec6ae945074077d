/- Chapter 13: the examples. Conditions: what the lemma says. -/
import Derived.Test.YtmiacgkidldjmaaGreatDoorSealD
set_option linter.unusedVariables false
set_option linter.unusedSimpArgs false
namespace Go.Proofs.YtmiacgkidldjmaaGreatDoor
open Go.RowKit Go.Lib Go.Maps
open Plain (Rg May mayB In Norm In4 slotsOf insB bnd riB cls cnot rightB normB goesL Rch cntA RInv small next_in)
theorem tab_lit2 (w : World) (n : Nat) (hn : w.heap.size = n) :
    TabAt (((((w.alloc (.cells #[.int .i32 0] 21)).alloc (.cells #[.int .i64 0] 3)).alloc (.cells #[.int .i64 0] 3)).alloc (.cells #[.slice (some ⟨n + 1, 0, none⟩) 1 1, .slice (some ⟨n + 1 + 1, 0, none⟩) 1 1] 60)).alloc (.cells #[.bool true, .bool false] 4)) (some ⟨n, 0, none⟩) [0] (some ⟨n + 1 + 1 + 1, 0, none⟩) [(some ⟨n + 1, 0, none⟩, 1, [0]), (some ⟨n + 1 + 1, 0, none⟩, 1, [0])] (some ⟨n + 1 + 1 + 1 + 1, 0, none⟩) [true, false] ∧
    Below w.heap.size w (((((w.alloc (.cells #[.int .i32 0] 21)).alloc (.cells #[.int .i64 0] 3)).alloc (.cells #[.int .i64 0] 3)).alloc (.cells #[.slice (some ⟨n + 1, 0, none⟩) 1 1, .slice (some ⟨n + 1 + 1, 0, none⟩) 1 1] 60)).alloc (.cells #[.bool true, .bool false] 4)) := by
  obtain ⟨w1, hw1⟩ : ∃ x, w.alloc (.cells #[.int .i32 0] 21) = x := ⟨_, rfl⟩
  obtain ⟨w2, hw2⟩ : ∃ x, w1.alloc (.cells #[.int .i64 0] 3) = x := ⟨_, rfl⟩
  obtain ⟨w3, hw3⟩ : ∃ x, w2.alloc (.cells #[.int .i64 0] 3) = x := ⟨_, rfl⟩
  obtain ⟨w4, hw4⟩ : ∃ x, w3.alloc (.cells #[.slice (some ⟨n + 1, 0, none⟩) 1 1, .slice (some ⟨n + 1 + 1, 0, none⟩) 1 1] 60) = x := ⟨_, rfl⟩
  obtain ⟨w5, hw5⟩ : ∃ x, w4.alloc (.cells #[.bool true, .bool false] 4) = x := ⟨_, rfl⟩
  rw [hw1, hw2, hw3, hw4, hw5]
  have hb1 : w1.heap.size = n + 1 := by rw [← hw1, ← hn]; simp
  have hb2 : w2.heap.size = n + 1 + 1 := by rw [← hw2, ← hb1]; simp
  have hb3 : w3.heap.size = n + 1 + 1 + 1 := by rw [← hw3, ← hb2]; simp
  have hb4 : w4.heap.size = n + 1 + 1 + 1 + 1 := by rw [← hw4, ← hb3]; simp
  have k1 : w1.heap[n]? = some (.cells #[.int .i32 0] 21 (0, 0)) := by rw [← hw1]; exact heap_alloc_new2 _ _ _ _ hn.symm
  have k2 : w2.heap[n + 1]? = some (.cells #[.int .i64 0] 3 (0, 0)) := by rw [← hw2]; exact heap_alloc_new2 _ _ _ _ hb1.symm
  have k3 : w3.heap[n + 1 + 1]? = some (.cells #[.int .i64 0] 3 (0, 0)) := by rw [← hw3]; exact heap_alloc_new2 _ _ _ _ hb2.symm
  have k4 : w4.heap[n + 1 + 1 + 1]? = some (.cells #[.slice (some ⟨n + 1, 0, none⟩) 1 1, .slice (some ⟨n + 1 + 1, 0, none⟩) 1 1] 60 (0, 0)) := by rw [← hw4]; exact heap_alloc_new2 _ _ _ _ hb3.symm
  have k5 : w5.heap[n + 1 + 1 + 1 + 1]? = some (.cells #[.bool true, .bool false] 4 (0, 0)) := by rw [← hw5]; exact heap_alloc_new2 _ _ _ _ hb4.symm
  have B1 : Below w.heap.size w w1 := by rw [← hw1]; exact below_alloc (Below.refl _ _) _
  have B2 : Below w1.heap.size w1 w2 := by rw [← hw2]; exact below_alloc (Below.refl _ _) _
  have B3 : Below w2.heap.size w2 w3 := by rw [← hw3]; exact below_alloc (Below.refl _ _) _
  have B4 : Below w3.heap.size w3 w4 := by rw [← hw4]; exact below_alloc (Below.refl _ _) _
  have B5 : Below w4.heap.size w4 w5 := by rw [← hw5]; exact below_alloc (Below.refl _ _) _
  have j1 := blk_later (blk_later (blk_later (blk_later k1 B2) B3) B4) B5
  have j2 := blk_later (blk_later (blk_later k2 B3) B4) B5
  have j3 := blk_later (blk_later k3 B4) B5
  have j4 := blk_later k4 B5
  exact ⟨⟨Sl.of_cells (xs := i32s [0]) (cells_of j1), Sl.of_cells (xs := [rowV (some ⟨n + 1, 0, none⟩, 1, [0]), rowV (some ⟨n + 1 + 1, 0, none⟩, 1, [0])]) (cells_of j4), (fun r hr => by
      simp only [List.mem_cons, List.not_mem_nil, or_false] at hr
      rcases hr with rfl | rfl
      · exact ⟨Sl.of_cells (xs := i64s [0]) (cells_of j2), by show 1 ≤ maxLen; decide⟩
      · exact ⟨Sl.of_cells (xs := i64s [0]) (cells_of j3), by show 1 ≤ maxLen; decide⟩), Sl.of_cells (xs := [Value.bool true, Value.bool false]) (cells_of k5), by show 1 ≤ maxLen; decide, by show 2 ≤ maxLen; decide, by show 2 ≤ maxLen; decide⟩,
    below_then (below_then (below_then (below_then B1 B2) B3) B4) B5⟩
def exM : List In4 := [(0, 0, 0, 0)]
theorem exM_right : pgP exM [] 0 = true := by decide
theorem exM_fits : Plain.Fits exM [] 0 := ⟨by decide, by decide, by decide, by decide, by decide⟩
theorem exM_blob : blobP (Plain.progL exM [] 0) = (1, 0) := by
  unfold blobP
  rw [Plain.progL_kind _ _ _ exM_fits, (getE_put exM [] 0 exM_fits exM_right).1]
  rfl
set_option maxRecDepth 1000000 in
set_option maxHeartbeats 8000000 in
theorem ex13_any (w : World) : Calls Tryz.prog 13 #[] w fun e w' => e = .returned (.bool true) ∧ Below w.heap.size w w' := by
  have cP := fun (I : Option Addr) (W : World) (hP : PgAt W I exL4 none []) => ex4_program I W hP
  unfold ex4V at cP
  have cN := fun (W : World) => (show Calls Tryz.prog 38 #[.agg #[.slice none 0 0, .slice none 0 0, .int .i64 0]] W fun e w' => e = .returned (.tuple #[.agg #[.int .i64 0, .int .i64 0, .int .i64 0, .int .i64 0, .int .i64 0, .bool false, .bool false, .int .i64 0], .int .i64 11]) ∧ Below W.heap.size W w' from
    program_not none none [] [] 0 0 0 W ⟨Sl.nil _ _, Sl.nil _ _, (fun x hx => by cases hx), by decide, by decide⟩ rfl)
  have cT := fun (PA NA AA RA RB : Option Addr) (W : World) (hT : TabAt W PA [0] NA [(RA, 1, [0]), (RB, 1, [0])] AA [true, false]) =>
    (show Calls Tryz.prog 22 #[.agg #[.slice PA 1 1, .slice NA 2 2, .slice AA 2 2]] W fun e w' => e = .returned (.tuple #[.agg #[.int .i64 2, .int .i64 1, .int .i64 1, .int .i64 1, .bool true], .int .i64 0]) ∧ Below W.heap.size W w' from
      table_yes PA [0] 1 NA [(RA, 1, [0]), (RB, 1, [0])] 2 AA [true, false] 2 W hT (by show Plain.tabRight [0] [[0], [0]] 2 = true; decide))
  have cM := fun (I : Option Addr) (W : World) (hP : PgAt W I exM none []) =>
    (show Calls Tryz.prog 14 #[.agg #[.slice I 1 1, .slice none 0 0, .int .i64 0]] W fun e w' => e = .returned (.tuple #[.string (str (Plain.progL exM [] 0)), .bool true]) ∧ Below W.heap.size W w' from
      putprog_yes I none exM [] 1 0 0 W hP (by rw [pgP_eq]; exact exM_right))
  have cB := fun (W : World) => blob13_any (Plain.progL exM [] 0) (by have := (Plain.progL_len _ _ _ exM_fits).2; omega) W
  rw [exM_blob] at cB
  have cE := fun (W : World) => (show Calls Tryz.prog 18 #[.string ⟨#[]⟩] W fun e w' => e = .returned (.tuple #[.int .i64 0, .int .i64 4]) ∧ Below W.heap.size W w' from blob13_any [] (by decide) W)
  have c9 := fun (W : World) => (show Calls Tryz.prog 21 #[.agg #[.int .i64 4, .int .i64 0, .int .i64 2, .int .i64 0, .int .i64 3, .bool true, .bool true, .int .i64 1], .int .i64 9] W fun e w' => e = .returned (.int .i64 40) ∧ Below W.heap.size W w' from bound_nat 4 9 0 2 0 3 1 true true W (by decide) (by decide))
  have c62 := fun (W : World) => (show Calls Tryz.prog 21 #[.agg #[.int .i64 4, .int .i64 0, .int .i64 2, .int .i64 0, .int .i64 3, .bool true, .bool true, .int .i64 1], .int .i64 4611686018427387904] W fun e w' => e = .returned (.int .i64 1099511627776) ∧ Below W.heap.size W w' from bound_nat 4 4611686018427387904 0 2 0 3 1 true true W (by decide) (by decide))
  obtain ⟨S, hS⟩ : ∃ x, str (Plain.progL exM [] 0) = x := ⟨_, rfl⟩
  rw [hS] at cB
  simp only [hS] at cM
  have CP := Lib.hid cP
  have CN := Lib.hid cN
  have CT := Lib.hid cT
  have CM := Lib.hid cM
  have CB := Lib.hid cB
  have CE := Lib.hid cE
  have C9 := Lib.hid c9
  have C62 := Lib.hid c62
  clear cP cN cT cM cB cE c9 c62 hS
  go_enter Tryz.func13, Tryz.ntmps13
  go_wp2_with fail
  have hb : Below w.heap.size w (w.alloc (.cells #[.int .i64 2, .int .i64 1, .int .i64 2, .int .i64 0, .int .i64 3, .int .i64 0, .int .i64 0, .int .i64 0, .int .i64 0, .int .i64 0, .int .i64 0, .int .i64 0, .int .i64 0, .int .i64 0, .int .i64 0, .int .i64 0] 94)) := below_alloc (Below.refl _ _) _
  have hx : (w.alloc (.cells #[.int .i64 2, .int .i64 1, .int .i64 2, .int .i64 0, .int .i64 3, .int .i64 0, .int .i64 0, .int .i64 0, .int .i64 0, .int .i64 0, .int .i64 0, .int .i64 0, .int .i64 0, .int .i64 0, .int .i64 0, .int .i64 0] 94)).heap[w.heap.size]? = some (.cells #[.int .i64 2, .int .i64 1, .int .i64 2, .int .i64 0, .int .i64 3, .int .i64 0, .int .i64 0, .int .i64 0, .int .i64 0, .int .i64 0, .int .i64 0, .int .i64 0, .int .i64 0, .int .i64 0, .int .i64 0, .int .i64 0] 94 (0, 0)) := heap_alloc_new2 _ _ _ _ rfl
  have hPg : PgAt (w.alloc (.cells #[.int .i64 2, .int .i64 1, .int .i64 2, .int .i64 0, .int .i64 3, .int .i64 0, .int .i64 0, .int .i64 0, .int .i64 0, .int .i64 0, .int .i64 0, .int .i64 0, .int .i64 0, .int .i64 0, .int .i64 0, .int .i64 0] 94)) (some ⟨w.heap.size, 0, none⟩) exL4 none [] := ⟨Sl.of_cells (xs := i4s exL4) (cells_of hx), Sl.nil _ _, (fun x hx => by cases hx), by decide, by decide⟩
  have HB_0 := Lib.hid hb
  clear hb hx
  refine (CP.out _ _ hPg).mono ?_
  rintro _ w1 ⟨rfl, hb⟩
  clear hPg
  have HB_1 := Lib.hid (below_then HB_0.out hb)
  clear hb HB_0
  go_wp2_with fail
  obtain ⟨w2, hw⟩ : ∃ x, w1.alloc (.cells #[.int .i64 4, .int .i64 0, .int .i64 2, .int .i64 0, .int .i64 3, .bool true, .bool true, .int .i64 1] 54) = x := ⟨_, rfl⟩
  have hb : Below w1.heap.size w1 w2 := by rw [← hw]; exact below_alloc (Below.refl _ _) _
  have hx : w2.heap[w1.heap.size]? = some (.cells #[.int .i64 4, .int .i64 0, .int .i64 2, .int .i64 0, .int .i64 3, .bool true, .bool true, .int .i64 1] 54 (0, 0)) := by rw [← hw]; exact heap_alloc_new2 _ _ _ _ rfl
  have hsz : w2.heap.size = w1.heap.size + 1 := by rw [← hw]; simp
  have HB_2 := Lib.hid (below_then HB_1.out hb)
  clear hb HB_1
  rw [hw]
  obtain ⟨xb, hbn⟩ : ∃ x, w1.heap.size = x := ⟨_, rfl⟩
  rw [hbn] at hx hsz ⊢
  have HX_02 := Lib.hid hx
  have HSZX := Lib.hid hsz
  clear hw hx hbn hsz
  refine (CN.out _).mono ?_
  rintro _ w3 ⟨rfl, hb⟩
  have HB_3 := Lib.hid (below_then HB_2.out hb)
  have HX_3 := Lib.hid (blk_later HX_02.out hb)
  clear hb HB_2 HX_02
  go_wp2_with fail
  obtain ⟨w4, hw⟩ : ∃ x, w3.alloc (.cells #[.int .i64 0, .int .i64 0, .int .i64 0, .int .i64 0, .int .i64 0, .bool false, .bool false, .int .i64 0] 54) = x := ⟨_, rfl⟩
  have hb : Below w3.heap.size w3 w4 := by rw [← hw]; exact below_alloc (Below.refl _ _) _
  have hx : w4.heap[w3.heap.size]? = some (.cells #[.int .i64 0, .int .i64 0, .int .i64 0, .int .i64 0, .int .i64 0, .bool false, .bool false, .int .i64 0] 54 (0, 0)) := by rw [← hw]; exact heap_alloc_new2 _ _ _ _ rfl
  have hsz : w4.heap.size = w3.heap.size + 1 := by rw [← hw]; simp
  have HB_4 := Lib.hid (below_then HB_3.out hb)
  have HX_4 := Lib.hid (blk_later HX_3.out hb)
  clear hb HB_3 HX_3
  rw [hw]
  obtain ⟨za, hbn⟩ : ∃ x, w3.heap.size = x := ⟨_, rfl⟩
  rw [hbn] at hx hsz ⊢
  have HU_04 := Lib.hid hx
  have HSZU := Lib.hid hsz
  clear hw hx hbn hsz
  obtain ⟨t0, ht0⟩ : ∃ x, za + 1 = x := ⟨_, rfl⟩
  rw [ht0]
  have hl := tab_lit2 w4 t0 (HSZU.out.trans ht0)
  obtain ⟨w5, hw5⟩ : ∃ x, ((((w4.alloc (.cells #[.int .i32 0] 21)).alloc (.cells #[.int .i64 0] 3)).alloc (.cells #[.int .i64 0] 3)).alloc (.cells #[.slice (some ⟨t0 + 1, 0, none⟩) 1 1, .slice (some ⟨t0 + 1 + 1, 0, none⟩) 1 1] 60)).alloc (.cells #[.bool true, .bool false] 4) = x := ⟨_, rfl⟩
  rw [hw5] at hl ⊢
  obtain ⟨hT, hb⟩ := hl
  have HB_5 := Lib.hid (below_then HB_4.out hb)
  have HX_5 := Lib.hid (blk_later HX_4.out hb)
  have HU_5 := Lib.hid (blk_later HU_04.out hb)
  clear hb HB_4 HX_4 HU_04
  refine (CT.out _ _ _ _ _ _ hT).mono ?_
  rintro _ w6 ⟨rfl, hb⟩
  clear hT hw5 ht0
  have HB_6 := Lib.hid (below_then HB_5.out hb)
  have HX_6 := Lib.hid (blk_later HX_5.out hb)
  have HU_6 := Lib.hid (blk_later HU_5.out hb)
  clear hb HB_5 HX_5 HU_5
  go_wp2_with fail
  obtain ⟨w7, hw⟩ : ∃ x, w6.alloc (.cells #[.int .i64 2, .int .i64 1, .int .i64 1, .int .i64 1, .bool true] 57) = x := ⟨_, rfl⟩
  have hb : Below w6.heap.size w6 w7 := by rw [← hw]; exact below_alloc (Below.refl _ _) _
  have hx : w7.heap[w6.heap.size]? = some (.cells #[.int .i64 2, .int .i64 1, .int .i64 1, .int .i64 1, .bool true] 57 (0, 0)) := by rw [← hw]; exact heap_alloc_new2 _ _ _ _ rfl
  have hsz : w7.heap.size = w6.heap.size + 1 := by rw [← hw]; simp
  have HB_7 := Lib.hid (below_then HB_6.out hb)
  have HX_7 := Lib.hid (blk_later HX_6.out hb)
  have HU_7 := Lib.hid (blk_later HU_6.out hb)
  clear hb HB_6 HX_6 HU_6
  rw [hw]
  obtain ⟨yb, hbn⟩ : ∃ x, w6.heap.size = x := ⟨_, rfl⟩
  rw [hbn] at hx hsz ⊢
  have HY_07 := Lib.hid hx
  have HSZY := Lib.hid hsz
  clear hw hx hbn hsz
  obtain ⟨w8, hw⟩ : ∃ x, w7.alloc (.cells #[.int .i64 0, .int .i64 0, .int .i64 0, .int .i64 0] 94) = x := ⟨_, rfl⟩
  have hb : Below w7.heap.size w7 w8 := by rw [← hw]; exact below_alloc (Below.refl _ _) _
  have hx : w8.heap[yb + 1]? = some (.cells #[.int .i64 0, .int .i64 0, .int .i64 0, .int .i64 0] 94 (0, 0)) := by rw [← hw, ← HSZY.out]; exact heap_alloc_new2 _ _ _ _ rfl
  have HB_8 := Lib.hid (below_then HB_7.out hb)
  have HX_8 := Lib.hid (blk_later HX_7.out hb)
  have HU_8 := Lib.hid (blk_later HU_7.out hb)
  have HY_8 := Lib.hid (blk_later HY_07.out hb)
  clear hb HB_7 HX_7 HU_7 HY_07
  rw [hw]
  obtain ⟨zb, hzb⟩ : ∃ x, yb + 1 = x := ⟨_, rfl⟩
  rw [hzb] at hx ⊢
  have HZ_0 := Lib.hid hx
  clear hw hx hzb
  have hPm : PgAt w8 (some ⟨zb, 0, none⟩) exM none [] := ⟨Sl.of_cells (xs := i4s exM) (cells_of HZ_0.out), Sl.nil _ _, (fun x hx => by cases hx), by decide, by decide⟩
  refine (CM.out _ _ hPm).mono ?_
  rintro _ w9 ⟨rfl, hb⟩
  clear hPm
  have HB_9 := Lib.hid (below_then HB_8.out hb)
  have HX_9 := Lib.hid (blk_later HX_8.out hb)
  have HU_9 := Lib.hid (blk_later HU_8.out hb)
  have HY_9 := Lib.hid (blk_later HY_8.out hb)
  have HZ_9 := Lib.hid (blk_later HZ_0.out hb)
  clear hb HB_8 HX_8 HU_8 HY_8 HZ_0
  go_wp2_with fail
  refine (CB.out _).mono ?_
  rintro _ w10 ⟨rfl, hb⟩
  try dsimp only
  have HB_10 := Lib.hid (below_then HB_9.out hb)
  have HX_10 := Lib.hid (blk_later HX_9.out hb)
  have HU_10 := Lib.hid (blk_later HU_9.out hb)
  have HY_10 := Lib.hid (blk_later HY_9.out hb)
  have HZ_10 := Lib.hid (blk_later HZ_9.out hb)
  clear hb HB_9 HX_9 HU_9 HY_9 HZ_9
  go_wp2_with fail
  refine (CE.out _).mono ?_
  rintro _ w11 ⟨rfl, hb⟩
  have HB_11 := Lib.hid (below_then HB_10.out hb)
  have HX_11 := Lib.hid (blk_later HX_10.out hb)
  have HU_11 := Lib.hid (blk_later HU_10.out hb)
  have HY_11 := Lib.hid (blk_later HY_10.out hb)
  have HZ_11 := Lib.hid (blk_later HZ_10.out hb)
  clear hb HB_10 HX_10 HU_10 HY_10 HZ_10
  obtain ⟨⟨x0, x1, x2, x3, x4, x5, x6, x7⟩, _⟩ := blk8 HX_11.out
  obtain ⟨y0, y1, y2, y3, y4⟩ := blk_cells5 HY_11.out
  go_wp2_with fail
  refine (C9.out _).mono ?_
  rintro _ w12 ⟨rfl, hb⟩
  clear x0 x1 x2 x3 x4 x5 x6 x7 y0 y1 y2 y3 y4
  have HB_12 := Lib.hid (below_then HB_11.out hb)
  have HX_12 := Lib.hid (blk_later HX_11.out hb)
  have HU_12 := Lib.hid (blk_later HU_11.out hb)
  have HY_12 := Lib.hid (blk_later HY_11.out hb)
  have HZ_12 := Lib.hid (blk_later HZ_11.out hb)
  clear hb HB_11 HX_11 HU_11 HY_11 HZ_11
  obtain ⟨⟨x0, x1, x2, x3, x4, x5, x6, x7⟩, _⟩ := blk8 HX_12.out
  obtain ⟨y0, y1, y2, y3, y4⟩ := blk_cells5 HY_12.out
  go_wp2_with fail
  refine (C62.out _).mono ?_
  rintro _ w13 ⟨rfl, hb⟩
  have HB_13 := Lib.hid (below_then HB_12.out hb)
  have HX_13 := Lib.hid (blk_later HX_12.out hb)
  have HU_13 := Lib.hid (blk_later HU_12.out hb)
  have HY_13 := Lib.hid (blk_later HY_12.out hb)
  have HZ_13 := Lib.hid (blk_later HZ_12.out hb)
  clear hb HB_12 HX_12 HU_12 HY_12 HZ_12
  go_wp2
  go_ret
  exact ⟨rfl, HB_13.out⟩
end Go.Proofs.YtmiacgkidldjmaaGreatDoor
