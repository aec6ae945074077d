/- Chapter 8: the examples. Conditions: none. -/
import Derived.Test.YtpeheppiolfpfaaDoorReachA
import Derived.Deep.CutBlock
set_option linter.unusedVariables false
set_option linter.unusedSimpArgs false
namespace Go.Proofs.YtpeheppiolfpfaaDoor.Plain
def exL : List In4 := [(2, 1, 3, 0), (1, 2, 0, 0), (3, 0, 0, 0), (0, 0, 0, 0), (5, 0, 0, 3)]
theorem ex_step : ∀ a ∈ List.range 5, ∀ m ∈ List.range 5, a ≠ 4 → (m : Int) ∈ nextL (exL.getD a (0, 0, 0, 0)) → m ≠ 4 := by decide
theorem ex_r3 : Rch exL 3 := (Rch.zero (by decide)).step (by decide) (by decide)
theorem ex_r4 : ¬ Rch exL 4 := fun h => h.2 (fun a => a ≠ 4) (by decide) (fun a m ha hs hm hn => ex_step a (List.mem_range.2 ha) m (List.mem_range.2 hm) hs hn) rfl
end Go.Proofs.YtpeheppiolfpfaaDoor.Plain
namespace Go.Proofs.YtpeheppiolfpfaaDoor
open Go.RowKit Go.Lib
open Plain (Rg May mayB In Norm In4 slotsOf insB bnd riB cls cnot rightB normB nextL Rch cntA RInv exL small putL lineL)
def exK (g : Nat) : List Cs := [⟨some ⟨g, 0, none⟩, 1, [(97, 97)]⟩]
theorem ex_small : ∀ t ∈ exL, small t := by
  intro t ht
  simp only [exL, List.mem_cons, List.not_mem_nil, or_false] at ht
  rcases ht with rfl | rfl | rfl | rfl | rfl <;> simp [small]
theorem ex_dec : decDigits 0 = [48] ∧ decDigits 1 = [49] ∧ decDigits 2 = [50] ∧ decDigits 3 = [51] ∧ decDigits 4 = [52] := by
  refine ⟨?_, ?_, ?_, ?_, ?_⟩ <;> (unfold decDigits; rw [dif_pos (by decide)]; rfl)
theorem ex_put : putsL exL 5 = [48, 32, 115, 112, 108, 105, 116, 32, 49, 32, 51, 10, 49, 32, 111, 110, 101, 32, 48, 32, 50, 10, 50, 32, 106, 117, 109, 112, 32, 48, 10, 51, 32, 109, 97, 116, 99, 104, 10, 52, 32, 97, 115, 115, 101, 114, 116, 32, 51, 32, 48, 10] := by
  obtain ⟨h0, h1, h2, h3, h4⟩ := ex_dec
  simp [putsL, List.range_succ, exL, putL, lineL, h0, h1, h2, h3, h4]
theorem ex_right (g : Nat) : pgR exL (exK g) 0 = true := rfl
theorem ex_none : pgR [] [] 0 = false := by decide
theorem slotsOf_small (g : Int) (h : 0 ≤ g) (h2 : g < 1000000000000) : slotsOf g = 2 * g + 2 := by
  unfold slotsOf
  rw [if_neg (by omega), IntWalk.wrap64_in (2 * g) (by omega), IntWalk.wrap64_in (2 * g + 2) (by omega)]
theorem ex_cnt : cntA exL = 1 := by decide
set_option maxRecDepth 1000000 in
set_option maxHeartbeats 8000000 in
theorem examples_any (W : World) : Calls Tryd.prog 9 #[] W fun e w' => e = .returned (.bool true) ∧ Below W.heap.size W w' := by
  have CR := Lib.hid (fun (w : World) (h : PgAt w (some ⟨W.heap.size, 0, none⟩) exL (some ⟨W.heap.size + 1 + 1, 0, none⟩) (exK (W.heap.size + 1))) => reach_any (some ⟨W.heap.size, 0, none⟩) (some ⟨W.heap.size + 1 + 1, 0, none⟩) exL (exK (W.heap.size + 1)) 5 1 0 w h (by decide))
  have C16 := Lib.hid (fun (w : World) (h : PgAt w (some ⟨W.heap.size, 0, none⟩) exL (some ⟨W.heap.size + 1 + 1, 0, none⟩) (exK (W.heap.size + 1))) => prright_any (some ⟨W.heap.size, 0, none⟩) (some ⟨W.heap.size + 1 + 1, 0, none⟩) exL (exK (W.heap.size + 1)) 5 1 0 w h)
  have C24 := Lib.hid (fun (w : World) (h : PgAt w (some ⟨W.heap.size, 0, none⟩) exL (some ⟨W.heap.size + 1 + 1, 0, none⟩) (exK (W.heap.size + 1))) => pput_any (some ⟨W.heap.size, 0, none⟩) (some ⟨W.heap.size + 1 + 1, 0, none⟩) exL (exK (W.heap.size + 1)) 5 1 0 w h ex_small (by decide))
  have C20 := Lib.hid (fun (w : World) => slots_any (some ⟨W.heap.size, 0, none⟩) (some ⟨W.heap.size + 1 + 1, 0, none⟩) 5 5 1 1 0 w)
  have C22 := Lib.hid (fun (w : World) (h : PgAt w (some ⟨W.heap.size, 0, none⟩) exL (some ⟨W.heap.size + 1 + 1, 0, none⟩) (exK (W.heap.size + 1))) => asserts_any (some ⟨W.heap.size, 0, none⟩) (some ⟨W.heap.size + 1 + 1, 0, none⟩) exL (exK (W.heap.size + 1)) 5 1 0 w h)
  have C14 := Lib.hid (fun (w : World) (h : PgAt w (some ⟨W.heap.size, 0, none⟩) exL (some ⟨W.heap.size + 1 + 1, 0, none⟩) (exK (W.heap.size + 1))) => psame_any (some ⟨W.heap.size, 0, none⟩) (some ⟨W.heap.size, 0, none⟩) (some ⟨W.heap.size + 1 + 1, 0, none⟩) (some ⟨W.heap.size + 1 + 1, 0, none⟩) exL exL (exK (W.heap.size + 1)) (exK (W.heap.size + 1)) 5 5 1 1 0 0 w h h)
  have C16n := Lib.hid (fun (w : World) => prright_any none none [] [] 0 0 0 w ⟨Sl.nil _ _, Sl.nil _ _, fun x hx => absurd hx (by simp), by simp [maxLen], by simp [maxLen]⟩)
  have C18a := Lib.hid (fun (w : World) => rightInst_any (some ⟨W.heap.size, 0, none⟩) (some ⟨W.heap.size + 1 + 1, 0, none⟩) 5 5 1 1 0 (2, 1, 3, 0) w)
  have C18b := Lib.hid (fun (w : World) => rightInst_any (some ⟨W.heap.size, 0, none⟩) (some ⟨W.heap.size + 1 + 1, 0, none⟩) 5 5 1 1 0 (3, 5, 0, 0) w)
  rw [ex_right] at C16
  rw [ex_none] at C16n
  rw [show exL.length = 5 from rfl, ex_put, show str [48, 32, 115, 112, 108, 105, 116, 32, 49, 32, 51, 10, 49, 32, 111, 110, 101, 32, 48, 32, 50, 10, 50, 32, 106, 117, 109, 112, 32, 48, 10, 51, 32, 109, 97, 116, 99, 104, 10, 52, 32, 97, 115, 115, 101, 114, 116, 32, 51, 32, 48, 10] = ⟨#[48, 32, 115, 112, 108, 105, 116, 32, 49, 32, 51, 10, 49, 32, 111, 110, 101, 32, 48, 32, 50, 10, 50, 32, 106, 117, 109, 112, 32, 48, 10, 51, 32, 109, 97, 116, 99, 104, 10, 52, 32, 97, 115, 115, 101, 114, 116, 32, 51, 32, 48, 10]⟩ from rfl] at C24
  rw [slotsOf_small 0 (by decide) (by decide)] at C20
  rw [ex_cnt] at C22
  rw [show pgS exL exL (exK (W.heap.size + 1)) (exK (W.heap.size + 1)) 0 0 = true by simp [pgS]] at C14
  rw [show riB 5 1 0 (2, 1, 3, 0) = true by decide] at C18a
  rw [show riB 5 1 0 (3, 5, 0, 0) = false by decide] at C18b
  unfold pgV at CR C16 C24 C20 C22 C14 C16n C18a C18b
  unfold i4V at C18a C18b
  go_enter Tryd.func9, Tryd.ntmps9
  go_wp2_with fail
  have hP : PgAt ((((W.alloc (.cells #[.int .i64 2, .int .i64 1, .int .i64 3, .int .i64 0, .int .i64 1, .int .i64 2, .int .i64 0, .int .i64 0, .int .i64 3, .int .i64 0, .int .i64 0, .int .i64 0, .int .i64 0, .int .i64 0, .int .i64 0, .int .i64 0, .int .i64 5, .int .i64 0, .int .i64 0, .int .i64 3] 30)).alloc (.cells #[.int .i32 97, .int .i32 97] 59)).alloc (.cells #[.slice (some ⟨W.heap.size + 1, 0, none⟩) 1 1] 61)).alloc (.cells #[.slice (some ⟨W.heap.size, 0, none⟩) 5 5, .slice (some ⟨W.heap.size + 1 + 1, 0, none⟩) 1 1, .int .i64 0] 25))
      (some ⟨W.heap.size, 0, none⟩) exL (some ⟨W.heap.size + 1 + 1, 0, none⟩) (exK (W.heap.size + 1)) := by
    refine ⟨Sl.of_cells ((((CellsAt.new W _ 30).alloc _).alloc _).alloc _), Sl.of_cells ((CellsAt.at_size (by simp) _ _).alloc _), fun x hx => ?_, by decide, by simp [exK, maxLen]⟩
    simp only [exK, List.mem_singleton] at hx
    subst hx
    exact ⟨Rs.of_two (blk_alloc (blk_alloc (heap_alloc_new2 _ _ _ _ (by simp)) _) _), by simp [maxLen]⟩
  have hX : ((((W.alloc (.cells #[.int .i64 2, .int .i64 1, .int .i64 3, .int .i64 0, .int .i64 1, .int .i64 2, .int .i64 0, .int .i64 0, .int .i64 3, .int .i64 0, .int .i64 0, .int .i64 0, .int .i64 0, .int .i64 0, .int .i64 0, .int .i64 0, .int .i64 5, .int .i64 0, .int .i64 0, .int .i64 3] 30)).alloc (.cells #[.int .i32 97, .int .i32 97] 59)).alloc (.cells #[.slice (some ⟨W.heap.size + 1, 0, none⟩) 1 1] 61)).alloc (.cells #[.slice (some ⟨W.heap.size, 0, none⟩) 5 5, .slice (some ⟨W.heap.size + 1 + 1, 0, none⟩) 1 1, .int .i64 0] 25)).heap[W.heap.size + 1 + 1 + 1]? = some (.cells #[.slice (some ⟨W.heap.size, 0, none⟩) 5 5, .slice (some ⟨W.heap.size + 1 + 1, 0, none⟩) 1 1, .int .i64 0] 25 (0, 0)) := heap_alloc_new2 _ _ _ _ (by simp)
  have hBW : Below W.heap.size W ((((W.alloc (.cells #[.int .i64 2, .int .i64 1, .int .i64 3, .int .i64 0, .int .i64 1, .int .i64 2, .int .i64 0, .int .i64 0, .int .i64 3, .int .i64 0, .int .i64 0, .int .i64 0, .int .i64 0, .int .i64 0, .int .i64 0, .int .i64 0, .int .i64 5, .int .i64 0, .int .i64 0, .int .i64 3] 30)).alloc (.cells #[.int .i32 97, .int .i32 97] 59)).alloc (.cells #[.slice (some ⟨W.heap.size + 1, 0, none⟩) 1 1] 61)).alloc (.cells #[.slice (some ⟨W.heap.size, 0, none⟩) 5 5, .slice (some ⟨W.heap.size + 1 + 1, 0, none⟩) 1 1, .int .i64 0] 25)) := below_alloc (below_alloc (below_alloc (below_alloc (Below.refl _ _) _) _) _) _
  generalize ((((W.alloc (.cells #[.int .i64 2, .int .i64 1, .int .i64 3, .int .i64 0, .int .i64 1, .int .i64 2, .int .i64 0, .int .i64 0, .int .i64 3, .int .i64 0, .int .i64 0, .int .i64 0, .int .i64 0, .int .i64 0, .int .i64 0, .int .i64 0, .int .i64 5, .int .i64 0, .int .i64 0, .int .i64 3] 30)).alloc (.cells #[.int .i32 97, .int .i32 97] 59)).alloc (.cells #[.slice (some ⟨W.heap.size + 1, 0, none⟩) 1 1] 61)).alloc (.cells #[.slice (some ⟨W.heap.size, 0, none⟩) 5 5, .slice (some ⟨W.heap.size + 1 + 1, 0, none⟩) 1 1, .int .i64 0] 25)) = wa at *
  refine (CR.out _ hP).mono ?_
  rintro e wb ⟨gr, O, rfl, hOl, hO, hR, hb⟩
  rw [show exL.length = 5 from rfl] at hOl hR ⊢
  have HBW := Lib.hid (below_then hBW hb)
  have HP := Lib.hid (hP.below hb)
  have hXb := blk_later hX hb
  have h3 : O.getD 3 false = true := (hR 3 (by decide)).2 Plain.ex_r3
  have h4 : O.getD 4 false = false := by
    rw [Bool.eq_false_iff]
    exact fun h => Plain.ex_r4 ((hR 4 (by decide)).1 h)
  have hF : ∀ w' : World, Below wb.heap.size wb w' → w'.cell? ⟨W.heap.size + 1 + 1 + 1, 0, none⟩ = some (.slice (some ⟨W.heap.size, 0, none⟩) 5 5) ∧ w'.cell? ⟨W.heap.size + 1 + 1 + 1, 1, none⟩ = some (.slice (some ⟨W.heap.size + 1 + 1, 0, none⟩) 1 1) ∧ w'.cell? ⟨W.heap.size + 1 + 1 + 1, 2, none⟩ = some (.int .i64 0) ∧
      w'.cell? ⟨gr, 3, none⟩ = some (.bool true) ∧ w'.cell? ⟨gr, 4, none⟩ = some (.bool false) ∧ w'.cell? ⟨W.heap.size, 0, none⟩ = some (.int .i64 2) ∧ w'.cell? ⟨W.heap.size, 1, none⟩ = some (.int .i64 1) ∧ w'.cell? ⟨W.heap.size, 2, none⟩ = some (.int .i64 3) ∧ w'.cell? ⟨W.heap.size, 3, none⟩ = some (.int .i64 0) := fun w' hw => by
    obtain ⟨a0, a1, a2⟩ := blk_cells3 (blk_later hXb hw)
    have hOw := blk_later hO hw
    have e3 : w'.cell? ⟨gr, 3, none⟩ = some (.bool (O.getD 3 false)) := by
      rw [cell_of_row _ _ _ _ _ _ hOw]
      have : 3 < O.length := by rw [hOl]; decide
      simp [bls, List.getD_eq_getElem?_getD, List.getElem?_eq_getElem this]
    have e4 : w'.cell? ⟨gr, 4, none⟩ = some (.bool (O.getD 4 false)) := by
      rw [cell_of_row _ _ _ _ _ _ hOw]
      have : 4 < O.length := by rw [hOl]; decide
      simp [bls, List.getD_eq_getElem?_getD, List.getElem?_eq_getElem this]
    rw [h3] at e3
    rw [h4] at e4
    obtain ⟨b, off, e, hb, c0, c1, c2, c3⟩ := i4_at (HP.out.insts.below hw) 0 (by decide)
    injection e with e; injection e with e1 e2; subst e1 e2
    exact ⟨a0, a1, a2, e3, e4, c0, c1, c2, c3⟩
  have HF := Lib.hid hF
  clear hF hP hX hBW hXb h3 h4 hO hR hb
  go_upto_region 3 with fail
  have HB0 := Lib.hid (Below.drew (Below.refl wb.heap.size wb))
  refine wp_region_noPanic ?_
  refine wp_region_T 57 (S := fun w' : World => Below wb.heap.size wb w') (by kernel_rfl) (by decide) ?_
  refine wpAnyT_take2 0 (v := ?tve0) (by kernel_rfl) rfl (by kernel_rfl) (fun _ _ _ h => h) (Or.inl ⟨by rfl, ?tye0⟩) HB0.out ?tre0
  case tye0 => (intro w' hSw; obtain ⟨f0, f1, f2, f3, f4, f5, f6, f7, f8⟩ := HF.out w' hSw; (try dsimp only at hSw); go_simp; try with_reducible rfl)
  try simp only [Act.put, List.setIfInBounds_toArray, List.set_cons_zero, List.set_cons_succ]
  refine wpAnyT_one2 1 rfl (by kernel_rfl) ?_
  intro K' hK'
  rw [if_pos (by rfl)]
  have HK := Lib.hid hK'
  clear hK'
  go_wp2_with (go_at_call 16; refine (C16.out _ (HP.out.below HB0.out)).mono ?_; rintro e1 w1 ⟨rfl, hb1⟩)
  have HB1 := Lib.hid (below_then HB0.out hb1)
  clear hb1
  refine HK.out _ _ ⟨HB1.out, ?_⟩
  clear HK K'
  try simp only [Act.put, List.setIfInBounds_toArray, List.set_cons_zero, List.set_cons_succ]
  refine wpAnyT_take2 2 (v := ?tve2) (by kernel_rfl) rfl (by kernel_rfl) (fun _ _ _ h => h) (Or.inl ⟨by rfl, ?tye2⟩) HB1.out ?tre2
  case tye2 => (intro w' hSw; (try dsimp only at hSw); go_simp; try with_reducible rfl)
  try simp only [Act.put, List.setIfInBounds_toArray, List.set_cons_zero, List.set_cons_succ]
  refine wpAnyT_take2 3 (v := ?tve3) (by kernel_rfl) rfl (by kernel_rfl) (fun _ _ _ h => h) (Or.inl ⟨by rfl, ?tye3⟩) HB1.out ?tre3
  case tye3 => (intro w' hSw; obtain ⟨f0, f1, f2, f3, f4, f5, f6, f7, f8⟩ := HF.out w' hSw; (try dsimp only at hSw); go_simp; try with_reducible rfl)
  try simp only [Act.put, List.setIfInBounds_toArray, List.set_cons_zero, List.set_cons_succ]
  refine wpAnyT_one2 4 rfl (by kernel_rfl) ?_
  intro K' hK'
  rw [if_pos (by rfl)]
  have HK := Lib.hid hK'
  clear hK'
  go_wp2_with (go_at_call 24; refine (C24.out _ (HP.out.below HB1.out)).mono ?_; rintro e2 w2 ⟨rfl, hb2⟩)
  have HB2 := Lib.hid (below_then HB1.out hb2)
  clear hb2
  refine HK.out _ _ ⟨HB2.out, ?_⟩
  clear HK K'
  try simp only [Act.put, List.setIfInBounds_toArray, List.set_cons_zero, List.set_cons_succ]
  refine wpAnyT_take2 5 (v := ?tve5) (by kernel_rfl) rfl (by kernel_rfl) (fun _ _ _ h => h) (Or.inl ⟨by rfl, ?tye5⟩) HB2.out ?tre5
  case tye5 => (intro w' hSw; (try dsimp only at hSw); go_simp; try with_reducible rfl)
  try simp only [Act.put, List.setIfInBounds_toArray, List.set_cons_zero, List.set_cons_succ]
  refine wpAnyT_take2 6 (v := ?tve6) (by kernel_rfl) rfl (by kernel_rfl) (fun _ _ _ h => h) (Or.inl ⟨by rfl, ?tye6⟩) HB2.out ?tre6
  case tye6 => (intro w' hSw; (try dsimp only at hSw); go_simp; try with_reducible rfl)
  try simp only [Act.put, List.setIfInBounds_toArray, List.set_cons_zero, List.set_cons_succ]
  refine wpAnyT_take2 7 (v := ?tve7) (by kernel_rfl) rfl (by kernel_rfl) (fun _ _ _ h => h) (Or.inl ⟨by rfl, ?tye7⟩) HB2.out ?tre7
  case tye7 => (intro w' hSw; (try dsimp only at hSw); go_simp; try with_reducible rfl)
  try simp only [Act.put, List.setIfInBounds_toArray, List.set_cons_zero, List.set_cons_succ]
  refine wpAnyT_take2 8 (v := ?tve8) (by kernel_rfl) rfl (by kernel_rfl) (fun _ _ _ h => h) (Or.inl ⟨by rfl, ?tye8⟩) HB2.out ?tre8
  case tye8 => (intro w' hSw; obtain ⟨f0, f1, f2, f3, f4, f5, f6, f7, f8⟩ := HF.out w' hSw; (try dsimp only at hSw); go_simp; try with_reducible rfl)
  try simp only [Act.put, List.setIfInBounds_toArray, List.set_cons_zero, List.set_cons_succ]
  refine wpAnyT_one2 9 rfl (by kernel_rfl) ?_
  intro K' hK'
  rw [if_pos (by rfl)]
  have HK := Lib.hid hK'
  clear hK'
  go_wp2_with (go_at_call 20; refine (C20.out _).mono ?_; rintro e3 w3 ⟨rfl, hb3⟩)
  have HB3 := Lib.hid (below_then HB2.out hb3)
  clear hb3
  refine HK.out _ _ ⟨HB3.out, ?_⟩
  clear HK K'
  try simp only [Act.put, List.setIfInBounds_toArray, List.set_cons_zero, List.set_cons_succ]
  refine wpAnyT_take2 10 (v := ?tve10) (by kernel_rfl) rfl (by kernel_rfl) (fun _ _ _ h => h) (Or.inl ⟨by rfl, ?tye10⟩) HB3.out ?tre10
  case tye10 => (intro w' hSw; (try dsimp only at hSw); go_simp; try with_reducible rfl)
  try simp only [Act.put, List.setIfInBounds_toArray, List.set_cons_zero, List.set_cons_succ]
  refine wpAnyT_take2 11 (v := ?tve11) (by kernel_rfl) rfl (by kernel_rfl) (fun _ _ _ h => h) (Or.inl ⟨by rfl, ?tye11⟩) HB3.out ?tre11
  case tye11 => (intro w' hSw; (try dsimp only at hSw); go_simp; try with_reducible rfl)
  try simp only [Act.put, List.setIfInBounds_toArray, List.set_cons_zero, List.set_cons_succ]
  refine wpAnyT_take2 12 (v := ?tve12) (by kernel_rfl) rfl (by kernel_rfl) (fun _ _ _ h => h) (Or.inl ⟨by rfl, ?tye12⟩) HB3.out ?tre12
  case tye12 => (intro w' hSw; (try dsimp only at hSw); go_simp; try with_reducible rfl)
  try simp only [Act.put, List.setIfInBounds_toArray, List.set_cons_zero, List.set_cons_succ]
  refine wpAnyT_take2 13 (v := ?tve13) (by kernel_rfl) rfl (by kernel_rfl) (fun _ _ _ h => h) (Or.inl ⟨by rfl, ?tye13⟩) HB3.out ?tre13
  case tye13 => (intro w' hSw; obtain ⟨f0, f1, f2, f3, f4, f5, f6, f7, f8⟩ := HF.out w' hSw; (try dsimp only at hSw); go_simp; try with_reducible rfl)
  try simp only [Act.put, List.setIfInBounds_toArray, List.set_cons_zero, List.set_cons_succ]
  refine wpAnyT_one2 14 rfl (by kernel_rfl) ?_
  intro K' hK'
  rw [if_pos (by rfl)]
  have HK := Lib.hid hK'
  clear hK'
  go_wp2_with (go_at_call 22; refine (C22.out _ (HP.out.below HB3.out)).mono ?_; rintro e4 w4 ⟨rfl, hb4⟩)
  have HB4 := Lib.hid (below_then HB3.out hb4)
  clear hb4
  refine HK.out _ _ ⟨HB4.out, ?_⟩
  clear HK K'
  try simp only [Act.put, List.setIfInBounds_toArray, List.set_cons_zero, List.set_cons_succ]
  refine wpAnyT_take2 15 (v := ?tve15) (by kernel_rfl) rfl (by kernel_rfl) (fun _ _ _ h => h) (Or.inl ⟨by rfl, ?tye15⟩) HB4.out ?tre15
  case tye15 => (intro w' hSw; (try dsimp only at hSw); go_simp; try with_reducible rfl)
  try simp only [Act.put, List.setIfInBounds_toArray, List.set_cons_zero, List.set_cons_succ]
  refine wpAnyT_take2 16 (v := ?tve16) (by kernel_rfl) rfl (by kernel_rfl) (fun _ _ _ h => h) (Or.inl ⟨by rfl, ?tye16⟩) HB4.out ?tre16
  case tye16 => (intro w' hSw; (try dsimp only at hSw); go_simp; try with_reducible rfl)
  try simp only [Act.put, List.setIfInBounds_toArray, List.set_cons_zero, List.set_cons_succ]
  refine wpAnyT_take2 17 (v := ?tve17) (by kernel_rfl) rfl (by kernel_rfl) (fun _ _ _ h => h) (Or.inl ⟨by rfl, ?tye17⟩) HB4.out ?tre17
  case tye17 => (intro w' hSw; (try dsimp only at hSw); go_simp; try with_reducible rfl)
  try simp only [Act.put, List.setIfInBounds_toArray, List.set_cons_zero, List.set_cons_succ]
  refine wpAnyT_take2 18 (v := ?tve18) (by kernel_rfl) rfl (by kernel_rfl) (fun _ _ _ h => h) (Or.inl ⟨by rfl, ?tye18⟩) HB4.out ?tre18
  case tye18 => (intro w' hSw; (try dsimp only at hSw); go_simp; try with_reducible rfl)
  try simp only [Act.put, List.setIfInBounds_toArray, List.set_cons_zero, List.set_cons_succ]
  refine wpAnyT_take2 19 (v := ?tve19) (by kernel_rfl) rfl (by kernel_rfl) (fun _ _ _ h => h) (Or.inl ⟨by rfl, ?tye19⟩) HB4.out ?tre19
  case tye19 => (intro w' hSw; (try dsimp only at hSw); go_simp; try with_reducible rfl)
  try simp only [Act.put, List.setIfInBounds_toArray, List.set_cons_zero, List.set_cons_succ]
  refine wpAnyT_take2 20 (v := ?tve20) (by kernel_rfl) rfl (by kernel_rfl) (fun _ _ _ h => h) (Or.inl ⟨by rfl, ?tye20⟩) HB4.out ?tre20
  case tye20 => (intro w' hSw; (try dsimp only at hSw); go_simp; try with_reducible rfl)
  try simp only [Act.put, List.setIfInBounds_toArray, List.set_cons_zero, List.set_cons_succ]
  refine wpAnyT_take2 21 (v := ?tve21) (by kernel_rfl) rfl (by kernel_rfl) (fun _ _ _ h => h) (Or.inl ⟨by rfl, ?tye21⟩) HB4.out ?tre21
  case tye21 => (intro w' hSw; (try dsimp only at hSw); go_simp; try with_reducible rfl)
  try simp only [Act.put, List.setIfInBounds_toArray, List.set_cons_zero, List.set_cons_succ]
  refine wpAnyT_take2 22 (v := ?tve22) (by kernel_rfl) rfl (by kernel_rfl) (fun _ _ _ h => h) (Or.inl ⟨by rfl, ?tye22⟩) HB4.out ?tre22
  case tye22 => (intro w' hSw; (try dsimp only at hSw); go_simp; try with_reducible rfl)
  try simp only [Act.put, List.setIfInBounds_toArray, List.set_cons_zero, List.set_cons_succ]
  refine wpAnyT_take2 23 (v := ?tve23) (by kernel_rfl) rfl (by kernel_rfl) (fun _ _ _ h => h) (Or.inl ⟨by rfl, ?tye23⟩) HB4.out ?tre23
  case tye23 => (intro w' hSw; (try dsimp only at hSw); go_simp; try with_reducible rfl)
  try simp only [Act.put, List.setIfInBounds_toArray, List.set_cons_zero, List.set_cons_succ]
  refine wpAnyT_take2 24 (v := ?tve24) (by kernel_rfl) rfl (by kernel_rfl) (fun _ _ _ h => h) (Or.inl ⟨by rfl, ?tye24⟩) HB4.out ?tre24
  case tye24 => (intro w' hSw; (try dsimp only at hSw); go_simp; try with_reducible rfl)
  try simp only [Act.put, List.setIfInBounds_toArray, List.set_cons_zero, List.set_cons_succ]
  refine wpAnyT_take2 25 (v := ?tve25) (by kernel_rfl) rfl (by kernel_rfl) (fun _ _ _ h => h) (Or.inl ⟨by rfl, ?tye25⟩) HB4.out ?tre25
  case tye25 => (intro w' hSw; obtain ⟨f0, f1, f2, f3, f4, f5, f6, f7, f8⟩ := HF.out w' hSw; (try dsimp only at hSw); go_simp; try with_reducible rfl)
  try simp only [Act.put, List.setIfInBounds_toArray, List.set_cons_zero, List.set_cons_succ]
  refine wpAnyT_take2 26 (v := ?tve26) (by kernel_rfl) rfl (by kernel_rfl) (fun _ _ _ h => h) (Or.inl ⟨by rfl, ?tye26⟩) HB4.out ?tre26
  case tye26 => (intro w' hSw; (try dsimp only at hSw); go_simp; try with_reducible rfl)
  try simp only [Act.put, List.setIfInBounds_toArray, List.set_cons_zero, List.set_cons_succ]
  refine wpAnyT_take2 27 (v := ?tve27) (by kernel_rfl) rfl (by kernel_rfl) (fun _ _ _ h => h) (Or.inl ⟨by rfl, ?tye27⟩) HB4.out ?tre27
  case tye27 => (intro w' hSw; (try dsimp only at hSw); go_simp; try with_reducible rfl)
  try simp only [Act.put, List.setIfInBounds_toArray, List.set_cons_zero, List.set_cons_succ]
  refine wpAnyT_take2 28 (v := ?tve28) (by kernel_rfl) rfl (by kernel_rfl) (fun _ _ _ h => h) (Or.inl ⟨by rfl, ?tye28⟩) HB4.out ?tre28
  case tye28 => (intro w' hSw; (try dsimp only at hSw); go_simp; try with_reducible rfl)
  try simp only [Act.put, List.setIfInBounds_toArray, List.set_cons_zero, List.set_cons_succ]
  refine wpAnyT_take2 29 (v := ?tve29) (by kernel_rfl) rfl (by kernel_rfl) (fun _ _ _ h => h) (Or.inl ⟨by rfl, ?tye29⟩) HB4.out ?tre29
  case tye29 => (intro w' hSw; (try dsimp only at hSw); go_simp; try with_reducible rfl)
  try simp only [Act.put, List.setIfInBounds_toArray, List.set_cons_zero, List.set_cons_succ]
  refine wpAnyT_take2 30 (v := ?tve30) (by kernel_rfl) rfl (by kernel_rfl) (fun _ _ _ h => h) (Or.inl ⟨by rfl, ?tye30⟩) HB4.out ?tre30
  case tye30 => (intro w' hSw; obtain ⟨f0, f1, f2, f3, f4, f5, f6, f7, f8⟩ := HF.out w' hSw; (try dsimp only at hSw); go_simp; try with_reducible rfl)
  try simp only [Act.put, List.setIfInBounds_toArray, List.set_cons_zero, List.set_cons_succ]
  refine wpAnyT_take2 31 (v := ?tve31) (by kernel_rfl) rfl (by kernel_rfl) (fun _ _ _ h => h) (Or.inl ⟨by rfl, ?tye31⟩) HB4.out ?tre31
  case tye31 => (intro w' hSw; (try dsimp only at hSw); go_simp; try with_reducible rfl)
  try simp only [Act.put, List.setIfInBounds_toArray, List.set_cons_zero, List.set_cons_succ]
  refine wpAnyT_take2 32 (v := ?tve32) (by kernel_rfl) rfl (by kernel_rfl) (fun _ _ _ h => h) (Or.inl ⟨by rfl, ?tye32⟩) HB4.out ?tre32
  case tye32 => (intro w' hSw; (try dsimp only at hSw); go_simp; try with_reducible rfl)
  try simp only [Act.put, List.setIfInBounds_toArray, List.set_cons_zero, List.set_cons_succ]
  refine wpAnyT_take2 33 (v := ?tve33) (by kernel_rfl) rfl (by kernel_rfl) (fun _ _ _ h => h) (Or.inl ⟨by rfl, ?tye33⟩) HB4.out ?tre33
  case tye33 => (intro w' hSw; (try dsimp only at hSw); go_simp; try with_reducible rfl)
  try simp only [Act.put, List.setIfInBounds_toArray, List.set_cons_zero, List.set_cons_succ]
  refine wpAnyT_take2 34 (v := ?tve34) (by kernel_rfl) rfl (by kernel_rfl) (fun _ _ _ h => h) (Or.inl ⟨by rfl, ?tye34⟩) HB4.out ?tre34
  case tye34 => (intro w' hSw; obtain ⟨f0, f1, f2, f3, f4, f5, f6, f7, f8⟩ := HF.out w' hSw; (try dsimp only at hSw); go_simp; try with_reducible rfl)
  try simp only [Act.put, List.setIfInBounds_toArray, List.set_cons_zero, List.set_cons_succ]
  refine wpAnyT_take2 35 (v := ?tve35) (by kernel_rfl) rfl (by kernel_rfl) (fun _ _ _ h => h) (Or.inl ⟨by rfl, ?tye35⟩) HB4.out ?tre35
  case tye35 => (intro w' hSw; obtain ⟨f0, f1, f2, f3, f4, f5, f6, f7, f8⟩ := HF.out w' hSw; (try dsimp only at hSw); go_simp; try with_reducible rfl)
  try simp only [Act.put, List.setIfInBounds_toArray, List.set_cons_zero, List.set_cons_succ]
  refine wpAnyT_one2 36 rfl (by kernel_rfl) ?_
  intro K' hK'
  rw [if_pos (by rfl)]
  have HK := Lib.hid hK'
  clear hK'
  go_wp2_with (go_at_call 14; refine (C14.out _ (HP.out.below HB4.out)).mono ?_; rintro e5 w5 ⟨rfl, hb5⟩)
  have HB5 := Lib.hid (below_then HB4.out hb5)
  clear hb5
  refine HK.out _ _ ⟨HB5.out, ?_⟩
  clear HK K'
  try simp only [Act.put, List.setIfInBounds_toArray, List.set_cons_zero, List.set_cons_succ]
  refine wpAnyT_take2 37 (v := ?tve37) (by kernel_rfl) rfl (by kernel_rfl) (fun _ _ _ h => h) (Or.inl ⟨by rfl, ?tye37⟩) HB5.out ?tre37
  case tye37 => (intro w' hSw; (try dsimp only at hSw); go_simp; try with_reducible rfl)
  try simp only [Act.put, List.setIfInBounds_toArray, List.set_cons_zero, List.set_cons_succ]
  refine wpAnyT_take2 38 (v := ?tve38) (by kernel_rfl) rfl (by kernel_rfl) (fun _ _ _ h => h) (Or.inl ⟨by rfl, ?tye38⟩) HB5.out ?tre38
  case tye38 => (intro w' hSw; (try dsimp only at hSw); go_simp; try with_reducible rfl)
  try simp only [Act.put, List.setIfInBounds_toArray, List.set_cons_zero, List.set_cons_succ]
  refine wpAnyT_take2 39 (v := ?tve39) (by kernel_rfl) rfl (by kernel_rfl) (fun _ _ _ h => h) (Or.inl ⟨by rfl, ?tye39⟩) HB5.out ?tre39
  case tye39 => (intro w' hSw; (try dsimp only at hSw); go_simp; try with_reducible rfl)
  try simp only [Act.put, List.setIfInBounds_toArray, List.set_cons_zero, List.set_cons_succ]
  refine wpAnyT_one2 40 rfl (by kernel_rfl) ?_
  intro K' hK'
  rw [if_pos (by rfl)]
  have HK := Lib.hid hK'
  clear hK'
  go_wp2_with (go_at_call 16; refine (C16n.out _).mono ?_; rintro e6 w6 ⟨rfl, hb6⟩)
  have HB6 := Lib.hid (below_then HB5.out hb6)
  clear hb6
  refine HK.out _ _ ⟨HB6.out, ?_⟩
  clear HK K'
  try simp only [Act.put, List.setIfInBounds_toArray, List.set_cons_zero, List.set_cons_succ]
  refine wpAnyT_take2 41 (v := ?tve41) (by kernel_rfl) rfl (by kernel_rfl) (fun _ _ _ h => h) (Or.inl ⟨by rfl, ?tye41⟩) HB6.out ?tre41
  case tye41 => (intro w' hSw; (try dsimp only at hSw); go_simp; try with_reducible rfl)
  try simp only [Act.put, List.setIfInBounds_toArray, List.set_cons_zero, List.set_cons_succ]
  refine wpAnyT_take2 42 (v := ?tve42) (by kernel_rfl) rfl (by kernel_rfl) (fun _ _ _ h => h) (Or.inl ⟨by rfl, ?tye42⟩) HB6.out ?tre42
  case tye42 => (intro w' hSw; (try dsimp only at hSw); go_simp; try with_reducible rfl)
  try simp only [Act.put, List.setIfInBounds_toArray, List.set_cons_zero, List.set_cons_succ]
  refine wpAnyT_take2 43 (v := ?tve43) (by kernel_rfl) rfl (by kernel_rfl) (fun _ _ _ h => h) (Or.inl ⟨by rfl, ?tye43⟩) HB6.out ?tre43
  case tye43 => (intro w' hSw; (try dsimp only at hSw); go_simp; try with_reducible rfl)
  try simp only [Act.put, List.setIfInBounds_toArray, List.set_cons_zero, List.set_cons_succ]
  refine wpAnyT_take2 44 (v := ?tve44) (by kernel_rfl) rfl (by kernel_rfl) (fun _ _ _ h => h) (Or.inl ⟨by rfl, ?tye44⟩) HB6.out ?tre44
  case tye44 => (intro w' hSw; (try dsimp only at hSw); go_simp; try with_reducible rfl)
  try simp only [Act.put, List.setIfInBounds_toArray, List.set_cons_zero, List.set_cons_succ]
  refine wpAnyT_take2 45 (v := ?tve45) (by kernel_rfl) rfl (by kernel_rfl) (fun _ _ _ h => h) (Or.inl ⟨by rfl, ?tye45⟩) HB6.out ?tre45
  case tye45 => (intro w' hSw; obtain ⟨f0, f1, f2, f3, f4, f5, f6, f7, f8⟩ := HF.out w' hSw; (try dsimp only at hSw); go_simp; try with_reducible rfl)
  try simp only [Act.put, List.setIfInBounds_toArray, List.set_cons_zero, List.set_cons_succ]
  refine wpAnyT_take2 46 (v := ?tve46) (by kernel_rfl) rfl (by kernel_rfl) (fun _ _ _ h => h) (Or.inl ⟨by rfl, ?tye46⟩) HB6.out ?tre46
  case tye46 => (intro w' hSw; (try dsimp only at hSw); go_simp; try with_reducible rfl)
  try simp only [Act.put, List.setIfInBounds_toArray, List.set_cons_zero, List.set_cons_succ]
  refine wpAnyT_take2 47 (v := ?tve47) (by kernel_rfl) rfl (by kernel_rfl) (fun _ _ _ h => h) (Or.inl ⟨by rfl, ?tye47⟩) HB6.out ?tre47
  case tye47 => (intro w' hSw; obtain ⟨f0, f1, f2, f3, f4, f5, f6, f7, f8⟩ := HF.out w' hSw; (try dsimp only at hSw); go_simp; try with_reducible rfl)
  try simp only [Act.put, List.setIfInBounds_toArray, List.set_cons_zero, List.set_cons_succ]
  refine wpAnyT_take2 48 (v := ?tve48) (by kernel_rfl) rfl (by kernel_rfl) (fun _ _ _ h => h) (Or.inl ⟨by rfl, ?tye48⟩) HB6.out ?tre48
  case tye48 => (intro w' hSw; obtain ⟨f0, f1, f2, f3, f4, f5, f6, f7, f8⟩ := HF.out w' hSw; (try dsimp only at hSw); go_simp; try with_reducible rfl)
  try simp only [Act.put, List.setIfInBounds_toArray, List.set_cons_zero, List.set_cons_succ]
  refine wpAnyT_one2 49 rfl (by kernel_rfl) ?_
  intro K' hK'
  rw [if_pos (by rfl)]
  have HK := Lib.hid hK'
  clear hK'
  go_wp2_with (go_at_call 18; refine (C18a.out _).mono ?_; rintro e7 w7 ⟨rfl, hb7⟩)
  have HB7 := Lib.hid (below_then HB6.out hb7)
  clear hb7
  refine HK.out _ _ ⟨HB7.out, ?_⟩
  clear HK K'
  try simp only [Act.put, List.setIfInBounds_toArray, List.set_cons_zero, List.set_cons_succ]
  refine wpAnyT_take2 50 (v := ?tve50) (by kernel_rfl) rfl (by kernel_rfl) (fun _ _ _ h => h) (Or.inl ⟨by rfl, ?tye50⟩) HB7.out ?tre50
  case tye50 => (intro w' hSw; (try dsimp only at hSw); go_simp; try with_reducible rfl)
  try simp only [Act.put, List.setIfInBounds_toArray, List.set_cons_zero, List.set_cons_succ]
  refine wpAnyT_take2 51 (v := ?tve51) (by kernel_rfl) rfl (by kernel_rfl) (fun _ _ _ h => h) (Or.inl ⟨by rfl, ?tye51⟩) HB7.out ?tre51
  case tye51 => (intro w' hSw; (try dsimp only at hSw); go_simp; try with_reducible rfl)
  try simp only [Act.put, List.setIfInBounds_toArray, List.set_cons_zero, List.set_cons_succ]
  refine wpAnyT_take2 52 (v := ?tve52) (by kernel_rfl) rfl (by kernel_rfl) (fun _ _ _ h => h) (Or.inl ⟨by rfl, ?tye52⟩) HB7.out ?tre52
  case tye52 => (intro w' hSw; (try dsimp only at hSw); go_simp; try with_reducible rfl)
  try simp only [Act.put, List.setIfInBounds_toArray, List.set_cons_zero, List.set_cons_succ]
  refine wpAnyT_take2 53 (v := ?tve53) (by kernel_rfl) rfl (by kernel_rfl) (fun _ _ _ h => h) (Or.inl ⟨by rfl, ?tye53⟩) HB7.out ?tre53
  case tye53 => (intro w' hSw; obtain ⟨f0, f1, f2, f3, f4, f5, f6, f7, f8⟩ := HF.out w' hSw; (try dsimp only at hSw); go_simp; try with_reducible rfl)
  try simp only [Act.put, List.setIfInBounds_toArray, List.set_cons_zero, List.set_cons_succ]
  refine wpAnyT_one2 54 rfl (by kernel_rfl) ?_
  intro K' hK'
  rw [if_pos (by rfl)]
  have HK := Lib.hid hK'
  clear hK'
  go_wp2_with (go_at_call 18; refine (C18b.out _).mono ?_; rintro e8 w8 ⟨rfl, hb8⟩)
  have HB8 := Lib.hid (below_then HB7.out hb8)
  clear hb8
  refine HK.out _ _ ⟨HB8.out, ?_⟩
  clear HK K'
  try simp only [Act.put, List.setIfInBounds_toArray, List.set_cons_zero, List.set_cons_succ]
  refine wpAnyT_take2 55 (v := ?tve55) (by kernel_rfl) rfl (by kernel_rfl) (fun _ _ _ h => h) (Or.inl ⟨by rfl, ?tye55⟩) HB8.out ?tre55
  case tye55 => (intro w' hSw; (try dsimp only at hSw); go_simp; try with_reducible rfl)
  try simp only [Act.put, List.setIfInBounds_toArray, List.set_cons_zero, List.set_cons_succ]
  refine wpAnyT_take2 56 (v := ?tve56) (by kernel_rfl) rfl (by kernel_rfl) (fun _ _ _ h => h) (Or.inl ⟨by rfl, ?tye56⟩) HB8.out ?tre56
  case tye56 => (intro w' hSw; (try dsimp only at hSw); go_simp; try with_reducible rfl)
  try simp only [Act.put, List.setIfInBounds_toArray, List.set_cons_zero, List.set_cons_succ]
  refine ⟨by kernel_rfl, ?_⟩
  change wpList _ _ _ [_] _ _
  go_wp2
  refine NoPanic.normal ?_
  go_wp2
  go_ret
  exact ⟨rfl, below_then HBW.out HB8.out⟩
end Go.Proofs.YtpeheppiolfpfaaDoor
