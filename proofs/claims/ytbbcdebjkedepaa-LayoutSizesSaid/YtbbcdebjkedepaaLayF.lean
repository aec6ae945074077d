/- Chapter 14: the examples. Conditions: none. -/
import Derived.Test.YtbbcdebjkedepaaLayE
set_option linter.unusedVariables false
set_option linter.unusedSimpArgs false
namespace Go.Proofs.Ytbbcdebjkedepaa
open Go.RowKit Go.Lib
open Plain (Rg May mayB In Norm In4 slotsOf insB bnd riB cls cnot rightB normB)
def exL : List In4 := [(1, 1, 0, 0), (0, 0, 0, 0)]
def exR : List (List Rg) := [[(97, 99)]]
def exK (g : Nat) : List Cs := [⟨some ⟨g, 0, none⟩, 1, [(97, 99)]⟩]
theorem ex_right (g : Nat) : pgR exL (exK g) 1 = true := rfl
theorem ex_none : pgR [] [] 0 = false := by decide
def tP : List Int := [0, 97]
def tN : List (List Int) := [[0, 1], [1, 1]]
def tC : List Bool := [false, true]
theorem t_right : Plain.tabRight tP tN tC.length = true := by decide
theorem t_flat : Plain.flatRight tP (Plain.cellsOf tN) (Plain.accsOf tC) = true := by decide
theorem ex_of (I C : Option Addr) (g c d : Nat) (w : World) (hP : PgAt w I exL C (exK g)) : Calls Try.prog 9 #[.agg #[.slice I 2 c, .slice C 1 d, .int .i64 1]] w fun e w' =>
    ∃ A0 c0 A1 c1 A2 c2, e = .returned (.tuple #[.agg #[.slice A0 2 c0, .slice A1 1 c1, .slice A2 1 c2, .int .u32 4], .int .i64 0]) ∧ OwnAr w.heap.size w' A0 exL c0 A1 exR c1 A2 c2 ∧ Below w.heap.size w w' :=
  lof_any I C exL (exK g) c d 1 w hP (ex_right g)
theorem ex_back (A0 A1 A2 : Option Addr) (c0 c1 c2 : Nat) (w : World) (hA : ArAt w A0 exL A1 exR [] A2 c1) : Calls Try.prog 13 #[.agg #[.slice A0 2 c0, .slice A1 1 c1, .slice A2 1 c2, .int .u32 4]] w fun e w' =>
    ∃ (I CA : Option Addr) (c cc : Nat) (M : List Cs), M.map Cs.R = exR ∧ PgAt w' I exL CA M ∧ e = .returned (.tuple #[.agg #[.slice I 2 c, .slice CA 1 cc, .int .i64 1], .int .i64 0]) ∧ Below w.heap.size w w' :=
  back_of A0 A1 A2 c0 c1 c2 4 exL exR (exK 0) w hA (by decide) (by decide) rfl true (ex_right 0)
theorem ex_aright (A0 A1 A2 : Option Addr) (c0 c1 c2 : Nat) (w : World) (hA : ArAt w A0 exL A1 exR [] A2 c1) : Calls Try.prog 23 #[.agg #[.slice A0 2 c0, .slice A1 1 c1, .slice A2 1 c2, .int .u32 4]] w fun e w' => e = .returned (.bool true) ∧ Below w.heap.size w w' :=
  lright_good A0 A1 A2 c0 c1 c2 4 exL exR (exK 0) w hA (by decide) (by decide) rfl true (ex_right 0)
theorem ex_anot (w : World) : Calls Try.prog 23 #[.agg #[.slice none 0 0, .slice none 0 0, .slice none 0 0, .int .u32 0]] w fun e w' => e = .returned (.bool false) ∧ Below w.heap.size w w' :=
  lright_bad none none none 0 0 0 0 [] [] [] w ⟨Sl.nil _ _, Sl.nil _ _, Sl.nil _ _, by simp [allR], by simp, by simp [allR], by simp, by simp, by simp [allR], by simp⟩ (by decide) (by decide)
theorem ex_nil (w : World) : Calls Try.prog 9 #[.agg #[.slice none 0 0, .slice none 0 0, .int .i64 0]] w fun e w' => e = .returned (.tuple #[.agg #[.slice none 0 0, .slice none 0 0, .slice none 0 0, .int .u32 0], .int .i64 11]) ∧ Below w.heap.size w w' :=
  of_wrong none none [] [] 0 0 0 w ⟨Sl.nil _ _, Sl.nil _ _, fun x hx => absurd hx (by simp), by simp [maxLen], by simp [maxLen]⟩ ex_none
theorem nums_len {R : List Row} {N : List (List Int)} (h : nums R = N) : R.length = N.length := by rw [← h]; simp [nums]
theorem ex_laid (PA NA AA : Option Addr) (pc nc ac : Nat) (R : List Row) (hR : nums R = tN) (w : World) (hT : TabAt w PA tP NA R AA tC) : Calls Try.prog 10 #[.agg #[.slice PA 2 pc, .slice NA 2 nc, .slice AA 2 ac]] w fun e w' =>
    ∃ FA fc KA kc BA bc, e = .returned (.tuple #[.agg #[.slice FA 2 fc, .slice KA 4 kc, .slice BA 2 bc], .int .i64 0]) ∧ OwnFlat w.heap.size w' FA tP fc KA (Plain.cellsOf tN) kc BA (Plain.accsOf tC) bc ∧ FlatNums tP (Plain.cellsOf tN) (Plain.accsOf tC) kc ∧ Below w.heap.size w w' := by
  have h := laid_any PA tP pc NA R nc AA tC ac w hT (by rw [hR]; exact t_right)
  rw [hR] at h
  unfold tabV at h
  rw [nums_len hR] at h
  exact h
theorem ex_tback (FA KA BA : Option Addr) (fc kc bc : Nat) (w : World) (hX : FlatAt w FA tP KA (Plain.cellsOf tN) BA (Plain.accsOf tC)) (hN : FlatNums tP (Plain.cellsOf tN) (Plain.accsOf tC) kc) : Calls Try.prog 14 #[.agg #[.slice FA 2 fc, .slice KA 4 kc, .slice BA 2 bc]] w fun e w' =>
    ∃ PA pc NA R nc AA ac, e = .returned (.tuple #[.agg #[.slice PA 2 pc, .slice NA 2 nc, .slice AA 2 ac], .int .i64 0]) ∧ nums R = tN ∧ TabAt w' PA tP NA R AA tC ∧ Below w.heap.size w w' := by
  refine (show Calls Try.prog 14 _ w (BackRes tP (Plain.cellsOf tN) (Plain.accsOf tC) w) from backtable_any FA tP fc KA (Plain.cellsOf tN) kc BA (Plain.accsOf tC) bc w hX hN).mono ?_
  rintro e w' ⟨hb, h1, _⟩
  obtain ⟨PA, pc, NA, R, nc, AA, ac, he, hn, hT⟩ := h1 t_flat
  rw [show (tP.map fun r => r % 16777216) = tP by decide, show ((Plain.accsOf tC).map fun x => x == 1) = tC by decide] at he hT
  rw [show Plain.rowsOf (Plain.cellsOf tN) tP.length (Plain.accsOf tC).length = tN by decide] at hn
  unfold tabV at he
  rw [nums_len hn] at he
  exact ⟨PA, pc, NA, R, nc, AA, ac, he, hn, hT, hb⟩
theorem ex_tright (FA KA BA : Option Addr) (fc kc bc : Nat) (w : World) (hX : FlatAt w FA tP KA (Plain.cellsOf tN) BA (Plain.accsOf tC)) (hN : FlatNums tP (Plain.cellsOf tN) (Plain.accsOf tC) kc) : Calls Try.prog 24 #[.agg #[.slice FA 2 fc, .slice KA 4 kc, .slice BA 2 bc]] w fun e w' => e = .returned (.bool true) ∧ Below w.heap.size w w' := by
  have h := rightflat_any FA tP fc KA (Plain.cellsOf tN) kc BA (Plain.accsOf tC) bc w hX hN
  rw [t_flat] at h
  exact h
theorem ex_psame (I C I2 C2 : Option Addr) (c c2 d d2 : Nat) (K M : List Cs) (hK : K.map Cs.R = exR) (hM : M.map Cs.R = exR) (w : World) (hP : PgAt w I exL C K) (hQ : PgAt w I2 exL C2 M) :
    Calls Try.prog 15 #[.agg #[.slice I 2 c, .slice C 1 d, .int .i64 1], .agg #[.slice I2 2 c2, .slice C2 1 d2, .int .i64 1]] w fun e w' => e = .returned (.bool true) ∧ Below w.heap.size w w' := by
  have h := psame_any I I2 C C2 exL exL K M c c2 d d2 1 1 w hP hQ
  have hk : K.length = 1 := by have := congrArg List.length hK; simpa [exR] using this
  have hm : M.length = 1 := by have := congrArg List.length hM; simpa [exR] using this
  rw [hk, hm, show pgS exL exL K M 1 1 = true by unfold pgS; rw [hK, hM]; decide] at h
  exact h
theorem ex_dsame (PA NA AA QA MA BA : Option Addr) (pc nc ac qc mc bc : Nat) (R S : List Row) (hR : nums R = tN) (hS : nums S = tN) (w : World) (hT : TabAt w PA tP NA R AA tC) (hU : TabAt w QA tP MA S BA tC) :
    Calls Try.prog 16 #[.agg #[.slice PA 2 pc, .slice NA 2 nc, .slice AA 2 ac], .agg #[.slice QA 2 qc, .slice MA 2 mc, .slice BA 2 bc]] w fun e w' => e = .returned (.bool true) ∧ Below w.heap.size w w' := by
  have h := dsame_any PA tP pc NA R nc AA tC ac QA tP qc MA S mc BA tC bc w hT hU
  unfold tabV at h
  rw [nums_len hR, nums_len hS, show tbS tP tP R S tC tC = true by unfold tbS; rw [hR, hS]; decide] at h
  exact h
theorem ex_words (A B : Option Addr) (L : List Int) (c : Nat) (w : World) (hL : L.length ≤ 10000) (hA : Sl w A (u32s L)) (hB : Sl w B (u32s L)) (n d : Nat) (hn : L.length = n) :
    Calls Try.prog 20 #[.slice A n c, .slice B n d] w fun e w' => e = .returned (.bool true) ∧ Below w.heap.size w w' := by
  have h := wsame_any L L A B c d w hA hB hL hL
  rw [hn, decide_eq_true rfl] at h
  exact h
set_option maxRecDepth 1000000 in
set_option maxHeartbeats 8000000 in
theorem examples_any (w : World) : Calls Try.prog 6 #[] w fun e w' => e = .returned (.bool true) ∧ Below w.heap.size w w' := by
  go_enter Try.func6, Try.ntmps6
  go_wp2_with fail
  obtain ⟨W0, hW⟩ : ∃ x, (((w.alloc (.cells #[.int .i64 1, .int .i64 1, .int .i64 0, .int .i64 0, .int .i64 0, .int .i64 0, .int .i64 0, .int .i64 0] 84)).alloc (.cells #[.int .i32 97, .int .i32 99] 86)).alloc (.cells #[.slice (some ⟨w.heap.size + 1, 0, none⟩) 1 1] 74)).alloc (.cells #[.slice (some ⟨w.heap.size, 0, none⟩) 2 2, .slice (some ⟨w.heap.size + 1 + 1, 0, none⟩) 1 1, .int .i64 1] 25) = x := ⟨_, rfl⟩
  have hBW : Below w.heap.size w W0 := by rw [← hW]; exact (((((Below.refl _ _).alloc (Nat.le_refl _) _).alloc (by simp) _).alloc (by simp; omega) _).alloc (by simp; omega) _)
  have hP : PgAt W0 (some ⟨w.heap.size, 0, none⟩) exL (some ⟨w.heap.size + 1 + 1, 0, none⟩) (exK (w.heap.size + 1)) := by
    rw [← hW]
    refine ⟨Sl.of_cells ((((CellsAt.new w _ 84).alloc _).alloc _).alloc _), Sl.of_cells ((CellsAt.at_size (by simp) _ _).alloc _), fun x hx => ?_, by decide, by simp [exK, maxLen]⟩
    simp only [exK, List.mem_singleton] at hx
    subst hx
    exact ⟨Rs.of_two (blk_alloc (blk_alloc (heap_alloc_new2 _ _ _ _ (by simp)) _) _), by simp [maxLen]⟩
  have hX0 : W0.heap[w.heap.size + 1 + 1 + 1]? = some (.cells #[.slice (some ⟨w.heap.size, 0, none⟩) 2 2, .slice (some ⟨w.heap.size + 1 + 1, 0, none⟩) 1 1, .int .i64 1] 25 (0, 0)) := by rw [← hW]; exact heap_alloc_new2 _ _ _ _ (by simp)
  rw [hW]
  obtain ⟨gp, hgp⟩ : ∃ x, w.heap.size + 1 + 1 + 1 = x := ⟨_, rfl⟩
  rw [hgp] at hX0 ⊢
  have HB0 := Lib.hid hBW
  have HP := Lib.hid hP
  have HX0 := Lib.hid hX0
  clear hW hBW hP hX0 hgp
  refine (ex_of _ _ (w.heap.size + 1) 2 1 _ HP.out).mono ?_
  rintro e w1 ⟨A0, c0, A1, c1, A2, c2, rfl, hO, hb⟩
  have HB1 := Lib.hid hb
  have HO := Lib.hid hO
  clear hb hO
  go_wp2_with fail
  obtain ⟨W1, hW⟩ : ∃ x, w1.alloc (.cells #[.slice A0 2 c0, .slice A1 1 c1, .slice A2 1 c2, .int .u32 4] 43) = x := ⟨_, rfl⟩
  have hb : Below w1.heap.size w1 W1 := by rw [← hW]; exact below_alloc (Below.refl _ _) _
  have hx : W1.heap[w1.heap.size]? = some (.cells #[.slice A0 2 c0, .slice A1 1 c1, .slice A2 1 c2, .int .u32 4] 43 (0, 0)) := by rw [← hW]; exact heap_alloc_new2 _ _ _ _ rfl
  rw [hW]
  obtain ⟨ga, hga⟩ : ∃ x, w1.heap.size = x := ⟨_, rfl⟩
  have HC1 := Lib.hid (below_then HB1.out hb)
  rw [hga] at hx ⊢
  have HX1 := Lib.hid hx
  have HO1 := Lib.hid (HO.out.kept hb)
  clear hW hb hx hga HB1 HO
  refine (ex_back A0 A1 A2 c0 c1 c2 _ HO1.out.at_).mono ?_
  rintro e w2 ⟨I, CA, c, cc, M, hM, hQ, rfl, hb⟩
  have HB2 := Lib.hid hb
  have HM := Lib.hid hM
  have HQ := Lib.hid hQ
  clear hb hM hQ
  go_wp2_with fail
  obtain ⟨W2, hW⟩ : ∃ x, (((((((w2.alloc (.cells #[.slice I 2 c, .slice CA 1 cc, .int .i64 1] 25)).alloc (.cells #[.int .i32 0, .int .i32 97] 21)).alloc (.cells #[.int .i64 0, .int .i64 1] 3)).alloc (.cells #[.int .i64 1, .int .i64 1] 3)).alloc (.cells #[.slice (some ⟨w2.heap.size + 1 + 1, 0, none⟩) 2 2, .slice (some ⟨w2.heap.size + 1 + 1 + 1, 0, none⟩) 2 2] 87)).alloc (.cells #[.bool false, .bool true] 4)).alloc (.cells #[.slice (some ⟨w2.heap.size + 1, 0, none⟩) 2 2, .slice (some ⟨w2.heap.size + 1 + 1 + 1 + 1, 0, none⟩) 2 2, .slice (some ⟨w2.heap.size + 1 + 1 + 1 + 1 + 1, 0, none⟩) 2 2] 34)) = x := ⟨_, rfl⟩
  have hb : Below w2.heap.size w2 W2 := by rw [← hW]; exact below_alloc (below_alloc (below_alloc (below_alloc (below_alloc (below_alloc (below_alloc (Below.refl _ _) _) _) _) _) _) _) _
  have hx2 : W2.heap[w2.heap.size]? = some (.cells #[.slice I 2 c, .slice CA 1 cc, .int .i64 1] 25 (0, 0)) := by rw [← hW]; exact blk_alloc (blk_alloc (blk_alloc (blk_alloc (blk_alloc (blk_alloc (heap_alloc_new2 _ _ _ _ rfl) _) _) _) _) _) _
  have hx3 : W2.heap[w2.heap.size + 1 + 1 + 1 + 1 + 1 + 1]? = some (.cells #[.slice (some ⟨w2.heap.size + 1, 0, none⟩) 2 2, .slice (some ⟨w2.heap.size + 1 + 1 + 1 + 1, 0, none⟩) 2 2, .slice (some ⟨w2.heap.size + 1 + 1 + 1 + 1 + 1, 0, none⟩) 2 2] 34 (0, 0)) := by rw [← hW]; exact heap_alloc_new2 _ _ _ _ (by simp)
  have hT : TabAt W2 (some ⟨w2.heap.size + 1, 0, none⟩) tP (some ⟨w2.heap.size + 1 + 1 + 1 + 1, 0, none⟩) [(some ⟨w2.heap.size + 1 + 1, 0, none⟩, 2, [0, 1]), (some ⟨w2.heap.size + 1 + 1 + 1, 0, none⟩, 2, [1, 1])] (some ⟨w2.heap.size + 1 + 1 + 1 + 1 + 1, 0, none⟩) tC := by
    rw [← hW]
    refine ⟨Sl.of_cells ((((((CellsAt.at_size (by simp) _ _).alloc _).alloc _).alloc _).alloc _).alloc _), Sl.of_cells (((CellsAt.at_size (by simp) _ _).alloc _).alloc _), fun r hr => ?_, Sl.of_cells ((CellsAt.at_size (by simp) _ _).alloc _), by unfold maxLen; simp [tP], by unfold maxLen; simp, by unfold maxLen; simp [tC]⟩
    simp only [List.mem_cons, List.not_mem_nil, or_false] at hr
    rcases hr with rfl | rfl
    · exact ⟨Sl.of_cells (((((CellsAt.at_size (by simp) _ _).alloc _).alloc _).alloc _).alloc _), by unfold maxLen; simp⟩
    · exact ⟨Sl.of_cells ((((CellsAt.at_size (by simp) _ _).alloc _).alloc _).alloc _), by unfold maxLen; simp⟩
  have hR : nums [(some (⟨w2.heap.size + 1 + 1, 0, none⟩ : Addr), 2, [0, 1]), (some (⟨w2.heap.size + 1 + 1 + 1, 0, none⟩ : Addr), 2, [1, 1])] = tN := rfl
  obtain ⟨RT, hRT⟩ : ∃ RT : List Row, [(some (⟨w2.heap.size + 1 + 1, 0, none⟩ : Addr), 2, [0, 1]), (some (⟨w2.heap.size + 1 + 1 + 1, 0, none⟩ : Addr), 2, [1, 1])] = RT := ⟨_, rfl⟩
  rw [hRT] at hT hR
  obtain ⟨TP, hTP⟩ : ∃ x : Option Addr, some ⟨w2.heap.size + 1, 0, none⟩ = x := ⟨_, rfl⟩
  obtain ⟨TN, hTN⟩ : ∃ x : Option Addr, some ⟨w2.heap.size + 1 + 1 + 1 + 1, 0, none⟩ = x := ⟨_, rfl⟩
  obtain ⟨TA, hTA⟩ : ∃ x : Option Addr, some ⟨w2.heap.size + 1 + 1 + 1 + 1 + 1, 0, none⟩ = x := ⟨_, rfl⟩
  rw [hW]
  rw [hTP, hTN, hTA] at hT hx3 ⊢
  obtain ⟨gt, hgt⟩ : ∃ x, w2.heap.size + 1 + 1 + 1 + 1 + 1 + 1 = x := ⟨_, rfl⟩
  obtain ⟨gq, hgq⟩ : ∃ x, w2.heap.size = x := ⟨_, rfl⟩
  have HC2 := Lib.hid (below_then (below_then HC1.out HB2.out) hb)
  have HO2 := Lib.hid (HO1.out.kept (HB2.out.trans (hb.mono HB2.out.size)))
  have HX12 := Lib.hid (blk_later HX1.out (HB2.out.trans (hb.mono HB2.out.size)))
  have HQ2 := Lib.hid (HQ.out.below hb)
  rw [hgt] at hx3 ⊢
  rw [hgq] at hx2 ⊢
  have HX2 := Lib.hid hx2
  have HX3 := Lib.hid hx3
  have HT := Lib.hid hT
  have HR := Lib.hid hR
  clear hW hb hx2 hx3 hT hR hRT hTP hTN hTA hgt hgq HB2 HQ HO1 HX1
  refine (ex_laid TP TN TA 2 2 2 RT HR.out _ HT.out).mono ?_
  rintro e w3 ⟨FA, fc, KA, kc, BA, bc, rfl, hF, hN, hb⟩
  have HB3 := Lib.hid hb
  have HF := Lib.hid hF
  have HN := Lib.hid hN
  clear hb hF hN
  go_wp2_with fail
  obtain ⟨W3, hW⟩ : ∃ x, w3.alloc (.cells #[.slice FA 2 fc, .slice KA 4 kc, .slice BA 2 bc] 45) = x := ⟨_, rfl⟩
  have hb : Below w3.heap.size w3 W3 := by rw [← hW]; exact below_alloc (Below.refl _ _) _
  have hx : W3.heap[w3.heap.size]? = some (.cells #[.slice FA 2 fc, .slice KA 4 kc, .slice BA 2 bc] 45 (0, 0)) := by rw [← hW]; exact heap_alloc_new2 _ _ _ _ rfl
  rw [hW]
  obtain ⟨gf, hgf⟩ : ∃ x, w3.heap.size = x := ⟨_, rfl⟩
  have HC3 := Lib.hid (below_then HB3.out hb)
  have HF3 := Lib.hid (HF.out.kept hb)
  rw [hgf] at hx ⊢
  have HX4 := Lib.hid hx
  clear hW hb hx hgf HB3 HF
  refine (ex_tback FA KA BA fc kc bc _ HF3.out.flat HN.out).mono ?_
  rintro e w4 ⟨UP, up, UN, RU, un, UA, ua, rfl, hRU, hU, hb⟩
  have HB4 := Lib.hid hb
  have HRU := Lib.hid hRU
  have HU := Lib.hid hU
  clear hb hRU hU
  go_wp2_with fail
  obtain ⟨W4, hW⟩ : ∃ x, w4.alloc (.cells #[.slice UP 2 up, .slice UN 2 un, .slice UA 2 ua] 34) = x := ⟨_, rfl⟩
  have hb : Below w4.heap.size w4 W4 := by rw [← hW]; exact below_alloc (Below.refl _ _) _
  have hx : W4.heap[w4.heap.size]? = some (.cells #[.slice UP 2 up, .slice UN 2 un, .slice UA 2 ua] 34 (0, 0)) := by rw [← hW]; exact heap_alloc_new2 _ _ _ _ rfl
  rw [hW]
  obtain ⟨gu, hgu⟩ : ∃ x, w4.heap.size = x := ⟨_, rfl⟩
  have HC4 := Lib.hid (below_then HB4.out hb)
  have HU4 := Lib.hid (HU.out.below hb)
  rw [hgu] at hx ⊢
  have HX5 := Lib.hid hx
  clear hW hb hx hgu HB4 HU
  refine (ex_nil _).mono ?_
  rintro e w5 ⟨rfl, hb⟩
  have HB5 := Lib.hid hb
  clear hb
  go_upto_region 8 with fail
  obtain ⟨W5, hW⟩ : ∃ x, w5.alloc (.cells #[.slice none 0 0, .slice none 0 0, .slice none 0 0, .int .u32 0] 43) = x := ⟨_, rfl⟩
  have hb : Below w5.heap.size w5 W5 := by rw [← hW]; exact below_alloc (Below.refl _ _) _
  rw [hW]
  have hb5 := below_then HB5.out hb
  have hb4 := HC4.out.trans (hb5.mono HC4.out.size)
  have hb3 := HC3.out.trans (hb4.mono HC3.out.size)
  have HBW := Lib.hid (HB0.out.trans ((HC2.out.trans (hb3.mono HC2.out.size)).mono HB0.out.size))
  have HX0 := Lib.hid (blk_later HX0.out (HC2.out.trans (hb3.mono HC2.out.size)))
  have HP := Lib.hid (HP.out.below (HC2.out.trans (hb3.mono HC2.out.size)))
  have HX1 := Lib.hid (blk_later HX12.out hb3)
  have HO := Lib.hid (HO2.out.kept hb3)
  have HX2 := Lib.hid (blk_later HX2.out hb3)
  have HX3 := Lib.hid (blk_later HX3.out hb3)
  have HQ := Lib.hid (HQ2.out.below hb3)
  have HT := Lib.hid (HT.out.below hb3)
  have HX4 := Lib.hid (blk_later HX4.out hb4)
  have HF := Lib.hid (HF3.out.kept hb4)
  have HX5 := Lib.hid (blk_later HX5.out hb5)
  have HU := Lib.hid (HU4.out.below hb5)
  clear hW hb hb5 hb4 hb3 HC1 HC2 HC3 HC4 HB5 HX12 HO2 HQ2 HF3 HU4 HB0
  have hr2 := own_at HO.out.o0 (by decide)
  have he2 := own_at HO.out.o2 (by decide)
  obtain ⟨g0, k0, hv, _, _, hr⟩ := hr2
  injection hv with hv1 _ _
  subst hv1
  obtain ⟨g2, k2, hv, _, _, he⟩ := he2
  injection hv with hv1 _ _
  subst hv1
  have r0 := hr.2 0 (.int .u32 1) rfl
  have r1 := hr.2 1 (.int .u32 1) rfl
  have r2 := he.2 0 (.int .u32 1) rfl
  have HRR := Lib.hid hr
  have HEE := Lib.hid he
  clear hr he
  have hS : ∀ w' : World, Below W5.heap.size W5 w' → (w'.cell? ⟨gp, 0, none⟩ = some (.slice (some ⟨w.heap.size, 0, none⟩) 2 2) ∧ w'.cell? ⟨gp, 1, none⟩ = some (.slice (some ⟨w.heap.size + 1 + 1, 0, none⟩) 1 1) ∧ w'.cell? ⟨gp, 2, none⟩ = some (.int .i64 1)) ∧
      (w'.cell? ⟨ga, 0, none⟩ = some (.slice (some ⟨g0, 0, none⟩) 2 c0) ∧ w'.cell? ⟨ga, 1, none⟩ = some (.slice A1 1 c1) ∧ w'.cell? ⟨ga, 2, none⟩ = some (.slice (some ⟨g2, 0, none⟩) 1 c2) ∧ w'.cell? ⟨ga, 3, none⟩ = some (.int .u32 4)) ∧
      (w'.cell? ⟨gq, 0, none⟩ = some (.slice I 2 c) ∧ w'.cell? ⟨gq, 1, none⟩ = some (.slice CA 1 cc) ∧ w'.cell? ⟨gq, 2, none⟩ = some (.int .i64 1)) ∧
      (w'.cell? ⟨gt, 0, none⟩ = some (.slice TP 2 2) ∧ w'.cell? ⟨gt, 1, none⟩ = some (.slice TN 2 2) ∧ w'.cell? ⟨gt, 2, none⟩ = some (.slice TA 2 2)) ∧
      (w'.cell? ⟨gf, 0, none⟩ = some (.slice FA 2 fc) ∧ w'.cell? ⟨gf, 1, none⟩ = some (.slice KA 4 kc) ∧ w'.cell? ⟨gf, 2, none⟩ = some (.slice BA 2 bc)) ∧
      (w'.cell? ⟨gu, 0, none⟩ = some (.slice UP 2 up) ∧ w'.cell? ⟨gu, 1, none⟩ = some (.slice UN 2 un) ∧ w'.cell? ⟨gu, 2, none⟩ = some (.slice UA 2 ua)) ∧
      w'.cell? ⟨g0, 0, none⟩ = some (.int .u32 1) ∧ w'.cell? ⟨g0, 1, none⟩ = some (.int .u32 1) ∧ w'.cell? ⟨g2, 0, none⟩ = some (.int .u32 1) := fun w' h =>
    ⟨blk_cells3 (blk_later HX0.out h), blk_cells4 (blk_later HX1.out h), blk_cells3 (blk_later HX2.out h), blk_cells3 (blk_later HX3.out h), blk_cells3 (blk_later HX4.out h), blk_cells3 (blk_later HX5.out h), (h.cell (p := ⟨g0, 0, none⟩) HRR.out.1).trans r0, (h.cell (p := ⟨g0, 1, none⟩) HRR.out.1).trans r1, (h.cell (p := ⟨g2, 0, none⟩) HEE.out.1).trans r2⟩
  have HS := Lib.hid hS
  clear hS r0 r1 r2
  have HZ0 := Lib.hid (Below.refl W5.heap.size W5)
  obtain ⟨⟨p0, p1, p2⟩, ⟨a0, a1, a2, a3⟩, ⟨q0, q1, q2⟩, ⟨t0, t1, t2⟩, ⟨f0, f1, f2⟩, ⟨u0, u1, u2⟩, r0, r1, r2⟩ := HS.out W5 HZ0.out
  go_wp2_with fail
  refine (ex_psame _ _ _ _ _ _ _ _ (exK (w.heap.size + 1)) M rfl HM.out _ (HP.out.below HZ0.out) (HQ.out.below HZ0.out)).mono ?_
  rintro e x1 ⟨rfl, hb⟩
  have HZ1 := Lib.hid (below_then HZ0.out hb)
  clear hb p0 p1 p2 a0 a1 a2 a3 q0 q1 q2 t0 t1 t2 f0 f1 f2 u0 u1 u2 r0 r1 r2
  obtain ⟨⟨p0, p1, p2⟩, ⟨a0, a1, a2, a3⟩, ⟨q0, q1, q2⟩, ⟨t0, t1, t2⟩, ⟨f0, f1, f2⟩, ⟨u0, u1, u2⟩, r0, r1, r2⟩ := HS.out x1 HZ1.out
  go_wp2_with fail
  refine (words_any _ _ _ 2 _ 1 _ 1 _ 4 _ (by decide)).mono ?_
  rintro e x2 ⟨rfl, hb⟩
  have HZ2 := Lib.hid (below_then HZ1.out hb)
  clear hb p0 p1 p2 a0 a1 a2 a3 q0 q1 q2 t0 t1 t2 f0 f1 f2 u0 u1 u2 r0 r1 r2
  obtain ⟨⟨p0, p1, p2⟩, ⟨a0, a1, a2, a3⟩, ⟨q0, q1, q2⟩, ⟨t0, t1, t2⟩, ⟨f0, f1, f2⟩, ⟨u0, u1, u2⟩, r0, r1, r2⟩ := HS.out x2 HZ2.out
  go_wp2_with fail
  refine (ex_aright _ _ _ _ _ _ _ (HO.out.at_.below HZ2.out)).mono ?_
  rintro e x3 ⟨rfl, hb⟩
  have HZ3 := Lib.hid (below_then HZ2.out hb)
  clear hb p0 p1 p2 a0 a1 a2 a3 q0 q1 q2 t0 t1 t2 f0 f1 f2 u0 u1 u2 r0 r1 r2
  obtain ⟨⟨p0, p1, p2⟩, ⟨a0, a1, a2, a3⟩, ⟨q0, q1, q2⟩, ⟨t0, t1, t2⟩, ⟨f0, f1, f2⟩, ⟨u0, u1, u2⟩, r0, r1, r2⟩ := HS.out x3 HZ3.out
  go_wp2_with fail
  refine (ex_dsame _ _ _ _ _ _ _ _ _ _ _ _ RT RU HR.out HRU.out _ (HT.out.below HZ3.out) (HU.out.below HZ3.out)).mono ?_
  rintro e x4 ⟨rfl, hb⟩
  have HZ4 := Lib.hid (below_then HZ3.out hb)
  clear hb p0 p1 p2 a0 a1 a2 a3 q0 q1 q2 t0 t1 t2 f0 f1 f2 u0 u1 u2 r0 r1 r2
  obtain ⟨⟨p0, p1, p2⟩, ⟨a0, a1, a2, a3⟩, ⟨q0, q1, q2⟩, ⟨t0, t1, t2⟩, ⟨f0, f1, f2⟩, ⟨u0, u1, u2⟩, r0, r1, r2⟩ := HS.out x4 HZ4.out
  go_wp2_with fail
  refine (ex_words _ _ (Plain.cellsOf tN) _ _ (by decide) ((HF.out.kept HZ4.out).flat.cells.below (below_alloc (Below.refl _ _) _)) (Sl.of_cells (CellsAt.new _ _ _)) 4 _ rfl).mono ?_
  rintro e x5 ⟨rfl, hb⟩
  have HZ5 := Lib.hid (below_then (below_alloc HZ4.out _) hb)
  clear hb p0 p1 p2 a0 a1 a2 a3 q0 q1 q2 t0 t1 t2 f0 f1 f2 u0 u1 u2 r0 r1 r2
  obtain ⟨⟨p0, p1, p2⟩, ⟨a0, a1, a2, a3⟩, ⟨q0, q1, q2⟩, ⟨t0, t1, t2⟩, ⟨f0, f1, f2⟩, ⟨u0, u1, u2⟩, r0, r1, r2⟩ := HS.out x5 HZ5.out
  go_wp2_with fail
  refine (ex_words _ _ (Plain.accsOf tC) _ _ (by decide) ((HF.out.kept HZ5.out).flat.acc.below (below_alloc (Below.refl _ _) _)) (Sl.of_cells (CellsAt.new _ _ _)) 2 _ rfl).mono ?_
  rintro e x6 ⟨rfl, hb⟩
  have HZ6 := Lib.hid (below_then (below_alloc HZ5.out _) hb)
  clear hb p0 p1 p2 a0 a1 a2 a3 q0 q1 q2 t0 t1 t2 f0 f1 f2 u0 u1 u2 r0 r1 r2
  obtain ⟨⟨p0, p1, p2⟩, ⟨a0, a1, a2, a3⟩, ⟨q0, q1, q2⟩, ⟨t0, t1, t2⟩, ⟨f0, f1, f2⟩, ⟨u0, u1, u2⟩, r0, r1, r2⟩ := HS.out x6 HZ6.out
  go_wp2_with fail
  refine (ex_tright _ _ _ _ _ _ _ (HF.out.kept HZ6.out).flat HN.out).mono ?_
  rintro e x7 ⟨rfl, hb⟩
  have HZ7 := Lib.hid (below_then HZ6.out hb)
  clear hb p0 p1 p2 a0 a1 a2 a3 q0 q1 q2 t0 t1 t2 f0 f1 f2 u0 u1 u2 r0 r1 r2
  obtain ⟨⟨p0, p1, p2⟩, ⟨a0, a1, a2, a3⟩, ⟨q0, q1, q2⟩, ⟨t0, t1, t2⟩, ⟨f0, f1, f2⟩, ⟨u0, u1, u2⟩, r0, r1, r2⟩ := HS.out x7 HZ7.out
  go_wp2_with fail
  refine (ex_anot _).mono ?_
  rintro e x8 ⟨rfl, hb⟩
  have HZ8 := Lib.hid (below_then HZ7.out hb)
  clear hb p0 p1 p2 a0 a1 a2 a3 q0 q1 q2 t0 t1 t2 f0 f1 f2 u0 u1 u2 r0 r1 r2
  obtain ⟨⟨p0, p1, p2⟩, ⟨a0, a1, a2, a3⟩, ⟨q0, q1, q2⟩, ⟨t0, t1, t2⟩, ⟨f0, f1, f2⟩, ⟨u0, u1, u2⟩, r0, r1, r2⟩ := HS.out x8 HZ8.out
  go_wp2_with fail
  go_ret
  exact ⟨rfl, below_then HBW.out HZ8.out⟩
end Go.Proofs.Ytbbcdebjkedepaa
