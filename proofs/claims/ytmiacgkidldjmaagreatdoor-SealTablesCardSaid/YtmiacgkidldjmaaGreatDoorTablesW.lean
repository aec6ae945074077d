/- Chapter 13: the law of tables walked. Conditions: what each lemma says. -/
import Derived.Test.YtmiacgkidldjmaaGreatDoorSealF
set_option linter.unusedVariables false
set_option linter.unusedSimpArgs false
namespace Go.Proofs.YtmiacgkidldjmaaGreatDoor
open Go.ChangeShapes Go.WideShapes Go.RowKit Go.Lib Go.Deep Go.Maps
theorem sepB2 {B w : World} {T1 T2 : Th} (hb : Below B.heap.size B w) (h1 : T1.ok B.heap.size w) (h2 : T2.ok B.heap.size w) (a : Apart T1 T2) : SepB B w [T1, T2] :=
  ⟨⟨fun T hT => by simp only [List.mem_cons, List.not_mem_nil, or_false] at hT; rcases hT with rfl | rfl <;> assumption, by simp [a]⟩, hb⟩
theorem sepB3 {B w : World} {T0 T1 T2 : Th} (hb : Below B.heap.size B w) (h0 : T0.ok B.heap.size w) (h1 : T1.ok B.heap.size w) (h2 : T2.ok B.heap.size w) (a : Apart T1 T2) (b : Apart T0 T1) (c : Apart T0 T2) : SepB B w [T0, T1, T2] :=
  ⟨⟨fun T hT => by simp only [List.mem_cons, List.not_mem_nil, or_false] at hT; rcases hT with rfl | rfl | rfl <;> assumption, by simp [a, b, c]⟩, hb⟩
theorem SepB.swap {W w : World} {a b : Th} {l : List Th} (h : SepB W w (a :: b :: l)) : SepB W w (b :: a :: l) := h.perm (.swap _ _ _)
theorem SepB.pushA {W w w0 w' : World} {pre th : List Th} (h : SepB W w (pre ++ th)) (i : Nat) (e : TypeId) (size : Nat) (v v' : Value) (n m : Nat) (xs ys : List Value) (hi : th[i]? = some (rowT e size v n xs)) (hb : Below w.heap.size w w0)
    (hg : w0.grownBy w' v.ownBlock) (ho : w'.ownsRow W.heap.size e size v' m ys) (hv : v'.ownBlock = v.ownBlock ∨ v'.ownBlock = some w0.heap.size) : SepB W w' (pre ++ th.set i (rowT e size v' m ys)) := by
  have := h.push (pre.length + i) e size v v' n m xs ys (by rw [List.getElem?_append_right (by omega)]; simpa using hi) hb hg ho hv
  rw [List.set_append_right _ _ (by omega), Nat.add_sub_cancel_left] at this
  exact this
theorem SepB.storeA {W w : World} {pre th : List Th} (h : SepB W w (pre ++ th)) (i : Nat) (k : Nat) (cs : Array Value) (t : TypeId) (hi : th[i]? = some (boxT k cs t)) (j : Nat) (v : Value) : SepB W (w.setCell ⟨k, j, none⟩ v) (pre ++ th.set i (boxT k (cs.setIfInBounds j v) t)) := by
  have := h.store (pre.length + i) k cs t (by rw [List.getElem?_append_right (by omega)]; simpa using hi) j v
  rw [List.set_append_right _ _ (by omega), Nat.add_sub_cancel_left] at this
  exact this
/-- what lies beside: nothing, the parts, a row -/
def Pre (P : Th) (R : List Row) (pre : List Th) : Prop := pre = [] ∨ pre = [P] ∨ ∃ r ∈ R, pre = [rowTh r]
/-- each other state more, from the first on, is accepted -/
def accJ (j : Nat) : List Bool := (List.range j).map fun i => decide (i % 2 = 0)
theorem accJ_succ (j : Nat) : accJ (j + 1) = accJ j ++ [decide (j % 2 = 0)] := by unfold accJ; rw [List.range_succ, List.map_append, List.map_singleton]
theorem accJ_count (j : Nat) : (accJ j).count true = (j + 1) / 2 := by
  induction j with
  | zero => rfl
  | succ j ih =>
    rw [accJ_succ, List.count_append, ih]
    by_cases h : j % 2 = 0
    · rw [decide_eq_true h, List.count_singleton_self]; omega
    · rw [decide_eq_false h, show List.count true [false] = 0 from rfl]; omega
theorem tab_more {P : List Int} {N : List (List Int)} {a j : Nat} {r : List Int} (h : Plain.tabRight P N a = true) (hr : r ∈ N) (hj : N.length + j ≤ 64) : Plain.tabRight P (N ++ List.replicate j r) (a + j) = true := by
  obtain ⟨hp, hn, h0, h64, hrow⟩ := Plain.tab_right P N a h
  unfold Plain.tabRight
  rw [List.length_append, List.length_replicate]
  rw [hp]
  simp only [Bool.true_and, Bool.and_eq_true, decide_eq_true_eq, Bool.not_eq_true', List.any_eq_false, beq_iff_eq]
  refine ⟨⟨⟨by omega, by omega⟩, hj⟩, fun q hq => ?_⟩
  have hqm : q ∈ N := by
    rcases List.mem_append.1 hq with h | h
    · exact h
    · rw [List.eq_of_mem_replicate h]; exact hr
  unfold Plain.rowWrong
  simp only [Bool.not_eq_true, Bool.or_eq_false_iff, Bool.not_eq_false', beq_iff_eq, List.any_eq_false, Bool.or_eq_true, decide_eq_true_eq, not_or]
  exact ⟨(hrow q hqm).1, fun x hx => by have := (hrow q hqm).2 x hx; omega⟩
end Go.Proofs.YtmiacgkidldjmaaGreatDoor
namespace Go.Proofs.YtmiacgkidldjmaaGreatDoor
open Go.ChangeShapes Go.WideShapes Go.RowKit Go.Lib Go.Deep Go.Maps
set_option maxRecDepth 1000000 in
set_option maxHeartbeats 8000000 in
theorem tables_w (TP TN TA PA NA AA : Option Addr) (TL : List Int) (TR : List Row) (TC : List Bool) (tpc tnc tac pc nc ac : Nat) (own : Bool) (PL NL : List Int) (AL : List Bool) (s : Nat) (hs : s < 256) (W : World)
    (hG : GridAt W PA PL NA NL AA AL) :
    Calls Tryz.prog 6 #[.agg #[.slice TP TL.length tpc, .slice TN TR.length tnc, .slice TA TC.length tac, .bool own, .slice PA PL.length pc, .slice NA NL.length nc, .slice AA AL.length ac], .int .u8 (s : Int)] W fun e w' => e = .returned (.bool true) ∧ Below W.heap.size W w' := by
  have CX := Lib.hid (fun W => ex13_any W)
  have CG := Lib.hid (fun (tp tn ta : Nat) (w : World) (hb : Below W.heap.size W w) => grid_own2 TP tp tpc TN tn tnc TA ta tac PA PL pc NA NL nc AA AL ac w (hG.below hb))
  have HGR := Lib.hid (Plain.grid_right (fun i => PL.getD i 0) (fun i => NL.getD i 0) (fun i => AL.getD i false) (min PL.length 4) NL.length (1 + min AL.length 5) AL.length (by omega) (by omega) (by omega))
  have HM6 := Lib.hid (show (Plain.rowsG (fun i => NL.getD i 0) NL.length (1 + min AL.length 5) (min PL.length 4 + 1) (1 + min AL.length 5)).length ≤ 6 by rw [Plain.rowsG_len]; omega)
  have HP5 := Lib.hid (show (Plain.partsG (fun i => PL.getD i 0) (min PL.length 4)).length ≤ 5 by rw [Plain.partsG_len]; omega)
  obtain ⟨tp, h1⟩ : ∃ x, TL.length = x := ⟨_, rfl⟩
  obtain ⟨tn, h2⟩ : ∃ x, TR.length = x := ⟨_, rfl⟩
  obtain ⟨ta, h3⟩ : ∃ x, TC.length = x := ⟨_, rfl⟩
  unfold GridRes2 at CG
  obtain ⟨P, hP⟩ : ∃ x, Plain.partsG (fun i => PL.getD i 0) (min PL.length 4) = x := ⟨_, rfl⟩
  obtain ⟨N, hN⟩ : ∃ x, Plain.rowsG (fun i => NL.getD i 0) NL.length (1 + min AL.length 5) (min PL.length 4 + 1) (1 + min AL.length 5) = x := ⟨_, rfl⟩
  obtain ⟨C, hC⟩ : ∃ x, Plain.accG (fun i => AL.getD i false) AL.length (1 + min AL.length 5) = x := ⟨_, rfl⟩
  rw [hP, hN, hC] at CG HGR
  rw [hN] at HM6
  rw [hP] at HP5
  obtain ⟨b1, hb1⟩ : ∃ x, PL.length = x := ⟨_, rfl⟩
  obtain ⟨b2, hb2⟩ : ∃ x, NL.length = x := ⟨_, rfl⟩
  obtain ⟨b3, hb3⟩ : ∃ x, AL.length = x := ⟨_, rfl⟩
  rw [hb1, hb2, hb3] at CG
  rw [h1, h2, h3, hb1, hb2, hb3]
  clear h1 h2 h3 hP hN hC hb1 hb2 hb3 hG
  go_enter Tryz.func6, Tryz.ntmps6
  go_wp2_with fail
  have HB0 := Lib.hid (below_alloc (Below.refl W.heap.size W) (.cells #[.slice TP tp tpc, .slice TN tn tnc, .slice TA ta tac, .bool own, .slice PA b1 pc, .slice NA b2 nc, .slice AA b3 ac] 37))
  have hX := heap_alloc_new2 W (.cells #[.slice TP tp tpc, .slice TN tn tnc, .slice TA ta tac, .bool own, .slice PA b1 pc, .slice NA b2 nc, .slice AA b3 ac] 37) W.heap.size _ rfl
  refine (CX.out _).mono ?_
  rintro e1 w1 ⟨rfl, hb⟩
  have hB1 := below_then HB0.out hb
  have hX1 := blk_later hX hb
  clear hb HB0 hX
  have hlw := lt_of_some hX1
  have x0 := (cells_of hX1).at_ 0 _ rfl
  have x1 := (cells_of hX1).at_ 1 _ rfl
  have x2 := (cells_of hX1).at_ 2 _ rfl
  have x3 := (cells_of hX1).at_ 3 _ rfl
  have x4 := (cells_of hX1).at_ 4 _ rfl
  have x5 := (cells_of hX1).at_ 5 _ rfl
  have x6 := (cells_of hX1).at_ 6 _ rfl
  have f3 := blk_frozen hX1 3
  have HB2 := Lib.hid (show Below W.heap.size W (w1.setCell ⟨W.heap.size, 3, none⟩ (.bool true)) from hB1.setCell (Nat.le_refl _) _)
  clear hX1 hB1
  go_wp2_with fail
  clear x0 x1 x2 x3 x4 x5 x6 f3 hlw
  obtain ⟨w2, hw2⟩ : ∃ x, w1.setCell ⟨W.heap.size, 3, none⟩ (.bool true) = x := ⟨_, rfl⟩
  rw [hw2] at HB2 ⊢
  clear hw2
  refine (CG.out _ _ _ _ HB2.out).mono ?_
  rintro e2 w3 ⟨a0, n0, a1, R0, n1, a2, n2, rfl, hNR, hO, hb, hap⟩
  rw [← hNR] at HGR HM6
  have hl6 := HM6.out
  rw [show (nums R0).length = R0.length by unfold nums; simp] at hl6
  obtain ⟨hpr, hna, hn0, hn64, hrow⟩ := Plain.tab_right _ _ _ HGR.out
  rw [show (nums R0).length = R0.length by unfold nums; simp] at hna hn0
  have hp0 := (Plain.parts_bound P hpr).1.1
  unfold tabV
  obtain ⟨p, hp⟩ : ∃ x, P.length = x := ⟨_, rfl⟩
  obtain ⟨m, hm⟩ : ∃ x, R0.length = x := ⟨_, rfl⟩
  have hCm : C.length = m := by omega
  have hT3 : TabAt w3 a0 P a1 R0 a2 C := hO.tab (by have := HP5.out; unfold maxLen; omega) (by unfold maxLen; omega) (by unfold maxLen; omega) (fun r hr => by
    have h1 := (hrow r.2.2 (List.mem_map.2 ⟨r, hr, rfl⟩)).1
    have := HP5.out; unfold maxLen; omega)
  have o0 := hO.o0
  have o1 := hO.o1
  have o2 := hO.o2
  have oR := hO.rows
  rw [hp] at o0
  rw [hm] at o1
  rw [hCm] at o2
  rw [hp, hm, hCm]
  rw [hp] at hp0
  rw [hm] at hn0 hl6
  have hp5 : p ≤ 5 := by have := HP5.out; omega
  obtain ⟨q01, q02, q12, qR⟩ := hap p m m
  have HT3 := Lib.hid hT3
  have k1 : (rowT 60 1 (.slice a1 m n1) m (R0.map rowV)).ok w2.heap.size w3 := ok_row.2 o1
  have k2 : (rowT 4 1 (.slice a2 m n2) m (C.map Value.bool)).ok w2.heap.size w3 := ok_row.2 o2
  have HS := Lib.hid (sepB2 hb k1 k2 q12)
  have HSP := Lib.hid (sepB3 hb (ok_row.2 o0 : (rowT 21 1 (.slice a0 p n0) p (i32s P)).ok w2.heap.size w3) k1 k2 q12 q01 q02)
  have HSR := Lib.hid (fun r (hr : r ∈ R0) => sepB3 hb (ok_row.2 (oR r hr) : (rowTh r).ok w2.heap.size w3) k1 k2 q12 (qR r hr).1 (qR r hr).2)
  have HMN := Lib.hid (And.intro hp (And.intro hm (And.intro hCm (And.intro hNR hrow))))
  clear o0 o1 o2 oR hO hap q01 q02 q12 qR k1 k2 hb hpr hna hn64 hrow hT3 hNR hp hm hCm
  go_wp2_with fail
  obtain ⟨hp, hm, hCm, hNR, hrow⟩ := HMN.out
  have cA := table_yes a0 P n0 a1 R0 n1 a2 C n2 _ (HT3.out.below (below_alloc (Below.refl _ _) (.cells #[.slice a0 p n0, .slice a1 m n1, .slice a2 m n2] 34))) HGR.out
  unfold tabV at cA
  rw [hp, hm, hCm] at cA
  have hs4 := HS.out.new #[.slice a0 p n0, .slice a1 m n1, .slice a2 m n2] 34 (.cells #[.slice a0 p n0, .slice a1 m n1, .slice a2 m n2] 34)
  have hsp4 := (HSP.out.new #[.slice a0 p n0, .slice a1 m n1, .slice a2 m n2] 34 (.cells #[.slice a0 p n0, .slice a1 m n1, .slice a2 m n2] 34)).swap
  have hsr4 := fun r hr => ((HSR.out r hr).new #[.slice a0 p n0, .slice a1 m n1, .slice a2 m n2] 34 (.cells #[.slice a0 p n0, .slice a1 m n1, .slice a2 m n2] 34)).swap
  have ht4 := HT3.out.below (below_alloc (Below.refl _ _) (.cells #[.slice a0 p n0, .slice a1 m n1, .slice a2 m n2] 34))
  obtain ⟨w4, hw4⟩ : ∃ x, w3.alloc (.cells #[.slice a0 p n0, .slice a1 m n1, .slice a2 m n2] 34) = x := ⟨_, rfl⟩
  rw [hw4] at cA hs4 hsp4 hsr4 ht4 ⊢
  obtain ⟨fb, hfb⟩ : ∃ x, w3.heap.size = x := ⟨_, rfl⟩
  rw [hfb] at hs4 hsp4 hsr4 ⊢
  clear hw4 hfb HS HSP HSR HT3 hp hm hCm hNR hrow
  refine cA.mono ?_
  rintro e3 w5 ⟨rfl, hb⟩
  obtain ⟨cc, hcc⟩ : ∃ x, C.count true = x := ⟨_, rfl⟩
  obtain ⟨rt, hrt⟩ : ∃ x, Plain.reachedT (nums R0) = x := ⟨_, rfl⟩
  obtain ⟨st, hst⟩ : ∃ x, C.getD 0 false = x := ⟨_, rfl⟩
  rw [hcc, hrt, hst]
  have HPL := Lib.hid (And.intro hcc (And.intro hrt hst))
  have HS5 := Lib.hid (hs4.below hb)
  have HSP5 := Lib.hid (hsp4.below hb)
  have HSR5 := Lib.hid (fun r hr => (hsr4 r hr).below hb)
  unfold tinfoV
  obtain ⟨nn, hnn⟩ : ∃ x, s % 20 = x := ⟨_, rfl⟩
  have hms : (s : Int) % 20 = (nn : Int) := by rw [← hnn]; simp
  have hmt : Int.tmod (s : Int) 20 = (nn : Int) := by rw [Int.tmod_eq_emod_of_nonneg (by omega)]; exact hms
  have hn20 : nn < 20 := by omega
  clear cA hs4 hsp4 hsr4 ht4 hb hcc hrt hst hnn
  go_upto_region 8 with fail
  have hs6 := HS5.out.new #[.int .i64 (m : Int), .int .i64 (p : Int), .int .i64 (cc : Int), .int .i64 (rt : Int), .bool st] 57 (.cells #[.int .i64 (m : Int), .int .i64 (p : Int), .int .i64 (cc : Int), .int .i64 (rt : Int), .bool st] 57)
  have hsp6 := (HSP5.out.new #[.int .i64 (m : Int), .int .i64 (p : Int), .int .i64 (cc : Int), .int .i64 (rt : Int), .bool st] 57 (.cells #[.int .i64 (m : Int), .int .i64 (p : Int), .int .i64 (cc : Int), .int .i64 (rt : Int), .bool st] 57)).swap
  have hsr6 := fun r hr => ((HSR5.out r hr).new #[.int .i64 (m : Int), .int .i64 (p : Int), .int .i64 (cc : Int), .int .i64 (rt : Int), .bool st] 57 (.cells #[.int .i64 (m : Int), .int .i64 (p : Int), .int .i64 (cc : Int), .int .i64 (rt : Int), .bool st] 57)).swap
  obtain ⟨w6, hw6⟩ : ∃ x, w5.alloc (.cells #[.int .i64 (m : Int), .int .i64 (p : Int), .int .i64 (cc : Int), .int .i64 (rt : Int), .bool st] 57) = x := ⟨_, rfl⟩
  rw [hw6] at hs6 hsp6 hsr6 ⊢
  obtain ⟨ab, hab⟩ : ∃ x, w5.heap.size = x := ⟨_, rfl⟩
  rw [hab] at hs6 hsp6 hsr6 ⊢
  obtain ⟨hp, hm, hCm, hNR, hrow⟩ := HMN.out
  have HT0 := Lib.hid (fun pre (hpre : Pre (rowT 21 1 (.slice a0 p n0) p (i32s P)) R0 pre) => (show SepB w2 w6 (pre ++ [boxT ab #[.int .i64 (m : Int), .int .i64 (p : Int), .int .i64 (cc : Int), .int .i64 (rt : Int), .bool st] 57, boxT fb #[.slice a0 p n0, .slice a1 m n1, .slice a2 m n2] 34, rowT 60 1 (.slice a1 m n1) m (R0.map rowV), rowT 4 1 (.slice a2 m n2) m (C.map Value.bool)]) by
    rcases hpre with rfl | rfl | ⟨r, hr, rfl⟩
    · exact hs6
    · exact hsp6
    · exact hsr6 r hr))
  clear hs6 hsp6 hsr6 HS5 HSP5 HSR5 hw6 hab
  obtain ⟨q0, Rt, hR0⟩ : ∃ q0 Rt, R0 = q0 :: Rt := by
    cases R0 with
    | nil => simp at hm; omega
    | cons q0 Rt => exact ⟨q0, Rt, rfl⟩
  have hq0 : q0 ∈ R0 := by rw [hR0]; exact List.mem_cons_self ..
  have hq0l := (hrow q0.2.2 (List.mem_map.2 ⟨q0, hq0, rfl⟩)).1
  rw [hp] at hq0l
  have ho0 := (HT0.out [rowTh q0] (.inr (.inr ⟨q0, hq0, rfl⟩))).row 0 _ _ _ _ _ rfl
  obtain ⟨Aq, cq, Lq⟩ := q0
  dsimp only at hq0l ho0
  rw [hq0l] at ho0
  unfold rowV at ho0
  dsimp only at ho0
  rw [hq0l] at ho0
  obtain ⟨gq, cq2, hgq, _⟩ := own_at ho0 hp0
  injection hgq with hgq _ hcq
  subst hgq hcq
  have HR0 := Lib.hid hR0
  have HQL := Lib.hid hq0l
  have HQ0 := Lib.hid hq0
  obtain ⟨i3, hi3, z0, z1, z2⟩ := info_parts info3
  obtain ⟨iR, hiR, r0, r1, r2⟩ := info_parts info49
  obtain ⟨i4, hi4, b0, b1', b2'⟩ := info_parts info4
  clear hp hm hCm hNR hrow hR0 hq0 hq0l ho0
  go_wp2_with fail
  go_loopw [10, 11] (fun i _ wr => ∃ (j : Nat) (A1 A2 : Option Addr) (N1 N2 : Nat) (E : List Row), j ≤ nn ∧ i = .int .i64 j ∧ E.length = j ∧ (∀ e ∈ E, e.2.2 = Lq) ∧ (∀ pre, Pre (rowT 21 1 (.slice a0 p n0) p (i32s P)) (R0 ++ E) pre → SepB w2 wr (pre ++ [boxT ab #[.int .i64 (m : Int), .int .i64 (p : Int), .int .i64 (cc : Int), .int .i64 (rt : Int), .bool st] 57, boxT fb #[.slice a0 p n0, .slice A1 (m + j) N1, .slice A2 (m + j) N2] 34, rowT 60 1 (.slice A1 (m + j) N1) (m + j) ((R0 ++ E).map rowV), rowT 4 1 (.slice A2 (m + j) N2) (m + j) ((C ++ accJ j).map Value.bool)]))) (fun i _ _ => nn - (RowKit.intOf i).toNat)
  case atStart =>
    refine ⟨0, a1, a2, n1, n2, [], Nat.zero_le _, rfl, rfl, fun e he => (by cases he), fun pre hpre => ?_⟩
    rw [List.append_nil] at hpre ⊢
    have := HT0.out pre hpre
    simpa [accJ] using this
  clear HT0
  case round =>
    obtain ⟨j, A1, A2, N1, N2, E, hj, rfl, hEl, hE, hT⟩ := hrel
    have HT := Lib.hid hT
    have HE := Lib.hid (And.intro hEl hE)
    clear hT hEl hE
    have hT0 := HT.out [] (.inl rfl)
    obtain ⟨⟨m0, m1, m2⟩, f1, f2⟩ := (⟨blk_cells3 (hT0.box 1 _ _ _ rfl).2, blk_frozen (hT0.box 1 _ _ _ rfl).2 1, blk_frozen (hT0.box 1 _ _ _ rfl).2 2⟩ : _ ∧ _ ∧ _)
    have hlw := lt_of_some (hT0.box 1 _ _ _ rfl).2
    have hmj : 0 < m + j := by omega
    have ho1 := hT0.row 2 _ _ _ _ _ rfl
    obtain ⟨g1, c1', hg1, _⟩ := own_at ho1 hmj
    injection hg1 with hg1 _ hc1
    subst hg1 hc1
    have l0 := own_cell ho1 0 (.slice (some ⟨gq, 0, none⟩) p cq) (by rw [HR0.out, ← HQL.out]; rfl)
    have lg1 := lt_of_some (own_blk ho1).choose_spec
    clear ho1
    by_cases hjn : j < nn
    · have hq0r := (HT.out [rowTh (some ⟨gq, 0, none⟩, cq, Lq)] (.inr (.inr ⟨_, List.mem_append_left _ HQ0.out, rfl⟩))).row 0 _ _ _ _ _ rfl
      dsimp only at hq0r
      rw [HQL.out] at hq0r
      have HQR := Lib.hid (fun q u hu => own_cell (n := p) (by unfold rowV at hq0r; dsimp only at hq0r; rw [HQL.out] at hq0r; exact hq0r) q u hu)
      clear hq0r hT0
      go_wp2_with (at_builtin; refine wpList_append_own2 _ rfl (.const (.slice none 0 0)) (.tmp 36) _ rfl w2.heap.size 3 i3 _ 1 8 Tryz.underlying60 hi3 z0 z1 z2 rfl (by decide) (.slice none 0 0) 0 [] rfl (World.ownsRow_nil _ _ _ _) ⟨gq, 0, none⟩ p cq (i64s Lq) rfl ?c1 ?c2 ?c3 ?c4 ?c5 ?c6 ?_)
      case c1 => simp [i64s, HQL.out]
      case c2 => exact fun q u hu => HQR.out q u hu
      case c3 => intro u hu; unfold i64s at hu; obtain ⟨_, _, rfl⟩ := List.mem_map.1 hu; rfl
      case c4 => unfold maxLen; omega
      case c5 => omega
      case c6 => exact (HT.out [] (.inl rfl)).2.size
      intro va wa ho hg hv
      have hba := below_gr0 (Below.refl wr.heap.size wr) hg
      have hsn := (((HT.out [] (.inl rfl)).empty 3 1).push 0 3 1 _ _ _ _ _ _ rfl (Below.refl _ _) hg ho hv)
      obtain ⟨gu, cu, rfl, _⟩ := own_at ho hp0
      simp only [List.set_cons_zero, List.nil_append] at hsn
      have hrt : rowTh (some ⟨gu, 0, none⟩, cu, Lq) = rowT 3 1 (.slice (some ⟨gu, 0, none⟩) p cu) p (i64s Lq) := by unfold rowTh rowV; dsimp only; rw [HQL.out]
      have HN := Lib.hid (show SepB w2 wa ([rowTh (some ⟨gu, 0, none⟩, cu, Lq)] ++ [boxT ab #[.int .i64 (m : Int), .int .i64 (p : Int), .int .i64 (cc : Int), .int .i64 (rt : Int), .bool st] 57, boxT fb #[.slice a0 p n0, .slice (some ⟨g1, 0, none⟩) (m + j) N1, .slice A2 (m + j) N2] 34, rowT 60 1 (.slice (some ⟨g1, 0, none⟩) (m + j) N1) (m + j) ((R0 ++ E).map rowV), rowT 4 1 (.slice A2 (m + j) N2) (m + j) ((C ++ accJ j).map Value.bool)]) by
        rw [hrt]; exact hsn)
      clear hrt
      have HTA := Lib.hid (fun pre hpre => (HT.out pre hpre).below hba)
      obtain ⟨⟨m0, m1, m2⟩, f1, f2⟩ := (⟨blk_cells3 ((HTA.out [] (.inl rfl)).box 1 _ _ _ rfl).2, blk_frozen ((HTA.out [] (.inl rfl)).box 1 _ _ _ rfl).2 1, blk_frozen ((HTA.out [] (.inl rfl)).box 1 _ _ _ rfl).2 2⟩ : _ ∧ _ ∧ _)
      have hlw := lt_of_some ((HTA.out [] (.inl rfl)).box 1 _ _ _ rfl).2
      clear ho hg hv hba hsn HT HQR
      go_wp2_with (at_builtin; refine wpList_append_own2 _ rfl (.tmp 39) (.tmp 41) _ rfl w2.heap.size 60 iR _ 1 24 Tryz.underlying31 hiR r0 r1 r2 rfl (by decide) (.slice (some ⟨g1, 0, none⟩) (m + j) N1) (m + j) ((R0 ++ E).map rowV) rfl (((HTA.out [] (.inl rfl)).alloc _).row 2 _ _ _ _ _ rfl) ⟨wa.heap.size, 0, none⟩ 1 1 [.slice (some ⟨gu, 0, none⟩) p cu] rfl rfl (CellsAt_add (CellsAt.new wa _ _)) ?c2 ?c3 ?c4 ?c5 ?_)
      case c2 => intro u hu; simp at hu; rcases hu with rfl; rfl
      case c3 => unfold maxLen; omega
      case c4 => omega
      case c5 => exact ((HTA.out [] (.inl rfl)).alloc _).2.size
      intro vb wb ho hg hv
      have hbx := below_alloc (Below.refl wa.heap.size wa) (.cells #[.slice (some ⟨gu, 0, none⟩) p cu] 60)
      have hvv : vb.ownBlock = (Value.slice (some ⟨g1, 0, none⟩) (m + j) N1).ownBlock ∨ vb.ownBlock = some (wa.alloc (.cells #[.slice (some ⟨gu, 0, none⟩) p cu] 60)).heap.size := by simpa using hv
      have hTB := fun pre hpre => (HTA.out pre hpre).pushA 2 60 1 _ _ _ _ _ _ rfl hbx hg ho hvv
      have hNB := HN.out.pushA 2 60 1 _ _ _ _ _ _ rfl hbx hg ho hvv
      obtain ⟨g1b, c1b, rfl, _⟩ := own_at ho (by omega)
      simp only [List.set_cons_succ, List.set_cons_zero] at hTB hNB
      have HTB := Lib.hid hTB
      have HNB := Lib.hid hNB
      obtain ⟨⟨m0, m1, m2⟩, f1, f2⟩ := (⟨blk_cells3 ((HTB.out [] (.inl rfl)).box 1 _ _ _ rfl).2, blk_frozen ((HTB.out [] (.inl rfl)).box 1 _ _ _ rfl).2 1, blk_frozen ((HTB.out [] (.inl rfl)).box 1 _ _ _ rfl).2 2⟩ : _ ∧ _ ∧ _)
      have hlw := lt_of_some ((HTB.out [] (.inl rfl)).box 1 _ _ _ rfl).2
      clear ho hg hv hvv hbx hTB hNB HTA HN l0 lg1
      go_upto_region 13 with fail
      have hlist : R0.map rowV ++ (E.map rowV ++ [.slice (some ⟨gu, 0, none⟩) p cu]) = (R0 ++ (E ++ [((some ⟨gu, 0, none⟩, cu, Lq) : Row)])).map rowV := by
        rw [List.map_append, List.map_append, List.map_singleton]; unfold rowV; dsimp only; rw [HQL.out]
      have hTC : ∀ pre, Pre (rowT 21 1 (.slice a0 p n0) p (i32s P)) (R0 ++ E) pre → SepB w2 (wb.setCell ⟨fb, 1, none⟩ (.slice (some ⟨g1b, 0, none⟩) (m + j + 1) c1b)) (pre ++ [boxT ab #[.int .i64 (m : Int), .int .i64 (p : Int), .int .i64 (cc : Int), .int .i64 (rt : Int), .bool st] 57, boxT fb #[.slice a0 p n0, .slice (some ⟨g1b, 0, none⟩) (m + j + 1) c1b, .slice A2 (m + j) N2] 34, rowT 60 1 (.slice (some ⟨g1b, 0, none⟩) (m + j + 1) c1b) (m + j + 1) ((R0 ++ (E ++ [((some ⟨gu, 0, none⟩, cu, Lq) : Row)])).map rowV), rowT 4 1 (.slice A2 (m + j) N2) (m + j) ((C ++ accJ j).map Value.bool)]) := fun pre hpre => by
        rw [← hlist]; exact (HTB.out pre hpre).storeA 1 fb _ _ rfl 1 (.slice (some ⟨g1b, 0, none⟩) (m + j + 1) c1b)
      have hNC : SepB w2 (wb.setCell ⟨fb, 1, none⟩ (.slice (some ⟨g1b, 0, none⟩) (m + j + 1) c1b)) ([rowTh (some ⟨gu, 0, none⟩, cu, Lq)] ++ [boxT ab #[.int .i64 (m : Int), .int .i64 (p : Int), .int .i64 (cc : Int), .int .i64 (rt : Int), .bool st] 57, boxT fb #[.slice a0 p n0, .slice (some ⟨g1b, 0, none⟩) (m + j + 1) c1b, .slice A2 (m + j) N2] 34, rowT 60 1 (.slice (some ⟨g1b, 0, none⟩) (m + j + 1) c1b) (m + j + 1) ((R0 ++ (E ++ [((some ⟨gu, 0, none⟩, cu, Lq) : Row)])).map rowV), rowT 4 1 (.slice A2 (m + j) N2) (m + j) ((C ++ accJ j).map Value.bool)]) := by
        rw [← hlist]; exact HNB.out.storeA 1 fb _ _ rfl 1 (.slice (some ⟨g1b, 0, none⟩) (m + j + 1) c1b)
      obtain ⟨wc, hwc⟩ : ∃ x, wb.setCell ⟨fb, 1, none⟩ (.slice (some ⟨g1b, 0, none⟩) (m + j + 1) c1b) = x := ⟨_, rfl⟩
      rw [hwc] at hTC hNC ⊢
      clear hlist
      have HTC := Lib.hid hTC
      have HNC := Lib.hid hNC
      clear hwc hTC hNC HTB HNB m0 m1 m2 f1 f2 hlw
      have hT0 := HTC.out [] (.inl rfl)
      obtain ⟨⟨m0, m1, m2⟩, f1, f2⟩ := (⟨blk_cells3 (hT0.box 1 _ _ _ rfl).2, blk_frozen (hT0.box 1 _ _ _ rfl).2 1, blk_frozen (hT0.box 1 _ _ _ rfl).2 2⟩ : _ ∧ _ ∧ _)
      have hlw := lt_of_some (hT0.box 1 _ _ _ rfl).2
      clear hT0
      obtain ⟨bq, hbq⟩ : ∃ x, decide (j % 2 = 0) = x := ⟨_, rfl⟩
      have hb1 : ((j : Int) % 2 == 0) = bq := by rw [← hbq, Bool.eq_iff_iff, beq_iff_eq, decide_eq_true_iff]; omega
      have hb2 : (Int.tmod (j : Int) 2 == 0) = bq := by rw [Int.tmod_eq_emod_of_nonneg (by omega)]; exact hb1
      have HBQ := Lib.hid hbq
      clear hbq
      go_wp2_with (at_builtin; refine wpList_append_own2 _ rfl (.tmp 45) (.tmp 49) _ rfl w2.heap.size 4 i4 _ 1 1 Tryz.underlying32 hi4 b0 b1' b2' rfl (by decide) (.slice A2 (m + j) N2) (m + j) ((C ++ accJ j).map Value.bool) rfl (((HTC.out [] (.inl rfl)).alloc _).row 3 _ _ _ _ _ rfl) ⟨wc.heap.size, 0, none⟩ 1 1 [.bool bq] rfl rfl (CellsAt_add (CellsAt.new wc _ _)) ?c2 ?c3 ?c4 ?c5 ?_)
      case c2 => intro u hu; simp at hu; rcases hu with rfl; rfl
      case c3 => unfold maxLen; omega
      case c4 => omega
      case c5 => exact ((HTC.out [] (.inl rfl)).alloc _).2.size
      intro vd wd ho hg hv
      have hbx := below_alloc (Below.refl wc.heap.size wc) (.cells #[.bool bq] 4)
      have hvv : vd.ownBlock = (Value.slice A2 (m + j) N2).ownBlock ∨ vd.ownBlock = some (wc.alloc (.cells #[.bool bq] 4)).heap.size := by simpa using hv
      have hTD := fun pre hpre => (HTC.out pre hpre).pushA 3 4 1 _ _ _ _ _ _ rfl hbx hg ho hvv
      have hND := HNC.out.pushA 3 4 1 _ _ _ _ _ _ rfl hbx hg ho hvv
      obtain ⟨g2b, c2b, hvd, _⟩ := own_at ho (by omega)
      subst hvd
      obtain ⟨G2, hG2⟩ : ∃ G, (some ⟨g2b, 0, none⟩ : Option Addr) = G := ⟨_, rfl⟩
      have hlist : C.map Value.bool ++ ((accJ j).map Value.bool ++ [.bool bq]) = (C ++ accJ (j + 1)).map Value.bool := by
        rw [accJ_succ, List.map_append, List.map_append, List.map_singleton, HBQ.out]
      rw [hlist] at hTD hND
      have HTD := Lib.hid hTD
      have HND := Lib.hid hND
      have hT0 := hTD [] (.inl rfl)
      obtain ⟨⟨m0, m1, m2⟩, f1, f2⟩ := (⟨blk_cells3 (hT0.box 1 _ _ _ rfl).2, blk_frozen (hT0.box 1 _ _ _ rfl).2 1, blk_frozen (hT0.box 1 _ _ _ rfl).2 2⟩ : _ ∧ _ ∧ _)
      have hlw := lt_of_some (hT0.box 1 _ _ _ rfl).2
      rw [hG2] at HTD HND ⊢
      clear hT0 ho hg hv hvv hbx hTD hND HTC HNC hlist hG2
      have hTE : ∀ pre, Pre (rowT 21 1 (.slice a0 p n0) p (i32s P)) (R0 ++ E) pre → SepB w2 (wd.setCell ⟨fb, 2, none⟩ (.slice G2 (m + j + 1) c2b)) (pre ++ [boxT ab #[.int .i64 (m : Int), .int .i64 (p : Int), .int .i64 (cc : Int), .int .i64 (rt : Int), .bool st] 57, boxT fb #[.slice a0 p n0, .slice (some ⟨g1b, 0, none⟩) (m + j + 1) c1b, .slice G2 (m + j + 1) c2b] 34, rowT 60 1 (.slice (some ⟨g1b, 0, none⟩) (m + j + 1) c1b) (m + j + 1) ((R0 ++ (E ++ [((some ⟨gu, 0, none⟩, cu, Lq) : Row)])).map rowV), rowT 4 1 (.slice G2 (m + j + 1) c2b) (m + j + 1) ((C ++ accJ (j + 1)).map Value.bool)]) := fun pre hpre => (HTD.out pre hpre).storeA 1 fb _ _ rfl 2 (.slice G2 (m + j + 1) c2b)
      have hNE : SepB w2 (wd.setCell ⟨fb, 2, none⟩ (.slice G2 (m + j + 1) c2b)) ([rowTh (some ⟨gu, 0, none⟩, cu, Lq)] ++ [boxT ab #[.int .i64 (m : Int), .int .i64 (p : Int), .int .i64 (cc : Int), .int .i64 (rt : Int), .bool st] 57, boxT fb #[.slice a0 p n0, .slice (some ⟨g1b, 0, none⟩) (m + j + 1) c1b, .slice G2 (m + j + 1) c2b] 34, rowT 60 1 (.slice (some ⟨g1b, 0, none⟩) (m + j + 1) c1b) (m + j + 1) ((R0 ++ (E ++ [((some ⟨gu, 0, none⟩, cu, Lq) : Row)])).map rowV), rowT 4 1 (.slice G2 (m + j + 1) c2b) (m + j + 1) ((C ++ accJ (j + 1)).map Value.bool)]) := HND.out.storeA 1 fb _ _ rfl 2 (.slice G2 (m + j + 1) c2b)
      have HTE := Lib.hid hTE
      have HNE := Lib.hid hNE
      clear hTE hNE HTD HND
      go_wp2_with fail
      go_roundw
      case rel =>
        refine ⟨j + 1, some ⟨g1b, 0, none⟩, G2, c1b, c2b, E ++ [(some ⟨gu, 0, none⟩, cu, Lq)], by omega, by go_num, by rw [List.length_append, HE.out.1]; rfl, fun e he => ?_, fun pre hpre => ?_⟩
        · rcases List.mem_append.1 he with h | h
          · exact HE.out.2 e h
          · rw [List.mem_singleton.1 h]
        · rcases hpre with rfl | rfl | ⟨r, hr, rfl⟩
          · exact HTE.out [] (.inl rfl)
          · exact HTE.out _ (.inr (.inl rfl))
          · rw [← List.append_assoc] at hr
            rcases List.mem_append.1 hr with h | h
            · exact HTE.out _ (.inr (.inr ⟨r, h, rfl⟩))
            · rw [List.mem_singleton.1 h]; exact HNE.out
      case measure => simp [RowKit.intOf]; omega
    · obtain rfl : j = nn := by omega
      obtain ⟨hp, hm, hCm, hNR, hrow⟩ := HMN.out
      obtain ⟨hEl, hE⟩ := HE.out
      have hnums : nums (R0 ++ E) = nums R0 ++ List.replicate j Lq := by
        unfold nums
        rw [List.map_append]
        congr 1
        rw [List.eq_replicate_iff]
        exact ⟨by rw [List.length_map, hEl], fun b hb => by obtain ⟨e, he, rfl⟩ := List.mem_map.1 hb; exact hE e he⟩
      have hLm : Lq ∈ nums R0 := List.mem_map.2 ⟨_, HQ0.out, rfl⟩
      have hn0l : (nums R0).length = m := by unfold nums; rw [List.length_map, hm]
      have hright := tab_more (j := j) HGR.out hLm (by rw [hn0l]; omega)
      have hRl : (R0 ++ E).length = m + j := by rw [List.length_append, hm, hEl]
      have hCl : (C ++ accJ j).length = m + j := by rw [List.length_append, hCm]; simp [accJ]
      rw [hCm, ← hnums, ← hCl] at hright
      have hTab : TabAt wr a0 P (some ⟨g1, 0, none⟩) (R0 ++ E) A2 (C ++ accJ j) := by
        refine ⟨own_Sl (n := p) (c := n0) ((HT.out _ (.inr (.inl rfl))).row 0 _ _ _ _ _ rfl) (by simp [i32s, hp]), own_Sl (hT0.row 2 _ _ _ _ _ rfl) (by rw [List.length_map, hRl]), fun r hr => ?_, own_Sl (hT0.row 3 _ _ _ _ _ rfl) (by rw [List.length_map, hCl]), by rw [hp]; unfold maxLen; omega, by rw [hRl]; unfold maxLen; omega, by rw [hCl]; unfold maxLen; omega⟩
        have ho := (HT.out _ (.inr (.inr ⟨r, hr, rfl⟩))).row 0 _ _ _ _ _ rfl
        unfold rowV at ho
        exact ⟨own_Sl ho (by simp [i64s]), own_max ho⟩
      have cB := table_yes a0 P n0 (some ⟨g1, 0, none⟩) (R0 ++ E) N1 A2 (C ++ accJ j) N2 wr hTab hright
      have hcnt : (C ++ accJ j).count true = cc + (j + 1) / 2 := by rw [List.count_append, accJ_count, HPL.out.1]
      have hN0 : 0 < (nums R0).length := by omega
      have hNb : ∀ r ∈ nums R0, ∀ z ∈ r, 0 ≤ z ∧ z < ((nums R0).length : Int) := fun r hr z hz => (hrow r hr).2 z hz
      have hrt : Plain.reachedT (nums (R0 ++ E)) = rt := by rw [hnums, Plain.reachedT_more _ _ hN0 hNb, HPL.out.2.1]
      have hrb := Plain.reachedT_bd (nums R0) hN0 hNb
      rw [HPL.out.2.1, hn0l] at hrb
      have hst : (C ++ accJ j).getD 0 false = st := by
        rw [← HPL.out.2.2, List.getD_eq_getElem?_getD, List.getD_eq_getElem?_getD, List.getElem?_append_left (by omega)]
      unfold tabV tinfoV at cB
      rw [hRl, hp, hCl, hcnt, hrt, hst] at cB
      obtain ⟨h2, hh2⟩ : ∃ x, (j + 1) / 2 = x := ⟨_, rfl⟩
      rw [hh2, show ((m + j : Nat) : Int) = (m : Int) + (j : Int) by omega, show ((cc + h2 : Nat) : Int) = (cc : Int) + (h2 : Int) by omega] at cB
      have hq2 : Int.tdiv ((j : Int) + 1) 2 = (h2 : Int) := by rw [Int.tdiv_eq_ediv_of_nonneg (by omega)]; omega
      have hq3 : ((j : Int) + 1) / 2 = (h2 : Int) := by omega
      have g1' : decide ((rt : Int) ≥ 1) = true := decide_eq_true (by omega)
      have g2' : decide ((rt : Int) ≤ (m : Int)) = true := decide_eq_true (by omega)
      have g3' : decide (rt ≤ m) = true := decide_eq_true (by omega)
      have g4' : decide (1 ≤ rt) = true := decide_eq_true (by omega)
      have HBO := Lib.hid (And.intro (show cc + h2 ≤ 1000 by have := List.count_le_length (l := C ++ accJ j) (a := true); omega) hh2)
      have hb1000 := HBO.out.1
      have CB := Lib.hid cB
      clear hp hm hCm hNR hrow hEl hE hnums hLm hn0l hright hRl hCl hTab cB hcnt hN0 hNb hrt hrb hst hT0 hh2
      go_wp2_with fail
      refine CB.out.mono ?_
      rintro e6 w8 ⟨rfl, hb⟩
      obtain ⟨k0, k1, k2, k3, k4⟩ := blk_cells5 (blk_later ((HT.out [] (.inl rfl)).box 0 _ _ _ rfl).2 hb)
      have hla := lt_of_some (blk_later ((HT.out [] (.inl rfl)).box 0 _ _ _ rfl).2 hb)
      have HB8 := Lib.hid (below_then (HT.out [] (.inl rfl)).2 hb)
      clear hb CB m0 m1 m2 f1 f2 hlw l0 lg1
      go_wp2_with fail
      go_ret
      exact ⟨rfl, below_then HB2.out (HB8.out.trans ((below_alloc (Below.refl w8.heap.size w8) _).mono HB8.out.size))⟩
end Go.Proofs.YtmiacgkidldjmaaGreatDoor
namespace Go.Proofs.YtmiacgkidldjmaaGreatDoor
open Go.ChangeShapes Go.WideShapes Go.RowKit Go.Lib Go.Deep Go.Maps
set_option maxRecDepth 100000 in
theorem tables_all {H : Type} {enc : TypeId × Value → H} {base : Nat} {v : Value} {d : DataW H} {p : List MemPlace} (a1 : Int) (W : World) (hv : Value.okWide Tryz.prog W .any base 37 v) (h : DataW.Trod enc Tryz.prog W 0 (fun _ => true) true 37 v d p) (w1 : (Lit.int .u8 a1).wf = true) :
    Calls Tryz.prog 6 #[v, .int .u8 a1] W fun e w' => e = .returned (.bool true) ∧ Below W.heap.size W w' := by
  obtain ⟨TP, TL, tpc, TN, TR, tnc, TA, TC, tac, ow2, PA, GL, pc, NA, NL, nc, AA, AL, ac, rfl, hG, hT, htc⟩ := open_grid2 hv h
  obtain ⟨k, rfl, hk⟩ := wf_u8 w1
  exact tables_w TP TN TA PA NA AA TL TR TC tpc tnc tac pc nc ac ow2 GL NL AL k hk W hG
end Go.Proofs.YtmiacgkidldjmaaGreatDoor
