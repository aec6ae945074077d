/- walk.States; the grid, own or not; what is laid of whatever table. Conditions: what each lemma says. -/
import Derived.Deep.CutBlock
import Derived.Deep.DeepCutAuto
import Derived.Test.YtdonginboioocaaDoorSameA
set_option linter.unusedVariables false
set_option linter.unusedSimpArgs false
namespace Go.Proofs.YtdonginboioocaaDoor
open Go.RowKit Go.Lib
/-- what States hands back -/
def StatesRes (P : List Int) (N : List (List Int)) (C : List Bool) (s : ByteArray) (w : World) (e : Ending) (w' : World) : Prop :=
  Below w.heap.size w w' ∧ (Plain.tabRight P N C.length = true → ∃ g n c, e = .returned (.slice (some ⟨g, 0, none⟩) (n + 1) c) ∧ n ≤ s.size ∧ n + 1 ≤ c ∧ w'.cell? ⟨g, n, none⟩ = some (.int .i64 ((Plain.stateN P (Plain.cellsOf N) s.size s.data.toList 0 / P.length : Nat) : Int))) ∧
  (Plain.tabRight P N C.length = false → e = .returned (.slice none 0 0))
set_option maxRecDepth 1000000 in
set_option maxHeartbeats 8000000 in
theorem wstates_any (PA : Option Addr) (P : List Int) (pc : Nat) (NA : Option Addr) (R : List Row) (nc : Nat) (AA : Option Addr) (C : List Bool) (ac : Nat) (s : ByteArray) (w : World) (hT : TabAt w PA P NA R AA C) (hpc : P.length ≤ pc) (hs : s.size ≤ 4398046511104) :
    Calls Tryd.prog 14 #[tabV PA P pc NA R nc AA C ac, .string s] w (StatesRes P (nums R) C s w) := by
  have hb0 : Below w.heap.size w (w.alloc (.cells #[.slice PA P.length pc, .slice NA R.length nc, .slice AA C.length ac] 27)) := (Below.refl _ _).alloc (Nat.le_refl _) _
  have cR := tright_any PA P pc NA R nc AA C ac _ (hT.below hb0)
  have hC0 := CellsAt.new w #[.slice PA P.length pc, .slice NA R.length nc, .slice AA C.length ac] 27
  unfold tabV at cR ⊢
  obtain ⟨q, hq⟩ : ∃ q, Plain.tabRight P (nums R) C.length = q := ⟨_, rfl⟩
  rw [hq] at cR
  obtain ⟨tot, htot⟩ : ∃ t, Plain.stateN P (Plain.cellsOf (nums R)) s.size s.data.toList 0 = t := ⟨_, rfl⟩
  have HTOT := Lib.hid htot
  clear htot
  have HR := Lib.hid cR
  have HT := Lib.hid hT
  have HB0 := Lib.hid hb0
  have HC0 := Lib.hid hC0
  have HQ := Lib.hid hq
  have hsl : s.data.toList.length = s.size := by simp
  have HSL := Lib.hid hsl
  clear cR hT hb0 hC0 hq hsl
  go_enter Tryd.func14, Tryd.ntmps14
  go_wp2_with fail
  refine HR.out.mono ?_
  rintro e w1 ⟨rfl, hb1⟩
  have hB1 := HB0.out.trans (hb1.mono (by simp))
  have hC1 := HC0.out.below hb1
  have hgw := hC1.1
  have k0 := hC1.at_ 0 _ rfl
  have k1 := hC1.at_ 1 _ rfl
  have k2 := hC1.at_ 2 _ rfl
  have HC1 := Lib.hid hC1
  have HB1 := Lib.hid hB1
  clear hC1 hB1 hb1 HR
  cases q
  · go_wp2
    go_ret
    exact ⟨HB1.out, (fun h => by rw [HQ.out] at h; cases h), fun _ => rfl⟩
  · have hfl := Plain.tab_flat P (nums R) C HQ.out
    obtain ⟨hpr, hnl, hm0, hm64, hrows⟩ := Plain.tab_right _ _ _ HQ.out
    obtain ⟨⟨hp0, hp64, _⟩, hpb⟩ := Plain.parts_bound P hpr
    have hRl : R.length = C.length := by rw [← hnl]; simp [nums]
    have hst0 := Plain.StateSt.start hfl s.data.toList s.size (by rw [HSL.out]; exact Nat.le_refl _)
    rw [HTOT.out] at hst0
    have hT1 := HT.out.below HB1.out
    have cI := fun (W : World) (hb : Below w1.heap.size w1 W) (r : Int) => index_any P PA pc r W (hT1.parts.below hb) hp0 hp64 hpc
    have HCI := Lib.hid cI
    have HT1 := Lib.hid hT1
    have HFL := Lib.hid hfl
    have HST0 := Lib.hid hst0
    have HROW := Lib.hid hrows
    have HNL := Lib.hid hnl
    have hC64 : C.length ≤ 64 := by omega
    have hC1 : 0 < C.length := by omega
    rw [hRl] at k1 ⊢
    clear hst0 hfl hpr hrows hpb cI hT1 hnl hm0 hm64
    go_wp2_with fail
    obtain ⟨i3, hi3, hy0, hy1, hy2⟩ := info_parts info3
    go_loopw [5, 6] (fun st ou wr => ∃ (pos q n : Nat) (u : Value) (xs : List Value), u = ou ∧ st = .int .i64 q ∧ q < C.length ∧ n ≤ pos ∧ Plain.StateSt P (Plain.cellsOf (nums R)) (Plain.accsOf C) s.data.toList tot pos (P.length * q) ∧ wr.heap[w1.heap.size + 1]? = some (.stringIter s pos) ∧ Below w1.heap.size w1 wr ∧ wr.ownsRow w1.heap.size 3 1 u (n + 1) (xs ++ [.int .i64 q]) ∧ u.ownBlock ≠ some (w1.heap.size + 1)) (fun _ _ wr => s.size - wr.iterPos (w1.heap.size + 1))
    case atStart => exact ⟨0, 0, 0, _, [], rfl, rfl, hC1, Nat.le_refl _, HST0.out, heap_alloc_new2 _ _ _ _ (by simp), ((Below.refl _ _).alloc (Nat.le_refl _) _).alloc (by simp) _, own_one (by rw [show ((w1.alloc (.cells #[.int .i64 0] 3)).iter s 0).heap[w1.heap.size]? = _ from Below.heap_alloc _ _ _ (by simp)]; exact heap_alloc_new _ _) (Nat.le_refl _), by simp [Value.ownBlock]⟩
    case round =>
      obtain ⟨pos, q, n, u, xs, rfl, rfl, hqc, hnp, hst, hki, hB, hU, hUb⟩ := hrel
      have HU := Lib.hid hU
      have HUB := Lib.hid hUb
      clear hU hUb
      have HST := Lib.hid hst
      have HKI := Lib.hid hki
      have hqR : q < R.length := by omega
      obtain ⟨⟨rA, rc, L⟩, hrq⟩ : ∃ r, R[q] = r := ⟨_, rfl⟩
      have hrw := HT1.out.row R[q] (List.getElem_mem hqR)
      have hrn := (HROW.out (R[q]).2.2 (by unfold nums; exact List.mem_map.2 ⟨R[q], List.getElem_mem hqR, rfl⟩)).1
      have hnq : (nums R).getD q [] = (R[q]).2.2 := by unfold nums; rw [List.getD, List.getElem?_map, List.getElem?_eq_getElem hqR]; rfl
      obtain ⟨nb, no, hNA, hnb, hnc⟩ := HT1.out.rows.at_ q (rowV R[q]) (by rw [List.getElem?_map, List.getElem?_eq_getElem hqR]; rfl)
      obtain ⟨ab, ao, hAA, hab, hacl⟩ := HT1.out.acc.at_ q (.bool (C.getD q false)) (by rw [List.getElem?_map, List.getElem?_eq_getElem hqc, Plain.getD_lt _ _ _ hqc]; rfl)
      rw [hrq] at hrw hrn hnq hnc
      unfold rowV at hnc
      dsimp only at hrw hrn hnq hnc
      rw [hrn] at hnc
      subst hNA hAA
      obtain ⟨b, hb⟩ : ∃ b, C.getD q false = b := ⟨_, rfl⟩
      have hacc := Plain.accd_tab P C q hp0 hqc
      rw [hb] at hacl hacc
      have HAC := Lib.hid hacc
      have hi0 : (0 : Int) ≤ (q : Int) := by omega
      have hi1 : (q : Int) < (C.length : Int) := by omega
      clear hst hacc hb hrq
      by_cases hp : pos < s.size
      · have hgo := fun r => Plain.goes_tab P (nums R) C.length HQ.out q r hqc
        have hstep := HST.out.step HFL.out (by rw [HSL.out]; exact hp)
        obtain ⟨d1, d2⟩ := Plain.dec_le s.data.toList pos (by rw [HSL.out]; exact hp)
        have hnx : ∀ ty, (Instr.next (.pointer (some ⟨w1.heap.size + 1, 0, none⟩)) true ty).run Tryd.prog wr = _ := fun ty => run_next_any_at wr (w1.heap.size + 1) s pos ty hki hp
        rw [decode_drop] at hnx
        obtain ⟨⟨r, sz⟩, hd⟩ : ∃ x, decodeL (s.data.toList.drop pos) = x := ⟨_, rfl⟩
        rw [hd] at hnx hstep d1 d2
        dsimp only at hnx hstep d1 d2
        obtain ⟨x, hx1, hx2, hx3⟩ := hgo r
        rw [hx3] at hstep
        rw [hnq] at hx1
        obtain ⟨j, hj⟩ : ∃ j, Plain.partOf P r = j := ⟨_, rfl⟩
        have hjl : j < P.length := by rw [← hj]; exact Plain.partOf_lt P r hp0
        rw [hj] at hx1
        obtain ⟨rb, ro, hrA, hrb, hrcl⟩ := hrw.1.at_ j (.int .i64 x) (by unfold i64s; rw [List.getElem?_map, List.getElem?_eq_getElem (by omega), ← hx1, Plain.getD_lt _ _ _ (by omega)]; rfl)
        subst hrA
        have hk2 := iterAt_heap wr (w1.heap.size + 1) s pos (pos + sz) hki
        have hB2 := below_iterAt hB (Nat.le_succ _) s (pos + sz)
        obtain ⟨w2, hw2⟩ : ∃ w2, wr.iterAt (w1.heap.size + 1) s (pos + sz) = w2 := ⟨_, rfl⟩
        have hU2 : (wr.iterAt (w1.heap.size + 1) s (pos + sz)).ownsRow w1.heap.size 3 1 u (n + 1) (xs ++ [.int .i64 q]) := own_block HU.out fun k hk => iterAt_other wr (w1.heap.size + 1) k s (pos + sz) (fun e => HUB.out (by rw [hk, e]))
        rw [hw2] at hnx hk2 hB2 hU2
        have e0 := (hB2.cell (p := ⟨w.heap.size, 0, none⟩) hgw).trans k0
        have e1 := (hB2.cell (p := ⟨w.heap.size, 1, none⟩) hgw).trans k1
        have e2 := (hB2.cell (p := ⟨w.heap.size, 2, none⟩) hgw).trans k2
        have hacl2 := (hB2.cell (p := ⟨ab, ao + q, none⟩) hab).trans hacl
        have hnc2 := (hB2.cell (p := ⟨nb, no + q, none⟩) hnb).trans hnc
        have hrc2 := (hB2.cell (p := ⟨rb, ro + j, none⟩) hrb).trans hrcl
        have l1 : w.heap.size < w2.heap.size := Nat.lt_of_lt_of_le hgw hB2.size
        have l2 : nb < w2.heap.size := Nat.lt_of_lt_of_le hnb hB2.size
        have l3 : rb < w2.heap.size := Nat.lt_of_lt_of_le hrb hB2.size
        have cI := HCI.out w2.drew hB2.drew r
        rw [hj] at cI
        have HCI2 := Lib.hid cI
        have HSTP := Lib.hid hstep
        have HK2 := Lib.hid hk2
        have HU2 := Lib.hid hU2
        have HB2 := Lib.hid hB2
        have hj0 : (0 : Int) ≤ (j : Int) := by omega
        have hj1 : (j : Int) < (P.length : Int) := by omega
        clear hgo hstep hd hw2 hk2 hB2 cI hj hx1 hx3 hki hB hU2 k0 k1 k2 hrcl hnc hacl hrw hnq hrn
        clear hacl2
        go_wp2_with fail
        go_region_held3 (fun w' => w'.cell? ⟨w.heap.size, 0, none⟩ = some (.slice PA P.length pc) ∧ w'.cell? ⟨w.heap.size, 1, none⟩ = some (.slice (some ⟨nb, no, none⟩) C.length nc) ∧ w'.cell? ⟨nb, no + q, none⟩ = some (.slice (some ⟨rb, ro, none⟩) P.length rc) ∧ w'.cell? ⟨rb, ro + j, none⟩ = some (.int .i64 x))
          (first | go_keep | exact ⟨(hb3.cell (p := ⟨w.heap.size, 0, none⟩) l1).trans e0, (hb3.cell (p := ⟨w.heap.size, 1, none⟩) l1).trans e1, (hb3.cell (p := ⟨nb, no + q, none⟩) l2).trans hnc2, (hb3.cell (p := ⟨rb, ro + j, none⟩) l3).trans hrc2⟩)
          (first | (go_at_call 19; (with_reducible refine HCI2.out.mono ?_); rintro e w3 ⟨rfl, hb3⟩))
        have hb4 : Below w2.heap.size w2 w3 := ⟨hb3.os, hb3.tape, hb3.output, hb3.size, hb3.block⟩
        have hk3 : w3.heap[w1.heap.size + 1]? = some (.stringIter s (pos + sz)) := (hb4.block _ (Array.getElem?_eq_some_iff.1 HK2.out).1).trans HK2.out
        have HK3 := Lib.hid hk3
        have HB3 := Lib.hid (HB2.out.trans (hb4.mono HB2.out.size))
        have HU3 := Lib.hid (own_below HU2.out hb4)
        have hsz3 := HB3.out.size
        have hlk := (Array.getElem?_eq_some_iff.1 hk3).1
        have hxl : (xs ++ [Value.int .i64 q]).length = n + 1 := by have := HU3.out.1; omega
        have hps := HST.out.le
        have HXL := Lib.hid hxl
        rw [HSL.out] at hps
        clear hb3 hb4 hk3 hxl
        go_wp2_with (at_builtin; refine wpList_append_own2 _ rfl (.tmp 30) (.tmp 32) _ rfl w1.heap.size 3 i3 _ 1 8 Tryd.underlying49 hi3 hy0 hy1 hy2 rfl (by decide) u (n + 1) (xs ++ [.int .i64 q]) rfl (HU3.out.alloc _) ⟨w3.heap.size, 0, none⟩ 1 1 [.int .i64 x] rfl rfl ?c1 ?c2 ?c3 ?c4 ?c5 ?_)
        case c1 => exact CellsAt_add (CellsAt.new w3 _ _)
        case c2 => intro u hu; simp only [List.mem_cons, List.not_mem_nil, or_false] at hu; subst hu; rfl
        case c3 => simp only [maxLen]; omega
        case c4 => omega
        case c5 => simp; omega
        intro v4 w5 hown hg hb5
        have hBn : Below w1.heap.size w1 w5 := (HB3.out.alloc hsz3 _).grown hg (by simp; omega) (fun g hg => (HU3.out.lt g hg).1)
        have hk5 : w5.heap[w1.heap.size + 1]? = some (.stringIter s (pos + sz)) := by
          rw [hg.block _ (by simp; omega) (fun e => HUB.out e.symm), Below.heap_alloc _ _ _ hlk]; exact HK3.out
        have hne : v4.ownBlock ≠ some (w1.heap.size + 1) := by
          rcases hb5 with e | e
          · rw [e]; exact HUB.out
          · rw [e]; simp; omega
        have HBn := Lib.hid hBn
        have HK5 := Lib.hid hk5
        have HNE := Lib.hid hne
        have HO := Lib.hid hown
        clear hBn hk5 hne hown hg hb5
        go_wp2
        go_roundw
        case rel => exact ⟨pos + sz, x, n + 1, _, xs ++ [.int .i64 q], rfl, rfl, hx2, by omega, HSTP.out, HK5.out, HBn.out, by rw [List.append_assoc]; exact HO.out, HNE.out⟩
        case measure => simp [World.iterPos, HK5.out, HKI.out]; omega
      · have hnx : ∀ ty, (Instr.next (.pointer (some ⟨w1.heap.size + 1, 0, none⟩)) true ty).run Tryd.prog wr = _ := fun ty => run_next_end_at wr (w1.heap.size + 1) s pos ty hki hp
        have hpe : pos = s.size := by have := HST.out.le; rw [HSL.out] at this; omega
        have HPE := Lib.hid hpe
        have e0 := (hB.cell (p := ⟨w.heap.size, 0, none⟩) hgw).trans k0
        have e1 := (hB.cell (p := ⟨w.heap.size, 1, none⟩) hgw).trans k1
        have e2 := (hB.cell (p := ⟨w.heap.size, 2, none⟩) hgw).trans k2
        have hacl2 := (hB.cell (p := ⟨ab, ao + q, none⟩) hab).trans hacl
        have HBB := Lib.hid hB
        clear hki hB hpe k0 k1 k2 hacl hnc hrw hrn hnq
        have ht := HST.out.fin (by rw [HPE.out, HSL.out])
        have HTT := Lib.hid ht
        clear ht
        obtain ⟨g, c, rfl, hnc3, hgb, hcel⟩ := own_at HU.out (by omega)
        have hlast := hcel.at_ n (.int .i64 q) (by
          have := HU.out.1
          rw [List.length_append, List.length_singleton] at this
          rw [List.getElem?_append_right (by omega), show n - xs.length = 0 from by omega]; rfl)
        have HLA := Lib.hid hlast
        clear hlast hcel
        go_wp2_with fail
        go_ret
        refine ⟨HB1.out.trans (HBB.out.mono HB1.out.size), fun _ => ⟨g, n, c, rfl, by have := HPE.out; omega, hnc3, ?_⟩, (fun h => by rw [HQ.out] at h; cases h)⟩
        rw [HTOT.out, HTT.out, Nat.mul_div_cancel_left _ hp0]; exact HLA.out
end Go.Proofs.YtdonginboioocaaDoor
namespace Go.Proofs.YtdonginboioocaaDoor
open Go.RowKit Go.Lib
theorem grid_not (TP : Option Addr) (tp tpc : Nat) (TN : Option Addr) (tn tnc : Nat) (TA : Option Addr) (ta tac : Nat) (PA : Option Addr) (np pc : Nat) (NA : Option Addr) (nn nc : Nat) (AA : Option Addr) (na ac : Nat) (w : World) :
    Calls Tryd.prog 8 #[.agg #[.slice TP tp tpc, .slice TN tn tnc, .slice TA ta tac, .bool false, .slice PA np pc, .slice NA nn nc, .slice AA na ac]] w fun e w' => e = .returned (.agg #[.slice TP tp tpc, .slice TN tn tnc, .slice TA ta tac]) ∧ Below w.heap.size w w' := by
  go_enter Tryd.func8, Tryd.ntmps8
  go_wp2
  have hblk : ((w.alloc (.cells #[.slice TP tp tpc, .slice TN tn tnc, .slice TA ta tac, .bool false, .slice PA np pc, .slice NA nn nc, .slice AA na ac] 30)).alloc (.cells #[.slice TP tp tpc, .slice TN tn tnc, .slice TA ta tac] 27)).heap[w.heap.size + 1]? = some (.cells #[.slice TP tp tpc, .slice TN tn tnc, .slice TA ta tac] 27 (0, 0)) := heap_alloc_new2 _ _ _ _ (by simp)
  obtain ⟨m0, m1, m2⟩ := blk_cells3 hblk
  exact bodyPost_ret (v := .agg #[.slice TP tp tpc, .slice TN tn tnc, .slice TA ta tac]) (by simp [results, Tryd.results8, go_sem, m0, m1, m2]) rfl ⟨rfl, ((Below.refl _ _).alloc (Nat.le_refl _) _).alloc (by simp) _⟩
end Go.Proofs.YtdonginboioocaaDoor
namespace Go.Proofs.YtdonginboioocaaDoor
open Go.RowKit Go.Lib
/-- what grid hands back, own or not -/
def TabRes (w : World) (e : Ending) (w' : World) : Prop :=
  ∃ PA P pc NA R nc AA C ac, e = .returned (tabV PA P pc NA R nc AA C ac) ∧ TabAt w' PA P NA R AA C ∧ P.length ≤ pc ∧ Below w.heap.size w w'
theorem grid_any (TP : Option Addr) (TL : List Int) (tpc : Nat) (TN : Option Addr) (TR : List Row) (tnc : Nat) (TA : Option Addr) (TC : List Bool) (tac : Nat) (own : Bool) (PA : Option Addr) (PL : List Int) (pc : Nat) (NA : Option Addr) (NL : List Int) (nc : Nat) (AA : Option Addr) (AL : List Bool) (ac : Nat) (w : World) (hG : GridAt w PA PL NA NL AA AL) (hT : TabAt w TP TL TN TR TA TC) (htc : TL.length ≤ tpc) :
    Calls Tryd.prog 8 #[.agg #[.slice TP TL.length tpc, .slice TN TR.length tnc, .slice TA TC.length tac, .bool own, .slice PA PL.length pc, .slice NA NL.length nc, .slice AA AL.length ac]] w (TabRes w) := by
  cases own
  · refine (grid_not TP TL.length tpc TN TR.length tnc TA TC.length tac PA PL.length pc NA NL.length nc AA AL.length ac w).mono ?_
    rintro e w' ⟨rfl, hb⟩
    exact ⟨TP, TL, tpc, TN, TR, tnc, TA, TC, tac, rfl, hT.below hb, htc, hb⟩
  · refine (grid_own TP TL.length tpc TN TR.length tnc TA TC.length tac PA PL pc NA NL nc AA AL ac w hG).mono ?_
    rintro e w' ⟨a0, n0, a1, R, n1, a2, n2, rfl, hR, hO, hb⟩
    have hq : Plain.tabRight (Plain.partsG (fun i => PL.getD i 0) (min PL.length 4)) (nums R) (Plain.accG (fun i => AL.getD i false) AL.length (1 + min AL.length 5)).length = true := by
      rw [hR]; exact Plain.grid_right _ _ _ _ _ _ _ (by omega) (by omega) (by omega)
    obtain ⟨hpr, hnl, hm0, hm64, hrows⟩ := Plain.tab_right _ _ _ hq
    obtain ⟨⟨hp0, hp64, _⟩, hpb⟩ := Plain.parts_bound _ hpr
    have hRl : (nums R).length = R.length := by simp [nums]
    refine ⟨a0, _, n0, a1, R, n1, a2, _, n2, rfl, hO.tab (by unfold maxLen; omega) (by unfold maxLen; omega) (by unfold maxLen; omega) (fun r hr => ?_), own_le hO.o0, hb⟩
    have := (hrows r.2.2 (by unfold nums; exact List.mem_map.2 ⟨r, hr, rfl⟩)).1
    unfold maxLen; omega
theorem find_zero (s : ByteArray) (hs : s.size ≤ 4398046511104) (W : World) (hT : Tabs W) :
    Calls Tryd.prog 11 #[.agg #[.slice none 0 0, .slice none 0 0, .slice none 0 0], .string s] W fun e w' => e = .returned (foundV none) ∧ Below W.heap.size W w' := by
  have h := find_any none [] 0 none [] 0 none [] 0 s W ⟨Sl.nil _ _, Sl.nil _ _, Sl.nil _ _⟩ ⟨by simp, by simp, by simp, by simp, by simp, by simp, by simp⟩ hs hT
  exact h
/-- what OfTable hands back, and what is found on it -/
def FlatRes (tot : Option Nat) (st : Int) (s : ByteArray) (w : World) (e : Ending) (w' : World) : Prop :=
  ∃ v0 v1 v2 : Value, ∃ er : Int, (∃ A n c, v0 = .slice A n c) ∧ (∃ A n c, v1 = .slice A n c) ∧ (∃ A n c, v2 = .slice A n c) ∧ e = .returned (.tuple #[.agg #[v0, v1, v2], .int .i64 er]) ∧ Below w.heap.size w w' ∧
    (∀ W', Below w'.heap.size w' W' → Calls Tryd.prog 11 #[.agg #[v0, v1, v2], .string s] W' fun e w'' => e = .returned (foundV tot) ∧ Below W'.heap.size W' w'') ∧
    (∀ W', Below w'.heap.size w' W' → Calls Tryd.prog 12 #[.agg #[v0, v1, v2], .string s] W' fun e w'' => e = .returned (.int .i64 st) ∧ Below W'.heap.size W' w'')
def totOf (P : List Int) (N : List (List Int)) (C : List Bool) (s : ByteArray) : Option Nat := if Plain.tabRight P N C.length then Plain.findN P (Plain.cellsOf N) (Plain.accsOf C) s.size s.data.toList 0 0 else none
def endOf (P : List Int) (N : List (List Int)) (C : List Bool) (s : ByteArray) : Int := if Plain.tabRight P N C.length then ((Plain.stateN P (Plain.cellsOf N) s.size s.data.toList 0 / P.length : Nat) : Int) else -1
theorem oftable_any (PA : Option Addr) (P : List Int) (pc : Nat) (NA : Option Addr) (R : List Row) (nc : Nat) (AA : Option Addr) (C : List Bool) (ac : Nat) (s : ByteArray) (hs : s.size ≤ 4398046511104) (w : World) (hT : TabAt w PA P NA R AA C) (hTb : Tabs w) :
    Calls Tryd.prog 10 #[tabV PA P pc NA R nc AA C ac] w (FlatRes (totOf P (nums R) C s) (endOf P (nums R) C s) s w) := by
  unfold totOf endOf
  cases hq : Plain.tabRight P (nums R) C.length
  · refine (oftable_wrong PA P pc NA R nc AA C ac w hT hq).mono ?_
    rintro e w' ⟨rfl, hb⟩
    exact ⟨_, _, _, 11, ⟨_, _, _, rfl⟩, ⟨_, _, _, rfl⟩, ⟨_, _, _, rfl⟩, rfl, hb, fun W' hb' => find_zero s hs W' ((hTb.below hb).below hb'), fun W' hb' => state_none s hs W' ((hTb.below hb).below hb')⟩
  · refine (laid_any PA P pc NA R nc AA C ac w hT hq).mono ?_
    rintro e w' ⟨FA, fc, KA, kc, A3, ac3, rfl, hO, hN, hb⟩
    have hfl := Plain.flat_of_table P (nums R) C hq
    exact ⟨_, _, _, 0, ⟨_, _, _, rfl⟩, ⟨_, _, _, rfl⟩, ⟨_, _, _, rfl⟩, rfl, hb, fun W' hb' => find_later hO hN (hTb.below hb) s hs hfl W' hb', fun W' hb' => state_later hO hN (hTb.below hb) s hs hfl W' hb'⟩
theorem wfind_tot (PA : Option Addr) (P : List Int) (pc : Nat) (NA : Option Addr) (R : List Row) (nc : Nat) (AA : Option Addr) (C : List Bool) (ac : Nat) (s : ByteArray) (w : World) (hT : TabAt w PA P NA R AA C) (hpc : P.length ≤ pc) (hs : s.size ≤ 4398046511104) :
    Calls Tryd.prog 13 #[tabV PA P pc NA R nc AA C ac, .string s] w fun e w' => e = .returned (foundV (totOf P (nums R) C s)) ∧ Below w.heap.size w w' := by
  refine (wfind_any PA P pc NA R nc AA C ac s w hT hpc hs).mono ?_
  rintro e w' ⟨rfl, hb⟩
  refine ⟨?_, hb⟩
  unfold totOf
  cases Plain.tabRight P (nums R) C.length <;> rfl
/-- what States hands back: none, or some of which the last is where it ends -/
def EndRes (z : Int) (w : World) (e : Ending) (w' : World) : Prop :=
  Below w.heap.size w w' ∧ ((e = .returned (.slice none 0 0) ∧ z = -1) ∨ ∃ g n c, e = .returned (.slice (some ⟨g, 0, none⟩) (n + 1) c) ∧ n ≤ 64 ∧ n + 1 ≤ c ∧ w'.cell? ⟨g, n, none⟩ = some (.int .i64 z))
theorem states_end (PA : Option Addr) (P : List Int) (pc : Nat) (NA : Option Addr) (R : List Row) (nc : Nat) (AA : Option Addr) (C : List Bool) (ac : Nat) (s : ByteArray) (w : World) (hT : TabAt w PA P NA R AA C) (hpc : P.length ≤ pc) (hs : s.size ≤ 64) :
    Calls Tryd.prog 14 #[tabV PA P pc NA R nc AA C ac, .string s] w (EndRes (endOf P (nums R) C s) w) := by
  refine (wstates_any PA P pc NA R nc AA C ac s w hT hpc (by omega)).mono ?_
  rintro e w' ⟨hb, h1, h2⟩
  refine ⟨hb, ?_⟩
  unfold endOf
  cases hq : Plain.tabRight P (nums R) C.length
  · exact .inl ⟨h2 hq, rfl⟩
  · obtain ⟨g, n, c, he, hn, hc, hcl⟩ := h1 hq
    exact .inr ⟨g, n, c, he, by omega, hc, hcl⟩
end Go.Proofs.YtdonginboioocaaDoor
