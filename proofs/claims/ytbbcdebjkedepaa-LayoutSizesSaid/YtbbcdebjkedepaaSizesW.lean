/- Chapter 14: LayoutSizes, the walk. Conditions: what the lemma says. -/
import Derived.Test.YtbbcdebjkedepaaWrongW
import Derived.Test.YtbbcdebjkedepaaOpenG
import Derived.Deep.QuietTactic
import Derived.Deep.RegionHeld3
set_option linter.unusedVariables false
set_option linter.unusedSimpArgs false
namespace Go.Proofs.Ytbbcdebjkedepaa
open Go.RowKit Go.Lib
open Plain (Rg May mayB In Norm In4 slotsOf insB bnd riB cls cnot rightB normB small)
def cum (k : Nat) : Nat := [0, 1, 2, 4].getD k 0
def ln3 (k : Nat) : Nat := [1, 1, 2].getD k 0
theorem cells_all (P : List Int) (N : List (List Int)) (a : Nat) (h : Plain.tabRight P N a = true) : (Plain.cellsOf N).length = N.length * P.length ∧ ∀ k, k < (Plain.cellsOf N).length → ∃ c : Nat, (Plain.cellsOf N).getD k 0 = (c : Int) ∧ c % P.length = 0 ∧ c < (Plain.cellsOf N).length := by
  obtain ⟨hp, hn, hn0, hn64, hrow⟩ := Plain.tab_right _ _ _ h
  have hl := Plain.cellsOf_len N P.length fun r hr => (hrow r hr).1
  refine ⟨hl, fun k hk => ?_⟩
  rw [Plain.getD_lt _ _ _ hk]
  have hm := List.getElem_mem hk
  generalize (Plain.cellsOf N)[k] = y at hm
  unfold Plain.cellsOf at hm
  obtain ⟨r, hr, hx⟩ := List.mem_flatMap.1 hm
  obtain ⟨x, hx, he⟩ := List.mem_map.1 hx
  obtain ⟨hl2, hb2⟩ := hrow r hr
  have h2 := hb2 x hx
  obtain ⟨b0, b64, _⟩ := (Plain.parts_bound P hp).1
  obtain ⟨z, rfl⟩ : ∃ z : Nat, x = z := ⟨x.toNat, by omega⟩
  refine ⟨z * P.length, by rw [← he, hl2]; simp, Nat.mul_mod_left _ _, ?_⟩
  rw [hl]
  exact Nat.mul_lt_mul_of_pos_right (by omega) b0
set_option maxRecDepth 1000000 in
set_option maxHeartbeats 16000000 in
theorem sizes_w (PI PC LA : Option Addr) (PL : List In4) (PK : List Cs) (pic pcc lc : Nat) (pg : Int) (own : Bool) (L : List Int) (g : Int) (TP TN TA GP GN GA : Option Addr) (tl tn ta tpc tnc tac gpc gnc gac : Nat) (ow2 : Bool) (GPL GNL : List Int) (GAL : List Bool) (W : World) (hC : CodeAt W PI PL PC PK pg LA L g) (hG : GridAt W GP GPL GN GNL GA GAL) :
    Calls Try.prog 4 #[.agg #[.slice PI PL.length pic, .slice PC PK.length pcc, .int .i64 pg, .bool own, .slice LA L.length lc, .int .u8 g], .agg #[.slice TP tl tpc, .slice TN tn tnc, .slice TA ta tac, .bool ow2, .slice GP GPL.length gpc, .slice GN GNL.length gnc, .slice GA GAL.length gac]] W fun e w' => e = .returned (.bool true) ∧ Below W.heap.size W w' := by
  have CE := Lib.hid (fun W => examples_any W)
  obtain ⟨LL, hLL⟩ : ∃ x, codeLn L g = x := ⟨_, rfl⟩
  obtain ⟨gq, hgq⟩ : ∃ x, g % 3 = x := ⟨_, rfl⟩
  have hlen := codeLn_len L g
  have hgq2 : 0 ≤ gq ∧ gq ≤ 2 := by have := hC.g0; omega
  have hpr := fun (K : List Cs) (hK : K.map Cs.R = [kA, kB, kN]) => code_right L g K hC.g0 hC.lb hK
  have cc := fun (w : World) (h : Below W.heap.size W w) => code_own PI PC LA PL.length pic PK.length pcc lc pg g L w hC.g0 hC.g1 (hC.l.below h) hC.ll hC.lb
  unfold CodeRes at cc
  rw [hLL] at hlen
  rw [hLL, hgq] at hpr cc
  obtain ⟨n, hn⟩ : ∃ n, LL.length = n := ⟨_, rfl⟩
  have hnb : 1 ≤ n ∧ n ≤ 15 := by omega
  have hcof : ∀ (I C : Option Addr) (c : Nat) (K : List Cs) (w : World), PgAt w I LL C K → K.map Cs.R = [kA, kB, kN] → Calls Try.prog 9 #[.agg #[.slice I n c, .slice C 3 3, .int .i64 gq]] w fun e w' =>
      ∃ A0 c0 A1 c1 A2 c2, e = .returned (.tuple #[.agg #[.slice A0 n c0, .slice A1 4 c1, .slice A2 3 c2, .int .u32 (2 * gq + 2)], .int .i64 0]) ∧ OwnAr w.heap.size w' A0 LL c0 A1 kR c1 A2 c2 ∧ Below w.heap.size w w' := fun I C c K w hP hK => by
    have h := lof_any I C LL K c 3 gq w hP (hpr K hK)
    unfold OfRes pgV arV at h
    rw [hK, (codeK_ok K hK).1, hn] at h
    exact h
  have CO := Lib.hid hcof
  unfold pgV at cc
  rw [hn] at cc
  have HN := Lib.hid hn
  obtain ⟨P, hPP⟩ : ∃ P, Plain.partsG (fun i => GPL.getD i 0) (min GPL.length 4) = P := ⟨_, rfl⟩
  obtain ⟨N, hNN⟩ : ∃ N, Plain.rowsG (fun i => GNL.getD i 0) GNL.length (1 + min GAL.length 5) (min GPL.length 4 + 1) (1 + min GAL.length 5) = N := ⟨_, rfl⟩
  obtain ⟨C, hCC⟩ : ∃ C, Plain.accG (fun i => GAL.getD i false) GAL.length (1 + min GAL.length 5) = C := ⟨_, rfl⟩
  have htr : Plain.tabRight P N C.length = true := by rw [← hPP, ← hNN, ← hCC]; exact Plain.grid_right _ _ _ _ _ _ _ (by omega) (by omega) (by omega)
  have cg := fun (w : World) (h : Below W.heap.size W w) => grid_own TP tl tpc TN tn tnc TA ta tac GP GPL gpc GN GNL gnc GA GAL gac w (hG.below h)
  unfold GridRes at cg
  rw [hPP, hNN, hCC] at cg
  obtain ⟨hpr2, hnl, hm0, hm64, hrows⟩ := Plain.tab_right _ _ _ htr
  obtain ⟨⟨hp0, hp64, _⟩, _⟩ := Plain.parts_bound P hpr2
  obtain ⟨hz, hcell⟩ := cells_all P N C.length htr
  obtain ⟨p, hp⟩ : ∃ p, P.length = p := ⟨_, rfl⟩
  obtain ⟨m, hm⟩ : ∃ m, N.length = m := ⟨_, rfl⟩
  obtain ⟨z, hzz⟩ : ∃ z, (Plain.cellsOf N).length = z := ⟨_, rfl⟩
  have hcg : ∀ w : World, Below W.heap.size W w → Calls Try.prog 8 #[.agg #[.slice TP tl tpc, .slice TN tn tnc, .slice TA ta tac, .bool true, .slice GP GPL.length gpc, .slice GN GNL.length gnc, .slice GA GAL.length gac]] w fun e w' =>
      ∃ a0 n0 a1 R n1 a2 n2, e = .returned (.agg #[.slice a0 p n0, .slice a1 m n1, .slice a2 m n2]) ∧ nums R = N ∧ TabAt w' a0 P a1 R a2 C ∧ Below w.heap.size w w' := fun w hw => by
    refine (cg w hw).mono ?_
    rintro e w' ⟨a0, n0, a1, R, n1, a2, n2, rfl, hR, hO, hb⟩
    have hRl : R.length = m := (nums_len hR).trans hm
    have hCl : C.length = m := by rw [← hm]; omega
    refine ⟨a0, n0, a1, R, n1, a2, n2, ?_, hR, hO.tab (by unfold maxLen; omega) (by unfold maxLen; omega) (by unfold maxLen; omega) (fun r hr => ?_), hb⟩
    · unfold tabV; rw [hp, hRl, hCl]
    · have := (hrows r.2.2 (by rw [← hR]; exact List.mem_map.2 ⟨r, hr, rfl⟩)).1
      unfold maxLen; omega
  have hct : ∀ (a0 : Option Addr) (n0 : Nat) (a1 : Option Addr) (R : List Row) (n1 : Nat) (a2 : Option Addr) (n2 : Nat) (w : World), nums R = N → TabAt w a0 P a1 R a2 C → Calls Try.prog 10 #[.agg #[.slice a0 p n0, .slice a1 m n1, .slice a2 m n2]] w fun e w' =>
      ∃ FA fc KA kc BA bc, e = .returned (.tuple #[.agg #[.slice FA p fc, .slice KA z kc, .slice BA m bc], .int .i64 0]) ∧ Sl w' KA (u32s (Plain.cellsOf N)) ∧ Below w.heap.size w w' := fun a0 n0 a1 R n1 a2 n2 w hR hT => by
    have hRl : R.length = m := (nums_len hR).trans hm
    have hCl : C.length = m := by rw [← hm]; omega
    have h := laid_any a0 P n0 a1 R n1 a2 C n2 w hT (by rw [hR]; exact htr)
    unfold LaidRes tabV flatV at h
    rw [hR, hRl, hCl, hp, hzz, Plain.accs_len, hCl] at h
    refine h.mono ?_
    rintro e w' ⟨FA, fc, KA, kc, BA, bc, rfl, hO, _, hb⟩
    exact ⟨FA, fc, KA, kc, BA, bc, rfl, hO.flat.cells, hb⟩
  have CG := Lib.hid hcg
  have CT := Lib.hid hct
  rw [hp, hm, hzz] at hz
  rw [hp, hzz] at hcell
  rw [hp] at hp0 hp64
  rw [hm] at hm0 hm64
  have HCELL := Lib.hid hcell
  have HZZ := Lib.hid hzz
  obtain ⟨ln, hln⟩ : ∃ n, L.length = n := ⟨_, rfl⟩
  obtain ⟨pn, hpn⟩ : ∃ n, PL.length = n := ⟨_, rfl⟩
  obtain ⟨pk, hpk⟩ : ∃ n, PK.length = n := ⟨_, rfl⟩
  obtain ⟨gp, hgp⟩ : ∃ n, GPL.length = n := ⟨_, rfl⟩
  obtain ⟨gn, hgn⟩ : ∃ n, GNL.length = n := ⟨_, rfl⟩
  obtain ⟨ga, hga⟩ : ∃ n, GAL.length = n := ⟨_, rfl⟩
  rw [hln, hpn, hpk] at cc ⊢
  rw [hgp, hgn, hga] at CG ⊢
  have CC := Lib.hid cc
  have hzb : z ≤ 4096 := by rw [hz]; exact Nat.le_trans (Nat.mul_le_mul hm64 hp64) (by decide)
  have HZ := Lib.hid hz
  clear hz
  clear hC hG hln hpn hpk cc hcof hpr hlen hLL hgq hn hgp hgn hga hcg hct hcell hzz hp hm cg htr hPP hNN hCC hpr2 hnl hrows
  go_enter Try.func4, Try.ntmps4
  go_wp2_with fail
  obtain ⟨w0, hw0⟩ : ∃ x, (W.alloc (.cells #[.slice PI pn pic, .slice PC pk pcc, .int .i64 pg, .bool own, .slice LA ln lc, .int .u8 g] 28)).alloc (.cells #[.slice TP tl tpc, .slice TN tn tnc, .slice TA ta tac, .bool ow2, .slice GP gp gpc, .slice GN gn gnc, .slice GA ga gac] 37) = x := ⟨_, rfl⟩
  have hB0 : Below W.heap.size W w0 := by rw [← hw0]; exact below_alloc (below_alloc (Below.refl W.heap.size W) _) _
  have hX : w0.heap[W.heap.size]? = some (.cells #[.slice PI pn pic, .slice PC pk pcc, .int .i64 pg, .bool own, .slice LA ln lc, .int .u8 g] 28 (0, 0)) := by rw [← hw0]; exact blk_alloc (heap_alloc_new2 _ _ _ _ rfl) _
  have hY : w0.heap[W.heap.size + 1]? = some (.cells #[.slice TP tl tpc, .slice TN tn tnc, .slice TA ta tac, .bool ow2, .slice GP gp gpc, .slice GN gn gnc, .slice GA ga gac] 37 (0, 0)) := by rw [← hw0]; exact heap_alloc_new2 _ _ _ _ (by simp)
  rw [hw0]
  refine (CE.out _).mono ?_
  rintro e1 w1 ⟨rfl, hb⟩
  have HB1 := Lib.hid (below_then hB0 hb)
  have hX1 := blk_later hX hb
  have hY1 := blk_later hY hb
  have hlw := lt_of_some hX1
  have hly := lt_of_some hY1
  have f3 := blk_frozen hX1 3
  have f4 := blk_frozen hY1 3
  have hc1 : CellsAt w1 W.heap.size [.slice PI pn pic, .slice PC pk pcc, .int .i64 pg, .bool own, .slice LA ln lc, .int .u8 g] := ⟨hlw, fun j u hu => by rw [cell_of_row _ _ _ _ _ _ hX1]; simpa using hu⟩
  have hd1 : CellsAt w1 (W.heap.size + 1) [.slice TP tl tpc, .slice TN tn tnc, .slice TA ta tac, .bool ow2, .slice GP gp gpc, .slice GN gn gnc, .slice GA ga gac] := ⟨hly, fun j u hu => by rw [cell_of_row _ _ _ _ _ _ hY1]; simpa using hu⟩
  have x3 := hc1.at_ 3 _ rfl
  have y3 := hd1.at_ 3 _ rfl
  have hX2 : ((w1.setCell ⟨W.heap.size, 3, none⟩ (.bool true)).setCell ⟨W.heap.size + 1, 3, none⟩ (.bool true)).heap[W.heap.size]? = some (.cells #[.slice PI pn pic, .slice PC pk pcc, .int .i64 pg, .bool true, .slice LA ln lc, .int .u8 g] 28 (0, 0)) := by
    rw [heap_setCell_other _ ⟨W.heap.size + 1, 3, none⟩ W.heap.size _ (Nat.ne_of_lt (Nat.lt_succ_self _))]
    exact heap_setCell_same _ _ 3 _ _ _ hX1
  have hY2 : ((w1.setCell ⟨W.heap.size, 3, none⟩ (.bool true)).setCell ⟨W.heap.size + 1, 3, none⟩ (.bool true)).heap[W.heap.size + 1]? = some (.cells #[.slice TP tl tpc, .slice TN tn tnc, .slice TA ta tac, .bool true, .slice GP gp gpc, .slice GN gn gnc, .slice GA ga gac] 37 (0, 0)) :=
    heap_setCell_same _ _ 3 _ _ _ (by rw [heap_setCell_other w1 ⟨W.heap.size, 3, none⟩ (W.heap.size + 1) (.bool true) (Nat.ne_of_gt (Nat.lt_succ_self _))]; exact hY1)
  have HBS := Lib.hid ((HB1.out.setCell (p := ⟨W.heap.size, 3, none⟩) (Nat.le_refl _) (.bool true)).setCell (p := ⟨W.heap.size + 1, 3, none⟩) (Nat.le_succ _) (.bool true))
  clear hb hX hY hc1 hd1 hX1 hY1 hB0 hw0
  go_upto_region 6 with fail
  clear x3 y3 f3 f4 hlw hly
  obtain ⟨w2, hw2⟩ : ∃ W0, (w1.setCell ⟨W.heap.size, 3, none⟩ (.bool true)).setCell ⟨W.heap.size + 1, 3, none⟩ (.bool true) = W0 := ⟨_, rfl⟩
  rw [hw2] at HBS hX2 hY2 ⊢
  have HX2 := Lib.hid hX2
  have HY2 := Lib.hid hY2
  clear hw2 hX2 hY2
  have hc1 : CellsAt w2 W.heap.size [.slice PI pn pic, .slice PC pk pcc, .int .i64 pg, .bool true, .slice LA ln lc, .int .u8 g] := ⟨lt_of_some HX2.out, fun j u hu => by rw [cell_of_row _ _ _ _ _ _ HX2.out]; simpa using hu⟩
  have x0 := hc1.at_ 0 _ rfl
  have x1 := hc1.at_ 1 _ rfl
  have x2 := hc1.at_ 2 _ rfl
  have x3 := hc1.at_ 3 _ rfl
  have x4 := hc1.at_ 4 _ rfl
  have x5 := hc1.at_ 5 _ rfl
  clear hc1
  go_wp2_with fail
  clear x0 x1 x2 x3 x4 x5
  refine (CC.out _ HBS.out).mono ?_
  rintro e w3 ⟨I, ci, gc, K, rfl, _, hP, hK, hb⟩
  go_upto_region 7 with fail
  obtain ⟨w3b, hw⟩ : ∃ x, w3.alloc (.cells #[.slice I n ci, .slice (some ⟨gc, 0, none⟩) 3 3, .int .i64 gq] 25) = x := ⟨_, rfl⟩
  have hb' : Below w3.heap.size w3 w3b := by rw [← hw]; exact below_alloc (Below.refl _ _) _
  have hx : w3b.heap[w3.heap.size]? = some (.cells #[.slice I n ci, .slice (some ⟨gc, 0, none⟩) 3 3, .int .i64 gq] 25 (0, 0)) := by rw [← hw]; exact heap_alloc_new2 _ _ _ _ rfl
  rw [hw]
  obtain ⟨bp, hbp⟩ : ∃ x, w3.heap.size = x := ⟨_, rfl⟩
  have HB3 := Lib.hid (below_then (below_then HBS.out hb) hb')
  have HP3 := Lib.hid (hP.below hb')
  have HK := Lib.hid hK
  have hY3 := blk_later HY2.out (hb.trans (hb'.mono hb.size))
  rw [hbp] at hx ⊢
  have HXP := Lib.hid hx
  clear hw hb hb' hx hbp hP hK HX2 HY2
  have hd1 : CellsAt w3b (W.heap.size + 1) [.slice TP tl tpc, .slice TN tn tnc, .slice TA ta tac, .bool true, .slice GP gp gpc, .slice GN gn gnc, .slice GA ga gac] := ⟨lt_of_some hY3, fun j u hu => by rw [cell_of_row _ _ _ _ _ _ hY3]; simpa using hu⟩
  have x0 := hd1.at_ 0 _ rfl
  have x1 := hd1.at_ 1 _ rfl
  have x2 := hd1.at_ 2 _ rfl
  have x3 := hd1.at_ 3 _ rfl
  have x4 := hd1.at_ 4 _ rfl
  have x5 := hd1.at_ 5 _ rfl
  have x6 := hd1.at_ 6 _ rfl
  clear hd1 hY3
  go_wp2_with fail
  clear x0 x1 x2 x3 x4 x5 x6
  refine (CG.out _ HB3.out).mono ?_
  rintro e w4 ⟨a0, n0, a1, R, n1, a2, n2, rfl, hR, hT, hb⟩
  go_upto_region 8 with fail
  obtain ⟨w4b, hw⟩ : ∃ x, w4.alloc (.cells #[.slice a0 p n0, .slice a1 m n1, .slice a2 m n2] 34) = x := ⟨_, rfl⟩
  have hb' : Below w4.heap.size w4 w4b := by rw [← hw]; exact below_alloc (Below.refl _ _) _
  have hx : w4b.heap[w4.heap.size]? = some (.cells #[.slice a0 p n0, .slice a1 m n1, .slice a2 m n2] 34 (0, 0)) := by rw [← hw]; exact heap_alloc_new2 _ _ _ _ rfl
  rw [hw]
  obtain ⟨bt, hbt⟩ : ∃ x, w4.heap.size = x := ⟨_, rfl⟩
  have HB4 := Lib.hid (below_then (below_then HB3.out hb) hb')
  have HP4 := Lib.hid (HP3.out.below (hb.trans (hb'.mono hb.size)))
  have HXP4 := Lib.hid (blk_later HXP.out (hb.trans (hb'.mono hb.size)))
  have HT4 := Lib.hid (hT.below hb')
  have HR := Lib.hid hR
  rw [hbt] at hx ⊢
  have HXT := Lib.hid hx
  clear hw hb hb' hx hbt hT hR HP3 HXP HB3
  obtain ⟨p0, p1, p2⟩ := blk_cells3 HXP4.out
  go_wp2_with fail
  clear p0 p1 p2
  refine (CO.out I _ ci K _ HP4.out HK.out).mono ?_
  rintro e w5 ⟨A0, ca, A1, cg, A2, ce, rfl, hO, hb⟩
  go_upto_region 9 with fail
  obtain ⟨w5b, hw⟩ : ∃ x, w5.alloc (.cells #[.slice A0 n ca, .slice A1 4 cg, .slice A2 3 ce, .int .u32 (2 * gq + 2)] 43) = x := ⟨_, rfl⟩
  have hb' : Below w5.heap.size w5 w5b := by rw [← hw]; exact below_alloc (Below.refl _ _) _
  have hx : w5b.heap[w5.heap.size]? = some (.cells #[.slice A0 n ca, .slice A1 4 cg, .slice A2 3 ce, .int .u32 (2 * gq + 2)] 43 (0, 0)) := by rw [← hw]; exact heap_alloc_new2 _ _ _ _ rfl
  rw [hw]
  obtain ⟨ba, hba⟩ : ∃ x, w5.heap.size = x := ⟨_, rfl⟩
  have hbb := hb.trans (hb'.mono hb.size)
  have HB5 := Lib.hid (below_then (below_then HB4.out hb) hb')
  have HP5 := Lib.hid (HP4.out.below hbb)
  have HXP5 := Lib.hid (blk_later HXP4.out hbb)
  have HT5 := Lib.hid (HT4.out.below hbb)
  have HXT5 := Lib.hid (blk_later HXT.out hbb)
  have HO5 := Lib.hid (hO.kept hb')
  rw [hba] at hx ⊢
  have HXA := Lib.hid hx
  clear hw hb hb' hx hba hO hbb HP4 HXP4 HT4 HXT HB4
  obtain ⟨t0, t1, t2⟩ := blk_cells3 HXT5.out
  go_wp2_with fail
  clear t0 t1 t2
  refine (CT.out a0 n0 a1 R n1 a2 n2 _ HR.out HT5.out).mono ?_
  rintro e w6 ⟨FA, fc, KA, kc, BA, bc, rfl, hF, hb⟩
  go_upto_region 10 with fail
  obtain ⟨w6b, hw⟩ : ∃ x, w6.alloc (.cells #[.slice FA p fc, .slice KA z kc, .slice BA m bc] 45) = x := ⟨_, rfl⟩
  have hb' : Below w6.heap.size w6 w6b := by rw [← hw]; exact below_alloc (Below.refl _ _) _
  have hx : w6b.heap[w6.heap.size]? = some (.cells #[.slice FA p fc, .slice KA z kc, .slice BA m bc] 45 (0, 0)) := by rw [← hw]; exact heap_alloc_new2 _ _ _ _ rfl
  rw [hw]
  obtain ⟨bf, hbf⟩ : ∃ x, w6.heap.size = x := ⟨_, rfl⟩
  have hbb := hb.trans (hb'.mono hb.size)
  have HB6 := Lib.hid (below_then (below_then HB5.out hb) hb')
  have HP := Lib.hid (HP5.out.below hbb)
  have HXP := Lib.hid (blk_later HXP5.out hbb)
  have HXT := Lib.hid (blk_later HXT5.out hbb)
  have HXA6 := Lib.hid (blk_later HXA.out hbb)
  have HO := Lib.hid (HO5.out.kept hbb)
  have HF := Lib.hid (hF.below hb')
  rw [hbf] at hx ⊢
  have HXF := Lib.hid hx
  clear hw hb hb' hx hbf hF hbb HP5 HXP5 HT5 HXT5 HXA HO5 HB5
  have HFF := Lib.hid (fun (w' : World) (h : Below w6b.heap.size w6b w') => (⟨blk_cells3 (blk_later HXP.out h), blk_cells3 (blk_later HXT.out h), blk_cells4 (blk_later HXA6.out h), blk_cells3 (blk_later HXF.out h)⟩ : _ ∧ _ ∧ _ ∧ _))
  have HZ0 := Lib.hid (Below.refl w6b.heap.size w6b)
  obtain ⟨⟨p0, p1, p2⟩, ⟨t0, t1, t2⟩, ⟨a00, a01, a02, a03⟩, f0, f1, f2⟩ := HFF.out w6b HZ0.out
  obtain ⟨ge, ke, hv, _, _, hce⟩ := own_at HO.out.o2 (by decide)
  injection hv with hv1 _ _
  subst hv1
  have HCE := Lib.hid hce
  clear hce p0 p1 p2 t0 t1 t2 a00 a01 a02 a03 f0 f1 f2
  obtain ⟨⟨p0, p1, p2⟩, ⟨t0, t1, t2⟩, ⟨a00, a01, a02, a03⟩, f0, f1, f2⟩ := HFF.out w6b HZ0.out
  go_wp2_with fail
  obtain ⟨w7, rfl⟩ : ∃ x, x = w6b := ⟨_, rfl⟩
  go_loopw [12, 13] (fun r i wr => ∃ k : Nat, k ≤ 3 ∧ i = .int .i64 k ∧ r = .int .i64 (cum k) ∧ Below w7.heap.size w7 wr) (fun _ i _ => 3 - (RowKit.intOf i).toNat)
  case atStart => exact ⟨0, Nat.zero_le _, rfl, rfl, Below.refl _ _⟩
  clear p0 p1 p2 t0 t1 t2 a00 a01 a02 a03 f0 f1 f2
  case round =>
    obtain ⟨k, hk, rfl, rfl, hB⟩ := hrel
    have HB := Lib.hid hB
    clear hB
    obtain ⟨⟨p0, p1, p2⟩, ⟨t0, t1, t2⟩, ⟨a00, a01, a02, a03⟩, f0, f1, f2⟩ := HFF.out wr HB.out
    by_cases hlt : k < 3
    · as_aux_lemma =>
        have hKl : k < K.length := by rw [(codeK_ok K HK.out).1]; exact hlt
        obtain ⟨b, off, he, hb, cc⟩ := cs_at ((HP.out.cls).below HB.out) k hKl
        injection he with he
        injection he with he1 he2
        subst he1
        subst he2
        rw [Nat.zero_add] at cc
        have hxR : (K[k]).R.length = ln3 k := by
          have h1 := congrArg (fun l => l[k]?) HK.out
          simp only [List.getElem?_map, List.getElem?_eq_getElem hKl, Option.map_some] at h1
          rcases (show k = 0 ∨ k = 1 ∨ k = 2 by omega) with rfl | rfl | rfl <;> (simp at h1; rw [h1]; rfl)
        obtain ⟨⟨xA, xc, xR⟩, hx⟩ : ∃ x, K[k] = x := ⟨_, rfl⟩
        rw [hx] at cc hxR
        unfold clV at cc
        dsimp only at cc hxR
        rw [hxR] at cc
        have ce := (HB.out.cell (p := ⟨ge, k, none⟩) HCE.out.1).trans (HCE.out.2 k (.int .u32 (cum (k + 1))) (by rcases (show k = 0 ∨ k = 1 ∨ k = 2 by omega) with rfl | rfl | rfl <;> rfl))
        have hcu : cum (k + 1) = cum k + ln3 k := by rcases (show k = 0 ∨ k = 1 ∨ k = 2 by omega) with rfl | rfl | rfl <;> rfl
        have hcb : cum k ≤ 4 ∧ ln3 k ≤ 4 := by rcases (show k = 0 ∨ k = 1 ∨ k = 2 by omega) with rfl | rfl | rfl <;> decide
        rw [hcu] at ce
        obtain ⟨ck, hck⟩ : ∃ x, cum k = x := ⟨_, rfl⟩
        obtain ⟨lk, hlk⟩ : ∃ x, ln3 k = x := ⟨_, rfl⟩
        rw [hck, hlk] at ce hcu hcb
        rw [hlk] at cc
        rw [hck]
        have HCU := Lib.hid hcu
        clear hcu hck hlk hx hxR
        go_wp2
        go_roundw
        case rel => exact ⟨k + 1, by omega, by go_num, by rw [HCU.out]; simp, HB.out⟩
        case measure => simp [RowKit.intOf]; omega
    · obtain rfl : k = 3 := by omega
      rw [show cum 3 = 4 from rfl]
      go_wp2_with fail
      go_loopw [14] (fun i w8 => ∃ j : Nat, j ≤ z ∧ i = .int .i64 j ∧ Below w7.heap.size w7 w8) (fun i _ => z - (RowKit.intOf i).toNat)
      case atStart => exact ⟨0, Nat.zero_le _, rfl, HB.out⟩
      clear HB p0 p1 p2 t0 t1 t2 a00 a01 a02 a03 f0 f1 f2
      case round =>
        obtain ⟨j, hj, rfl, hB⟩ := hrel
        have HB := Lib.hid hB
        clear hB
        obtain ⟨⟨p0, p1, p2⟩, ⟨t0, t1, t2⟩, ⟨a00, a01, a02, a03⟩, f0, f1, f2⟩ := HFF.out wr HB.out
        by_cases hjl : j < z
        · as_aux_lemma =>
            obtain ⟨c, hc1, hc2, hc3⟩ := HCELL.out j hjl
            have hjl2 : j < (Plain.cellsOf N).length := by rw [HZZ.out]; exact hjl
            obtain ⟨bk, ok, hKA, hbk, hck⟩ := (HF.out.below HB.out).get j hjl2
            rw [hc1] at hck
            subst hKA
            have hp0' : ((p : Int) == 0) = false := by simp; omega
            have hnp : ¬ p = 0 := by omega
            have htm : Int.tmod (c : Int) (p : Int) = 0 := by rw [Int.tmod_eq_emod_of_nonneg (by omega)]; exact_mod_cast hc2
            have hem : (c : Int) % (p : Int) = 0 := by exact_mod_cast hc2
            have hwc : IntKind.i64.wrap (c : Int) = c := by rw [IntKind.wrap_i64]; omega
            have hcz : decide ((z : Int) ≤ (c : Int)) = false := by simp; omega
            have HC2 := Lib.hid hc2
            clear hc1 hc2 hbk
            go_upto_region 20 with fail
            go_quiet (fail)
            have hbd : RowKit.Below wr.heap.size wr (wr.drewN nq) := ⟨rfl, rfl, rfl, Nat.le_refl _, fun _ _ => rfl⟩
            have HBN := Lib.hid (below_then HB.out hbd)
            clear hbd
            go_wp2
            go_roundw
            case rel => exact ⟨j + 1, by omega, by go_num, HBN.out⟩
            case measure => simp [RowKit.intOf]; omega
        · as_aux_lemma =>
            obtain rfl : z = j := by omega
            go_upto_region 22 with fail
            have CS := Lib.hid (show ∀ w' : World, Calls Try.prog 21 #[.agg #[.slice I n ci, .slice (some ⟨gc, 0, none⟩) 3 3, .int .i64 gq]] w' fun e w'' => e = .returned (.int .i64 (2 * gq + 2)) ∧ Below w'.heap.size w' w'' from fun w' => by
              have h := slots_any I (some ⟨gc, 0, none⟩) n ci 3 3 gq w'
              rw [slotsOf_sm gq hgq2.1 (by omega)] at h
              exact h)
            have CW := Lib.hid (show ∀ w' : World, Calls Try.prog 22 #[.agg #[.slice A0 n ca, .slice A1 4 cg, .slice (some ⟨ge, 0, none⟩) 3 ke, .int .u32 (2 * gq + 2)]] w' fun e w'' => e = .returned (.int .i64 (4 * (n : Int) + 8 + 3 + 1)) ∧ Below w'.heap.size w' w'' from fun w' => by
              have h := words_any A0 A1 (some ⟨ge, 0, none⟩) n ca 4 cg 3 ke (2 * gq + 2) w' (by omega)
              rw [show ((4 * n + 2 * 4 + 3 + 1 : Nat) : Int) = 4 * (n : Int) + 8 + 3 + 1 by omega] at h
              exact h)
            have hw0 : IntKind.i64.wrap (2 * gq + 2) = 2 * gq + 2 := by rw [IntKind.wrap_i64]; omega
            have hw1 : IntKind.i64.wrap ((p : Int) * (m : Int)) = (z : Int) := by
              have hz := HZ.out
              rw [show (p : Int) * (m : Int) = ((p * m : Nat) : Int) by simp, Nat.mul_comm, ← hz, IntKind.wrap_i64]; omega
            have hw2 : IntKind.i64.wrap (4 * (n : Int)) = 4 * (n : Int) := by rw [IntKind.wrap_i64]; omega
            have hw3 : IntKind.i64.wrap (4 * (n : Int) + 8) = 4 * (n : Int) + 8 := by rw [IntKind.wrap_i64]; omega
            have hw4 : IntKind.i64.wrap (4 * (n : Int) + 8 + 3) = 4 * (n : Int) + 8 + 3 := by rw [IntKind.wrap_i64]; omega
            have hw5 : IntKind.i64.wrap (4 * (n : Int) + 8 + 3 + 1) = 4 * (n : Int) + 8 + 3 + 1 := by rw [IntKind.wrap_i64]; omega
            have hw6 : IntKind.i64.wrap 8 = 8 := by decide
            have HQ0 := Lib.hid (Below.drew HB.out)
            clear p0 p1 p2 t0 t1 t2 a00 a01 a02 a03 f0 f1 f2
            refine wp_region_noPanic ?_
            refine wp_region_T 81 (S := fun w' : World => Below w7.heap.size w7 w') (by kernel_rfl) (by decide) ?_
            refine wpAnyT_take2 0 (v := ?tvs0) (by kernel_rfl) rfl (by kernel_rfl) (fun _ _ _ h => h) (Or.inl ⟨by rfl, ?tys0⟩) HQ0.out ?trs0
            case tys0 => (intro w' hSw; (try dsimp only at hSw); go_simp; try with_reducible rfl)
            try simp only [Act.put, List.setIfInBounds_toArray, List.set_cons_zero, List.set_cons_succ]
            refine wpAnyT_take2 1 (v := ?tvs1) (by kernel_rfl) rfl (by kernel_rfl) (fun _ _ _ h => h) (Or.inl ⟨by rfl, ?tys1⟩) HQ0.out ?trs1
            case tys1 => (intro w' hSw; (try dsimp only at hSw); go_simp; try with_reducible rfl)
            try simp only [Act.put, List.setIfInBounds_toArray, List.set_cons_zero, List.set_cons_succ]
            refine wpAnyT_take2 2 (v := ?tvs2) (by kernel_rfl) rfl (by kernel_rfl) (fun _ _ _ h => h) (Or.inl ⟨by rfl, ?tys2⟩) HQ0.out ?trs2
            case tys2 => (intro w' hSw; (try dsimp only at hSw); go_simp; try with_reducible rfl)
            try simp only [Act.put, List.setIfInBounds_toArray, List.set_cons_zero, List.set_cons_succ]
            refine wpAnyT_take2 3 (v := ?tvs3) (by kernel_rfl) rfl (by kernel_rfl) (fun _ _ _ h => h) (Or.inl ⟨by rfl, ?tys3⟩) HQ0.out ?trs3
            case tys3 => (intro w' hSw; (try dsimp only at hSw); go_simp; try with_reducible rfl)
            try simp only [Act.put, List.setIfInBounds_toArray, List.set_cons_zero, List.set_cons_succ]
            refine wpAnyT_take2 4 (v := ?tvs4) (by kernel_rfl) rfl (by kernel_rfl) (fun _ _ _ h => h) (Or.inl ⟨by rfl, ?tys4⟩) HQ0.out ?trs4
            case tys4 => (intro w' hSw; (try dsimp only at hSw); go_simp; try with_reducible rfl)
            try simp only [Act.put, List.setIfInBounds_toArray, List.set_cons_zero, List.set_cons_succ]
            refine wpAnyT_take2 5 (v := ?tvs5) (by kernel_rfl) rfl (by kernel_rfl) (fun _ _ _ h => h) (Or.inl ⟨by rfl, ?tys5⟩) HQ0.out ?trs5
            case tys5 => (intro w' hSw; (try dsimp only at hSw); go_simp; try with_reducible rfl)
            try simp only [Act.put, List.setIfInBounds_toArray, List.set_cons_zero, List.set_cons_succ]
            refine wpAnyT_take2 6 (v := ?tvs6) (by kernel_rfl) rfl (by kernel_rfl) (fun _ _ _ h => h) (Or.inl ⟨by rfl, ?tys6⟩) HQ0.out ?trs6
            case tys6 => (intro w' hSw; (try dsimp only at hSw); go_simp; try with_reducible rfl)
            try simp only [Act.put, List.setIfInBounds_toArray, List.set_cons_zero, List.set_cons_succ]
            refine wpAnyT_take2 7 (v := ?tvs7) (by kernel_rfl) rfl (by kernel_rfl) (fun _ _ _ h => h) (Or.inl ⟨by rfl, ?tys7⟩) HQ0.out ?trs7
            case tys7 => (intro w' hSw; (try dsimp only at hSw); go_simp; try with_reducible rfl)
            try simp only [Act.put, List.setIfInBounds_toArray, List.set_cons_zero, List.set_cons_succ]
            refine wpAnyT_take2 8 (v := ?tvs8) (by kernel_rfl) rfl (by kernel_rfl) (fun _ _ _ h => h) (Or.inl ⟨by rfl, ?tys8⟩) HQ0.out ?trs8
            case tys8 => (intro w' hSw; (try dsimp only at hSw); go_simp; try with_reducible rfl)
            try simp only [Act.put, List.setIfInBounds_toArray, List.set_cons_zero, List.set_cons_succ]
            refine wpAnyT_take2 9 (v := ?tvs9) (by kernel_rfl) rfl (by kernel_rfl) (fun _ _ _ h => h) (Or.inl ⟨by rfl, ?tys9⟩) HQ0.out ?trs9
            case tys9 => (intro w' hSw; (try dsimp only at hSw); go_simp; try with_reducible rfl)
            try simp only [Act.put, List.setIfInBounds_toArray, List.set_cons_zero, List.set_cons_succ]
            refine wpAnyT_take2 10 (v := ?tvs10) (by kernel_rfl) rfl (by kernel_rfl) (fun _ _ _ h => h) (Or.inl ⟨by rfl, ?tys10⟩) HQ0.out ?trs10
            case tys10 => (intro w' hSw; (try dsimp only at hSw); go_simp; try with_reducible rfl)
            try simp only [Act.put, List.setIfInBounds_toArray, List.set_cons_zero, List.set_cons_succ]
            refine wpAnyT_take2 11 (v := ?tvs11) (by kernel_rfl) rfl (by kernel_rfl) (fun _ _ _ h => h) (Or.inl ⟨by rfl, ?tys11⟩) HQ0.out ?trs11
            case tys11 => (intro w' hSw; obtain ⟨⟨p0, p1, p2⟩, ⟨t0, t1, t2⟩, ⟨a00, a01, a02, a03⟩, f0, f1, f2⟩ := HFF.out w' hSw; (try dsimp only at hSw); go_simp; try with_reducible rfl)
            try simp only [Act.put, List.setIfInBounds_toArray, List.set_cons_zero, List.set_cons_succ]
            refine wpAnyT_take2 12 (v := ?tvs12) (by kernel_rfl) rfl (by kernel_rfl) (fun _ _ _ h => h) (Or.inl ⟨by rfl, ?tys12⟩) HQ0.out ?trs12
            case tys12 => (intro w' hSw; (try dsimp only at hSw); go_simp; try with_reducible rfl)
            try simp only [Act.put, List.setIfInBounds_toArray, List.set_cons_zero, List.set_cons_succ]
            refine wpAnyT_take2 13 (v := ?tvs13) (by kernel_rfl) rfl (by kernel_rfl) (fun _ _ _ h => h) (Or.inl ⟨by rfl, ?tys13⟩) HQ0.out ?trs13
            case tys13 => (intro w' hSw; (try dsimp only at hSw); go_simp; try with_reducible rfl)
            try simp only [Act.put, List.setIfInBounds_toArray, List.set_cons_zero, List.set_cons_succ]
            refine wpAnyT_take2 14 (v := ?tvs14) (by kernel_rfl) rfl (by kernel_rfl) (fun _ _ _ h => h) (Or.inl ⟨by rfl, ?tys14⟩) HQ0.out ?trs14
            case tys14 => (intro w' hSw; obtain ⟨⟨p0, p1, p2⟩, ⟨t0, t1, t2⟩, ⟨a00, a01, a02, a03⟩, f0, f1, f2⟩ := HFF.out w' hSw; (try dsimp only at hSw); go_simp; try with_reducible rfl)
            try simp only [Act.put, List.setIfInBounds_toArray, List.set_cons_zero, List.set_cons_succ]
            refine wpAnyT_take2 15 (v := ?tvs15) (by kernel_rfl) rfl (by kernel_rfl) (fun _ _ _ h => h) (Or.inl ⟨by rfl, ?tys15⟩) HQ0.out ?trs15
            case tys15 => (intro w' hSw; (try dsimp only at hSw); go_simp; try with_reducible rfl)
            try simp only [Act.put, List.setIfInBounds_toArray, List.set_cons_zero, List.set_cons_succ]
            refine wpAnyT_take2 16 (v := ?tvs16) (by kernel_rfl) rfl (by kernel_rfl) (fun _ _ _ h => h) (Or.inl ⟨by rfl, ?tys16⟩) HQ0.out ?trs16
            case tys16 => (intro w' hSw; (try dsimp only at hSw); go_simp; try with_reducible rfl)
            try simp only [Act.put, List.setIfInBounds_toArray, List.set_cons_zero, List.set_cons_succ]
            refine wpAnyT_take2 17 (v := ?tvs17) (by kernel_rfl) rfl (by kernel_rfl) (fun _ _ _ h => h) (Or.inl ⟨by rfl, ?tys17⟩) HQ0.out ?trs17
            case tys17 => (intro w' hSw; (try dsimp only at hSw); go_simp; try with_reducible rfl)
            try simp only [Act.put, List.setIfInBounds_toArray, List.set_cons_zero, List.set_cons_succ]
            refine wpAnyT_take2 18 (v := ?tvs18) (by kernel_rfl) rfl (by kernel_rfl) (fun _ _ _ h => h) (Or.inl ⟨by rfl, ?tys18⟩) HQ0.out ?trs18
            case tys18 => (intro w' hSw; (try dsimp only at hSw); go_simp; try with_reducible rfl)
            try simp only [Act.put, List.setIfInBounds_toArray, List.set_cons_zero, List.set_cons_succ]
            refine wpAnyT_take2 19 (v := ?tvs19) (by kernel_rfl) rfl (by kernel_rfl) (fun _ _ _ h => h) (Or.inl ⟨by rfl, ?tys19⟩) HQ0.out ?trs19
            case tys19 => (intro w' hSw; (try dsimp only at hSw); go_simp; try with_reducible rfl)
            try simp only [Act.put, List.setIfInBounds_toArray, List.set_cons_zero, List.set_cons_succ]
            refine wpAnyT_take2 20 (v := ?tvs20) (by kernel_rfl) rfl (by kernel_rfl) (fun _ _ _ h => h) (Or.inl ⟨by rfl, ?tys20⟩) HQ0.out ?trs20
            case tys20 => (intro w' hSw; obtain ⟨⟨p0, p1, p2⟩, ⟨t0, t1, t2⟩, ⟨a00, a01, a02, a03⟩, f0, f1, f2⟩ := HFF.out w' hSw; (try dsimp only at hSw); go_simp; try with_reducible rfl)
            try simp only [Act.put, List.setIfInBounds_toArray, List.set_cons_zero, List.set_cons_succ]
            refine wpAnyT_take2 21 (v := ?tvs21) (by kernel_rfl) rfl (by kernel_rfl) (fun _ _ _ h => h) (Or.inl ⟨by rfl, ?tys21⟩) HQ0.out ?trs21
            case tys21 => (intro w' hSw; (try dsimp only at hSw); go_simp; try with_reducible rfl)
            try simp only [Act.put, List.setIfInBounds_toArray, List.set_cons_zero, List.set_cons_succ]
            refine wpAnyT_take2 22 (v := ?tvs22) (by kernel_rfl) rfl (by kernel_rfl) (fun _ _ _ h => h) (Or.inl ⟨by rfl, ?tys22⟩) HQ0.out ?trs22
            case tys22 => (intro w' hSw; (try dsimp only at hSw); go_simp; try with_reducible rfl)
            try simp only [Act.put, List.setIfInBounds_toArray, List.set_cons_zero, List.set_cons_succ]
            refine wpAnyT_take2 23 (v := ?tvs23) (by kernel_rfl) rfl (by kernel_rfl) (fun _ _ _ h => h) (Or.inl ⟨by rfl, ?tys23⟩) HQ0.out ?trs23
            case tys23 => (intro w' hSw; (try dsimp only at hSw); go_simp; try with_reducible rfl)
            try simp only [Act.put, List.setIfInBounds_toArray, List.set_cons_zero, List.set_cons_succ]
            refine wpAnyT_take2 24 (v := ?tvs24) (by kernel_rfl) rfl (by kernel_rfl) (fun _ _ _ h => h) (Or.inl ⟨by rfl, ?tys24⟩) HQ0.out ?trs24
            case tys24 => (intro w' hSw; (try dsimp only at hSw); go_simp; try with_reducible rfl)
            try simp only [Act.put, List.setIfInBounds_toArray, List.set_cons_zero, List.set_cons_succ]
            refine wpAnyT_take2 25 (v := ?tvs25) (by kernel_rfl) rfl (by kernel_rfl) (fun _ _ _ h => h) (Or.inl ⟨by rfl, ?tys25⟩) HQ0.out ?trs25
            case tys25 => (intro w' hSw; (try dsimp only at hSw); go_simp; try with_reducible rfl)
            try simp only [Act.put, List.setIfInBounds_toArray, List.set_cons_zero, List.set_cons_succ]
            refine wpAnyT_take2 26 (v := ?tvs26) (by kernel_rfl) rfl (by kernel_rfl) (fun _ _ _ h => h) (Or.inl ⟨by rfl, ?tys26⟩) HQ0.out ?trs26
            case tys26 => (intro w' hSw; (try dsimp only at hSw); go_simp; try with_reducible rfl)
            try simp only [Act.put, List.setIfInBounds_toArray, List.set_cons_zero, List.set_cons_succ]
            refine wpAnyT_take2 27 (v := ?tvs27) (by kernel_rfl) rfl (by kernel_rfl) (fun _ _ _ h => h) (Or.inl ⟨by rfl, ?tys27⟩) HQ0.out ?trs27
            case tys27 => (intro w' hSw; obtain ⟨⟨p0, p1, p2⟩, ⟨t0, t1, t2⟩, ⟨a00, a01, a02, a03⟩, f0, f1, f2⟩ := HFF.out w' hSw; (try dsimp only at hSw); go_simp; try with_reducible rfl)
            try simp only [Act.put, List.setIfInBounds_toArray, List.set_cons_zero, List.set_cons_succ]
            refine wpAnyT_take2 28 (v := ?tvs28) (by kernel_rfl) rfl (by kernel_rfl) (fun _ _ _ h => h) (Or.inl ⟨by rfl, ?tys28⟩) HQ0.out ?trs28
            case tys28 => (intro w' hSw; (try dsimp only at hSw); go_simp; try with_reducible rfl)
            try simp only [Act.put, List.setIfInBounds_toArray, List.set_cons_zero, List.set_cons_succ]
            refine wpAnyT_take2 29 (v := ?tvs29) (by kernel_rfl) rfl (by kernel_rfl) (fun _ _ _ h => h) (Or.inl ⟨by rfl, ?tys29⟩) HQ0.out ?trs29
            case tys29 => (intro w' hSw; (try dsimp only at hSw); go_simp; try with_reducible rfl)
            try simp only [Act.put, List.setIfInBounds_toArray, List.set_cons_zero, List.set_cons_succ]
            refine wpAnyT_take2 30 (v := ?tvs30) (by kernel_rfl) rfl (by kernel_rfl) (fun _ _ _ h => h) (Or.inl ⟨by rfl, ?tys30⟩) HQ0.out ?trs30
            case tys30 => (intro w' hSw; obtain ⟨⟨p0, p1, p2⟩, ⟨t0, t1, t2⟩, ⟨a00, a01, a02, a03⟩, f0, f1, f2⟩ := HFF.out w' hSw; (try dsimp only at hSw); go_simp; try with_reducible rfl)
            try simp only [Act.put, List.setIfInBounds_toArray, List.set_cons_zero, List.set_cons_succ]
            refine wpAnyT_take2 31 (v := ?tvs31) (by kernel_rfl) rfl (by kernel_rfl) (fun _ _ _ h => h) (Or.inl ⟨by rfl, ?tys31⟩) HQ0.out ?trs31
            case tys31 => (intro w' hSw; (try dsimp only at hSw); go_simp; try with_reducible rfl)
            try simp only [Act.put, List.setIfInBounds_toArray, List.set_cons_zero, List.set_cons_succ]
            refine wpAnyT_take2 32 (v := ?tvs32) (by kernel_rfl) rfl (by kernel_rfl) (fun _ _ _ h => h) (Or.inl ⟨by rfl, ?tys32⟩) HQ0.out ?trs32
            case tys32 => (intro w' hSw; (try dsimp only at hSw); go_simp; try with_reducible rfl)
            try simp only [Act.put, List.setIfInBounds_toArray, List.set_cons_zero, List.set_cons_succ]
            refine wpAnyT_take2 33 (v := ?tvs33) (by kernel_rfl) rfl (by kernel_rfl) (fun _ _ _ h => h) (Or.inl ⟨by rfl, ?tys33⟩) HQ0.out ?trs33
            case tys33 => (intro w' hSw; (try dsimp only at hSw); go_simp; try with_reducible rfl)
            try simp only [Act.put, List.setIfInBounds_toArray, List.set_cons_zero, List.set_cons_succ]
            refine wpAnyT_take2 34 (v := ?tvs34) (by kernel_rfl) rfl (by kernel_rfl) (fun _ _ _ h => h) (Or.inl ⟨by rfl, ?tys34⟩) HQ0.out ?trs34
            case tys34 => (intro w' hSw; (try dsimp only at hSw); go_simp; try with_reducible rfl)
            try simp only [Act.put, List.setIfInBounds_toArray, List.set_cons_zero, List.set_cons_succ]
            refine wpAnyT_take2 35 (v := ?tvs35) (by kernel_rfl) rfl (by kernel_rfl) (fun _ _ _ h => h) (Or.inl ⟨by rfl, ?tys35⟩) HQ0.out ?trs35
            case tys35 => (intro w' hSw; (try dsimp only at hSw); go_simp; try with_reducible rfl)
            try simp only [Act.put, List.setIfInBounds_toArray, List.set_cons_zero, List.set_cons_succ]
            refine wpAnyT_take2 36 (v := ?tvs36) (by kernel_rfl) rfl (by kernel_rfl) (fun _ _ _ h => h) (Or.inl ⟨by rfl, ?tys36⟩) HQ0.out ?trs36
            case tys36 => (intro w' hSw; obtain ⟨⟨p0, p1, p2⟩, ⟨t0, t1, t2⟩, ⟨a00, a01, a02, a03⟩, f0, f1, f2⟩ := HFF.out w' hSw; (try dsimp only at hSw); go_simp; try with_reducible rfl)
            try simp only [Act.put, List.setIfInBounds_toArray, List.set_cons_zero, List.set_cons_succ]
            refine wpAnyT_take2 37 (v := ?tvs37) (by kernel_rfl) rfl (by kernel_rfl) (fun _ _ _ h => h) (Or.inl ⟨by rfl, ?tys37⟩) HQ0.out ?trs37
            case tys37 => (intro w' hSw; (try dsimp only at hSw); go_simp; try with_reducible rfl)
            try simp only [Act.put, List.setIfInBounds_toArray, List.set_cons_zero, List.set_cons_succ]
            refine wpAnyT_take2 38 (v := ?tvs38) (by kernel_rfl) rfl (by kernel_rfl) (fun _ _ _ h => h) (Or.inl ⟨by rfl, ?tys38⟩) HQ0.out ?trs38
            case tys38 => (intro w' hSw; obtain ⟨⟨p0, p1, p2⟩, ⟨t0, t1, t2⟩, ⟨a00, a01, a02, a03⟩, f0, f1, f2⟩ := HFF.out w' hSw; (try dsimp only at hSw); go_simp; try with_reducible rfl)
            try simp only [Act.put, List.setIfInBounds_toArray, List.set_cons_zero, List.set_cons_succ]
            refine wpAnyT_one2 39 rfl (by kernel_rfl) ?_
            intro K' hK'
            rw [if_pos (by rfl)]
            have HK := Lib.hid hK'
            clear hK'
            go_wp2_with (go_at_call 21; refine (CS.out _).mono ?_; rintro e1 v1 ⟨rfl, hb1⟩)
            have HQ1 := Lib.hid (below_then HQ0.out hb1)
            clear hb1
            as_aux_lemma =>
              refine HK.out _ _ ⟨HQ1.out, ?_⟩
              clear HK K'
              try simp only [Act.put, List.setIfInBounds_toArray, List.set_cons_zero, List.set_cons_succ]
              refine wpAnyT_take2 40 (v := ?tvs40) (by kernel_rfl) rfl (by kernel_rfl) (fun _ _ _ h => h) (Or.inl ⟨by rfl, ?tys40⟩) HQ1.out ?trs40
              case tys40 => (intro w' hSw; (try dsimp only at hSw); go_simp; try with_reducible rfl)
              try simp only [Act.put, List.setIfInBounds_toArray, List.set_cons_zero, List.set_cons_succ]
              refine wpAnyT_take2 41 (v := ?tvs41) (by kernel_rfl) rfl (by kernel_rfl) (fun _ _ _ h => h) (Or.inl ⟨by rfl, ?tys41⟩) HQ1.out ?trs41
              case tys41 => (intro w' hSw; (try dsimp only at hSw); go_simp; try with_reducible rfl)
              try simp only [Act.put, List.setIfInBounds_toArray, List.set_cons_zero, List.set_cons_succ]
              refine wpAnyT_take2 42 (v := ?tvs42) (by kernel_rfl) rfl (by kernel_rfl) (fun _ _ _ h => h) (Or.inl ⟨by rfl, ?tys42⟩) HQ1.out ?trs42
              case tys42 => (intro w' hSw; (try dsimp only at hSw); go_simp; try with_reducible rfl)
              try simp only [Act.put, List.setIfInBounds_toArray, List.set_cons_zero, List.set_cons_succ]
              refine wpAnyT_take2 43 (v := ?tvs43) (by kernel_rfl) rfl (by kernel_rfl) (fun _ _ _ h => h) (Or.inl ⟨by rfl, ?tys43⟩) HQ1.out ?trs43
              case tys43 => (intro w' hSw; (try dsimp only at hSw); go_simp; try with_reducible rfl)
              try simp only [Act.put, List.setIfInBounds_toArray, List.set_cons_zero, List.set_cons_succ]
              refine wpAnyT_take2 44 (v := ?tvs44) (by kernel_rfl) rfl (by kernel_rfl) (fun _ _ _ h => h) (Or.inl ⟨by rfl, ?tys44⟩) HQ1.out ?trs44
              case tys44 => (intro w' hSw; obtain ⟨⟨p0, p1, p2⟩, ⟨t0, t1, t2⟩, ⟨a00, a01, a02, a03⟩, f0, f1, f2⟩ := HFF.out w' hSw; (try dsimp only at hSw); go_simp; try with_reducible rfl)
              try simp only [Act.put, List.setIfInBounds_toArray, List.set_cons_zero, List.set_cons_succ]
              refine wpAnyT_take2 45 (v := ?tvs45) (by kernel_rfl) rfl (by kernel_rfl) (fun _ _ _ h => h) (Or.inl ⟨by rfl, ?tys45⟩) HQ1.out ?trs45
              case tys45 => (intro w' hSw; (try dsimp only at hSw); go_simp; try with_reducible rfl)
              try simp only [Act.put, List.setIfInBounds_toArray, List.set_cons_zero, List.set_cons_succ]
              refine wpAnyT_take2 46 (v := ?tvs46) (by kernel_rfl) rfl (by kernel_rfl) (fun _ _ _ h => h) (Or.inl ⟨by rfl, ?tys46⟩) HQ1.out ?trs46
              case tys46 => (intro w' hSw; (try dsimp only at hSw); go_simp; try with_reducible rfl)
              try simp only [Act.put, List.setIfInBounds_toArray, List.set_cons_zero, List.set_cons_succ]
              refine wpAnyT_take2 47 (v := ?tvs47) (by kernel_rfl) rfl (by kernel_rfl) (fun _ _ _ h => h) (Or.inl ⟨by rfl, ?tys47⟩) HQ1.out ?trs47
              case tys47 => (intro w' hSw; obtain ⟨⟨p0, p1, p2⟩, ⟨t0, t1, t2⟩, ⟨a00, a01, a02, a03⟩, f0, f1, f2⟩ := HFF.out w' hSw; (try dsimp only at hSw); go_simp; try with_reducible rfl)
              try simp only [Act.put, List.setIfInBounds_toArray, List.set_cons_zero, List.set_cons_succ]
              refine wpAnyT_take2 48 (v := ?tvs48) (by kernel_rfl) rfl (by kernel_rfl) (fun _ _ _ h => h) (Or.inl ⟨by rfl, ?tys48⟩) HQ1.out ?trs48
              case tys48 => (intro w' hSw; (try dsimp only at hSw); go_simp; try with_reducible rfl)
              try simp only [Act.put, List.setIfInBounds_toArray, List.set_cons_zero, List.set_cons_succ]
              refine wpAnyT_take2 49 (v := ?tvs49) (by kernel_rfl) rfl (by kernel_rfl) (fun _ _ _ h => h) (Or.inl ⟨by rfl, ?tys49⟩) HQ1.out ?trs49
              case tys49 => (intro w' hSw; (try dsimp only at hSw); go_simp; try with_reducible rfl)
              try simp only [Act.put, List.setIfInBounds_toArray, List.set_cons_zero, List.set_cons_succ]
              refine wpAnyT_take2 50 (v := ?tvs50) (by kernel_rfl) rfl (by kernel_rfl) (fun _ _ _ h => h) (Or.inl ⟨by rfl, ?tys50⟩) HQ1.out ?trs50
              case tys50 => (intro w' hSw; obtain ⟨⟨p0, p1, p2⟩, ⟨t0, t1, t2⟩, ⟨a00, a01, a02, a03⟩, f0, f1, f2⟩ := HFF.out w' hSw; (try dsimp only at hSw); go_simp; try with_reducible rfl)
              try simp only [Act.put, List.setIfInBounds_toArray, List.set_cons_zero, List.set_cons_succ]
              refine wpAnyT_take2 51 (v := ?tvs51) (by kernel_rfl) rfl (by kernel_rfl) (fun _ _ _ h => h) (Or.inl ⟨by rfl, ?tys51⟩) HQ1.out ?trs51
              case tys51 => (intro w' hSw; (try dsimp only at hSw); go_simp; try with_reducible rfl)
              try simp only [Act.put, List.setIfInBounds_toArray, List.set_cons_zero, List.set_cons_succ]
              refine wpAnyT_take2 52 (v := ?tvs52) (by kernel_rfl) rfl (by kernel_rfl) (fun _ _ _ h => h) (Or.inl ⟨by rfl, ?tys52⟩) HQ1.out ?trs52
              case tys52 => (intro w' hSw; (try dsimp only at hSw); go_simp; try with_reducible rfl)
              try simp only [Act.put, List.setIfInBounds_toArray, List.set_cons_zero, List.set_cons_succ]
              refine wpAnyT_take2 53 (v := ?tvs53) (by kernel_rfl) rfl (by kernel_rfl) (fun _ _ _ h => h) (Or.inl ⟨by rfl, ?tys53⟩) HQ1.out ?trs53
              case tys53 => (intro w' hSw; (try dsimp only at hSw); go_simp; try with_reducible rfl)
              try simp only [Act.put, List.setIfInBounds_toArray, List.set_cons_zero, List.set_cons_succ]
              refine wpAnyT_take2 54 (v := ?tvs54) (by kernel_rfl) rfl (by kernel_rfl) (fun _ _ _ h => h) (Or.inl ⟨by rfl, ?tys54⟩) HQ1.out ?trs54
              case tys54 => (intro w' hSw; (try dsimp only at hSw); go_simp; try with_reducible rfl)
              try simp only [Act.put, List.setIfInBounds_toArray, List.set_cons_zero, List.set_cons_succ]
              refine wpAnyT_take2 55 (v := ?tvs55) (by kernel_rfl) rfl (by kernel_rfl) (fun _ _ _ h => h) (Or.inl ⟨by rfl, ?tys55⟩) HQ1.out ?trs55
              case tys55 => (intro w' hSw; (try dsimp only at hSw); go_simp; try with_reducible rfl)
              try simp only [Act.put, List.setIfInBounds_toArray, List.set_cons_zero, List.set_cons_succ]
              refine wpAnyT_take2 56 (v := ?tvs56) (by kernel_rfl) rfl (by kernel_rfl) (fun _ _ _ h => h) (Or.inl ⟨by rfl, ?tys56⟩) HQ1.out ?trs56
              case tys56 => (intro w' hSw; (try dsimp only at hSw); go_simp; try with_reducible rfl)
              try simp only [Act.put, List.setIfInBounds_toArray, List.set_cons_zero, List.set_cons_succ]
              refine wpAnyT_take2 57 (v := ?tvs57) (by kernel_rfl) rfl (by kernel_rfl) (fun _ _ _ h => h) (Or.inl ⟨by rfl, ?tys57⟩) HQ1.out ?trs57
              case tys57 => (intro w' hSw; obtain ⟨⟨p0, p1, p2⟩, ⟨t0, t1, t2⟩, ⟨a00, a01, a02, a03⟩, f0, f1, f2⟩ := HFF.out w' hSw; (try dsimp only at hSw); go_simp; try with_reducible rfl)
              try simp only [Act.put, List.setIfInBounds_toArray, List.set_cons_zero, List.set_cons_succ]
              refine wpAnyT_take2 58 (v := ?tvs58) (by kernel_rfl) rfl (by kernel_rfl) (fun _ _ _ h => h) (Or.inl ⟨by rfl, ?tys58⟩) HQ1.out ?trs58
              case tys58 => (intro w' hSw; (try dsimp only at hSw); go_simp; try with_reducible rfl)
              try simp only [Act.put, List.setIfInBounds_toArray, List.set_cons_zero, List.set_cons_succ]
              refine wpAnyT_take2 59 (v := ?tvs59) (by kernel_rfl) rfl (by kernel_rfl) (fun _ _ _ h => h) (Or.inl ⟨by rfl, ?tys59⟩) HQ1.out ?trs59
              case tys59 => (intro w' hSw; (try dsimp only at hSw); go_simp; try with_reducible rfl)
              try simp only [Act.put, List.setIfInBounds_toArray, List.set_cons_zero, List.set_cons_succ]
              refine wpAnyT_take2 60 (v := ?tvs60) (by kernel_rfl) rfl (by kernel_rfl) (fun _ _ _ h => h) (Or.inl ⟨by rfl, ?tys60⟩) HQ1.out ?trs60
              case tys60 => (intro w' hSw; obtain ⟨⟨p0, p1, p2⟩, ⟨t0, t1, t2⟩, ⟨a00, a01, a02, a03⟩, f0, f1, f2⟩ := HFF.out w' hSw; (try dsimp only at hSw); go_simp; try with_reducible rfl)
              try simp only [Act.put, List.setIfInBounds_toArray, List.set_cons_zero, List.set_cons_succ]
              refine wpAnyT_take2 61 (v := ?tvs61) (by kernel_rfl) rfl (by kernel_rfl) (fun _ _ _ h => h) (Or.inl ⟨by rfl, ?tys61⟩) HQ1.out ?trs61
              case tys61 => (intro w' hSw; (try dsimp only at hSw); go_simp; try with_reducible rfl)
              try simp only [Act.put, List.setIfInBounds_toArray, List.set_cons_zero, List.set_cons_succ]
              refine wpAnyT_take2 62 (v := ?tvs62) (by kernel_rfl) rfl (by kernel_rfl) (fun _ _ _ h => h) (Or.inl ⟨by rfl, ?tys62⟩) HQ1.out ?trs62
              case tys62 => (intro w' hSw; (try dsimp only at hSw); go_simp; try with_reducible rfl)
              try simp only [Act.put, List.setIfInBounds_toArray, List.set_cons_zero, List.set_cons_succ]
              refine wpAnyT_take2 63 (v := ?tvs63) (by kernel_rfl) rfl (by kernel_rfl) (fun _ _ _ h => h) (Or.inl ⟨by rfl, ?tys63⟩) HQ1.out ?trs63
              case tys63 => (intro w' hSw; (try dsimp only at hSw); go_simp; try with_reducible rfl)
              try simp only [Act.put, List.setIfInBounds_toArray, List.set_cons_zero, List.set_cons_succ]
              refine wpAnyT_take2 64 (v := ?tvs64) (by kernel_rfl) rfl (by kernel_rfl) (fun _ _ _ h => h) (Or.inl ⟨by rfl, ?tys64⟩) HQ1.out ?trs64
              case tys64 => (intro w' hSw; (try dsimp only at hSw); go_simp; try with_reducible rfl)
              try simp only [Act.put, List.setIfInBounds_toArray, List.set_cons_zero, List.set_cons_succ]
              refine wpAnyT_take2 65 (v := ?tvs65) (by kernel_rfl) rfl (by kernel_rfl) (fun _ _ _ h => h) (Or.inl ⟨by rfl, ?tys65⟩) HQ1.out ?trs65
              case tys65 => (intro w' hSw; obtain ⟨⟨p0, p1, p2⟩, ⟨t0, t1, t2⟩, ⟨a00, a01, a02, a03⟩, f0, f1, f2⟩ := HFF.out w' hSw; (try dsimp only at hSw); go_simp; try with_reducible rfl)
              try simp only [Act.put, List.setIfInBounds_toArray, List.set_cons_zero, List.set_cons_succ]
              refine wpAnyT_take2 67 (v := ?tvs67) (by kernel_rfl) rfl (by kernel_rfl) (fun _ _ _ h => h) (Or.inl ⟨by rfl, ?tys67⟩) HQ1.out ?trs67
              case tys67 => (intro w' hSw; (try dsimp only at hSw); go_simp; try with_reducible rfl)
              try simp only [Act.put, List.setIfInBounds_toArray, List.set_cons_zero, List.set_cons_succ]
              refine wpAnyT_take2 68 (v := ?tvs68) (by kernel_rfl) rfl (by kernel_rfl) (fun _ _ _ h => h) (Or.inl ⟨by rfl, ?tys68⟩) HQ1.out ?trs68
              case tys68 => (intro w' hSw; obtain ⟨⟨p0, p1, p2⟩, ⟨t0, t1, t2⟩, ⟨a00, a01, a02, a03⟩, f0, f1, f2⟩ := HFF.out w' hSw; (try dsimp only at hSw); go_simp; try with_reducible rfl)
              try simp only [Act.put, List.setIfInBounds_toArray, List.set_cons_zero, List.set_cons_succ]
              refine wpAnyT_take2 69 (v := ?tvs69) (by kernel_rfl) rfl (by kernel_rfl) (fun _ _ _ h => h) (Or.inl ⟨by rfl, ?tys69⟩) HQ1.out ?trs69
              case tys69 => (intro w' hSw; (try dsimp only at hSw); go_simp; try with_reducible rfl)
              try simp only [Act.put, List.setIfInBounds_toArray, List.set_cons_zero, List.set_cons_succ]
              refine wpAnyT_take2 70 (v := ?tvs70) (by kernel_rfl) rfl (by kernel_rfl) (fun _ _ _ h => h) (Or.inl ⟨by rfl, ?tys70⟩) HQ1.out ?trs70
              case tys70 => (intro w' hSw; (try dsimp only at hSw); go_simp; try with_reducible rfl)
              try simp only [Act.put, List.setIfInBounds_toArray, List.set_cons_zero, List.set_cons_succ]
              refine wpAnyT_take2 71 (v := ?tvs71) (by kernel_rfl) rfl (by kernel_rfl) (fun _ _ _ h => h) (Or.inl ⟨by rfl, ?tys71⟩) HQ1.out ?trs71
              case tys71 => (intro w' hSw; (try dsimp only at hSw); go_simp; try with_reducible rfl)
              try simp only [Act.put, List.setIfInBounds_toArray, List.set_cons_zero, List.set_cons_succ]
              refine wpAnyT_take2 72 (v := ?tvs72) (by kernel_rfl) rfl (by kernel_rfl) (fun _ _ _ h => h) (Or.inl ⟨by rfl, ?tys72⟩) HQ1.out ?trs72
              case tys72 => (intro w' hSw; (try dsimp only at hSw); go_simp; try with_reducible rfl)
              try simp only [Act.put, List.setIfInBounds_toArray, List.set_cons_zero, List.set_cons_succ]
              refine wpAnyT_take2 73 (v := ?tvs73) (by kernel_rfl) rfl (by kernel_rfl) (fun _ _ _ h => h) (Or.inl ⟨by rfl, ?tys73⟩) HQ1.out ?trs73
              case tys73 => (intro w' hSw; (try dsimp only at hSw); go_simp; try with_reducible rfl)
              try simp only [Act.put, List.setIfInBounds_toArray, List.set_cons_zero, List.set_cons_succ]
              refine wpAnyT_take2 74 (v := ?tvs74) (by kernel_rfl) rfl (by kernel_rfl) (fun _ _ _ h => h) (Or.inl ⟨by rfl, ?tys74⟩) HQ1.out ?trs74
              case tys74 => (intro w' hSw; (try dsimp only at hSw); go_simp; try with_reducible rfl)
              try simp only [Act.put, List.setIfInBounds_toArray, List.set_cons_zero, List.set_cons_succ]
              refine wpAnyT_take2 75 (v := ?tvs75) (by kernel_rfl) rfl (by kernel_rfl) (fun _ _ _ h => h) (Or.inl ⟨by rfl, ?tys75⟩) HQ1.out ?trs75
              case tys75 => (intro w' hSw; obtain ⟨⟨p0, p1, p2⟩, ⟨t0, t1, t2⟩, ⟨a00, a01, a02, a03⟩, f0, f1, f2⟩ := HFF.out w' hSw; (try dsimp only at hSw); go_simp; try with_reducible rfl)
              try simp only [Act.put, List.setIfInBounds_toArray, List.set_cons_zero, List.set_cons_succ]
              refine wpAnyT_take2 76 (v := ?tvs76) (by kernel_rfl) rfl (by kernel_rfl) (fun _ _ _ h => h) (Or.inl ⟨by rfl, ?tys76⟩) HQ1.out ?trs76
              case tys76 => (intro w' hSw; (try dsimp only at hSw); go_simp; try with_reducible rfl)
              try simp only [Act.put, List.setIfInBounds_toArray, List.set_cons_zero, List.set_cons_succ]
              refine wpAnyT_take2 77 (v := ?tvs77) (by kernel_rfl) rfl (by kernel_rfl) (fun _ _ _ h => h) (Or.inl ⟨by rfl, ?tys77⟩) HQ1.out ?trs77
              case tys77 => (intro w' hSw; (try dsimp only at hSw); go_simp; try with_reducible rfl)
              try simp only [Act.put, List.setIfInBounds_toArray, List.set_cons_zero, List.set_cons_succ]
              refine wpAnyT_take2 78 (v := ?tvs78) (by kernel_rfl) rfl (by kernel_rfl) (fun _ _ _ h => h) (Or.inl ⟨by rfl, ?tys78⟩) HQ1.out ?trs78
              case tys78 => (intro w' hSw; (try dsimp only at hSw); go_simp; try with_reducible rfl)
              try simp only [Act.put, List.setIfInBounds_toArray, List.set_cons_zero, List.set_cons_succ]
              refine wpAnyT_one2 66 rfl (by kernel_rfl) ?_
              intro K' hK'
              rw [if_pos (by rfl)]
              have HK := Lib.hid hK'
              clear hK'
              go_wp2_with (go_at_call 22; refine (CW.out _).mono ?_; rintro e2 v2 ⟨rfl, hb2⟩)
              have HQ2 := Lib.hid (below_then HQ1.out hb2)
              clear hb2
              as_aux_lemma =>
                refine HK.out _ _ ⟨HQ2.out, ?_⟩
                clear HK K'
                try simp only [Act.put, List.setIfInBounds_toArray, List.set_cons_zero, List.set_cons_succ]
                refine wpAnyT_take2 79 (v := ?tvs79) (by kernel_rfl) rfl (by kernel_rfl) (fun _ _ _ h => h) (Or.inl ⟨by rfl, ?tys79⟩) HQ2.out ?trs79
                case tys79 => (intro w' hSw; (try dsimp only at hSw); go_simp; try with_reducible rfl)
                try simp only [Act.put, List.setIfInBounds_toArray, List.set_cons_zero, List.set_cons_succ]
                refine wpAnyT_take2 80 (v := ?tvs80) (by kernel_rfl) rfl (by kernel_rfl) (fun _ _ _ h => h) (Or.inl ⟨by rfl, ?tys80⟩) HQ2.out ?trs80
                case tys80 => (intro w' hSw; (try dsimp only at hSw); go_simp; try with_reducible rfl)
                try simp only [Act.put, List.setIfInBounds_toArray, List.set_cons_zero, List.set_cons_succ]
                refine ⟨by kernel_rfl, ?_⟩
                change wpList _ _ _ [_] _ _
                go_wp2
                refine NoPanic.normal ?_
                go_wp2
                go_ret
                exact ⟨rfl, HB6.out.trans (HQ2.out.mono HB6.out.size)⟩
end Go.Proofs.Ytbbcdebjkedepaa
