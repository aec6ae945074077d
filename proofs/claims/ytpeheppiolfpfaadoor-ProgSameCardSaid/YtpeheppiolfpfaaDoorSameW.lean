/- ProgSame: the walk. Conditions: what each lemma says. -/
import Derived.Test.YtpeheppiolfpfaaDoorLawA
import Derived.Deep.CutBlock
set_option linter.unusedVariables false
set_option linter.unusedSimpArgs false
namespace Go.Proofs.YtpeheppiolfpfaaDoor
open Go.RowKit Go.Lib Go.ChangeShapes
open Plain (Rg May mayB In Norm In4 slotsOf insB bnd riB cls cnot rightB normB nextL Rch cntA RInv small putL lineL)
theorem own_fr {w : World} {base g n c sz : Nat} {e : TypeId} {xs : List Value} (h : w.ownsRow base e sz (.slice (some ⟨g, 0, none⟩) n c) n xs) (j : Nat) : w.frozen? ⟨g, j, none⟩ = false := by
  rcases h.2 with ⟨hv, _⟩ | ⟨g', cap, cur, hv, _, hh, _⟩
  · cases hv
  · injection hv with h1
    injection h1 with h1; injection h1 with h1; subst h1
    exact blk_frozen hh j
set_option maxRecDepth 1000000 in
set_option maxHeartbeats 8000000 in
theorem same_w (PI PC LA : Option Addr) (PL : List In4) (PK : List Cs) (pic pcc lc : Nat) (pg : Int) (own : Bool) (L : List Int) (g : Int) (at_ : Int) (W : World) (hC : CodeAt W PI PL PC PK pg LA L g) (ha0 : 0 ≤ at_) (ha1 : at_ < 256) :
    Calls Tryd.prog 8 #[.agg #[.slice PI PL.length pic, .slice PC PK.length pcc, .int .i64 pg, .bool own, .slice LA L.length lc, .int .u8 g], .int .u8 at_] W fun e w' => e = .returned (.bool true) ∧ Below W.heap.size W w' := by
  have HC := Lib.hid hC
  have CE := Lib.hid (fun W => examples_any W)
  obtain ⟨n, hn⟩ : ∃ n, L.length = n := ⟨_, rfl⟩
  obtain ⟨pn, hpn⟩ : ∃ n, PL.length = n := ⟨_, rfl⟩
  obtain ⟨pk, hpk⟩ : ∃ n, PK.length = n := ⟨_, rfl⟩
  have CC := Lib.hid (fun (w : World) (h : Below W.heap.size W w) => code_own PI PC LA PL.length pic PK.length pcc lc pg g L w hC.g0 hC.g1 (hC.l.below h) hC.ll hC.lb)
  rw [hn, hpn, hpk] at CC ⊢
  clear hC hn hpn hpk
  obtain ⟨i84, hi84, y0, y1, y2⟩ := info_parts info84
  go_enter Tryd.func8, Tryd.ntmps8
  go_wp2_with fail
  have HB0 := Lib.hid (below_alloc (Below.refl W.heap.size W) (.cells #[.slice PI pn pic, .slice PC pk pcc, .int .i64 pg, .bool own, .slice LA n lc, .int .u8 g] 28))
  have hX := heap_alloc_new2 W (.cells #[.slice PI pn pic, .slice PC pk pcc, .int .i64 pg, .bool own, .slice LA n lc, .int .u8 g] 28) W.heap.size _ rfl
  refine (CE.out _).mono ?_
  rintro e1 w1 ⟨rfl, hb⟩
  have HB1 := Lib.hid (below_then HB0.out hb)
  have hX1 := blk_later hX hb
  have hlw := lt_of_some hX1
  have f3 := blk_frozen hX1 3
  have hc1 : CellsAt w1 W.heap.size [.slice PI pn pic, .slice PC pk pcc, .int .i64 pg, .bool own, .slice LA n lc, .int .u8 g] := ⟨hlw, fun j u hu => by rw [cell_of_row _ _ _ _ _ _ hX1]; simpa using hu⟩
  have x0 := hc1.at_ 0 _ rfl
  have x1 := hc1.at_ 1 _ rfl
  have x2 := hc1.at_ 2 _ rfl
  have x3 := hc1.at_ 3 _ rfl
  have x4 := hc1.at_ 4 _ rfl
  have x5 := hc1.at_ 5 _ rfl
  have HBS := Lib.hid (HB1.out.setCell (p := ⟨W.heap.size, 3, none⟩) (Nat.le_refl _) (.bool true))
  clear hb hX hc1 hX1
  go_wp2_with fail
  clear x0 x1 x2 x3 x4 x5 f3 hlw
  obtain ⟨w2, hw2⟩ : ∃ W0, w1.setCell ⟨W.heap.size, 3, none⟩ (.bool true) = W0 := ⟨_, rfl⟩
  rw [hw2] at HBS ⊢
  clear hw2
  refine (CC.out _ HBS.out).mono ?_
  rintro e2 w3 ⟨I, c, gc, K, rfl, hO, hP, hK, hb⟩
  unfold pgV
  have hm' := codeLn_len L g
  obtain ⟨LL, hLL⟩ : ∃ x, codeLn L g = x := ⟨_, rfl⟩
  have hmem := codeLn_mem L g HC.out.g0 HC.out.lb
  rw [hLL] at hO hP hm' hmem ⊢
  obtain ⟨m, hm⟩ : ∃ m, LL.length = m := ⟨_, rfl⟩
  have hm1 : 1 ≤ m ∧ m ≤ 15 := by omega
  rw [hm] at hO ⊢
  obtain ⟨gI, cI, hv, hmc, hgI, hcI⟩ := own_at hO hm1.1
  injection hv with hv1 hv2 hv3
  subst hv1 hv3
  obtain ⟨gq, hgq⟩ : ∃ x, g % 3 = x := ⟨_, rfl⟩
  have hgq0 : 0 ≤ gq ∧ gq ≤ 2 := by have := HC.out.g0; omega
  rw [hgq] at hmem ⊢
  have HB3 := Lib.hid (below_then HBS.out hb)
  have HP3 := Lib.hid hP
  have HO3 := Lib.hid hO
  have HCI := Lib.hid hcI
  have HM := Lib.hid hm
  have HMEM := Lib.hid hmem
  have HKR := Lib.hid hK
  clear hP hO hcI hm hmem hK hb hgq hLL hm' HC
  go_upto_region 6 with fail
  have hBp := (Below.refl w3.heap.size w3).alloc (Nat.le_refl _) (.cells #[.slice (some ⟨gI, 0, none⟩) m c, .slice (some ⟨gc, 0, none⟩) 3 3, .int .i64 gq] 25)
  have hxp := heap_alloc_new2 w3 (.cells #[.slice (some ⟨gI, 0, none⟩) m c, .slice (some ⟨gc, 0, none⟩) 3 3, .int .i64 gq] 25) w3.heap.size _ rfl
  obtain ⟨wp, hwp⟩ : ∃ W0, w3.alloc (.cells #[.slice (some ⟨gI, 0, none⟩) m c, .slice (some ⟨gc, 0, none⟩) 3 3, .int .i64 gq] 25) = W0 := ⟨_, rfl⟩
  rw [hwp] at hBp hxp ⊢
  obtain ⟨gp, hgp⟩ : ∃ x, w3.heap.size = x := ⟨_, rfl⟩
  have hgpW : W.heap.size ≤ gp := by rw [← hgp]; exact HB3.out.size
  have HPp := Lib.hid (HP3.out.below hBp)
  have HBp := Lib.hid (below_then HB3.out hBp)
  have HBp0 := Lib.hid HBp.out
  have HCp := Lib.hid (HCI.out.below hBp)
  rw [hgp] at hxp ⊢
  have HXp := Lib.hid hxp
  clear hBp hxp hwp hgp HP3 HO3 HCI HB3
  obtain ⟨p0, p1, p2⟩ := blk_cells3 HXp.out
  go_wp2_with (at_builtin; refine wpList_append_own2 _ rfl (.const (.slice none 0 0)) (.tmp 20) _ rfl W.heap.size 30 i84 _ 4 32 Tryd.underlying22 hi84 y0 y1 y2 rfl (by decide) (.slice none 0 0) 0 [] rfl (World.ownsRow_nil _ _ _ _) ⟨gI, 0, none⟩ m c (i4s LL) rfl (by rw [i4s_len, HM.out]) (CellsAt_add HCp.out) ?c1 ?c2 ?c3 ?c4 ?_)
  case c1 => (intro u hu; unfold i4s i4c at hu; simp only [List.mem_flatMap, List.mem_cons, List.not_mem_nil, or_false] at hu; obtain ⟨t, _, h⟩ := hu; rcases h with rfl | rfl | rfl | rfl <;> rfl)
  case c2 => simp only [maxLen]; omega
  case c3 => omega
  case c4 => exact HBp.out.size
  intro v4 w4 hown hgr hvb
  obtain ⟨gl, cl, rfl, hmcl, hgl, hcl⟩ := own_at hown hm1.1
  have hbl : Below wp.heap.size wp w4 := ⟨hgr.os, hgr.tape, hgr.output, hgr.size, fun k hk => hgr.block k hk (by simp [Value.ownBlock])⟩
  have hgl2 : wp.heap.size ≤ gl := by
    rcases hvb with e | e
    · simp [Value.ownBlock] at e
    · simp [Value.ownBlock] at e; omega
  have HX4 := Lib.hid (blk_later HXp.out hbl)
  have HP4 := Lib.hid (HPp.out.below hbl)
  have HB4 := Lib.hid (below_then HBp.out hbl)
  have HL4 := Lib.hid hcl
  have HBL := Lib.hid hbl
  have HPP := Lib.hid HPp.out
  have HXP := Lib.hid HXp.out
  have hgpl : gp < wp.heap.size := lt_of_some HXp.out
  have hfr := own_fr hown
  clear hown hgr hvb hcl hbl hgl p0 p1 p2 HPp HBp HCp HXp
  obtain ⟨k, hk⟩ : ∃ k : Nat, at_ % (m : Int) = k := ⟨(at_ % (m : Int)).toNat, by have := Int.emod_nonneg at_ (show (m : Int) ≠ 0 by omega); omega⟩
  have hkm : k < m := by have := Int.emod_lt_of_pos at_ (show (0 : Int) < m by omega); omega
  have hkt : Int.tmod at_ (m : Int) = k := by rw [Int.tmod_eq_emod_of_nonneg ha0]; exact hk
  have hkL : k < LL.length := by rw [HM.out]; exact hkm
  obtain ⟨t, ht⟩ : ∃ t, LL[k] = t := ⟨_, rfl⟩
  have hts := (HMEM.out t (by rw [← ht]; exact List.getElem_mem hkL)).1
  have hga := i4s_get LL k t (by rw [List.getElem?_eq_getElem hkL, ht])
  have a3 := HL4.out.2 _ _ hga.2.2.2
  have hl3 : k * 4 + 3 < (i4s LL).length := by rw [i4s_len]; omega
  obtain ⟨tar, htar⟩ : ∃ x, t.2.2.2 = x := ⟨_, rfl⟩
  have htb : 0 ≤ tar ∧ tar < 100 := by rw [← htar]; exact hts.2.2.2
  rw [htar] at a3
  have hLs := i4s_set LL k t (tar + 1) (by rw [List.getElem?_eq_getElem hkL, ht])
  have hL5 := sl_set HL4.out (k * 4 + 3) hl3 (.int .i64 (tar + 1))
  rw [← hLs] at hL5
  have hneL : LL.set k (t.1, t.2.1, t.2.2.1, tar + 1) ≠ LL := fun e => by
    have h1 := congrArg (fun l => l[k]?) e
    simp only [List.getElem?_set_self hkL, List.getElem?_eq_getElem hkL, ht] at h1
    injection h1 with h1
    have h2 := congrArg (fun t : In4 => t.2.2.2) h1
    dsimp only at h2
    omega
  have f3 : w4.frozen? ⟨gl, k * 4 + 3, none⟩ = false := hfr _
  have i0 : (0 : Int) ≤ (k : Int) := by omega
  have i1 : (k : Int) < (m : Int) := by omega
  go_upto_region 8 with fail
  go_upto_region 9 with fail
  obtain ⟨w5, hw5⟩ : ∃ W0, w4.setCell ⟨gl, k * 4 + 3, none⟩ (.int .i64 (tar + 1)) = W0 := ⟨_, rfl⟩
  have hb5 : Below wp.heap.size wp w5 := by rw [← hw5]; exact HBL.out.setCell hgl2 _
  have hb5W : Below W.heap.size W w5 := by rw [← hw5]; exact HB4.out.setCell (Nat.le_trans HBp0.out.size hgl2) _
  rw [hw5] at hL5 ⊢
  have HX5 := Lib.hid (blk_later HXP.out hb5)
  have HP5 := Lib.hid (HPP.out.below hb5)
  have HB5 := Lib.hid hb5W
  have HL5 := Lib.hid hL5
  obtain ⟨L2, hL2⟩ : ∃ x, LL.set k (t.1, t.2.1, t.2.2.1, tar + 1) = x := ⟨_, rfl⟩
  rw [hL2] at HL5 hneL
  have HNE := Lib.hid hneL
  have HLEN2 := Lib.hid (show L2.length = m by rw [← hL2, List.length_set, HM.out])
  clear hb5 hb5W hw5 hL5 hL2 hneL a3 f3 hfr htb hts htar ht hga hl3 hLs HX4 HP4 HB4 HL4 HBL hk hkt
  obtain ⟨p0, p1, p2⟩ := blk_cells3 HX5.out
  go_upto_region 10 with fail
  obtain ⟨wq, hwq⟩ : ∃ W0, w5.alloc (.cells #[.slice (some ⟨gl, 0, none⟩) m cl, .slice (some ⟨gc, 0, none⟩) 3 3, .int .i64 gq] 25) = W0 := ⟨_, rfl⟩
  obtain ⟨ga, hga⟩ : ∃ x, w5.heap.size = x := ⟨_, rfl⟩
  have hbq : Below w5.heap.size w5 wq := by rw [← hwq]; exact (Below.refl _ _).alloc (Nat.le_refl _) _
  have hxa : wq.heap[ga]? = some (.cells #[.slice (some ⟨gl, 0, none⟩) m cl, .slice (some ⟨gc, 0, none⟩) 3 3, .int .i64 gq] 25 (0, 0)) := by rw [← hwq]; exact heap_alloc_new2 _ _ _ _ hga.symm
  rw [hwq, hga]
  have HXa := Lib.hid hxa
  have HXq := Lib.hid (blk_later HX5.out hbq)
  have HPq := Lib.hid (HP5.out.below hbq)
  have HLq := Lib.hid (HL5.out.below hbq)
  have HBQ := Lib.hid (below_then HB5.out hbq)
  clear hbq hxa hwq hga HX5 HP5 HL5 HB5 p0 p1 p2
  have HFq := Lib.hid (fun (w' : World) (hw : Below wq.heap.size wq w') => blk_cells3 (blk_later HXq.out hw))
  have HBq := Lib.hid (Below.drew (Below.refl wq.heap.size wq))
  have hw2 : IntKind.i64.wrap 2 = 2 := by decide
  refine wp_region_noPanic ?_
  refine wp_region_T 13 (S := fun w' : World => Below wq.heap.size wq w') (by kernel_rfl) (by decide) ?_
  refine wpAnyT_take2 0 (v := ?tvs0) (by kernel_rfl) rfl (by kernel_rfl) (fun _ _ _ h => h) (Or.inl ⟨by rfl, ?tys0⟩) HBq.out ?trs0
  case tys0 => (intro w' hSw; (try dsimp only at hSw); go_simp; try with_reducible rfl)
  try simp only [Act.put, List.setIfInBounds_toArray, List.set_cons_zero, List.set_cons_succ]
  refine wpAnyT_take2 1 (v := ?tvs1) (by kernel_rfl) rfl (by kernel_rfl) (fun _ _ _ h => h) (Or.inl ⟨by rfl, ?tys1⟩) HBq.out ?trs1
  case tys1 => (intro w' hSw; obtain ⟨f0, f1, f2⟩ := HFq.out w' hSw; (try dsimp only at hSw); go_simp; try with_reducible rfl)
  try simp only [Act.put, List.setIfInBounds_toArray, List.set_cons_zero, List.set_cons_succ]
  refine wpAnyT_take2 2 (v := ?tvs2) (by kernel_rfl) rfl (by kernel_rfl) (fun _ _ _ h => h) (Or.inl ⟨by rfl, ?tys2⟩) HBq.out ?trs2
  case tys2 => (intro w' hSw; (try dsimp only at hSw); go_simp; try with_reducible rfl)
  try simp only [Act.put, List.setIfInBounds_toArray, List.set_cons_zero, List.set_cons_succ]
  refine wpAnyT_take2 3 (v := ?tvs3) (by kernel_rfl) rfl (by kernel_rfl) (fun _ _ _ h => h) (Or.inl ⟨by rfl, ?tys3⟩) HBq.out ?trs3
  case tys3 => (intro w' hSw; obtain ⟨f0, f1, f2⟩ := HFq.out w' hSw; (try dsimp only at hSw); go_simp; try with_reducible rfl)
  try simp only [Act.put, List.setIfInBounds_toArray, List.set_cons_zero, List.set_cons_succ]
  refine wpAnyT_take2 4 (v := ?tvs4) (by kernel_rfl) rfl (by kernel_rfl) (fun _ _ _ h => h) (Or.inl ⟨by rfl, ?tys4⟩) HBq.out ?trs4
  case tys4 => (intro w' hSw; (try dsimp only at hSw); go_simp; try with_reducible rfl)
  try simp only [Act.put, List.setIfInBounds_toArray, List.set_cons_zero, List.set_cons_succ]
  refine wpAnyT_take2 5 (v := ?tvs5) (by kernel_rfl) rfl (by kernel_rfl) (fun _ _ _ h => h) (Or.inl ⟨by rfl, ?tys5⟩) HBq.out ?trs5
  case tys5 => (intro w' hSw; obtain ⟨f0, f1, f2⟩ := HFq.out w' hSw; (try dsimp only at hSw); go_simp; try with_reducible rfl)
  try simp only [Act.put, List.setIfInBounds_toArray, List.set_cons_zero, List.set_cons_succ]
  refine wpAnyT_take2 6 (v := ?tvs6) (by kernel_rfl) rfl (by kernel_rfl) (fun _ _ _ h => h) (Or.inl ⟨by rfl, ?tys6⟩) HBq.out ?trs6
  case tys6 => (intro w' hSw; (try dsimp only at hSw); go_simp; try with_reducible rfl)
  try simp only [Act.put, List.setIfInBounds_toArray, List.set_cons_zero, List.set_cons_succ]
  refine wpAnyT_take2 7 (v := ?tvs7) (by kernel_rfl) rfl (by kernel_rfl) (fun _ _ _ h => h) (Or.inl ⟨by rfl, ?tys7⟩) HBq.out ?trs7
  case tys7 => (intro w' hSw; (try dsimp only at hSw); go_simp; try with_reducible rfl)
  try simp only [Act.put, List.setIfInBounds_toArray, List.set_cons_zero, List.set_cons_succ]
  refine wpAnyT_take2 8 (v := ?tvs8) (by kernel_rfl) rfl (by kernel_rfl) (fun _ _ _ h => h) (Or.inl ⟨by rfl, ?tys8⟩) HBq.out ?trs8
  case tys8 => (intro w' hSw; (try dsimp only at hSw); go_simp; try with_reducible rfl)
  try simp only [Act.put, List.setIfInBounds_toArray, List.set_cons_zero, List.set_cons_succ]
  refine wpAnyT_take2 9 (v := ?tvs9) (by kernel_rfl) rfl (by kernel_rfl) (fun _ _ _ h => h) (Or.inl ⟨by rfl, ?tys9⟩) HBq.out ?trs9
  case tys9 => (intro w' hSw; (try dsimp only at hSw); go_simp; try with_reducible rfl)
  try simp only [Act.put, List.setIfInBounds_toArray, List.set_cons_zero, List.set_cons_succ]
  refine wpAnyT_take2 10 (v := ?tvs10) (by kernel_rfl) rfl (by kernel_rfl) (fun _ _ _ h => h) (Or.inl ⟨by rfl, ?tys10⟩) HBq.out ?trs10
  case tys10 => (intro w' hSw; obtain ⟨f0, f1, f2⟩ := HFq.out w' hSw; (try dsimp only at hSw); go_simp; try with_reducible rfl)
  try simp only [Act.put, List.setIfInBounds_toArray, List.set_cons_zero, List.set_cons_succ]
  refine wpAnyT_take2 11 (v := ?tvs11) (by kernel_rfl) rfl (by kernel_rfl) (fun _ _ _ h => h) (Or.inl ⟨by rfl, ?tys11⟩) HBq.out ?trs11
  case tys11 => (intro w' hSw; (try dsimp only at hSw); go_simp; try with_reducible rfl)
  try simp only [Act.put, List.setIfInBounds_toArray, List.set_cons_zero, List.set_cons_succ]
  refine wpAnyT_one2 12 rfl (by kernel_rfl) ?_
  intro K' hK'
  rw [if_pos (by rfl)]
  have HK := Lib.hid hK'
  clear hK'
  go_simp
  refine HK.out _ _ ⟨below_alloc HBq.out _, ?_⟩
  clear HK K'
  try simp only [Act.put, List.setIfInBounds_toArray, List.set_cons_zero, List.set_cons_succ]
  refine ⟨by kernel_rfl, ?_⟩
  change wpList _ _ _ [_] _ _
  go_wp2
  refine NoPanic.normal ?_
  go_upto_region 11 with fail
  obtain ⟨wr, hwr⟩ : ∃ W0, (wq.alloc (.cells #[.slice (some ⟨gI, 0, none⟩) m c, .slice (some ⟨gc, 0, none⟩) 2 3, .int .i64 gq] 25)).drew = W0 := ⟨_, rfl⟩
  obtain ⟨gb, hgb⟩ : ∃ x, wq.heap.size = x := ⟨_, rfl⟩
  have hbr : Below wq.heap.size wq wr := by rw [← hwr]; exact ((Below.refl _ _).alloc (Nat.le_refl _) _).drew
  have hxb : wr.heap[gb]? = some (.cells #[.slice (some ⟨gI, 0, none⟩) m c, .slice (some ⟨gc, 0, none⟩) 2 3, .int .i64 gq] 25 (0, 0)) := by rw [← hwr]; exact drew_blk (heap_alloc_new2 _ _ _ _ hgb.symm)
  rw [hwr, hgb]
  have HXb := Lib.hid hxb
  have HXr := Lib.hid (blk_later HXq.out hbr)
  have HXa2 := Lib.hid (blk_later HXa.out hbr)
  have HPr := Lib.hid (HPq.out.below hbr)
  have HLr := Lib.hid (HLq.out.below hbr)
  have HBR := Lib.hid (below_then HBQ.out hbr)
  clear hbr hxb hwr hgb HXq HPq HLq HBQ HXa HFq HBq
  obtain ⟨p0, p1, p2⟩ := blk_cells3 HXr.out
  obtain ⟨q, rfl⟩ : ∃ q, m = q + 1 := ⟨m - 1, by omega⟩
  go_upto_region 12 with fail
  obtain ⟨ws, hws⟩ : ∃ W0, wr.alloc (.cells #[.slice (some ⟨gI, 0, none⟩) (q + 1) c, .slice (some ⟨gc, 0, none⟩) 3 3, .int .i64 (gq + 1)] 25) = W0 := ⟨_, rfl⟩
  obtain ⟨gcc, hgcc⟩ : ∃ x, wr.heap.size = x := ⟨_, rfl⟩
  have hbs : Below wr.heap.size wr ws := by rw [← hws]; exact (Below.refl _ _).alloc (Nat.le_refl _) _
  have hxc : ws.heap[gcc]? = some (.cells #[.slice (some ⟨gI, 0, none⟩) (q + 1) c, .slice (some ⟨gc, 0, none⟩) 3 3, .int .i64 (gq + 1)] 25 (0, 0)) := by rw [← hws]; exact heap_alloc_new2 _ _ _ _ hgcc.symm
  rw [hws, hgcc]
  have HXc := Lib.hid hxc
  have HXs := Lib.hid (blk_later HXr.out hbs)
  have HXa3 := Lib.hid (blk_later HXa2.out hbs)
  have HXb3 := Lib.hid (blk_later HXb.out hbs)
  have HPs := Lib.hid (HPr.out.below hbs)
  have HLs := Lib.hid (HLr.out.below hbs)
  have HBS2 := Lib.hid (below_then HBR.out hbs)
  clear hbs hxc hws hgcc HXr HPr HLr HBR HXa2 HXb p0 p1 p2
  have HFq := Lib.hid (fun (w' : World) (hw : Below ws.heap.size ws w') => blk_cells3 (blk_later HXs.out hw))
  have HBq := Lib.hid (Below.drew (Below.refl ws.heap.size ws))
  have hwq2 : IntKind.i64.wrap (q : Int) = q := IntWalk.i64_in _ (by omega)
  have hqc : (q : Int) ≤ (c : Int) := by omega
  have hq0 : (0 : Int) ≤ (q : Int) := by omega
  refine wp_region_noPanic ?_
  refine wp_region_T 13 (S := fun w' : World => Below ws.heap.size ws w') (by kernel_rfl) (by decide) ?_
  refine wpAnyT_take2 0 (v := ?tvd0) (by kernel_rfl) rfl (by kernel_rfl) (fun _ _ _ h => h) (Or.inl ⟨by rfl, ?tyd0⟩) HBq.out ?trd0
  case tyd0 => (intro w' hSw; (try dsimp only at hSw); go_simp; try with_reducible rfl)
  try simp only [Act.put, List.setIfInBounds_toArray, List.set_cons_zero, List.set_cons_succ]
  refine wpAnyT_take2 1 (v := ?tvd1) (by kernel_rfl) rfl (by kernel_rfl) (fun _ _ _ h => h) (Or.inl ⟨by rfl, ?tyd1⟩) HBq.out ?trd1
  case tyd1 => (intro w' hSw; obtain ⟨f0, f1, f2⟩ := HFq.out w' hSw; (try dsimp only at hSw); go_simp; try with_reducible rfl)
  try simp only [Act.put, List.setIfInBounds_toArray, List.set_cons_zero, List.set_cons_succ]
  refine wpAnyT_take2 2 (v := ?tvd2) (by kernel_rfl) rfl (by kernel_rfl) (fun _ _ _ h => h) (Or.inl ⟨by rfl, ?tyd2⟩) HBq.out ?trd2
  case tyd2 => (intro w' hSw; (try dsimp only at hSw); go_simp; try with_reducible rfl)
  try simp only [Act.put, List.setIfInBounds_toArray, List.set_cons_zero, List.set_cons_succ]
  refine wpAnyT_take2 3 (v := ?tvd3) (by kernel_rfl) rfl (by kernel_rfl) (fun _ _ _ h => h) (Or.inl ⟨by rfl, ?tyd3⟩) HBq.out ?trd3
  case tyd3 => (intro w' hSw; obtain ⟨f0, f1, f2⟩ := HFq.out w' hSw; (try dsimp only at hSw); go_simp; try with_reducible rfl)
  try simp only [Act.put, List.setIfInBounds_toArray, List.set_cons_zero, List.set_cons_succ]
  refine wpAnyT_take2 4 (v := ?tvd4) (by kernel_rfl) rfl (by kernel_rfl) (fun _ _ _ h => h) (Or.inl ⟨by rfl, ?tyd4⟩) HBq.out ?trd4
  case tyd4 => (intro w' hSw; (try dsimp only at hSw); go_simp; try with_reducible rfl)
  try simp only [Act.put, List.setIfInBounds_toArray, List.set_cons_zero, List.set_cons_succ]
  refine wpAnyT_take2 5 (v := ?tvd5) (by kernel_rfl) rfl (by kernel_rfl) (fun _ _ _ h => h) (Or.inl ⟨by rfl, ?tyd5⟩) HBq.out ?trd5
  case tyd5 => (intro w' hSw; (try dsimp only at hSw); go_simp; try with_reducible rfl)
  try simp only [Act.put, List.setIfInBounds_toArray, List.set_cons_zero, List.set_cons_succ]
  refine wpAnyT_take2 6 (v := ?tvd6) (by kernel_rfl) rfl (by kernel_rfl) (fun _ _ _ h => h) (Or.inl ⟨by rfl, ?tyd6⟩) HBq.out ?trd6
  case tyd6 => (intro w' hSw; (try dsimp only at hSw); go_simp; try with_reducible rfl)
  try simp only [Act.put, List.setIfInBounds_toArray, List.set_cons_zero, List.set_cons_succ]
  refine wpAnyT_take2 7 (v := ?tvd7) (by kernel_rfl) rfl (by kernel_rfl) (fun _ _ _ h => h) (Or.inl ⟨by rfl, ?tyd7⟩) HBq.out ?trd7
  case tyd7 => (intro w' hSw; (try dsimp only at hSw); go_simp; try with_reducible rfl)
  try simp only [Act.put, List.setIfInBounds_toArray, List.set_cons_zero, List.set_cons_succ]
  refine wpAnyT_take2 8 (v := ?tvd8) (by kernel_rfl) rfl (by kernel_rfl) (fun _ _ _ h => h) (Or.inl ⟨by rfl, ?tyd8⟩) HBq.out ?trd8
  case tyd8 => (intro w' hSw; obtain ⟨f0, f1, f2⟩ := HFq.out w' hSw; (try dsimp only at hSw); go_simp; try with_reducible rfl)
  try simp only [Act.put, List.setIfInBounds_toArray, List.set_cons_zero, List.set_cons_succ]
  refine wpAnyT_take2 9 (v := ?tvd9) (by kernel_rfl) rfl (by kernel_rfl) (fun _ _ _ h => h) (Or.inl ⟨by rfl, ?tyd9⟩) HBq.out ?trd9
  case tyd9 => (intro w' hSw; (try dsimp only at hSw); go_simp; try with_reducible rfl)
  try simp only [Act.put, List.setIfInBounds_toArray, List.set_cons_zero, List.set_cons_succ]
  refine wpAnyT_take2 10 (v := ?tvd10) (by kernel_rfl) rfl (by kernel_rfl) (fun _ _ _ h => h) (Or.inl ⟨by rfl, ?tyd10⟩) HBq.out ?trd10
  case tyd10 => (intro w' hSw; obtain ⟨f0, f1, f2⟩ := HFq.out w' hSw; (try dsimp only at hSw); go_simp; try with_reducible rfl)
  try simp only [Act.put, List.setIfInBounds_toArray, List.set_cons_zero, List.set_cons_succ]
  refine wpAnyT_take2 11 (v := ?tvd11) (by kernel_rfl) rfl (by kernel_rfl) (fun _ _ _ h => h) (Or.inl ⟨by rfl, ?tyd11⟩) HBq.out ?trd11
  case tyd11 => (intro w' hSw; (try dsimp only at hSw); go_simp; try with_reducible rfl)
  try simp only [Act.put, List.setIfInBounds_toArray, List.set_cons_zero, List.set_cons_succ]
  refine wpAnyT_one2 12 rfl (by kernel_rfl) ?_
  intro K' hK'
  rw [if_pos (by rfl)]
  have HK := Lib.hid hK'
  clear hK'
  go_simp
  refine HK.out _ _ ⟨below_alloc HBq.out _, ?_⟩
  clear HK K'
  try simp only [Act.put, List.setIfInBounds_toArray, List.set_cons_zero, List.set_cons_succ]
  refine ⟨by kernel_rfl, ?_⟩
  change wpList _ _ _ [_] _ _
  go_wp2
  refine NoPanic.normal ?_
  go_upto_region 13 with fail
  obtain ⟨wt, hwt⟩ : ∃ W0, (ws.alloc (.cells #[.slice (some ⟨gI, 0, none⟩) q c, .slice (some ⟨gc, 0, none⟩) 3 3, .int .i64 gq] 25)).drew = W0 := ⟨_, rfl⟩
  obtain ⟨gd, hgd⟩ : ∃ x, ws.heap.size = x := ⟨_, rfl⟩
  have hbt : Below ws.heap.size ws wt := by rw [← hwt]; exact ((Below.refl _ _).alloc (Nat.le_refl _) _).drew
  have hxd : wt.heap[gd]? = some (.cells #[.slice (some ⟨gI, 0, none⟩) q c, .slice (some ⟨gc, 0, none⟩) 3 3, .int .i64 gq] 25 (0, 0)) := by rw [← hwt]; exact drew_blk (heap_alloc_new2 _ _ _ _ hgd.symm)
  rw [hwt, hgd]
  have HF := Lib.hid (fun (w' : World) (hw : Below wt.heap.size wt w') => And.intro (blk_cells3 (blk_later (blk_later HXs.out hbt) hw)) (And.intro (blk_cells3 (blk_later (blk_later HXa3.out hbt) hw)) (And.intro (blk_cells3 (blk_later (blk_later HXb3.out hbt) hw)) (And.intro (blk_cells3 (blk_later (blk_later HXc.out hbt) hw)) (blk_cells3 (blk_later hxd hw))))))
  have hPt := HPs.out.below hbt
  have hPa : PgAt wt (some ⟨gl, 0, none⟩) L2 (some ⟨gc, 0, none⟩) K := ⟨Sl.of_cells (HLs.out.below hbt), hPt.cls, hPt.each, by rw [HLEN2.out]; unfold maxLen; omega, hPt.lc⟩
  have HBT := Lib.hid (below_then HBS2.out hbt)
  obtain ⟨k1, _⟩ := codeK_ok K HKR.out
  have e1 : pgS LL LL K K gq gq = true := by simp [pgS]
  have e2 : pgS LL L2 K K gq gq = false := by
    have : ¬ LL = L2 := fun e => HNE.out e.symm
    simp [pgS, this]
  have e3 : pgS LL LL K (K.take 2) gq gq = false := by
    have : ¬ K.map Cs.R = (K.take 2).map Cs.R := fun e => by
      have := congrArg List.length e
      simp [k1] at this
    simp only [pgS, decide_eq_false this, Bool.and_false]
  have e4 : pgS LL LL K K gq (gq + 1) = false := by
    have : ¬ gq = gq + 1 := by omega
    simp [pgS, this]
  have e5 : pgS LL (LL.take q) K K gq gq = false := by
    have : ¬ LL = LL.take q := fun e => by
      have h1 := congrArg List.length e
      rw [List.length_take, HM.out] at h1
      omega
    simp [pgS, this]
  have lt : (LL.take q).length = q := by rw [List.length_take, HM.out]; omega
  have lk : (K.take 2).length = 2 := by rw [List.length_take, k1]; rfl
  have C1 := fun (w' : World) (hw : Below wt.heap.size wt w') => psame_any (some ⟨gI, 0, none⟩) (some ⟨gI, 0, none⟩) (some ⟨gc, 0, none⟩) (some ⟨gc, 0, none⟩) LL LL K K c c 3 3 gq gq w' (hPt.below hw) (hPt.below hw)
  have C2 := fun (w' : World) (hw : Below wt.heap.size wt w') => psame_any (some ⟨gI, 0, none⟩) (some ⟨gl, 0, none⟩) (some ⟨gc, 0, none⟩) (some ⟨gc, 0, none⟩) LL L2 K K c cl 3 3 gq gq w' (hPt.below hw) (hPa.below hw)
  have C3 := fun (w' : World) (hw : Below wt.heap.size wt w') => psame_any (some ⟨gI, 0, none⟩) (some ⟨gI, 0, none⟩) (some ⟨gc, 0, none⟩) (some ⟨gc, 0, none⟩) LL LL K (K.take 2) c c 3 3 gq gq w' (hPt.below hw) ((hPt.takeK 2).below hw)
  have C4 := fun (w' : World) (hw : Below wt.heap.size wt w') => psame_any (some ⟨gI, 0, none⟩) (some ⟨gI, 0, none⟩) (some ⟨gc, 0, none⟩) (some ⟨gc, 0, none⟩) LL LL K K c c 3 3 gq (gq + 1) w' (hPt.below hw) (hPt.below hw)
  have C5 := fun (w' : World) (hw : Below wt.heap.size wt w') => psame_any (some ⟨gI, 0, none⟩) (some ⟨gI, 0, none⟩) (some ⟨gc, 0, none⟩) (some ⟨gc, 0, none⟩) LL (LL.take q) K K c c 3 3 gq gq w' (hPt.below hw) ((hPt.takeL q).below hw)
  rw [e1, HM.out, k1] at C1
  rw [e2, HM.out, k1, HLEN2.out] at C2
  rw [e3, HM.out, k1, lk] at C3
  rw [e4, HM.out, k1] at C4
  rw [e5, HM.out, k1, lt] at C5
  unfold pgV at C1 C2 C3 C4 C5
  have HC1 := Lib.hid C1
  have HC2 := Lib.hid C2
  have HC3 := Lib.hid C3
  have HC4 := Lib.hid C4
  have HC5 := Lib.hid C5
  have HE0 := Lib.hid (Below.refl wt.heap.size wt)
  clear C1 C2 C3 C4 C5 e1 e2 e3 e4 e5 lt lk k1 hPt hPa hbt hxd hwt hgd HXs HXa3 HXb3 HXc HPs HLs HBS2 HFq HBq hwq2 hw2
  obtain ⟨⟨p0, p1, p2⟩, ⟨a0, a1, a2⟩, ⟨b0, b1, b2⟩, ⟨c0, c1, c2⟩, ⟨d0, d1, d2⟩⟩ := HF.out _ HE0.out
  go_wp2_with fail
  refine (HC1.out _ HE0.out).mono ?_
  rintro e1 v1 ⟨rfl, hb⟩
  have HE1 := Lib.hid (below_then HE0.out hb)
  clear hb p0 p1 p2 a0 a1 a2 b0 b1 b2 c0 c1 c2 d0 d1 d2
  obtain ⟨⟨p0, p1, p2⟩, ⟨a0, a1, a2⟩, ⟨b0, b1, b2⟩, ⟨c0, c1, c2⟩, ⟨d0, d1, d2⟩⟩ := HF.out _ HE1.out
  go_wp2_with fail
  refine (HC2.out _ HE1.out).mono ?_
  rintro e2 v2 ⟨rfl, hb⟩
  have HE2 := Lib.hid (below_then HE1.out hb)
  clear hb p0 p1 p2 a0 a1 a2 b0 b1 b2 c0 c1 c2 d0 d1 d2
  obtain ⟨⟨p0, p1, p2⟩, ⟨a0, a1, a2⟩, ⟨b0, b1, b2⟩, ⟨c0, c1, c2⟩, ⟨d0, d1, d2⟩⟩ := HF.out _ HE2.out
  go_wp2_with fail
  refine (HC3.out _ HE2.out).mono ?_
  rintro e3 v3 ⟨rfl, hb⟩
  have HE3 := Lib.hid (below_then HE2.out hb)
  clear hb p0 p1 p2 a0 a1 a2 b0 b1 b2 c0 c1 c2 d0 d1 d2
  obtain ⟨⟨p0, p1, p2⟩, ⟨a0, a1, a2⟩, ⟨b0, b1, b2⟩, ⟨c0, c1, c2⟩, ⟨d0, d1, d2⟩⟩ := HF.out _ HE3.out
  go_wp2_with fail
  refine (HC4.out _ HE3.out).mono ?_
  rintro e4 v4 ⟨rfl, hb⟩
  have HE4 := Lib.hid (below_then HE3.out hb)
  clear hb p0 p1 p2 a0 a1 a2 b0 b1 b2 c0 c1 c2 d0 d1 d2
  obtain ⟨⟨p0, p1, p2⟩, ⟨a0, a1, a2⟩, ⟨b0, b1, b2⟩, ⟨c0, c1, c2⟩, ⟨d0, d1, d2⟩⟩ := HF.out _ HE4.out
  go_wp2_with fail
  refine (HC5.out _ HE4.out).mono ?_
  rintro e5 v5 ⟨rfl, hb⟩
  have HE5 := Lib.hid (below_then HE4.out hb)
  clear hb p0 p1 p2 a0 a1 a2 b0 b1 b2 c0 c1 c2 d0 d1 d2
  obtain ⟨⟨p0, p1, p2⟩, ⟨a0, a1, a2⟩, ⟨b0, b1, b2⟩, ⟨c0, c1, c2⟩, ⟨d0, d1, d2⟩⟩ := HF.out _ HE5.out
  go_wp2_with fail
  go_ret
  exact ⟨rfl, below_then HBT.out HE5.out⟩
set_option maxRecDepth 100000 in
theorem same_all {H : Type} {enc : TypeId × Value → H} {base : Nat} {v : Value} {d : DataW H} {p : List MemPlace} (a : Int) (W : World) (hv : Value.okWide Tryd.prog W .any base 28 v) (h : DataW.Trod enc Tryd.prog W 0 (fun _ => true) true 28 v d p) (ha : (Lit.int .u8 a).wf = true) :
    Calls Tryd.prog 8 #[v, .int .u8 a] W fun e w' => e = .returned (.bool true) ∧ Below W.heap.size W w' := by
  obtain ⟨PI, PL, pic, PC, PK, pcc, pg, own, LA, L, lc, g, rfl, hC⟩ := open_code hv h
  have hb := wf_u8b ha
  exact same_w PI PC LA PL PK pic pcc lc pg own L g a W hC hb.1 hb.2
end Go.Proofs.YtpeheppiolfpfaaDoor
