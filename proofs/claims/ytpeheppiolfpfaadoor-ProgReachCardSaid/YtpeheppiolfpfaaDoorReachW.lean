/- ProgReach: the walk. Conditions: what each lemma says. -/
import Derived.Test.YtpeheppiolfpfaaDoorCodeB
import Derived.Deep.CutBlock
import Derived.Deep.QuietTactic
import Derived.BigQuiet
set_option linter.unusedVariables false
set_option linter.unusedSimpArgs false
namespace Go.Proofs.YtpeheppiolfpfaaDoor
open Go.RowKit Go.Lib
open Plain (Rg May mayB In Norm In4 slotsOf insB bnd riB cls cnot rightB normB nextL Rch cntA RInv small putL lineL jmp)
theorem bls_get {w : World} {g i : Nat} {O : List Bool} (h : w.heap[g]? = some (.cells (bls O) 4 (0, 0))) (hi : i < O.length) : w.cell? ⟨g, i, none⟩ = some (.bool (O.getD i false)) := by
  rw [cell_of_row _ _ _ _ _ _ h]
  simp [bls, hi, List.getD_eq_getElem?_getD, List.getElem?_eq_getElem hi]
theorem i4s_one (L : List In4) : ∀ u ∈ i4s L, u.oneCell' = true := by
  intro u hu
  unfold i4s i4c at hu
  simp only [List.mem_flatMap, List.mem_cons, List.not_mem_nil, or_false] at hu
  obtain ⟨t, _, h⟩ := hu
  rcases h with rfl | rfl | rfl | rfl <;> rfl
theorem own_not_box {w : World} {base g n sz : Nat} {v : Value} {xs : List Value} {cs : Array Value} (ho : w.ownsRow base 30 sz v n xs) (hg : w.heap[g]? = some (.cells cs 25 (0, 0))) : v.ownBlock ≠ some g := by
  intro e
  rcases ho.2 with ⟨rfl, _⟩ | ⟨g', cap, cur, rfl, _, hh, _⟩
  · cases e
  · have : g' = g := by simpa [Value.ownBlock] using e
    subst this
    rw [hg] at hh
    cases hh
def QMid (wq : World) (C : Option Addr) (L : List In4) (d kn : Nat) (g : Int) (y : Value) (wx : World) : Prop :=
  ∃ (ga : Nat) (A : Option Addr) (c : Nat), y = .pointer (some ⟨ga, 0, none⟩) ∧ wx.heap[ga]? = some (.cells #[.slice A L.length c, .slice C kn d, .int .i64 g] 25 (0, 0)) ∧ Sl wx A (i4s L) ∧ Below wq.heap.size wq wx
theorem qmid_of {wq W : World} {C u : Option Addr} {L : List In4} {d kn n c ga : Nat} {g : Int} (hb : Below wq.heap.size wq W) (ho : W.ownsRow wq.heap.size 30 4 (.slice u n c) n (i4s L)) (ha : W.heap[ga]? = some (.cells #[.slice none 0 0, .slice none 0 0, .int .i64 0] 25 (0, 0))) (hge : wq.heap.size ≤ ga) (hl : L.length = n) (hn : 0 < n) :
    QMid wq C L d kn g (.pointer (some ⟨ga, 0, none⟩)) (((W.setCell ⟨ga, 0, none⟩ (.slice u n c)).setCell ⟨ga, 1, none⟩ (.slice C kn d)).setCell ⟨ga, 2, none⟩ (.int .i64 g)) := by
  subst hl
  have hne := own_not_box ho ha
  have hK := (((Kp.refl ga W).set 0 (.slice u L.length c)).set 1 (.slice C kn d)).set 2 (.int .i64 g)
  refine ⟨ga, u, c, rfl, blk_set3 ha _ _ _, hK.sl (own_SlN ho (fun _ => hn)) (fun b o e => ?_), ((hb.setCell hge _).setCell hge _).setCell hge _⟩
  subst e
  intro e2
  subst e2
  obtain ⟨g', cap, hv, _, _, _⟩ := own_at ho hn
  injection hv with h1
  injection h1 with h1; injection h1 with h1 h2
  subst h1 h2
  exact hne rfl
end Go.Proofs.YtpeheppiolfpfaaDoor
namespace Go.Proofs.YtpeheppiolfpfaaDoor
open Go.RowKit Go.Lib Go.ChangeShapes
open Plain (Rg May mayB In Norm In4 slotsOf insB bnd riB cls cnot rightB normB nextL Rch cntA RInv small putL lineL)
set_option maxRecDepth 1000000 in
set_option maxHeartbeats 8000000 in
theorem reach_w (PI PC LA : Option Addr) (PL : List In4) (PK : List Cs) (pic pcc lc : Nat) (pg : Int) (own : Bool) (L : List Int) (g : Int) (W : World) (hC : CodeAt W PI PL PC PK pg LA L g) :
    Calls Tryd.prog 4 #[.agg #[.slice PI PL.length pic, .slice PC PK.length pcc, .int .i64 pg, .bool own, .slice LA L.length lc, .int .u8 g]] W fun e w' => e = .returned (.bool true) ∧ Below W.heap.size W w' := by
  have HC := Lib.hid hC
  have CE := Lib.hid (fun W => examples_any W)
  obtain ⟨n, hn⟩ : ∃ n, L.length = n := ⟨_, rfl⟩
  obtain ⟨pn, hpn⟩ : ∃ n, PL.length = n := ⟨_, rfl⟩
  obtain ⟨pk, hpk⟩ : ∃ n, PK.length = n := ⟨_, rfl⟩
  have CC := Lib.hid (fun (w : World) (h : Below W.heap.size W w) => code_any PI PC LA PL PK pic pcc lc pg own L g W w hC h)
  rw [hn, hpn, hpk] at CC ⊢
  clear hC hn hpn hpk
  have CR := Lib.hid (fun I C L K c d g w hP => prright_any I C L K c d g w hP)
  have CQ := Lib.hid (fun I C L K c d g w hP hn => reach_any I C L K c d g w hP hn)
  obtain ⟨i84, hi84, y0, y1, y2⟩ := info_parts info84
  go_enter Tryd.func4, Tryd.ntmps4
  go_wp2_with fail
  have HB0 := Lib.hid (below_alloc (Below.refl W.heap.size W) (.cells #[.slice PI pn pic, .slice PC pk pcc, .int .i64 pg, .bool own, .slice LA n lc, .int .u8 g] 28))
  have hX := heap_alloc_new2 W (.cells #[.slice PI pn pic, .slice PC pk pcc, .int .i64 pg, .bool own, .slice LA n lc, .int .u8 g] 28) W.heap.size _ rfl
  refine (CE.out _).mono ?_
  rintro e1 w1 ⟨rfl, hb⟩
  have HB1 := Lib.hid (below_then HB0.out hb)
  have hX1 := blk_later hX hb
  have hlw := lt_of_some hX1
  have hc1 : CellsAt w1 W.heap.size [.slice PI pn pic, .slice PC pk pcc, .int .i64 pg, .bool own, .slice LA n lc, .int .u8 g] := ⟨hlw, fun j u hu => by rw [cell_of_row _ _ _ _ _ _ hX1]; simpa using hu⟩
  have x0 := hc1.at_ 0 _ rfl
  have x1 := hc1.at_ 1 _ rfl
  have x2 := hc1.at_ 2 _ rfl
  have x3 := hc1.at_ 3 _ rfl
  have x4 := hc1.at_ 4 _ rfl
  have x5 := hc1.at_ 5 _ rfl
  clear hb hX hc1 hX1
  go_wp2_with fail
  clear x0 x1 x2 x3 x4 x5 hlw
  refine (CC.out _ HB1.out).mono ?_
  rintro e2 w3 ⟨I, C, LL, K, c, d, gq, rfl, hP, hb, _, _, _⟩
  unfold pgV
  have HB3 := Lib.hid (below_then HB1.out hb)
  have HP3 := Lib.hid hP
  obtain ⟨m, hm⟩ : ∃ m, LL.length = m := ⟨_, rfl⟩
  obtain ⟨kn, hkn⟩ : ∃ m, K.length = m := ⟨_, rfl⟩
  rw [hm, hkn]
  have HM := Lib.hid hm
  have HKN := Lib.hid hkn
  clear hb hP hm hkn
  go_upto_region 5 with fail
  have hBp := (Below.refl w3.heap.size w3).alloc (Nat.le_refl _) (.cells #[.slice I m c, .slice C kn d, .int .i64 gq] 25)
  have hxp := heap_alloc_new2 w3 (.cells #[.slice I m c, .slice C kn d, .int .i64 gq] 25) w3.heap.size _ rfl
  obtain ⟨wp, hwp⟩ : ∃ W0, w3.alloc (.cells #[.slice I m c, .slice C kn d, .int .i64 gq] 25) = W0 := ⟨_, rfl⟩
  rw [hwp] at hBp hxp ⊢
  obtain ⟨gp, hgp⟩ : ∃ x, w3.heap.size = x := ⟨_, rfl⟩
  have HPp := Lib.hid (HP3.out.below hBp)
  have HBp := Lib.hid (below_then HB3.out hBp)
  rw [hgp] at hxp ⊢
  have HXp := Lib.hid hxp
  clear hBp hxp hwp hgp HP3 HB3
  obtain ⟨p0, p1, p2⟩ := blk_cells3 HXp.out
  have C6 := CR.out I C LL K c d gq wp HPp.out
  rw [HM.out, HKN.out] at C6
  obtain ⟨q, hq⟩ : ∃ q, pgR LL K gq = q := ⟨_, rfl⟩
  rw [hq] at C6
  unfold pgV at C6
  have HC6 := Lib.hid C6
  have HQ := Lib.hid hq
  clear C6 hq
  go_wp2_with fail
  refine (HC6.out).mono ?_
  rintro e3 w4 ⟨rfl, hb6⟩
  have HP4 := Lib.hid (HPp.out.below hb6)
  have HB4 := Lib.hid (below_then HBp.out hb6)
  have HX4 := Lib.hid (blk_later HXp.out hb6)
  clear hb6 p0 p1 p2 HPp HBp HXp HC6
  cases q
  · go_wp2_with fail
    go_ret
    exact ⟨rfl, HB4.out⟩
  obtain ⟨hl0, hl5, hri, _, _, _⟩ := pgR_facts HQ.out
  have hm1 : 0 < m ∧ m ≤ 512 := by have := HM.out; omega
  have HRI := Lib.hid hri
  have C7 := CQ.out I C LL K c d gq w4 HP4.out (by omega)
  rw [HM.out, HKN.out] at C7
  unfold pgV at C7
  have HC7 := Lib.hid C7
  clear C7 hl0 hl5 hri
  obtain ⟨p0, p1, p2⟩ := blk_cells3 HX4.out
  go_wp2_with fail
  refine (HC7.out).mono ?_
  rintro e4 wq ⟨g1, O1, rfl, hO1l, hO1, hR1, hb⟩
  have HPq := Lib.hid (HP4.out.below hb)
  have HBW := Lib.hid (below_then HB4.out hb)
  have HXq := Lib.hid (blk_later HX4.out hb)
  have HO1 := Lib.hid hO1
  have HR1 := Lib.hid hR1
  have HOL1 := Lib.hid hO1l
  rw [HM.out]
  clear hb hO1 hR1 hO1l p0 p1 p2 HC7 HP4 HB4 HX4
  obtain ⟨bI, oI, rfl, hbI, hcI⟩ := HPq.out.insts (by rw [i4s_len, HM.out]; omega)
  have HCI := Lib.hid (fun (w' : World) (hw : Below wq.heap.size wq w') (j : Nat) (u : Value) (hu : (i4s LL)[j]? = some u) => (show w'.cell? ((⟨bI, oI, none⟩ : Addr).add j) = some u by rw [Addr.add_lit]; exact (hw.cell (p := ⟨bI, oI + j, none⟩) hbI).trans (hcI j u hu)))
  have HMJ := Lib.hid (show (LL ++ [Plain.jmp]).length = m + 1 by rw [List.length_append, HM.out]; rfl)
  clear hcI
  go_upto_region 8 with fail
  go_cut [6] (fun y wx => QMid wq C (LL ++ [Plain.jmp]) d kn gq y wx)
  case first =>
    have HFq := Lib.hid (fun (w' : World) (hw : Below wq.heap.size wq w') => blk_cells3 (blk_later HXq.out hw))
    refine wp_region_noPanic ?_
    refine wp_region_T 12 (S := fun w' : World => Below wq.heap.size wq w') (by kernel_rfl) (by decide) ?_
    have hbd := Below.drew (Below.refl wq.heap.size wq)
    obtain ⟨wd, hwd⟩ : ∃ W0, wq.drew = W0 := ⟨_, rfl⟩
    rw [hwd] at hbd ⊢
    have HBq := Lib.hid hbd
    clear hbd hwd
    refine wpAnyT_take2 0 (v := ?tvx1) (by kernel_rfl) rfl (by kernel_rfl) (fun _ _ _ h => h) (Or.inl ⟨by rfl, ?tyx1⟩) HBq.out ?trx1
    case tyx1 => (intro w' hSw; (try dsimp only at hSw); go_simp; try with_reducible rfl)
    try simp only [Act.put, List.setIfInBounds_toArray, List.set_cons_zero, List.set_cons_succ]
    refine wpAnyT_take2 1 (v := ?tvx2) (by kernel_rfl) rfl (by kernel_rfl) (fun _ _ _ h => h) (Or.inl ⟨by rfl, ?tyx2⟩) HBq.out ?trx2
    case tyx2 => (intro w' hSw; obtain ⟨f0, f1, f2⟩ := HFq.out w' hSw; (try dsimp only at hSw); go_simp; try with_reducible rfl)
    try simp only [Act.put, List.setIfInBounds_toArray, List.set_cons_zero, List.set_cons_succ]
    refine wpAnyT_take2 3 (v := ?tvx3) (by kernel_rfl) rfl (by kernel_rfl) (fun _ _ _ h => h) (Or.inl ⟨by rfl, ?tyx3⟩) HBq.out ?trx3
    case tyx3 => (intro w' hSw; (try dsimp only at hSw); go_simp; try with_reducible rfl)
    try simp only [Act.put, List.setIfInBounds_toArray, List.set_cons_zero, List.set_cons_succ]
    refine wpAnyT_take2 6 (v := ?tvx4) (by kernel_rfl) rfl (by kernel_rfl) (fun _ _ _ h => h) (Or.inl ⟨by rfl, ?tyx4⟩) HBq.out ?trx4
    case tyx4 => (intro w' hSw; (try dsimp only at hSw); go_simp; try with_reducible rfl)
    try simp only [Act.put, List.setIfInBounds_toArray, List.set_cons_zero, List.set_cons_succ]
    refine wpAnyT_take2 7 (v := ?tvx5) (by kernel_rfl) rfl (by kernel_rfl) (fun _ _ _ h => h) (Or.inl ⟨by rfl, ?tyx5⟩) HBq.out ?trx5
    case tyx5 => (intro w' hSw; obtain ⟨f0, f1, f2⟩ := HFq.out w' hSw; (try dsimp only at hSw); go_simp; try with_reducible rfl)
    try simp only [Act.put, List.setIfInBounds_toArray, List.set_cons_zero, List.set_cons_succ]
    refine wpAnyT_take2 8 (v := ?tvx6) (by kernel_rfl) rfl (by kernel_rfl) (fun _ _ _ h => h) (Or.inl ⟨by rfl, ?tyx6⟩) HBq.out ?trx6
    case tyx6 => (intro w' hSw; (try dsimp only at hSw); go_simp; try with_reducible rfl)
    try simp only [Act.put, List.setIfInBounds_toArray, List.set_cons_zero, List.set_cons_succ]
    refine wpAnyT_take2 9 (v := ?tvx7) (by kernel_rfl) rfl (by kernel_rfl) (fun _ _ _ h => h) (Or.inl ⟨by rfl, ?tyx7⟩) HBq.out ?trx7
    case tyx7 => (intro w' hSw; obtain ⟨f0, f1, f2⟩ := HFq.out w' hSw; (try dsimp only at hSw); go_simp; try with_reducible rfl)
    try simp only [Act.put, List.setIfInBounds_toArray, List.set_cons_zero, List.set_cons_succ]
    refine wpAnyT_all [2, 4, 11] (by kernel_rfl) (by decide) (fun i hi => ?_)
    simp only [List.mem_cons, List.not_mem_nil, or_false] at hi
    rcases hi with rfl | rfl | rfl
    · refine ⟨_, (by rfl), fun K' hK' => ?_⟩
      rw [if_pos (by rfl)]
      have HK := Lib.hid hK'
      clear hK'
      refine oper_append_own2 _ (.const (.slice none 0 0)) (.tmp 22) 22 (by rfl) wq.heap.size 30 i84 _ 4 32 Tryd.underlying22 hi84 y0 y1 y2 rfl (by decide) (.slice none 0 0) 0 [] (by rfl) (World.ownsRow_nil _ _ _ _) ⟨bI, oI, none⟩ m c (i4s LL) (by rfl) (by rw [i4s_len, HM.out]) ?n8 (i4s_one LL) (by simp only [maxLen]; omega) (by omega) HBq.out.size ?_
      case n8 => exact HCI.out _ HBq.out
      intro v8 w8 hown hgr hvb
      rw [Nat.zero_add, List.nil_append] at hown
      obtain ⟨gl, cl, rfl, hmcl, hgl, hcl⟩ := own_at hown hm1.1
      have hbl : Below wd.heap.size wd w8 := ⟨hgr.os, hgr.tape, hgr.output, hgr.size, fun k hk => hgr.block k hk (by simp [Value.ownBlock])⟩
      have HB8 := Lib.hid (below_then HBq.out hbl)
      have Ho28 := Lib.hid hown
      refine HK.out _ _ ⟨HB8.out, ?_⟩
      clear HK K' hown hgr hvb hcl hbl
      try simp only [Act.put, List.setIfInBounds_toArray, List.set_cons_zero, List.set_cons_succ]
      refine wpAnyT_all [4, 11] (by kernel_rfl) (by decide) (fun i hi => ?_)
      simp only [List.mem_cons, List.not_mem_nil, or_false] at hi
      rcases hi with rfl | rfl
      · refine ⟨_, (by rfl), fun K' hK' => ?_⟩
        rw [if_pos (by rfl)]
        have HK := Lib.hid hK'
        clear hK'
        have hnew := heap_alloc_new2 w8 (.cells #[.int .i64 3, .int .i64 0, .int .i64 0, .int .i64 0] 30) w8.heap.size _ rfl
        have hgb : wq.heap.size ≤ w8.heap.size := HB8.out.size
        go_simp
        have Ho29 := Lib.hid (Ho28.out.alloc (.cells #[.int .i64 3, .int .i64 0, .int .i64 0, .int .i64 0] 30))
        have HB9 := Lib.hid (below_alloc HB8.out (.cells #[.int .i64 3, .int .i64 0, .int .i64 0, .int .i64 0] 30))
        refine HK.out _ _ ⟨HB9.out, ?_⟩
        clear HK K'
        try simp only [Act.put, List.setIfInBounds_toArray, List.set_cons_zero, List.set_cons_succ]
        obtain ⟨w9, hw9⟩ : ∃ W0, w8.alloc (.cells #[.int .i64 3, .int .i64 0, .int .i64 0, .int .i64 0] 30) = W0 := ⟨_, rfl⟩
        obtain ⟨g4, hg4⟩ : ∃ x, w8.heap.size = x := ⟨_, rfl⟩
        rw [hw9] at hnew HB9 Ho29 ⊢
        rw [hg4] at hnew hgb ⊢
        have Hx49 := Lib.hid hnew
        have Gx49 := Lib.hid hgb
        clear hnew hgb hw9 hg4
        refine wpAnyT_all [5, 11] (by kernel_rfl) (by decide) (fun i hi => ?_)
        simp only [List.mem_cons, List.not_mem_nil, or_false] at hi
        rcases hi with rfl | rfl
        · refine ⟨_, (by rfl), fun K' hK' => ?_⟩
          rw [if_pos (by rfl)]
          have HK := Lib.hid hK'
          clear hK'
          refine oper_append_own2 _ (.tmp 23) (.tmp 25) 22 (by rfl) wq.heap.size 30 i84 _ 4 32 Tryd.underlying22 hi84 y0 y1 y2 rfl (by decide) (.slice (some ⟨gl, 0, none⟩) m cl) m (i4s LL) (by rfl) Ho29.out ⟨g4, 0, none⟩ 1 1 [.int .i64 3, .int .i64 0, .int .i64 0, .int .i64 0] (by rfl) rfl ?n10 ?q10 (by simp only [maxLen]; omega) (by omega) HB9.out.size ?_
          case n10 => exact CellsAt_add ⟨lt_of_some Hx49.out, fun j u hu => by rw [cell_of_row _ _ _ _ _ _ Hx49.out]; simpa using hu⟩
          case q10 => (intro u hu; simp only [List.mem_cons, List.not_mem_nil, or_false] at hu; rcases hu with rfl | rfl | rfl | rfl <;> rfl)
          intro v10 w10 hown hgr hvb
          rw [show i4s LL ++ [.int .i64 3, .int .i64 0, .int .i64 0, .int .i64 0] = i4s (LL ++ [Plain.jmp]) by rw [i4s_append]; rfl] at hown
          obtain ⟨u5, c5, rfl⟩ := own_slice hown
          have HB10 := Lib.hid (HB9.out.grown hgr HB9.out.size (fun g hg => (Ho29.out.lt g hg).1))
          have Ho510 := Lib.hid hown
          refine HK.out _ _ ⟨HB10.out, ?_⟩
          clear HK K' hown hgr hvb
          try simp only [Act.put, List.setIfInBounds_toArray, List.set_cons_zero, List.set_cons_succ]
          refine wpAnyT_take2 10 (v := ?tvx11) (by kernel_rfl) rfl (by kernel_rfl) (fun _ _ _ h => h) (Or.inl ⟨by rfl, ?tyx11⟩) HB10.out ?trx11
          case tyx11 => (intro w' hSw; (try dsimp only at hSw); go_simp; try with_reducible rfl)
          try simp only [Act.put, List.setIfInBounds_toArray, List.set_cons_zero, List.set_cons_succ]
          refine wpAnyT_one2 11 rfl (by kernel_rfl) ?_
          intro K' hK'
          rw [if_pos (by rfl)]
          have HK := Lib.hid hK'
          clear hK'
          have hnew := heap_alloc_new2 w10 (.cells #[.slice none 0 0, .slice none 0 0, .int .i64 0] 25) w10.heap.size _ rfl
          have hgb : wq.heap.size ≤ w10.heap.size := HB10.out.size
          go_simp
          have Ho512 := Lib.hid (Ho510.out.alloc (.cells #[.slice none 0 0, .slice none 0 0, .int .i64 0] 25))
          have HB12 := Lib.hid (below_alloc HB10.out (.cells #[.slice none 0 0, .slice none 0 0, .int .i64 0] 25))
          refine HK.out _ _ ⟨HB12.out, ?_⟩
          clear HK K'
          try simp only [Act.put, List.setIfInBounds_toArray, List.set_cons_zero, List.set_cons_succ]
          obtain ⟨w12, hw12⟩ : ∃ W0, w10.alloc (.cells #[.slice none 0 0, .slice none 0 0, .int .i64 0] 25) = W0 := ⟨_, rfl⟩
          obtain ⟨ga, hga⟩ : ∃ x, w10.heap.size = x := ⟨_, rfl⟩
          rw [hw12] at hnew HB12 Ho512 ⊢
          rw [hga] at hnew hgb ⊢
          have Ha12 := Lib.hid hnew
          have Ga12 := Lib.hid hgb
          clear hnew hgb hw12 hga
          obtain ⟨s0, s1, s2⟩ := blk_cells3 Ha12.out
          have z0 := blk_frozen Ha12.out 0
          have z1 := blk_frozen Ha12.out 1
          have z2 := blk_frozen Ha12.out 2
          refine ⟨by kernel_rfl, ?_⟩
          change wpList _ _ _ [_] _ _
          go_wp2
          refine NoPanic.normal ?_
          go_wp2
          go_meet
          case rel => exact qmid_of HB12.out Ho512.out Ha12.out Ga12.out HMJ.out (by omega)
        · refine ⟨_, (by rfl), fun K' hK' => ?_⟩
          rw [if_pos (by rfl)]
          have HK := Lib.hid hK'
          clear hK'
          have hnew := heap_alloc_new2 w9 (.cells #[.slice none 0 0, .slice none 0 0, .int .i64 0] 25) w9.heap.size _ rfl
          have hgb : wq.heap.size ≤ w9.heap.size := HB9.out.size
          go_simp
          have Ho213 := Lib.hid (Ho29.out.alloc (.cells #[.slice none 0 0, .slice none 0 0, .int .i64 0] 25))
          have Hx413 := Lib.hid (blk_alloc Hx49.out (.cells #[.slice none 0 0, .slice none 0 0, .int .i64 0] 25))
          have HB13 := Lib.hid (below_alloc HB9.out (.cells #[.slice none 0 0, .slice none 0 0, .int .i64 0] 25))
          refine HK.out _ _ ⟨HB13.out, ?_⟩
          clear HK K'
          try simp only [Act.put, List.setIfInBounds_toArray, List.set_cons_zero, List.set_cons_succ]
          obtain ⟨w13, hw13⟩ : ∃ W0, w9.alloc (.cells #[.slice none 0 0, .slice none 0 0, .int .i64 0] 25) = W0 := ⟨_, rfl⟩
          obtain ⟨ga, hga⟩ : ∃ x, w9.heap.size = x := ⟨_, rfl⟩
          rw [hw13] at hnew HB13 Ho213 Hx413 ⊢
          rw [hga] at hnew hgb ⊢
          have Ha13 := Lib.hid hnew
          have Ga13 := Lib.hid hgb
          clear hnew hgb hw13 hga
          refine wpAnyT_one2 5 rfl (by kernel_rfl) ?_
          intro K' hK'
          rw [if_pos (by rfl)]
          have HK := Lib.hid hK'
          clear hK'
          refine oper_append_own2 _ (.tmp 23) (.tmp 25) 22 (by rfl) wq.heap.size 30 i84 _ 4 32 Tryd.underlying22 hi84 y0 y1 y2 rfl (by decide) (.slice (some ⟨gl, 0, none⟩) m cl) m (i4s LL) (by rfl) Ho213.out ⟨g4, 0, none⟩ 1 1 [.int .i64 3, .int .i64 0, .int .i64 0, .int .i64 0] (by rfl) rfl ?n14 ?q14 (by simp only [maxLen]; omega) (by omega) HB13.out.size ?_
          case n14 => exact CellsAt_add ⟨lt_of_some Hx413.out, fun j u hu => by rw [cell_of_row _ _ _ _ _ _ Hx413.out]; simpa using hu⟩
          case q14 => (intro u hu; simp only [List.mem_cons, List.not_mem_nil, or_false] at hu; rcases hu with rfl | rfl | rfl | rfl <;> rfl)
          intro v14 w14 hown hgr hvb
          rw [show i4s LL ++ [.int .i64 3, .int .i64 0, .int .i64 0, .int .i64 0] = i4s (LL ++ [Plain.jmp]) by rw [i4s_append]; rfl] at hown
          obtain ⟨u5, c5, rfl⟩ := own_slice hown
          have hA2 := (hgr.block ga (lt_of_some Ha13.out) (fun e => own_not_box Ho213.out Ha13.out e.symm)).trans Ha13.out
          have Ha14 := Lib.hid hA2
          clear hA2
          have HB14 := Lib.hid (HB13.out.grown hgr HB13.out.size (fun g hg => (Ho213.out.lt g hg).1))
          have Ho514 := Lib.hid hown
          refine HK.out _ _ ⟨HB14.out, ?_⟩
          clear HK K' hown hgr hvb
          try simp only [Act.put, List.setIfInBounds_toArray, List.set_cons_zero, List.set_cons_succ]
          refine wpAnyT_take2 10 (v := ?tvx15) (by kernel_rfl) rfl (by kernel_rfl) (fun _ _ _ h => h) (Or.inl ⟨by rfl, ?tyx15⟩) HB14.out ?trx15
          case tyx15 => (intro w' hSw; (try dsimp only at hSw); go_simp; try with_reducible rfl)
          try simp only [Act.put, List.setIfInBounds_toArray, List.set_cons_zero, List.set_cons_succ]
          obtain ⟨s0, s1, s2⟩ := blk_cells3 Ha14.out
          have z0 := blk_frozen Ha14.out 0
          have z1 := blk_frozen Ha14.out 1
          have z2 := blk_frozen Ha14.out 2
          refine ⟨by kernel_rfl, ?_⟩
          change wpList _ _ _ [_] _ _
          go_wp2
          refine NoPanic.normal ?_
          go_wp2
          go_meet
          case rel => exact qmid_of HB14.out Ho514.out Ha14.out Ga13.out HMJ.out (by omega)
      · refine ⟨_, (by rfl), fun K' hK' => ?_⟩
        rw [if_pos (by rfl)]
        have HK := Lib.hid hK'
        clear hK'
        have hnew := heap_alloc_new2 w8 (.cells #[.slice none 0 0, .slice none 0 0, .int .i64 0] 25) w8.heap.size _ rfl
        have hgb : wq.heap.size ≤ w8.heap.size := HB8.out.size
        go_simp
        have Ho216 := Lib.hid (Ho28.out.alloc (.cells #[.slice none 0 0, .slice none 0 0, .int .i64 0] 25))
        have HB16 := Lib.hid (below_alloc HB8.out (.cells #[.slice none 0 0, .slice none 0 0, .int .i64 0] 25))
        refine HK.out _ _ ⟨HB16.out, ?_⟩
        clear HK K'
        try simp only [Act.put, List.setIfInBounds_toArray, List.set_cons_zero, List.set_cons_succ]
        obtain ⟨w16, hw16⟩ : ∃ W0, w8.alloc (.cells #[.slice none 0 0, .slice none 0 0, .int .i64 0] 25) = W0 := ⟨_, rfl⟩
        obtain ⟨ga, hga⟩ : ∃ x, w8.heap.size = x := ⟨_, rfl⟩
        rw [hw16] at hnew HB16 Ho216 ⊢
        rw [hga] at hnew hgb ⊢
        have Ha16 := Lib.hid hnew
        have Ga16 := Lib.hid hgb
        clear hnew hgb hw16 hga
        refine wpAnyT_one2 4 rfl (by kernel_rfl) ?_
        intro K' hK'
        rw [if_pos (by rfl)]
        have HK := Lib.hid hK'
        clear hK'
        have hnew := heap_alloc_new2 w16 (.cells #[.int .i64 3, .int .i64 0, .int .i64 0, .int .i64 0] 30) w16.heap.size _ rfl
        have hgb : wq.heap.size ≤ w16.heap.size := HB16.out.size
        go_simp
        have Ho217 := Lib.hid (Ho216.out.alloc (.cells #[.int .i64 3, .int .i64 0, .int .i64 0, .int .i64 0] 30))
        have Ha17 := Lib.hid (blk_alloc Ha16.out (.cells #[.int .i64 3, .int .i64 0, .int .i64 0, .int .i64 0] 30))
        have HB17 := Lib.hid (below_alloc HB16.out (.cells #[.int .i64 3, .int .i64 0, .int .i64 0, .int .i64 0] 30))
        refine HK.out _ _ ⟨HB17.out, ?_⟩
        clear HK K'
        try simp only [Act.put, List.setIfInBounds_toArray, List.set_cons_zero, List.set_cons_succ]
        obtain ⟨w17, hw17⟩ : ∃ W0, w16.alloc (.cells #[.int .i64 3, .int .i64 0, .int .i64 0, .int .i64 0] 30) = W0 := ⟨_, rfl⟩
        obtain ⟨g4, hg4⟩ : ∃ x, w16.heap.size = x := ⟨_, rfl⟩
        rw [hw17] at hnew HB17 Ho217 Ha17 ⊢
        rw [hg4] at hnew hgb ⊢
        have Hx417 := Lib.hid hnew
        have Gx417 := Lib.hid hgb
        clear hnew hgb hw17 hg4
        refine wpAnyT_one2 5 rfl (by kernel_rfl) ?_
        intro K' hK'
        rw [if_pos (by rfl)]
        have HK := Lib.hid hK'
        clear hK'
        refine oper_append_own2 _ (.tmp 23) (.tmp 25) 22 (by rfl) wq.heap.size 30 i84 _ 4 32 Tryd.underlying22 hi84 y0 y1 y2 rfl (by decide) (.slice (some ⟨gl, 0, none⟩) m cl) m (i4s LL) (by rfl) Ho217.out ⟨g4, 0, none⟩ 1 1 [.int .i64 3, .int .i64 0, .int .i64 0, .int .i64 0] (by rfl) rfl ?n18 ?q18 (by simp only [maxLen]; omega) (by omega) HB17.out.size ?_
        case n18 => exact CellsAt_add ⟨lt_of_some Hx417.out, fun j u hu => by rw [cell_of_row _ _ _ _ _ _ Hx417.out]; simpa using hu⟩
        case q18 => (intro u hu; simp only [List.mem_cons, List.not_mem_nil, or_false] at hu; rcases hu with rfl | rfl | rfl | rfl <;> rfl)
        intro v18 w18 hown hgr hvb
        rw [show i4s LL ++ [.int .i64 3, .int .i64 0, .int .i64 0, .int .i64 0] = i4s (LL ++ [Plain.jmp]) by rw [i4s_append]; rfl] at hown
        obtain ⟨u5, c5, rfl⟩ := own_slice hown
        have hA2 := (hgr.block ga (lt_of_some Ha17.out) (fun e => own_not_box Ho217.out Ha17.out e.symm)).trans Ha17.out
        have Ha18 := Lib.hid hA2
        clear hA2
        have HB18 := Lib.hid (HB17.out.grown hgr HB17.out.size (fun g hg => (Ho217.out.lt g hg).1))
        have Ho518 := Lib.hid hown
        refine HK.out _ _ ⟨HB18.out, ?_⟩
        clear HK K' hown hgr hvb
        try simp only [Act.put, List.setIfInBounds_toArray, List.set_cons_zero, List.set_cons_succ]
        refine wpAnyT_take2 10 (v := ?tvx19) (by kernel_rfl) rfl (by kernel_rfl) (fun _ _ _ h => h) (Or.inl ⟨by rfl, ?tyx19⟩) HB18.out ?trx19
        case tyx19 => (intro w' hSw; (try dsimp only at hSw); go_simp; try with_reducible rfl)
        try simp only [Act.put, List.setIfInBounds_toArray, List.set_cons_zero, List.set_cons_succ]
        obtain ⟨s0, s1, s2⟩ := blk_cells3 Ha18.out
        have z0 := blk_frozen Ha18.out 0
        have z1 := blk_frozen Ha18.out 1
        have z2 := blk_frozen Ha18.out 2
        refine ⟨by kernel_rfl, ?_⟩
        change wpList _ _ _ [_] _ _
        go_wp2
        refine NoPanic.normal ?_
        go_wp2
        go_meet
        case rel => exact qmid_of HB18.out Ho518.out Ha18.out Ga16.out HMJ.out (by omega)
    · refine ⟨_, (by rfl), fun K' hK' => ?_⟩
      rw [if_pos (by rfl)]
      have HK := Lib.hid hK'
      clear hK'
      have hnew := heap_alloc_new2 wd (.cells #[.int .i64 3, .int .i64 0, .int .i64 0, .int .i64 0] 30) wd.heap.size _ rfl
      have hgb : wq.heap.size ≤ wd.heap.size := HBq.out.size
      go_simp
      have HB20 := Lib.hid (below_alloc HBq.out (.cells #[.int .i64 3, .int .i64 0, .int .i64 0, .int .i64 0] 30))
      refine HK.out _ _ ⟨HB20.out, ?_⟩
      clear HK K'
      try simp only [Act.put, List.setIfInBounds_toArray, List.set_cons_zero, List.set_cons_succ]
      obtain ⟨w20, hw20⟩ : ∃ W0, wd.alloc (.cells #[.int .i64 3, .int .i64 0, .int .i64 0, .int .i64 0] 30) = W0 := ⟨_, rfl⟩
      obtain ⟨g4, hg4⟩ : ∃ x, wd.heap.size = x := ⟨_, rfl⟩
      rw [hw20] at hnew HB20 ⊢
      rw [hg4] at hnew hgb ⊢
      have Hx420 := Lib.hid hnew
      have Gx420 := Lib.hid hgb
      clear hnew hgb hw20 hg4
      refine wpAnyT_all [2, 11] (by kernel_rfl) (by decide) (fun i hi => ?_)
      simp only [List.mem_cons, List.not_mem_nil, or_false] at hi
      rcases hi with rfl | rfl
      · refine ⟨_, (by rfl), fun K' hK' => ?_⟩
        rw [if_pos (by rfl)]
        have HK := Lib.hid hK'
        clear hK'
        refine oper_append_own2 _ (.const (.slice none 0 0)) (.tmp 22) 22 (by rfl) wq.heap.size 30 i84 _ 4 32 Tryd.underlying22 hi84 y0 y1 y2 rfl (by decide) (.slice none 0 0) 0 [] (by rfl) (World.ownsRow_nil _ _ _ _) ⟨bI, oI, none⟩ m c (i4s LL) (by rfl) (by rw [i4s_len, HM.out]) ?n21 (i4s_one LL) (by simp only [maxLen]; omega) (by omega) HB20.out.size ?_
        case n21 => exact HCI.out _ HB20.out
        intro v21 w21 hown hgr hvb
        rw [Nat.zero_add, List.nil_append] at hown
        obtain ⟨gl, cl, rfl, hmcl, hgl, hcl⟩ := own_at hown hm1.1
        have hbl : Below w20.heap.size w20 w21 := ⟨hgr.os, hgr.tape, hgr.output, hgr.size, fun k hk => hgr.block k hk (by simp [Value.ownBlock])⟩
        have Hx421 := Lib.hid (blk_later Hx420.out hbl)
        have HB21 := Lib.hid (below_then HB20.out hbl)
        have Ho221 := Lib.hid hown
        refine HK.out _ _ ⟨HB21.out, ?_⟩
        clear HK K' hown hgr hvb hcl hbl
        try simp only [Act.put, List.setIfInBounds_toArray, List.set_cons_zero, List.set_cons_succ]
        refine wpAnyT_all [5, 11] (by kernel_rfl) (by decide) (fun i hi => ?_)
        simp only [List.mem_cons, List.not_mem_nil, or_false] at hi
        rcases hi with rfl | rfl
        · refine ⟨_, (by rfl), fun K' hK' => ?_⟩
          rw [if_pos (by rfl)]
          have HK := Lib.hid hK'
          clear hK'
          refine oper_append_own2 _ (.tmp 23) (.tmp 25) 22 (by rfl) wq.heap.size 30 i84 _ 4 32 Tryd.underlying22 hi84 y0 y1 y2 rfl (by decide) (.slice (some ⟨gl, 0, none⟩) m cl) m (i4s LL) (by rfl) Ho221.out ⟨g4, 0, none⟩ 1 1 [.int .i64 3, .int .i64 0, .int .i64 0, .int .i64 0] (by rfl) rfl ?n22 ?q22 (by simp only [maxLen]; omega) (by omega) HB21.out.size ?_
          case n22 => exact CellsAt_add ⟨lt_of_some Hx421.out, fun j u hu => by rw [cell_of_row _ _ _ _ _ _ Hx421.out]; simpa using hu⟩
          case q22 => (intro u hu; simp only [List.mem_cons, List.not_mem_nil, or_false] at hu; rcases hu with rfl | rfl | rfl | rfl <;> rfl)
          intro v22 w22 hown hgr hvb
          rw [show i4s LL ++ [.int .i64 3, .int .i64 0, .int .i64 0, .int .i64 0] = i4s (LL ++ [Plain.jmp]) by rw [i4s_append]; rfl] at hown
          obtain ⟨u5, c5, rfl⟩ := own_slice hown
          have HB22 := Lib.hid (HB21.out.grown hgr HB21.out.size (fun g hg => (Ho221.out.lt g hg).1))
          have Ho522 := Lib.hid hown
          refine HK.out _ _ ⟨HB22.out, ?_⟩
          clear HK K' hown hgr hvb
          try simp only [Act.put, List.setIfInBounds_toArray, List.set_cons_zero, List.set_cons_succ]
          refine wpAnyT_take2 10 (v := ?tvx23) (by kernel_rfl) rfl (by kernel_rfl) (fun _ _ _ h => h) (Or.inl ⟨by rfl, ?tyx23⟩) HB22.out ?trx23
          case tyx23 => (intro w' hSw; (try dsimp only at hSw); go_simp; try with_reducible rfl)
          try simp only [Act.put, List.setIfInBounds_toArray, List.set_cons_zero, List.set_cons_succ]
          refine wpAnyT_one2 11 rfl (by kernel_rfl) ?_
          intro K' hK'
          rw [if_pos (by rfl)]
          have HK := Lib.hid hK'
          clear hK'
          have hnew := heap_alloc_new2 w22 (.cells #[.slice none 0 0, .slice none 0 0, .int .i64 0] 25) w22.heap.size _ rfl
          have hgb : wq.heap.size ≤ w22.heap.size := HB22.out.size
          go_simp
          have Ho524 := Lib.hid (Ho522.out.alloc (.cells #[.slice none 0 0, .slice none 0 0, .int .i64 0] 25))
          have HB24 := Lib.hid (below_alloc HB22.out (.cells #[.slice none 0 0, .slice none 0 0, .int .i64 0] 25))
          refine HK.out _ _ ⟨HB24.out, ?_⟩
          clear HK K'
          try simp only [Act.put, List.setIfInBounds_toArray, List.set_cons_zero, List.set_cons_succ]
          obtain ⟨w24, hw24⟩ : ∃ W0, w22.alloc (.cells #[.slice none 0 0, .slice none 0 0, .int .i64 0] 25) = W0 := ⟨_, rfl⟩
          obtain ⟨ga, hga⟩ : ∃ x, w22.heap.size = x := ⟨_, rfl⟩
          rw [hw24] at hnew HB24 Ho524 ⊢
          rw [hga] at hnew hgb ⊢
          have Ha24 := Lib.hid hnew
          have Ga24 := Lib.hid hgb
          clear hnew hgb hw24 hga
          obtain ⟨s0, s1, s2⟩ := blk_cells3 Ha24.out
          have z0 := blk_frozen Ha24.out 0
          have z1 := blk_frozen Ha24.out 1
          have z2 := blk_frozen Ha24.out 2
          refine ⟨by kernel_rfl, ?_⟩
          change wpList _ _ _ [_] _ _
          go_wp2
          refine NoPanic.normal ?_
          go_wp2
          go_meet
          case rel => exact qmid_of HB24.out Ho524.out Ha24.out Ga24.out HMJ.out (by omega)
        · refine ⟨_, (by rfl), fun K' hK' => ?_⟩
          rw [if_pos (by rfl)]
          have HK := Lib.hid hK'
          clear hK'
          have hnew := heap_alloc_new2 w21 (.cells #[.slice none 0 0, .slice none 0 0, .int .i64 0] 25) w21.heap.size _ rfl
          have hgb : wq.heap.size ≤ w21.heap.size := HB21.out.size
          go_simp
          have Ho225 := Lib.hid (Ho221.out.alloc (.cells #[.slice none 0 0, .slice none 0 0, .int .i64 0] 25))
          have Hx425 := Lib.hid (blk_alloc Hx421.out (.cells #[.slice none 0 0, .slice none 0 0, .int .i64 0] 25))
          have HB25 := Lib.hid (below_alloc HB21.out (.cells #[.slice none 0 0, .slice none 0 0, .int .i64 0] 25))
          refine HK.out _ _ ⟨HB25.out, ?_⟩
          clear HK K'
          try simp only [Act.put, List.setIfInBounds_toArray, List.set_cons_zero, List.set_cons_succ]
          obtain ⟨w25, hw25⟩ : ∃ W0, w21.alloc (.cells #[.slice none 0 0, .slice none 0 0, .int .i64 0] 25) = W0 := ⟨_, rfl⟩
          obtain ⟨ga, hga⟩ : ∃ x, w21.heap.size = x := ⟨_, rfl⟩
          rw [hw25] at hnew HB25 Ho225 Hx425 ⊢
          rw [hga] at hnew hgb ⊢
          have Ha25 := Lib.hid hnew
          have Ga25 := Lib.hid hgb
          clear hnew hgb hw25 hga
          refine wpAnyT_one2 5 rfl (by kernel_rfl) ?_
          intro K' hK'
          rw [if_pos (by rfl)]
          have HK := Lib.hid hK'
          clear hK'
          refine oper_append_own2 _ (.tmp 23) (.tmp 25) 22 (by rfl) wq.heap.size 30 i84 _ 4 32 Tryd.underlying22 hi84 y0 y1 y2 rfl (by decide) (.slice (some ⟨gl, 0, none⟩) m cl) m (i4s LL) (by rfl) Ho225.out ⟨g4, 0, none⟩ 1 1 [.int .i64 3, .int .i64 0, .int .i64 0, .int .i64 0] (by rfl) rfl ?n26 ?q26 (by simp only [maxLen]; omega) (by omega) HB25.out.size ?_
          case n26 => exact CellsAt_add ⟨lt_of_some Hx425.out, fun j u hu => by rw [cell_of_row _ _ _ _ _ _ Hx425.out]; simpa using hu⟩
          case q26 => (intro u hu; simp only [List.mem_cons, List.not_mem_nil, or_false] at hu; rcases hu with rfl | rfl | rfl | rfl <;> rfl)
          intro v26 w26 hown hgr hvb
          rw [show i4s LL ++ [.int .i64 3, .int .i64 0, .int .i64 0, .int .i64 0] = i4s (LL ++ [Plain.jmp]) by rw [i4s_append]; rfl] at hown
          obtain ⟨u5, c5, rfl⟩ := own_slice hown
          have hA2 := (hgr.block ga (lt_of_some Ha25.out) (fun e => own_not_box Ho225.out Ha25.out e.symm)).trans Ha25.out
          have Ha26 := Lib.hid hA2
          clear hA2
          have HB26 := Lib.hid (HB25.out.grown hgr HB25.out.size (fun g hg => (Ho225.out.lt g hg).1))
          have Ho526 := Lib.hid hown
          refine HK.out _ _ ⟨HB26.out, ?_⟩
          clear HK K' hown hgr hvb
          try simp only [Act.put, List.setIfInBounds_toArray, List.set_cons_zero, List.set_cons_succ]
          refine wpAnyT_take2 10 (v := ?tvx27) (by kernel_rfl) rfl (by kernel_rfl) (fun _ _ _ h => h) (Or.inl ⟨by rfl, ?tyx27⟩) HB26.out ?trx27
          case tyx27 => (intro w' hSw; (try dsimp only at hSw); go_simp; try with_reducible rfl)
          try simp only [Act.put, List.setIfInBounds_toArray, List.set_cons_zero, List.set_cons_succ]
          obtain ⟨s0, s1, s2⟩ := blk_cells3 Ha26.out
          have z0 := blk_frozen Ha26.out 0
          have z1 := blk_frozen Ha26.out 1
          have z2 := blk_frozen Ha26.out 2
          refine ⟨by kernel_rfl, ?_⟩
          change wpList _ _ _ [_] _ _
          go_wp2
          refine NoPanic.normal ?_
          go_wp2
          go_meet
          case rel => exact qmid_of HB26.out Ho526.out Ha26.out Ga25.out HMJ.out (by omega)
      · refine ⟨_, (by rfl), fun K' hK' => ?_⟩
        rw [if_pos (by rfl)]
        have HK := Lib.hid hK'
        clear hK'
        have hnew := heap_alloc_new2 w20 (.cells #[.slice none 0 0, .slice none 0 0, .int .i64 0] 25) w20.heap.size _ rfl
        have hgb : wq.heap.size ≤ w20.heap.size := HB20.out.size
        go_simp
        have Hx428 := Lib.hid (blk_alloc Hx420.out (.cells #[.slice none 0 0, .slice none 0 0, .int .i64 0] 25))
        have HB28 := Lib.hid (below_alloc HB20.out (.cells #[.slice none 0 0, .slice none 0 0, .int .i64 0] 25))
        refine HK.out _ _ ⟨HB28.out, ?_⟩
        clear HK K'
        try simp only [Act.put, List.setIfInBounds_toArray, List.set_cons_zero, List.set_cons_succ]
        obtain ⟨w28, hw28⟩ : ∃ W0, w20.alloc (.cells #[.slice none 0 0, .slice none 0 0, .int .i64 0] 25) = W0 := ⟨_, rfl⟩
        obtain ⟨ga, hga⟩ : ∃ x, w20.heap.size = x := ⟨_, rfl⟩
        rw [hw28] at hnew HB28 Hx428 ⊢
        rw [hga] at hnew hgb ⊢
        have Ha28 := Lib.hid hnew
        have Ga28 := Lib.hid hgb
        clear hnew hgb hw28 hga
        refine wpAnyT_one2 2 rfl (by kernel_rfl) ?_
        intro K' hK'
        rw [if_pos (by rfl)]
        have HK := Lib.hid hK'
        clear hK'
        refine oper_append_own2 _ (.const (.slice none 0 0)) (.tmp 22) 22 (by rfl) wq.heap.size 30 i84 _ 4 32 Tryd.underlying22 hi84 y0 y1 y2 rfl (by decide) (.slice none 0 0) 0 [] (by rfl) (World.ownsRow_nil _ _ _ _) ⟨bI, oI, none⟩ m c (i4s LL) (by rfl) (by rw [i4s_len, HM.out]) ?n29 (i4s_one LL) (by simp only [maxLen]; omega) (by omega) HB28.out.size ?_
        case n29 => exact HCI.out _ HB28.out
        intro v29 w29 hown hgr hvb
        rw [Nat.zero_add, List.nil_append] at hown
        obtain ⟨gl, cl, rfl, hmcl, hgl, hcl⟩ := own_at hown hm1.1
        have hbl : Below w28.heap.size w28 w29 := ⟨hgr.os, hgr.tape, hgr.output, hgr.size, fun k hk => hgr.block k hk (by simp [Value.ownBlock])⟩
        have Hx429 := Lib.hid (blk_later Hx428.out hbl)
        have Ha29 := Lib.hid (blk_later Ha28.out hbl)
        have HB29 := Lib.hid (below_then HB28.out hbl)
        have Ho229 := Lib.hid hown
        refine HK.out _ _ ⟨HB29.out, ?_⟩
        clear HK K' hown hgr hvb hcl hbl
        try simp only [Act.put, List.setIfInBounds_toArray, List.set_cons_zero, List.set_cons_succ]
        refine wpAnyT_one2 5 rfl (by kernel_rfl) ?_
        intro K' hK'
        rw [if_pos (by rfl)]
        have HK := Lib.hid hK'
        clear hK'
        refine oper_append_own2 _ (.tmp 23) (.tmp 25) 22 (by rfl) wq.heap.size 30 i84 _ 4 32 Tryd.underlying22 hi84 y0 y1 y2 rfl (by decide) (.slice (some ⟨gl, 0, none⟩) m cl) m (i4s LL) (by rfl) Ho229.out ⟨g4, 0, none⟩ 1 1 [.int .i64 3, .int .i64 0, .int .i64 0, .int .i64 0] (by rfl) rfl ?n30 ?q30 (by simp only [maxLen]; omega) (by omega) HB29.out.size ?_
        case n30 => exact CellsAt_add ⟨lt_of_some Hx429.out, fun j u hu => by rw [cell_of_row _ _ _ _ _ _ Hx429.out]; simpa using hu⟩
        case q30 => (intro u hu; simp only [List.mem_cons, List.not_mem_nil, or_false] at hu; rcases hu with rfl | rfl | rfl | rfl <;> rfl)
        intro v30 w30 hown hgr hvb
        rw [show i4s LL ++ [.int .i64 3, .int .i64 0, .int .i64 0, .int .i64 0] = i4s (LL ++ [Plain.jmp]) by rw [i4s_append]; rfl] at hown
        obtain ⟨u5, c5, rfl⟩ := own_slice hown
        have hA2 := (hgr.block ga (lt_of_some Ha29.out) (fun e => own_not_box Ho229.out Ha29.out e.symm)).trans Ha29.out
        have Ha30 := Lib.hid hA2
        clear hA2
        have HB30 := Lib.hid (HB29.out.grown hgr HB29.out.size (fun g hg => (Ho229.out.lt g hg).1))
        have Ho530 := Lib.hid hown
        refine HK.out _ _ ⟨HB30.out, ?_⟩
        clear HK K' hown hgr hvb
        try simp only [Act.put, List.setIfInBounds_toArray, List.set_cons_zero, List.set_cons_succ]
        refine wpAnyT_take2 10 (v := ?tvx31) (by kernel_rfl) rfl (by kernel_rfl) (fun _ _ _ h => h) (Or.inl ⟨by rfl, ?tyx31⟩) HB30.out ?trx31
        case tyx31 => (intro w' hSw; (try dsimp only at hSw); go_simp; try with_reducible rfl)
        try simp only [Act.put, List.setIfInBounds_toArray, List.set_cons_zero, List.set_cons_succ]
        obtain ⟨s0, s1, s2⟩ := blk_cells3 Ha30.out
        have z0 := blk_frozen Ha30.out 0
        have z1 := blk_frozen Ha30.out 1
        have z2 := blk_frozen Ha30.out 2
        refine ⟨by kernel_rfl, ?_⟩
        change wpList _ _ _ [_] _ _
        go_wp2
        refine NoPanic.normal ?_
        go_wp2
        go_meet
        case rel => exact qmid_of HB30.out Ho530.out Ha30.out Ga28.out HMJ.out (by omega)
    · refine ⟨_, (by rfl), fun K' hK' => ?_⟩
      rw [if_pos (by rfl)]
      have HK := Lib.hid hK'
      clear hK'
      have hnew := heap_alloc_new2 wd (.cells #[.slice none 0 0, .slice none 0 0, .int .i64 0] 25) wd.heap.size _ rfl
      have hgb : wq.heap.size ≤ wd.heap.size := HBq.out.size
      go_simp
      have HB32 := Lib.hid (below_alloc HBq.out (.cells #[.slice none 0 0, .slice none 0 0, .int .i64 0] 25))
      refine HK.out _ _ ⟨HB32.out, ?_⟩
      clear HK K'
      try simp only [Act.put, List.setIfInBounds_toArray, List.set_cons_zero, List.set_cons_succ]
      obtain ⟨w32, hw32⟩ : ∃ W0, wd.alloc (.cells #[.slice none 0 0, .slice none 0 0, .int .i64 0] 25) = W0 := ⟨_, rfl⟩
      obtain ⟨ga, hga⟩ : ∃ x, wd.heap.size = x := ⟨_, rfl⟩
      rw [hw32] at hnew HB32 ⊢
      rw [hga] at hnew hgb ⊢
      have Ha32 := Lib.hid hnew
      have Ga32 := Lib.hid hgb
      clear hnew hgb hw32 hga
      refine wpAnyT_all [2, 4] (by kernel_rfl) (by decide) (fun i hi => ?_)
      simp only [List.mem_cons, List.not_mem_nil, or_false] at hi
      rcases hi with rfl | rfl
      · refine ⟨_, (by rfl), fun K' hK' => ?_⟩
        rw [if_pos (by rfl)]
        have HK := Lib.hid hK'
        clear hK'
        refine oper_append_own2 _ (.const (.slice none 0 0)) (.tmp 22) 22 (by rfl) wq.heap.size 30 i84 _ 4 32 Tryd.underlying22 hi84 y0 y1 y2 rfl (by decide) (.slice none 0 0) 0 [] (by rfl) (World.ownsRow_nil _ _ _ _) ⟨bI, oI, none⟩ m c (i4s LL) (by rfl) (by rw [i4s_len, HM.out]) ?n33 (i4s_one LL) (by simp only [maxLen]; omega) (by omega) HB32.out.size ?_
        case n33 => exact HCI.out _ HB32.out
        intro v33 w33 hown hgr hvb
        rw [Nat.zero_add, List.nil_append] at hown
        obtain ⟨gl, cl, rfl, hmcl, hgl, hcl⟩ := own_at hown hm1.1
        have hbl : Below w32.heap.size w32 w33 := ⟨hgr.os, hgr.tape, hgr.output, hgr.size, fun k hk => hgr.block k hk (by simp [Value.ownBlock])⟩
        have Ha33 := Lib.hid (blk_later Ha32.out hbl)
        have HB33 := Lib.hid (below_then HB32.out hbl)
        have Ho233 := Lib.hid hown
        refine HK.out _ _ ⟨HB33.out, ?_⟩
        clear HK K' hown hgr hvb hcl hbl
        try simp only [Act.put, List.setIfInBounds_toArray, List.set_cons_zero, List.set_cons_succ]
        refine wpAnyT_one2 4 rfl (by kernel_rfl) ?_
        intro K' hK'
        rw [if_pos (by rfl)]
        have HK := Lib.hid hK'
        clear hK'
        have hnew := heap_alloc_new2 w33 (.cells #[.int .i64 3, .int .i64 0, .int .i64 0, .int .i64 0] 30) w33.heap.size _ rfl
        have hgb : wq.heap.size ≤ w33.heap.size := HB33.out.size
        go_simp
        have Ho234 := Lib.hid (Ho233.out.alloc (.cells #[.int .i64 3, .int .i64 0, .int .i64 0, .int .i64 0] 30))
        have Ha34 := Lib.hid (blk_alloc Ha33.out (.cells #[.int .i64 3, .int .i64 0, .int .i64 0, .int .i64 0] 30))
        have HB34 := Lib.hid (below_alloc HB33.out (.cells #[.int .i64 3, .int .i64 0, .int .i64 0, .int .i64 0] 30))
        refine HK.out _ _ ⟨HB34.out, ?_⟩
        clear HK K'
        try simp only [Act.put, List.setIfInBounds_toArray, List.set_cons_zero, List.set_cons_succ]
        obtain ⟨w34, hw34⟩ : ∃ W0, w33.alloc (.cells #[.int .i64 3, .int .i64 0, .int .i64 0, .int .i64 0] 30) = W0 := ⟨_, rfl⟩
        obtain ⟨g4, hg4⟩ : ∃ x, w33.heap.size = x := ⟨_, rfl⟩
        rw [hw34] at hnew HB34 Ho234 Ha34 ⊢
        rw [hg4] at hnew hgb ⊢
        have Hx434 := Lib.hid hnew
        have Gx434 := Lib.hid hgb
        clear hnew hgb hw34 hg4
        refine wpAnyT_one2 5 rfl (by kernel_rfl) ?_
        intro K' hK'
        rw [if_pos (by rfl)]
        have HK := Lib.hid hK'
        clear hK'
        refine oper_append_own2 _ (.tmp 23) (.tmp 25) 22 (by rfl) wq.heap.size 30 i84 _ 4 32 Tryd.underlying22 hi84 y0 y1 y2 rfl (by decide) (.slice (some ⟨gl, 0, none⟩) m cl) m (i4s LL) (by rfl) Ho234.out ⟨g4, 0, none⟩ 1 1 [.int .i64 3, .int .i64 0, .int .i64 0, .int .i64 0] (by rfl) rfl ?n35 ?q35 (by simp only [maxLen]; omega) (by omega) HB34.out.size ?_
        case n35 => exact CellsAt_add ⟨lt_of_some Hx434.out, fun j u hu => by rw [cell_of_row _ _ _ _ _ _ Hx434.out]; simpa using hu⟩
        case q35 => (intro u hu; simp only [List.mem_cons, List.not_mem_nil, or_false] at hu; rcases hu with rfl | rfl | rfl | rfl <;> rfl)
        intro v35 w35 hown hgr hvb
        rw [show i4s LL ++ [.int .i64 3, .int .i64 0, .int .i64 0, .int .i64 0] = i4s (LL ++ [Plain.jmp]) by rw [i4s_append]; rfl] at hown
        obtain ⟨u5, c5, rfl⟩ := own_slice hown
        have hA2 := (hgr.block ga (lt_of_some Ha34.out) (fun e => own_not_box Ho234.out Ha34.out e.symm)).trans Ha34.out
        have Ha35 := Lib.hid hA2
        clear hA2
        have HB35 := Lib.hid (HB34.out.grown hgr HB34.out.size (fun g hg => (Ho234.out.lt g hg).1))
        have Ho535 := Lib.hid hown
        refine HK.out _ _ ⟨HB35.out, ?_⟩
        clear HK K' hown hgr hvb
        try simp only [Act.put, List.setIfInBounds_toArray, List.set_cons_zero, List.set_cons_succ]
        refine wpAnyT_take2 10 (v := ?tvx36) (by kernel_rfl) rfl (by kernel_rfl) (fun _ _ _ h => h) (Or.inl ⟨by rfl, ?tyx36⟩) HB35.out ?trx36
        case tyx36 => (intro w' hSw; (try dsimp only at hSw); go_simp; try with_reducible rfl)
        try simp only [Act.put, List.setIfInBounds_toArray, List.set_cons_zero, List.set_cons_succ]
        obtain ⟨s0, s1, s2⟩ := blk_cells3 Ha35.out
        have z0 := blk_frozen Ha35.out 0
        have z1 := blk_frozen Ha35.out 1
        have z2 := blk_frozen Ha35.out 2
        refine ⟨by kernel_rfl, ?_⟩
        change wpList _ _ _ [_] _ _
        go_wp2
        refine NoPanic.normal ?_
        go_wp2
        go_meet
        case rel => exact qmid_of HB35.out Ho535.out Ha35.out Ga32.out HMJ.out (by omega)
      · refine ⟨_, (by rfl), fun K' hK' => ?_⟩
        rw [if_pos (by rfl)]
        have HK := Lib.hid hK'
        clear hK'
        have hnew := heap_alloc_new2 w32 (.cells #[.int .i64 3, .int .i64 0, .int .i64 0, .int .i64 0] 30) w32.heap.size _ rfl
        have hgb : wq.heap.size ≤ w32.heap.size := HB32.out.size
        go_simp
        have Ha37 := Lib.hid (blk_alloc Ha32.out (.cells #[.int .i64 3, .int .i64 0, .int .i64 0, .int .i64 0] 30))
        have HB37 := Lib.hid (below_alloc HB32.out (.cells #[.int .i64 3, .int .i64 0, .int .i64 0, .int .i64 0] 30))
        refine HK.out _ _ ⟨HB37.out, ?_⟩
        clear HK K'
        try simp only [Act.put, List.setIfInBounds_toArray, List.set_cons_zero, List.set_cons_succ]
        obtain ⟨w37, hw37⟩ : ∃ W0, w32.alloc (.cells #[.int .i64 3, .int .i64 0, .int .i64 0, .int .i64 0] 30) = W0 := ⟨_, rfl⟩
        obtain ⟨g4, hg4⟩ : ∃ x, w32.heap.size = x := ⟨_, rfl⟩
        rw [hw37] at hnew HB37 Ha37 ⊢
        rw [hg4] at hnew hgb ⊢
        have Hx437 := Lib.hid hnew
        have Gx437 := Lib.hid hgb
        clear hnew hgb hw37 hg4
        refine wpAnyT_one2 2 rfl (by kernel_rfl) ?_
        intro K' hK'
        rw [if_pos (by rfl)]
        have HK := Lib.hid hK'
        clear hK'
        refine oper_append_own2 _ (.const (.slice none 0 0)) (.tmp 22) 22 (by rfl) wq.heap.size 30 i84 _ 4 32 Tryd.underlying22 hi84 y0 y1 y2 rfl (by decide) (.slice none 0 0) 0 [] (by rfl) (World.ownsRow_nil _ _ _ _) ⟨bI, oI, none⟩ m c (i4s LL) (by rfl) (by rw [i4s_len, HM.out]) ?n38 (i4s_one LL) (by simp only [maxLen]; omega) (by omega) HB37.out.size ?_
        case n38 => exact HCI.out _ HB37.out
        intro v38 w38 hown hgr hvb
        rw [Nat.zero_add, List.nil_append] at hown
        obtain ⟨gl, cl, rfl, hmcl, hgl, hcl⟩ := own_at hown hm1.1
        have hbl : Below w37.heap.size w37 w38 := ⟨hgr.os, hgr.tape, hgr.output, hgr.size, fun k hk => hgr.block k hk (by simp [Value.ownBlock])⟩
        have Hx438 := Lib.hid (blk_later Hx437.out hbl)
        have Ha38 := Lib.hid (blk_later Ha37.out hbl)
        have HB38 := Lib.hid (below_then HB37.out hbl)
        have Ho238 := Lib.hid hown
        refine HK.out _ _ ⟨HB38.out, ?_⟩
        clear HK K' hown hgr hvb hcl hbl
        try simp only [Act.put, List.setIfInBounds_toArray, List.set_cons_zero, List.set_cons_succ]
        refine wpAnyT_one2 5 rfl (by kernel_rfl) ?_
        intro K' hK'
        rw [if_pos (by rfl)]
        have HK := Lib.hid hK'
        clear hK'
        refine oper_append_own2 _ (.tmp 23) (.tmp 25) 22 (by rfl) wq.heap.size 30 i84 _ 4 32 Tryd.underlying22 hi84 y0 y1 y2 rfl (by decide) (.slice (some ⟨gl, 0, none⟩) m cl) m (i4s LL) (by rfl) Ho238.out ⟨g4, 0, none⟩ 1 1 [.int .i64 3, .int .i64 0, .int .i64 0, .int .i64 0] (by rfl) rfl ?n39 ?q39 (by simp only [maxLen]; omega) (by omega) HB38.out.size ?_
        case n39 => exact CellsAt_add ⟨lt_of_some Hx438.out, fun j u hu => by rw [cell_of_row _ _ _ _ _ _ Hx438.out]; simpa using hu⟩
        case q39 => (intro u hu; simp only [List.mem_cons, List.not_mem_nil, or_false] at hu; rcases hu with rfl | rfl | rfl | rfl <;> rfl)
        intro v39 w39 hown hgr hvb
        rw [show i4s LL ++ [.int .i64 3, .int .i64 0, .int .i64 0, .int .i64 0] = i4s (LL ++ [Plain.jmp]) by rw [i4s_append]; rfl] at hown
        obtain ⟨u5, c5, rfl⟩ := own_slice hown
        have hA2 := (hgr.block ga (lt_of_some Ha38.out) (fun e => own_not_box Ho238.out Ha38.out e.symm)).trans Ha38.out
        have Ha39 := Lib.hid hA2
        clear hA2
        have HB39 := Lib.hid (HB38.out.grown hgr HB38.out.size (fun g hg => (Ho238.out.lt g hg).1))
        have Ho539 := Lib.hid hown
        refine HK.out _ _ ⟨HB39.out, ?_⟩
        clear HK K' hown hgr hvb
        try simp only [Act.put, List.setIfInBounds_toArray, List.set_cons_zero, List.set_cons_succ]
        refine wpAnyT_take2 10 (v := ?tvx40) (by kernel_rfl) rfl (by kernel_rfl) (fun _ _ _ h => h) (Or.inl ⟨by rfl, ?tyx40⟩) HB39.out ?trx40
        case tyx40 => (intro w' hSw; (try dsimp only at hSw); go_simp; try with_reducible rfl)
        try simp only [Act.put, List.setIfInBounds_toArray, List.set_cons_zero, List.set_cons_succ]
        obtain ⟨s0, s1, s2⟩ := blk_cells3 Ha39.out
        have z0 := blk_frozen Ha39.out 0
        have z1 := blk_frozen Ha39.out 1
        have z2 := blk_frozen Ha39.out 2
        refine ⟨by kernel_rfl, ?_⟩
        change wpList _ _ _ [_] _ _
        go_wp2
        refine NoPanic.normal ?_
        go_wp2
        go_meet
        case rel => exact qmid_of HB39.out Ho539.out Ha39.out Ga32.out HMJ.out (by omega)
  case rest =>
    obtain ⟨ga, A, cw, rfl, hG, hS, hbx⟩ := hcut
    have hPw : PgAt wc A (LL ++ [Plain.jmp]) C K := ⟨hS, (HPq.out.below hbx).cls, (HPq.out.below hbx).each, by rw [HMJ.out]; unfold maxLen; omega, HPq.out.lc⟩
    have C9 := CQ.out A C (LL ++ [Plain.jmp]) K cw d gq wc hPw (by rw [HMJ.out]; omega)
    rw [HMJ.out] at hG
    rw [HMJ.out, HKN.out] at C9
    unfold pgV at C9
    have HC9 := Lib.hid C9
    have HBX := Lib.hid hbx
    have HG := Lib.hid hG
    clear C9 hPw hS hG hbx
    obtain ⟨s0, s1, s2⟩ := blk_cells3 HG.out
    go_wp2_with fail
    refine (HC9.out).mono ?_
    rintro e5 wz ⟨g2, O2, rfl, hO2l, hO2, hR2, hb⟩
    rw [HMJ.out]
    clear s0 s1 s2
    have HBZ := Lib.hid (below_then HBX.out hb)
    have hrc := fun i => Plain.rch_app (L := LL) (m := K.length) (g := gq) (by rw [HM.out]; omega) HRI.out i
    have hX : ∀ i, i < m → O2.getD i false = O1.getD i false := fun i hi => by
      rw [Bool.eq_iff_iff, hR2 i (by rw [HMJ.out]; omega), hrc, HR1.out i (by rw [HM.out]; exact hi), HM.out]
      exact ⟨fun h => h.2, fun h => ⟨hi, h⟩⟩
    have hXm : O2.getD m false = false := by
      rw [Bool.eq_false_iff]
      intro h
      have := ((hrc m).1 ((hR2 m (by rw [HMJ.out]; omega)).1 h)).1
      rw [HM.out] at this
      omega
    have hX0 : O1.getD 0 false = true := (HR1.out 0 (by rw [HM.out]; omega)).2 (Rch.zero (by rw [HM.out]; omega))
    have hF : ∀ w' : World, Below wz.heap.size wz w' → (∀ i, i < m → w'.cell? ⟨g1, i, none⟩ = some (.bool (O1.getD i false)) ∧ w'.cell? ⟨g2, i, none⟩ = some (.bool (O1.getD i false))) ∧ w'.cell? ⟨g2, m, none⟩ = some (.bool false) ∧ w'.cell? ⟨gp, 0, none⟩ = some (.slice (some ⟨bI, oI, none⟩) m c) ∧ gp < w'.heap.size ∧ g1 < w'.heap.size ∧ g2 < w'.heap.size := fun w' hw => by
      have hw1 := below_then HBZ.out hw
      have e1 := blk_later HO1.out hw1
      have e2 := blk_later hO2 hw
      refine ⟨fun i hi => ⟨bls_get e1 (by rw [HOL1.out, HM.out]; exact hi), by rw [← hX i hi]; exact bls_get e2 (by rw [hO2l, HMJ.out]; omega)⟩, by rw [← hXm]; exact bls_get e2 (by rw [hO2l, HMJ.out]; omega), (blk_cells3 (blk_later HXq.out hw1)).1, lt_of_some (blk_later HXq.out hw1), lt_of_some e1, lt_of_some e2⟩
    have hcl : ∀ k, k < m → ∀ z : Nat, (z : Int) ∈ nextL (LL.getD k (0, 0, 0, 0)) → O1.getD k false = true → z < m → O1.getD z false = true := fun k hk z hz hok hzm => by
      have h1 := (HR1.out k (by rw [HM.out]; exact hk)).1 hok
      exact (HR1.out z (by rw [HM.out]; exact hzm)).2 (h1.step (by rw [HM.out]; exact hzm) hz)
    have HF := Lib.hid hF
    have HCL := Lib.hid hcl
    have HX0 := Lib.hid hX0
    clear hF hcl hX0 hXm hX hrc hO2l hO2 hR2 hb HC9
    have hF0 := HF.out wz (Below.refl _ _)
    have r0 := (hF0.1 0 (by omega)).1
    rw [HX0.out] at r0
    have r1 := hF0.2.1
    have r2 := hF0.2.2.1
    have i0 : (0 : Int) < (m : Int) := by omega
    have i2 : (m : Int) < (m : Int) + 1 := by omega
    have i3 : (0 : Int) ≤ (m : Int) := by omega
    clear hF0
    go_wp2
    go_loopw [8] (fun i wr => ∃ k : Nat, k ≤ m ∧ i = .int .i64 k ∧ RowKit.Below wz.heap.size wz wr) (fun i _ => m - (RowKit.intOf i).toNat)
    case atStart => exact ⟨0, Nat.zero_le _, rfl, RowKit.Below.refl _ _⟩
    case round =>
      obtain ⟨k, hk, rfl, hB⟩ := hrel
      have HB := Lib.hid hB
      clear hB r0 r1 r2
      by_cases hlt : k < m
      · have hkL : k < LL.length := by rw [HM.out]; exact hlt
        obtain ⟨t, ht⟩ : ∃ t, LL[k] = t := ⟨_, rfl⟩
        have hlt' : LL[k]? = some t := by rw [List.getElem?_eq_getElem hkL, ht]
        have hgd : LL.getD k (0, 0, 0, 0) = t := by rw [Plain.getD_lt LL _ k hkL, ht]
        obtain ⟨hg0, hg1, hg2, hg3⟩ := i4s_get LL k t hlt'
        have hbq := below_then HBZ.out HB.out
        have a0 := HCI.out wr hbq _ _ hg0
        have a1 := HCI.out wr hbq _ _ hg1
        have a2 := HCI.out wr hbq _ _ hg2
        have a3 := HCI.out wr hbq _ _ hg3
        rw [Addr.add_lit] at a0 a1 a2 a3
        have hni := Plain.next_in (HRI.out t (by rw [← ht]; exact List.getElem_mem hkL))
        have hcl := HCL.out k hlt
        rw [hgd] at hcl
        rw [HM.out] at hni
        obtain ⟨hFw, _, f2, f3, f4, f5⟩ := HF.out wr HB.out
        have j0 : (0 : Int) ≤ (k : Int) := by omega
        have j1 : (k : Int) < (m : Int) := by omega
        have j2 : (k : Int) < (m : Int) + 1 := by omega
        obtain ⟨op, x, y, a⟩ := t
        dsimp only at a0 a1 a2 a3 hni
        rw [← Nat.add_assoc] at a1 a2 a3
        clear hg0 hg1 hg2 hg3 hgd hlt' ht hbq
        go_upto_region 16 with fail
        clear a0 a1 a2 a3 f2
        obtain ⟨w5, hw5⟩ : ∃ W0, wr.alloc (.cells #[.int .i64 op, .int .i64 x, .int .i64 y, .int .i64 a] 30) = W0 := ⟨_, rfl⟩
        have hb5 : Below wr.heap.size wr w5 := by rw [← hw5]; exact (Below.refl _ _).alloc (Nat.le_refl _) _
        have hT : w5.heap[wr.heap.size]? = some (.cells #[.int .i64 op, .int .i64 x, .int .i64 y, .int .i64 a] 30 (0, 0)) := by rw [← hw5]; exact heap_alloc_new2 _ _ _ _ rfl
        rw [hw5]
        have hF5 := (HF.out w5 (below_then HB.out hb5)).1
        obtain ⟨b0, b1, b2, b3⟩ := blk_cells4 hT
        have r1 := (hF5 k hlt).1
        have r2 := (hF5 k hlt).2
        have HB5 := Lib.hid (below_then HB.out hb5)
        obtain ⟨q, hq⟩ : ∃ q, O1.getD k false = q := ⟨_, rfl⟩
        rw [hq] at r1 r2 hcl
        clear hw5 hb5 hT hFw
        have fin : ∀ nq, Below wz.heap.size wz (w5.drewN nq) := fun nq => below_then HB5.out ⟨rfl, rfl, rfl, Nat.le_refl _, fun _ _ => rfl⟩
        have FIN := Lib.hid fin
        have HF5 := Lib.hid hF5
        have HNI := Lib.hid hni
        have HCK := Lib.hid hcl
        clear fin hF5 hni hcl hq
        cases q
        · clear b1 b2 b3
          go_quiet (fail)
          go_wp2
          go_roundw
          case rel => exact ⟨k + 1, by omega, by go_num, FIN.out _⟩
          case measure => simp [RowKit.intOf]; omega
        · obtain ⟨hin, hx1, hy1, hop⟩ := HNI.out
          rcases hop with rfl | rfl | hop
          · clear hin hx1 hy1
            go_quiet (fail)
            go_wp2
            go_roundw
            case rel => exact ⟨k + 1, by omega, by go_num, FIN.out _⟩
            case measure => simp [RowKit.intOf]; omega
          · have hxn := hx1 (by decide)
            have hyn := hy1 rfl
            obtain ⟨hx0, hxm⟩ := hin x hxn
            obtain ⟨hy0, hym⟩ := hin y hyn
            obtain ⟨xn, rfl⟩ := Int.eq_ofNat_of_zero_le hx0
            obtain ⟨yn, rfl⟩ := Int.eq_ofNat_of_zero_le hy0
            have c1 := (HF5.out xn (by omega)).1
            have c2 := (HF5.out yn (by omega)).1
            rw [HCK.out xn hxn rfl (by omega)] at c1
            rw [HCK.out yn hyn rfl (by omega)] at c2
            clear hin hx1 hy1 hxn hyn
            go_quiet (fail)
            go_wp2
            go_roundw
            case rel => exact ⟨k + 1, by omega, by go_num, FIN.out _⟩
            case measure => simp [RowKit.intOf]; omega
          · have hxn := hx1 (by omega)
            obtain ⟨hx0, hxm⟩ := hin x hxn
            obtain ⟨xn, rfl⟩ := Int.eq_ofNat_of_zero_le hx0
            have c1 := (HF5.out xn (by omega)).1
            rw [HCK.out xn hxn rfl (by omega)] at c1
            clear hin hx1 hy1 hxn
            rcases hop with rfl | rfl | rfl | rfl
            all_goals
              go_quiet (fail)
              go_wp2
              go_roundw
              case rel => exact ⟨k + 1, by omega, by go_num, FIN.out _⟩
              case measure => simp [RowKit.intOf]; omega
      · go_wp2
        go_ret
        exact ⟨rfl, (below_then HBW.out (below_then HBZ.out HB.out))⟩
set_option maxRecDepth 100000 in
theorem reach_all {H : Type} {enc : TypeId × Value → H} {base : Nat} {v : Value} {d : DataW H} {p : List MemPlace} (W : World) (hv : Value.okWide Tryd.prog W .any base 28 v) (h : DataW.Trod enc Tryd.prog W 0 (fun _ => true) true 28 v d p) :
    Calls Tryd.prog 4 #[v] W fun e w' => e = .returned (.bool true) ∧ Below W.heap.size W w' := by
  obtain ⟨PI, PL, pic, PC, PK, pcc, pg, own, LA, L, lc, g, rfl, hC⟩ := open_code hv h
  exact reach_w PI PC LA PL PK pic pcc lc pg own L g W hC
end Go.Proofs.YtpeheppiolfpfaaDoor
