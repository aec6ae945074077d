/- Chapter 13: the law of what is reached walked. Conditions: what each lemma says. -/
import Derived.Test.YtmiacgkidldjmaaGreatDoorSealF
set_option linter.unusedVariables false
set_option linter.unusedSimpArgs false
namespace Go.Proofs.YtmiacgkidldjmaaGreatDoor
open Go.ChangeShapes Go.WideShapes Go.RowKit Go.Lib Go.Deep Go.Maps
open Plain (Rg May mayB In Norm In4 slotsOf insB bnd riB cls cnot rightB normB goesL Rch cntA RInv small next_in getD_app getD_lt)
set_option maxRecDepth 1000000 in
set_option maxHeartbeats 8000000 in
theorem reached_w (PI PC LA : Option Addr) (PL : List In4) (PK : List Cs) (pic pcc lc : Nat) (pg : Int) (own : Bool) (L : List Int) (g : Int) (s : Nat) (hs : s < 256) (W : World)
    (hC : CodeAt W PI PL PC PK pg LA L g) :
    Calls Tryz.prog 12 #[.agg #[.slice PI PL.length pic, .slice PC PK.length pcc, .int .i64 pg, .bool own, .slice LA L.length lc, .int .u8 g], .int .u8 (s : Int)] W fun e w' => e = .returned (.bool true) ∧ Below W.heap.size W w' := by
  have CX := Lib.hid (fun W => ex13_any W)
  have CC := Lib.hid (fun (pi pc : Nat) (w : World) (hb : Below W.heap.size W w) => code_own PI PC LA pi pic pc pcc lc pg g L w hC.g0 hC.g1 (hC.l.below hb) hC.ll hC.lb)
  have HR := Lib.hid (fun (K : List Cs) (hK : K.map Cs.R = [kA, kB, kN]) => code_right L g K hC.g0 hC.lb hK)
  have HL := Lib.hid (codeLn_len L g)
  obtain ⟨a1, ha1⟩ : ∃ x, PL.length = x := ⟨_, rfl⟩
  obtain ⟨a2, ha2⟩ : ∃ x, PK.length = x := ⟨_, rfl⟩
  obtain ⟨a3, ha3⟩ : ∃ x, L.length = x := ⟨_, rfl⟩
  obtain ⟨M, hM⟩ : ∃ x, codeLn L g = x := ⟨_, rfl⟩
  have HM := Lib.hid hM
  rw [ha3] at CC
  rw [ha1, ha2, ha3]
  clear ha1 ha2 ha3 hC hM
  go_enter Tryz.func12, Tryz.ntmps12
  go_wp2_with fail
  have hq := (SepB.nil W).new #[.slice PI a1 pic, .slice PC a2 pcc, .int .i64 pg, .bool own, .slice LA a3 lc, .int .u8 g] 28 (.cells #[.slice PI a1 pic, .slice PC a2 pcc, .int .i64 pg, .bool own, .slice LA a3 lc, .int .u8 g] 28)
  have HB0 := Lib.hid (below_alloc (Below.refl W.heap.size W) (.cells #[.slice PI a1 pic, .slice PC a2 pcc, .int .i64 pg, .bool own, .slice LA a3 lc, .int .u8 g] 28))
  have hX := heap_alloc_new2 W (.cells #[.slice PI a1 pic, .slice PC a2 pcc, .int .i64 pg, .bool own, .slice LA a3 lc, .int .u8 g] 28) W.heap.size _ rfl
  refine (CX.out _).mono ?_
  rintro e1 w1 ⟨rfl, hb⟩
  have hB1 := below_then HB0.out hb
  have hX1 := blk_later hX hb
  have hq1 := (hq.below hb).store 0 _ _ _ rfl 3 (.bool true)
  have HQ1 := Lib.hid hq1
  clear hb HB0 hX hq hq1
  have hlw := lt_of_some hX1
  have x0 := (cells_of hX1).at_ 0 _ rfl
  have x1 := (cells_of hX1).at_ 1 _ rfl
  have x2 := (cells_of hX1).at_ 2 _ rfl
  have x3 := (cells_of hX1).at_ 3 _ rfl
  have x4 := (cells_of hX1).at_ 4 _ rfl
  have x5 := (cells_of hX1).at_ 5 _ rfl
  have f3 := blk_frozen hX1 3
  have HX1 := Lib.hid hX1
  have HB1 := Lib.hid hB1
  clear hX1 hB1
  go_wp2_with fail
  clear x0 x1 x2 x3 x4 x5 f3 hlw HX1 HB1
  obtain ⟨w2, hw2⟩ : ∃ x, w1.setCell ⟨W.heap.size, 3, none⟩ (.bool true) = x := ⟨_, rfl⟩
  rw [hw2] at HQ1 ⊢
  clear hw2
  refine (CC.out _ _ _ HQ1.out.2).mono ?_
  rintro e2 w3 ⟨I, c, gc, K, rfl, hO, hP, hK, hb⟩
  rw [HM.out] at hO hP ⊢
  have hright := HR.out K hK
  rw [HM.out] at hright
  have hlen := HL.out
  rw [HM.out] at hlen
  have HRT := Lib.hid hright
  have HLN := Lib.hid hlen
  have HQ3 := Lib.hid (HQ1.out.below hb)
  have HO3 := Lib.hid hO
  have HP3 := Lib.hid hP
  have HK3 := Lib.hid hK
  unfold pgV
  obtain ⟨n, hn⟩ : ∃ x, M.length = x := ⟨_, rfl⟩
  rw [hn]
  have HN := Lib.hid hn
  clear hb hO hP hK hn hright hlen CC HR HL HQ1
  go_upto_region 7 with fail
  have hn0 : 0 < n := by have := HLN.out; have := HN.out; omega
  have hn15 : n ≤ 15 := by have := HLN.out; have := HN.out; omega
  obtain ⟨gi, oi, rfl, hgi, hci⟩ := HP3.out.insts (by rw [i4s_len, HN.out]; omega)
  have HGI := Lib.hid hgi
  have HCI := Lib.hid hci
  clear hgi hci
  have hq4 := HQ3.out.new #[.slice (some ⟨gi, oi, none⟩) n c, .slice (some ⟨gc, 0, none⟩) 3 3, .int .i64 (g % 3)] 25 (.cells #[.slice (some ⟨gi, oi, none⟩) n c, .slice (some ⟨gc, 0, none⟩) 3 3, .int .i64 (g % 3)] 25)
  have hp4 := HP3.out.below (below_alloc (Below.refl _ _) (.cells #[.slice (some ⟨gi, oi, none⟩) n c, .slice (some ⟨gc, 0, none⟩) 3 3, .int .i64 (g % 3)] 25))
  have hci4 := fun (w' : World) (hb : Below (w3.alloc (.cells #[.slice (some ⟨gi, oi, none⟩) n c, .slice (some ⟨gc, 0, none⟩) 3 3, .int .i64 (g % 3)] 25)).heap.size (w3.alloc (.cells #[.slice (some ⟨gi, oi, none⟩) n c, .slice (some ⟨gc, 0, none⟩) 3 3, .int .i64 (g % 3)] 25)) w') j u (hu : (i4s M)[j]? = some u) => ((below_then (below_alloc (Below.refl w3.heap.size w3) (.cells #[.slice (some ⟨gi, oi, none⟩) n c, .slice (some ⟨gc, 0, none⟩) 3 3, .int .i64 (g % 3)] 25)) hb).cell (p := ⟨gi, oi + j, none⟩) HGI.out).trans (HCI.out j u hu)
  obtain ⟨w4, hw4⟩ : ∃ x, w3.alloc (.cells #[.slice (some ⟨gi, oi, none⟩) n c, .slice (some ⟨gc, 0, none⟩) 3 3, .int .i64 (g % 3)] 25) = x := ⟨_, rfl⟩
  rw [hw4] at hq4 hp4 hci4 ⊢
  obtain ⟨pb, hpb⟩ : ∃ x, w3.heap.size = x := ⟨_, rfl⟩
  rw [hpb] at hq4 ⊢
  have HX4 := Lib.hid (hq4.box 0 _ _ _ rfl).2
  have HW4 := Lib.hid hq4.2
  have HP4 := Lib.hid hp4
  have HCI4 := Lib.hid hci4
  clear hw4 hpb hq4 hp4 hci4 HQ3 HP3 HO3 HGI HCI
  obtain ⟨i84, hi84, y0, y1, y2⟩ := info_parts info84
  go_cut [8] (fun y wx => ∃ qb A c2, y = .pointer (some ⟨qb, 0, none⟩) ∧ SepB w4 wx [boxT qb #[.slice A n c2, .slice (some ⟨gc, 0, none⟩) 3 3, .int .i64 (g % 3)] 25, rowT 94 4 (.slice A n c2) n (i4s M)])
  case first =>
    obtain ⟨wd, hwd⟩ : ∃ W0, w4.drew = W0 := ⟨_, rfl⟩
    have hs := (SepB.nil w4).drew
    rw [hwd] at hs
    have hbd : Below w4.heap.size w4 wd := by rw [← hwd]; exact (Below.refl w4.heap.size w4).drew
    have HS := Lib.hid hs
    have HD := Lib.hid hbd
    have HCD := Lib.hid (fun (w' : World) (hb : Below wd.heap.size wd w') => HCI4.out w' (below_then hbd hb))
    have HBD := Lib.hid (Below.refl wd.heap.size wd)
    have HF := Lib.hid (fun (w' : World) (h : Below wd.heap.size wd w') => blk_cells3 (blk_later HX4.out (below_then hbd h)))
    clear hs hbd
    refine wp_region_noPanic ?_
    refine wp_region_T 9 (S := fun w' : World => Below wd.heap.size wd w') (by kernel_rfl) (by decide) ?_
    rw [hwd]
    clear hwd
    refine wpAnyT_take2 0 (v := ?tvtr1) (by kernel_rfl) rfl (by kernel_rfl) (fun _ _ _ h => h) (Or.inl ⟨by rfl, ?tytr1⟩) HBD.out ?trtr1
    case tytr1 => (intro w' hSw; (try dsimp only at hSw); go_simp; try with_reducible rfl)
    try simp only [Act.put, List.setIfInBounds_toArray, List.set_cons_zero, List.set_cons_succ]
    refine wpAnyT_take2 1 (v := ?tvtr2) (by kernel_rfl) rfl (by kernel_rfl) (fun _ _ _ h => h) (Or.inl ⟨by rfl, ?tytr2⟩) HBD.out ?trtr2
    case tytr2 => (intro w' hSw; obtain ⟨p0, p1, p2⟩ := HF.out w' hSw; (try dsimp only at hSw); go_simp; try with_reducible rfl)
    try simp only [Act.put, List.setIfInBounds_toArray, List.set_cons_zero, List.set_cons_succ]
    refine wpAnyT_take2 3 (v := ?tvtr3) (by kernel_rfl) rfl (by kernel_rfl) (fun _ _ _ h => h) (Or.inl ⟨by rfl, ?tytr3⟩) HBD.out ?trtr3
    case tytr3 => (intro w' hSw; (try dsimp only at hSw); go_simp; try with_reducible rfl)
    try simp only [Act.put, List.setIfInBounds_toArray, List.set_cons_zero, List.set_cons_succ]
    refine wpAnyT_take2 4 (v := ?tvtr4) (by kernel_rfl) rfl (by kernel_rfl) (fun _ _ _ h => h) (Or.inl ⟨by rfl, ?tytr4⟩) HBD.out ?trtr4
    case tytr4 => (intro w' hSw; obtain ⟨p0, p1, p2⟩ := HF.out w' hSw; (try dsimp only at hSw); go_simp; try with_reducible rfl)
    try simp only [Act.put, List.setIfInBounds_toArray, List.set_cons_zero, List.set_cons_succ]
    refine wpAnyT_take2 5 (v := ?tvtr5) (by kernel_rfl) rfl (by kernel_rfl) (fun _ _ _ h => h) (Or.inl ⟨by rfl, ?tytr5⟩) HBD.out ?trtr5
    case tytr5 => (intro w' hSw; (try dsimp only at hSw); go_simp; try with_reducible rfl)
    try simp only [Act.put, List.setIfInBounds_toArray, List.set_cons_zero, List.set_cons_succ]
    refine wpAnyT_take2 6 (v := ?tvtr6) (by kernel_rfl) rfl (by kernel_rfl) (fun _ _ _ h => h) (Or.inl ⟨by rfl, ?tytr6⟩) HBD.out ?trtr6
    case tytr6 => (intro w' hSw; obtain ⟨p0, p1, p2⟩ := HF.out w' hSw; (try dsimp only at hSw); go_simp; try with_reducible rfl)
    try simp only [Act.put, List.setIfInBounds_toArray, List.set_cons_zero, List.set_cons_succ]
    refine wpAnyT_all [2, 8] (by kernel_rfl) (by decide) (fun i hi => ?_)
    simp only [List.mem_cons, List.not_mem_nil, or_false] at hi
    rcases hi with rfl | rfl
    · refine ⟨_, (by rfl), fun K' hK' => ?_⟩
      rw [if_pos (by rfl)]
      have HK := Lib.hid hK'
      clear hK'
      refine oper_append_own2 _ (.const (.slice none 0 0)) (.tmp 24) 22 rfl w4.heap.size 94 i84 _ 4 32 Tryz.underlying22 hi84 y0 y1 y2 rfl (by decide) (.slice none 0 0) 0 [] rfl (World.ownsRow_nil _ _ _ _) ⟨gi, oi, none⟩ n c (i4s M) rfl (by rw [i4s_len, HN.out]) (fun j u hu => by rw [Addr.add_lit]; exact HCD.out _ HBD.out j u hu) (i4s_one' M) (by unfold maxLen; omega) (by omega) HS.out.2.size ?_
      intro va wtr7 ho hg hv
      have HBtr7 := Lib.hid (below_gr0 HBD.out hg)
      have hsq := (HS.out.empty 94 4).push 0 94 4 _ _ _ _ _ _ rfl (Below.refl _ _) hg ho hv
      rw [Nat.zero_add, List.nil_append] at hsq ho
      obtain ⟨A, c2, rfl⟩ : ∃ A c2, va = .slice A n c2 := by obtain ⟨ga, ca, e, _⟩ := own_at ho hn0; exact ⟨_, _, e⟩
      have HStr7 := Lib.hid hsq
      clear ho hg hv hsq
      refine HK.out _ _ ⟨HBtr7.out, ?_⟩
      clear HK K'
      try simp only [Act.put, List.setIfInBounds_toArray, List.set_cons_zero, List.set_cons_succ]
      refine wpAnyT_take2 7 (v := ?tvtr8) (by kernel_rfl) rfl (by kernel_rfl) (fun _ _ _ h => h) (Or.inl ⟨by rfl, ?tytr8⟩) HBtr7.out ?trtr8
      case tytr8 => (intro w' hSw; (try dsimp only at hSw); go_simp; try with_reducible rfl)
      try simp only [Act.put, List.setIfInBounds_toArray, List.set_cons_zero, List.set_cons_succ]
      refine wpAnyT_one2 8 rfl (by kernel_rfl) ?_
      intro K' hK'
      rw [if_pos (by rfl)]
      have HK := Lib.hid hK'
      clear hK'
      have hsq := HStr7.out.new #[.slice none 0 0, .slice none 0 0, .int .i64 0] 25 (.cells #[.slice none 0 0, .slice none 0 0, .int .i64 0] 25)
      have hbz := below_alloc HBtr7.out (.cells #[.slice none 0 0, .slice none 0 0, .int .i64 0] 25)
      go_simp
      obtain ⟨wtr9, hwtr9⟩ : ∃ x, wtr7.alloc (.cells #[.slice none 0 0, .slice none 0 0, .int .i64 0] 25) = x := ⟨_, rfl⟩
      rw [hwtr9] at hsq hbz ⊢
      obtain ⟨qb, hqb⟩ : ∃ x, wtr7.heap.size = x := ⟨_, rfl⟩
      have HQB := Lib.hid (show wd.heap.size ≤ qb by rw [← hqb]; exact HBtr7.out.size)
      rw [hqb] at hsq ⊢
      have HStr9 := Lib.hid hsq
      have HBtr9 := Lib.hid hbz
      clear hsq hbz hwtr9 hqb
      refine HK.out _ _ ⟨HBtr9.out, ?_⟩
      clear HK K'
      try simp only [Act.put, List.setIfInBounds_toArray, List.set_cons_zero, List.set_cons_succ]
      have hqq := HStr9.out
      obtain ⟨⟨m0, m1, m2⟩, f0, f1, f2⟩ := (⟨blk_cells3 (hqq.box 0 _ _ _ rfl).2, blk_frozen (hqq.box 0 _ _ _ rfl).2 0, blk_frozen (hqq.box 0 _ _ _ rfl).2 1, blk_frozen (hqq.box 0 _ _ _ rfl).2 2⟩ : _ ∧ _ ∧ _ ∧ _)
      have HSF := Lib.hid (((hqq.store 0 _ _ _ rfl 0 (.slice A n c2)).store 0 _ _ _ rfl 1 (.slice (some ⟨gc, 0, none⟩) 3 3)).store 0 _ _ _ rfl 2 (.int .i64 (g % 3)))
      clear hqq
      refine ⟨by kernel_rfl, ?_⟩
      change wpList _ _ _ [_] _ _
      go_wp2
      refine NoPanic.normal ?_
      go_wp2
      go_meet
      case rel => exact ⟨qb, A, c2, rfl, HSF.out⟩
    · refine ⟨_, (by rfl), fun K' hK' => ?_⟩
      rw [if_pos (by rfl)]
      have HK := Lib.hid hK'
      clear hK'
      have hsq := HS.out.new #[.slice none 0 0, .slice none 0 0, .int .i64 0] 25 (.cells #[.slice none 0 0, .slice none 0 0, .int .i64 0] 25)
      have hbz := below_alloc HBD.out (.cells #[.slice none 0 0, .slice none 0 0, .int .i64 0] 25)
      go_simp
      obtain ⟨wtr10, hwtr10⟩ : ∃ x, wd.alloc (.cells #[.slice none 0 0, .slice none 0 0, .int .i64 0] 25) = x := ⟨_, rfl⟩
      rw [hwtr10] at hsq hbz ⊢
      obtain ⟨qb, hqb⟩ : ∃ x, wd.heap.size = x := ⟨_, rfl⟩
      have HQB := Lib.hid (show wd.heap.size ≤ qb by rw [← hqb]; exact HBD.out.size)
      rw [hqb] at hsq ⊢
      have HStr10 := Lib.hid hsq
      have HBtr10 := Lib.hid hbz
      clear hsq hbz hwtr10 hqb
      refine HK.out _ _ ⟨HBtr10.out, ?_⟩
      clear HK K'
      try simp only [Act.put, List.setIfInBounds_toArray, List.set_cons_zero, List.set_cons_succ]
      refine wpAnyT_one2 2 rfl (by kernel_rfl) ?_
      intro K' hK'
      rw [if_pos (by rfl)]
      have HK := Lib.hid hK'
      clear hK'
      refine oper_append_own2 _ (.const (.slice none 0 0)) (.tmp 24) 22 rfl w4.heap.size 94 i84 _ 4 32 Tryz.underlying22 hi84 y0 y1 y2 rfl (by decide) (.slice none 0 0) 0 [] rfl (World.ownsRow_nil _ _ _ _) ⟨gi, oi, none⟩ n c (i4s M) rfl (by rw [i4s_len, HN.out]) (fun j u hu => by rw [Addr.add_lit]; exact HCD.out _ HBtr10.out j u hu) (i4s_one' M) (by unfold maxLen; omega) (by omega) HStr10.out.2.size ?_
      intro va wtr11 ho hg hv
      have HBtr11 := Lib.hid (below_gr0 HBtr10.out hg)
      have hsq := (HStr10.out.empty 94 4).push 0 94 4 _ _ _ _ _ _ rfl (Below.refl _ _) hg ho hv
      rw [Nat.zero_add, List.nil_append] at hsq ho
      obtain ⟨A, c2, rfl⟩ : ∃ A c2, va = .slice A n c2 := by obtain ⟨ga, ca, e, _⟩ := own_at ho hn0; exact ⟨_, _, e⟩
      have HStr11 := Lib.hid hsq
      clear ho hg hv hsq
      refine HK.out _ _ ⟨HBtr11.out, ?_⟩
      clear HK K'
      try simp only [Act.put, List.setIfInBounds_toArray, List.set_cons_zero, List.set_cons_succ]
      refine wpAnyT_take2 7 (v := ?tvtr12) (by kernel_rfl) rfl (by kernel_rfl) (fun _ _ _ h => h) (Or.inl ⟨by rfl, ?tytr12⟩) HBtr11.out ?trtr12
      case tytr12 => (intro w' hSw; (try dsimp only at hSw); go_simp; try with_reducible rfl)
      try simp only [Act.put, List.setIfInBounds_toArray, List.set_cons_zero, List.set_cons_succ]
      have hqq := HStr11.out.perm (.swap _ _ _)
      obtain ⟨⟨m0, m1, m2⟩, f0, f1, f2⟩ := (⟨blk_cells3 (hqq.box 0 _ _ _ rfl).2, blk_frozen (hqq.box 0 _ _ _ rfl).2 0, blk_frozen (hqq.box 0 _ _ _ rfl).2 1, blk_frozen (hqq.box 0 _ _ _ rfl).2 2⟩ : _ ∧ _ ∧ _ ∧ _)
      have HSF := Lib.hid (((hqq.store 0 _ _ _ rfl 0 (.slice A n c2)).store 0 _ _ _ rfl 1 (.slice (some ⟨gc, 0, none⟩) 3 3)).store 0 _ _ _ rfl 2 (.int .i64 (g % 3)))
      clear hqq
      refine ⟨by kernel_rfl, ?_⟩
      change wpList _ _ _ [_] _ _
      go_wp2
      refine NoPanic.normal ?_
      go_wp2
      go_meet
      case rel => exact ⟨qb, A, c2, rfl, HSF.out⟩
  obtain ⟨qb, A, c2, rfl, hq⟩ := hcut
  have HQ5 := Lib.hid hq
  clear hq
  obtain ⟨mm, hmm⟩ : ∃ mm : Nat, s % 50 = mm := ⟨_, rfl⟩
  have hms : (s : Int) % 50 = (mm : Int) := by rw [← hmm]; simp
  have hm50 : mm < 50 := by omega
  rw [hms]
  go_wp2_with fail
  go_loopw [9] (fun i wr => ∃ (j : Nat) (A : Option Addr) (c2 : Nat), j ≤ mm ∧ i = .int .i64 j ∧ SepB w4 wr [boxT qb #[.slice A (n + j) c2, .slice (some ⟨gc, 0, none⟩) 3 3, .int .i64 (g % 3)] 25, rowT 94 4 (.slice A (n + j) c2) (n + j) (i4s (M ++ extL n j))]) (fun i _ => mm - (RowKit.intOf i).toNat)
  case atStart => exact ⟨0, A, c2, Nat.zero_le _, rfl, by rw [show extL n 0 = [] from rfl, List.append_nil]; exact HQ5.out⟩
  clear HQ5
  case round =>
    obtain ⟨j, A, c2, hj, rfl, hq⟩ := hrel
    have HQ := Lib.hid hq
    clear hq
    obtain ⟨m0, m1, m2⟩ := blk_cells3 (HQ.out.box 0 _ _ _ rfl).2
    obtain ⟨p0, p1, p2⟩ := blk_cells3 (blk_later HX4.out HQ.out.2)
    have f0 := blk_frozen (HQ.out.box 0 _ _ _ rfl).2 0
    by_cases hjm : j < mm
    · go_wp2_with (at_builtin; refine wpList_append_own2 _ rfl (.tmp 37) (.tmp 44) _ rfl w4.heap.size 94 i84 _ 4 32 Tryz.underlying22 hi84 y0 y1 y2 rfl (by decide) (.slice A (n + j) c2) (n + j) (i4s (M ++ extL n j)) rfl ((HQ.out.alloc _).row 1 _ _ _ _ _ rfl) ⟨wr.heap.size, 0, none⟩ 1 1 [.int .i64 3, .int .i64 ((n : Int) + (j : Int)), .int .i64 0, .int .i64 0] rfl rfl (CellsAt_add (CellsAt.new wr _ _)) ?c2 ?c3 ?c4 ?c5 ?_)
      case c2 => intro u hu; simp at hu; rcases hu with rfl | rfl | rfl <;> rfl
      case c3 => unfold maxLen; omega
      case c4 => omega
      case c5 => exact (HQ.out.alloc _).2.size
      intro va wx ho hg hv
      have hbx := below_alloc (Below.refl wr.heap.size wr) (.cells #[.int .i64 3, .int .i64 ((n : Int) + (j : Int)), .int .i64 0, .int .i64 0] 94)
      have hq2 := HQ.out.push 1 94 4 _ _ _ _ _ _ rfl hbx hg ho (by simpa using hv)
      have e : i4s (M ++ extL n j) ++ [.int .i64 3, .int .i64 ((n : Int) + (j : Int)), .int .i64 0, .int .i64 0] = i4s (M ++ extL n (j + 1)) := by
        rw [extL_succ, ← List.append_assoc, i4s_snoc]; simp
      rw [e] at hq2 ho
      obtain ⟨A2, c3, rfl⟩ : ∃ A c2, va = .slice A (n + j + 1) c2 := by obtain ⟨ga, ca, e, _⟩ := own_at ho (by omega); exact ⟨_, _, e⟩
      have hq3 := hq2.store 0 _ _ _ rfl 0 (.slice A2 (n + j + 1) c3)
      have g0 := blk_frozen (hq2.box 0 _ _ _ rfl).2 0
      have HQ3 := Lib.hid hq3
      obtain ⟨k0, k1, k2⟩ := blk_cells3 (hq2.box 0 _ _ _ rfl).2
      go_wp2_with fail
      go_roundw
      case rel => exact ⟨j + 1, A2, c3, by omega, by go_num, HQ3.out⟩
      case measure => simp [RowKit.intOf]; omega
    · obtain rfl : j = mm := by omega
      go_wp2_with fail
      clear m0 m1 m2 p0 p1 p2 f0
      have hk3 := (codeK_ok K HK3.out).1
      have cA := program_yes (some ⟨gi, oi, none⟩) (some ⟨gc, 0, none⟩) M K c 3 (g % 3) wr (HP4.out.below HQ.out.2) HRT.out
      unfold pgV ProgRes at cA
      rw [HN.out, hk3] at cA
      refine cA.mono ?_
      rintro e2 w5 ⟨O, hO, _, rfl, hb⟩
      have HO1 := Lib.hid hO
      have hq5 := HQ.out.below hb
      have HQ5 := Lib.hid hq5
      clear hO hb cA
      obtain ⟨m0, m1, m2⟩ := blk_cells3 (hq5.box 0 _ _ _ rfl).2
      have hlw := lt_of_some (hq5.box 0 _ _ _ rfl).2
      clear hq5 HQ
      unfold infoV iC
      go_wp2_with fail
      clear m0 m1 m2 hlw
      obtain ⟨PI1, hPI1⟩ : ∃ x, Plain.piOf M O n = x := ⟨_, rfl⟩
      have HPI1 := Lib.hid hPI1
      rw [hPI1]
      clear hPI1
      have hq6 := HQ5.out.new #[.int .i64 (n : Int), .int .i64 3, .int .i64 (slotsOf (g % 3)), .int .i64 (cntA M : Int), .int .i64 (PI1.reached : Int), .bool PI1.loops, .bool PI1.hits, .int .i64 (PI1.queue : Int)] 54 (.cells #[.int .i64 (n : Int), .int .i64 3, .int .i64 (slotsOf (g % 3)), .int .i64 (cntA M : Int), .int .i64 (PI1.reached : Int), .bool PI1.loops, .bool PI1.hits, .int .i64 (PI1.queue : Int)] 54)
      obtain ⟨w6, hw6⟩ : ∃ x, w5.alloc (.cells #[.int .i64 (n : Int), .int .i64 3, .int .i64 (slotsOf (g % 3)), .int .i64 (cntA M : Int), .int .i64 (PI1.reached : Int), .bool PI1.loops, .bool PI1.hits, .int .i64 (PI1.queue : Int)] 54) = x := ⟨_, rfl⟩
      rw [hw6] at hq6 ⊢
      clear hw6 HQ5
      have HQ6 := Lib.hid hq6
      have hrow := hq6.row 2 _ _ _ _ _ rfl
      have hp := HP4.out.below hq6.2
      have hP6 : PgAt w6 A (M ++ extL n j) (some ⟨gc, 0, none⟩) K := ⟨own_SlN hrow (fun _ => by omega), hp.cls, hp.each, by rw [List.length_append, extL_len, HN.out]; unfold maxLen; omega, hp.lc⟩
      have hR6 := right_more j HRT.out (by rw [HN.out]; omega)
      rw [HN.out] at hR6
      have cB := program_yes A (some ⟨gc, 0, none⟩) (M ++ extL n j) K c2 3 (g % 3) w6 hP6 hR6
      have hln : (M ++ extL n j).length = n + j := by rw [List.length_append, extL_len, HN.out]
      have hpe := fun O2 h1 h2 => pi_ext j HRT.out O O2 (by rw [HN.out]; exact HO1.out) h1 h2
      rw [HN.out] at hpe
      have hca := cntA_more M j
      rw [HN.out] at hca
      unfold pgV ProgRes at cB
      rw [hca, hln, (codeK_ok K HK3.out).1] at cB
      rw [hln] at hpe
      clear hrow hp hP6 hR6 hq6
      refine cB.mono ?_
      rintro e3 w7 ⟨O2, hO2, hE2, rfl, hb⟩
      rw [hpe O2 hO2 hE2, HPI1.out]
      have hq7 := HQ6.out.below hb
      have HQ7 := Lib.hid hq7
      obtain ⟨⟨k0, k1, k2, k3, k4, k5, k6, k7⟩, _⟩ := blk8 (hq7.box 0 _ _ _ rfl).2
      have hlw := lt_of_some (hq7.box 0 _ _ _ rfl).2
      have hnj : (n : Int) + (j : Int) - (j : Int) = n := by omega
      clear hq7
      clear hO2 hE2 hb cB hpe hca hln HQ6
      unfold infoV iC
      go_wp2_with fail
      go_ret
      exact ⟨rfl, below_then HW4.out (HQ7.out.2.trans ((below_alloc (Below.refl w7.heap.size w7) _).mono HQ7.out.2.size))⟩
set_option maxRecDepth 100000 in
theorem reached_all {H : Type} {enc : TypeId × Value → H} {base : Nat} {v : Value} {d : DataW H} {p : List MemPlace} (a1 : Int) (W : World) (hv : Value.okWide Tryz.prog W .any base 28 v) (h : DataW.Trod enc Tryz.prog W 0 (fun _ => true) true 28 v d p) (w1 : (Lit.int .u8 a1).wf = true) :
    Calls Tryz.prog 12 #[v, .int .u8 a1] W fun e w' => e = .returned (.bool true) ∧ Below W.heap.size W w' := by
  obtain ⟨PI, PL, pic, PC, PK, pcc, pg, own, LA, L, lc, g, rfl, hC⟩ := open_code hv h
  obtain ⟨k, rfl, hk⟩ := wf_u8 w1
  exact reached_w PI PC LA PL PK pic pcc lc pg own L g k hk W hC
end Go.Proofs.YtmiacgkidldjmaaGreatDoor
