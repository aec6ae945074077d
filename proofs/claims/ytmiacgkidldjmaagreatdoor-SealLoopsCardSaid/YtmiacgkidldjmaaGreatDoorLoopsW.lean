/- Chapter 13: the law of loops walked. Conditions: what each lemma says. -/
import Derived.Test.YtmiacgkidldjmaaGreatDoorSealF
set_option linter.unusedVariables false
set_option linter.unusedSimpArgs false
namespace Go.Proofs.YtmiacgkidldjmaaGreatDoor
open Go.ChangeShapes Go.WideShapes Go.RowKit Go.Lib Go.Deep Go.Maps
open Plain (Rg May mayB In Norm In4 slotsOf insB bnd riB cls cnot rightB normB goesL Rch cntA RInv small next_in getD_app getD_lt)
theorem list_set_same {α : Type} (L : List α) (k : Nat) (t : α) (h : L[k]? = some t) : L.set k t = L := by
  obtain ⟨hk, rfl⟩ := List.getElem?_eq_some_iff.1 h
  exact List.set_getElem_self hk
theorem codeLn_last (L : List Int) (g : Int) : ((codeLn L g).getD ((codeLn L g).length - 1) z4).1 = 0 := by
  unfold codeLn
  rw [Plain.codeL_len, Nat.add_sub_cancel]
  unfold Plain.codeL
  have h : (Plain.codeG (fun k => L.getD k 0) (min L.length 14) (g % 3) (min L.length 14)).length = min L.length 14 := Plain.codeG_len _ _ _ _
  rw [List.getD_eq_getElem?_getD, List.getElem?_append_right (by omega), h, Nat.sub_self]
  rfl
set_option maxRecDepth 1000000 in
set_option maxHeartbeats 8000000 in
theorem loops_w (PI PC LA : Option Addr) (PL : List In4) (PK : List Cs) (pic pcc lc : Nat) (pg : Int) (own : Bool) (L : List Int) (g : Int) (s : Nat) (hs : s < 256) (W : World)
    (hC : CodeAt W PI PL PC PK pg LA L g) :
    Calls Tryz.prog 11 #[.agg #[.slice PI PL.length pic, .slice PC PK.length pcc, .int .i64 pg, .bool own, .slice LA L.length lc, .int .u8 g], .int .u8 (s : Int)] W fun e w' => e = .returned (.bool true) ∧ Below W.heap.size W w' := by
  have CX := Lib.hid (fun W => ex13_any W)
  have CC := Lib.hid (fun (pi pc : Nat) (w : World) (hb : Below W.heap.size W w) => code_own PI PC LA pi pic pc pcc lc pg g L w hC.g0 hC.g1 (hC.l.below hb) hC.ll hC.lb)
  have HR := Lib.hid (fun (K : List Cs) (hK : K.map Cs.R = [kA, kB, kN]) => code_right L g K hC.g0 hC.lb hK)
  have HL := Lib.hid (codeLn_len L g)
  have HSM := Lib.hid (codeLn_mem L g hC.g0 hC.lb)
  have HLA := Lib.hid (codeLn_last L g)
  obtain ⟨a1, ha1⟩ : ∃ x, PL.length = x := ⟨_, rfl⟩
  obtain ⟨a2, ha2⟩ : ∃ x, PK.length = x := ⟨_, rfl⟩
  obtain ⟨a3, ha3⟩ : ∃ x, L.length = x := ⟨_, rfl⟩
  obtain ⟨M, hM⟩ : ∃ x, codeLn L g = x := ⟨_, rfl⟩
  have HM := Lib.hid hM
  rw [ha3] at CC
  rw [ha1, ha2, ha3]
  clear ha1 ha2 ha3 hC hM
  go_enter Tryz.func11, Tryz.ntmps11
  go_wp2_with fail
  have hq := (SepB.nil W).new #[.slice PI a1 pic, .slice PC a2 pcc, .int .i64 pg, .bool own, .slice LA a3 lc, .int .u8 g] 28 (.cells #[.slice PI a1 pic, .slice PC a2 pcc, .int .i64 pg, .bool own, .slice LA a3 lc, .int .u8 g] 28)
  have HB0 := Lib.hid (below_alloc (Below.refl W.heap.size W) (.cells #[.slice PI a1 pic, .slice PC a2 pcc, .int .i64 pg, .bool own, .slice LA a3 lc, .int .u8 g] 28))
  have hX := heap_alloc_new2 W (.cells #[.slice PI a1 pic, .slice PC a2 pcc, .int .i64 pg, .bool own, .slice LA a3 lc, .int .u8 g] 28) W.heap.size _ rfl
  refine (CX.out _).mono ?_
  rintro e1 w1 ⟨rfl, hb⟩
  have hB1 := below_then HB0.out hb
  have hX1 := blk_later hX hb
  have hq1 := (hq.below hb).store 0 _ _ _ rfl 3 (.bool true)
  have HQ1 := Lib.hid hq1
  clear hb HB0 hX hq hq1
  have hlw := lt_of_some hX1
  have x0 := (cells_of hX1).at_ 0 _ rfl
  have x1 := (cells_of hX1).at_ 1 _ rfl
  have x2 := (cells_of hX1).at_ 2 _ rfl
  have x3 := (cells_of hX1).at_ 3 _ rfl
  have x4 := (cells_of hX1).at_ 4 _ rfl
  have x5 := (cells_of hX1).at_ 5 _ rfl
  have f3 := blk_frozen hX1 3
  have HX1 := Lib.hid hX1
  have HB1 := Lib.hid hB1
  clear hX1 hB1
  go_wp2_with fail
  clear x0 x1 x2 x3 x4 x5 f3 hlw HX1 HB1
  obtain ⟨w2, hw2⟩ : ∃ x, w1.setCell ⟨W.heap.size, 3, none⟩ (.bool true) = x := ⟨_, rfl⟩
  rw [hw2] at HQ1 ⊢
  clear hw2
  refine (CC.out _ _ _ HQ1.out.2).mono ?_
  rintro e2 w3 ⟨I, c, gc, K, rfl, hO, hP, hK, hb⟩
  rw [HM.out] at hO hP ⊢
  have hright := HR.out K hK
  rw [HM.out] at hright
  have hlen := HL.out
  rw [HM.out] at hlen
  have HRT := Lib.hid hright
  have HLN := Lib.hid hlen
  have HQ3 := Lib.hid (HQ1.out.below hb)
  have HO3 := Lib.hid hO
  have HP3 := Lib.hid hP
  have HK3 := Lib.hid hK
  unfold pgV
  obtain ⟨n, hn⟩ : ∃ x, M.length = x := ⟨_, rfl⟩
  rw [hn]
  have HN := Lib.hid hn
  clear hb hO hP hK hn hright hlen CC HR HL HQ1
  have hn0 : 0 < n := by have := HLN.out; have := HN.out; omega
  have hn15 : n ≤ 15 := by have := HLN.out; have := HN.out; omega
  have hla := HLA.out
  rw [HM.out, HN.out] at hla
  have HLAST := Lib.hid hla
  have hsm := HSM.out
  rw [HM.out] at hsm
  have HSB := Lib.hid (fun j (hj : j < n) => (hsm (M.getD j (0, 0, 0, 0)) (by rw [getD_lt M _ j (by rw [HN.out]; exact hj)]; exact List.getElem_mem _)).1)
  clear hsm
  obtain ⟨gi, oi, rfl, hgi, hci⟩ := HP3.out.insts (by rw [i4s_len, HN.out]; omega)
  have HGI := Lib.hid hgi
  have HCI := Lib.hid hci
  clear hgi hci hla
  go_upto_region 6 with fail
  have hq4 := HQ3.out.new #[.slice (some ⟨gi, oi, none⟩) n c, .slice (some ⟨gc, 0, none⟩) 3 3, .int .i64 (g % 3)] 25 (.cells #[.slice (some ⟨gi, oi, none⟩) n c, .slice (some ⟨gc, 0, none⟩) 3 3, .int .i64 (g % 3)] 25)
  have hp4 := HP3.out.below (below_alloc (Below.refl _ _) (.cells #[.slice (some ⟨gi, oi, none⟩) n c, .slice (some ⟨gc, 0, none⟩) 3 3, .int .i64 (g % 3)] 25))
  have hci4 := fun (w' : World) (hb : Below (w3.alloc (.cells #[.slice (some ⟨gi, oi, none⟩) n c, .slice (some ⟨gc, 0, none⟩) 3 3, .int .i64 (g % 3)] 25)).heap.size (w3.alloc (.cells #[.slice (some ⟨gi, oi, none⟩) n c, .slice (some ⟨gc, 0, none⟩) 3 3, .int .i64 (g % 3)] 25)) w') j u (hu : (i4s M)[j]? = some u) => ((below_then (below_alloc (Below.refl w3.heap.size w3) (.cells #[.slice (some ⟨gi, oi, none⟩) n c, .slice (some ⟨gc, 0, none⟩) 3 3, .int .i64 (g % 3)] 25)) hb).cell (p := ⟨gi, oi + j, none⟩) HGI.out).trans (HCI.out j u hu)
  obtain ⟨w4, hw4⟩ : ∃ x, w3.alloc (.cells #[.slice (some ⟨gi, oi, none⟩) n c, .slice (some ⟨gc, 0, none⟩) 3 3, .int .i64 (g % 3)] 25) = x := ⟨_, rfl⟩
  rw [hw4] at hq4 hp4 hci4 ⊢
  obtain ⟨pb, hpb⟩ : ∃ x, w3.heap.size = x := ⟨_, rfl⟩
  rw [hpb] at hq4 ⊢
  have HX4 := Lib.hid (hq4.box 0 _ _ _ rfl).2
  have HW4 := Lib.hid hq4.2
  have HP4 := Lib.hid hp4
  have HCI4 := Lib.hid hci4
  clear hw4 hpb hq4 hp4 hci4 HQ3 HP3 HO3 HGI HCI
  obtain ⟨i84, hi84, y0, y1, y2⟩ := info_parts info84
  obtain ⟨p0, p1, p2⟩ := blk_cells3 HX4.out
  go_wp2_with (at_builtin; refine wpList_append_own2 _ rfl (.const (.slice none 0 0)) (.tmp 24) _ rfl w4.heap.size 94 i84 _ 4 32 Tryz.underlying22 hi84 y0 y1 y2 rfl (by decide) (.slice none 0 0) 0 [] rfl (World.ownsRow_nil _ _ _ _) ⟨gi, oi, none⟩ n c (i4s M) rfl ?c1 ?c2 ?c3 ?c4 ?c5 ?c6 ?_)
  case c1 => rw [i4s_len, HN.out]
  case c2 => exact fun j u hu => by rw [Addr.add_lit]; exact HCI4.out _ (Below.refl _ _) j u hu
  case c3 => exact i4s_one' M
  case c4 => unfold maxLen; omega
  case c5 => omega
  case c6 => exact Nat.le_refl _
  intro va w5 ho hg hv
  have hq5 := ((SepB.nil w4).empty 94 4).push 0 94 4 _ _ _ _ _ _ rfl (Below.refl _ _) hg ho hv
  obtain ⟨ga, ca, rfl, _⟩ := own_at ho hn0
  have HQ5 := Lib.hid hq5
  clear p0 p1 p2 ho hg hv hq5
  go_wp2_with fail
  go_loopw [8] (fun i wr => ∃ (j : Nat), j ≤ n ∧ i = .int .i64 j ∧ SepB w4 wr [rowT 94 4 (.slice (some ⟨ga, 0, none⟩) n ca) n (i4s (fwdL M j))]) (fun i _ => n - (RowKit.intOf i).toNat)
  case atStart => exact ⟨0, Nat.zero_le _, rfl, by rw [fwdL_zero]; exact HQ5.out⟩
  clear HQ5
  case round =>
    obtain ⟨j, hj, rfl, hq⟩ := hrel
    have HQ := Lib.hid hq
    clear hq
    by_cases hjm : j < n
    · have hget := fwdL_get M j j (by rw [HN.out]; exact hjm)
      rw [if_neg (Nat.lt_irrefl j)] at hget
      have hsucc := fwdL_succ M j (by rw [HN.out]; exact hjm)
      have hrib := (pgR_facts HRT.out).2.2.1 (M.getD j (0, 0, 0, 0)) (by rw [getD_lt M _ j (by rw [HN.out]; exact hjm)]; exact List.getElem_mem _)
      rw [HN.out] at hsucc hrib
      have hop := riB_parts hrib
      obtain ⟨⟨op, x, y, ar⟩, hte⟩ : ∃ t, M.getD j (0, 0, 0, 0) = t := ⟨_, rfl⟩
      rw [hte] at hget hsucc hop hrib
      have hrow := HQ.out.row 0 _ _ _ _ _ rfl
      have hg4 := i4s_get _ _ _ hget
      have l0 := own_cell hrow _ _ hg4.1
      have l1 := own_cell hrow _ _ hg4.2.1
      have fz1 := own_frozen hrow (j * 4 + 1)
      have lga := lt_of_some (own_blk hrow).choose_spec
      have HGT := Lib.hid hget
      have HSU := Lib.hid hsucc
      have hop2 : op = 0 ∨ op = 1 ∨ op = 2 ∨ op = 3 ∨ op = 4 ∨ op = 5 := by dsimp only at hop; omega
      have hxb : 0 ≤ x ∧ x ≤ 1000 := by
        have := (HSB.out j hjm).2.1
        rw [hte] at this; dsimp only at this; omega
      have hyb : 0 ≤ y ∧ y ≤ 1000 := by
        have := (HSB.out j hjm).2.2.1
        rw [hte] at this; dsimp only at this; omega
      clear hget hsucc hrib hop hte hrow hg4
      dsimp only at l0 l1
      rcases hop2 with rfl | rfl | rfl | rfl | rfl | rfl
      · go_wp2_with fail
        go_roundw
        case rel => exact ⟨j + 1, by omega, by go_num, by rw [HSU.out, show fwd1 n j (0, x, y, ar) = (0, x, y, ar) from rfl, list_set_same _ _ _ HGT.out]; exact HQ.out⟩
        case measure => simp [RowKit.intOf]; omega
      · go_wp2_with fail
        go_roundw
        case rel => exact ⟨j + 1, by omega, by go_num, by rw [HSU.out, show fwd1 n j (1, x, y, ar) = (1, x, y, ar) from rfl, list_set_same _ _ _ HGT.out]; exact HQ.out⟩
        case measure => simp [RowKit.intOf]; omega
      · go_upto_region 12 with fail
        have hq2 := HQ.out.storeRow 0 94 4 _ _ _ _ rfl (j * 4 + 1) (.int .i64 (max x (min ((j : Int) + 1) ((n : Int) - 1))))
        rw [← i4s_set1 _ _ _ _ HGT.out] at hq2
        obtain ⟨F2, hF2⟩ : ∃ F, (fwdL M j).set j ((2 : Int), max x (min ((j : Int) + 1) ((n : Int) - 1)), y, ar) = F := ⟨_, rfl⟩
        simp only [List.set_cons_zero] at hq2
        rw [hF2] at hq2
        have hgF : F2[j]? = some ((2 : Int), max x (min ((j : Int) + 1) ((n : Int) - 1)), y, ar) := by rw [← hF2, List.getElem?_set_self (by have := fwdL_len M j; have := HN.out; omega)]
        have hF3 : F2.set j ((2 : Int), max x (min ((j : Int) + 1) ((n : Int) - 1)), max y (min ((j : Int) + 1) ((n : Int) - 1)), ar) = fwdL M (j + 1) := by rw [← hF2, List.set_set, HSU.out]; rfl
        obtain ⟨wq, hwq⟩ : ∃ W1, wr.setCell ⟨ga, j * 4 + 1, none⟩ (.int .i64 (max x (min ((j : Int) + 1) ((n : Int) - 1)))) = W1 := ⟨_, rfl⟩
        rw [hwq] at hq2 ⊢
        have hrow := hq2.row 0 _ _ _ _ _ rfl
        have hg4 := i4s_get _ _ _ hgF
        have l2 := own_cell hrow _ _ hg4.1
        have l3 := own_cell hrow _ _ hg4.2.2.1
        have fz2 := own_frozen hrow (j * 4 + 2)
        have lg2 := lt_of_some (own_blk hrow).choose_spec
        have hq3 := hq2.storeRow 0 94 4 _ _ _ _ rfl (j * 4 + 2) (.int .i64 (max y (min ((j : Int) + 1) ((n : Int) - 1))))
        rw [← i4s_set2 _ _ _ _ hgF] at hq3
        dsimp only at hq3 l2 l3
        rw [hF3] at hq3
        simp only [List.set_cons_zero] at hq3
        have HQ3 := Lib.hid hq3
        clear hwq hrow hg4 hq2 hq3 l0 l1 fz1 lga hgF hF2 hF3
        go_wp2_with fail
        go_roundw
        case rel => exact ⟨j + 1, by omega, by go_num, HQ3.out⟩
        case measure => simp [RowKit.intOf]; omega
      · go_upto_region 12 with fail
        have hq2 := HQ.out.storeRow 0 94 4 _ _ _ _ rfl (j * 4 + 1) (.int .i64 (max x (min ((j : Int) + 1) ((n : Int) - 1))))
        rw [← i4s_set1 _ _ _ _ HGT.out] at hq2
        rw [show ((fwdL M j).set j (3, max x (min ((j : Int) + 1) ((n : Int) - 1)), y, ar)) = fwdL M (j + 1) from HSU.out.symm] at hq2
        obtain ⟨wq, hwq⟩ : ∃ W1, wr.setCell ⟨ga, j * 4 + 1, none⟩ (.int .i64 (max x (min ((j : Int) + 1) ((n : Int) - 1)))) = W1 := ⟨_, rfl⟩
        simp only [List.set_cons_zero] at hq2
        rw [hwq] at hq2 ⊢
        have hrow := hq2.row 0 _ _ _ _ _ rfl
        have hg4 := i4s_get (fwdL M (j + 1)) j (3, max x (min ((j : Int) + 1) ((n : Int) - 1)), y, ar) (by rw [HSU.out, List.getElem?_set_self (by have := fwdL_len M j; have := HN.out; omega)]; rfl)
        have l2 := own_cell hrow _ _ hg4.1
        have lg2 := lt_of_some (own_blk hrow).choose_spec
        have HQ2 := Lib.hid hq2
        dsimp only at l2
        clear hwq hrow hg4 hq2 l0 l1 fz1 lga
        go_wp2_with fail
        go_roundw
        case rel => exact ⟨j + 1, by omega, by go_num, HQ2.out⟩
        case measure => simp [RowKit.intOf]; omega
      · go_upto_region 12 with fail
        have hq2 := HQ.out.storeRow 0 94 4 _ _ _ _ rfl (j * 4 + 1) (.int .i64 (max x (min ((j : Int) + 1) ((n : Int) - 1))))
        rw [← i4s_set1 _ _ _ _ HGT.out] at hq2
        rw [show ((fwdL M j).set j (4, max x (min ((j : Int) + 1) ((n : Int) - 1)), y, ar)) = fwdL M (j + 1) from HSU.out.symm] at hq2
        obtain ⟨wq, hwq⟩ : ∃ W1, wr.setCell ⟨ga, j * 4 + 1, none⟩ (.int .i64 (max x (min ((j : Int) + 1) ((n : Int) - 1)))) = W1 := ⟨_, rfl⟩
        simp only [List.set_cons_zero] at hq2
        rw [hwq] at hq2 ⊢
        have hrow := hq2.row 0 _ _ _ _ _ rfl
        have hg4 := i4s_get (fwdL M (j + 1)) j (4, max x (min ((j : Int) + 1) ((n : Int) - 1)), y, ar) (by rw [HSU.out, List.getElem?_set_self (by have := fwdL_len M j; have := HN.out; omega)]; rfl)
        have l2 := own_cell hrow _ _ hg4.1
        have lg2 := lt_of_some (own_blk hrow).choose_spec
        have HQ2 := Lib.hid hq2
        dsimp only at l2
        clear hwq hrow hg4 hq2 l0 l1 fz1 lga
        go_wp2_with fail
        go_roundw
        case rel => exact ⟨j + 1, by omega, by go_num, HQ2.out⟩
        case measure => simp [RowKit.intOf]; omega
      · go_upto_region 12 with fail
        have hq2 := HQ.out.storeRow 0 94 4 _ _ _ _ rfl (j * 4 + 1) (.int .i64 (max x (min ((j : Int) + 1) ((n : Int) - 1))))
        rw [← i4s_set1 _ _ _ _ HGT.out] at hq2
        rw [show ((fwdL M j).set j (5, max x (min ((j : Int) + 1) ((n : Int) - 1)), y, ar)) = fwdL M (j + 1) from HSU.out.symm] at hq2
        obtain ⟨wq, hwq⟩ : ∃ W1, wr.setCell ⟨ga, j * 4 + 1, none⟩ (.int .i64 (max x (min ((j : Int) + 1) ((n : Int) - 1)))) = W1 := ⟨_, rfl⟩
        simp only [List.set_cons_zero] at hq2
        rw [hwq] at hq2 ⊢
        have hrow := hq2.row 0 _ _ _ _ _ rfl
        have hg4 := i4s_get (fwdL M (j + 1)) j (5, max x (min ((j : Int) + 1) ((n : Int) - 1)), y, ar) (by rw [HSU.out, List.getElem?_set_self (by have := fwdL_len M j; have := HN.out; omega)]; rfl)
        have l2 := own_cell hrow _ _ hg4.1
        have lg2 := lt_of_some (own_blk hrow).choose_spec
        have HQ2 := Lib.hid hq2
        dsimp only at l2
        clear hwq hrow hg4 hq2 l0 l1 fz1 lga
        go_wp2_with fail
        go_roundw
        case rel => exact ⟨j + 1, by omega, by go_num, HQ2.out⟩
        case measure => simp [RowKit.intOf]; omega
    · obtain rfl : j = n := by omega
      obtain ⟨p0, p1, p2⟩ := blk_cells3 (blk_later HX4.out HQ.out.2)
      have hq := HQ.out
      have hR1 := fwd_right HRT.out j
      have hF1 : Fwd (fwdL M j) := by have := fwd_fwd (L := M) (by rw [HN.out]; exact HLAST.out); rw [HN.out] at this; exact this
      have hL1l : (fwdL M j).length = j := by rw [fwdL_len, HN.out]
      obtain ⟨L1, hL1⟩ : ∃ F, fwdL M j = F := ⟨_, rfl⟩
      rw [hL1] at hq hR1 hF1 hL1l
      have HR1 := Lib.hid hR1
      have HF1 := Lib.hid hF1
      have HL1 := Lib.hid hL1l
      have HQ1 := Lib.hid hq
      obtain ⟨k, hk⟩ : ∃ k, s % j = k := ⟨_, rfl⟩
      have hkj : k < j := by rw [← hk]; exact Nat.mod_lt _ hn0
      have hms : (s : Int) % (j : Int) = (k : Int) := by rw [← hk]; simp
      have hmt : Int.tmod (s : Int) (j : Int) = (k : Int) := by rw [Int.tmod_eq_emod_of_nonneg (by omega)]; exact hms
      clear HQ hq hR1 hF1 hL1l hL1 hk HSB HLAST
      go_wp2_with fail
      have hq1 := HQ1.out.new #[.slice (some ⟨ga, 0, none⟩) j ca, .slice (some ⟨gc, 0, none⟩) 3 3, .int .i64 (g % 3)] 25 (.cells #[.slice (some ⟨ga, 0, none⟩) j ca, .slice (some ⟨gc, 0, none⟩) 3 3, .int .i64 (g % 3)] 25)
      obtain ⟨w6, hw6⟩ : ∃ x, wr.alloc (.cells #[.slice (some ⟨ga, 0, none⟩) j ca, .slice (some ⟨gc, 0, none⟩) 3 3, .int .i64 (g % 3)] 25) = x := ⟨_, rfl⟩
      rw [hw6] at hq1 ⊢
      obtain ⟨qb, hqb⟩ : ∃ x, wr.heap.size = x := ⟨_, rfl⟩
      rw [hqb] at hq1 ⊢
      clear hw6 hqb p0 p1 p2 HQ1
      have hp := HP4.out.below hq1.2
      have hP6 : PgAt w6 (some ⟨ga, 0, none⟩) L1 (some ⟨gc, 0, none⟩) K := ⟨own_SlN (hq1.row 1 _ _ _ _ _ rfl) (fun _ => hn0), hp.cls, hp.each, by rw [HL1.out]; unfold maxLen; omega, hp.lc⟩
      have hk3 := (codeK_ok K HK3.out).1
      have cA := program_yes (some ⟨ga, 0, none⟩) (some ⟨gc, 0, none⟩) L1 K ca 3 (g % 3) w6 hP6 HR1.out
      unfold pgV ProgRes at cA
      rw [HL1.out, hk3] at cA
      have HQ6 := Lib.hid hq1
      clear hP6 hp hq1
      refine cA.mono ?_
      rintro e3 w7 ⟨O, hO, hE, rfl, hb⟩
      have hlo := fwd_loops HR1.out O (by rw [HL1.out]; exact hO) (by rw [HL1.out]; exact hE) (fun q hq hno => HF1.out q (by
        rw [HL1.out]
        by_cases h : q < j
        · exact h
        · rw [hE q (by omega)] at hq; cases hq) hno) j
      have hfi := Plain.piOf_fine L1 O j
      have hq7 := HQ6.out.below hb
      obtain ⟨m0, m1, m2⟩ := blk_cells3 (hq7.box 0 _ _ _ rfl).2
      have hlw := lt_of_some (hq7.box 0 _ _ _ rfl).2
      have HQ7 := Lib.hid hq7
      obtain ⟨⟨re, lo, hi, qu, se⟩, hPI⟩ : ∃ x, Plain.piOf L1 O j = x := ⟨_, rfl⟩
      rw [hPI] at hlo hfi ⊢
      dsimp only at hlo hfi
      subst hlo
      obtain ⟨hfr, hfq, hfh, _⟩ := hfi
      clear hO hE hb cA hPI HQ6 hq7
      unfold infoV iC
      go_upto_region 17 with fail
      have hq8 := HQ7.out.new #[.int .i64 (j : Int), .int .i64 3, .int .i64 (slotsOf (g % 3)), .int .i64 (cntA L1 : Int), .int .i64 (re : Int), .bool false, .bool hi, .int .i64 (qu : Int)] 54 (.cells #[.int .i64 (j : Int), .int .i64 3, .int .i64 (slotsOf (g % 3)), .int .i64 (cntA L1 : Int), .int .i64 (re : Int), .bool false, .bool hi, .int .i64 (qu : Int)] 54)
      obtain ⟨w8, hw8⟩ : ∃ x, w7.alloc (.cells #[.int .i64 (j : Int), .int .i64 3, .int .i64 (slotsOf (g % 3)), .int .i64 (cntA L1 : Int), .int .i64 (re : Int), .bool false, .bool hi, .int .i64 (qu : Int)] 54) = x := ⟨_, rfl⟩
      rw [hw8] at hq8 ⊢
      obtain ⟨ab, hab⟩ : ∃ x, w7.heap.size = x := ⟨_, rfl⟩
      rw [hab] at hq8 ⊢
      clear hw8 hab m0 m1 m2 hlw HQ7
      have HRW := Lib.hid (hq8.row 2 _ _ _ _ _ rfl)
      have HQ8 := Lib.hid hq8
      clear hq8
      go_wp2_with (at_builtin; refine wpList_append_own2 _ rfl (.const (.slice none 0 0)) (.tmp 100) _ rfl w4.heap.size 94 i84 _ 4 32 Tryz.underlying22 hi84 y0 y1 y2 rfl (by decide) (.slice none 0 0) 0 [] rfl (World.ownsRow_nil _ _ _ _) ⟨ga, 0, none⟩ j ca (i4s L1) rfl ?c1 ?c2 ?c3 ?c4 ?c5 ?c6 ?_)
      case c1 => rw [i4s_len, HL1.out]
      case c2 => exact fun q u hu => by rw [Addr.add_lit, Nat.zero_add]; exact own_cell HRW.out q u hu
      case c3 => exact i4s_one' L1
      case c4 => unfold maxLen; omega
      case c5 => omega
      case c6 => exact HQ8.out.2.size
      intro va w9 ho hg hv
      have hq9 := (HQ8.out.empty 94 4).push 0 94 4 _ _ _ _ _ _ rfl (Below.refl _ _) hg ho hv
      simp only [Nat.zero_add, List.nil_append, List.set_cons_zero] at hq9 ho
      obtain ⟨gm, cm, rfl, _⟩ := own_at ho hn0
      have fz0 := own_frozen ho (k * 4)
      have fz1 := own_frozen ho (k * 4 + 1)
      have fz2 := own_frozen ho (k * 4 + 2)
      have fz3 := own_frozen ho (k * 4 + 3)
      have lgm := lt_of_some (own_blk ho).choose_spec
      obtain ⟨t, ht⟩ : ∃ t, L1[k]? = some t := ⟨_, List.getElem?_eq_getElem (by rw [HL1.out]; exact hkj)⟩
      obtain ⟨u0, u1, u2, u3⟩ := i4s_get _ _ _ ht
      have v0 := own_cell ho _ _ u0
      have v1 := own_cell ho _ _ u1
      have v2 := own_cell ho _ _ u2
      have v3 := own_cell ho _ _ u3
      clear u0 u1 u2 u3 ht
      have HQ9 := Lib.hid hq9
      clear ho hg hv hq9 HRW HQ8
      go_upto_region 19 with fail
      have hq10 := (((HQ9.out.storeRow 0 94 4 _ _ _ _ rfl (k * 4) (.int .i64 3)).storeRow 0 94 4 _ _ _ _ rfl (k * 4 + 1) (.int .i64 (k : Int))).storeRow 0 94 4 _ _ _ _ rfl (k * 4 + 2) (.int .i64 0)).storeRow 0 94 4 _ _ _ _ rfl (k * 4 + 3) (.int .i64 0)
      simp only [List.set_cons_zero] at hq10
      rw [← i4s_setAll L1 k 3 (k : Int) 0 0 (by rw [HL1.out]; exact hkj)] at hq10
      obtain ⟨w10, hw10⟩ : ∃ x, (((w9.setCell ⟨gm, k * 4, none⟩ (.int .i64 3)).setCell ⟨gm, k * 4 + 1, none⟩ (.int .i64 (k : Int))).setCell ⟨gm, k * 4 + 2, none⟩ (.int .i64 0)).setCell ⟨gm, k * 4 + 3, none⟩ (.int .i64 0) = x := ⟨_, rfl⟩
      rw [hw10] at hq10 ⊢
      clear hw10 v0 v1 v2 v3 fz0 fz1 fz2 fz3 lgm HQ9
      have hR2 := self_right HR1.out k (by rw [HL1.out]; exact hkj)
      have hsl := self_loops HR1.out HF1.out k (by rw [HL1.out]; exact hkj)
      have hl2 : (L1.set k (3, (k : Int), 0, 0)).length = j := by rw [List.length_set, HL1.out]
      obtain ⟨L2, hL2⟩ : ∃ x, L1.set k ((3 : Int), (k : Int), 0, 0) = x := ⟨_, rfl⟩
      rw [hL2] at hq10 hR2 hsl hl2
      have hp := HP4.out.below hq10.2
      have hP10 : PgAt w10 (some ⟨gm, 0, none⟩) L2 (some ⟨gc, 0, none⟩) K := ⟨own_SlN (hq10.row 0 _ _ _ _ _ rfl) (fun _ => hn0), hp.cls, hp.each, by rw [hl2]; unfold maxLen; omega, hp.lc⟩
      have hk3 := (codeK_ok K HK3.out).1
      have cB := program_yes (some ⟨gm, 0, none⟩) (some ⟨gc, 0, none⟩) L2 K cm 3 (g % 3) w10 hP10 hR2
      unfold pgV ProgRes at cB
      rw [hl2, hk3] at cB
      rw [HL1.out] at hsl
      obtain ⟨p0, p1, p2⟩ := blk_cells3 (blk_later HX4.out hq10.2)
      have HQ10 := Lib.hid hq10
      have HSL := Lib.hid hsl
      have HL2 := Lib.hid hl2
      have CB := Lib.hid cB
      clear hP10 hp hq10 hsl hl2 hL2 hR2 cB hk3
      go_wp2_with fail
      clear p0 p1 p2
      refine CB.out.mono ?_
      rintro e4 w11 ⟨O2, hO2, hE2, rfl, hb⟩
      have hlo := fun b hb => HSL.out O2 hO2 hE2 b hb
      obtain ⟨⟨re2, lo2, hi2, qu2, se2⟩, hPI⟩ : ∃ x, Plain.piOf L2 O2 j = x := ⟨_, rfl⟩
      rw [hPI] at hlo ⊢
      dsimp only at hlo
      have HLO := Lib.hid hlo
      have hq11 := HQ10.out.below hb
      obtain ⟨m0, m1, m2⟩ := blk_cells3 (hq11.box 2 _ _ _ rfl).2
      have hlw := lt_of_some (hq11.box 2 _ _ _ rfl).2
      have HQ11 := Lib.hid hq11
      clear hO2 hE2 hb hPI hlo hq11 HQ10 CB HSL
      unfold infoV iC
      go_upto_region 20 with fail
      clear m0 m1 m2 hlw
      have hq12 := HQ11.out.new #[.int .i64 (j : Int), .int .i64 3, .int .i64 (slotsOf (g % 3)), .int .i64 (cntA L2 : Int), .int .i64 (re2 : Int), .bool lo2, .bool hi2, .int .i64 (qu2 : Int)] 54 (.cells #[.int .i64 (j : Int), .int .i64 3, .int .i64 (slotsOf (g % 3)), .int .i64 (cntA L2 : Int), .int .i64 (re2 : Int), .bool lo2, .bool hi2, .int .i64 (qu2 : Int)] 54)
      obtain ⟨w12, hw12⟩ : ∃ x, w11.alloc (.cells #[.int .i64 (j : Int), .int .i64 3, .int .i64 (slotsOf (g % 3)), .int .i64 (cntA L2 : Int), .int .i64 (re2 : Int), .bool lo2, .bool hi2, .int .i64 (qu2 : Int)] 54) = x := ⟨_, rfl⟩
      rw [hw12] at hq12 ⊢
      obtain ⟨bb, hbb⟩ : ∃ x, w11.heap.size = x := ⟨_, rfl⟩
      rw [hbb] at hq12 ⊢
      clear hw12 hbb HQ11
      have hp := HP4.out.below hq12.2
      have hP12 : PgAt w12 (some ⟨ga, 0, none⟩) L1 (some ⟨gc, 0, none⟩) K := ⟨own_SlN (hq12.row 4 _ _ _ _ _ rfl) (fun _ => hn0), hp.cls, hp.each, by rw [HL1.out]; unfold maxLen; omega, hp.lc⟩
      have cR := reach_any (some ⟨ga, 0, none⟩) (some ⟨gc, 0, none⟩) L1 K ca 3 (g % 3) w12 hP12 (by rw [HL1.out]; omega)
      unfold pgV ReachRes at cR
      rw [HL1.out, (codeK_ok K HK3.out).1] at cR
      obtain ⟨m0, m1, m2⟩ := blk_cells3 (hq12.box 3 _ _ _ rfl).2
      have hlw := lt_of_some (hq12.box 3 _ _ _ rfl).2
      have HQ12 := Lib.hid hq12
      have CR := Lib.hid cR
      clear hP12 hp hq12 cR
      go_wp2_with fail
      clear m0 m1 m2 hlw
      refine CR.out.mono ?_
      rintro e5 w13 ⟨gr, O3, rfl, hO3l, hgr, hO3, hb⟩
      have hq13 := HQ12.out.below hb
      have hl3 := HLO.out (O3.getD k false) (hO3 k hkj)
      have hcr : w13.cell? ⟨gr, k, none⟩ = some (.bool (O3.getD k false)) := by
        rw [cell_of_row _ _ _ _ _ _ hgr]
        unfold bls
        rw [List.getElem?_toArray, List.getElem?_map, List.getElem?_eq_getElem (by rw [hO3l]; exact hkj), List.getD_eq_getElem?_getD, List.getElem?_eq_getElem (by rw [hO3l]; exact hkj)]
        rfl
      obtain ⟨lo3, hlo3⟩ : ∃ x, O3.getD k false = x := ⟨_, rfl⟩
      rw [hlo3] at hl3 hcr
      subst hl3
      obtain ⟨⟨s0, s1, s2, s3, s4, s5, s6, s7⟩, _⟩ := blk8 (hq13.box 0 _ _ _ rfl).2
      obtain ⟨⟨r0, r1, r2, r3, r4, r5, r6, r7⟩, _⟩ := blk8 (hq13.box 2 _ _ _ rfl).2
      have HQ13 := Lib.hid hq13
      clear hb hO3 hO3l hgr hlo3 hq13 CR HLO HQ12
      go_upto_region 23 with fail
      have g1 : decide ((re : Int) ≤ (j : Int)) = true := decide_eq_true (by omega)
      have g2 : decide ((qu : Int) ≤ (re : Int)) = true := decide_eq_true (by omega)
      cases hi
      · go_quiet (fail)
        go_wp2
        go_ret
        exact ⟨rfl, below_then HW4.out (below_drewN HQ13.out.2 _)⟩
      · have g3 : decide ((qu : Int) > 0) = true := decide_eq_true (by have := hfh rfl; omega)
        go_quiet (fail)
        go_wp2
        go_ret
        exact ⟨rfl, below_then HW4.out (below_drewN HQ13.out.2 _)⟩
set_option maxRecDepth 100000 in
theorem loops_all {H : Type} {enc : TypeId × Value → H} {base : Nat} {v : Value} {d : DataW H} {p : List MemPlace} (a1 : Int) (W : World) (hv : Value.okWide Tryz.prog W .any base 28 v) (h : DataW.Trod enc Tryz.prog W 0 (fun _ => true) true 28 v d p) (w1 : (Lit.int .u8 a1).wf = true) :
    Calls Tryz.prog 11 #[v, .int .u8 a1] W fun e w' => e = .returned (.bool true) ∧ Below W.heap.size W w' := by
  obtain ⟨PI, PL, pic, PC, PK, pcc, pg, own, LA, L, lc, g, rfl, hC⟩ := open_code hv h
  obtain ⟨k, rfl, hk⟩ := wf_u8 w1
  exact loops_w PI PC LA PL PK pic pcc lc pg own L g k hk W hC
end Go.Proofs.YtmiacgkidldjmaaGreatDoor
