/- ProgTells: the walk. Conditions: what the lemma says. -/
import Derived.Test.YtpeheppiolfpfaaDoorRefG
import Derived.Test.YtpeheppiolfpfaaDoorRefH
import Derived.Test.YtpeheppiolfpfaaDoorRefE
import Derived.Test.YtpeheppiolfpfaaDoorExA
import Derived.Test.YtpeheppiolfpfaaDoorTellsO
import Derived.Test.YtpeheppiolfpfaaDoorPutG
import Derived.Test.YtpeheppiolfpfaaDoorRefD
import Derived.Deep.CutBlock
import Derived.Deep.DeepCutAuto
set_option linter.unusedVariables false
set_option linter.unusedSimpArgs false
namespace Go.Proofs.YtpeheppiolfpfaaDoor
open Go.RowKit Go.Lib Go.ChangeShapes
open Plain (I64s I64 Rg May mayB In Norm In4 slotsOf insB bnd riB cls cnot rightB normB nextL Rch cntA RInv small putL lineL)
theorem reach_same {L : List In4} {O O2 : List Bool} {n : Nat} (hn : L.length = n) (h1 : O.length = n) (h2 : O2.length = n) (r1 : ∀ k, k < L.length → (O.getD k false = true ↔ Rch L k)) (r2 : ∀ k, k < L.length → (O2.getD k false = true ↔ Rch L k)) : O2 = O := by
  refine List.ext_getElem (by rw [h1, h2]) fun k a b => ?_
  have e1 := r1 k (by omega)
  have e2 := r2 k (by omega)
  rw [List.getD_eq_getElem?_getD, List.getElem?_eq_getElem b, Option.getD_some] at e1
  rw [List.getD_eq_getElem?_getD, List.getElem?_eq_getElem a, Option.getD_some] at e2
  exact Bool.eq_iff_iff.2 (e2.trans e1.symm)
theorem bls_at {w : World} {g i : Nat} {O : List Bool} (h : w.heap[g]? = some (.cells (bls O) 4 (0, 0))) (hi : i < O.length) : w.cell? ⟨g, i, none⟩ = some (.bool (O.getD i false)) := by
  rw [cell_of_row _ _ _ _ _ _ h]
  simp [bls, hi, List.getD_eq_getElem?_getD, List.getElem?_eq_getElem hi]
theorem pgS_turn {L M : List In4} {K N K2 N2 : List Cs} {g h : Int} (e : K2.map Cs.R = K.map Cs.R) (e2 : N2.map Cs.R = N.map Cs.R) : pgS L M K2 N2 g h = pgS L M K N g h := by
  unfold pgS; rw [e, e2]
theorem any_bad : ∀ (K K2 : List Cs), K2.map Cs.R = K.map Cs.R → (K2.any fun x => badB x.R) = K.any fun x => badB x.R := fun K K2 e => by
  have h : ∀ (l : List Cs), (l.any fun x => badB x.R) = (l.map Cs.R).any badB := fun l => by rw [List.any_map]; rfl
  rw [h, h, e]
theorem pgR_turn {L : List In4} {K K2 : List Cs} {g : Int} (e : K2.map Cs.R = K.map Cs.R) : pgR L K2 g = pgR L K g := by
  have el : K2.length = K.length := by have := congrArg List.length e; simpa using this
  unfold pgR
  rw [el, any_bad K K2 e]
abbrev Keeps (w0 w : World) : Prop := Below w0.heap.size w0 w
theorem in_i64s {t : In4} (h : In64 t) : I64s t := h
set_option maxRecDepth 1000000 in
set_option maxHeartbeats 8000000 in
theorem tells_w (PI PC LA : Option Addr) (PL : List In4) (PK : List Cs) (pic pcc lc : Nat) (pg : Int) (own : Bool) (L : List Int) (g : Int)
    (QI QC MA : Option Addr) (QL : List In4) (QK : List Cs) (qic qcc mc : Nat) (qg : Int) (own2 : Bool) (M : List Int) (h : Int) (op ax ay ar : Int) (W : World)
    (hC : CodeAt W PI PL PC PK pg LA L g) (hF : Fit PL PK) (hD : CodeAt W QI QL QC QK qg MA M h) (hG : Fit QL QK) (hT : Tp W) :
    Calls Tryd.prog 3 #[.agg #[.slice PI PL.length pic, .slice PC PK.length pcc, .int .i64 pg, .bool own, .slice LA L.length lc, .int .u8 g], .agg #[.slice QI QL.length qic, .slice QC QK.length qcc, .int .i64 qg, .bool own2, .slice MA M.length mc, .int .u8 h], .agg #[.int .i64 op, .int .i64 ax, .int .i64 ay, .int .i64 ar]] W fun e w' => e = .returned (.bool true) ∧ Below W.heap.size W w' := by
  have CE := Lib.hid (fun W => examples_any W)
  obtain ⟨n, hn⟩ : ∃ n, L.length = n := ⟨_, rfl⟩
  obtain ⟨pn, hpn⟩ : ∃ n, PL.length = n := ⟨_, rfl⟩
  obtain ⟨pk, hpk⟩ : ∃ n, PK.length = n := ⟨_, rfl⟩
  have CC1 := Lib.hid (fun (w : World) (hb : Below W.heap.size W w) => code_fit PI PC LA PL PK pic pcc lc pg own L g W w hC hF hb)
  rw [hn, hpn, hpk] at CC1 ⊢
  clear hC hF hn hpn hpk
  obtain ⟨n2, hn⟩ : ∃ n, M.length = n := ⟨_, rfl⟩
  obtain ⟨qn, hpn⟩ : ∃ n, QL.length = n := ⟨_, rfl⟩
  obtain ⟨qk, hpk⟩ : ∃ n, QK.length = n := ⟨_, rfl⟩
  have CC2 := Lib.hid (fun (w : World) (hb : Below W.heap.size W w) => code_fit QI QC MA QL QK qic qcc mc qg own2 M h W w hD hG hb)
  rw [hn, hpn, hpk] at CC2 ⊢
  have HT := Lib.hid hT
  clear hD hG hn hpn hpk hT
  have hb0 : Below W.heap.size W (((W.alloc (.cells #[.slice PI pn pic, .slice PC pk pcc, .int .i64 pg, .bool own, .slice LA n lc, .int .u8 g] 28)).alloc (.cells #[.slice QI qn qic, .slice QC qk qcc, .int .i64 qg, .bool own2, .slice MA n2 mc, .int .u8 h] 28)).alloc (.cells #[.int .i64 op, .int .i64 ax, .int .i64 ay, .int .i64 ar] 30)) := ((((Below.refl _ _).alloc (Nat.le_refl _) _).alloc (by simp) _).alloc (by simp; omega) _)
  have hcx : CellsAt (((W.alloc (.cells #[.slice PI pn pic, .slice PC pk pcc, .int .i64 pg, .bool own, .slice LA n lc, .int .u8 g] 28)).alloc (.cells #[.slice QI qn qic, .slice QC qk qcc, .int .i64 qg, .bool own2, .slice MA n2 mc, .int .u8 h] 28)).alloc (.cells #[.int .i64 op, .int .i64 ax, .int .i64 ay, .int .i64 ar] 30)) W.heap.size [.slice PI pn pic, .slice PC pk pcc, .int .i64 pg, .bool own, .slice LA n lc, .int .u8 g] := ((CellsAt.new W _ _).alloc _).alloc _
  have hcy : CellsAt (((W.alloc (.cells #[.slice PI pn pic, .slice PC pk pcc, .int .i64 pg, .bool own, .slice LA n lc, .int .u8 g] 28)).alloc (.cells #[.slice QI qn qic, .slice QC qk qcc, .int .i64 qg, .bool own2, .slice MA n2 mc, .int .u8 h] 28)).alloc (.cells #[.int .i64 op, .int .i64 ax, .int .i64 ay, .int .i64 ar] 30)) (W.heap.size + 1) [.slice QI qn qic, .slice QC qk qcc, .int .i64 qg, .bool own2, .slice MA n2 mc, .int .u8 h] := by
    have h1 := (CellsAt.new (W.alloc (.cells #[.slice PI pn pic, .slice PC pk pcc, .int .i64 pg, .bool own, .slice LA n lc, .int .u8 g] 28)) #[.slice QI qn qic, .slice QC qk qcc, .int .i64 qg, .bool own2, .slice MA n2 mc, .int .u8 h] 28).alloc (.cells #[.int .i64 op, .int .i64 ax, .int .i64 ay, .int .i64 ar] 30)
    simpa using h1
  have hci : CellsAt (((W.alloc (.cells #[.slice PI pn pic, .slice PC pk pcc, .int .i64 pg, .bool own, .slice LA n lc, .int .u8 g] 28)).alloc (.cells #[.slice QI qn qic, .slice QC qk qcc, .int .i64 qg, .bool own2, .slice MA n2 mc, .int .u8 h] 28)).alloc (.cells #[.int .i64 op, .int .i64 ax, .int .i64 ay, .int .i64 ar] 30)) (W.heap.size + 1 + 1) [.int .i64 op, .int .i64 ax, .int .i64 ay, .int .i64 ar] := by
    have h1 := CellsAt.new ((W.alloc (.cells #[.slice PI pn pic, .slice PC pk pcc, .int .i64 pg, .bool own, .slice LA n lc, .int .u8 g] 28)).alloc (.cells #[.slice QI qn qic, .slice QC qk qcc, .int .i64 qg, .bool own2, .slice MA n2 mc, .int .u8 h] 28)) #[.int .i64 op, .int .i64 ax, .int .i64 ay, .int .i64 ar] 30
    simpa using h1
  go_enter Tryd.func3, Tryd.ntmps3
  go_wp2_with fail
  have HB := Lib.hid hb0
  have HCX := Lib.hid hcx
  have HCY := Lib.hid hcy
  have HCI := Lib.hid hci
  clear hb0 hcx hcy hci
  refine (CE.out _).mono ?_
  rintro e1 w1 ⟨rfl, hb⟩
  have HB1 := Lib.hid (below_then HB.out hb)
  have HCX1 := Lib.hid (HCX.out.below hb)
  have HCY1 := Lib.hid (HCY.out.below hb)
  have HCI1 := Lib.hid (HCI.out.below hb)
  clear hb HB HCX HCY HCI
  have x0 := HCX1.out.at_ 0 _ rfl
  have x1 := HCX1.out.at_ 1 _ rfl
  have x2 := HCX1.out.at_ 2 _ rfl
  have x3 := HCX1.out.at_ 3 _ rfl
  have x4 := HCX1.out.at_ 4 _ rfl
  have x5 := HCX1.out.at_ 5 _ rfl
  have lx := HCX1.out.1
  go_wp2_with fail
  clear x0 x1 x2 x3 x4 x5 lx

  refine (CC1.out _ HB1.out).mono ?_
  rintro ep wp ⟨Ip, Cp, Lp, Kp, cp, dp, gp, rfl, hP, hb, hin, hft⟩
  unfold pgV
  obtain ⟨mp, hm⟩ : ∃ m, Lp.length = m := ⟨_, rfl⟩
  obtain ⟨kp, hk⟩ : ∃ m, Kp.length = m := ⟨_, rfl⟩
  rw [hm, hk]
  have HMp := Lib.hid hm
  have HKp := Lib.hid hk
  have HINp := Lib.hid hin
  have HFTp := Lib.hid hft
  have HPp := Lib.hid hP
  clear hm hk hin hft hP CC1
  have HB2 := Lib.hid (below_then HB1.out hb)
  have HCY2 := Lib.hid (HCY1.out.below hb)
  have HCI2 := Lib.hid (HCI1.out.below hb)
  clear hb HB1 HCY1 HCI1
  go_upto_region 5 with fail
  have hbp := (Below.refl wp.heap.size wp).alloc (Nat.le_refl _) (.cells #[.slice Ip mp cp, .slice Cp kp dp, .int .i64 gp] 25)
  have hxp := heap_alloc_new2 wp (.cells #[.slice Ip mp cp, .slice Cp kp dp, .int .i64 gp] 25) wp.heap.size _ rfl
  obtain ⟨vp, hv⟩ : ∃ W0, wp.alloc (.cells #[.slice Ip mp cp, .slice Cp kp dp, .int .i64 gp] 25) = W0 := ⟨_, rfl⟩
  rw [hv] at hbp hxp ⊢
  obtain ⟨bp, hg⟩ : ∃ x, wp.heap.size = x := ⟨_, rfl⟩
  have HB3 := Lib.hid (below_then HB2.out hbp)
  have HCY3 := Lib.hid (HCY2.out.below hbp)
  have HCI3 := Lib.hid (HCI2.out.below hbp)
  have HPp3 := Lib.hid (HPp.out.below hbp)
  clear hbp HB2 HCY2 HCI2 HPp
  rw [hg] at hxp ⊢
  have HXp3 := Lib.hid hxp
  clear hxp hv hg
  have x0 := HCY3.out.at_ 0 _ rfl
  have x1 := HCY3.out.at_ 1 _ rfl
  have x2 := HCY3.out.at_ 2 _ rfl
  have x3 := HCY3.out.at_ 3 _ rfl
  have x4 := HCY3.out.at_ 4 _ rfl
  have x5 := HCY3.out.at_ 5 _ rfl
  have lx := HCY3.out.1
  go_wp2_with fail
  clear x0 x1 x2 x3 x4 x5 lx
  refine (CC2.out _ HB3.out).mono ?_
  rintro eq wq ⟨Iq, Cq, Lq, Kq, cq, dq, gq, rfl, hP, hb, hin, hft⟩
  unfold pgV
  obtain ⟨mq, hm⟩ : ∃ m, Lq.length = m := ⟨_, rfl⟩
  obtain ⟨kq, hk⟩ : ∃ m, Kq.length = m := ⟨_, rfl⟩
  rw [hm, hk]
  have HMq := Lib.hid hm
  have HKq := Lib.hid hk
  have HINq := Lib.hid hin
  have HFTq := Lib.hid hft
  have HPq := Lib.hid hP
  clear hm hk hin hft hP CC2
  have HB4 := Lib.hid (below_then HB3.out hb)
  have HCI4 := Lib.hid (HCI3.out.below hb)
  have HPp4 := Lib.hid (HPp3.out.below hb)
  have HXp4 := Lib.hid (blk_later HXp3.out hb)
  clear hb HB3 HCI3 HPp3 HXp3
  go_upto_region 6 with fail
  have hbp := (Below.refl wq.heap.size wq).alloc (Nat.le_refl _) (.cells #[.slice Iq mq cq, .slice Cq kq dq, .int .i64 gq] 25)
  have hxp := heap_alloc_new2 wq (.cells #[.slice Iq mq cq, .slice Cq kq dq, .int .i64 gq] 25) wq.heap.size _ rfl
  obtain ⟨vq, hv⟩ : ∃ W0, wq.alloc (.cells #[.slice Iq mq cq, .slice Cq kq dq, .int .i64 gq] 25) = W0 := ⟨_, rfl⟩
  rw [hv] at hbp hxp ⊢
  obtain ⟨bq, hg⟩ : ∃ x, wq.heap.size = x := ⟨_, rfl⟩
  have HB5 := Lib.hid (below_then HB4.out hbp)
  have HCI5 := Lib.hid (HCI4.out.below hbp)
  have HPp5 := Lib.hid (HPp4.out.below hbp)
  have HXp5 := Lib.hid (blk_later HXp4.out hbp)
  have HPq5 := Lib.hid (HPq.out.below hbp)
  clear hbp HB4 HCI4 HPp4 HXp4 HPq
  rw [hg] at hxp ⊢
  have HXq5 := Lib.hid hxp
  clear hxp hv hg
  obtain ⟨x0, x1, x2⟩ := blk_cells3 HXp5.out
  have lx := lt_of_some HXp5.out
  have cc := rprog_copy Ip Cp Lp Kp cp dp gp _ HPp5.out (by have := HFTp.out.i; omega) (by have := HFTp.out.k; omega) (fun x hx => by have := HFTp.out.r x hx; omega)
  rw [HMp.out, HKp.out] at cc
  unfold pgV at cc
  go_wp2_with fail
  refine cc.mono ?_
  clear cc x0 x1 x2 lx
  rintro ea wa ⟨Ia, ca, Ca, da, Ka, hkr, rfl, hP, hb⟩
  obtain ⟨ka, hk⟩ : ∃ m, Ka.length = m := ⟨_, rfl⟩
  rw [hk]
  have HKa := Lib.hid hk
  have HKRa := Lib.hid hkr
  have HPa := Lib.hid hP
  clear hk hkr hP
  have HB6 := Lib.hid (below_then HB5.out hb)
  have HCI6 := Lib.hid (HCI5.out.below hb)
  have HPp6 := Lib.hid (HPp5.out.below hb)
  have HXp6 := Lib.hid (blk_later HXp5.out hb)
  have HPq6 := Lib.hid (HPq5.out.below hb)
  have HXq6 := Lib.hid (blk_later HXq5.out hb)
  clear hb HB5 HCI5 HPp5 HXp5 HPq5 HXq5
  go_upto_region 7 with fail
  have hbp := (Below.refl wa.heap.size wa).alloc (Nat.le_refl _) (.cells #[.slice Ia mp ca, .slice Ca ka da, .int .i64 gp] 36)
  have hxp := heap_alloc_new2 wa (.cells #[.slice Ia mp ca, .slice Ca ka da, .int .i64 gp] 36) wa.heap.size _ rfl
  obtain ⟨va, hv⟩ : ∃ W0, wa.alloc (.cells #[.slice Ia mp ca, .slice Ca ka da, .int .i64 gp] 36) = W0 := ⟨_, rfl⟩
  rw [hv] at hbp hxp ⊢
  obtain ⟨ba, hg⟩ : ∃ x, wa.heap.size = x := ⟨_, rfl⟩
  have HB7 := Lib.hid (below_then HB6.out hbp)
  have HCI7 := Lib.hid (HCI6.out.below hbp)
  have HPp7 := Lib.hid (HPp6.out.below hbp)
  have HXp7 := Lib.hid (blk_later HXp6.out hbp)
  have HPq7 := Lib.hid (HPq6.out.below hbp)
  have HXq7 := Lib.hid (blk_later HXq6.out hbp)
  have HPa7 := Lib.hid (HPa.out.below hbp)
  clear hbp HB6 HCI6 HPp6 HXp6 HPq6 HXq6 HPa
  rw [hg] at hxp ⊢
  have HXa7 := Lib.hid hxp
  clear hxp hv hg
  obtain ⟨x0, x1, x2⟩ := blk_cells3 HXq7.out
  have lx := lt_of_some HXq7.out
  have cc := rprog_copy Iq Cq Lq Kq cq dq gq _ HPq7.out (by have := HFTq.out.i; omega) (by have := HFTq.out.k; omega) (fun x hx => by have := HFTq.out.r x hx; omega)
  rw [HMq.out, HKq.out] at cc
  unfold pgV at cc
  go_wp2_with fail
  refine cc.mono ?_
  clear cc x0 x1 x2 lx
  rintro eb wb ⟨Ib, cb, Cb, db, Kb, hkr, rfl, hP, hb⟩
  obtain ⟨kb, hk⟩ : ∃ m, Kb.length = m := ⟨_, rfl⟩
  rw [hk]
  have HKb := Lib.hid hk
  have HKRb := Lib.hid hkr
  have HPb := Lib.hid hP
  clear hk hkr hP
  have HB8 := Lib.hid (below_then HB7.out hb)
  have HCI8 := Lib.hid (HCI7.out.below hb)
  have HPp8 := Lib.hid (HPp7.out.below hb)
  have HXp8 := Lib.hid (blk_later HXp7.out hb)
  have HPq8 := Lib.hid (HPq7.out.below hb)
  have HXq8 := Lib.hid (blk_later HXq7.out hb)
  have HPa8 := Lib.hid (HPa7.out.below hb)
  have HXa8 := Lib.hid (blk_later HXa7.out hb)
  clear hb HB7 HCI7 HPp7 HXp7 HPq7 HXq7 HPa7 HXa7
  go_upto_region 8 with fail
  have hbp := (Below.refl wb.heap.size wb).alloc (Nat.le_refl _) (.cells #[.slice Ib mq cb, .slice Cb kb db, .int .i64 gq] 36)
  have hxp := heap_alloc_new2 wb (.cells #[.slice Ib mq cb, .slice Cb kb db, .int .i64 gq] 36) wb.heap.size _ rfl
  obtain ⟨vb, hv⟩ : ∃ W0, wb.alloc (.cells #[.slice Ib mq cb, .slice Cb kb db, .int .i64 gq] 36) = W0 := ⟨_, rfl⟩
  rw [hv] at hbp hxp ⊢
  obtain ⟨bb, hg⟩ : ∃ x, wb.heap.size = x := ⟨_, rfl⟩
  have HB9 := Lib.hid (below_then HB8.out hbp)
  have HCI9 := Lib.hid (HCI8.out.below hbp)
  have HPp9 := Lib.hid (HPp8.out.below hbp)
  have HXp9 := Lib.hid (blk_later HXp8.out hbp)
  have HPq9 := Lib.hid (HPq8.out.below hbp)
  have HXq9 := Lib.hid (blk_later HXq8.out hbp)
  have HPa9 := Lib.hid (HPa8.out.below hbp)
  have HXa9 := Lib.hid (blk_later HXa8.out hbp)
  have HPb9 := Lib.hid (HPb.out.below hbp)
  clear hbp HB8 HCI8 HPp8 HXp8 HPq8 HXq8 HPa8 HXa8 HPb
  rw [hg] at hxp ⊢
  have HXb9 := Lib.hid hxp
  clear hxp hv hg
  obtain ⟨x0, x1, x2⟩ := blk_cells3 HXp9.out
  have lx := lt_of_some HXp9.out
  have cc := reach_any Ip Cp Lp Kp cp dp gp _ HPp9.out HFTp.out.i
  rw [HMp.out, HKp.out] at cc
  unfold pgV at cc
  go_wp2_with fail
  refine cc.mono ?_
  clear cc x0 x1 x2 lx
  rintro e8 w8 ⟨r1, O1, rfl, hl1, hr1, hh1, hb⟩
  have HO1 := Lib.hid (hl1.trans HMp.out)
  have HR1 := Lib.hid hr1
  have HH1 := Lib.hid hh1
  clear hl1 hr1 hh1
  rw [HMp.out]
  have HB10 := Lib.hid (below_then HB9.out hb)
  have HCI10 := Lib.hid (HCI9.out.below hb)
  have HPp10 := Lib.hid (HPp9.out.below hb)
  have HXp10 := Lib.hid (blk_later HXp9.out hb)
  have HPq10 := Lib.hid (HPq9.out.below hb)
  have HXq10 := Lib.hid (blk_later HXq9.out hb)
  have HPa10 := Lib.hid (HPa9.out.below hb)
  have HXa10 := Lib.hid (blk_later HXa9.out hb)
  have HPb10 := Lib.hid (HPb9.out.below hb)
  have HXb10 := Lib.hid (blk_later HXb9.out hb)
  clear hb HB9 HCI9 HPp9 HXp9 HPq9 HXq9 HPa9 HXa9 HPb9 HXb9
  obtain ⟨x0, x1, x2⟩ := blk_cells3 HXa10.out
  have lx := lt_of_some HXa10.out
  have cc := rreach_any Ia Ca Lp ca ka da gp _ HPa10.out.insts HFTp.out.i
  rw [HMp.out] at cc
  go_wp2_with fail
  refine cc.mono ?_
  clear cc x0 x1 x2 lx
  rintro e9 w9 ⟨r2, O2, rfl, hl2, hr2, hh2, hb⟩
  have hoo : O2 = O1 := reach_same HMp.out HO1.out (hl2.trans HMp.out) HH1.out hh2
  subst hoo
  have HR2 := Lib.hid hr2
  clear hl2 hr2 hh2 HH1
  rw [HMp.out]
  have HB11 := Lib.hid (below_then HB10.out hb)
  have HCI11 := Lib.hid (HCI10.out.below hb)
  have HPp11 := Lib.hid (HPp10.out.below hb)
  have HXp11 := Lib.hid (blk_later HXp10.out hb)
  have HPq11 := Lib.hid (HPq10.out.below hb)
  have HXq11 := Lib.hid (blk_later HXq10.out hb)
  have HPa11 := Lib.hid (HPa10.out.below hb)
  have HXa11 := Lib.hid (blk_later HXa10.out hb)
  have HPb11 := Lib.hid (HPb10.out.below hb)
  have HXb11 := Lib.hid (blk_later HXb10.out hb)
  have HR111 := Lib.hid (blk_later HR1.out hb)
  clear hb HB10 HCI10 HPp10 HXp10 HPq10 HXq10 HPa10 HXa10 HPb10 HXb10 HR1
  have hmm : ((mp : Int) != (mp : Int)) = false := bne_self_eq_false _
  go_wp2_with fail
  clear hmm
  have hmb : mp ≤ 1048576 := by have := HFTp.out.i; rw [HMp.out] at this; exact this
  go_loopw [14] (fun i wr => ∃ k : Nat, k ≤ mp ∧ i = .int .i64 k ∧ Below W.heap.size W wr ∧ Below w9.heap.size w9 wr) (fun i _ => mp - (RowKit.intOf i).toNat)
  case atStart => exact ⟨0, Nat.zero_le _, rfl, HB11.out, Below.refl _ _⟩
  case round =>
    obtain ⟨k, hk, rfl, hB, hB9⟩ := hrel
    by_cases hlt : k < mp
    · have x0 := bls_at (i := k) (blk_later HR111.out hB9) (by rw [HO1.out]; exact hlt)
      have x1 := bls_at (i := k) (blk_later HR2.out hB9) (by rw [HO1.out]; exact hlt)
      have d0 : (0 : Int) ≤ (k : Int) := by omega
      have d1 : (k : Int) < (mp : Int) := by omega
      obtain ⟨v, hv⟩ : ∃ v, O2.getD k false = v := ⟨_, rfl⟩
      rw [hv] at x0 x1
      have hne : (v != v) = false := bne_self_eq_false _
      have HBl := Lib.hid hB
      have HBl9 := Lib.hid hB9
      clear hv hB hB9
      go_upto_region 15 with fail
      go_quiet (fail)
      have hBd := Lib.hid (below_then HBl.out (⟨rfl, rfl, rfl, Nat.le_refl _, fun _ _ => rfl⟩ : RowKit.Below wr.heap.size wr (wr.drewN nq)))
      have hBd9 := Lib.hid (below_then HBl9.out (⟨rfl, rfl, rfl, Nat.le_refl _, fun _ _ => rfl⟩ : RowKit.Below wr.heap.size wr (wr.drewN nq)))
      go_wp2
      go_roundw
      case rel => exact ⟨k + 1, by omega, by go_num, hBd.out, hBd9.out⟩
      case measure => simp [RowKit.intOf]; omega
    · have d1 : ¬ ((k : Int) < (mp : Int)) := by omega
      have HBl := Lib.hid hB
      have hb := hB9
      clear hB hlt
      have hpp := HPp11.out.below hb
      have hpq := HPq11.out.below hb
      have hpa := HPa11.out.below hb
      have hpb := HPb11.out.below hb
      have htp := HT.out.below HBl.out
      have CX := Lib.hid (fun (W' : World) (hw : Keeps wr W') => (⟨blk_cells3 (blk_later (blk_later HXp11.out hb) hw), blk_cells3 (blk_later (blk_later HXq11.out hb) hw), blk_cells3 (blk_later (blk_later HXa11.out hb) hw), blk_cells3 (blk_later (blk_later HXb11.out hb) hw)⟩ : (W'.cell? ⟨bp, 0, none⟩ = some (.slice Ip mp cp) ∧ W'.cell? ⟨bp, 1, none⟩ = some (.slice Cp kp dp) ∧ W'.cell? ⟨bp, 2, none⟩ = some (.int .i64 gp)) ∧ (W'.cell? ⟨bq, 0, none⟩ = some (.slice Iq mq cq) ∧ W'.cell? ⟨bq, 1, none⟩ = some (.slice Cq kq dq) ∧ W'.cell? ⟨bq, 2, none⟩ = some (.int .i64 gq)) ∧ (W'.cell? ⟨ba, 0, none⟩ = some (.slice Ia mp ca) ∧ W'.cell? ⟨ba, 1, none⟩ = some (.slice Ca ka da) ∧ W'.cell? ⟨ba, 2, none⟩ = some (.int .i64 gp)) ∧ (W'.cell? ⟨bb, 0, none⟩ = some (.slice Ib mq cb) ∧ W'.cell? ⟨bb, 1, none⟩ = some (.slice Cb kb db) ∧ W'.cell? ⟨bb, 2, none⟩ = some (.int .i64 gq))))
      have CI := Lib.hid (fun (W' : World) (hw : Keeps wr W') => (⟨((HCI11.out.below hb).below hw).at_ 0 _ rfl, ((HCI11.out.below hb).below hw).at_ 1 _ rfl, ((HCI11.out.below hb).below hw).at_ 2 _ rfl, ((HCI11.out.below hb).below hw).at_ 3 _ rfl⟩ : W'.cell? ⟨W.heap.size + 1 + 1, 0, none⟩ = some (.int .i64 op) ∧ W'.cell? ⟨W.heap.size + 1 + 1, 1, none⟩ = some (.int .i64 ax) ∧ W'.cell? ⟨W.heap.size + 1 + 1, 2, none⟩ = some (.int .i64 ay) ∧ W'.cell? ⟨W.heap.size + 1 + 1, 3, none⟩ = some (.int .i64 ar)))
      have CELL17 := Lib.hid (fun (w' : World) (hw : Keeps wr w') => (by
        obtain ⟨⟨a0, a1, a2⟩, ⟨b0, b1, b2⟩, ⟨c0, c1, c2⟩, ⟨d0, d1, d2⟩⟩ := CX.out w' hw
        exact ⟨a0, a1, a2, b0, b1, b2, c0, c1, c2, d0, d1, d2, hw⟩ : w'.cell? ⟨bp, 0, none⟩ = some (.slice Ip mp cp) ∧ w'.cell? ⟨bp, 1, none⟩ = some (.slice Cp kp dp) ∧ w'.cell? ⟨bp, 2, none⟩ = some (.int .i64 gp) ∧ w'.cell? ⟨bq, 0, none⟩ = some (.slice Iq mq cq) ∧ w'.cell? ⟨bq, 1, none⟩ = some (.slice Cq kq dq) ∧ w'.cell? ⟨bq, 2, none⟩ = some (.int .i64 gq) ∧ w'.cell? ⟨ba, 0, none⟩ = some (.slice Ia mp ca) ∧ w'.cell? ⟨ba, 1, none⟩ = some (.slice Ca ka da) ∧ w'.cell? ⟨ba, 2, none⟩ = some (.int .i64 gp) ∧ w'.cell? ⟨bb, 0, none⟩ = some (.slice Ib mq cb) ∧ w'.cell? ⟨bb, 1, none⟩ = some (.slice Cb kb db) ∧ w'.cell? ⟨bb, 2, none⟩ = some (.int .i64 gq) ∧ Keeps wr w'))
      have CELL18 := Lib.hid (fun (w' : World) (hw : Keeps wr w') => (by
        obtain ⟨⟨a0, a1, a2⟩, _, ⟨c0, c1, c2⟩, _⟩ := CX.out w' hw
        obtain ⟨i0, i1, i2, i3⟩ := CI.out w' hw
        exact ⟨a0, a1, a2, c0, c1, c2, i0, i1, i2, i3, hw⟩ : w'.cell? ⟨bp, 0, none⟩ = some (.slice Ip mp cp) ∧ w'.cell? ⟨bp, 1, none⟩ = some (.slice Cp kp dp) ∧ w'.cell? ⟨bp, 2, none⟩ = some (.int .i64 gp) ∧ w'.cell? ⟨ba, 0, none⟩ = some (.slice Ia mp ca) ∧ w'.cell? ⟨ba, 1, none⟩ = some (.slice Ca ka da) ∧ w'.cell? ⟨ba, 2, none⟩ = some (.int .i64 gp) ∧ w'.cell? ⟨W.heap.size + 1 + 1, 0, none⟩ = some (.int .i64 op) ∧ w'.cell? ⟨W.heap.size + 1 + 1, 1, none⟩ = some (.int .i64 ax) ∧ w'.cell? ⟨W.heap.size + 1 + 1, 2, none⟩ = some (.int .i64 ay) ∧ w'.cell? ⟨W.heap.size + 1 + 1, 3, none⟩ = some (.int .i64 ar) ∧ Keeps wr w'))
      obtain ⟨sv, hsv⟩ : ∃ b, pgS Lp Lq Kp Kq gp gq = b := ⟨_, rfl⟩
      obtain ⟨rv, hrv⟩ : ∃ b, pgR Lp Kp gp = b := ⟨_, rfl⟩
      obtain ⟨iv, hiv⟩ : ∃ b, riB Lp.length Kp.length gp (op, ax, ay, ar) = b := ⟨_, rfl⟩
      obtain ⟨sl, hsl⟩ : ∃ b, slotsOf gp = b := ⟨_, rfl⟩
      obtain ⟨av, hav⟩ : ∃ b : Int, (cntA Lp : Int) = b := ⟨_, rfl⟩
      obtain ⟨pv, hpv⟩ : ∃ b, str (putsG Lp Lp.length) = b := ⟨_, rfl⟩
      have hka : Ka.length = Kp.length := by have := congrArg List.length HKRa.out; simpa using this
      have h14 : ∀ (W' : World), Keeps wr W' → Calls Tryd.prog 14 #[.agg #[.slice Ip mp cp, .slice Cp kp dp, .int .i64 gp], .agg #[.slice Iq mq cq, .slice Cq kq dq, .int .i64 gq]] W' (fun e w' => e = .returned (.bool sv) ∧ (w'.cell? ⟨bp, 0, none⟩ = some (.slice Ip mp cp) ∧ w'.cell? ⟨bp, 1, none⟩ = some (.slice Cp kp dp) ∧ w'.cell? ⟨bp, 2, none⟩ = some (.int .i64 gp) ∧ w'.cell? ⟨bq, 0, none⟩ = some (.slice Iq mq cq) ∧ w'.cell? ⟨bq, 1, none⟩ = some (.slice Cq kq dq) ∧ w'.cell? ⟨bq, 2, none⟩ = some (.int .i64 gq) ∧ w'.cell? ⟨ba, 0, none⟩ = some (.slice Ia mp ca) ∧ w'.cell? ⟨ba, 1, none⟩ = some (.slice Ca ka da) ∧ w'.cell? ⟨ba, 2, none⟩ = some (.int .i64 gp) ∧ w'.cell? ⟨bb, 0, none⟩ = some (.slice Ib mq cb) ∧ w'.cell? ⟨bb, 1, none⟩ = some (.slice Cb kb db) ∧ w'.cell? ⟨bb, 2, none⟩ = some (.int .i64 gq) ∧ Keeps wr w')) := fun W' hw => by
        have cc := psame_any Ip Iq Cp Cq Lp Lq Kp Kq cp cq dp dq gp gq W' (hpp.below hw) (hpq.below hw)
        rw [hsv] at cc
        simp only [pgV, i4V, HMp.out, HKp.out, HMq.out, HKq.out, HKa.out, HKb.out] at cc
        exact cc.mono (fun e w' h => ⟨h.1, CELL17.out w' (below_then hw h.2)⟩)
      have H14 := Lib.hid h14
      clear h14
      have h15 : ∀ (W' : World), Keeps wr W' → Calls Tryd.prog 15 #[.agg #[.slice Ia mp ca, .slice Ca ka da, .int .i64 gp], .agg #[.slice Ib mq cb, .slice Cb kb db, .int .i64 gq]] W' (fun e w' => e = .returned (.bool sv) ∧ (w'.cell? ⟨bp, 0, none⟩ = some (.slice Ip mp cp) ∧ w'.cell? ⟨bp, 1, none⟩ = some (.slice Cp kp dp) ∧ w'.cell? ⟨bp, 2, none⟩ = some (.int .i64 gp) ∧ w'.cell? ⟨bq, 0, none⟩ = some (.slice Iq mq cq) ∧ w'.cell? ⟨bq, 1, none⟩ = some (.slice Cq kq dq) ∧ w'.cell? ⟨bq, 2, none⟩ = some (.int .i64 gq) ∧ w'.cell? ⟨ba, 0, none⟩ = some (.slice Ia mp ca) ∧ w'.cell? ⟨ba, 1, none⟩ = some (.slice Ca ka da) ∧ w'.cell? ⟨ba, 2, none⟩ = some (.int .i64 gp) ∧ w'.cell? ⟨bb, 0, none⟩ = some (.slice Ib mq cb) ∧ w'.cell? ⟨bb, 1, none⟩ = some (.slice Cb kb db) ∧ w'.cell? ⟨bb, 2, none⟩ = some (.int .i64 gq) ∧ Keeps wr w')) := fun W' hw => by
        have cc := rpsame_any Ia Ib Ca Cb Lp Lq Ka Kb ca cb da db gp gq W' (hpa.below hw) (hpb.below hw)
        rw [pgS_turn HKRa.out HKRb.out, hsv] at cc
        simp only [pgV, i4V, HMp.out, HKp.out, HMq.out, HKq.out, HKa.out, HKb.out] at cc
        exact cc.mono (fun e w' h => ⟨h.1, CELL17.out w' (below_then hw h.2)⟩)
      have H15 := Lib.hid h15
      clear h15
      have h16 : ∀ (W' : World), Keeps wr W' → Calls Tryd.prog 16 #[.agg #[.slice Ip mp cp, .slice Cp kp dp, .int .i64 gp]] W' (fun e w' => e = .returned (.bool rv) ∧ (w'.cell? ⟨bp, 0, none⟩ = some (.slice Ip mp cp) ∧ w'.cell? ⟨bp, 1, none⟩ = some (.slice Cp kp dp) ∧ w'.cell? ⟨bp, 2, none⟩ = some (.int .i64 gp) ∧ w'.cell? ⟨ba, 0, none⟩ = some (.slice Ia mp ca) ∧ w'.cell? ⟨ba, 1, none⟩ = some (.slice Ca ka da) ∧ w'.cell? ⟨ba, 2, none⟩ = some (.int .i64 gp) ∧ w'.cell? ⟨W.heap.size + 1 + 1, 0, none⟩ = some (.int .i64 op) ∧ w'.cell? ⟨W.heap.size + 1 + 1, 1, none⟩ = some (.int .i64 ax) ∧ w'.cell? ⟨W.heap.size + 1 + 1, 2, none⟩ = some (.int .i64 ay) ∧ w'.cell? ⟨W.heap.size + 1 + 1, 3, none⟩ = some (.int .i64 ar) ∧ Keeps wr w')) := fun W' hw => by
        have cc := prright_any Ip Cp Lp Kp cp dp gp W' (hpp.below hw)
        rw [hrv] at cc
        simp only [pgV, i4V, HMp.out, HKp.out, HMq.out, HKq.out, HKa.out, HKb.out] at cc
        exact cc.mono (fun e w' h => ⟨h.1, CELL18.out w' (below_then hw h.2)⟩)
      have H16 := Lib.hid h16
      clear h16
      have h17 : ∀ (W' : World), Keeps wr W' → Calls Tryd.prog 17 #[.agg #[.slice Ia mp ca, .slice Ca ka da, .int .i64 gp]] W' (fun e w' => e = .returned (.bool rv) ∧ (w'.cell? ⟨bp, 0, none⟩ = some (.slice Ip mp cp) ∧ w'.cell? ⟨bp, 1, none⟩ = some (.slice Cp kp dp) ∧ w'.cell? ⟨bp, 2, none⟩ = some (.int .i64 gp) ∧ w'.cell? ⟨ba, 0, none⟩ = some (.slice Ia mp ca) ∧ w'.cell? ⟨ba, 1, none⟩ = some (.slice Ca ka da) ∧ w'.cell? ⟨ba, 2, none⟩ = some (.int .i64 gp) ∧ w'.cell? ⟨W.heap.size + 1 + 1, 0, none⟩ = some (.int .i64 op) ∧ w'.cell? ⟨W.heap.size + 1 + 1, 1, none⟩ = some (.int .i64 ax) ∧ w'.cell? ⟨W.heap.size + 1 + 1, 2, none⟩ = some (.int .i64 ay) ∧ w'.cell? ⟨W.heap.size + 1 + 1, 3, none⟩ = some (.int .i64 ar) ∧ Keeps wr w')) := fun W' hw => by
        have cc := rpright_any Ia Ca Lp Ka ca da gp W' (hpa.below hw)
        rw [pgR_turn HKRa.out, hrv] at cc
        simp only [pgV, i4V, HMp.out, HKp.out, HMq.out, HKq.out, HKa.out, HKb.out] at cc
        exact cc.mono (fun e w' h => ⟨h.1, CELL18.out w' (below_then hw h.2)⟩)
      have H17 := Lib.hid h17
      clear h17
      have h18 : ∀ (W' : World), Keeps wr W' → Calls Tryd.prog 18 #[.agg #[.int .i64 op, .int .i64 ax, .int .i64 ay, .int .i64 ar], .agg #[.slice Ip mp cp, .slice Cp kp dp, .int .i64 gp]] W' (fun e w' => e = .returned (.bool iv) ∧ (w'.cell? ⟨bp, 0, none⟩ = some (.slice Ip mp cp) ∧ w'.cell? ⟨bp, 1, none⟩ = some (.slice Cp kp dp) ∧ w'.cell? ⟨bp, 2, none⟩ = some (.int .i64 gp) ∧ w'.cell? ⟨ba, 0, none⟩ = some (.slice Ia mp ca) ∧ w'.cell? ⟨ba, 1, none⟩ = some (.slice Ca ka da) ∧ w'.cell? ⟨ba, 2, none⟩ = some (.int .i64 gp) ∧ w'.cell? ⟨W.heap.size + 1 + 1, 0, none⟩ = some (.int .i64 op) ∧ w'.cell? ⟨W.heap.size + 1 + 1, 1, none⟩ = some (.int .i64 ax) ∧ w'.cell? ⟨W.heap.size + 1 + 1, 2, none⟩ = some (.int .i64 ay) ∧ w'.cell? ⟨W.heap.size + 1 + 1, 3, none⟩ = some (.int .i64 ar) ∧ Keeps wr w')) := fun W' hw => by
        have cc := rightInst_any Ip Cp Lp.length cp Kp.length dp gp (op, ax, ay, ar) W'
        rw [hiv] at cc
        simp only [pgV, i4V, HMp.out, HKp.out, HMq.out, HKq.out, HKa.out, HKb.out] at cc
        exact cc.mono (fun e w' h => ⟨h.1, CELL18.out w' (below_then hw h.2)⟩)
      have H18 := Lib.hid h18
      clear h18
      have h19 : ∀ (W' : World), Keeps wr W' → Calls Tryd.prog 19 #[.agg #[.int .i64 op, .int .i64 ax, .int .i64 ay, .int .i64 ar], .agg #[.slice Ia mp ca, .slice Ca ka da, .int .i64 gp]] W' (fun e w' => e = .returned (.bool iv) ∧ (w'.cell? ⟨bp, 0, none⟩ = some (.slice Ip mp cp) ∧ w'.cell? ⟨bp, 1, none⟩ = some (.slice Cp kp dp) ∧ w'.cell? ⟨bp, 2, none⟩ = some (.int .i64 gp) ∧ w'.cell? ⟨ba, 0, none⟩ = some (.slice Ia mp ca) ∧ w'.cell? ⟨ba, 1, none⟩ = some (.slice Ca ka da) ∧ w'.cell? ⟨ba, 2, none⟩ = some (.int .i64 gp) ∧ w'.cell? ⟨W.heap.size + 1 + 1, 0, none⟩ = some (.int .i64 op) ∧ w'.cell? ⟨W.heap.size + 1 + 1, 1, none⟩ = some (.int .i64 ax) ∧ w'.cell? ⟨W.heap.size + 1 + 1, 2, none⟩ = some (.int .i64 ay) ∧ w'.cell? ⟨W.heap.size + 1 + 1, 3, none⟩ = some (.int .i64 ar) ∧ Keeps wr w')) := fun W' hw => by
        have cc := rri_any Ia Ca Lp.length ca Ka.length da gp (op, ax, ay, ar) W'
        rw [show riB Lp.length Ka.length gp (op, ax, ay, ar) = iv by rw [hka]; exact hiv] at cc
        simp only [pgV, i4V, HMp.out, HKp.out, HMq.out, HKq.out, HKa.out, HKb.out] at cc
        exact cc.mono (fun e w' h => ⟨h.1, CELL18.out w' (below_then hw h.2)⟩)
      have H19 := Lib.hid h19
      clear h19
      have h20 : ∀ (W' : World), Keeps wr W' → Calls Tryd.prog 20 #[.agg #[.slice Ip mp cp, .slice Cp kp dp, .int .i64 gp]] W' (fun e w' => e = .returned (.int .i64 sl) ∧ (w'.cell? ⟨bp, 0, none⟩ = some (.slice Ip mp cp) ∧ w'.cell? ⟨bp, 1, none⟩ = some (.slice Cp kp dp) ∧ w'.cell? ⟨bp, 2, none⟩ = some (.int .i64 gp) ∧ w'.cell? ⟨ba, 0, none⟩ = some (.slice Ia mp ca) ∧ w'.cell? ⟨ba, 1, none⟩ = some (.slice Ca ka da) ∧ w'.cell? ⟨ba, 2, none⟩ = some (.int .i64 gp) ∧ w'.cell? ⟨W.heap.size + 1 + 1, 0, none⟩ = some (.int .i64 op) ∧ w'.cell? ⟨W.heap.size + 1 + 1, 1, none⟩ = some (.int .i64 ax) ∧ w'.cell? ⟨W.heap.size + 1 + 1, 2, none⟩ = some (.int .i64 ay) ∧ w'.cell? ⟨W.heap.size + 1 + 1, 3, none⟩ = some (.int .i64 ar) ∧ Keeps wr w')) := fun W' hw => by
        have cc := slots_any Ip Cp Lp.length cp Kp.length dp gp W'
        rw [hsl] at cc
        simp only [pgV, i4V, HMp.out, HKp.out, HMq.out, HKq.out, HKa.out, HKb.out] at cc
        exact cc.mono (fun e w' h => ⟨h.1, CELL18.out w' (below_then hw h.2)⟩)
      have H20 := Lib.hid h20
      clear h20
      have h21 : ∀ (W' : World), Keeps wr W' → Calls Tryd.prog 21 #[.agg #[.slice Ia mp ca, .slice Ca ka da, .int .i64 gp]] W' (fun e w' => e = .returned (.int .i64 sl) ∧ (w'.cell? ⟨bp, 0, none⟩ = some (.slice Ip mp cp) ∧ w'.cell? ⟨bp, 1, none⟩ = some (.slice Cp kp dp) ∧ w'.cell? ⟨bp, 2, none⟩ = some (.int .i64 gp) ∧ w'.cell? ⟨ba, 0, none⟩ = some (.slice Ia mp ca) ∧ w'.cell? ⟨ba, 1, none⟩ = some (.slice Ca ka da) ∧ w'.cell? ⟨ba, 2, none⟩ = some (.int .i64 gp) ∧ w'.cell? ⟨W.heap.size + 1 + 1, 0, none⟩ = some (.int .i64 op) ∧ w'.cell? ⟨W.heap.size + 1 + 1, 1, none⟩ = some (.int .i64 ax) ∧ w'.cell? ⟨W.heap.size + 1 + 1, 2, none⟩ = some (.int .i64 ay) ∧ w'.cell? ⟨W.heap.size + 1 + 1, 3, none⟩ = some (.int .i64 ar) ∧ Keeps wr w')) := fun W' hw => by
        have cc := rslots_any Ia Ca Lp.length ca Ka.length da gp W'
        rw [hsl] at cc
        simp only [pgV, i4V, HMp.out, HKp.out, HMq.out, HKq.out, HKa.out, HKb.out] at cc
        exact cc.mono (fun e w' h => ⟨h.1, CELL18.out w' (below_then hw h.2)⟩)
      have H21 := Lib.hid h21
      clear h21
      have h22 : ∀ (W' : World), Keeps wr W' → Calls Tryd.prog 22 #[.agg #[.slice Ip mp cp, .slice Cp kp dp, .int .i64 gp]] W' (fun e w' => e = .returned (.int .i64 av) ∧ (w'.cell? ⟨bp, 0, none⟩ = some (.slice Ip mp cp) ∧ w'.cell? ⟨bp, 1, none⟩ = some (.slice Cp kp dp) ∧ w'.cell? ⟨bp, 2, none⟩ = some (.int .i64 gp) ∧ w'.cell? ⟨ba, 0, none⟩ = some (.slice Ia mp ca) ∧ w'.cell? ⟨ba, 1, none⟩ = some (.slice Ca ka da) ∧ w'.cell? ⟨ba, 2, none⟩ = some (.int .i64 gp) ∧ w'.cell? ⟨W.heap.size + 1 + 1, 0, none⟩ = some (.int .i64 op) ∧ w'.cell? ⟨W.heap.size + 1 + 1, 1, none⟩ = some (.int .i64 ax) ∧ w'.cell? ⟨W.heap.size + 1 + 1, 2, none⟩ = some (.int .i64 ay) ∧ w'.cell? ⟨W.heap.size + 1 + 1, 3, none⟩ = some (.int .i64 ar) ∧ Keeps wr w')) := fun W' hw => by
        have cc := asserts_any Ip Cp Lp Kp cp dp gp W' (hpp.below hw)
        rw [hav] at cc
        simp only [pgV, i4V, HMp.out, HKp.out, HMq.out, HKq.out, HKa.out, HKb.out] at cc
        exact cc.mono (fun e w' h => ⟨h.1, CELL18.out w' (below_then hw h.2)⟩)
      have H22 := Lib.hid h22
      clear h22
      have h23 : ∀ (W' : World), Keeps wr W' → Calls Tryd.prog 23 #[.agg #[.slice Ia mp ca, .slice Ca ka da, .int .i64 gp]] W' (fun e w' => e = .returned (.int .i64 av) ∧ (w'.cell? ⟨bp, 0, none⟩ = some (.slice Ip mp cp) ∧ w'.cell? ⟨bp, 1, none⟩ = some (.slice Cp kp dp) ∧ w'.cell? ⟨bp, 2, none⟩ = some (.int .i64 gp) ∧ w'.cell? ⟨ba, 0, none⟩ = some (.slice Ia mp ca) ∧ w'.cell? ⟨ba, 1, none⟩ = some (.slice Ca ka da) ∧ w'.cell? ⟨ba, 2, none⟩ = some (.int .i64 gp) ∧ w'.cell? ⟨W.heap.size + 1 + 1, 0, none⟩ = some (.int .i64 op) ∧ w'.cell? ⟨W.heap.size + 1 + 1, 1, none⟩ = some (.int .i64 ax) ∧ w'.cell? ⟨W.heap.size + 1 + 1, 2, none⟩ = some (.int .i64 ay) ∧ w'.cell? ⟨W.heap.size + 1 + 1, 3, none⟩ = some (.int .i64 ar) ∧ Keeps wr w')) := fun W' hw => by
        have cc := rasserts_any Ia Ca Lp ca Ka.length da gp W' (hpa.below hw).insts (hpa.below hw).li
        rw [hav] at cc
        simp only [pgV, i4V, HMp.out, HKp.out, HMq.out, HKq.out, HKa.out, HKb.out] at cc
        exact cc.mono (fun e w' h => ⟨h.1, CELL18.out w' (below_then hw h.2)⟩)
      have H23 := Lib.hid h23
      clear h23
      have h24 : ∀ (W' : World), Keeps wr W' → Calls Tryd.prog 24 #[.agg #[.slice Ip mp cp, .slice Cp kp dp, .int .i64 gp]] W' (fun e w' => e = .returned (.string pv) ∧ (w'.cell? ⟨bp, 0, none⟩ = some (.slice Ip mp cp) ∧ w'.cell? ⟨bp, 1, none⟩ = some (.slice Cp kp dp) ∧ w'.cell? ⟨bp, 2, none⟩ = some (.int .i64 gp) ∧ w'.cell? ⟨ba, 0, none⟩ = some (.slice Ia mp ca) ∧ w'.cell? ⟨ba, 1, none⟩ = some (.slice Ca ka da) ∧ w'.cell? ⟨ba, 2, none⟩ = some (.int .i64 gp) ∧ w'.cell? ⟨W.heap.size + 1 + 1, 0, none⟩ = some (.int .i64 op) ∧ w'.cell? ⟨W.heap.size + 1 + 1, 1, none⟩ = some (.int .i64 ax) ∧ w'.cell? ⟨W.heap.size + 1 + 1, 2, none⟩ = some (.int .i64 ay) ∧ w'.cell? ⟨W.heap.size + 1 + 1, 3, none⟩ = some (.int .i64 ar) ∧ Keeps wr w')) := fun W' hw => by
        have cc := pputg_any Ip Cp Lp Kp cp dp gp W' (hpp.below hw) (fun t ht => in_i64s (HINp.out t ht)) HFTp.out.i (htp.below hw)
        rw [hpv] at cc
        simp only [pgV, i4V, HMp.out, HKp.out, HMq.out, HKq.out, HKa.out, HKb.out] at cc
        exact cc.mono (fun e w' h => ⟨h.1, CELL18.out w' (below_then hw h.2)⟩)
      have H24 := Lib.hid h24
      clear h24
      have h25 : ∀ (W' : World), Keeps wr W' → Calls Tryd.prog 25 #[.agg #[.slice Ia mp ca, .slice Ca ka da, .int .i64 gp]] W' (fun e w' => e = .returned (.string pv) ∧ (w'.cell? ⟨bp, 0, none⟩ = some (.slice Ip mp cp) ∧ w'.cell? ⟨bp, 1, none⟩ = some (.slice Cp kp dp) ∧ w'.cell? ⟨bp, 2, none⟩ = some (.int .i64 gp) ∧ w'.cell? ⟨ba, 0, none⟩ = some (.slice Ia mp ca) ∧ w'.cell? ⟨ba, 1, none⟩ = some (.slice Ca ka da) ∧ w'.cell? ⟨ba, 2, none⟩ = some (.int .i64 gp) ∧ w'.cell? ⟨W.heap.size + 1 + 1, 0, none⟩ = some (.int .i64 op) ∧ w'.cell? ⟨W.heap.size + 1 + 1, 1, none⟩ = some (.int .i64 ax) ∧ w'.cell? ⟨W.heap.size + 1 + 1, 2, none⟩ = some (.int .i64 ay) ∧ w'.cell? ⟨W.heap.size + 1 + 1, 3, none⟩ = some (.int .i64 ar) ∧ Keeps wr w')) := fun W' hw => by
        have cc := rputp_any Ia Ca Lp ca Ka.length da gp W' (hpa.below hw).insts (fun t ht => in_i64s (HINp.out t ht)) HFTp.out.i
        rw [hpv] at cc
        simp only [pgV, i4V, HMp.out, HKp.out, HMq.out, HKq.out, HKa.out, HKb.out] at cc
        exact cc.mono (fun e w' h => ⟨h.1, CELL18.out w' (below_then hw h.2)⟩)
      have H25 := Lib.hid h25
      clear h25
      clear hsv hrv hiv hsl hav hpv hka hpp hpq hpa hpb htp
      have es : (sv == sv) = true := beq_self_eq_true _
      have er : (rv == rv) = true := beq_self_eq_true _
      have ei : (iv == iv) = true := beq_self_eq_true _
      have el : (sl == sl) = true := beq_self_eq_true _
      have ea : (av == av) = true := beq_self_eq_true _
      have ep : (pv.data.toList == pv.data.toList) = true := beq_self_eq_true _
      clear hb
      go_upto_region 17 with fail
      have hSd : wr.drew.cell? ⟨bp, 0, none⟩ = some (.slice Ip mp cp) ∧ wr.drew.cell? ⟨bp, 1, none⟩ = some (.slice Cp kp dp) ∧ wr.drew.cell? ⟨bp, 2, none⟩ = some (.int .i64 gp) ∧ wr.drew.cell? ⟨bq, 0, none⟩ = some (.slice Iq mq cq) ∧ wr.drew.cell? ⟨bq, 1, none⟩ = some (.slice Cq kq dq) ∧ wr.drew.cell? ⟨bq, 2, none⟩ = some (.int .i64 gq) ∧ wr.drew.cell? ⟨ba, 0, none⟩ = some (.slice Ia mp ca) ∧ wr.drew.cell? ⟨ba, 1, none⟩ = some (.slice Ca ka da) ∧ wr.drew.cell? ⟨ba, 2, none⟩ = some (.int .i64 gp) ∧ wr.drew.cell? ⟨bb, 0, none⟩ = some (.slice Ib mq cb) ∧ wr.drew.cell? ⟨bb, 1, none⟩ = some (.slice Cb kb db) ∧ wr.drew.cell? ⟨bb, 2, none⟩ = some (.int .i64 gq) ∧ Keeps wr wr.drew := CELL17.out _ ((Below.refl _ _).drew)
      obtain ⟨a0, a1, a2, b0, b1, b2, c0, c1, c2, d0, d1', d2, _⟩ := CELL17.out wr (Below.refl _ _)
      go_region_held3 (fun w' => w'.cell? ⟨bp, 0, none⟩ = some (.slice Ip mp cp) ∧ w'.cell? ⟨bp, 1, none⟩ = some (.slice Cp kp dp) ∧ w'.cell? ⟨bp, 2, none⟩ = some (.int .i64 gp) ∧ w'.cell? ⟨bq, 0, none⟩ = some (.slice Iq mq cq) ∧ w'.cell? ⟨bq, 1, none⟩ = some (.slice Cq kq dq) ∧ w'.cell? ⟨bq, 2, none⟩ = some (.int .i64 gq) ∧ w'.cell? ⟨ba, 0, none⟩ = some (.slice Ia mp ca) ∧ w'.cell? ⟨ba, 1, none⟩ = some (.slice Ca ka da) ∧ w'.cell? ⟨ba, 2, none⟩ = some (.int .i64 gp) ∧ w'.cell? ⟨bb, 0, none⟩ = some (.slice Ib mq cb) ∧ w'.cell? ⟨bb, 1, none⟩ = some (.slice Cb kb db) ∧ w'.cell? ⟨bb, 2, none⟩ = some (.int .i64 gq) ∧ Keeps wr w') (first | assumption | go_keep) (first
        | (go_at_call 14; (with_reducible refine (H14.out _ (by first | assumption | exact hSd.2.2.2.2.2.2.2.2.2.2.2.2 | exact hS14.2.2.2.2.2.2.2.2.2.2.2.2)).mono ?_); rintro e w14 ⟨rfl, hS14⟩)
        | (go_at_call 15; (with_reducible refine (H15.out _ (by first | assumption | exact hSd.2.2.2.2.2.2.2.2.2.2.2.2 | exact hS14.2.2.2.2.2.2.2.2.2.2.2.2)).mono ?_); rintro e w15 ⟨rfl, hS15⟩))
      have hK := Lib.hid (show Keeps wr w15 from hS15.2.2.2.2.2.2.2.2.2.2.2.2)
      clear hS14 hS15 hSd a0 a1 a2 b0 b1 b2 c0 c1 c2 d0 d1' d2 CELL17 H14 H15
      go_upto_region 18 with fail
      have hSd : w15.drew.cell? ⟨bp, 0, none⟩ = some (.slice Ip mp cp) ∧ w15.drew.cell? ⟨bp, 1, none⟩ = some (.slice Cp kp dp) ∧ w15.drew.cell? ⟨bp, 2, none⟩ = some (.int .i64 gp) ∧ w15.drew.cell? ⟨ba, 0, none⟩ = some (.slice Ia mp ca) ∧ w15.drew.cell? ⟨ba, 1, none⟩ = some (.slice Ca ka da) ∧ w15.drew.cell? ⟨ba, 2, none⟩ = some (.int .i64 gp) ∧ w15.drew.cell? ⟨W.heap.size + 1 + 1, 0, none⟩ = some (.int .i64 op) ∧ w15.drew.cell? ⟨W.heap.size + 1 + 1, 1, none⟩ = some (.int .i64 ax) ∧ w15.drew.cell? ⟨W.heap.size + 1 + 1, 2, none⟩ = some (.int .i64 ay) ∧ w15.drew.cell? ⟨W.heap.size + 1 + 1, 3, none⟩ = some (.int .i64 ar) ∧ Keeps wr w15.drew := CELL18.out _ (Below.drew hK.out)
      obtain ⟨a0, a1, a2, c0, c1, c2, i0, i1, i2, i3, _⟩ := CELL18.out w15 hK.out
      go_region_held3 (fun w' => w'.cell? ⟨bp, 0, none⟩ = some (.slice Ip mp cp) ∧ w'.cell? ⟨bp, 1, none⟩ = some (.slice Cp kp dp) ∧ w'.cell? ⟨bp, 2, none⟩ = some (.int .i64 gp) ∧ w'.cell? ⟨ba, 0, none⟩ = some (.slice Ia mp ca) ∧ w'.cell? ⟨ba, 1, none⟩ = some (.slice Ca ka da) ∧ w'.cell? ⟨ba, 2, none⟩ = some (.int .i64 gp) ∧ w'.cell? ⟨W.heap.size + 1 + 1, 0, none⟩ = some (.int .i64 op) ∧ w'.cell? ⟨W.heap.size + 1 + 1, 1, none⟩ = some (.int .i64 ax) ∧ w'.cell? ⟨W.heap.size + 1 + 1, 2, none⟩ = some (.int .i64 ay) ∧ w'.cell? ⟨W.heap.size + 1 + 1, 3, none⟩ = some (.int .i64 ar) ∧ Keeps wr w') (first | assumption | go_keep) (first
        | (go_at_call 16; (with_reducible refine (H16.out _ (by first | assumption | exact hSd.2.2.2.2.2.2.2.2.2.2 | exact hS15.2.2.2.2.2.2.2.2.2.2)).mono ?_); rintro e w16 ⟨rfl, hS16⟩)
        | (go_at_call 17; (with_reducible refine (H17.out _ (by first | assumption | exact hSd.2.2.2.2.2.2.2.2.2.2 | exact hS16.2.2.2.2.2.2.2.2.2.2)).mono ?_); rintro e w17 ⟨rfl, hS17⟩)
        | (go_at_call 18; (with_reducible refine (H18.out _ (by first | assumption | exact hSd.2.2.2.2.2.2.2.2.2.2 | exact hS17.2.2.2.2.2.2.2.2.2.2)).mono ?_); rintro e w18 ⟨rfl, hS18⟩)
        | (go_at_call 19; (with_reducible refine (H19.out _ (by first | assumption | exact hSd.2.2.2.2.2.2.2.2.2.2 | exact hS18.2.2.2.2.2.2.2.2.2.2)).mono ?_); rintro e w19 ⟨rfl, hS19⟩)
        | (go_at_call 20; (with_reducible refine (H20.out _ (by first | assumption | exact hSd.2.2.2.2.2.2.2.2.2.2 | exact hS19.2.2.2.2.2.2.2.2.2.2)).mono ?_); rintro e w20 ⟨rfl, hS20⟩)
        | (go_at_call 21; (with_reducible refine (H21.out _ (by first | assumption | exact hSd.2.2.2.2.2.2.2.2.2.2 | exact hS20.2.2.2.2.2.2.2.2.2.2)).mono ?_); rintro e w21 ⟨rfl, hS21⟩)
        | (go_at_call 22; (with_reducible refine (H22.out _ (by first | assumption | exact hSd.2.2.2.2.2.2.2.2.2.2 | exact hS21.2.2.2.2.2.2.2.2.2.2)).mono ?_); rintro e w22 ⟨rfl, hS22⟩)
        | (go_at_call 23; (with_reducible refine (H23.out _ (by first | assumption | exact hSd.2.2.2.2.2.2.2.2.2.2 | exact hS22.2.2.2.2.2.2.2.2.2.2)).mono ?_); rintro e w23 ⟨rfl, hS23⟩)
        | (go_at_call 24; (with_reducible refine (H24.out _ (by first | assumption | exact hSd.2.2.2.2.2.2.2.2.2.2 | exact hS23.2.2.2.2.2.2.2.2.2.2)).mono ?_); rintro e w24 ⟨rfl, hS24⟩)
        | (go_at_call 25; (with_reducible refine (H25.out _ (by first | assumption | exact hSd.2.2.2.2.2.2.2.2.2.2 | exact hS24.2.2.2.2.2.2.2.2.2.2)).mono ?_); rintro e w25 ⟨rfl, hS25⟩))
      have hL := Lib.hid (show Keeps wr w25 from hS25.2.2.2.2.2.2.2.2.2.2)
      clear hSd a0 a1 a2 c0 c1 c2 i0 i1 i2 i3
      go_wp2_with fail
      go_ret
      exact ⟨rfl, below_then HBl.out hL.out⟩
end Go.Proofs.YtpeheppiolfpfaaDoor
