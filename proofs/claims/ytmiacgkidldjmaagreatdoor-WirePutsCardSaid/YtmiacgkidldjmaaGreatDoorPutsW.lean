/- WirePuts: walked. Conditions: what each lemma says. -/
import Derived.Test.YtmiacgkidldjmaaGreatDoorRefC
set_option linter.unusedVariables false
set_option linter.unusedSimpArgs false
namespace Go.Proofs.YtmiacgkidldjmaaGreatDoor
open Go.ChangeShapes Go.WideShapes Go.RowKit Go.Lib Go.Deep Go.Maps
open Plain (Rg In4)
set_option maxRecDepth 1000000 in
set_option maxHeartbeats 8000000 in
theorem wputs_w (s : ByteArray) (hs : s.size ≤ 140737488355328) (PI PC LA : Option Addr) (PL : List In4) (PK : List Cs) (pic pcc lc : Nat) (pg : Int) (own : Bool) (L : List Int) (g : Int)
    (TP : Option Addr) (TL : List Int) (tpc : Nat) (TN : Option Addr) (TR : List Row) (tnc : Nat) (TA : Option Addr) (TC : List Bool) (tac : Nat) (own2 : Bool) (PA : Option Addr) (QL : List Int) (pc : Nat) (NA : Option Addr) (NL : List Int) (nc : Nat) (AA : Option Addr) (AL : List Bool) (ac : Nat)
    (W : World) (hC : CodeAt W PI PL PC PK pg LA L g) (hF : Fit PL PK) (hG : GridAt W PA QL NA NL AA AL) (hT : TabAt W TP TL TN TR TA TC) (htc : TL.length ≤ tpc) :
    Calls Tryz.prog 7 #[.agg #[.slice PI PL.length pic, .slice PC PK.length pcc, .int .i64 pg, .bool own, .slice LA L.length lc, .int .u8 g], .agg #[.slice TP TL.length tpc, .slice TN TR.length tnc, .slice TA TC.length tac, .bool own2, .slice PA QL.length pc, .slice NA NL.length nc, .slice AA AL.length ac], .string s] W fun e w' => e = .returned (.bool true) ∧ Below W.heap.size W w' := by
  have CC := Lib.hid (fun (w : World) (hb : Below W.heap.size W w) => code_fit PI PC LA PL PK pic pcc lc pg own L g W w hC hF hb)
  have CG := Lib.hid (fun (w : World) (hb : Below W.heap.size W w) => grid_any_w TP TL tpc TN TR tnc TA TC tac own2 PA QL pc NA NL nc AA AL ac w (hG.below hb) (hT.below hb) htc)
  clear hC hF hG hT htc
  generalize PL.length = n1 at *
  generalize PK.length = n2 at *
  generalize L.length = n3 at *
  generalize TL.length = n4 at *
  generalize TR.length = n5 at *
  generalize TC.length = n6 at *
  generalize QL.length = n7 at *
  generalize NL.length = n8 at *
  generalize AL.length = n9 at *
  have hb0 := below_alloc (Below.refl W.heap.size W) (.cells #[.slice PI n1 pic, .slice PC n2 pcc, .int .i64 pg, .bool own, .slice LA n3 lc, .int .u8 g] 62)
  have hx0 := heap_alloc_new2 W (.cells #[.slice PI n1 pic, .slice PC n2 pcc, .int .i64 pg, .bool own, .slice LA n3 lc, .int .u8 g] 62) W.heap.size _ rfl
  obtain ⟨w0, hw0⟩ : ∃ x, W.alloc (.cells #[.slice PI n1 pic, .slice PC n2 pcc, .int .i64 pg, .bool own, .slice LA n3 lc, .int .u8 g] 62) = x := ⟨_, rfl⟩
  rw [hw0] at hb0 hx0
  have hb1 := below_alloc hb0 (.cells #[.slice TP n4 tpc, .slice TN n5 tnc, .slice TA n6 tac, .bool own2, .slice PA n7 pc, .slice NA n8 nc, .slice AA n9 ac] 63)
  have hx1 := heap_alloc_new2 w0 (.cells #[.slice TP n4 tpc, .slice TN n5 tnc, .slice TA n6 tac, .bool own2, .slice PA n7 pc, .slice NA n8 nc, .slice AA n9 ac] 63) w0.heap.size _ rfl
  have hx0' := blk_alloc hx0 (.cells #[.slice TP n4 tpc, .slice TN n5 tnc, .slice TA n6 tac, .bool own2, .slice PA n7 pc, .slice NA n8 nc, .slice AA n9 ac] 63)
  obtain ⟨w1, hw1⟩ : ∃ x, w0.alloc (.cells #[.slice TP n4 tpc, .slice TN n5 tnc, .slice TA n6 tac, .bool own2, .slice PA n7 pc, .slice NA n8 nc, .slice AA n9 ac] 63) = x := ⟨_, rfl⟩
  rw [hw1] at hb1 hx1 hx0'
  have HB1 := Lib.hid hb1
  have HX0 := Lib.hid hx0'
  have HX1 := Lib.hid hx1
  have HS := Lib.hid hs
  clear hb0 hx0 hb1 hx1 hx0' hs
  go_enter Tryz.func7, Tryz.ntmps7
  go_upto_region 1 with fail
  go_wp2_with fail
  refine (ex12_any _).mono ?_
  rintro e w2 ⟨rfl, hb⟩
  have HB2 := Lib.hid (below_then HB1.out hb)
  have X0 := Lib.hid (blk_later HX0.out hb)
  have X1 := Lib.hid (blk_later HX1.out hb)
  clear hb HB1 HX0 HX1
  obtain ⟨b0, hb0⟩ : ∃ x, W.heap.size = x := ⟨_, rfl⟩
  obtain ⟨b1, hb1⟩ : ∃ x, w0.heap.size = x := ⟨_, rfl⟩
  rw [hb0] at X0 ⊢
  rw [hb1] at X1 ⊢
  have HB0 := Lib.hid hb0
  clear hb0 hb1 hw0 hw1
  have F0 := Lib.hid (fun (w' : World) (h : Below w2.heap.size w2 w') => (⟨(cells_of (blk_later X0.out h)).at_ 0 _ rfl, (cells_of (blk_later X0.out h)).at_ 1 _ rfl, (cells_of (blk_later X0.out h)).at_ 2 _ rfl, (cells_of (blk_later X0.out h)).at_ 3 _ rfl, (cells_of (blk_later X0.out h)).at_ 4 _ rfl, (cells_of (blk_later X0.out h)).at_ 5 _ rfl, lt_of_some (blk_later X0.out h)⟩ : _ ∧ _ ∧ _ ∧ _ ∧ _ ∧ _ ∧ _))
  have F1 := Lib.hid (fun (w' : World) (h : Below w2.heap.size w2 w') => (⟨(cells_of (blk_later X1.out h)).at_ 0 _ rfl, (cells_of (blk_later X1.out h)).at_ 1 _ rfl, (cells_of (blk_later X1.out h)).at_ 2 _ rfl, (cells_of (blk_later X1.out h)).at_ 3 _ rfl, (cells_of (blk_later X1.out h)).at_ 4 _ rfl, (cells_of (blk_later X1.out h)).at_ 5 _ rfl, (cells_of (blk_later X1.out h)).at_ 6 _ rfl, lt_of_some (blk_later X1.out h)⟩ : _ ∧ _ ∧ _ ∧ _ ∧ _ ∧ _ ∧ _ ∧ _))
  obtain ⟨x0, x1, x2, x3, x4, x5, xl⟩ := F0.out w2 (Below.refl _ _)
  go_wp2_with fail
  clear x0 x1 x2 x3 x4 x5 xl
  refine Calls.mono (CC.out w2 HB2.out) ?_
  rintro e w3 ⟨I, C, L', K', c, d, g', rfl, hP, hFit, hb⟩
  have HB3 := Lib.hid hb
  have hP3 := Lib.hid (fun (w' : World) (h : Below w3.heap.size w3 w') => hP.below h)
  have HF := Lib.hid hFit
  clear hb hP hFit
  unfold pgV
  have hb4 := below_alloc HB3.out (.cells #[.slice I L'.length c, .slice C K'.length d, .int .i64 g'] 25)
  have hx4 := heap_alloc_new2 w3 (.cells #[.slice I L'.length c, .slice C K'.length d, .int .i64 g'] 25) w3.heap.size _ rfl
  have hp4 := hP3.out _ (below_alloc (Below.refl w3.heap.size w3) (.cells #[.slice I L'.length c, .slice C K'.length d, .int .i64 g'] 25))
  obtain ⟨n, hn⟩ : ∃ x, L'.length = x := ⟨_, rfl⟩
  obtain ⟨m, hm⟩ : ∃ x, K'.length = x := ⟨_, rfl⟩
  rw [hn, hm] at hb4 hx4 hp4 ⊢
  have HN := Lib.hid hn
  have HM := Lib.hid hm
  clear hn hm
  obtain ⟨w4, hw4⟩ : ∃ x, w3.alloc (.cells #[.slice I n c, .slice C m d, .int .i64 g'] 25) = x := ⟨_, rfl⟩
  rw [hw4] at hb4 hx4 hp4
  obtain ⟨x0, x1, x2, x3, x4, x5, x6, xl⟩ := F1.out w4 hb4
  have HB4 := Lib.hid hb4
  have HX4 := Lib.hid hx4
  have HP4 := Lib.hid (fun (w' : World) (h : Below w4.heap.size w4 w') => hp4.below h)
  clear hb4 hx4 hp4 hP3
  go_upto_region 5 with fail
  try rw [hw4]
  obtain ⟨b2, hb2⟩ : ∃ x, w3.heap.size = x := ⟨_, rfl⟩
  rw [hb2] at HX4 ⊢
  clear hb2 hw4
  go_wp2_with fail
  clear x0 x1 x2 x3 x4 x5 x6 xl
  refine Calls.mono (CG.out w4 (below_then HB2.out HB4.out)) ?_
  rintro e w5 ⟨A1, P, k1, A2, R, k2, A3, C', k3, rfl, hT, _, hb⟩
  have HB5 := Lib.hid (below_then HB4.out hb)
  have HX5 := Lib.hid (blk_later HX4.out hb)
  have HP5 := Lib.hid (fun (w' : World) (h : Below w5.heap.size w5 w') => HP4.out w' (hb.trans (h.mono hb.size)))
  clear hb HX4 HP4
  unfold tabV
  have hb6 := below_alloc HB5.out (.cells #[.slice A1 P.length k1, .slice A2 R.length k2, .slice A3 C'.length k3] 34)
  have hx6 := heap_alloc_new2 w5 (.cells #[.slice A1 P.length k1, .slice A2 R.length k2, .slice A3 C'.length k3] 34) w5.heap.size _ rfl
  have ht6 := hT.below (below_alloc (Below.refl w5.heap.size w5) (.cells #[.slice A1 P.length k1, .slice A2 R.length k2, .slice A3 C'.length k3] 34))
  have hq6 := blk_alloc HX5.out (.cells #[.slice A1 P.length k1, .slice A2 R.length k2, .slice A3 C'.length k3] 34)
  have hp6 := HP5.out _ (below_alloc (Below.refl w5.heap.size w5) (.cells #[.slice A1 P.length k1, .slice A2 R.length k2, .slice A3 C'.length k3] 34))
  obtain ⟨p, hp⟩ : ∃ x, P.length = x := ⟨_, rfl⟩
  obtain ⟨q, hq⟩ : ∃ x, R.length = x := ⟨_, rfl⟩
  obtain ⟨z, hz⟩ : ∃ x, C'.length = x := ⟨_, rfl⟩
  rw [hp, hq, hz] at hb6 hx6 ht6 hq6 hp6 ⊢
  have HPN := Lib.hid hp
  have HQN := Lib.hid hq
  have HZN := Lib.hid hz
  clear hp hq hz hT HX5 HP5
  obtain ⟨w6, hw6⟩ : ∃ x, w5.alloc (.cells #[.slice A1 p k1, .slice A2 q k2, .slice A3 z k3] 34) = x := ⟨_, rfl⟩
  rw [hw6] at hb6 hx6 ht6 hq6 hp6
  obtain ⟨b3, hb3⟩ : ∃ x, w5.heap.size = x := ⟨_, rfl⟩
  rw [hb3] at hx6
  have HB6 := Lib.hid hb6
  have HX6 := Lib.hid hx6
  have HQ6 := Lib.hid hq6
  have HT6 := Lib.hid (fun (w' : World) (h : Below w6.heap.size w6 w') => ht6.below h)
  have HP6 := Lib.hid (fun (w' : World) (h : Below w6.heap.size w6 w') => hp6.below h)
  have F2 := Lib.hid (fun (w' : World) (h : Below w6.heap.size w6 w') => (⟨(cells_of (blk_later HQ6.out h)).at_ 0 _ rfl, (cells_of (blk_later HQ6.out h)).at_ 1 _ rfl, (cells_of (blk_later HQ6.out h)).at_ 2 _ rfl, lt_of_some (blk_later HQ6.out h)⟩ : _ ∧ _ ∧ _ ∧ _))
  have F3 := Lib.hid (fun (w' : World) (h : Below w6.heap.size w6 w') => (⟨(cells_of (blk_later HX6.out h)).at_ 0 _ rfl, (cells_of (blk_later HX6.out h)).at_ 1 _ rfl, (cells_of (blk_later HX6.out h)).at_ 2 _ rfl, lt_of_some (blk_later HX6.out h)⟩ : _ ∧ _ ∧ _ ∧ _))
  clear hb6 hx6 ht6 hq6 hp6 HX6 HQ6
  go_upto_region 6 with fail
  try rw [hw6]
  try rw [hb3]
  clear hw6 hb3
  have c14 := put14_eq I C L' K' c d g' w6 (HP6.out _ (Below.refl _ _))
  have c26 := fun (w' : World) (h : Below w6.heap.size w6 w') => rprog_copy I C L' K' c d g' w' (HP6.out w' h) (Nat.le_trans HF.out.i (by decide)) (Nat.le_trans HF.out.k (by decide)) (fun x hx => Nat.le_trans (HF.out.r x hx) (by decide))
  have c16 := fun (w' : World) (h : Below w6.heap.size w6 w') => put16_eq A1 P k1 A2 R k2 A3 C' k3 w' (HT6.out w' h)
  have c27 := fun (w' : World) (h : Below w6.heap.size w6 w') => put27_eq A1 P k1 A2 R k2 A3 C' k3 w' (HT6.out w' h)
  obtain ⟨KR, hKR⟩ : ∃ x, K'.map Cs.R = x := ⟨_, rfl⟩
  rw [hKR] at c14
  have HKR := Lib.hid hKR
  have c25 := fun (I2 : Option Addr) (c2 : Nat) (C2 : Option Addr) (d2 : Nat) (K2 : List Cs) (hK : K2.map Cs.R = KR) (w' : World) (h : PgAt w' I2 L' C2 K2) => put25_eq I2 C2 L' K2 c2 d2 g' w' h
  obtain ⟨T1, hT1⟩ : ∃ x, PT L' KR g' = x := ⟨_, rfl⟩
  obtain ⟨q1, hq1⟩ : ∃ x, pgP L' KR g' = x := ⟨_, rfl⟩
  obtain ⟨T2, hT2⟩ : ∃ x, TT P (nums R) C' = x := ⟨_, rfl⟩
  obtain ⟨q2, hq2⟩ : ∃ x, Plain.tabRight P (nums R) C'.length = x := ⟨_, rfl⟩
  have hz1 : T1.size ≤ 65536 := by rw [← hT1]; exact PT_size _ _ _
  have hz2 : T2.size ≤ 65536 := by rw [← hT2]; exact TT_size _ _ _
  rw [hT1, hq1] at c14
  have C25 := Lib.hid (fun (I2 : Option Addr) (c2 : Nat) (C2 : Option Addr) (d2 : Nat) (K2 : List Cs) (hK : K2.map Cs.R = KR) (w' : World) (h : PgAt w' I2 L' C2 K2) => (show Calls Tryz.prog 25 #[pgV I2 n c2 C2 K2.length d2 g'] w' (fun e w'' => e = .returned (.tuple #[.string T1, .bool q1]) ∧ Below w'.heap.size w' w'') from by
    have h := c25 I2 c2 C2 d2 K2 hK w' h
    rw [hK, hT1, hq1, HN.out] at h
    exact h))
  simp only [hT2, hq2] at c16 c27
  unfold tabV at c16 c27
  rw [HPN.out, HQN.out, HZN.out] at c16 c27
  unfold pgV at c14
  rw [HN.out, HM.out] at c14
  have C26 := Lib.hid (fun (w' : World) (h : Below w6.heap.size w6 w') => (show Calls Tryz.prog 26 #[.agg #[.slice I n c, .slice C m d, .int .i64 g']] w' (fun e w'' => ∃ I2 c2 C2 d2 K2, K2.map Cs.R = KR ∧ e = .returned (pgV I2 n c2 C2 K2.length d2 g') ∧ PgAt w'' I2 L' C2 K2 ∧ Below w'.heap.size w' w'') from by
    have h := c26 w' h
    rw [hKR, HN.out, HM.out] at h
    exact h))
  have C14 := Lib.hid c14
  have C16 := Lib.hid c16
  have C27 := Lib.hid c27
  clear c14 c26 c25 c16 c27 hKR hT1 hq1 hT2 hq2
  obtain ⟨x0, x1, x2, xl⟩ := F2.out w6 (Below.refl _ _)
  go_wp2_with fail
  refine Calls.mono C14.out ?_
  rintro e w7 ⟨rfl, hb⟩
  have HB7 := Lib.hid hb
  clear hb x0 x1 x2 xl
  obtain ⟨x0, x1, x2, xl⟩ := F2.out w7 HB7.out
  go_wp2_with fail
  clear x0 x1 x2 xl
  refine Calls.mono (C26.out w7 HB7.out) ?_
  rintro e w8 ⟨I2, c2, C2, d2, K2, hK, rfl, hP, hb⟩
  have HB8 := Lib.hid (HB7.out.trans (hb.mono HB7.out.size))
  clear hb
  have c25 := C25.out I2 c2 C2 d2 K2 hK w8 hP
  unfold pgV at c25 ⊢
  have C25' := Lib.hid c25
  clear c25 C25 hP hK
  generalize K2.length = m2 at *
  go_wp2_with fail
  refine Calls.mono C25'.out ?_
  rintro e w9 ⟨rfl, hb⟩
  have HB9 := Lib.hid (HB8.out.trans (hb.mono HB8.out.size))
  clear hb
  obtain ⟨x0, x1, x2, xl⟩ := F3.out w9 HB9.out
  go_wp2_with fail
  clear x0 x1 x2 xl
  refine Calls.mono (C16.out w9 HB9.out) ?_
  rintro e w10 ⟨rfl, hb⟩
  have HB10 := Lib.hid (HB9.out.trans (hb.mono HB9.out.size))
  clear hb
  obtain ⟨x0, x1, x2, xl⟩ := F3.out w10 HB10.out
  go_wp2_with fail
  clear x0 x1 x2 xl
  refine Calls.mono (reftab_any A1 p k1 A2 q k2 A3 z k3 w10) ?_
  rintro e w11 ⟨rfl, hb⟩
  have HB11 := Lib.hid (HB10.out.trans (hb.mono HB10.out.size))
  clear hb
  go_wp2_with fail
  refine Calls.mono (C27.out w11 HB11.out) ?_
  rintro e w12 ⟨rfl, hb⟩
  have HB12 := Lib.hid (HB11.out.trans (hb.mono HB11.out.size))
  clear hb
  have cs := seal_any s w12 HS.out
  have cr := fun w => rseal_any s w (Nat.le_trans HS.out (by decide))
  obtain ⟨T, hT⟩ : ∃ x, str (Plain.sealL s.data.toList) = x := ⟨_, rfl⟩
  rw [hT] at cs
  simp only [hT] at cr
  have CS := Lib.hid cs
  have CR := Lib.hid cr
  clear cs cr hT
  go_wp2_with fail
  refine Calls.mono CS.out ?_
  rintro e w13 ⟨rfl, hb⟩
  have HB13 := Lib.hid (HB12.out.trans (hb.mono HB12.out.size))
  clear hb
  go_wp2_with fail
  refine Calls.mono (CR.out w13) ?_
  rintro e w14 ⟨rfl, hb⟩
  have HB14 := Lib.hid (HB13.out.trans (hb.mono HB13.out.size))
  clear hb
  go_wp2_with fail
  go_ret
  exact ⟨rfl, HB2.out.trans ((below_then HB6.out HB14.out).mono HB2.out.size)⟩
end Go.Proofs.YtmiacgkidldjmaaGreatDoor
namespace Go.Proofs.YtmiacgkidldjmaaGreatDoor
open Go.ChangeShapes Go.WideShapes Go.RowKit Go.Lib Go.Deep Go.Maps
open Plain (Rg In4)
set_option maxRecDepth 100000 in
theorem wputs_all {H : Type} {enc : TypeId × Value → H} {base base1 : Nat} {v v1 : Value} {d d1 : DataW H} {p p1 : List MemPlace} (s : ByteArray) (W : World) (hv : Value.okWide Tryz.prog W .any base 62 v) (h : DataW.Trod enc Tryz.prog W 0 (fun _ => true) true 62 v d p) (hz : ∀ n ∈ d.weights Tryz.prog 62, n ≤ reachBytes)
    (hv1 : Value.okWide Tryz.prog W .any base1 63 v1) (h1 : DataW.Trod enc Tryz.prog W 0 (fun _ => true) true 63 v1 d1 p1) (hs : s.size ≤ 140737488355328) :
    Calls Tryz.prog 7 #[v, v1, .string s] W fun e w' => e = .returned (.bool true) ∧ Below W.heap.size W w' := by
  obtain ⟨PI, PL, pic, PC, PK, pcc, pg, own, LA, L, lc, g, rfl, hC, hF⟩ := open_code_wz hv h hz
  obtain ⟨TP, TL, tpc, TN, TR, tnc, TA, TC, tac, ow2, PA, GL, pc, NA, NL, nc, AA, AL, ac, rfl, hG, hT, htc⟩ := open_grid2_w hv1 h1
  exact wputs_w s hs PI PC LA PL PK pic pcc lc pg own L g TP TL tpc TN TR tnc TA TC tac ow2 PA GL pc NA NL nc AA AL ac W hC hF hG hT htc
end Go.Proofs.YtmiacgkidldjmaaGreatDoor
