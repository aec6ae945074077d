/- Chapter 13: SealBlobs, the walk. Conditions: what the lemma says. -/
import Derived.Test.YtmiacgkidldjmaaGreatDoorSealE
import Derived.Test.YtmiacgkidldjmaaGreatDoorOpenG
set_option linter.unusedVariables false
set_option linter.unusedSimpArgs false
namespace Go.Proofs.YtmiacgkidldjmaaGreatDoor
open Go.ChangeShapes Go.WideShapes Go.RowKit Go.Lib Go.Deep
open Plain (Rg May mayB In Norm In4 slotsOf insB bnd riB cls cnot rightB normB)
theorem tab_more (P : List Int) (N : List (List Int)) (C : List Bool) (h : Plain.FitsT P N C) (z : List UInt8) (hz : z.length = 4) :
    ((Plain.gTab (Plain.rd0 (Plain.tabL P N C ++ z))).st.fin (Plain.tabL P N C ++ z).length).bad = 8 := by
  obtain ⟨B, hB⟩ : ∃ B, Plain.bodyL 84 4 (Plain.partsL P) (Plain.nextL N) (Plain.accL C) = B := ⟨_, rfl⟩
  have hp := Plain.tab_read P N C (Plain.padN B.length) (Plain.sealed (Plain.padL B)) h B hB rfl ((Plain.tabL P N C ++ z).length) (by unfold Plain.tabL Plain.blobL; rw [hB, List.length_append, Plain.sealL_len, Plain.sealed_len, hz]; omega)
  have e : Plain.rd0 (Plain.tabL P N C ++ z) = ⟨⟨(B ++ (List.replicate (Plain.padN B.length) 0 ++ Plain.sealed (Plain.padL B))).drop 3, 0⟩, ⟨[], 0⟩, 0⟩ := by
    rw [Plain.rd0_of _ _ hz]; unfold Plain.tabL Plain.blobL Plain.sealL Plain.padL; rw [hB, List.append_assoc]
  rw [e, hp.2, if_neg (by intro h; have := congrArg List.length h; rw [Plain.sealed_len] at this; simp at this)]
theorem kind_more (l z : List UInt8) (hz : z.length = 4) (h : l.length ≤ 40000) (k : Int) (hk : Plain.kindE l = (k, 0)) : Plain.kindE (l ++ z) = (k, 0) := by
  unfold Plain.kindE at hk ⊢
  rw [if_neg (by omega)] at hk
  by_cases h8 : l.length < 8
  · rw [if_pos h8] at hk; exact absurd (congrArg Prod.snd hk) (fun h : (4 : Int) = 0 => absurd h (by decide))
  · rw [if_neg h8] at hk
    rw [if_neg (by rw [List.length_append, hz]; omega), if_neg (by rw [List.length_append, hz]; omega), List.take_append_of_le_length (by omega)]
    exact hk
theorem endR8 (b : Bool) : endR 8 b = 8 := by unfold endR; rw [if_neg (fun h => absurd h.1 (by decide))]
structure Puts (k : Int) (l : List UInt8) (ok : Bool) : Prop where
  len : l.length ≤ 40000
  yes : ok = true → blobP l = (k, 0)
  no : ok = false → (blobP l).2 = 4
  more : (blobP (l ++ [0, 0, 0, 0])).2 ≠ 0
theorem puts_none (k : Int) : Puts k [] false := ⟨by decide, (fun h => by cases h), (fun _ => by rfl), by
  have : (blobP ([] ++ [0, 0, 0, 0])).2 = 4 := by rfl
  rw [this]; decide⟩
theorem puts_prog (L : List In4) (K : List (List Rg)) (g : Int) (hf : Plain.Fits L K g) (hp : pgP L K g = true) : Puts 1 (Plain.progL L K g) true := by
  have hk := Plain.progL_kind L K g hf
  have hl := (Plain.progL_len L K g hf).2
  refine ⟨hl, fun _ => ?_, fun h => (by cases h), ?_⟩
  · unfold blobP
    rw [hk, (getE_put L K g hf hp).1]
    rfl
  · have hm := kind_more _ [0, 0, 0, 0] rfl hl 1 hk
    have hb := Plain.prog_more L K g hf [0, 0, 0, 0] rfl
    have hg : getE (Plain.progL L K g ++ [0, 0, 0, 0]) ≠ 0 := by
      unfold getE
      rw [hb, endR8]
      split
      · assumption
      · decide
    unfold blobP
    rw [hm]
    dsimp only
    rw [if_neg (by decide), if_pos rfl, if_neg hg]
    exact hg
theorem puts_tab (P : List Int) (N : List (List Int)) (C : List Bool) (hp : Plain.tabRight P N C.length = true) : Puts 2 (Plain.tabL P N C) true := by
  have hf := Plain.tab_fits hp
  have hk := Plain.tabL_kind P N C hf
  have hl := (Plain.tabL_len P N C hf).2
  refine ⟨hl, fun _ => ?_, fun h => (by cases h), ?_⟩
  · unfold blobP
    rw [hk, (getTE_put P N C hp).1]
    rfl
  · have hm := kind_more _ [0, 0, 0, 0] rfl hl 2 hk
    have hb := tab_more P N C hf [0, 0, 0, 0] rfl
    have hg : getTE (Plain.tabL P N C ++ [0, 0, 0, 0]) ≠ 0 := by
      unfold getTE
      rw [hb, endR8]
      split
      · assumption
      · decide
    unfold blobP
    rw [hm]
    dsimp only
    rw [if_neg (by decide), if_neg (by decide), if_neg hg]
    exact hg
theorem put14_any (I C : Option Addr) (L : List In4) (K : List Cs) (c d : Nat) (g : Int) (w : World) (hP : PgAt w I L C K) :
    ∃ l ok, Puts 1 l ok ∧ Calls Tryz.prog 14 #[pgV I L.length c C K.length d g] w fun e w' => e = .returned (.tuple #[.string (str l), .bool ok]) ∧ Below w.heap.size w w' := by
  by_cases h : pgR L K g = true
  · exact ⟨_, _, puts_prog L (K.map Cs.R) g (pgR_fits h) (by rw [← pgP_eq]; exact h), putprog_yes I C L K c d g w hP h⟩
  · exact ⟨[], false, puts_none 1, putprog_not I C L K c d g w hP (by simpa using h)⟩
theorem put16_any (PA : Option Addr) (P : List Int) (pc : Nat) (NA : Option Addr) (R : List Row) (nc : Nat) (AA : Option Addr) (C : List Bool) (ac : Nat) (w : World) (hT : TabAt w PA P NA R AA C) :
    ∃ l ok, Puts 2 l ok ∧ Calls Tryz.prog 16 #[tabV PA P pc NA R nc AA C ac] w fun e w' => e = .returned (.tuple #[.string (str l), .bool ok]) ∧ Below w.heap.size w w' := by
  by_cases h : Plain.tabRight P (nums R) C.length = true
  · exact ⟨_, _, puts_tab P (nums R) C h, puttab_yes PA P pc NA R nc AA C ac w hT h⟩
  · exact ⟨[], false, puts_none 2, puttab_not PA P pc NA R nc AA C ac w hT (by simpa using h)⟩
theorem blob_more (l : List UInt8) (hl : l.length ≤ 40000) (w : World) : Calls Tryz.prog 18 #[.string (str l ++ ⟨#[0, 0, 0, 0]⟩)] w fun e w' => e = .returned (.tuple #[.int .i64 (blobP (l ++ [0, 0, 0, 0])).1, .int .i64 (blobP (l ++ [0, 0, 0, 0])).2]) ∧ Below w.heap.size w w' := by
  have e : str l ++ ⟨#[0, 0, 0, 0]⟩ = str (l ++ [0, 0, 0, 0]) := str_app l [0, 0, 0, 0]
  rw [e]
  exact blob13_any _ (by rw [List.length_append]; simp; omega) w
set_option maxRecDepth 1000000 in
set_option maxHeartbeats 8000000 in
theorem blobs_w (PI PC LA : Option Addr) (PL : List In4) (PK : List Cs) (pic pcc lc : Nat) (pg : Int) (own : Bool) (L : List Int) (g : Int)
    (TP TN TA PA NA AA : Option Addr) (TL : List Int) (TR : List Row) (TC : List Bool) (tpc tnc tac pc nc ac : Nat) (ow2 : Bool) (GL NL : List Int) (AL : List Bool) (W : World)
    (hC : CodeAt W PI PL PC PK pg LA L g) (hG : GridAt W PA GL NA NL AA AL) (hT : TabAt W TP TL TN TR TA TC) (htc : TL.length ≤ tpc) :
    Calls Tryz.prog 3 #[.agg #[.slice PI PL.length pic, .slice PC PK.length pcc, .int .i64 pg, .bool own, .slice LA L.length lc, .int .u8 g], .agg #[.slice TP TL.length tpc, .slice TN TR.length tnc, .slice TA TC.length tac, .bool ow2, .slice PA GL.length pc, .slice NA NL.length nc, .slice AA AL.length ac]] W fun e w' => e = .returned (.bool true) ∧ Below W.heap.size W w' := by
  have CX := Lib.hid (fun W => ex13_any W)
  have CC := Lib.hid (fun (w : World) (hb : Below W.heap.size W w) => code_any PI PC LA PL PK pic pcc lc pg own L g W w hC hb)
  have CG := Lib.hid (fun (w : World) (hb : Below W.heap.size W w) => grid_any TP TL tpc TN TR tnc TA TC tac ow2 PA GL pc NA NL nc AA AL ac w (hG.below hb) (hT.below hb) htc)
  obtain ⟨a1, ha1⟩ : ∃ x, PL.length = x := ⟨_, rfl⟩
  obtain ⟨a2, ha2⟩ : ∃ x, PK.length = x := ⟨_, rfl⟩
  obtain ⟨a3, ha3⟩ : ∃ x, L.length = x := ⟨_, rfl⟩
  obtain ⟨a4, ha4⟩ : ∃ x, TL.length = x := ⟨_, rfl⟩
  obtain ⟨a5, ha5⟩ : ∃ x, TR.length = x := ⟨_, rfl⟩
  obtain ⟨a6, ha6⟩ : ∃ x, TC.length = x := ⟨_, rfl⟩
  obtain ⟨a7, ha7⟩ : ∃ x, GL.length = x := ⟨_, rfl⟩
  obtain ⟨a8, ha8⟩ : ∃ x, NL.length = x := ⟨_, rfl⟩
  obtain ⟨a9, ha9⟩ : ∃ x, AL.length = x := ⟨_, rfl⟩
  rw [ha1, ha2, ha3] at CC
  rw [ha4, ha5, ha6, ha7, ha8, ha9] at CG
  rw [ha1, ha2, ha3, ha4, ha5, ha6, ha7, ha8, ha9]
  clear ha1 ha2 ha3 ha4 ha5 ha6 ha7 ha8 ha9 hC hG hT htc
  go_enter Tryz.func3, Tryz.ntmps3
  go_wp2_with fail
  have HB0 := Lib.hid (below_alloc (below_alloc (Below.refl W.heap.size W) (.cells #[.slice PI a1 pic, .slice PC a2 pcc, .int .i64 pg, .bool own, .slice LA a3 lc, .int .u8 g] 28)) (.cells #[.slice TP a4 tpc, .slice TN a5 tnc, .slice TA a6 tac, .bool ow2, .slice PA a7 pc, .slice NA a8 nc, .slice AA a9 ac] 37))
  have hX := blk_alloc (heap_alloc_new2 W (.cells #[.slice PI a1 pic, .slice PC a2 pcc, .int .i64 pg, .bool own, .slice LA a3 lc, .int .u8 g] 28) W.heap.size _ rfl) (.cells #[.slice TP a4 tpc, .slice TN a5 tnc, .slice TA a6 tac, .bool ow2, .slice PA a7 pc, .slice NA a8 nc, .slice AA a9 ac] 37)
  have hY := heap_alloc_new2 (W.alloc (.cells #[.slice PI a1 pic, .slice PC a2 pcc, .int .i64 pg, .bool own, .slice LA a3 lc, .int .u8 g] 28)) (.cells #[.slice TP a4 tpc, .slice TN a5 tnc, .slice TA a6 tac, .bool ow2, .slice PA a7 pc, .slice NA a8 nc, .slice AA a9 ac] 37) (W.heap.size + 1) _ (by simp)
  refine (CX.out _).mono ?_
  rintro e1 w1 ⟨rfl, hb⟩
  have HB1 := Lib.hid (below_then HB0.out hb)
  have hX1 := blk_later hX hb
  have HY1 := Lib.hid (blk_later hY hb)
  clear hb HB0 hX hY
  have hlw := lt_of_some hX1
  have x0 := (cells_of hX1).at_ 0 _ rfl
  have x1 := (cells_of hX1).at_ 1 _ rfl
  have x2 := (cells_of hX1).at_ 2 _ rfl
  have x3 := (cells_of hX1).at_ 3 _ rfl
  have x4 := (cells_of hX1).at_ 4 _ rfl
  have x5 := (cells_of hX1).at_ 5 _ rfl
  clear hX1
  go_wp2_with fail
  clear x0 x1 x2 x3 x4 x5 hlw
  refine (CC.out _ HB1.out).mono ?_
  rintro e2 w2 ⟨I, C, LL, K, c, d, gq, rfl, hP, hb, _, _, _⟩
  have HB2 := Lib.hid (below_then HB1.out hb)
  have HY2 := Lib.hid (blk_later HY1.out hb)
  obtain ⟨l1, ok1, hp1, cP⟩ := put14_any I C LL K c d gq w2 hP
  unfold pgV at cP ⊢
  obtain ⟨n1, hn1⟩ : ∃ x, LL.length = x := ⟨_, rfl⟩
  obtain ⟨n2, hn2⟩ : ∃ x, K.length = x := ⟨_, rfl⟩
  rw [hn1, hn2] at cP ⊢
  have CP := Lib.hid cP
  clear hb HB1 HY1 hn1 hn2 hP cP
  go_wp2_with fail
  refine CP.out.mono ?_
  rintro e3 w3 ⟨rfl, hb⟩
  have HB3 := Lib.hid (below_then HB2.out hb)
  have hY3 := blk_later HY2.out hb
  clear hb HB2 HY2
  have cM1 := fun w => blob_more l1 hp1.len w
  have cB1 := fun w => blob13_any l1 (by have := hp1.len; omega) w
  have hlw := lt_of_some hY3
  have x0 := (cells_of hY3).at_ 0 _ rfl
  have x1 := (cells_of hY3).at_ 1 _ rfl
  have x2 := (cells_of hY3).at_ 2 _ rfl
  have x3 := (cells_of hY3).at_ 3 _ rfl
  have x4 := (cells_of hY3).at_ 4 _ rfl
  have x5 := (cells_of hY3).at_ 5 _ rfl
  have x6 := (cells_of hY3).at_ 6 _ rfl
  obtain ⟨p1, hpp⟩ : ∃ x, blobP l1 = x := ⟨_, rfl⟩
  obtain ⟨q1, hq1⟩ : ∃ x, blobP (l1 ++ [0, 0, 0, 0]) = x := ⟨_, rfl⟩
  rw [hpp] at cB1
  rw [hq1] at cM1
  have hm1 : q1.2 ≠ 0 := by rw [← hq1]; exact hp1.more
  have hy1 : ok1 = true → p1 = (1, 0) := by rw [← hpp]; exact hp1.yes
  have hz1 : ok1 = false → p1.2 = 4 := by rw [← hpp]; exact hp1.no
  have HM1 := Lib.hid hm1
  have HY1 := Lib.hid hy1
  have HZ1 := Lib.hid hz1
  obtain ⟨S1, hS1⟩ : ∃ x, str l1 = x := ⟨_, rfl⟩
  rw [hS1] at cB1 cM1 ⊢
  have HS1 := Lib.hid (show S1.size ≤ 40000 by rw [← hS1, str_size]; exact hp1.len)
  have CB1 := Lib.hid cB1
  have CM1 := Lib.hid cM1
  clear hY3 hpp hq1 hm1 hy1 hz1 hS1 hp1 cB1 cM1 CP
  go_wp2_with fail
  clear x0 x1 x2 x3 x4 x5 x6 hlw
  refine (CG.out _ HB3.out).mono ?_
  rintro e4 w4 ⟨GP, P, gpc, GN, R, gnc, GA, GC, gac, rfl, hT, _, hb⟩
  have HB4 := Lib.hid (below_then HB3.out hb)
  obtain ⟨l2, ok2, hp2, cP⟩ := put16_any GP P gpc GN R gnc GA GC gac w4 hT
  unfold tabV at cP ⊢
  obtain ⟨n3, hn3⟩ : ∃ x, P.length = x := ⟨_, rfl⟩
  obtain ⟨n4, hn4⟩ : ∃ x, R.length = x := ⟨_, rfl⟩
  obtain ⟨n5, hn5⟩ : ∃ x, GC.length = x := ⟨_, rfl⟩
  rw [hn3, hn4, hn5] at cP ⊢
  have CP := Lib.hid cP
  clear hb HB3 hn3 hn4 hn5 hT cP
  go_wp2_with fail
  refine CP.out.mono ?_
  rintro e5 w5 ⟨rfl, hb⟩
  have HB5 := Lib.hid (below_then HB4.out hb)
  clear hb HB4 CP
  have cB2 := fun w => blob13_any l2 (by have := hp2.len; omega) w
  obtain ⟨p2, hpp⟩ : ∃ x, blobP l2 = x := ⟨_, rfl⟩
  rw [hpp] at cB2
  have hy2 : ok2 = true → p2 = (2, 0) := by rw [← hpp]; exact hp2.yes
  have hz2 : ok2 = false → p2.2 = 4 := by rw [← hpp]; exact hp2.no
  have HY2 := Lib.hid hy2
  have HZ2 := Lib.hid hz2
  obtain ⟨S2, hS2⟩ : ∃ x, str l2 = x := ⟨_, rfl⟩
  rw [hS2] at cB2 ⊢
  have CB2 := Lib.hid cB2
  clear hpp hy2 hz2 hS2 hp2 cB2
  go_wp2_with fail
  refine (CB1.out _).mono ?_
  rintro e6 w6 ⟨rfl, hb⟩
  have HB6 := Lib.hid (below_then HB5.out hb)
  clear hb HB5
  go_wp2_with fail
  refine (CB2.out _).mono ?_
  rintro e7 w7 ⟨rfl, hb⟩
  have HB7 := Lib.hid (below_then HB6.out hb)
  clear hb HB6
  have hs1 := HS1.out
  have g1 : ¬ (9223372036854775807 < S1.size + (⟨#[0, 0, 0, 0]⟩ : ByteArray).size) := by show ¬ (9223372036854775807 < S1.size + 4); omega
  have g2 : ¬ (9223372036854775807 < S1.size + 4) := by omega
  go_wp2_with fail
  clear g1 g2 hs1
  refine (CM1.out _).mono ?_
  rintro e8 w8 ⟨rfl, hb⟩
  have HB8 := Lib.hid (below_then HB7.out hb)
  clear hb HB7
  obtain ⟨p1a, p1b⟩ := p1
  obtain ⟨p2a, p2b⟩ := p2
  obtain ⟨q1a, q1b⟩ := q1
  have hm := HM1.out
  have hy1 := HY1.out
  have hz1 := HZ1.out
  have hy2 := HY2.out
  have hz2 := HZ2.out
  dsimp only at hm hz1 hz2 ⊢
  have hmm : (q1b != 0) = true := by simpa using hm
  clear HM1 HY1 HZ1 HY2 HZ2
  cases ok1 <;> cases ok2
  · have h1 := hz1 rfl
    have h2 := hz2 rfl
    subst h1 h2
    clear hy1 hy2 hz1 hz2
    go_wp2
    go_ret
    exact ⟨rfl, HB8.out⟩
  · have h1 := hz1 rfl
    have h2 := hy2 rfl
    cases h2
    subst h1
    clear hy1 hy2 hz1 hz2
    go_wp2
    go_ret
    exact ⟨rfl, HB8.out⟩
  · have h1 := hy1 rfl
    have h2 := hz2 rfl
    cases h1
    subst h2
    clear hy1 hy2 hz1 hz2
    go_wp2
    go_ret
    exact ⟨rfl, HB8.out⟩
  · have h1 := hy1 rfl
    have h2 := hy2 rfl
    cases h1
    cases h2
    clear hy1 hy2 hz1 hz2
    go_wp2
    go_ret
    exact ⟨rfl, HB8.out⟩
set_option maxRecDepth 100000 in
theorem blobs_all {H : Type} {enc : TypeId × Value → H} {base : Nat} {v v' : Value} {d d' : DataW H} {p p' : List MemPlace} (W : World) (hv : Value.okWide Tryz.prog W .any base 28 v) (h : DataW.Trod enc Tryz.prog W 0 (fun _ => true) true 28 v d p)
    (hv' : Value.okWide Tryz.prog W .any base 37 v') (h' : DataW.Trod enc Tryz.prog W 0 (fun _ => true) true 37 v' d' p') :
    Calls Tryz.prog 3 #[v, v'] W fun e w' => e = .returned (.bool true) ∧ Below W.heap.size W w' := by
  obtain ⟨PI, PL, pic, PC, PK, pcc, pg, own, LA, L, lc, g, rfl, hC⟩ := open_code hv h
  obtain ⟨TP, TL, tpc, TN, TR, tnc, TA, TC, tac, ow2, PA, GL, pc, NA, NL, nc, AA, AL, ac, rfl, hG, hT, htc⟩ := open_grid2 hv' h'
  exact blobs_w PI PC LA PL PK pic pcc lc pg own L g TP TN TA PA NA AA TL TR TC tpc tnc tac pc nc ac ow2 GL NL AL W hC hG hT htc
end Go.Proofs.YtmiacgkidldjmaaGreatDoor
