/- RawdfaTells: the walk. Conditions: what each lemma says. -/
import Derived.Test.YtgppobaoclfgcaaGreatDoorCodeB
import Derived.Test.YtgppobaoclfgcaaGreatDoorRefM
import Derived.Test.YtgppobaoclfgcaaGreatDoorStA
import Derived.Test.YtgppobaoclfgcaaGreatDoorBackT
import Derived.Test.YtgppobaoclfgcaaGreatDoorRunA
import Derived.Test.YtgppobaoclfgcaaGreatDoorMacD
import Derived.Laws.AppendOwnNone
import Derived.Deep.QuietTactic
import Derived.BigQuiet
import Derived.Deep.CutBlock
import Derived.Deep.DeepCutAuto
import Derived.Deep.RegionHeld3
set_option linter.unusedVariables false
set_option linter.unusedSimpArgs false
namespace Go.Proofs.YtgppobaoclfgcaaGreatDoor
open Go.RowKit Go.Lib
open Plain (In4)
/-- what OfTable hands back, of any table -/
def OftRes (w : World) (e : Ending) (w' : World) : Prop :=
  ∃ (FA : Option Addr) (F : List Int) (fc : Nat) (KA : Option Addr) (K : List Int) (kc : Nat) (AA : Option Addr) (A : List Int) (ac : Nat) (er : Int), e = .returned (.tuple #[flatV FA F fc KA K kc AA A ac, .int .i64 er]) ∧ FlatAt w' FA F KA K AA A ∧ FlatNums F K A kc ∧
    A.length ≤ ac ∧ F.length ≤ 64 ∧ A.length ≤ 64 ∧ K.length ≤ 4096 ∧ (K.length = 0 → KA = none ∧ kc = 0) ∧ (A.length = 0 → AA = none ∧ ac = 0) ∧ Below w.heap.size w w'
theorem flat_nil (w : World) : FlatAt w none [] none [] none [] := ⟨Sl.nil _ _, Sl.nil _ _, Sl.nil _ _⟩
theorem nums_nil : FlatNums [] [] [] 0 := ⟨Nat.zero_le _, Nat.zero_le _, Nat.zero_le _, Nat.zero_le _, fun k h => absurd h (by simp), fun k h => absurd h (by simp), fun k h => absurd h (by simp)⟩
theorem oft_any (PA : Option Addr) (P : List Int) (pc : Nat) (NA : Option Addr) (R : List Row) (nc : Nat) (AA : Option Addr) (C : List Bool) (ac : Nat) (w : World) (hT : TabAt w PA P NA R AA C) :
    Calls Tryz.prog 8 #[tabV PA P pc NA R nc AA C ac] w (OftRes w) := by
  cases hq : Plain.tabRight P (nums R) C.length
  · refine (oftable_wrong PA P pc NA R nc AA C ac w hT hq).mono ?_
    rintro e w' ⟨rfl, hb⟩
    exact ⟨none, [], 0, none, [], 0, none, [], 0, 11, rfl, flat_nil _, nums_nil, Nat.zero_le _, Nat.zero_le _, Nat.zero_le _, Nat.zero_le _, fun _ => ⟨rfl, rfl⟩, fun _ => ⟨rfl, rfl⟩, hb⟩
  · obtain ⟨hp, hn, hn0, hn64, hrow⟩ := Plain.tab_right _ _ _ hq
    obtain ⟨⟨b0, b64, _⟩, hb⟩ := Plain.parts_bound P hp
    have hkl := Plain.cellsOf_len_le (nums R) P.length (fun r hr => (hrow r hr).1) b64 hn64
    refine (laid_any PA P pc NA R nc AA C ac w hT hq).mono ?_
    rintro e w' ⟨FA, fc, KA, kc, AA', ac', rfl, hO, hN, hbl⟩
    exact ⟨FA, P, fc, KA, _, kc, AA', _, ac', 0, rfl, hO.flat, hN, own_le hO.o2, b64, by rw [Plain.accs_len]; omega, hkl, fun h => absurd h (by rw [Plain.cellsOf_len (nums R) P.length (fun r hr => (hrow r hr).1)]; have := Nat.mul_pos hn0 b0; omega), fun h => absurd h (by rw [Plain.accs_len]; omega), hbl⟩
theorem found_form (x : Option Nat) : ∃ (i : Int) (b : Bool), foundV x = .tuple #[.int .i64 i, .bool b] := by
  cases x with
  | none => exact ⟨0, false, rfl⟩
  | some r => exact ⟨(r : Int), true, rfl⟩
theorem blk_cells7 {w : World} {fb : Nat} {v0 v1 v2 v3 v4 v5 v6 : Value} {t : TypeId} (h : w.heap[fb]? = some (.cells #[v0, v1, v2, v3, v4, v5, v6] t (0, 0))) :
    w.cell? ⟨fb, 0, none⟩ = some v0 ∧ w.cell? ⟨fb, 1, none⟩ = some v1 ∧ w.cell? ⟨fb, 2, none⟩ = some v2 ∧ w.cell? ⟨fb, 3, none⟩ = some v3 ∧ w.cell? ⟨fb, 4, none⟩ = some v4 ∧ w.cell? ⟨fb, 5, none⟩ = some v5 ∧ w.cell? ⟨fb, 6, none⟩ = some v6 :=
  ⟨by rw [cell_of_row _ _ _ _ _ _ h]; rfl, by rw [cell_of_row _ _ _ _ _ _ h]; rfl, by rw [cell_of_row _ _ _ _ _ _ h]; rfl, by rw [cell_of_row _ _ _ _ _ _ h]; rfl, by rw [cell_of_row _ _ _ _ _ _ h]; rfl, by rw [cell_of_row _ _ _ _ _ _ h]; rfl, by rw [cell_of_row _ _ _ _ _ _ h]; rfl⟩
theorem blk_cells6 {w : World} {fb : Nat} {v0 v1 v2 v3 v4 v5 : Value} {t : TypeId} (h : w.heap[fb]? = some (.cells #[v0, v1, v2, v3, v4, v5] t (0, 0))) :
    w.cell? ⟨fb, 0, none⟩ = some v0 ∧ w.cell? ⟨fb, 1, none⟩ = some v1 ∧ w.cell? ⟨fb, 2, none⟩ = some v2 ∧ w.cell? ⟨fb, 3, none⟩ = some v3 ∧ w.cell? ⟨fb, 4, none⟩ = some v4 ∧ w.cell? ⟨fb, 5, none⟩ = some v5 :=
  ⟨by rw [cell_of_row _ _ _ _ _ _ h]; rfl, by rw [cell_of_row _ _ _ _ _ _ h]; rfl, by rw [cell_of_row _ _ _ _ _ _ h]; rfl, by rw [cell_of_row _ _ _ _ _ _ h]; rfl, by rw [cell_of_row _ _ _ _ _ _ h]; rfl, by rw [cell_of_row _ _ _ _ _ _ h]; rfl⟩
theorem u32s_one (K : List Int) : ∀ u ∈ u32s K, u.oneCell' = true := fun u hu => by
  unfold u32s at hu
  obtain ⟨x, _, rfl⟩ := List.mem_map.1 hu
  rfl
theorem set_bd {K : List Int} (h : ∀ k, k < K.length → 0 ≤ K.getD k 0 ∧ K.getD k 0 < 4294967296) (i : Nat) (x : Int) (h0 : 0 ≤ x) (h9 : x < 4294967296) : ∀ k, k < (K.set i x).length → 0 ≤ (K.set i x).getD k 0 ∧ (K.set i x).getD k 0 < 4294967296 := fun k hk => by
  rw [List.length_set] at hk
  rw [List.getD_eq_getElem?_getD, List.getElem?_set]
  by_cases hik : i = k
  · subst hik; rw [if_pos rfl, if_pos hk]; exact ⟨h0, h9⟩
  · rw [if_neg hik, ← List.getD_eq_getElem?_getD]; exact h k hk
theorem nums_setK {F K A : List Int} {kc : Nat} (h : FlatNums F K A kc) (i : Nat) (x : Int) (h0 : 0 ≤ x) (h9 : x < 4294967296) (uc : Nat) (hu : K.length ≤ uc) : FlatNums F (K.set i x) A uc :=
  ⟨h.hf, by rw [List.length_set]; exact h.hk, h.ha, by rw [List.length_set]; exact hu, h.bF, set_bd h.bK i x h0 h9, h.bA⟩
theorem nums_setA {F K A : List Int} {kc : Nat} (h : FlatNums F K A kc) (i : Nat) (x : Int) (h0 : 0 ≤ x) (h9 : x < 4294967296) : FlatNums F K (A.set i x) kc :=
  ⟨h.hf, h.hk, by rw [List.length_set]; exact h.ha, h.hkc, h.bF, h.bK, set_bd h.bA i x h0 h9⟩
/-- the table's box at the join -/
def TMid (w : World) (tb : Nat) (wx : World) : Prop :=
  ∃ (PA : Option Addr) (P : List Int) (pc : Nat) (NA : Option Addr) (R : List Row) (nc : Nat) (AA : Option Addr) (C : List Bool) (ac : Nat), wx.heap[tb]? = some (.cells #[.slice PA P.length pc, .slice NA R.length nc, .slice AA C.length ac] 27 (0, 0)) ∧ TabAt wx PA P NA R AA C ∧ Below w.heap.size w wx
/-- the cells' box at the join -/
def FMid (w : World) (fb : Nat) (wx : World) : Prop :=
  ∃ (FA : Option Addr) (F : List Int) (fc : Nat) (KA : Option Addr) (K : List Int) (kc : Nat) (AA : Option Addr) (A : List Int) (ac : Nat), wx.heap[fb]? = some (.cells #[.slice FA F.length fc, .slice KA K.length kc, .slice AA A.length ac] 47 (0, 0)) ∧ FlatAt wx FA F KA K AA A ∧ FlatNums F K A kc ∧
    F.length ≤ 64 ∧ A.length ≤ 64 ∧ K.length ≤ 4096 ∧ Below w.heap.size w wx
set_option maxRecDepth 1000000 in
set_option maxHeartbeats 8000000 in
theorem tells_w (TP : Option Addr) (TL : List Int) (tpc : Nat) (TN : Option Addr) (TR : List Row) (tnc : Nat) (TA : Option Addr) (TC : List Bool) (tac : Nat) (own1 : Bool) (GA : Option Addr) (GL : List Int) (gc : Nat) (NA : Option Addr) (NL : List Int) (nc : Nat) (AA : Option Addr) (AL : List Bool) (ac : Nat)
    (PI PC LA : Option Addr) (PL : List In4) (PK : List Cs) (pic pcc lc : Nat) (pg : Int) (own2 : Bool) (L : List Int) (g : Int) (own : Bool) (how at_ wd : Int) (LB : Option Addr) (M : List Int) (mc : Nat) (w : World)
    (hG : GridAt w GA GL NA NL AA AL) (hT : TabAt w TP TL TN TR TA TC) (htc : TL.length ≤ tpc) (hP : PgAt w PI PL PC PK) (hg0 : 0 ≤ g) (hg1 : g < 256) (hL : Sl w LA (L.map (Value.int .u16))) (hn : L.length ≤ maxLen) (hX : ∀ k, k < L.length → 0 ≤ L.getD k 0 ∧ L.getD k 0 < 65536)
    (hh : 0 ≤ how ∧ how < 256) (ha : 0 ≤ at_ ∧ at_ < 256) (hw : 0 ≤ wd ∧ wd < 4294967296) (hM : Sl w LB (u8s M)) (hMn : M.length ≤ maxLen) (hM8 : ∀ k, k < M.length → 0 ≤ M.getD k 0 ∧ M.getD k 0 < 256) (hTb : Tabs w) (hTp : Tp w) :
    Calls Tryz.prog 3 #[.agg #[.slice TP TL.length tpc, .slice TN TR.length tnc, .slice TA TC.length tac, .bool own1, .slice GA GL.length gc, .slice NA NL.length nc, .slice AA AL.length ac], .agg #[.slice PI PL.length pic, .slice PC PK.length pcc, .int .i64 pg, .bool own2, .slice LA L.length lc, .int .u8 g], .bool own, .int .u8 how, .int .u8 at_, .int .u32 wd, .slice LB M.length mc] w fun e w' => e = .returned (.bool true) ∧ Below w.heap.size w w' := by
  obtain ⟨an, rfl⟩ : ∃ an : Nat, at_ = an := ⟨at_.toNat, by omega⟩
  have CE := Lib.hid (fun (W : World) (hb : Below w.heap.size w W) => examples_any W (hTb.below hb))
  have C5 := Lib.hid (fun (W : World) (hb : Below w.heap.size w W) => grid_any TP TL tpc TN TR tnc TA TC tac own1 GA GL gc NA NL nc AA AL ac W (hG.below hb) (hT.below hb) htc)
  have C7 := Lib.hid (fun (W : World) (hb : Below w.heap.size w W) => code_any PI PC LA PL PK pic pcc lc pg own2 L g W (hP.below hb) hg0 hg1 (hL.below hb) hn hX)
  have C9 := Lib.hid (fun (W : World) (hb : Below w.heap.size w W) => text_any LB M mc 14 W (hM.below hb) hMn hM8 (by omega))
  have HTB := Lib.hid hTb
  have HTP := Lib.hid hTp
  obtain ⟨tln, h1⟩ : ∃ x, TL.length = x := ⟨_, rfl⟩
  obtain ⟨trn, h2⟩ : ∃ x, TR.length = x := ⟨_, rfl⟩
  obtain ⟨tcn, h3⟩ : ∃ x, TC.length = x := ⟨_, rfl⟩
  obtain ⟨gln, h4⟩ : ∃ x, GL.length = x := ⟨_, rfl⟩
  obtain ⟨nln, h5⟩ : ∃ x, NL.length = x := ⟨_, rfl⟩
  obtain ⟨aln, h6⟩ : ∃ x, AL.length = x := ⟨_, rfl⟩
  obtain ⟨pln, h7⟩ : ∃ x, PL.length = x := ⟨_, rfl⟩
  obtain ⟨pkn, h8⟩ : ∃ x, PK.length = x := ⟨_, rfl⟩
  obtain ⟨ln, h9⟩ : ∃ x, L.length = x := ⟨_, rfl⟩
  obtain ⟨mn, h10⟩ : ∃ x, M.length = x := ⟨_, rfl⟩
  rw [h1, h2, h3, h4, h5, h6] at C5
  rw [h7, h8, h9] at C7
  rw [h10] at C9
  rw [h1, h2, h3, h4, h5, h6, h7, h8, h9, h10]
  clear hG hT htc hP hg0 hg1 hL hn hX hM hMn hM8 hTb hTp h1 h2 h3 h4 h5 h6 h7 h8 h9 h10
  have h0 := ((SepB.nil w).new #[.slice TP tln tpc, .slice TN trn tnc, .slice TA tcn tac, .bool own1, .slice GA gln gc, .slice NA nln nc, .slice AA aln ac] 30 _).new #[.slice PI pln pic, .slice PC pkn pcc, .int .i64 pg, .bool own2, .slice LA ln lc, .int .u8 g] 37 _
  simp only [World.size_alloc] at h0
  obtain ⟨w0, hw0⟩ : ∃ v, (w.alloc (.cells #[.slice TP tln tpc, .slice TN trn tnc, .slice TA tcn tac, .bool own1, .slice GA gln gc, .slice NA nln nc, .slice AA aln ac] 30)).alloc (.cells #[.slice PI pln pic, .slice PC pkn pcc, .int .i64 pg, .bool own2, .slice LA ln lc, .int .u8 g] 37) = v := ⟨_, rfl⟩
  rw [hw0] at h0
  obtain ⟨xb, hxb⟩ : ∃ v, w.heap.size + 1 = v := ⟨_, rfl⟩
  rw [hxb] at h0
  obtain ⟨gb, hgb⟩ : ∃ v, w.heap.size = v := ⟨_, rfl⟩
  have HW0 := Lib.hid hw0
  have HXB := Lib.hid hxb
  have HGB := Lib.hid hgb
  have HS0 := Lib.hid (show SepB w w0 [boxT xb #[.slice PI pln pic, .slice PC pkn pcc, .int .i64 pg, .bool own2, .slice LA ln lc, .int .u8 g] 37, boxT gb #[.slice TP tln tpc, .slice TN trn tnc, .slice TA tcn tac, .bool own1, .slice GA gln gc, .slice NA nln nc, .slice AA aln ac] 30] by rw [← HGB.out]; exact h0)
  clear h0 hw0 hxb hgb
  go_enter Tryz.func3, Tryz.ntmps3
  go_upto_region 1 with fail
  rw [HW0.out, HXB.out, show w.heap.size = gb from HGB.out]
  clear HW0 HXB
  go_upto_region 4 with (go_at_call 4; refine (CE.out _ HS0.out.2).mono ?_; rintro e w1 ⟨rfl, hb1⟩)
  have HS1 := Lib.hid (HS0.out.below hb1)
  clear hb1 HS0 CE
  obtain ⟨x0, x1, x2, x3, x4, x5, x6⟩ := blk_cells7 (HS1.out.box 1 _ _ _ rfl).2
  have lgb := lt_of_some (HS1.out.box 1 _ _ _ rfl).2
  go_upto_region 5 with (go_at_call 5; refine (C5.out _ HS1.out.2).mono ?_; rintro e w2 ⟨PA, P, pc, NA2, R, nc2, AA2, C, ac2, rfl, hTab, hpc, hb2⟩; have HS2 := Lib.hid (HS1.out.below hb2); have HTAB := Lib.hid hTab; clear hTab hpc hb2 HS1 C5 x0 x1 x2 x3 x4 x5 x6 lgb; unfold tabV)
  have h3 := HS2.out.new #[.slice PA P.length pc, .slice NA2 R.length nc2, .slice AA2 C.length ac2] 27 _
  have hT3 := HTAB.out.below (below_alloc (Below.refl w2.heap.size w2) (.cells #[.slice PA P.length pc, .slice NA2 R.length nc2, .slice AA2 C.length ac2] 27))
  obtain ⟨w3, hw3⟩ : ∃ v, w2.alloc (.cells #[.slice PA P.length pc, .slice NA2 R.length nc2, .slice AA2 C.length ac2] 27) = v := ⟨_, rfl⟩
  obtain ⟨tb, htb⟩ : ∃ v, w2.heap.size = v := ⟨_, rfl⟩
  rw [hw3, htb] at h3
  rw [hw3] at hT3
  rw [hw3, htb]
  have HS3 := Lib.hid h3
  have HTAB3 := Lib.hid hT3
  clear h3 hT3 hw3 htb HTAB HS2
  go_upto_if 30 with fail
  go_cut [] (fun wx => TMid w tb wx)
  case first =>
    cases own
    · go_wp2_with fail
      go_meet
      exact ⟨PA, P, pc, NA2, R, nc2, AA2, C, ac2, (HS3.out.box 0 _ _ _ rfl).2, HTAB3.out, HS3.out.2⟩
    · obtain ⟨x0, x1, x2, x3, x4, x5⟩ := blk_cells6 (HS3.out.box 1 _ _ _ rfl).2
      have lxb := lt_of_some (HS3.out.box 1 _ _ _ rfl).2
      go_wp2_with (first
        | (go_at_call 7; refine (C7.out _ HS3.out.2).mono ?_; rintro e w4 ⟨QI, QC, QL, QK, qc, qd, qg, rfl, hPg, hb4⟩; have HS4 := Lib.hid (HS3.out.below hb4); have HPG := Lib.hid hPg; clear hPg hb4 x0 x1 x2 x3 x4 x5 lxb)
        | (go_at_call 6; refine (dfaof_any QI QC QL QK qc qd qg _ HPG.out (HTP.out.below HS4.out.2)).mono ?_; rintro e w5 ⟨DA, D, dc, DN, DR, dn, DB, DC, da, er, rfl, hTab, _, hb5, hfar⟩; have HS5 := Lib.hid (HS4.out.below hb5); have HFAR := Lib.hid hfar; clear hTab hb5 hfar; unfold tabV; have htx := (HS5.out.box 0 _ _ _ rfl).2; obtain ⟨y0, y1, y2⟩ := blk_cells3 htx; have ltb := lt_of_some htx; have f0 := blk_frozen htx 0; have f1 := blk_frozen htx 1; have f2 := blk_frozen htx 2; clear htx))
      go_meet
      have htx := (HS5.out.box 0 _ _ _ rfl).2
      have hl4 := lt_of_some (HS4.out.box 0 _ _ _ rfl).2
      have hge := (HS5.out.box 0 _ _ _ rfl).1
      exact ⟨DA, D, dc, DN, DR, dn, DB, DC, da, blk_set3 htx _ _ _, HFAR.out tb _ _ _ _ _ _ _ _ _ _ hl4 htx ((((Kp.refl tb w5).set 0 _).set 1 _).set 2 _), ((HS5.out.2.setCell hge _).setCell hge _).setCell hge _⟩
  case rest =>
    obtain ⟨PB, Q, pc3, NB, R3, nc3, AB, C3, ac3, hx, hTb3, hbw⟩ := hcut
    have HB4 := Lib.hid hbw
    have HTAB4 := Lib.hid hTb3
    obtain ⟨y0, y1, y2⟩ := blk_cells3 hx
    have ltb := lt_of_some hx
    clear hx hTb3 hbw HS3 HTAB3
    have c8 := oft_any PB Q pc3 NB R3 nc3 AB C3 ac3 _ HTAB4.out
    unfold tabV at c8
    have HC8 := Lib.hid c8
    clear c8
    go_upto_region 8 with (go_at_call 8; refine HC8.out.mono ?_; rintro e w5 ⟨FA, F, fc, KA, K, kc, AC, A, ac5, er, rfl, hFl, hNu, hacc, hF6, hA6, hK6, hkn, han, hb5⟩; unfold flatV; have HFL := Lib.hid hFl; have HNU := Lib.hid hNu; have HACC := Lib.hid hacc; have HKN := Lib.hid hkn; have HAN := Lib.hid han; have HB5 := Lib.hid (below_then HB4.out hb5); clear hFl hNu hacc hkn han hb5)
    obtain ⟨p, hp⟩ : ∃ x, F.length = x := ⟨_, rfl⟩
    obtain ⟨kn, hkn⟩ : ∃ x, K.length = x := ⟨_, rfl⟩
    obtain ⟨a, ha⟩ : ∃ x, A.length = x := ⟨_, rfl⟩
    have HP := Lib.hid hp
    have HKL := Lib.hid hkn
    have HAL := Lib.hid ha
    rw [hp, hkn, ha]
    rw [hp] at hF6
    rw [hkn] at hK6
    rw [ha] at hA6
    have hb6 := below_alloc HB5.out (.cells #[.slice FA p fc, .slice KA kn kc, .slice AC a ac5] 47)
    have hx6 : (w5.alloc (.cells #[.slice FA p fc, .slice KA kn kc, .slice AC a ac5] 47)).heap[w5.heap.size]? = some (.cells #[.slice FA p fc, .slice KA kn kc, .slice AC a ac5] 47 (0, 0)) := heap_alloc_new2 _ _ _ _ rfl
    obtain ⟨w6, hw6⟩ : ∃ v, w5.alloc (.cells #[.slice FA p fc, .slice KA kn kc, .slice AC a ac5] 47) = v := ⟨_, rfl⟩
    have hge : w.heap.size ≤ w5.heap.size := HB5.out.size
    obtain ⟨fb, hfb⟩ : ∃ v, w5.heap.size = v := ⟨_, rfl⟩
    rw [hw6] at hb6 hx6 ⊢
    rw [hfb] at hx6 hge ⊢
    have HB6 := Lib.hid hb6
    have HX6 := Lib.hid hx6
    have HB56 := Lib.hid (show Below w5.heap.size w5 w6 from by rw [← hw6]; exact below_alloc (Below.refl w5.heap.size w5) _)
    have HFBE := Lib.hid hfb
    have HGE := Lib.hid hge
    obtain ⟨s, hs⟩ : ∃ s, txt (fun i => M.getD i 0) (min mn 14) = s := ⟨_, rfl⟩
    have hs28 : s.size ≤ 28 := by
      rw [← hs]
      have := txt_le (fun i => M.getD i 0) (min mn 14)
      omega
    rw [hs] at C9
    have HS28 := Lib.hid hs28
    clear hp hkn ha hb6 hx6 hw6 hfb hge hs hs28 y0 y1 y2 ltb HC8
    go_upto_if 45 with (go_at_call 9; refine (C9.out _ HB6.out).mono ?_; rintro e w7 ⟨rfl, hb7⟩)
    have HB7 := Lib.hid (HB6.out.trans (hb7.mono HB6.out.size))
    have HX7 := Lib.hid (blk_later HX6.out hb7)
    have HB57 := Lib.hid (HB56.out.trans (hb7.mono HB56.out.size))
    clear hb7 HX6 HB56
    go_cut [5] (fun v wx => ∃ x : Int, 0 ≤ x ∧ x < 4294967296 ∧ v = .int .u32 x ∧ wx = w7)
    case first =>
      by_cases h128 : 128 ≤ how
      · have d0 : decide (how ≥ 128) = true := decide_eq_true h128
        have d1 : decide (128 ≤ how) = true := decide_eq_true h128
        go_wp2_with fail
        go_meet
        exact ⟨wd % 12, by omega, by omega, rfl, rfl⟩
      · have d0 : decide (how ≥ 128) = false := decide_eq_false h128
        have d1 : decide (128 ≤ how) = false := decide_eq_false h128
        go_wp2_with fail
        go_meet
        exact ⟨wd, hw.1, hw.2, rfl, rfl⟩
    case rest =>
      obtain ⟨x, hx0, hx9, rfl, hwc⟩ := hcut
      subst hwc
      go_upto_block 0 with fail
      obtain ⟨r, hr⟩ : ∃ r, how % 5 = r := ⟨_, rfl⟩
      rw [hr]
      clear hr
      go_cut [] (fun wx => FMid w fb wx)
      case first =>

        by_cases hr0 : r = 0
        · subst hr0
          obtain ⟨y0, y1, y2⟩ := blk_cells3 HX7.out
          have lfb := lt_of_some HX7.out
          have f1 := blk_frozen HX7.out 1
          obtain ⟨i38, hi38, z0, z1, z2⟩ := info_parts info42
          by_cases hk0 : kn = 0
          · subst hk0
            obtain ⟨hka, hkc⟩ := HKN.out HKL.out
            subst hka
            subst hkc
            have hnil := List.eq_nil_of_length_eq_zero HKL.out
            have HNIL := Lib.hid hnil
            clear hnil
            go_wp2_with (at_builtin; refine wpList_append_own_none rfl (.const (.slice none 0 0)) (.tmp 53) _ rfl wc.heap.size 38 i38 1 Tryz.underlying45 hi38 (.slice none 0 0) 0 [] rfl (World.ownsRow_nil _ _ _ _) rfl ?_)
            go_meet
            have hx9 := heap_setCell_same _ _ 1 _ _ (.slice none 0 0) HX7.out
            have hB9 : Below w5.heap.size w5 (wc.setCell ⟨fb, 1, none⟩ (.slice none 0 0)) := HB57.out.setCell (by rw [HFBE.out]; exact Nat.le_refl _) _
            have hK0 := HNIL.out
            subst hK0
            exact ⟨FA, F, fc, none, [], 0, AC, A, ac5, by rw [HP.out, HAL.out]; exact hx9, HFL.out.below hB9, HNU.out, by rw [HP.out]; exact hF6, by first | exact Nat.zero_le _ | (rw [HAL.out]; exact hA6), by first | exact Nat.zero_le _ | (rw [HKL.out]; exact hK6), HB7.out.setCell HGE.out _⟩
          · obtain ⟨kb, ko, hke, hkb, hkc⟩ := (HFL.out.below HB57.out).cells (by rw [u32s, List.length_map, HKL.out]; omega)
            subst hke
            have HKC := Lib.hid hkc
            clear hkc
            have d0 : decide ((kn : Int) > 0) = true := decide_eq_true (by omega)
            have d1 : decide (0 < kn) = true := decide_eq_true (by omega)
            have d2 : decide ((0 : Int) < (kn : Int)) = true := decide_eq_true (by omega)
            go_upto_region 14 with (at_builtin; refine wpList_append_own2 _ rfl (.const (.slice none 0 0)) (.tmp 53) _ rfl wc.heap.size 38 i38 _ 1 4 Tryz.underlying45 hi38 z0 z1 z2 rfl (by decide) (.slice none 0 0) 0 [] rfl (World.ownsRow_nil _ _ _ _) ⟨kb, ko, none⟩ kn kc (u32s K) rfl (by rw [u32s, List.length_map, HKL.out, Nat.mul_one]) (fun j u hu => by rw [Addr.add_lit]; exact HKC.out j u hu) (u32s_one _) (by simp only [maxLen]; omega) (by omega) (Nat.le_refl _) ?_; intro v7 w7 hown hgr hvb; rw [Nat.zero_add, List.nil_append] at hown; have HOWN := Lib.hid hown; have hb8 : Below wc.heap.size wc w7 := (Below.refl wc.heap.size wc).grown hgr (Nat.le_refl _) (fun g hg => by cases hg); have HB8 := Lib.hid hb8; obtain ⟨gv, uc, hve, huc, hgv, _⟩ := own_at hown (by omega); subst hve; have hx8 := blk_later HX7.out hb8; have HX8 := Lib.hid hx8; clear hown hgr hvb hb8 y0 y1 y2 lfb f1; obtain ⟨y0, y1, y2⟩ := blk_cells3 hx8; have lfb := lt_of_some hx8; have f1 := blk_frozen hx8 1; clear hx8)
            have hx9 := heap_setCell_same _ _ 1 _ _ (.slice (some ⟨gv, 0, none⟩) kn uc) HX8.out
            have ho9 := own_set HOWN.out (lt_of_some HX7.out) 1 (.slice (some ⟨gv, 0, none⟩) kn uc)
            have hB9 : Below w5.heap.size w5 (w7.setCell ⟨fb, 1, none⟩ (.slice (some ⟨gv, 0, none⟩) kn uc)) := (HB57.out.trans (HB8.out.mono HB57.out.size)).setCell (by rw [HFBE.out]; exact Nat.le_refl _) _
            have hW9 : Below w.heap.size w (w7.setCell ⟨fb, 1, none⟩ (.slice (some ⟨gv, 0, none⟩) kn uc)) := (HB7.out.trans (HB8.out.mono HB7.out.size)).setCell HGE.out _
            have hgs : wc.heap.size ≤ (w7.setCell ⟨fb, 1, none⟩ (.slice (some ⟨gv, 0, none⟩) kn uc)).heap.size := by have := HB8.out.size; simpa using this
            obtain ⟨w8, hw8⟩ : ∃ v, w7.setCell ⟨fb, 1, none⟩ (.slice (some ⟨gv, 0, none⟩) kn uc) = v := ⟨_, rfl⟩
            rw [hw8] at hx9 ho9 hB9 hW9 hgs
            try rw [hw8]
            have HX9 := Lib.hid (show w8.heap[fb]? = some (.cells #[.slice FA p fc, .slice (some ⟨gv, 0, none⟩) kn uc, .slice AC a ac5] 47 (0, 0)) from hx9)
            have HO9 := Lib.hid ho9
            have HB9 := Lib.hid hB9
            have HW9 := Lib.hid hW9
            clear y0 y1 y2 lfb f1 hx9 ho9 hB9 hW9 hw8
            obtain ⟨y0, y1, y2⟩ := blk_cells3 HX9.out
            have lfb := lt_of_some HX9.out
            obtain ⟨i, hi⟩ : ∃ i, an % kn = i := ⟨_, rfl⟩
            have hik : i < kn := by rw [← hi]; exact Nat.mod_lt _ (by omega)
            have htm : Int.tmod (an : Int) (kn : Int) = (i : Int) := by rw [← hi]; rfl
            have hp1 : ((kn : Int) == 0) = false := by simp; omega
            have wa : IntKind.i64.wrap (an : Int) = (an : Int) := by rw [IntKind.wrap_i64]; omega
            have wi : IntKind.i64.wrap (i : Int) = (i : Int) := by rw [IntKind.wrap_i64]; omega
            have g0 : (0 : Int) ≤ (i : Int) := by omega
            have g1 : (i : Int) < (kn : Int) := by omega
            clear hi
            go_upto_region 15 with fail
            have HF8 := Lib.hid (fun (w' : World) (h : w'.heap = w8.heap) => (by unfold World.cell?; rw [h]; exact y1 : w'.cell? ⟨fb, 1, none⟩ = some (.slice (some ⟨gv, 0, none⟩) kn uc)))
            have HFW := Lib.hid (show (World.drew w8).heap = w8.heap from rfl)
            refine wp_region_noPanic ?_
            refine wp_region_T 9 (S := (fun w' : World => w'.heap = w8.heap)) (by kernel_rfl) (by decide) ?_
            refine wpAnyT_take2 0 (v := ?tvxa0) (by kernel_rfl) rfl (by kernel_rfl) (fun _ _ _ h => h) (Or.inl ⟨by rfl, ?tyxa0⟩) HFW.out ?trxa0
            case tyxa0 => (intro w' hSw; (try dsimp only at hSw); go_simp; try with_reducible rfl)
            try simp only [Act.put, List.setIfInBounds_toArray, List.set_cons_zero, List.set_cons_succ]
            refine wpAnyT_take2 1 (v := ?tvxa1) (by kernel_rfl) rfl (by kernel_rfl) (fun _ _ _ h => h) (Or.inl ⟨by rfl, ?tyxa1⟩) HFW.out ?trxa1
            case tyxa1 => (intro w' hSw; have f0 := HF8.out w' hSw; (try dsimp only at hSw); go_simp; try with_reducible rfl)
            try simp only [Act.put, List.setIfInBounds_toArray, List.set_cons_zero, List.set_cons_succ]
            refine wpAnyT_take2 2 (v := ?tvxa2) (by kernel_rfl) rfl (by kernel_rfl) (fun _ _ _ h => h) (Or.inl ⟨by rfl, ?tyxa2⟩) HFW.out ?trxa2
            case tyxa2 => (intro w' hSw; (try dsimp only at hSw); go_simp; try with_reducible rfl)
            try simp only [Act.put, List.setIfInBounds_toArray, List.set_cons_zero, List.set_cons_succ]
            refine wpAnyT_take2 3 (v := ?tvxa3) (by kernel_rfl) rfl (by kernel_rfl) (fun _ _ _ h => h) (Or.inl ⟨by rfl, ?tyxa3⟩) HFW.out ?trxa3
            case tyxa3 => (intro w' hSw; (try dsimp only at hSw); go_simp; try with_reducible rfl)
            try simp only [Act.put, List.setIfInBounds_toArray, List.set_cons_zero, List.set_cons_succ]
            refine wpAnyT_take2 4 (v := ?tvxa4) (by kernel_rfl) rfl (by kernel_rfl) (fun _ _ _ h => h) (Or.inl ⟨by rfl, ?tyxa4⟩) HFW.out ?trxa4
            case tyxa4 => (intro w' hSw; (try dsimp only at hSw); go_simp; try with_reducible rfl)
            try simp only [Act.put, List.setIfInBounds_toArray, List.set_cons_zero, List.set_cons_succ]
            refine wpAnyT_take2 5 (v := ?tvxa5) (by kernel_rfl) rfl (by kernel_rfl) (fun _ _ _ h => h) (Or.inl ⟨by rfl, ?tyxa5⟩) HFW.out ?trxa5
            case tyxa5 => (intro w' hSw; have f0 := HF8.out w' hSw; (try dsimp only at hSw); go_simp; try with_reducible rfl)
            try simp only [Act.put, List.setIfInBounds_toArray, List.set_cons_zero, List.set_cons_succ]
            refine wpAnyT_take2 6 (v := ?tvxa6) (by kernel_rfl) rfl (by kernel_rfl) (fun _ _ _ h => h) (Or.inl ⟨by rfl, ?tyxa6⟩) HFW.out ?trxa6
            case tyxa6 => (intro w' hSw; (try dsimp only at hSw); go_simp; try with_reducible rfl)
            try simp only [Act.put, List.setIfInBounds_toArray, List.set_cons_zero, List.set_cons_succ]
            refine wpAnyT_take2 7 (v := ?tvxa7) (by kernel_rfl) rfl (by kernel_rfl) (fun _ _ _ h => h) (Or.inl ⟨by rfl, ?tyxa7⟩) HFW.out ?trxa7
            case tyxa7 => (intro w' hSw; (try dsimp only at hSw); go_simp; try with_reducible rfl)
            try simp only [Act.put, List.setIfInBounds_toArray, List.set_cons_zero, List.set_cons_succ]
            refine wpAnyT_take2 8 (v := ?tvxa8) (by kernel_rfl) rfl (by kernel_rfl) (fun _ _ _ h => h) (Or.inl ⟨by rfl, ?tyxa8⟩) HFW.out ?trxa8
            case tyxa8 => (intro w' hSw; (try dsimp only at hSw); go_simp; try with_reducible rfl)
            try simp only [Act.put, List.setIfInBounds_toArray, List.set_cons_zero, List.set_cons_succ]

            refine ⟨by kernel_rfl, ?_⟩
            change wpList _ _ _ [_, _] _ _
            have hod : (World.drew w8).ownsRow wc.heap.size 38 1 (.slice (some ⟨gv, 0, none⟩) kn uc) kn (u32s K) := own_below HO9.out (Below.drew (Below.refl _ _))
            have hxd : (World.drew w8).heap[fb]? = some (.cells #[.slice FA p fc, .slice (some ⟨gv, 0, none⟩) kn uc, .slice AC a ac5] 47 (0, 0)) := HX9.out
            have hBd := Below.drew HB9.out
            have hWd := Below.drew HW9.out
            obtain ⟨wd9, hwd⟩ : ∃ v, World.drew w8 = v := ⟨_, rfl⟩
            rw [hwd] at hod hxd hBd hWd ⊢
            obtain ⟨gv2, uc2, hve, _, hgl, hcs⟩ := own_at hod (by omega)
            injection hve with hve _ huc2
            injection hve with hve
            injection hve with hve _
            subst hve
            subst huc2
            have hiK : i < K.length := by rw [HKL.out]; exact hik
            have c9 := hcs.2 i (.int .u32 (K.getD i 0)) (by unfold u32s; rw [List.getElem?_map, List.getElem?_eq_getElem hiK, Plain.getD_lt K 0 i hiK]; rfl)
            have l9 := hcs.1
            have f9 := own_frozen hod i
            have hst := hod.stored i (.int .u32 x)
            have hset : (u32s K).set i (.int .u32 x) = u32s (K.set i x) := by unfold u32s; rw [List.map_set]
            rw [hset] at hst
            have hgb : wc.heap.size ≤ gv := hgl
            have h5c : w5.heap.size ≤ wc.heap.size := HB57.out.size
            have hwc : w.heap.size ≤ wc.heap.size := HB7.out.size
            have hB10 : Below w5.heap.size w5 (wd9.setCell ⟨gv, i, none⟩ (.int .u32 x)) := hBd.setCell (Nat.le_trans h5c hgb) _
            have hW10 : Below w.heap.size w (wd9.setCell ⟨gv, i, none⟩ (.int .u32 x)) := hWd.setCell (Nat.le_trans hwc hgb) _
            have hx10 : (wd9.setCell ⟨gv, i, none⟩ (.int .u32 x)).heap[fb]? = some (.cells #[.slice FA p fc, .slice (some ⟨gv, 0, none⟩) kn uc, .slice AC a ac5] 47 (0, 0)) :=
              (((Below.refl wc.heap.size wd9).setCell hgb _).block fb (lt_of_some HX7.out)).trans hxd
            have hF9 := HFL.out.below hB10
            have hSl := own_Sl hst.1 (by rw [u32s, List.length_map, List.length_set, HKL.out])
            have hmid : FMid w fb (wd9.setCell ⟨gv, i, none⟩ (.int .u32 x)) := ⟨FA, F, fc, some ⟨gv, 0, none⟩, K.set i x, uc, AC, A, ac5, by rw [HP.out, List.length_set, HKL.out, HAL.out]; exact hx10, ⟨hF9.parts, hSl, hF9.acc⟩, nums_setK HNU.out i x hx0 hx9 uc (by rw [HKL.out]; exact huc), by rw [HP.out]; exact hF6, by rw [HAL.out]; exact hA6, by rw [List.length_set, HKL.out]; exact hK6, hW10⟩
            have HMID := Lib.hid hmid
            clear hod hxd hBd hWd hwd hgl hcs hst hset hB10 hW10 hx10 hF9 hSl hmid y0 y1 y2 lfb
            go_wp2
            refine NoPanic.normal ?_
            go_wp2_with fail
            go_meet
            exact HMID.out
        · have e0 : (r == 0) = false := by simp; omega
          by_cases hr1 : r = 1
          · subst hr1
            obtain ⟨y0, y1, y2⟩ := blk_cells3 HX7.out
            have lfb := lt_of_some HX7.out
            have f1 := blk_frozen HX7.out 2
            obtain ⟨i38, hi38, z0, z1, z2⟩ := info_parts info42
            by_cases hk0 : a = 0
            · subst hk0
              obtain ⟨hka, hkc⟩ := HAN.out HAL.out
              subst hka
              subst hkc
              have hnil := List.eq_nil_of_length_eq_zero HAL.out
              have HNIL := Lib.hid hnil
              clear hnil
              go_wp2_with (at_builtin; refine wpList_append_own_none rfl (.const (.slice none 0 0)) (.tmp 73) _ rfl wc.heap.size 38 i38 1 Tryz.underlying45 hi38 (.slice none 0 0) 0 [] rfl (World.ownsRow_nil _ _ _ _) rfl ?_)
              go_meet
              have hx9 := heap_setCell_same _ _ 2 _ _ (.slice none 0 0) HX7.out
              have hB9 : Below w5.heap.size w5 (wc.setCell ⟨fb, 2, none⟩ (.slice none 0 0)) := HB57.out.setCell (by rw [HFBE.out]; exact Nat.le_refl _) _
              have hK0 := HNIL.out
              subst hK0
              exact ⟨FA, F, fc, KA, K, kc, none, [], 0, by rw [HP.out, HKL.out]; exact hx9, HFL.out.below hB9, HNU.out, by rw [HP.out]; exact hF6, by first | exact Nat.zero_le _ | (rw [HAL.out]; exact hA6), by first | exact Nat.zero_le _ | (rw [HKL.out]; exact hK6), HB7.out.setCell HGE.out _⟩
            · obtain ⟨kb, ko, hke, hkb, hkc⟩ := (HFL.out.below HB57.out).acc (by rw [u32s, List.length_map, HAL.out]; omega)
              subst hke
              have HKC := Lib.hid hkc
              clear hkc
              have d0 : decide ((a : Int) > 0) = true := decide_eq_true (by omega)
              have d1 : decide (0 < a) = true := decide_eq_true (by omega)
              have d2 : decide ((0 : Int) < (a : Int)) = true := decide_eq_true (by omega)
              go_upto_region 18 with (at_builtin; refine wpList_append_own2 _ rfl (.const (.slice none 0 0)) (.tmp 73) _ rfl wc.heap.size 38 i38 _ 1 4 Tryz.underlying45 hi38 z0 z1 z2 rfl (by decide) (.slice none 0 0) 0 [] rfl (World.ownsRow_nil _ _ _ _) ⟨kb, ko, none⟩ a ac5 (u32s A) rfl (by rw [u32s, List.length_map, HAL.out, Nat.mul_one]) (fun j u hu => by rw [Addr.add_lit]; exact HKC.out j u hu) (u32s_one _) (by simp only [maxLen]; omega) (by omega) (Nat.le_refl _) ?_; intro v7 w7 hown hgr hvb; rw [Nat.zero_add, List.nil_append] at hown; have HOWN := Lib.hid hown; have hb8 : Below wc.heap.size wc w7 := (Below.refl wc.heap.size wc).grown hgr (Nat.le_refl _) (fun g hg => by cases hg); have HB8 := Lib.hid hb8; obtain ⟨gv, uc, hve, huc, hgv, _⟩ := own_at hown (by omega); subst hve; have hx8 := blk_later HX7.out hb8; have HX8 := Lib.hid hx8; clear hown hgr hvb hb8 y0 y1 y2 lfb f1; obtain ⟨y0, y1, y2⟩ := blk_cells3 hx8; have lfb := lt_of_some hx8; have f1 := blk_frozen hx8 2; clear hx8)
              have hx9 := heap_setCell_same _ _ 2 _ _ (.slice (some ⟨gv, 0, none⟩) a uc) HX8.out
              have ho9 := own_set HOWN.out (lt_of_some HX7.out) 2 (.slice (some ⟨gv, 0, none⟩) a uc)
              have hB9 : Below w5.heap.size w5 (w7.setCell ⟨fb, 2, none⟩ (.slice (some ⟨gv, 0, none⟩) a uc)) := (HB57.out.trans (HB8.out.mono HB57.out.size)).setCell (by rw [HFBE.out]; exact Nat.le_refl _) _
              have hW9 : Below w.heap.size w (w7.setCell ⟨fb, 2, none⟩ (.slice (some ⟨gv, 0, none⟩) a uc)) := (HB7.out.trans (HB8.out.mono HB7.out.size)).setCell HGE.out _
              have hgs : wc.heap.size ≤ (w7.setCell ⟨fb, 2, none⟩ (.slice (some ⟨gv, 0, none⟩) a uc)).heap.size := by have := HB8.out.size; simpa using this
              obtain ⟨w8, hw8⟩ : ∃ v, w7.setCell ⟨fb, 2, none⟩ (.slice (some ⟨gv, 0, none⟩) a uc) = v := ⟨_, rfl⟩
              rw [hw8] at hx9 ho9 hB9 hW9 hgs
              try rw [hw8]
              have HX9 := Lib.hid (show w8.heap[fb]? = some (.cells #[.slice FA p fc, .slice KA kn kc, .slice (some ⟨gv, 0, none⟩) a uc] 47 (0, 0)) from hx9)
              have HO9 := Lib.hid ho9
              have HB9 := Lib.hid hB9
              have HW9 := Lib.hid hW9
              clear y0 y1 y2 lfb f1 hx9 ho9 hB9 hW9 hw8
              obtain ⟨y0, y1, y2⟩ := blk_cells3 HX9.out
              have lfb := lt_of_some HX9.out
              obtain ⟨i, hi⟩ : ∃ i, an % a = i := ⟨_, rfl⟩
              have hik : i < a := by rw [← hi]; exact Nat.mod_lt _ (by omega)
              have htm : Int.tmod (an : Int) (a : Int) = (i : Int) := by rw [← hi]; rfl
              have hp1 : ((a : Int) == 0) = false := by simp; omega
              have wa : IntKind.i64.wrap (an : Int) = (an : Int) := by rw [IntKind.wrap_i64]; omega
              have wi : IntKind.i64.wrap (i : Int) = (i : Int) := by rw [IntKind.wrap_i64]; omega
              have g0 : (0 : Int) ≤ (i : Int) := by omega
              have g1 : (i : Int) < (a : Int) := by omega
              clear hi
              go_upto_region 19 with fail
              have HF8 := Lib.hid (fun (w' : World) (h : w'.heap = w8.heap) => (by unfold World.cell?; rw [h]; exact y2 : w'.cell? ⟨fb, 2, none⟩ = some (.slice (some ⟨gv, 0, none⟩) a uc)))
              have HFW := Lib.hid (show (World.drew w8).heap = w8.heap from rfl)
              refine wp_region_noPanic ?_
              refine wp_region_T 9 (S := (fun w' : World => w'.heap = w8.heap)) (by kernel_rfl) (by decide) ?_
              refine wpAnyT_take2 0 (v := ?tvxb0) (by kernel_rfl) rfl (by kernel_rfl) (fun _ _ _ h => h) (Or.inl ⟨by rfl, ?tyxb0⟩) HFW.out ?trxb0
              case tyxb0 => (intro w' hSw; (try dsimp only at hSw); go_simp; try with_reducible rfl)
              try simp only [Act.put, List.setIfInBounds_toArray, List.set_cons_zero, List.set_cons_succ]
              refine wpAnyT_take2 1 (v := ?tvxb1) (by kernel_rfl) rfl (by kernel_rfl) (fun _ _ _ h => h) (Or.inl ⟨by rfl, ?tyxb1⟩) HFW.out ?trxb1
              case tyxb1 => (intro w' hSw; have f0 := HF8.out w' hSw; (try dsimp only at hSw); go_simp; try with_reducible rfl)
              try simp only [Act.put, List.setIfInBounds_toArray, List.set_cons_zero, List.set_cons_succ]
              refine wpAnyT_take2 2 (v := ?tvxb2) (by kernel_rfl) rfl (by kernel_rfl) (fun _ _ _ h => h) (Or.inl ⟨by rfl, ?tyxb2⟩) HFW.out ?trxb2
              case tyxb2 => (intro w' hSw; (try dsimp only at hSw); go_simp; try with_reducible rfl)
              try simp only [Act.put, List.setIfInBounds_toArray, List.set_cons_zero, List.set_cons_succ]
              refine wpAnyT_take2 3 (v := ?tvxb3) (by kernel_rfl) rfl (by kernel_rfl) (fun _ _ _ h => h) (Or.inl ⟨by rfl, ?tyxb3⟩) HFW.out ?trxb3
              case tyxb3 => (intro w' hSw; (try dsimp only at hSw); go_simp; try with_reducible rfl)
              try simp only [Act.put, List.setIfInBounds_toArray, List.set_cons_zero, List.set_cons_succ]
              refine wpAnyT_take2 4 (v := ?tvxb4) (by kernel_rfl) rfl (by kernel_rfl) (fun _ _ _ h => h) (Or.inl ⟨by rfl, ?tyxb4⟩) HFW.out ?trxb4
              case tyxb4 => (intro w' hSw; (try dsimp only at hSw); go_simp; try with_reducible rfl)
              try simp only [Act.put, List.setIfInBounds_toArray, List.set_cons_zero, List.set_cons_succ]
              refine wpAnyT_take2 5 (v := ?tvxb5) (by kernel_rfl) rfl (by kernel_rfl) (fun _ _ _ h => h) (Or.inl ⟨by rfl, ?tyxb5⟩) HFW.out ?trxb5
              case tyxb5 => (intro w' hSw; have f0 := HF8.out w' hSw; (try dsimp only at hSw); go_simp; try with_reducible rfl)
              try simp only [Act.put, List.setIfInBounds_toArray, List.set_cons_zero, List.set_cons_succ]
              refine wpAnyT_take2 6 (v := ?tvxb6) (by kernel_rfl) rfl (by kernel_rfl) (fun _ _ _ h => h) (Or.inl ⟨by rfl, ?tyxb6⟩) HFW.out ?trxb6
              case tyxb6 => (intro w' hSw; (try dsimp only at hSw); go_simp; try with_reducible rfl)
              try simp only [Act.put, List.setIfInBounds_toArray, List.set_cons_zero, List.set_cons_succ]
              refine wpAnyT_take2 7 (v := ?tvxb7) (by kernel_rfl) rfl (by kernel_rfl) (fun _ _ _ h => h) (Or.inl ⟨by rfl, ?tyxb7⟩) HFW.out ?trxb7
              case tyxb7 => (intro w' hSw; (try dsimp only at hSw); go_simp; try with_reducible rfl)
              try simp only [Act.put, List.setIfInBounds_toArray, List.set_cons_zero, List.set_cons_succ]
              refine wpAnyT_take2 8 (v := ?tvxb8) (by kernel_rfl) rfl (by kernel_rfl) (fun _ _ _ h => h) (Or.inl ⟨by rfl, ?tyxb8⟩) HFW.out ?trxb8
              case tyxb8 => (intro w' hSw; (try dsimp only at hSw); go_simp; try with_reducible rfl)
              try simp only [Act.put, List.setIfInBounds_toArray, List.set_cons_zero, List.set_cons_succ]

              refine ⟨by kernel_rfl, ?_⟩
              change wpList _ _ _ [_, _] _ _
              have hod : (World.drew w8).ownsRow wc.heap.size 38 1 (.slice (some ⟨gv, 0, none⟩) a uc) a (u32s A) := own_below HO9.out (Below.drew (Below.refl _ _))
              have hxd : (World.drew w8).heap[fb]? = some (.cells #[.slice FA p fc, .slice KA kn kc, .slice (some ⟨gv, 0, none⟩) a uc] 47 (0, 0)) := HX9.out
              have hBd := Below.drew HB9.out
              have hWd := Below.drew HW9.out
              obtain ⟨wd9, hwd⟩ : ∃ v, World.drew w8 = v := ⟨_, rfl⟩
              rw [hwd] at hod hxd hBd hWd ⊢
              obtain ⟨gv2, uc2, hve, _, hgl, hcs⟩ := own_at hod (by omega)
              injection hve with hve _ huc2
              injection hve with hve
              injection hve with hve _
              subst hve
              subst huc2
              have hiK : i < A.length := by rw [HAL.out]; exact hik
              have c9 := hcs.2 i (.int .u32 (A.getD i 0)) (by unfold u32s; rw [List.getElem?_map, List.getElem?_eq_getElem hiK, Plain.getD_lt A 0 i hiK]; rfl)
              have l9 := hcs.1
              have f9 := own_frozen hod i
              have hst := hod.stored i (.int .u32 x)
              have hset : (u32s A).set i (.int .u32 x) = u32s (A.set i x) := by unfold u32s; rw [List.map_set]
              rw [hset] at hst
              have hgb : wc.heap.size ≤ gv := hgl
              have h5c : w5.heap.size ≤ wc.heap.size := HB57.out.size
              have hwc : w.heap.size ≤ wc.heap.size := HB7.out.size
              have hB10 : Below w5.heap.size w5 (wd9.setCell ⟨gv, i, none⟩ (.int .u32 x)) := hBd.setCell (Nat.le_trans h5c hgb) _
              have hW10 : Below w.heap.size w (wd9.setCell ⟨gv, i, none⟩ (.int .u32 x)) := hWd.setCell (Nat.le_trans hwc hgb) _
              have hx10 : (wd9.setCell ⟨gv, i, none⟩ (.int .u32 x)).heap[fb]? = some (.cells #[.slice FA p fc, .slice KA kn kc, .slice (some ⟨gv, 0, none⟩) a uc] 47 (0, 0)) :=
                (((Below.refl wc.heap.size wd9).setCell hgb _).block fb (lt_of_some HX7.out)).trans hxd
              have hF9 := HFL.out.below hB10
              have hSl := own_Sl hst.1 (by rw [u32s, List.length_map, List.length_set, HAL.out])
              have hmid : FMid w fb (wd9.setCell ⟨gv, i, none⟩ (.int .u32 x)) := ⟨FA, F, fc, KA, K, kc, some ⟨gv, 0, none⟩, A.set i x, uc, by rw [HP.out, List.length_set, HKL.out, HAL.out]; exact hx10, ⟨hF9.parts, hF9.cells, hSl⟩, nums_setA HNU.out i x hx0 hx9, by rw [HP.out]; exact hF6, by rw [List.length_set, HAL.out]; exact hA6, by rw [HKL.out]; exact hK6, hW10⟩
              have HMID := Lib.hid hmid
              clear hod hxd hBd hWd hwd hgl hcs hst hset hB10 hW10 hx10 hF9 hSl hmid y0 y1 y2 lfb
              go_wp2
              refine NoPanic.normal ?_
              go_wp2_with fail
              go_meet
              exact HMID.out
          · have e1 : (r == 1) = false := by simp; omega
            go_wp2_with fail
            go_meet
            exact ⟨FA, F, fc, KA, K, kc, AC, A, ac5, by rw [HP.out, HKL.out, HAL.out]; exact HX7.out, HFL.out.below HB57.out, HNU.out, by rw [HP.out]; exact hF6, by rw [HAL.out]; exact hA6, by rw [HKL.out]; exact hK6, HB7.out⟩
      case rest =>
        clear HNU HFL HACC HKN HAN HP HKL HAL hF6 hK6 hA6 HX7 HFBE HB5 HB57 HTAB4 HB4
        obtain ⟨FB, F2, fc2, KB, K2, kc2, AB2, A2, ac6, hx, hFl, hNu, hF6, hA6, hK6, hbw⟩ := hcut
        obtain ⟨w8, hw8⟩ : ∃ v, v = wc := ⟨_, rfl⟩
        have C10 := fun (W : World) (hb : Below wc.heap.size wc W) => find_any FB F2 fc2 KB K2 kc2 AB2 A2 ac6 s W (hFl.below hb) hNu (by have := HS28.out; omega) (HTB.out.below (below_then hbw hb))
        have C11 := fun (W : World) (hb : Below wc.heap.size wc W) => refind_any FB F2 fc2 KB K2 kc2 AB2 A2 ac6 s W (hFl.below hb) hNu hF6 hA6 hK6 (by have := HS28.out; omega)
        have C12 := fun (W : World) (hb : Below wc.heap.size wc W) => fstate_any FB F2 fc2 KB K2 kc2 AB2 A2 ac6 s W (hFl.below hb) hNu (by have := HS28.out; omega) (HTB.out.below (below_then hbw hb))
        have C13 := fun (W : World) (hb : Below wc.heap.size wc W) => restate_any FB F2 fc2 KB K2 kc2 AB2 A2 ac6 s W (hFl.below hb) hNu hF6 hA6 hK6 (by have := HS28.out; omega)
        obtain ⟨fi, fo, hfv⟩ : ∃ (i : Int) (b : Bool), (if Plain.flatRight F2 K2 A2 = true then foundV (Plain.findN F2 K2 A2 s.size s.data.toList 0 0) else foundV none) = .tuple #[.int .i64 i, .bool b] := by
          split
          · exact found_form _
          · exact found_form _
        obtain ⟨sv, hsv⟩ : ∃ v : Int, (if Plain.flatRight F2 K2 A2 = true then ((Plain.stateN F2 K2 s.size s.data.toList 0 / F2.length : Nat) : Int) else -1) = v := ⟨_, rfl⟩
        rw [hfv] at C10 C11
        rw [hsv] at C12 C13
        unfold flatV at C10 C11 C12 C13
        obtain ⟨p2, hp2⟩ : ∃ x, F2.length = x := ⟨_, rfl⟩
        obtain ⟨k2, hk2⟩ : ∃ x, K2.length = x := ⟨_, rfl⟩
        obtain ⟨a2, ha2⟩ : ∃ x, A2.length = x := ⟨_, rfl⟩
        rw [hp2, hk2, ha2] at C10 C11 C12 C13 hx
        have HC10 := Lib.hid C10
        have HC11 := Lib.hid C11
        have HC12 := Lib.hid C12
        have HC13 := Lib.hid C13
        have HX9 := Lib.hid hx
        have HBW := Lib.hid hbw
        obtain ⟨y0, y1, y2⟩ := blk_cells3 hx
        have lfb := lt_of_some hx
        clear C10 C11 C12 C13 hx hFl hNu hF6 hA6 hK6 hbw hfv hsv hp2 hk2 ha2 hw8
        go_upto_region 21 with fail
        clear y0 y1 y2 lfb
        have hba := below_alloc (Below.refl wc.heap.size wc) (.cells #[.slice FB p2 fc2, .slice KB k2 kc2, .slice AB2 a2 ac6] 51)
        have hxa : (wc.alloc (.cells #[.slice FB p2 fc2, .slice KB k2 kc2, .slice AB2 a2 ac6] 51)).heap[wc.heap.size]? = some (.cells #[.slice FB p2 fc2, .slice KB k2 kc2, .slice AB2 a2 ac6] 51 (0, 0)) := heap_alloc_new2 _ _ _ _ rfl
        obtain ⟨wa, hwa⟩ : ∃ v, wc.alloc (.cells #[.slice FB p2 fc2, .slice KB k2 kc2, .slice AB2 a2 ac6] 51) = v := ⟨_, rfl⟩
        rw [hwa] at hba hxa ⊢
        have HBA := Lib.hid hba
        have HXA := Lib.hid (blk_later HX9.out hba)
        obtain ⟨rb, hrb⟩ : ∃ v, wc.heap.size = v := ⟨_, rfl⟩
        rw [hrb] at hxa ⊢
        have HRA := Lib.hid hxa
        clear hba hxa hwa hrb
        obtain ⟨y0, y1, y2⟩ := blk_cells3 HXA.out
        have lfb := lt_of_some HXA.out
        go_upto_region 22 with (go_at_call 10; refine (HC10.out _ HBA.out).mono ?_; rintro e w10 ⟨rfl, hb10⟩)
        have HB10 := Lib.hid (HBA.out.trans (hb10.mono HBA.out.size))
        have HXB := Lib.hid (blk_later HXA.out hb10)
        have HRB := Lib.hid (blk_later HRA.out hb10)
        clear hb10 y0 y1 y2 lfb HXA HRA
        obtain ⟨y0, y1, y2⟩ := blk_cells3 HRB.out
        have lrb := lt_of_some HRB.out
        go_upto_region 23 with (go_at_call 11; refine (HC11.out _ HB10.out).mono ?_; rintro e w11 ⟨rfl, hb11⟩)
        have HB11 := Lib.hid (HB10.out.trans (hb11.mono HB10.out.size))
        have HXC := Lib.hid (blk_later HXB.out hb11)
        have HRC := Lib.hid (blk_later HRB.out hb11)
        clear hb11 y0 y1 y2 lrb HXB HRB
        have HBD := Lib.hid (show Below w11.heap.size w11 w11.drew from Below.drew (Below.refl _ _))
        obtain ⟨wd, hwd⟩ : ∃ v, World.drew w11 = v := ⟨_, rfl⟩
        rw [hwd] at HBD
        have HWD := Lib.hid hwd
        clear hwd
        have hxd := blk_later HXC.out HBD.out
        have hrd := blk_later HRC.out HBD.out
        have hbd := HB11.out.trans (HBD.out.mono HB11.out.size)
        have HBd := Lib.hid hbd
        have HF := Lib.hid (fun (w' : World) (hb : Below wd.heap.size wd w') => (⟨by rw [cell_of_row _ _ _ _ _ _ (blk_later hxd hb)]; rfl, by rw [cell_of_row _ _ _ _ _ _ (blk_later hxd hb)]; rfl, by rw [cell_of_row _ _ _ _ _ _ (blk_later hxd hb)]; rfl, by rw [cell_of_row _ _ _ _ _ _ (blk_later hrd hb)]; rfl, by rw [cell_of_row _ _ _ _ _ _ (blk_later hrd hb)]; rfl, by rw [cell_of_row _ _ _ _ _ _ (blk_later hrd hb)]; rfl⟩ : w'.cell? ⟨fb, 0, none⟩ = some (.slice FB p2 fc2) ∧ w'.cell? ⟨fb, 1, none⟩ = some (.slice KB k2 kc2) ∧ w'.cell? ⟨fb, 2, none⟩ = some (.slice AB2 a2 ac6) ∧ w'.cell? ⟨rb, 0, none⟩ = some (.slice FB p2 fc2) ∧ w'.cell? ⟨rb, 1, none⟩ = some (.slice KB k2 kc2) ∧ w'.cell? ⟨rb, 2, none⟩ = some (.slice AB2 a2 ac6)))
        have HB0 := Lib.hid (Below.refl wd.heap.size wd)
        clear hxd hrd hbd
        refine wp_region_noPanic ?_
        refine wp_region_T 20 (S := (fun w' : World => Below wd.heap.size wd w')) (by kernel_rfl) (by decide) ?_
        rw [HWD.out]
        refine wpAnyT_take2 0 (v := ?tvxz0) (by kernel_rfl) rfl (by kernel_rfl) (fun _ _ _ h => h) (Or.inl ⟨by rfl, ?tyxz0⟩) HB0.out ?trxz0
        case tyxz0 => (intro w' hSw; (try dsimp only at hSw); go_simp; try with_reducible rfl)
        try simp only [Act.put, List.setIfInBounds_toArray, List.set_cons_zero, List.set_cons_succ]
        refine wpAnyT_take2 1 (v := ?tvxz1) (by kernel_rfl) rfl (by kernel_rfl) (fun _ _ _ h => h) (Or.inl ⟨by rfl, ?tyxz1⟩) HB0.out ?trxz1
        case tyxz1 => (intro w' hSw; (try dsimp only at hSw); go_simp; try with_reducible rfl)
        try simp only [Act.put, List.setIfInBounds_toArray, List.set_cons_zero, List.set_cons_succ]
        refine wpAnyT_take2 2 (v := ?tvxz2) (by kernel_rfl) rfl (by kernel_rfl) (fun _ _ _ h => h) (Or.inl ⟨by rfl, ?tyxz2⟩) HB0.out ?trxz2
        case tyxz2 => (intro w' hSw; (try dsimp only at hSw); go_simp; try with_reducible rfl)
        try simp only [Act.put, List.setIfInBounds_toArray, List.set_cons_zero, List.set_cons_succ]
        refine wpAnyT_take2 3 (v := ?tvxz3) (by kernel_rfl) rfl (by kernel_rfl) (fun _ _ _ h => h) (Or.inl ⟨by rfl, ?tyxz3⟩) HB0.out ?trxz3
        case tyxz3 => (intro w' hSw; (try dsimp only at hSw); go_simp; try with_reducible rfl)
        try simp only [Act.put, List.setIfInBounds_toArray, List.set_cons_zero, List.set_cons_succ]
        refine wpAnyT_take2 4 (v := ?tvxz4) (by kernel_rfl) rfl (by kernel_rfl) (fun _ _ _ h => h) (Or.inl ⟨by rfl, ?tyxz4⟩) HB0.out ?trxz4
        case tyxz4 => (intro w' hSw; (try dsimp only at hSw); go_simp; try with_reducible rfl)
        try simp only [Act.put, List.setIfInBounds_toArray, List.set_cons_zero, List.set_cons_succ]
        refine wpAnyT_take2 5 (v := ?tvxz5) (by kernel_rfl) rfl (by kernel_rfl) (fun _ _ _ h => h) (Or.inl ⟨by rfl, ?tyxz5⟩) HB0.out ?trxz5
        case tyxz5 => (intro w' hSw; (try dsimp only at hSw); go_simp; try with_reducible rfl)
        try simp only [Act.put, List.setIfInBounds_toArray, List.set_cons_zero, List.set_cons_succ]
        refine wpAnyT_take2 6 (v := ?tvxz6) (by kernel_rfl) rfl (by kernel_rfl) (fun _ _ _ h => h) (Or.inl ⟨by rfl, ?tyxz6⟩) HB0.out ?trxz6
        case tyxz6 => (intro w' hSw; (try dsimp only at hSw); go_simp; try with_reducible rfl)
        try simp only [Act.put, List.setIfInBounds_toArray, List.set_cons_zero, List.set_cons_succ]
        refine wpAnyT_take2 7 (v := ?tvxz7) (by kernel_rfl) rfl (by kernel_rfl) (fun _ _ _ h => h) (Or.inl ⟨by rfl, ?tyxz7⟩) HB0.out ?trxz7
        case tyxz7 => (intro w' hSw; (try dsimp only at hSw); go_simp; try with_reducible rfl)
        try simp only [Act.put, List.setIfInBounds_toArray, List.set_cons_zero, List.set_cons_succ]
        refine wpAnyT_take2 8 (v := ?tvxz8) (by kernel_rfl) rfl (by kernel_rfl) (fun _ _ _ h => h) (Or.inl ⟨by rfl, ?tyxz8⟩) HB0.out ?trxz8
        case tyxz8 => (intro w' hSw; (try dsimp only at hSw); go_simp; try with_reducible rfl)
        try simp only [Act.put, List.setIfInBounds_toArray, List.set_cons_zero, List.set_cons_succ]
        refine wpAnyT_take2 9 (v := ?tvxz9) (by kernel_rfl) rfl (by kernel_rfl) (fun _ _ _ h => h) (Or.inl ⟨by rfl, ?tyxz9⟩) HB0.out ?trxz9
        case tyxz9 => (intro w' hSw; (try dsimp only at hSw); go_simp; try with_reducible rfl)
        try simp only [Act.put, List.setIfInBounds_toArray, List.set_cons_zero, List.set_cons_succ]
        refine wpAnyT_take2 10 (v := ?tvxz10) (by kernel_rfl) rfl (by kernel_rfl) (fun _ _ _ h => h) (Or.inl ⟨by rfl, ?tyxz10⟩) HB0.out ?trxz10
        case tyxz10 => (intro w' hSw; (try dsimp only at hSw); go_simp; try with_reducible rfl)
        try simp only [Act.put, List.setIfInBounds_toArray, List.set_cons_zero, List.set_cons_succ]
        refine wpAnyT_take2 11 (v := ?tvxz11) (by kernel_rfl) rfl (by kernel_rfl) (fun _ _ _ h => h) (Or.inl ⟨by rfl, ?tyxz11⟩) HB0.out ?trxz11
        case tyxz11 => (intro w' hSw; (try dsimp only at hSw); go_simp; try with_reducible rfl)
        try simp only [Act.put, List.setIfInBounds_toArray, List.set_cons_zero, List.set_cons_succ]
        refine wpAnyT_take2 12 (v := ?tvxz12) (by kernel_rfl) rfl (by kernel_rfl) (fun _ _ _ h => h) (Or.inl ⟨by rfl, ?tyxz12⟩) HB0.out ?trxz12
        case tyxz12 => (intro w' hSw; obtain ⟨f0, f1, f2, f3, f4, f5⟩ := HF.out w' hSw; (try dsimp only at hSw); go_simp; try with_reducible rfl)
        try simp only [Act.put, List.setIfInBounds_toArray, List.set_cons_zero, List.set_cons_succ]
        refine wpAnyT_take2 13 (v := ?tvxz13) (by kernel_rfl) rfl (by kernel_rfl) (fun _ _ _ h => h) (Or.inl ⟨by rfl, ?tyxz13⟩) HB0.out ?trxz13
        case tyxz13 => (intro w' hSw; (try dsimp only at hSw); go_simp; try with_reducible rfl)
        try simp only [Act.put, List.setIfInBounds_toArray, List.set_cons_zero, List.set_cons_succ]
        refine wpAnyT_take2 15 (v := ?tvxz15) (by kernel_rfl) rfl (by kernel_rfl) (fun _ _ _ h => h) (Or.inl ⟨by rfl, ?tyxz15⟩) HB0.out ?trxz15
        case tyxz15 => (intro w' hSw; obtain ⟨f0, f1, f2, f3, f4, f5⟩ := HF.out w' hSw; (try dsimp only at hSw); go_simp; try with_reducible rfl)
        try simp only [Act.put, List.setIfInBounds_toArray, List.set_cons_zero, List.set_cons_succ]
        refine wpAnyT_take2 16 (v := ?tvxz16) (by kernel_rfl) rfl (by kernel_rfl) (fun _ _ _ h => h) (Or.inl ⟨by rfl, ?tyxz16⟩) HB0.out ?trxz16
        case tyxz16 => (intro w' hSw; (try dsimp only at hSw); go_simp; try with_reducible rfl)
        try simp only [Act.put, List.setIfInBounds_toArray, List.set_cons_zero, List.set_cons_succ]
        refine wpAnyT_one2 14 rfl (by kernel_rfl) ?_
        intro K' hK'
        rw [if_pos (by rfl)]
        have HK := Lib.hid hK'
        clear hK'
        go_wp2_with (go_at_call 12; refine (HC12.out _ HBd.out).mono ?_; rintro e9 w12 ⟨rfl, hb12⟩)
        have HB12 := Lib.hid hb12
        have HBe := Lib.hid (HBd.out.trans (hb12.mono HBd.out.size))
        clear hb12
        refine HK.out _ _ ⟨HB12.out, ?_⟩
        clear HK K'
        try simp only [Act.put, List.setIfInBounds_toArray, List.set_cons_zero, List.set_cons_succ]
        refine wpAnyT_one2 17 rfl (by kernel_rfl) ?_
        intro K' hK'
        rw [if_pos (by rfl)]
        have HK := Lib.hid hK'
        clear hK'
        go_wp2_with (go_at_call 13; refine (HC13.out _ HBe.out).mono ?_; rintro e9 w13 ⟨rfl, hb13⟩)
        have HB13 := Lib.hid (HB12.out.trans (hb13.mono HB12.out.size))
        have HBf := Lib.hid (HBe.out.trans (hb13.mono HBe.out.size))
        clear hb13
        refine HK.out _ _ ⟨HB13.out, ?_⟩
        clear HK K'
        try simp only [Act.put, List.setIfInBounds_toArray, List.set_cons_zero, List.set_cons_succ]
        refine wpAnyT_take2 18 (v := ?tvxz18) (by kernel_rfl) rfl (by kernel_rfl) (fun _ _ _ h => h) (Or.inl ⟨by rfl, ?tyxz18⟩) HB13.out ?trxz18
        case tyxz18 => (intro w' hSw; (try dsimp only at hSw); go_simp; try with_reducible rfl)
        try simp only [Act.put, List.setIfInBounds_toArray, List.set_cons_zero, List.set_cons_succ]
        refine wpAnyT_take2 19 (v := ?tvxz19) (by kernel_rfl) rfl (by kernel_rfl) (fun _ _ _ h => h) (Or.inl ⟨by rfl, ?tyxz19⟩) HB13.out ?trxz19
        case tyxz19 => (intro w' hSw; (try dsimp only at hSw); go_simp; try with_reducible rfl)
        try simp only [Act.put, List.setIfInBounds_toArray, List.set_cons_zero, List.set_cons_succ]

        refine ⟨by kernel_rfl, ?_⟩
        change wpList _ _ _ [_] _ _
        go_wp2
        refine NoPanic.normal ?_
        go_wp2_with fail
        go_ret
        exact ⟨rfl, below_then HBW.out HBf.out⟩
end Go.Proofs.YtgppobaoclfgcaaGreatDoor
