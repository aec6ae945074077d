/- ProgWrong: the walk. Conditions: what each lemma says. -/
import Derived.Test.YtpeheppiolfpfaaDoorLawA
import Derived.Deep.LoopGhost
import Derived.Deep.CutBlock
set_option linter.unusedVariables false
set_option linter.unusedSimpArgs false
namespace Go.Proofs.YtpeheppiolfpfaaDoor
open Go.RowKit Go.Lib
open Plain (Rg May mayB In Norm In4 slotsOf insB bnd riB cls cnot rightB normB nextL Rch cntA RInv small putL lineL)
theorem i4s_setj : ∀ (L : List In4) (k : Nat) (t : In4) (v : Int), L[k]? = some t → i4s (L.set k (v, t.2.1, t.2.2.1, t.2.2.2)) = (i4s L).set (k * 4) (.int .i64 v) ∧ i4s (L.set k (t.1, v, t.2.2.1, t.2.2.2)) = (i4s L).set (k * 4 + 1) (.int .i64 v) ∧ i4s (L.set k (t.1, t.2.1, v, t.2.2.2)) = (i4s L).set (k * 4 + 2) (.int .i64 v)
  | [], k, t, v, h => by simp at h
  | u :: L, 0, t, v, h => by
    simp at h
    subst h
    refine ⟨?_, ?_, ?_⟩ <;> (rw [List.set_cons_zero, i4s_cons, i4s_cons]; rfl)
  | u :: L, k + 1, t, v, h => by
    obtain ⟨h1, h2, h3⟩ := i4s_setj L k t v (by simpa using h)
    refine ⟨?_, ?_, ?_⟩
    · rw [List.set_cons_succ, i4s_cons, i4s_cons, h1, show (k + 1) * 4 = k * 4 + 1 + 1 + 1 + 1 by omega]; rfl
    · rw [List.set_cons_succ, i4s_cons, i4s_cons, h2, show (k + 1) * 4 + 1 = k * 4 + 1 + 1 + 1 + 1 + 1 by omega]; rfl
    · rw [List.set_cons_succ, i4s_cons, i4s_cons, h3, show (k + 1) * 4 + 2 = k * 4 + 2 + 1 + 1 + 1 + 1 by omega]; rfl
/-- of whatever three classes it is no program -/
def BadL (L : List In4) (g : Int) : Prop := ∀ K : List Cs, K.length = 3 → pgR L K g = false
theorem bad_of {L : List In4} {g : Int} {k : Nat} {t : In4} (hk : k < L.length) (h : riB L.length 3 g t = false) : BadL (L.set k t) g := fun K hK => by
  have hl : (L.set k t).length = L.length := List.length_set
  have hm : t ∈ L.set k t := List.mem_iff_getElem.2 ⟨k, by rw [hl]; exact hk, by simp⟩
  generalize L.set k t = M at hl hm
  have : (M.any fun s => !riB M.length K.length g s) = true := by
    rw [List.any_eq_true]
    exact ⟨t, hm, by rw [hl, hK, h]; rfl⟩
  unfold pgR
  rw [this]; simp
theorem bad_nil (g : Int) : BadL [] g := fun K _ => by unfold pgR; simp
theorem bad_long {L : List In4} (g : Int) (h : L.length = 513) : BadL L g := fun K _ => by unfold pgR; rw [h]; simp
theorem bad_groups {L : List In4} {K : List Cs} {g : Int} (h : 9 ≤ g) : pgR L K g = false := by
  have : decide (g ≤ 8) = false := by simp; omega
  unfold pgR; rw [this]; simp
theorem bnd_le (n : Nat) (g op : Int) (hn : 1 ≤ n) (hg0 : 0 ≤ g) (hg : g ≤ 2) : (bnd n 3 g op).1 ≤ n ∧ (bnd n 3 g op).2.1 ≤ n ∧ (bnd n 3 g op).2.2 ≤ 6 := by
  have hs : slotsOf g = 2 * g + 2 := slotsOf_small g hg0 (by omega)
  unfold bnd
  rw [hs]
  split
  · exact ⟨by simp; omega, by simp; omega, by simp⟩
  split
  · exact ⟨by simp, by simp; omega, by simp⟩
  split
  · exact ⟨by simp, by simp, by simp⟩
  split
  · exact ⟨by simp, by simp; omega, by simp; omega⟩
  split
  · exact ⟨by simp, by simp; omega, by simp⟩
  · exact ⟨by simp, by simp; omega, by simp⟩
theorem ri_op {n : Nat} {g : Int} {t : In4} {v : Int} (h : 6 ≤ v) : riB n 3 g (v, t.2.1, t.2.2.1, t.2.2.2) = false := by
  have : decide (v ≤ 5) = false := by simp; omega
  unfold riB; dsimp only; rw [this]; simp
theorem ins_far {v b : Int} (h : b ≤ v) : insB v b = false := by
  have : decide (v < b) = false := by simp; omega
  unfold insB; rw [this]; simp
theorem ins_neg {v b : Int} (h : v < 0) : insB v b = false := by
  have : decide (0 ≤ v) = false := by simp; omega
  unfold insB; rw [this]; simp
theorem ri_x {n : Nat} {g : Int} {t : In4} {v : Int} (hn : 1 ≤ n) (hg0 : 0 ≤ g) (hg : g ≤ 2) (h : (n : Int) ≤ v ∨ v < 0) : riB n 3 g (t.1, v, t.2.2.1, t.2.2.2) = false := by
  have hb := bnd_le n g t.1 hn hg0 hg
  have : insB v (bnd n 3 g t.1).1 = false := h.elim (fun h => ins_far (by omega)) ins_neg
  unfold riB; dsimp only; rw [this]; simp
theorem ri_y {n : Nat} {g : Int} {t : In4} {v : Int} (hn : 1 ≤ n) (hg0 : 0 ≤ g) (hg : g ≤ 2) (h : (n : Int) ≤ v) : riB n 3 g (t.1, t.2.1, v, t.2.2.2) = false := by
  have hb := bnd_le n g t.1 hn hg0 hg
  have : insB v (bnd n 3 g t.1).2.1 = false := ins_far (by omega)
  unfold riB; dsimp only; rw [this]; simp
theorem ri_a {n : Nat} {g : Int} {t : In4} {v : Int} (hn : 1 ≤ n) (hg0 : 0 ≤ g) (hg : g ≤ 2) (h : 6 ≤ v ∨ v < 0) : riB n 3 g (t.1, t.2.1, t.2.2.1, v) = false := by
  have hb := bnd_le n g t.1 hn hg0 hg
  have : insB v (bnd n 3 g t.1).2.2 = false := h.elim (fun h => ins_far (by omega)) ins_neg
  unfold riB; dsimp only; rw [this]; simp
def WrMid (wp : World) (gq : Int) (y : Value) (wx : World) : Prop := ∃ (A : Option Addr) (c : Nat) (Lw : List In4), y = .slice A Lw.length c ∧ Sl wx A (i4s Lw) ∧ Lw.length ≤ 1000 ∧ Below wp.heap.size wp wx ∧ BadL Lw gq
end Go.Proofs.YtpeheppiolfpfaaDoor
namespace Go.Proofs.YtpeheppiolfpfaaDoor
open Go.RowKit Go.Lib Go.ChangeShapes
open Plain (Rg May mayB In Norm In4 slotsOf insB bnd riB cls cnot rightB normB nextL Rch cntA RInv small putL lineL)
theorem own_fr {w : World} {base g n c sz : Nat} {e : TypeId} {xs : List Value} (h : w.ownsRow base e sz (.slice (some ⟨g, 0, none⟩) n c) n xs) (j : Nat) : w.frozen? ⟨g, j, none⟩ = false := by
  rcases h.2 with ⟨hv, _⟩ | ⟨g', cap, cur, hv, _, hh, _⟩
  · cases hv
  · injection hv with h1
    injection h1 with h1; injection h1 with h1; subst h1
    exact blk_frozen hh j
set_option maxRecDepth 1000000 in
set_option maxHeartbeats 8000000 in
theorem wrong_w (PI PC LA : Option Addr) (PL : List In4) (PK : List Cs) (pic pcc lc : Nat) (pg : Int) (own : Bool) (L : List Int) (g : Int) (at_ hw nn : Int) (W : World) (hC : CodeAt W PI PL PC PK pg LA L g) (ha0 : 0 ≤ at_) (ha1 : at_ < 256) (hh0 : 0 ≤ hw) (hh1 : hw < 256) (hn0 : 0 ≤ nn) (hn1 : nn < 65536) :
    Calls Tryd.prog 5 #[.agg #[.slice PI PL.length pic, .slice PC PK.length pcc, .int .i64 pg, .bool own, .slice LA L.length lc, .int .u8 g], .int .u8 at_, .int .u8 hw, .int .u16 nn] W fun e w' => e = .returned (.bool true) ∧ Below W.heap.size W w' := by
  have HC := Lib.hid hC
  have CE := Lib.hid (fun W => examples_any W)
  obtain ⟨n, hn⟩ : ∃ n, L.length = n := ⟨_, rfl⟩
  obtain ⟨pn, hpn⟩ : ∃ n, PL.length = n := ⟨_, rfl⟩
  obtain ⟨pk, hpk⟩ : ∃ n, PK.length = n := ⟨_, rfl⟩
  have CC := Lib.hid (fun (w : World) (h : Below W.heap.size W w) => code_own PI PC LA PL.length pic PK.length pcc lc pg g L w hC.g0 hC.g1 (hC.l.below h) hC.ll hC.lb)
  rw [hn, hpn, hpk] at CC ⊢
  clear hC hn hpn hpk
  have CR := Lib.hid (fun I C L K c d g w hP => prright_any I C L K c d g w hP)
  obtain ⟨i84, hi84, y0, y1, y2⟩ := info_parts info84
  go_enter Tryd.func5, Tryd.ntmps5
  go_wp2_with fail
  have HB0 := Lib.hid (below_alloc (Below.refl W.heap.size W) (.cells #[.slice PI pn pic, .slice PC pk pcc, .int .i64 pg, .bool own, .slice LA n lc, .int .u8 g] 28))
  have hX := heap_alloc_new2 W (.cells #[.slice PI pn pic, .slice PC pk pcc, .int .i64 pg, .bool own, .slice LA n lc, .int .u8 g] 28) W.heap.size _ rfl
  refine (CE.out _).mono ?_
  rintro e1 w1 ⟨rfl, hb⟩
  have HB1 := Lib.hid (below_then HB0.out hb)
  have hX1 := blk_later hX hb
  have hlw := lt_of_some hX1
  have f3 := blk_frozen hX1 3
  have hc1 : CellsAt w1 W.heap.size [.slice PI pn pic, .slice PC pk pcc, .int .i64 pg, .bool own, .slice LA n lc, .int .u8 g] := ⟨hlw, fun j u hu => by rw [cell_of_row _ _ _ _ _ _ hX1]; simpa using hu⟩
  have x0 := hc1.at_ 0 _ rfl
  have x1 := hc1.at_ 1 _ rfl
  have x2 := hc1.at_ 2 _ rfl
  have x3 := hc1.at_ 3 _ rfl
  have x4 := hc1.at_ 4 _ rfl
  have x5 := hc1.at_ 5 _ rfl
  have HBS := Lib.hid (HB1.out.setCell (p := ⟨W.heap.size, 3, none⟩) (Nat.le_refl _) (.bool true))
  clear hb hX hc1 hX1
  go_wp2_with fail
  clear x0 x1 x2 x3 x4 x5 f3 hlw
  obtain ⟨w2, hw2⟩ : ∃ W0, w1.setCell ⟨W.heap.size, 3, none⟩ (.bool true) = W0 := ⟨_, rfl⟩
  rw [hw2] at HBS ⊢
  clear hw2
  refine (CC.out _ HBS.out).mono ?_
  rintro e2 w3 ⟨I, c, gc, K, rfl, hO, hP, hK, hb⟩
  unfold pgV
  have hm' := codeLn_len L g
  have hright := code_right L g K HC.out.g0 HC.out.lb hK
  obtain ⟨LL, hLL⟩ : ∃ x, codeLn L g = x := ⟨_, rfl⟩
  have hmem := codeLn_mem L g HC.out.g0 HC.out.lb
  rw [hLL] at hO hP hm' hmem hright ⊢
  obtain ⟨m, hm⟩ : ∃ m, LL.length = m := ⟨_, rfl⟩
  have hm1 : 1 ≤ m ∧ m ≤ 15 := by omega
  rw [hm] at hO ⊢
  obtain ⟨gI, cI, hv, hmc, hgI, hcI⟩ := own_at hO hm1.1
  injection hv with hv1 hv2 hv3
  subst hv1 hv3
  obtain ⟨gq, hgq⟩ : ∃ x, g % 3 = x := ⟨_, rfl⟩
  have hgq0 : 0 ≤ gq ∧ gq ≤ 2 := by have := HC.out.g0; omega
  rw [hgq] at hmem hright ⊢
  have k1 := (codeK_ok K hK).1
  have HB3 := Lib.hid (below_then HBS.out hb)
  have HP3 := Lib.hid hP
  have HO3 := Lib.hid hO
  have HCI := Lib.hid hcI
  have HM := Lib.hid hm
  have HMEM := Lib.hid hmem
  have HKR := Lib.hid hK
  have HK1 := Lib.hid k1
  have HRT := Lib.hid hright
  clear hP hO hcI hm hmem hK hb hgq hLL hm' HC k1 hright hv2
  go_upto_region 6 with fail
  have hBp := (Below.refl w3.heap.size w3).alloc (Nat.le_refl _) (.cells #[.slice (some ⟨gI, 0, none⟩) m c, .slice (some ⟨gc, 0, none⟩) 3 3, .int .i64 gq] 25)
  have hxp := heap_alloc_new2 w3 (.cells #[.slice (some ⟨gI, 0, none⟩) m c, .slice (some ⟨gc, 0, none⟩) 3 3, .int .i64 gq] 25) w3.heap.size _ rfl
  obtain ⟨wp0, hwp⟩ : ∃ W0, w3.alloc (.cells #[.slice (some ⟨gI, 0, none⟩) m c, .slice (some ⟨gc, 0, none⟩) 3 3, .int .i64 gq] 25) = W0 := ⟨_, rfl⟩
  rw [hwp] at hBp hxp ⊢
  obtain ⟨gp, hgp⟩ : ∃ x, w3.heap.size = x := ⟨_, rfl⟩
  have hgpW : W.heap.size ≤ gp := by rw [← hgp]; exact HB3.out.size
  have HPp0 := Lib.hid (HP3.out.below hBp)
  have HBp0 := Lib.hid (below_then HB3.out hBp)
  have HCp0 := Lib.hid (HCI.out.below hBp)
  rw [hgp] at hxp ⊢
  have HXp0 := Lib.hid hxp
  clear hBp hxp hwp hgp HP3 HO3 HCI HB3
  obtain ⟨p0, p1, p2⟩ := blk_cells3 HXp0.out
  have C6 := CR.out (some ⟨gI, 0, none⟩) (some ⟨gc, 0, none⟩) LL K c 3 gq wp0 HPp0.out
  rw [HRT.out, HM.out, HK1.out] at C6
  unfold pgV at C6
  have HC6 := Lib.hid C6
  clear C6
  go_wp2_with fail
  refine (HC6.out).mono ?_
  rintro e3 wp ⟨rfl, hb6⟩
  have HPp := Lib.hid (HPp0.out.below hb6)
  have HBp := Lib.hid (below_then HBp0.out hb6)
  have HCp := Lib.hid (HCp0.out.below hb6)
  have HXp := Lib.hid (blk_later HXp0.out hb6)
  clear hb6 p0 p1 p2 HPp0 HBp0 HCp0 HXp0 HC6
  obtain ⟨p0, p1, p2⟩ := blk_cells3 HXp.out
  obtain ⟨k, hk⟩ : ∃ k : Nat, at_ % (m : Int) = k := ⟨(at_ % (m : Int)).toNat, by have := Int.emod_nonneg at_ (show (m : Int) ≠ 0 by omega); omega⟩
  have hkm : k < m := by have := Int.emod_lt_of_pos at_ (show (0 : Int) < m by omega); omega
  have hkt : Int.tmod at_ (m : Int) = k := by rw [Int.tmod_eq_emod_of_nonneg ha0]; exact hk
  go_upto_region 8 with fail
  go_wp2_with (at_builtin; refine wpList_append_own2 _ rfl (.const (.slice none 0 0)) (.tmp 30) _ rfl W.heap.size 30 i84 _ 4 32 Tryd.underlying22 hi84 y0 y1 y2 rfl (by decide) (.slice none 0 0) 0 [] rfl (World.ownsRow_nil _ _ _ _) ⟨gI, 0, none⟩ m c (i4s LL) rfl (by rw [i4s_len, HM.out]) (CellsAt_add HCp.out) ?c1 ?c2 ?c3 ?c4 ?_)
  case c1 => (intro u hu; unfold i4s i4c at hu; simp only [List.mem_flatMap, List.mem_cons, List.not_mem_nil, or_false] at hu; obtain ⟨t, _, h⟩ := hu; rcases h with rfl | rfl | rfl | rfl <;> rfl)
  case c2 => simp only [maxLen]; omega
  case c3 => omega
  case c4 => exact HBp.out.size
  intro v4 w4 hown hgr hvb
  obtain ⟨gl, cl, rfl, hmcl, hgl, hcl⟩ := own_at hown hm1.1
  have hbl : Below wp.heap.size wp w4 := ⟨hgr.os, hgr.tape, hgr.output, hgr.size, fun k hk => hgr.block k hk (by simp [Value.ownBlock])⟩
  have hgl2 : wp.heap.size ≤ gl := by
    rcases hvb with e | e
    · simp [Value.ownBlock] at e
    · simp [Value.ownBlock] at e; omega
  have hown2 : w4.ownsRow wp.heap.size 30 4 (.slice (some ⟨gl, 0, none⟩) m cl) m (i4s LL) := ⟨hown.1, by
    rcases hown.2 with ⟨hv, _⟩ | ⟨g', cap, cur, hv, _, hr⟩
    · cases hv
    · refine .inr ⟨g', cap, cur, hv, ?_, hr⟩
      injection hv with h1
      injection h1 with h1; injection h1 with h1; subst h1
      exact hgl2⟩
  have hfr := own_fr hown
  have HBL := Lib.hid hbl
  have HL4 := Lib.hid hcl
  have HOW := Lib.hid hown2
  have HGL := Lib.hid hgl2
  have HFR := Lib.hid hfr
  clear hown hown2 hfr hgr hvb hcl hbl hgl p0 p1 p2 HCp hgl2
  go_upto_region 10 with fail
  obtain ⟨h8, hh8⟩ : ∃ x, hw % 8 = x := ⟨_, rfl⟩
  have h80 : 0 ≤ h8 ∧ h8 < 8 := by omega
  have hht : Int.tmod hw 8 = h8 := by rw [Int.tmod_eq_emod_of_nonneg hh0]; exact hh8
  go_upto_block 0 with fail
  have hkL : k < LL.length := by rw [HM.out]; exact hkm
  obtain ⟨t, ht⟩ : ∃ t, LL[k] = t := ⟨_, rfl⟩
  have hlt : LL[k]? = some t := by rw [List.getElem?_eq_getElem hkL, ht]
  obtain ⟨hg0, hg1, hg2, hg3⟩ := i4s_get LL k t hlt
  have a0 := HL4.out.2 _ _ hg0
  have a1 := HL4.out.2 _ _ hg1
  have a2 := HL4.out.2 _ _ hg2
  have a3 := HL4.out.2 _ _ hg3
  have HI4L := Lib.hid (show (i4s LL).length = m * 4 by rw [i4s_len, HM.out])
  have HLT := Lib.hid hlt
  have HKL := Lib.hid hkL
  have i0 : (0 : Int) ≤ (k : Int) := by omega
  have i1 : (k : Int) < (m : Int) := by omega
  have hlg := HL4.out.1
  clear hg0 hg1 hg2 hg3 hlt ht hkL hk hkt hh8 hht
  go_cut [13] (fun y wx => WrMid wp gq y wx)
  case first =>
    have h8c : h8 = 0 ∨ h8 = 1 ∨ h8 = 2 ∨ h8 = 3 ∨ h8 = 4 ∨ h8 = 5 ∨ h8 = 6 ∨ h8 = 7 := by omega
    clear h80
    rcases h8c with rfl | rfl | rfl | rfl | rfl | rfl | rfl | rfl
    · have hS := sl_set HL4.out (k * 4) (by rw [HI4L.out]; omega) (.int .i64 (6 + nn))
      rw [← ((i4s_setj LL k t (6 + nn) HLT.out).1)] at hS
      have HS := Lib.hid hS
      have fz := HFR.out (k * 4)
      clear hS
      go_wp2
      go_meet
      case rel => exact ⟨_, cl, _, by rw [List.length_set, HM.out], Sl.of_cells HS.out, by rw [List.length_set, HM.out]; omega, HBL.out.setCell HGL.out _, bad_of HKL.out (ri_op (by omega))⟩
    · have hS := sl_set HL4.out (k * 4 + 1) (by rw [HI4L.out]; omega) (.int .i64 ((m : Int) + 20 + nn))
      rw [← ((i4s_setj LL k t ((m : Int) + 20 + nn) HLT.out).2.1)] at hS
      have HS := Lib.hid hS
      have fz := HFR.out (k * 4 + 1)
      clear hS
      go_wp2
      go_meet
      case rel => exact ⟨_, cl, _, by rw [List.length_set, HM.out], Sl.of_cells HS.out, by rw [List.length_set, HM.out]; omega, HBL.out.setCell HGL.out _, bad_of HKL.out (ri_x (by rw [HM.out]; omega) hgq0.1 hgq0.2 (.inl (by rw [HM.out]; omega)))⟩
    · have hS := sl_set HL4.out (k * 4 + 2) (by rw [HI4L.out]; omega) (.int .i64 ((m : Int) + 20 + nn))
      rw [← ((i4s_setj LL k t ((m : Int) + 20 + nn) HLT.out).2.2)] at hS
      have HS := Lib.hid hS
      have fz := HFR.out (k * 4 + 2)
      clear hS
      go_wp2
      go_meet
      case rel => exact ⟨_, cl, _, by rw [List.length_set, HM.out], Sl.of_cells HS.out, by rw [List.length_set, HM.out]; omega, HBL.out.setCell HGL.out _, bad_of HKL.out (ri_y (by rw [HM.out]; omega) hgq0.1 hgq0.2 (by rw [HM.out]; omega))⟩
    · have hS := sl_set HL4.out (k * 4 + 3) (by rw [HI4L.out]; omega) (.int .i64 ((m : Int) + 20 + nn))
      rw [← (i4s_set LL k t ((m : Int) + 20 + nn) HLT.out)] at hS
      have HS := Lib.hid hS
      have fz := HFR.out (k * 4 + 3)
      clear hS
      go_wp2
      go_meet
      case rel => exact ⟨_, cl, _, by rw [List.length_set, HM.out], Sl.of_cells HS.out, by rw [List.length_set, HM.out]; omega, HBL.out.setCell HGL.out _, bad_of HKL.out (ri_a (by rw [HM.out]; omega) hgq0.1 hgq0.2 (.inl (by omega)))⟩
    · have hS := sl_set HL4.out (k * 4 + 1) (by rw [HI4L.out]; omega) (.int .i64 (-1 - nn))
      rw [← ((i4s_setj LL k t (-1 - nn) HLT.out).2.1)] at hS
      have HS := Lib.hid hS
      have fz := HFR.out (k * 4 + 1)
      clear hS
      go_wp2
      go_meet
      case rel => exact ⟨_, cl, _, by rw [List.length_set, HM.out], Sl.of_cells HS.out, by rw [List.length_set, HM.out]; omega, HBL.out.setCell HGL.out _, bad_of HKL.out (ri_x (by rw [HM.out]; omega) hgq0.1 hgq0.2 (.inr (by omega)))⟩
    · go_wp2
      go_meet
      case rel => exact ⟨none, 0, [], rfl, Sl.nil _ _, by simp, HBL.out, bad_nil gq⟩
    · go_wp2
      go_loopg [13] (513 - m) (fun gk v wr => ∃ Lx : List In4, gk = 513 - Lx.length ∧ Lx.length ≤ 513 ∧ wr.ownsRow wp.heap.size 30 4 v Lx.length (i4s Lx) ∧ RowKit.Below wp.heap.size wp wr)
      case atStart => exact ⟨LL, by rw [HM.out], by rw [HM.out]; omega, by rw [HM.out]; exact HOW.out, HBL.out⟩
      case round =>
        obtain ⟨Lx, hgk, hlx, hO, hB⟩ := hrel
        obtain ⟨nx, hnx⟩ : ∃ n, Lx.length = n := ⟨_, rfl⟩
        rw [hnx] at hgk hlx hO
        obtain ⟨ua, uc, rfl⟩ := own_slice hO
        have HO := Lib.hid hO
        have HB := Lib.hid hB
        have HNX := Lib.hid hnx
        have HGK := Lib.hid hgk
        clear hO hB hnx hgk
        by_cases hlt : nx < 513
        · go_upto_region 25 with fail
          go_wp2_with (at_builtin; refine wpList_append_own2 _ rfl (.tmp 86) (.tmp 88) _ rfl wp.heap.size 30 i84 _ 4 32 Tryd.underlying22 hi84 y0 y1 y2 rfl (by decide) (.slice ua nx uc) nx (i4s Lx) rfl (HO.out.alloc _) ⟨wr.heap.size, 0, none⟩ 1 1 [.int .i64 3, .int .i64 0, .int .i64 0, .int .i64 0] rfl rfl (CellsAt_add (CellsAt.new wr _ _)) ?d2 ?d3 ?d4 ?d5 ?_)
          case d2 => (intro u hu; simp only [List.mem_cons, List.not_mem_nil, or_false] at hu; rcases hu with rfl | rfl | rfl | rfl <;> rfl)
          case d3 => simp only [maxLen]; omega
          case d4 => omega
          case d5 => have := HB.out.size; simp; omega
          intro v7 w7 hown2 hg2 hvb2
          have hB7 : RowKit.Below wp.heap.size wp w7 := (HB.out.alloc HB.out.size _).grown hg2 (by have := HB.out.size; simp; omega) (fun g hg => (HO.out.lt g hg).1)
          have HB7 := Lib.hid hB7
          have HO7 := Lib.hid hown2
          clear hB7 hown2 hg2 hvb2
          go_wp2
          go_roundg (513 - (nx + 1))
          case measure => have := HGK.out; omega
          case rel => exact ⟨Lx ++ [(3, 0, 0, 0)], by rw [List.length_append, HNX.out]; rfl, by rw [List.length_append, HNX.out]; simp; omega, by rw [List.length_append, HNX.out, i4s_append]; exact HO7.out, HB7.out⟩
        · obtain rfl : nx = 513 := by omega
          have HSl := Lib.hid (own_SlN HO.out (fun _ => by omega))
          go_wp2
          go_meet
          case rel => exact ⟨ua, uc, Lx, by rw [HNX.out], HSl.out, by rw [HNX.out]; omega, HB.out, bad_long gq HNX.out⟩
    · have hS := sl_set HL4.out (k * 4 + 3) (by rw [HI4L.out]; omega) (.int .i64 (-1))
      rw [← (i4s_set LL k t (-1) HLT.out)] at hS
      have HS := Lib.hid hS
      have fz := HFR.out (k * 4 + 3)
      clear hS
      go_wp2
      go_meet
      case rel => exact ⟨_, cl, _, by rw [List.length_set, HM.out], Sl.of_cells HS.out, by rw [List.length_set, HM.out]; omega, HBL.out.setCell HGL.out _, bad_of HKL.out (ri_a (by rw [HM.out]; omega) hgq0.1 hgq0.2 (.inr (by omega)))⟩
  case rest =>
    obtain ⟨A, cw, Lw, rfl, hS, hlw, hbx, hbad⟩ := hcut
    obtain ⟨lw, hlwn⟩ : ∃ n, Lw.length = n := ⟨_, rfl⟩
    have hPx := HPp.out.below hbx
    have hXx := blk_later HXp.out hbx
    have hPw : PgAt wc A Lw (some ⟨gc, 0, none⟩) K := ⟨hS, hPx.cls, hPx.each, by unfold maxLen; omega, hPx.lc⟩
    have D1 := CR.out A (some ⟨gc, 0, none⟩) Lw K cw 3 gq wc hPw
    have D2 := fun (w' : World) (hw' : Below wc.heap.size wc w') => CR.out (some ⟨gI, 0, none⟩) (some ⟨gc, 0, none⟩) LL K c 3 (9 + nn) w' (hPx.below hw')
    rw [hbad K HK1.out, hlwn, HK1.out] at D1
    rw [bad_groups (L := LL) (K := K) (g := 9 + nn) (by omega), HM.out, HK1.out] at D2
    unfold pgV at D1 D2
    rw [hlwn] at hlw ⊢
    have HD1 := Lib.hid D1
    have HD2 := Lib.hid D2
    have HBX := Lib.hid (below_then HBp.out hbx)
    have HXX := Lib.hid hXx
    clear D1 D2 hPw hPx hXx hbad hS hbx hlwn a0 a1 a2 a3 hlg
    obtain ⟨p0, p1, p2⟩ := blk_cells3 HXX.out
    go_wp2_with fail
    refine (HD1.out).mono ?_
    rintro e7 v1 ⟨rfl, hb⟩
    have HE1 := Lib.hid hb
    clear hb p0 p1 p2
    obtain ⟨p0, p1, p2⟩ := blk_cells3 (blk_later HXX.out HE1.out)
    go_wp2_with fail
    refine (HD2.out _ HE1.out).mono ?_
    rintro e8 v2 ⟨rfl, hb⟩
    have HE2 := Lib.hid (below_then HE1.out hb)
    clear hb p0 p1 p2
    go_wp2_with fail
    go_ret
    exact ⟨rfl, below_then HBX.out HE2.out⟩
set_option maxRecDepth 100000 in
theorem wrong_all {H : Type} {enc : TypeId × Value → H} {base : Nat} {v : Value} {d : DataW H} {p : List MemPlace} (a b n : Int) (W : World) (hv : Value.okWide Tryd.prog W .any base 28 v) (h : DataW.Trod enc Tryd.prog W 0 (fun _ => true) true 28 v d p) (ha : (Lit.int .u8 a).wf = true) (hb : (Lit.int .u8 b).wf = true) (hn : (Lit.int .u16 n).wf = true) :
    Calls Tryd.prog 5 #[v, .int .u8 a, .int .u8 b, .int .u16 n] W fun e w' => e = .returned (.bool true) ∧ Below W.heap.size W w' := by
  obtain ⟨PI, PL, pic, PC, PK, pcc, pg, own, LA, L, lc, g, rfl, hC⟩ := open_code hv h
  have h1 := wf_u8b ha
  have h2 := wf_u8b hb
  have h3 := u16_bd (L := [n]) (fun m hm => by rw [List.mem_singleton.1 hm]; exact hn) 0 (by simp)
  exact wrong_w PI PC LA PL PK pic pcc lc pg own L g a b n W hC h1.1 h1.2 h2.1 h2.2 h3.1 h3.2
end Go.Proofs.YtpeheppiolfpfaaDoor
