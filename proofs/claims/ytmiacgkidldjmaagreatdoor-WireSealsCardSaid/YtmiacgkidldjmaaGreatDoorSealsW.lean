/- Chapter 12: the law of what is sealed walked. Conditions: what each lemma says. -/
import Derived.Test.YtmiacgkidldjmaaGreatDoorWireJ
import Derived.Test.YtmiacgkidldjmaaGreatDoorCodeB
import Derived.Test.YtmiacgkidldjmaaGreatDoorSealF
import Derived.Test.YtmiacgkidldjmaaGreatDoorWP7
set_option linter.unusedVariables false
set_option linter.unusedSimpArgs false
namespace Go.Proofs.YtmiacgkidldjmaaGreatDoor
open Go.ChangeShapes Go.WideShapes Go.RowKit Go.Lib Go.Deep Go.Maps
open Plain (Rg May mayB In Norm In4 slotsOf insB bnd riB cls cnot rightB normB goesL Rch cntA RInv small next_in getD_app getD_lt)
/-- the block N begins with these bytes -/
def BRow (W : World) (N : Nat) (M : List UInt8) : Prop := (∀ i (h : i < M.length), W.cell? ⟨N, i, none⟩ = some (.int .u8 (M[i].toNat : Int))) ∧ (∀ i, i < M.length → W.frozen? ⟨N, i, none⟩ = false)
theorem BRow.set {W : World} {N : Nat} {M : List UInt8} (h : BRow W N M) (k : Nat) (hk : k < M.length) (c : UInt8) : BRow (W.setCell ⟨N, k, none⟩ (.int .u8 (c.toNat : Int))) N (M.set k c) := by
  refine ⟨fun i hi => ?_, fun i hi => ?_⟩
  · rw [List.length_set] at hi
    by_cases e : k = i
    · subst e
      rw [World.cell?_setCell_same _ _ _ (h.1 k hk)]; simp
    · rw [World.cell?_setCell_other _ _ _ _ (by intro h; injection h; omega), h.1 i hi, List.getElem_set_ne e]
  · rw [List.length_set] at hi
    rw [World.frozen?_setCell]; exact h.2 i hi
theorem BRow.conv {W : World} {N : Nat} {M : List UInt8} (h : BRow W N M) (n cap : Nat) (hn : n = M.length) : (convert 35 9 (.slice (some ⟨N, 0, none⟩) n cap)).run Tryz.prog W = .ok (.string (str M)) W := by
  subst hn
  exact run_convert_bytes_back (P := Tryz.prog) W 35 9 5 ⟨N, 0, none⟩ cap M Tryz.underlying35 Tryz.underlying5 Tryz.underlying9 (fun j hj => by have := h.1 j hj; have e : (⟨N, 0, none⟩ : Addr).add j = ⟨N, j, none⟩ := (by unfold Addr.add; split <;> simp_all); rw [e]; exact this)
theorem conv_bytes10 (w : World) (t : ByteArray) : ∃ W1 cap, (convert 9 35 (.string t)).run Tryz.prog w = .ok (.slice (some ⟨w.heap.size, 0, none⟩) t.size cap) W1 ∧ BRow W1 w.heap.size t.data.toList ∧ Below w.heap.size w W1 ∧ t.size ≤ cap ∧ w.heap.size < W1.heap.size := by
  refine ⟨_, _, run_bytes_of_string w 9 35 5 t Tryz.underlying9 Tryz.underlying35 Tryz.underlying5, ⟨fun i hi => ?_, fun i hi => ?_⟩, ?_, ?_, ?_⟩
  · have hi' : i < t.size := by simpa using hi
    rw [show w.heap.size = w.drew.heap.size from rfl, cell_of_row _ _ _ _ _ _ (heap_alloc_new _ _)]
    simp [bytesRow, Array.getElem?_append, hi']
  · have hi' : i < t.size := by simpa using hi
    have hg := heap_alloc_new w.drew (.cells (bytesRow t (grownCap w t.size 0 5)) 5 ((bytesRow t (grownCap w t.size 0 5)).size, (bytesRow t (grownCap w t.size 0 5)).size + 1))
    unfold World.frozen?
    rw [show w.heap.size = w.drew.heap.size from rfl, hg]
    simp [bytesRow]; omega
  · exact (Below.refl _ _).drew.alloc (Nat.le_refl _) _
  · unfold grownCap Question.cut; simp
  · show w.heap.size < (w.heap.push _).size
    rw [Array.size_push]; omega
theorem sealL_zero (l : List UInt8) (i : Nat) (hi : i < Plain.padN l.length) : (Plain.sealL l)[l.length + i]? = some 0 := by
  unfold Plain.sealL
  rw [List.getElem?_append_left (by rw [Plain.padL_len]; omega)]
  unfold Plain.padL
  rw [List.getElem?_append_right (by omega), Nat.add_sub_cancel_left, List.getElem?_replicate, if_pos hi]
theorem ba_get (T : ByteArray) (k : Nat) (h : k < T.size) (u : UInt8) (hu : T.data.toList[k]? = some u) : T[k] = u := by
  have h2 : k < T.data.toList.length := by simpa using h
  rw [List.getElem?_eq_getElem h2] at hu
  injection hu
theorem sealL_front (l : List UInt8) : (Plain.sealL l).take l.length = l := by
  unfold Plain.sealL Plain.padL
  rw [List.append_assoc, List.take_left']
  rfl
theorem list_str (s : ByteArray) : str s.data.toList = s := by unfold str; simp
/-- what is sealed, of a text -/
structure SealF (s T : ByteArray) (pd : Nat) : Prop where
  len : T.size = s.size + pd + 4
  pd3 : pd ≤ 3
  four : T.size % 4 = 0
  front : T.extract 0 s.size = s
  zero : ∀ i, i < pd → ∀ h : s.size + i < T.size, T[s.size + i] = 0
theorem seal_facts (s : ByteArray) : ∃ pd, SealF s (str (Plain.sealL s.data.toList)) pd := by
  have hl : s.data.toList.length = s.size := by simp
  refine ⟨Plain.padN s.size, ?_, ?_, ?_, ?_, ?_⟩
  · rw [str_size, Plain.sealL_len, hl]
  · have := Plain.padN_lt s.size; omega
  · rw [str_size]; exact Plain.sealL_four _
  · have h := sealL_front s.data.toList
    rw [hl] at h
    have e : ((str (Plain.sealL s.data.toList)).extract 0 s.size).data.toList = s.data.toList := by
      rw [ByteArray.data_extract, Array.toList_extract]
      simp only [str_list, List.extract_eq_take_drop, List.drop_zero, Nat.sub_zero]
      exact h
    rw [← list_str ((str (Plain.sealL s.data.toList)).extract 0 s.size), e, list_str]
  · intro i hi h
    exact ba_get _ _ h 0 (by rw [str_list, ← hl]; exact sealL_zero _ i (by rw [hl]; exact hi))
set_option maxRecDepth 1000000 in
set_option maxHeartbeats 8000000 in
theorem seals_w (s : ByteArray) (PI PC LA : Option Addr) (PL : List In4) (PK : List Cs) (pic pcc lc : Nat) (pg : Int) (own : Bool) (L : List Int) (g : Int) (ka kb : Nat) (hka : ka < 65536) (hkb : kb < 256) (W : World)
    (s0 : s.size ≤ 140737488355328) (hC : CodeAt W PI PL PC PK pg LA L g) :
    Calls Tryz.prog 10 #[.string s, .agg #[.slice PI PL.length pic, .slice PC PK.length pcc, .int .i64 pg, .bool own, .slice LA L.length lc, .int .u8 g], .int .u16 (ka : Int), .int .u8 (kb : Int)] W fun e w' => e = .returned (.bool true) ∧ Below W.heap.size W w' := by
  have CX := Lib.hid (fun W => ex12_any W)
  have CS := Lib.hid (fun w => seal_any s w s0)
  obtain ⟨pd, hsf⟩ := seal_facts s
  obtain ⟨T, hT⟩ : ∃ x, str (Plain.sealL s.data.toList) = x := ⟨_, rfl⟩
  rw [hT] at CS hsf
  have HSF := Lib.hid hsf
  have CC := Lib.hid (fun (pi pc : Nat) (w : World) (hb : Below W.heap.size W w) => code_own_w PI PC LA pi pic pc pcc lc pg g L w hC.g0 hC.g1 (hC.l.below hb) hC.ll hC.lb)
  have HR := Lib.hid (fun (K : List Cs) (hK : K.map Cs.R = [kA, kB, kN]) => code_right L g K hC.g0 hC.lb hK)
  obtain ⟨a1, ha1⟩ : ∃ x, PL.length = x := ⟨_, rfl⟩
  obtain ⟨a2, ha2⟩ : ∃ x, PK.length = x := ⟨_, rfl⟩
  obtain ⟨a3, ha3⟩ : ∃ x, L.length = x := ⟨_, rfl⟩
  obtain ⟨M, hM⟩ : ∃ x, codeLn L g = x := ⟨_, rfl⟩
  have HM := Lib.hid hM
  rw [ha3] at CC
  rw [ha1, ha2, ha3]
  clear ha1 ha2 ha3 hC hM hT hsf
  go_enter Tryz.func10, Tryz.ntmps10
  go_wp2_with fail
  have hq := (SepB.nil W).new #[.slice PI a1 pic, .slice PC a2 pcc, .int .i64 pg, .bool own, .slice LA a3 lc, .int .u8 g] 62 (.cells #[.slice PI a1 pic, .slice PC a2 pcc, .int .i64 pg, .bool own, .slice LA a3 lc, .int .u8 g] 62)
  have HB0 := Lib.hid (below_alloc (Below.refl W.heap.size W) (.cells #[.slice PI a1 pic, .slice PC a2 pcc, .int .i64 pg, .bool own, .slice LA a3 lc, .int .u8 g] 62))
  have hX := heap_alloc_new2 W (.cells #[.slice PI a1 pic, .slice PC a2 pcc, .int .i64 pg, .bool own, .slice LA a3 lc, .int .u8 g] 62) W.heap.size _ rfl
  refine (CX.out _).mono ?_
  rintro e1 w1 ⟨rfl, hb⟩
  have hB1 := below_then HB0.out hb
  have hX1 := blk_later hX hb
  have hq1 := (hq.below hb).store 0 _ _ _ rfl 3 (.bool true)
  have HQ1 := Lib.hid hq1
  clear hb HB0 hX hq hq1
  have hlw := lt_of_some hX1
  have f3 := blk_frozen hX1 3
  have x3 := (cells_of hX1).at_ 3 _ rfl
  have HX1 := Lib.hid hX1
  have HB1 := Lib.hid hB1
  clear hX1 hB1
  go_upto_region 5 with fail
  clear x3 f3 hlw HX1 HB1
  obtain ⟨w2, hw2⟩ : ∃ x, w1.setCell ⟨W.heap.size, 3, none⟩ (.bool true) = x := ⟨_, rfl⟩
  rw [hw2] at HQ1 ⊢
  clear hw2
  go_wp2_with fail
  refine (CS.out _).mono ?_
  rintro e2 w3 ⟨rfl, hb⟩
  have HQ3 := Lib.hid (HQ1.out.below hb)
  clear hb HQ1
  have hTs := HSF.out.len
  have hpd := HSF.out.pd3
  have hfr := HSF.out.front
  have h4 : (T.size : Int) % 4 = 0 := by have := HSF.out.four; omega
  have h4t : Int.tmod (T.size : Int) 4 = 0 := by rw [Int.tmod_eq_emod_of_nonneg (by omega)]; exact h4
  have hsz : (s.size : Int) ≤ (T.size : Int) := by omega
  have hpad : (T.size : Int) - (s.size : Int) - 4 = (pd : Int) := by omega
  have HTS := Lib.hid hTs
  clear hTs
  go_wp2_with fail
  clear hfr h4 h4t hsz hpad
  obtain ⟨w3', rfl⟩ : ∃ w3', w3' = w3 := ⟨_, rfl⟩
  go_loopw [12] (fun i wr => wr = w3' ∧ ∃ j : Nat, j ≤ pd ∧ i = .int .i64 j) (fun i _ => pd - (RowKit.intOf i).toNat)
  case atStart => exact ⟨rfl, 0, Nat.zero_le _, rfl⟩
  case round =>
    obtain ⟨rfl, j, hj, rfl⟩ := hrel
    by_cases hjp : j < pd
    · have hlt : s.size + j < T.size := by rw [HTS.out]; omega
      have hz := HSF.out.zero j hjp hlt
      go_wp2_with fail
      go_roundw
      case rel => exact ⟨trivial, j + 1, by omega, by go_num⟩
      case measure => simp [RowKit.intOf]; omega
    · have hb3 := (HQ3.out.box 0 _ _ _ rfl).2
      have hlw := lt_of_some hb3
      have x0 := (cells_of hb3).at_ 0 _ rfl
      have x1 := (cells_of hb3).at_ 1 _ rfl
      have x2 := (cells_of hb3).at_ 2 _ rfl
      have x3 := (cells_of hb3).at_ 3 _ rfl
      have x4 := (cells_of hb3).at_ 4 _ rfl
      have x5 := (cells_of hb3).at_ 5 _ rfl
      clear hb3
      go_wp2_with fail
      clear x0 x1 x2 x3 x4 x5 hlw
      refine (CC.out _ _ _ HQ3.out.2).mono ?_
      rintro e3 w4 ⟨I, c, gc, K, rfl, hO, hP, hK, hb⟩
      rw [HM.out] at hO hP ⊢
      have hright := HR.out K hK
      rw [HM.out] at hright
      have cP := putprog_yes I (some ⟨gc, 0, none⟩) M K c 3 (g % 3) w4 hP hright
      have cG := fun w => getput_any M K (g % 3) hright w
      have hfit := pgR_fits hright
      have hlen := Plain.progL_len M (K.map Cs.R) (g % 3) hfit
      have hop := Plain.progL_open M (K.map Cs.R) (g % 3) hfit
      unfold GotP at cG
      unfold pgV at cP ⊢
      rw [(codeK_ok K hK).1] at cP
      obtain ⟨bl, hbl⟩ : ∃ x, Plain.progL M (K.map Cs.R) (g % 3) = x := ⟨_, rfl⟩
      rw [hbl] at cP cG hlen hop
      obtain ⟨n, hn⟩ : ∃ x, M.length = x := ⟨_, rfl⟩
      rw [hn] at cP ⊢
      have HB4 := Lib.hid (below_then HQ3.out.2 hb)
      have CP := Lib.hid cP
      have CGT := Lib.hid cG
      have HLEN := Lib.hid hlen
      have HOP := Lib.hid hop
      clear hb hO hP hK hright cP cG hfit hbl hn hlen hop HQ3 CC HR
      go_wp2_with fail
      refine CP.out.mono ?_
      rintro e4 w5 ⟨rfl, hb⟩
      have HB5 := Lib.hid (below_then HB4.out hb)
      clear hb CP HB4
      obtain ⟨S, hS⟩ : ∃ x, str bl = x := ⟨_, rfl⟩
      have hSl : S.data.toList = bl := by rw [← hS]; exact str_list bl
      have hSz : S.size = bl.length := by rw [← hS, str_size]
      rw [hS] at CGT ⊢
      have hne : (S.toList == []) = false := by
        have : S.toList = bl := by rw [ByteArray.toList_eq, hSl]
        rw [this, beq_eq_false_iff_ne]
        intro h
        have := HLEN.out.1
        rw [h] at this
        simp at this
      have HS := Lib.hid (And.intro hS (And.intro hSl hSz))
      clear hS hSl hSz
      go_upto_region 17 with fail
      obtain ⟨W1, cap, hrun, hrow, hbel, hcap, hnew⟩ := conv_bytes10 w5 S
      rw [HS.out.2.1] at hrow
      obtain ⟨n2, hn2⟩ : ∃ x, bl.length = x := ⟨_, rfl⟩
      have hn16 : 16 ≤ n2 := by rw [← hn2]; exact HLEN.out.1
      have hn40 : n2 ≤ 40000 := by rw [← hn2]; exact HLEN.out.2
      obtain ⟨k, hk⟩ : ∃ k, ka % n2 = k := ⟨_, rfl⟩
      have hkn : k < n2 := by rw [← hk]; exact Nat.mod_lt _ (by omega)
      have hms : (ka : Int) % (n2 : Int) = (k : Int) := by rw [← hk]; simp
      have hmt : Int.tmod (ka : Int) (n2 : Int) = (k : Int) := by rw [Int.tmod_eq_emod_of_nonneg (by omega)]; exact hms
      obtain ⟨N, hN⟩ : ∃ x, w5.heap.size = x := ⟨_, rfl⟩
      rw [hN] at hrun hrow hbel hnew
      have hkl : k < bl.length := by rw [hn2]; exact hkn
      have l0 := hrow.1 k hkl
      have f0 := hrow.2 k hkl
      obtain ⟨B, hB⟩ : ∃ B : UInt8, B.toNat = kb := ⟨UInt8.ofNat kb, by rw [UInt8.toNat_ofNat']; omega⟩
      have hx : bits .xor .u8 (bl[k].toNat : Int) (kb : Int) = ((bl[k].toNat ^^^ kb : Nat) : Int) := u8_xor_nat _ _ (UInt8.toNat_lt _) (by rw [← hB]; exact UInt8.toNat_lt _)
      have hr2 := hrow.set k hkl (bl[k] ^^^ B)
      have c2 := hr2.conv n2 cap (by rw [List.length_set]; exact hn2.symm)
      rw [UInt8.toNat_xor, hB] at hr2 c2
      have HBE := Lib.hid (show Below W.heap.size W (W1.setCell ⟨N, k, none⟩ (.int .u8 ((bl[k].toNat ^^^ kb : Nat) : Int))) from below_then HB5.out (by rw [hN]; exact hbel.setCell (Nat.le_refl _) _))
      have hsn : S.size = n2 := HS.out.2.2.trans hn2
      rw [hsn] at hrun
      have hv : B ≠ 0 → bl[k] ^^^ B ≠ bl[k] := fun h e => h ((xor_same _ _).1 e)
      have ho : B ≠ 0 → Plain.openE (bl.set k (bl[k] ^^^ B)) 1 ≠ 0 := fun h => Plain.openE_turn bl k hkl _ (hv h) HOP.out
      have h0 : B = 0 → bl.set k (bl[k] ^^^ B) = bl := fun h => by rw [h, UInt8.xor_zero, List.set_getElem_self]
      have hl2 : (bl.set k (bl[k] ^^^ B)).length ≤ 1000000 := by rw [List.length_set]; omega
      obtain ⟨bl2, hbl2⟩ : ∃ x, bl.set k (bl[k] ^^^ B) = x := ⟨_, rfl⟩
      obtain ⟨xv, hxv⟩ : ∃ x, bl[k].toNat = x := ⟨_, rfl⟩
      have hxv256 : xv < 256 := by rw [← hxv]; exact UInt8.toNat_lt _
      have hxx : xv ^^^ kb < 256 := Nat.xor_lt_two_pow (n := 8) hxv256 hkb
      rw [hbl2] at c2 ho h0 hl2
      rw [hxv] at l0 hx c2 HBE
      have HO := Lib.hid ho
      have H0 := Lib.hid h0
      have HHB := Lib.hid hB
      have HL2 := Lib.hid hl2
      have HS2 := Lib.hid HS.out.1
      clear hrow hbel hnew hr2 hbl2 hxv hv ho h0 hB hl2 hn2 hk hN hcap HS hkl HOP HLEN
      go_upto_region 18 with fail
      go_upto_region 19 with fail
      obtain ⟨w6, hw6⟩ : ∃ x, W1.setCell ⟨N, k, none⟩ (.int .u8 ((xv ^^^ kb : Nat) : Int)) = x := ⟨_, rfl⟩
      rw [hw6] at c2 HBE ⊢
      clear hw6 l0 f0 hx hrun hxv256 hxx
      by_cases hk0 : kb = 0
      · have hB0 : B = 0 := UInt8.toNat_inj.1 (by rw [HHB.out, hk0]; rfl)
        rw [H0.out hB0, HS2.out] at c2
        subst hk0
        go_wp2_with fail
        refine (CGT.out _).mono ?_
        rintro e5 w7 ⟨I2, d2, C2, d3, K2, _, rfl, _, hb⟩
        have HB7 := Lib.hid (below_then HBE.out hb)
        clear hb
        unfold pgV
        go_wp2_with fail
        go_ret
        exact ⟨rfl, HB7.out.trans ((below_alloc (Below.refl w7.heap.size w7) _).mono HB7.out.size)⟩
      · have hB0 : B ≠ 0 := fun h => hk0 (by rw [← HHB.out, h]; rfl)
        have hge : getE bl2 ≠ 0 := by
          unfold getE
          rw [if_pos (HO.out hB0)]
          exact HO.out hB0
        have hkb0 : ((kb : Int) == 0) = false := by rw [beq_eq_false_iff_ne]; omega
        obtain ⟨ge, hgee⟩ : ∃ x, getE bl2 = x := ⟨_, rfl⟩
        have cE := fun w => geterr_any bl2 HL2.out ge hgee (by rw [← hgee]; exact hge) w
        have hge0 : (ge == 0) = false := by rw [beq_eq_false_iff_ne, ← hgee]; exact hge
        have CE := Lib.hid cE
        clear cE hgee hge hB0 hk0
        go_wp2_with fail
        refine (CE.out _).mono ?_
        rintro e5 w7 ⟨rfl, hb⟩
        have HB7 := Lib.hid (below_then HBE.out hb)
        clear hb
        unfold pg0
        go_wp2_with fail
        go_ret
        exact ⟨rfl, HB7.out.trans ((below_alloc (Below.refl w7.heap.size w7) _).mono HB7.out.size)⟩
end Go.Proofs.YtmiacgkidldjmaaGreatDoor
namespace Go.Proofs.YtmiacgkidldjmaaGreatDoor
open Go.ChangeShapes Go.WideShapes Go.RowKit Go.Lib Go.Deep Go.Maps
set_option maxRecDepth 100000 in
theorem seals_all {H : Type} {enc : TypeId × Value → H} {base : Nat} {v : Value} {d : DataW H} {p : List MemPlace} (s : ByteArray) (a1 a2 : Int) (W : World) (s0 : s.size ≤ 140737488355328) (hv : Value.okWide Tryz.prog W .any base 62 v) (h : DataW.Trod enc Tryz.prog W 0 (fun _ => true) true 62 v d p) (w1 : (Lit.int .u16 a1).wf = true) (w2 : (Lit.int .u8 a2).wf = true) :
    Calls Tryz.prog 10 #[.string s, v, .int .u16 a1, .int .u8 a2] W fun e w' => e = .returned (.bool true) ∧ Below W.heap.size W w' := by
  obtain ⟨PI, PL, pic, PC, PK, pcc, pg, own, LA, L, lc, g, rfl, hC⟩ := open_code_w hv h
  obtain ⟨k, rfl, hk⟩ := wf_u16 w1
  obtain ⟨b, rfl, hb⟩ := wf_u8 w2
  exact seals_w s PI PC LA PL PK pic pcc lc pg own L g k b hk hb W s0 hC
end Go.Proofs.YtmiacgkidldjmaaGreatDoor
