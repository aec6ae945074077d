/- Chapter 12: the law of the faults walked. Conditions: what each lemma says. -/
import Derived.Test.YtmiacgkidldjmaaGreatDoorWireJ
import Derived.Test.YtmiacgkidldjmaaGreatDoorCodeB
import Derived.Test.YtmiacgkidldjmaaGreatDoorSealF
import Derived.Test.YtmiacgkidldjmaaGreatDoorWP7
set_option linter.unusedVariables false
set_option linter.unusedSimpArgs false
namespace Go.Proofs.YtmiacgkidldjmaaGreatDoor
open Go.RowKit Go.Lib
open Plain (Rg May mayB In Norm In4)
theorem ext_str (l : List UInt8) (i j : Nat) : (str l).extract i j = str ((l.take j).drop i) := by
  have e : ((str l).extract i j).data.toList = (l.take j).drop i := by
    rw [ByteArray.data_extract, Array.toList_extract]
    simp only [str_list, List.extract_eq_take_drop]
    rw [List.drop_take]
  rw [← e]; unfold str; rfl
theorem ba_getF (T : ByteArray) (k : Nat) (h : k < T.size) (u : UInt8) (hu : T.data.toList[k]? = some u) : T[k] = u := by
  have h2 : k < T.data.toList.length := by simpa using h
  rw [List.getElem?_eq_getElem h2] at hu
  injection hu
theorem ba_sizeF (s : ByteArray) (l : List UInt8) (h : s.data.toList = l) : s.size = l.length := by rw [← h]; simp
theorem list_strF (s : ByteArray) : str s.data.toList = s := by unfold str; simp
theorem getE_bad (l : List UInt8) (e : Int) (he : e ≠ 0) (ho : Plain.openE l 1 = 0) (hb : Plain.badOf l = e) : getE l = e := by
  unfold getE
  rw [if_neg (by simp [ho])]
  have : ((Plain.gProg (Plain.rd0 l)).st.fin l.length).bad = e := hb
  rw [this]
  unfold endR
  rw [if_neg (fun h => he h.1)]
theorem getE_open (l : List UInt8) (e : Int) (he : e ≠ 0) (ho : Plain.openE l 1 = e) : getE l = e := by
  unfold getE
  rw [if_pos (by rw [ho]; exact he), ho]
/-- a program's blob, taken apart -/
structure BlobF (L : List In4) (KR : List (List Rg)) (g : Nat) (bl P R0 R1 Z : List UInt8) : Prop where
  bq : bl = P ++ Plain.sealed P
  len : bl.length = P.length + 4
  p : P = 87 :: 88 :: 80 :: (Plain.secL 1 (Plain.putL g) ++ R0)
  r0 : R0 = Plain.secL 2 (Plain.classesL KR) ++ R1
  r1 : R1 = Plain.secL 3 (Plain.instsL L) ++ Z
  z : Z.length ≤ 3
  four : P.length % 4 = 0
  small : R0.length ≤ 40000
  c2 : (Plain.classesL KR).length ≤ 65536
  i3 : (Plain.instsL L).length ≤ 65536
  tail : ∀ z : List UInt8, z.length = 4 → Plain.badOf (Plain.sealL (P ++ z)) = 8
  pad : 0 < Z.length → Plain.badOf (Plain.sealL (P.take (P.length - 1) ++ [1])) = 9
  opn : Plain.openE bl 1 = 0
theorem blob_facts (L : List In4) (KR : List (List Rg)) (g : Nat) (hg : g ≤ 2) (h : Plain.Fits L KR (g : Int)) : ∃ P R0 R1 Z, BlobF L KR g (Plain.progL L KR (g : Int)) P R0 R1 Z := by
  have hc := Plain.classes_len KR h.kn h.rn
  have hi := Plain.insts_len L h.ln h.tn
  have hs2 := Plain.secL_len 2 (Plain.classesL KR) (by omega)
  have hs3 := Plain.secL_len 3 (Plain.instsL L) (by omega)
  obtain ⟨B, hB⟩ : ∃ B, Plain.bodyL 80 1 (Plain.putL (g : Int).toNat) (Plain.classesL KR) (Plain.instsL L) = B := ⟨_, rfl⟩
  have hn := Plain.padN_lt B.length
  refine ⟨Plain.padL B, _, _, List.replicate (Plain.padN B.length) 0, ?_, ?_, ?_, rfl, rfl, ?_, Plain.padL_four B, ?_, by omega, by omega, ?_, ?_, Plain.progL_open L KR _ h⟩
  · unfold Plain.progL Plain.blobL; rw [hB]; rfl
  · unfold Plain.progL Plain.blobL; rw [hB]; unfold Plain.sealL; rw [List.length_append, Plain.sealed_len]
  · unfold Plain.padL; rw [← hB]; unfold Plain.bodyL
    simp [List.append_assoc]
  · rw [List.length_replicate]; omega
  · rw [List.length_append, List.length_append, List.length_replicate]; omega
  · intro z hz; rw [← hB]; exact Plain.fault_tail L KR _ h z hz
  · intro hz
    rw [List.length_replicate] at hz
    have hm : Plain.padN B.length = (Plain.padN B.length - 1) + 1 := by omega
    have e : (Plain.padL B).take ((Plain.padL B).length - 1) ++ [1] = B ++ (List.replicate (Plain.padN B.length - 1) 0 ++ [1]) := by
      unfold Plain.padL
      rw [List.length_append, List.length_replicate, List.take_append, List.take_of_length_le (by omega), List.take_replicate, List.append_assoc]
      congr 3
      omega
    rw [e]
    exact Plain.fault_pad L KR _ h B hB _ hm
end Go.Proofs.YtmiacgkidldjmaaGreatDoor
namespace Go.Proofs.YtmiacgkidldjmaaGreatDoor
open Go.RowKit Go.Lib
open Plain (Rg May mayB In Norm In4)
section
variable {L : List In4} {KR : List (List Rg)} {g : Nat} {bl P R0 R1 Z : List UInt8}
theorem BlobF.getTail (h : BlobF L KR g bl P R0 R1 Z) (hg : g ≤ 2) (z : List UInt8) (hz : z.length = 4) : getE (Plain.sealL (P ++ z)) = 8 := by
  refine getE_bad _ 8 (by decide) ?_ (h.tail z hz)
  have hs := h.small
  rw [h.p, List.cons_append, List.cons_append, List.cons_append]
  exact Plain.open_of _ (by simp only [List.length_append]; omega) (by
    have := Plain.secL_len 1 (Plain.putL g) (by rw [Plain.putL_small g (by omega)]; simp)
    rw [Plain.putL_small g (by omega), List.length_singleton] at this
    rw [Plain.putL_small g (by omega)]
    simp only [List.length_append]; omega)
theorem BlobF.getPad (h : BlobF L KR g bl P R0 R1 Z) (hg : g ≤ 2) (hz : 0 < Z.length) : getE (Plain.sealL (P.take (P.length - 1) ++ [1])) = 9 := by
  refine getE_bad _ 9 (by decide) ?_ (h.pad hz)
  have hs := h.small
  have h1 := Plain.secL_len 1 (Plain.putL g) (by rw [Plain.putL_small g (by omega)]; simp)
  have e0 := congrArg List.length h.r0
  have e1 := congrArg List.length h.r1
  rw [List.length_append] at e0 e1
  have hp := congrArg List.length h.p
  simp only [List.length_cons, List.length_append] at hp
  rw [Plain.putL_small g (by omega), List.length_singleton] at h1
  rw [Plain.putL_small g (by omega)] at hp
  obtain ⟨k, hk⟩ : ∃ k, P.length - 1 = k + 3 := ⟨P.length - 1 - 3, by omega⟩
  rw [hk, h.p, List.take_succ_cons, List.take_succ_cons, List.take_succ_cons, List.cons_append, List.cons_append, List.cons_append]
  exact Plain.open_of _ (by rw [List.length_append, List.length_take, List.length_append, List.length_singleton, Plain.putL_small g (by omega)]; omega) (by rw [List.length_append, List.length_take, List.length_append, List.length_singleton]; omega)
theorem BlobF.getLong (h : BlobF L KR g bl P R0 R1 Z) (b : UInt8) (hb : 128 ≤ b.toNat) (X : List UInt8) (hX : X = [87, 88, 80, 1, 2, b, 0] ++ R0) : getE (Plain.sealL X) = 5 := by
  have e : X = 87 :: 88 :: 80 :: (Plain.secL 1 [b, 0] ++ R0) := by rw [hX]; unfold Plain.secL Plain.textL; rw [show ([b, 0] : List UInt8).length = 2 from rfl, Plain.putL_small 2 (by decide)]; rfl
  rw [e]
  have hs := h.small
  have h1 := Plain.secL_len 1 [b, 0] (by simp)
  exact getE_bad _ 5 (by decide) (Plain.open_of _ (by rw [List.length_append]; simp at h1; omega) (by rw [List.length_append]; simp at h1; omega)) (Plain.fault_long b hb R0)
theorem BlobF.getOrder (h : BlobF L KR g bl P R0 R1 Z) (a : UInt8) (X : List UInt8) (hX : X = [87, 88, 80, 2, 1, a] ++ R0) : getE (Plain.sealL X) = 7 := by
  have e : X = 87 :: 88 :: 80 :: (Plain.secL 2 [a] ++ R0) := by rw [hX]; unfold Plain.secL Plain.textL; rw [List.length_singleton, Plain.putL_small 1 (by decide)]; rfl
  rw [e]
  have hs := h.small
  have h1 := Plain.secL_len 2 [a] (by simp)
  exact getE_bad _ 7 (by decide) (Plain.open_of _ (by rw [List.length_append]; simp at h1; omega) (by rw [List.length_append]; simp at h1; omega)) (Plain.fault_order [a] R0)
theorem BlobF.getBehind (h : BlobF L KR g bl P R0 R1 Z) (hg : g ≤ 2) (X : List UInt8) (hX : X = [87, 88, 80, 1, 2, UInt8.ofNat g, 0] ++ R0) : getE (Plain.sealL X) = 8 := by
  have e : X = 87 :: 88 :: 80 :: (Plain.secL 1 (Plain.putL g ++ [0]) ++ R0) := by rw [hX, Plain.putL_small g (by omega)]; unfold Plain.secL Plain.textL; rw [show ([UInt8.ofNat g] ++ [0] : List UInt8).length = 2 from rfl, Plain.putL_small 2 (by decide)]; rfl
  rw [e]
  have hs := h.small
  have h1 := Plain.secL_len 1 (Plain.putL g ++ [0]) (by rw [Plain.putL_small g (by omega)]; simp)
  rw [Plain.putL_small g (by omega)] at h1
  exact getE_bad _ 8 (by decide) (Plain.open_of _ (by rw [Plain.putL_small g (by omega), List.length_append]; simp at h1 ⊢; omega) (by rw [Plain.putL_small g (by omega), List.length_append]; simp at h1 ⊢; omega)) (Plain.fault_behind g hg R0)
theorem BlobF.getMagic (h : BlobF L KR g bl P R0 R1 Z) (hg : g ≤ 2) (X : List UInt8) (hX : X = [87, 88, 81] ++ P.drop 3) : getE (Plain.sealL X) = 6 := by
  have e : X = 87 :: 88 :: 81 :: (Plain.secL 1 (Plain.putL g) ++ R0) := by rw [hX, h.p]; rfl
  rw [e]
  have hs := h.small
  have h1 := Plain.secL_len 1 (Plain.putL g) (by rw [Plain.putL_small g (by omega)]; simp)
  rw [Plain.putL_small g (by omega)] at h1 ⊢
  exact getE_open _ 6 (by decide) (Plain.magic_of _ (by rw [List.length_append]; simp at h1; omega) (by rw [List.length_append]; simp at h1; omega))
theorem BlobF.getSum (h : BlobF L KR g bl P R0 R1 Z) (n : Nat) (hn : n + 1 = bl.length) (v : UInt8) (hv : v ≠ bl[n]) : getE (bl.take n ++ [v]) = 10 := by
  have e : bl.take n ++ [v] = bl.set n v := by
    rw [List.set_eq_take_append_cons_drop, if_pos (by omega), List.drop_eq_nil_of_le (by omega)]
  have hp := congrArg List.length h.p
  simp only [List.length_cons] at hp
  have hl := h.len
  rw [e]
  exact getE_open _ 10 (by decide) (Plain.openE_last bl n (by omega) (by omega) v hv h.opn)
end
theorem conv2 {w : World} (a b : Int) (h : ∀ x ∈ [a, b], 0 ≤ x ∧ x < 256) : (convert 35 9 (.slice (some ⟨w.heap.size, 0, none⟩) 2 2)).run Tryz.prog (w.alloc (.cells #[.int .u8 a, .int .u8 b] 5)) = .ok (.string (bstr [a, b])) (w.alloc (.cells #[.int .u8 a, .int .u8 b] 5)) := by
  rw [run_convert_bytes_string _ 35 9 5 _ 2 2 Tryz.underlying35 Tryz.underlying5 Tryz.underlying9]
  have h2 := run_loadCells_list (P := Tryz.prog) (w := w.alloc (.cells #[.int .u8 a, .int .u8 b] 5)) ⟨w.heap.size, 0, none⟩ (u8s [a, b]) (CellsAt_add (CellsAt.new w #[.int .u8 a, .int .u8 b] 5))
  exact run_bytesToString _ _ 2 2 [a, b] h2
end Go.Proofs.YtmiacgkidldjmaaGreatDoor
namespace Go.Proofs.YtmiacgkidldjmaaGreatDoor
open Go.ChangeShapes Go.WideShapes Go.RowKit Go.Lib Go.Deep Go.Maps
open Plain (Rg May mayB In Norm In4 slotsOf insB bnd riB cls cnot rightB normB goesL Rch cntA RInv small next_in getD_app getD_lt)
set_option maxRecDepth 1000000 in
set_option maxHeartbeats 8000000 in
theorem faults_w (PI PC LA : Option Addr) (PL : List In4) (PK : List Cs) (pic pcc lc : Nat) (pg : Int) (own : Bool) (L : List Int) (g : Int) (ka kb : Nat) (hka : ka < 256) (hkb : kb < 256) (W : World)
    (hC : CodeAt W PI PL PC PK pg LA L g) :
    Calls Tryz.prog 9 #[.agg #[.slice PI PL.length pic, .slice PC PK.length pcc, .int .i64 pg, .bool own, .slice LA L.length lc, .int .u8 g], .int .u8 (ka : Int), .int .u8 (kb : Int)] W fun e w' => e = .returned (.bool true) ∧ Below W.heap.size W w' := by
  have CX := Lib.hid (fun W => ex12_any W)
  have CC := Lib.hid (fun (pi pc : Nat) (w : World) (hb : Below W.heap.size W w) => code_own_w PI PC LA pi pic pc pcc lc pg g L w hC.g0 hC.g1 (hC.l.below hb) hC.ll hC.lb)
  have HR := Lib.hid (fun (K : List Cs) (hK : K.map Cs.R = [kA, kB, kN]) => code_right L g K hC.g0 hC.lb hK)
  have hg0 := hC.g0
  obtain ⟨gn, hgn⟩ : ∃ gn : Nat, g % 3 = (gn : Int) := ⟨(g % 3).toNat, by omega⟩
  have hgn2 : gn ≤ 2 := by omega
  obtain ⟨a1, ha1⟩ : ∃ x, PL.length = x := ⟨_, rfl⟩
  obtain ⟨a2, ha2⟩ : ∃ x, PK.length = x := ⟨_, rfl⟩
  obtain ⟨a3, ha3⟩ : ∃ x, L.length = x := ⟨_, rfl⟩
  obtain ⟨M, hM⟩ : ∃ x, codeLn L g = x := ⟨_, rfl⟩
  have HM := Lib.hid hM
  rw [ha3] at CC
  rw [ha1, ha2, ha3]
  have HG := Lib.hid hgn
  clear ha1 ha2 ha3 hC hM hg0 hgn
  go_enter Tryz.func9, Tryz.ntmps9
  go_wp2_with fail
  have hq := (SepB.nil W).new #[.slice PI a1 pic, .slice PC a2 pcc, .int .i64 pg, .bool own, .slice LA a3 lc, .int .u8 g] 62 (.cells #[.slice PI a1 pic, .slice PC a2 pcc, .int .i64 pg, .bool own, .slice LA a3 lc, .int .u8 g] 62)
  have HB0 := Lib.hid (below_alloc (Below.refl W.heap.size W) (.cells #[.slice PI a1 pic, .slice PC a2 pcc, .int .i64 pg, .bool own, .slice LA a3 lc, .int .u8 g] 62))
  have hX := heap_alloc_new2 W (.cells #[.slice PI a1 pic, .slice PC a2 pcc, .int .i64 pg, .bool own, .slice LA a3 lc, .int .u8 g] 62) W.heap.size _ rfl
  refine (CX.out _).mono ?_
  rintro e1 w1 ⟨rfl, hb⟩
  have hB1 := below_then HB0.out hb
  have hX1 := blk_later hX hb
  have hq1 := (hq.below hb).store 0 _ _ _ rfl 3 (.bool true)
  have HQ1 := Lib.hid hq1
  clear hb HB0 hX hq hq1
  have hlw := lt_of_some hX1
  have x0 := (cells_of hX1).at_ 0 _ rfl
  have x1 := (cells_of hX1).at_ 1 _ rfl
  have x2 := (cells_of hX1).at_ 2 _ rfl
  have x3 := (cells_of hX1).at_ 3 _ rfl
  have x4 := (cells_of hX1).at_ 4 _ rfl
  have x5 := (cells_of hX1).at_ 5 _ rfl
  have f3 := blk_frozen hX1 3
  have HX1 := Lib.hid hX1
  have HB1 := Lib.hid hB1
  clear hX1 hB1
  go_wp2_with fail
  clear x0 x1 x2 x3 x4 x5 f3 hlw HX1 HB1
  obtain ⟨w2, hw2⟩ : ∃ x, w1.setCell ⟨W.heap.size, 3, none⟩ (.bool true) = x := ⟨_, rfl⟩
  rw [hw2] at HQ1 ⊢
  clear hw2
  refine (CC.out _ _ _ HQ1.out.2).mono ?_
  rintro e2 w3 ⟨I, c, gc, K, rfl, hO, hP, hK, hb⟩
  have HW3 := Lib.hid (below_then HQ1.out.2 hb)
  have hright := HR.out K hK
  rw [HM.out, HG.out] at hright
  rw [HM.out] at hP
  rw [HM.out, HG.out]
  have hfit := pgR_fits hright
  obtain ⟨P, R0, R1, Z, hbf⟩ := blob_facts M (K.map Cs.R) gn hgn2 hfit
  have cP := putprog_yes I (some ⟨gc, 0, none⟩) M K c 3 (gn : Int) (w3.alloc (.cells #[.slice I M.length c, .slice (some ⟨gc, 0, none⟩) 3 3, .int .i64 (gn : Int)] 25)) (hP.below (below_alloc (Below.refl _ _) _)) hright
  have hlen := Plain.progL_len M (K.map Cs.R) (gn : Int) hfit
  unfold pgV at cP ⊢
  rw [(codeK_ok K hK).1] at cP
  obtain ⟨bl, hbl⟩ : ∃ x, Plain.progL M (K.map Cs.R) (gn : Int) = x := ⟨_, rfl⟩
  rw [hbl] at cP hlen hbf
  obtain ⟨n, hn⟩ : ∃ x, M.length = x := ⟨_, rfl⟩
  rw [hn] at cP ⊢
  have hx3 := heap_alloc_new2 w3 (.cells #[.slice I n c, .slice (some ⟨gc, 0, none⟩) 3 3, .int .i64 (gn : Int)] 25) w3.heap.size _ rfl
  have hw3 : Below w3.heap.size w3 (w3.alloc (.cells #[.slice I n c, .slice (some ⟨gc, 0, none⟩) 3 3, .int .i64 (gn : Int)] 25)) := below_alloc (Below.refl _ _) _
  obtain ⟨C2, hC2⟩ : ∃ x, Plain.classesL (K.map Cs.R) = x := ⟨_, rfl⟩
  have HBF := Lib.hid hbf
  have HLEN := Lib.hid hlen
  have CP := Lib.hid cP
  have HX3 := Lib.hid hx3
  have HWA := Lib.hid hw3
  clear hb hO hP hright cP hfit hbl hn hlen HQ1 CC HR hbf hx3 hw3 hC2
  go_wp2_with fail
  refine CP.out.mono ?_
  rintro e3 w4 ⟨rfl, hb⟩
  have hx4 := blk_later HX3.out hb
  obtain ⟨p0, p1, p2⟩ := blk_cells3 hx4
  have HB4 := Lib.hid (below_then (below_then HW3.out HWA.out) hb)
  clear hb CP HX3 HWA HW3 hx4
  have hwg : IntKind.u64.wrap (gn : Int) = (gn : Int) := by rw [IntKind.wrap_u64]; omega
  have cU := fun w => put_any gn w (by omega)
  rw [Plain.putL_small gn (by omega)] at cU
  have CU := Lib.hid cU
  clear cU
  go_wp2_with fail
  clear p0 p1 p2
  refine (CU.out _).mono ?_
  rintro e4 w5 ⟨rfl, hb⟩
  have HB5 := Lib.hid (below_then HB4.out hb)
  obtain ⟨Gs, hGs⟩ : ∃ x, (⟨[UInt8.ofNat gn].toArray⟩ : ByteArray) = x := ⟨_, rfl⟩
  have hgl : Gs.data.toList = [UInt8.ofNat gn] := by rw [← hGs]
  have hgz : Gs.size = 1 := by rw [← hGs]; rfl
  rw [hGs]
  have cT := fun w => textS_any Gs w (by rw [hgz]; decide)
  rw [hgz, hgl, Plain.putL_small 1 (by decide)] at cT
  obtain ⟨TX, hTX⟩ : ∃ x, str ([UInt8.ofNat 1] ++ [UInt8.ofNat gn]) = x := ⟨_, rfl⟩
  rw [hTX] at cT
  have hTz : TX.size = 2 := by rw [← hTX, str_size]; rfl
  have HTX := Lib.hid hTX
  have CT := Lib.hid cT
  have HGL := Lib.hid hgl
  clear hTX
  clear hb HB4 CU hwg cT hGs hgl
  go_wp2_with fail
  refine (CT.out _).mono ?_
  rintro e5 w6 ⟨rfl, hb⟩
  have HB6 := Lib.hid (below_then HB5.out hb)
  have g1 : ¬ (9223372036854775807 < (⟨#[1]⟩ : ByteArray).size + TX.size) := by show ¬ (9223372036854775807 < 1 + TX.size); omega
  have g2 : ¬ (9223372036854775807 < 1 + TX.size) := by omega
  clear hb HB5 CT
  go_upto_region 9 with fail
  obtain ⟨F, hF⟩ : ∃ x, (⟨#[1]⟩ : ByteArray) ++ TX = x := ⟨_, rfl⟩
  have hFl : F.data.toList = [1, 1, UInt8.ofNat gn] := by rw [← hF, toList_app, ← HTX.out, str_list]; rfl
  have hFz : F.size = 3 := by have : F.data.toList.length = 3 := by rw [hFl]; rfl
                              rw [← this]; simp
  rw [hF]
  have hpp := HBF.out.p
  rw [Plain.putL_small gn (by omega)] at hpp
  have hP6 : P = 87 :: 88 :: 80 :: 1 :: 1 :: UInt8.ofNat gn :: R0 := by
    rw [hpp]
    unfold Plain.secL Plain.textL
    rw [List.length_singleton, Plain.putL_small 1 (by decide)]
    rfl
  obtain ⟨q, hq⟩ : ∃ x, P.length = x := ⟨_, rfl⟩
  have hbq := HBF.out.bq
  obtain ⟨S, hS⟩ : ∃ x, str bl = x := ⟨_, rfl⟩
  have hSz : S.size = q + 4 := by rw [← hS, str_size, HBF.out.len, hq]
  have hPT : bl.take q = P := by rw [hbq, ← hq, List.take_left']; rfl
  have hxf : S.extract 3 6 = F := by
    rw [← hS, ext_str, hbq, hP6]
    rw [← list_strF F, hFl]
    rfl
  have hxr : S.extract 6 q = str R0 := by
    rw [← hS, ext_str, hPT, hP6]
    rfl
  have hq6 : q = R0.length + 6 := by rw [← hq, hP6]; simp only [List.length_cons]
  have hq4 := HBF.out.small
  rw [hS]
  have HS := Lib.hid hS
  have HP6 := Lib.hid hP6
  have HQ := Lib.hid hq
  have HPT := Lib.hid hPT
  have hn12 : 12 ≤ q + 4 := by have := HLEN.out.1; rw [HBF.out.len, hq] at this; omega
  have d1 : decide (((q : Int) + 4) < 12) = false := decide_eq_false (by omega)
  have d2 : decide ((q + 4) < 12) = false := decide_eq_false (by omega)
  have hi1 : (6 : Int) ≤ (q : Int) := by omega
  have hq40 : q ≤ 40006 := by omega
  have HQ6 := Lib.hid hq6
  obtain ⟨SR, hSR⟩ : ∃ x, str R0 = x := ⟨_, rfl⟩
  rw [hSR] at hxr
  have HSR := Lib.hid hSR
  have HSIZE := Lib.hid hSz
  clear hq6 hq4 g1 g2 hF hFl hpp hP6 hq hbq hS hPT hSR hn12 HLEN
  go_upto_region 12 with fail
  have hq7 := (SepB.nil w6).new #[.string SR, .int .i64 0] 87 (.cells #[.string SR, .int .i64 0] 87)
  go_wp2_with fail
  obtain ⟨w7, hw7⟩ : ∃ x, w6.alloc (.cells #[.string SR, .int .i64 0] 87) = x := ⟨_, rfl⟩
  rw [hw7] at hq7 ⊢
  obtain ⟨rb, hrb⟩ : ∃ x, w6.heap.size = x := ⟨_, rfl⟩
  rw [hrb] at hq7 ⊢
  have HQ7 := Lib.hid hq7
  obtain ⟨RR, hRR⟩ : ∃ RR : Nat → List UInt8, RR = fun j => if j = 0 then R0 else if j = 1 then R1 else Z := ⟨_, rfl⟩
  have hr0 : RR 0 = R0 := by rw [hRR]; rfl
  have hr2 : RR 2 = Z := by rw [hRR]; rfl
  have hrr : ∀ j, j < 2 → ∃ (tag : UInt8) (sj : List UInt8), sj.length ≤ 65536 ∧ RR j = tag :: (Plain.textL sj ++ RR (j + 1)) := by
    intro j hj
    rcases (show j = 0 ∨ j = 1 by omega) with rfl | rfl
    · exact ⟨_, _, HBF.out.c2, by rw [hRR]; exact HBF.out.r0⟩
    · exact ⟨_, _, HBF.out.i3, by rw [hRR]; exact HBF.out.r1⟩
  have hrl : ∀ j, j ≤ 2 → (RR j).length ≤ 40000 := by
    have h0 := HBF.out.small
    have e0 := congrArg List.length HBF.out.r0
    have e1 := congrArg List.length HBF.out.r1
    rw [List.length_append] at e0 e1
    intro j hj
    rcases (show j = 0 ∨ j = 1 ∨ j = 2 by omega) with rfl | rfl | rfl
    · rw [hRR]; show R0.length ≤ _; omega
    · rw [hRR]; show R1.length ≤ _; omega
    · rw [hRR]; show Z.length ≤ _; omega
  have HRR := Lib.hid (And.intro hr0 (And.intro hr2 (And.intro hrr hrl)))
  clear hw7 hrb hq7 hRR hr0 hr2 hrr hrl
  go_loopw [15] (fun i wr => ∃ j : Nat, j ≤ 2 ∧ i = .int .i64 j ∧ SepB w6 wr [boxT rb #[.string (str (RR j)), .int .i64 0] 87]) (fun i _ => 2 - (RowKit.intOf i).toNat)
  case atStart => exact ⟨0, by omega, rfl, by rw [HRR.out.1, HSR.out]; exact HQ7.out⟩
  clear HQ7
  case round =>
    obtain ⟨j, hj, rfl, hq⟩ := hrel
    have HQ8 := Lib.hid hq
    clear hq
    by_cases hj2 : j < 2
    · obtain ⟨tag, sj, hsj, hre⟩ := HRR.out.2.2.1 j hj2
      have hl1 := HRR.out.2.2.2 j hj
      have hq := HQ8.out
      rw [hre] at hq
      have hl2 : (Plain.textL sj ++ RR (j + 1)).length ≤ 40000 := by rw [hre, List.length_cons] at hl1; omega
      have cB := fun w => bytes_any ⟨tag :: (Plain.textL sj ++ RR (j + 1)), 0⟩ 1 w (by dsimp only; rw [hre] at hl1; omega)
      unfold bytesV rdOf at cB
      rw [show (Plain.Rd.mk (tag :: (Plain.textL sj ++ RR (j + 1))) 0).bytes 1 = ([tag], ⟨Plain.textL sj ++ RR (j + 1), 0⟩) from Plain.bytes_take [tag] _] at cB
      have cT := text_at (r := ⟨Plain.textL sj ++ RR (j + 1), 0⟩) (most := 65536) (s := sj) (q := ⟨RR (j + 1), 0⟩) (by unfold Plain.textL; rw [List.append_assoc]; exact Plain.text_put sj _ 65536 (by omega) hsj) (by dsimp only; omega) (by decide)
      dsimp only at cB cT
      have hcb := cells_of (hq.box 0 _ _ _ rfl).2
      have m0 := hcb.at_ 0 _ rfl
      have m1 := hcb.at_ 1 _ rfl
      have hlw := lt_of_some (hq.box 0 _ _ _ rfl).2
      have HQ9 := Lib.hid hq
      have CB := Lib.hid cB
      have CT := Lib.hid cT
      clear hcb hq cB cT hre hl1 hl2 hsj HQ8
      go_wp2_with fail
      clear m0 m1 hlw
      refine (CB.out _).mono ?_
      rintro e6 w8 ⟨rfl, hb⟩
      unfold rdV
      have hq := HQ9.out.below hb
      obtain ⟨⟨m0, m1⟩, f0, f1⟩ := (⟨⟨(cells_of (hq.box 0 _ _ _ rfl).2).at_ 0 _ rfl, (cells_of (hq.box 0 _ _ _ rfl).2).at_ 1 _ rfl⟩, blk_frozen (hq.box 0 _ _ _ rfl).2 0, blk_frozen (hq.box 0 _ _ _ rfl).2 1⟩ : (_ ∧ _) ∧ _ ∧ _)
      have hlw := lt_of_some (hq.box 0 _ _ _ rfl).2
      obtain ⟨X, hX⟩ : ∃ x, str (Plain.textL sj ++ RR (j + 1)) = x := ⟨_, rfl⟩
      have hqs : SepB w6 ((w8.setCell ⟨rb, 0, none⟩ (.string X)).setCell ⟨rb, 1, none⟩ (.int .i64 0)) [boxT rb #[.string X, .int .i64 0] 87] := (hq.store 0 _ _ _ rfl 0 (.string X)).store 0 _ _ _ rfl 1 (.int .i64 0)
      rw [hX] at CT ⊢
      have HQ10 := Lib.hid hqs
      clear hq hb hX hqs CB HQ9
      go_upto_region 17 with fail
      obtain ⟨w9, hw9⟩ : ∃ x, (w8.setCell ⟨rb, 0, none⟩ (.string X)).setCell ⟨rb, 1, none⟩ (.int .i64 0) = x := ⟨_, rfl⟩
      rw [hw9] at HQ10 ⊢
      clear hw9 m0 m1 f0 f1 hlw
      have hq := HQ10.out
      have m0 := (cells_of (hq.box 0 _ _ _ rfl).2).at_ 0 _ rfl
      have m1 := (cells_of (hq.box 0 _ _ _ rfl).2).at_ 1 _ rfl
      have hlw := lt_of_some (hq.box 0 _ _ _ rfl).2
      clear hq
      go_wp2_with fail
      clear m0 m1 hlw
      refine (CT.out _).mono ?_
      rintro e7 w10 ⟨rfl, hb⟩
      have hq := HQ10.out.below hb
      obtain ⟨⟨m0, m1⟩, f0, f1⟩ := (⟨⟨(cells_of (hq.box 0 _ _ _ rfl).2).at_ 0 _ rfl, (cells_of (hq.box 0 _ _ _ rfl).2).at_ 1 _ rfl⟩, blk_frozen (hq.box 0 _ _ _ rfl).2 0, blk_frozen (hq.box 0 _ _ _ rfl).2 1⟩ : (_ ∧ _) ∧ _ ∧ _)
      have hlw := lt_of_some (hq.box 0 _ _ _ rfl).2
      have hqs : SepB w6 ((w10.setCell ⟨rb, 0, none⟩ (.string (str (RR (j + 1))))).setCell ⟨rb, 1, none⟩ (.int .i64 0)) [boxT rb #[.string (str (RR (j + 1))), .int .i64 0] 87] := (hq.store 0 _ _ _ rfl 0 (.string (str (RR (j + 1))))).store 0 _ _ _ rfl 1 (.int .i64 0)
      have HQ11 := Lib.hid hqs
      clear hq hb hqs CT HQ10
      go_wp2_with fail
      go_roundw
      case rel => exact ⟨j + 1, by omega, by go_num, HQ11.out⟩
      case measure => simp [RowKit.intOf]; omega
    · obtain rfl : j = 2 := by omega
      have hq := HQ8.out
      rw [HRR.out.2.1] at hq
      have HQ9 := Lib.hid hq
      have hzl := HBF.out.z
      obtain ⟨SZ, hSZ⟩ : ∃ x, str Z = x := ⟨_, rfl⟩
      rw [hSZ] at hq
      have hSZz : SZ.size = Z.length := by rw [← hSZ, str_size]
      obtain ⟨h, hh⟩ : ∃ x, ka % 7 = x := ⟨_, rfl⟩
      have hh7 : h < 7 := by omega
      have hms : (ka : Int) % 7 = (h : Int) := by rw [← hh]; simp
      have hmt : Int.tmod (ka : Int) 7 = (h : Int) := by rw [Int.tmod_eq_emod_of_nonneg (by omega)]; exact hms
      have HQ12 := Lib.hid hq
      have HSZ := Lib.hid (And.intro hSZ hSZz)
      clear hq hSZ hSZz HRR HQ8 HQ9 hh
      go_upto_block 2 with fail
      have CS := Lib.hid (fun (X : ByteArray) (hX : X.size ≤ 140737488355328) w => seal_any X w hX)
      have CTX := Lib.hid (fun (X : ByteArray) (hX : X.size ≤ 1152921504606846976) w => textS_any X w hX)
      have HLS := Lib.hid (fun (X : ByteArray) (hX : X.size ≤ 900000) => (by
        have h1 := Plain.sealL_len X.data.toList
        have h2 := Plain.padN_lt X.data.toList.length
        have h3 : X.data.toList.length = X.size := by simp
        omega : (Plain.sealL X.data.toList).length ≤ 1000000))
      have hx0 : S.extract 0 q = str P := by rw [← HS.out, ext_str, HPT.out, List.drop_zero]
      have hx3 : S.extract 3 q = str (P.drop 3) := by rw [← HS.out, ext_str, HPT.out]
      have hx5 : S.extract 0 (q - 1) = str (P.take (P.length - 1)) := by rw [← HS.out, ext_str, List.drop_zero, ← HPT.out, List.take_take, List.length_take, HBF.out.len, HQ.out]; congr 2; omega
      obtain ⟨SP, hSP⟩ : ∃ x, str P = x := ⟨_, rfl⟩
      obtain ⟨SP3, hSP3⟩ : ∃ x, str (P.drop 3) = x := ⟨_, rfl⟩
      obtain ⟨SP5, hSP5⟩ : ∃ x, str (P.take (P.length - 1)) = x := ⟨_, rfl⟩
      have hSPz : SP.size = q := by rw [← hSP, str_size, HQ.out]
      have hSP3z : SP3.size = q - 3 := by rw [← hSP3, str_size, List.length_drop, HQ.out]
      have hSP5z : SP5.size = q - 1 := by rw [← hSP5, str_size, List.length_take, HQ.out]; omega
      have hSRz : SR.size = R0.length := by rw [← HSR.out, str_size]
      rw [hSP] at hx0
      rw [hSP3] at hx3
      rw [hSP5] at hx5
      have HSTR := Lib.hid (And.intro hSP (And.intro hSP3 hSP5))
      have HSRZ := Lib.hid hSRz
      clear hSP hSP3 hSP5 hSRz
      go_cut [16, 17] (fun a b wx => ∃ (t : List UInt8) (e : Int), a = .string (str t) ∧ b = .int .i64 e ∧ e ≠ 0 ∧ getE t = e ∧ t.length ≤ 1000000 ∧ SepB w6 wx [boxT rb #[.string SZ, .int .i64 0] 87])
      case first =>
        have hbx := (cells_of (HQ12.out.box 0 _ _ _ rfl).2).at_ 0 _ rfl
        rcases (show h = 0 ∨ h = 1 ∨ h = 2 ∨ h = 3 ∨ h = 4 ∨ h = 5 ∨ h = 6 by omega) with rfl | rfl | rfl | rfl | rfl | rfl | rfl
        · have hG0 : (Gs[0]'(by rw [hgz]; decide)).toNat = gn := by
              have h1 : Gs.data.toList[0]? = some (UInt8.ofNat gn) := by rw [HGL.out]; rfl
              rw [ba_getF Gs 0 (by rw [hgz]; decide) _ h1, UInt8.toNat_ofNat']; omega
          have hor : bits .or .u8 (gn : Int) 128 = ((gn ||| 128 : Nat) : Int) := u8_or_nat gn 128 (by omega) (by decide)
          have hob : gn ||| 128 < 256 := Nat.or_lt_two_pow (n := 8) (by omega) (by decide)
          have ho128 : 128 ≤ gn ||| 128 := Nat.right_le_or
          obtain ⟨gb, hgb⟩ : ∃ x, gn ||| 128 = x := ⟨_, rfl⟩
          rw [hgb] at hor hob ho128
          have hcv := conv2 (w := wr) (gb : Int) 0 (by intro x hx; simp only [List.mem_cons, List.not_mem_nil, or_false] at hx; rcases hx with rfl | rfl <;> omega)
          obtain ⟨LG, hLG⟩ : ∃ x, bstr [(gb : Int), 0] = x := ⟨_, rfl⟩
          have hLl : LG.data.toList = [UInt8.ofNat gb, 0] := by rw [← hLG, bstr_list]; rfl
          have hLz : LG.size = 2 := ba_sizeF LG _ hLl
          rw [hLG] at hcv
          have HLL := Lib.hid hLl
          clear hLG hLl hgb
          go_upto_region 29 with fail
          obtain ⟨wv, hwv⟩ : ∃ x, wr.alloc (.cells #[.int .u8 (gb : Int), .int .u8 0] 5) = x := ⟨_, rfl⟩
          have HQV := Lib.hid (show SepB w6 wv _ by rw [← hwv]; exact HQ12.out.alloc _)
          rw [hwv]
          clear hwv hcv hG0 hor
          have cT := CTX.out LG (by rw [hLz]; decide) wv
          rw [hLz, HLL.out, Plain.putL_small 2 (by decide)] at cT
          obtain ⟨TY, hTY⟩ : ∃ x, str ([UInt8.ofNat 2] ++ [UInt8.ofNat gb, 0]) = x := ⟨_, rfl⟩
          rw [hTY] at cT
          have hTYz : TY.size = 3 := by rw [← hTY, str_size]; rfl
          have HTY := Lib.hid hTY
          have HO := Lib.hid (And.intro ho128 hob)
          clear hTY ho128 hob
          go_wp2_with fail
          refine Calls.mono cT ?_
          rintro e7 w11 ⟨rfl, hb⟩
          have HQA := Lib.hid (HQV.out.below hb)
          clear hb cT
          have g1 : ¬ (9223372036854775807 < (⟨#[87, 88, 80, 1]⟩ : ByteArray).size + TY.size) := by show ¬ (9223372036854775807 < 4 + TY.size); omega
          have g2 : ¬ (9223372036854775807 < 4 + TY.size) := by omega
          have g3 : ¬ (9223372036854775807 < 4 + TY.size + SR.size) := by have := HSRZ.out; have := HBF.out.small; omega
          have g4 : ¬ (9223372036854775807 < 4 + 3 + SR.size) := by have := HSRZ.out; have := HBF.out.small; omega
          have g5 : ¬ (9223372036854775807 < 7 + SR.size) := by have := HSRZ.out; have := HBF.out.small; omega
          go_wp2_with fail
          have hl : ((⟨#[87, 88, 80, 1]⟩ ++ TY) ++ SR).data.toList = [87, 88, 80, 1, 2, UInt8.ofNat gb, 0] ++ R0 := by rw [toList_app, toList_app, ← HTY.out, ← HSR.out, str_list, str_list]; rfl
          have hge : getE (Plain.sealL ([87, 88, 80, 1, 2, UInt8.ofNat gb, 0] ++ R0)) = 5 := HBF.out.getLong (UInt8.ofNat gb) (by rw [UInt8.toNat_ofNat']; have := HO.out.1; have := HO.out.2; omega) _ rfl
          have hsz : ([87, 88, 80, 1, 2, UInt8.ofNat gb, 0] ++ R0).length ≤ 50000 := by rw [List.length_append]; have := HBF.out.small; simp only [List.length_cons, List.length_nil]; omega
          have hlt := Plain.sealL_len ([87, 88, 80, 1, 2, UInt8.ofNat gb, 0] ++ R0)
          have hpn := Plain.padN_lt ([87, 88, 80, 1, 2, UInt8.ofNat gb, 0] ++ R0).length
          have cc := seal_lit ((⟨#[87, 88, 80, 1]⟩ ++ TY) ++ SR) _ hl (by omega) w11
          obtain ⟨t, ht⟩ : ∃ x, Plain.sealL ([87, 88, 80, 1, 2, UInt8.ofNat gb, 0] ++ R0) = x := ⟨_, rfl⟩
          rw [ht] at cc hge hlt
          have hlt2 : t.length ≤ 1000000 := by omega
          obtain ⟨st, hst⟩ : ∃ x, str t = x := ⟨_, rfl⟩
          rw [hst] at cc
          have HST := Lib.hid (And.intro hst (And.intro hge hlt2))
          clear hl hge hsz hlt hpn ht hlt2 hst
          refine Calls.mono cc ?_
          rintro e8 w12 ⟨rfl, hb⟩
          have HQ13 := Lib.hid (HQA.out.below hb)
          clear hb cc
          clear g1 g2 g3 g4 g5
          go_wp2_with fail
          go_meet
          case rel => exact ⟨t, 5, by rw [HST.out.1], rfl, by decide, HST.out.2.1, HST.out.2.2, HQ13.out⟩
        · have cT := CTX.out Gs (by rw [hgz]; decide) wr
          rw [hgz, HGL.out, Plain.putL_small 1 (by decide), HTX.out] at cT
          go_wp2_with fail
          refine Calls.mono cT ?_
          rintro e7 w11 ⟨rfl, hb⟩
          have HQA := Lib.hid (HQ12.out.below hb)
          clear hb cT
          have g1 : ¬ (9223372036854775807 < (⟨#[87, 88, 80, 2]⟩ : ByteArray).size + TX.size) := by show ¬ (9223372036854775807 < 4 + TX.size); omega
          have g2 : ¬ (9223372036854775807 < 4 + TX.size) := by omega
          have g3 : ¬ (9223372036854775807 < 4 + TX.size + SR.size) := by have := HSRZ.out; have := HBF.out.small; omega
          have g4 : ¬ (9223372036854775807 < 4 + 2 + SR.size) := by have := HSRZ.out; have := HBF.out.small; omega
          have g5 : ¬ (9223372036854775807 < 6 + SR.size) := by have := HSRZ.out; have := HBF.out.small; omega
          go_wp2_with fail
          have hl : ((⟨#[87, 88, 80, 2]⟩ ++ TX) ++ SR).data.toList = [87, 88, 80, 2, 1, UInt8.ofNat gn] ++ R0 := by rw [toList_app, toList_app, ← HTX.out, ← HSR.out, str_list, str_list]; rfl
          have hge : getE (Plain.sealL ([87, 88, 80, 2, 1, UInt8.ofNat gn] ++ R0)) = 7 := HBF.out.getOrder (UInt8.ofNat gn) _ rfl
          have hsz : ([87, 88, 80, 2, 1, UInt8.ofNat gn] ++ R0).length ≤ 50000 := by rw [List.length_append]; have := HBF.out.small; simp only [List.length_cons, List.length_nil]; omega
          have hlt := Plain.sealL_len ([87, 88, 80, 2, 1, UInt8.ofNat gn] ++ R0)
          have hpn := Plain.padN_lt ([87, 88, 80, 2, 1, UInt8.ofNat gn] ++ R0).length
          have cc := seal_lit ((⟨#[87, 88, 80, 2]⟩ ++ TX) ++ SR) _ hl (by omega) w11
          obtain ⟨t, ht⟩ : ∃ x, Plain.sealL ([87, 88, 80, 2, 1, UInt8.ofNat gn] ++ R0) = x := ⟨_, rfl⟩
          rw [ht] at cc hge hlt
          have hlt2 : t.length ≤ 1000000 := by omega
          obtain ⟨st, hst⟩ : ∃ x, str t = x := ⟨_, rfl⟩
          rw [hst] at cc
          have HST := Lib.hid (And.intro hst (And.intro hge hlt2))
          clear hl hge hsz hlt hpn ht hlt2 hst
          refine Calls.mono cc ?_
          rintro e8 w12 ⟨rfl, hb⟩
          have HQ13 := Lib.hid (HQA.out.below hb)
          clear hb cc
          clear g1 g2 g3 g4 g5
          go_wp2_with fail
          go_meet
          case rel => exact ⟨t, 7, by rw [HST.out.1], rfl, by decide, HST.out.2.1, HST.out.2.2, HQ13.out⟩
        · have hX2 : (Gs ++ ⟨#[0]⟩ : ByteArray).data.toList = [UInt8.ofNat gn, 0] := by rw [toList_app, HGL.out]; rfl
          have hX2z : (Gs ++ ⟨#[0]⟩ : ByteArray).size = 2 := by rw [ByteArray.size_append, hgz]; rfl
          have cT := CTX.out (Gs ++ ⟨#[0]⟩) (by rw [hX2z]; decide) wr
          rw [hX2z, hX2, Plain.putL_small 2 (by decide)] at cT
          obtain ⟨TY, hTY⟩ : ∃ x, str ([UInt8.ofNat 2] ++ [UInt8.ofNat gn, 0]) = x := ⟨_, rfl⟩
          rw [hTY] at cT
          have hTYz : TY.size = 3 := by rw [← hTY, str_size]; rfl
          have HTY := Lib.hid hTY
          clear hX2 hX2z hTY
          have g1 : ¬ (9223372036854775807 < Gs.size + (⟨#[0]⟩ : ByteArray).size) := by show ¬ (9223372036854775807 < Gs.size + 1); omega
          have g2 : ¬ (9223372036854775807 < Gs.size + 1) := by omega
          have g3 : ¬ (9223372036854775807 < (1 : Nat) + 1) := by omega
          go_wp2_with fail
          clear g1 g2 g3
          refine Calls.mono cT ?_
          rintro e7 w11 ⟨rfl, hb⟩
          have HQA := Lib.hid (HQ12.out.below hb)
          clear hb cT
          have g1 : ¬ (9223372036854775807 < (⟨#[87, 88, 80, 1]⟩ : ByteArray).size + TY.size) := by show ¬ (9223372036854775807 < 4 + TY.size); omega
          have g2 : ¬ (9223372036854775807 < 4 + TY.size) := by omega
          have g3 : ¬ (9223372036854775807 < 4 + TY.size + SR.size) := by have := HSRZ.out; have := HBF.out.small; omega
          have g4 : ¬ (9223372036854775807 < 4 + 3 + SR.size) := by have := HSRZ.out; have := HBF.out.small; omega
          have g5 : ¬ (9223372036854775807 < 7 + SR.size) := by have := HSRZ.out; have := HBF.out.small; omega
          go_wp2_with fail
          have hl : ((⟨#[87, 88, 80, 1]⟩ ++ TY) ++ SR).data.toList = [87, 88, 80, 1, 2, UInt8.ofNat gn, 0] ++ R0 := by rw [toList_app, toList_app, ← HTY.out, ← HSR.out, str_list, str_list]; rfl
          have hge : getE (Plain.sealL ([87, 88, 80, 1, 2, UInt8.ofNat gn, 0] ++ R0)) = 8 := HBF.out.getBehind hgn2 _ rfl
          have hsz : ([87, 88, 80, 1, 2, UInt8.ofNat gn, 0] ++ R0).length ≤ 50000 := by rw [List.length_append]; have := HBF.out.small; simp only [List.length_cons, List.length_nil]; omega
          have hlt := Plain.sealL_len ([87, 88, 80, 1, 2, UInt8.ofNat gn, 0] ++ R0)
          have hpn := Plain.padN_lt ([87, 88, 80, 1, 2, UInt8.ofNat gn, 0] ++ R0).length
          have cc := seal_lit ((⟨#[87, 88, 80, 1]⟩ ++ TY) ++ SR) _ hl (by omega) w11
          obtain ⟨t, ht⟩ : ∃ x, Plain.sealL ([87, 88, 80, 1, 2, UInt8.ofNat gn, 0] ++ R0) = x := ⟨_, rfl⟩
          rw [ht] at cc hge hlt
          have hlt2 : t.length ≤ 1000000 := by omega
          obtain ⟨st, hst⟩ : ∃ x, str t = x := ⟨_, rfl⟩
          rw [hst] at cc
          have HST := Lib.hid (And.intro hst (And.intro hge hlt2))
          clear hl hge hsz hlt hpn ht hlt2 hst
          refine Calls.mono cc ?_
          rintro e8 w12 ⟨rfl, hb⟩
          have HQ13 := Lib.hid (HQA.out.below hb)
          clear hb cc
          clear g1 g2 g3 g4 g5
          go_wp2_with fail
          go_meet
          case rel => exact ⟨t, 8, by rw [HST.out.1], rfl, by decide, HST.out.2.1, HST.out.2.2, HQ13.out⟩
        · have g1 : ¬ (9223372036854775807 < SP.size + (⟨#[0, 0, 0, 0]⟩ : ByteArray).size) := by show ¬ (9223372036854775807 < SP.size + 4); omega
          have g2 : ¬ (9223372036854775807 < SP.size + 4) := by omega
          have g3 : ¬ (9223372036854775807 < q + 4) := by omega
          go_wp2_with fail
          have hl : (SP ++ ⟨#[0, 0, 0, 0]⟩).data.toList = P ++ [0, 0, 0, 0] := by rw [toList_app, ← HSTR.out.1, str_list]
          have hge : getE (Plain.sealL (P ++ [0, 0, 0, 0])) = 8 := HBF.out.getTail hgn2 _ rfl
          have hsz : (P ++ [0, 0, 0, 0]).length ≤ 50000 := by rw [List.length_append, HQ.out]; simp only [List.length_cons, List.length_nil]; omega
          have hlt := Plain.sealL_len (P ++ [0, 0, 0, 0])
          have hpn := Plain.padN_lt (P ++ [0, 0, 0, 0]).length
          have cc := seal_lit (SP ++ ⟨#[0, 0, 0, 0]⟩) _ hl (by omega) wr
          obtain ⟨t, ht⟩ : ∃ x, Plain.sealL (P ++ [0, 0, 0, 0]) = x := ⟨_, rfl⟩
          rw [ht] at cc hge hlt
          have hlt2 : t.length ≤ 1000000 := by omega
          obtain ⟨st, hst⟩ : ∃ x, str t = x := ⟨_, rfl⟩
          rw [hst] at cc
          have HST := Lib.hid (And.intro hst (And.intro hge hlt2))
          clear hl hge hsz hlt hpn ht hlt2 hst
          refine Calls.mono cc ?_
          rintro e8 w12 ⟨rfl, hb⟩
          have HQ13 := Lib.hid (HQ12.out.below hb)
          clear hb cc
          clear g1 g2 g3
          go_wp2_with fail
          go_meet
          case rel => exact ⟨t, 8, by rw [HST.out.1], rfl, by decide, HST.out.2.1, HST.out.2.2, HQ13.out⟩
        · have hi3 : (3 : Int) ≤ (q : Int) := by omega
          have g1 : ¬ (9223372036854775807 < (⟨#[87, 88, 81]⟩ : ByteArray).size + SP3.size) := by show ¬ (9223372036854775807 < 3 + SP3.size); omega
          have g2 : ¬ (9223372036854775807 < 3 + SP3.size) := by omega
          have g3 : ¬ (9223372036854775807 < 3 + (q - 3)) := by omega
          go_wp2_with fail
          have hl : (⟨#[87, 88, 81]⟩ ++ SP3).data.toList = [87, 88, 81] ++ P.drop 3 := by rw [toList_app, ← HSTR.out.2.1, str_list]
          have hge : getE (Plain.sealL ([87, 88, 81] ++ P.drop 3)) = 6 := HBF.out.getMagic hgn2 _ rfl
          have hsz : ([87, 88, 81] ++ P.drop 3).length ≤ 50000 := by rw [List.length_append, List.length_drop, HQ.out]; simp only [List.length_cons, List.length_nil]; omega
          have hlt := Plain.sealL_len ([87, 88, 81] ++ P.drop 3)
          have hpn := Plain.padN_lt ([87, 88, 81] ++ P.drop 3).length
          have cc := seal_lit (⟨#[87, 88, 81]⟩ ++ SP3) _ hl (by omega) wr
          obtain ⟨t, ht⟩ : ∃ x, Plain.sealL ([87, 88, 81] ++ P.drop 3) = x := ⟨_, rfl⟩
          rw [ht] at cc hge hlt
          have hlt2 : t.length ≤ 1000000 := by omega
          obtain ⟨st, hst⟩ : ∃ x, str t = x := ⟨_, rfl⟩
          rw [hst] at cc
          have HST := Lib.hid (And.intro hst (And.intro hge hlt2))
          clear hl hge hsz hlt hpn ht hlt2 hst
          refine Calls.mono cc ?_
          rintro e8 w12 ⟨rfl, hb⟩
          have HQ13 := Lib.hid (HQ12.out.below hb)
          clear hb cc
          clear g1 g2 g3
          go_wp2_with fail
          go_meet
          case rel => exact ⟨t, 6, by rw [HST.out.1], rfl, by decide, HST.out.2.1, HST.out.2.2, HQ13.out⟩
        · obtain ⟨n3, hn3⟩ : ∃ n3, q + 3 = n3 := ⟨_, rfl⟩
          have hq1 : (q : Int) + 4 - 1 = (n3 : Int) := by omega
          have hqw : IntKind.i64.wrap ((q : Int) + 4 - 1) = (n3 : Int) := by rw [IntKind.wrap_i64]; omega
          have hq2 : (n3 : Int) ≤ (q : Int) + 4 := by omega
          have hq3 : (n3 : Int) < (q : Int) + 4 := by omega
          have hqn : n3 + 1 = bl.length := by rw [HBF.out.len, HQ.out]; omega
          have hqb : n3 < bl.length := by omega
          have hx1 : S.extract 0 (n3) = str (bl.take (n3)) := by rw [← HS.out, ext_str, List.drop_zero]
          have hSlt : n3 < S.size := by omega
          have hS0 : (S[n3]'hSlt) = bl[n3] := ba_getF S (n3) hSlt _ (by rw [← HS.out, str_list]; exact List.getElem?_eq_getElem hqb)
          obtain ⟨lv, hlv⟩ : ∃ x, bl[n3].toNat = x := ⟨_, rfl⟩
          have hS1 : (S[n3]'hSlt).toNat = lv := by rw [hS0, hlv]
          have hlv2 : lv < 256 := by rw [← hlv]; exact UInt8.toNat_lt _
          obtain ⟨m, hm⟩ : ∃ m, kb % 255 = m := ⟨_, rfl⟩
          have hm1 : m < 255 := by omega
          have hk1 : (kb : Int) % 255 = (m : Int) := by omega
          have hk2 : Int.tmod (kb : Int) 255 = (m : Int) := by rw [Int.tmod_eq_emod_of_nonneg (by omega)]; exact hk1
          have hkw : IntKind.u8.wrap (1 + (m : Int)) = (m : Int) + 1 := by rw [IntKind.wrap_u8]; omega
          have hxr2 : bits .xor .u8 (lv : Int) ((m : Int) + 1) = ((lv ^^^ (m + 1) : Nat) : Int) := u8_xor_nat lv (m + 1) hlv2 (by omega)
          have hxo : lv ^^^ (m + 1) < 256 := Nat.xor_lt_two_pow (n := 8) hlv2 (by omega)
          have hne : UInt8.ofNat (lv ^^^ (m + 1)) ≠ bl[n3] := by
            intro h
            have h1 := congrArg UInt8.toNat h
            rw [hlv, UInt8.toNat_ofNat', Nat.mod_eq_of_lt hxo] at h1
            have h2 : lv ^^^ (lv ^^^ (m + 1)) = lv ^^^ lv := by rw [h1]
            rw [← Nat.xor_assoc, Nat.xor_self, Nat.zero_xor] at h2
            omega
          have hge := HBF.out.getSum (n3) hqn _ hne
          obtain ⟨xv, hxv⟩ : ∃ x, lv ^^^ (m + 1) = x := ⟨_, rfl⟩
          rw [hxv] at hxr2 hxo hge
          have hcv := convB (w := (wr.alloc (.cells #[.int .u8 (xv : Int)] 5)).drew) (g := wr.heap.size) (xv : Int) (by omega) (heap_alloc_new2 _ _ _ _ rfl)
          obtain ⟨SL, hSL⟩ : ∃ x, str (bl.take (n3)) = x := ⟨_, rfl⟩
          rw [hSL] at hx1
          have hSLz : SL.size = n3 := by rw [← hSL, str_size, List.length_take]; omega
          obtain ⟨LB, hLB⟩ : ∃ x, bstr [(xv : Int)] = x := ⟨_, rfl⟩
          have hLBl : LB.data.toList = [UInt8.ofNat xv] := by rw [← hLB, bstr_list]; rfl
          have hLBz : LB.size = 1 := ba_sizeF LB _ hLBl
          rw [hLB] at hcv
          have hfin : SL ++ LB = str (bl.take (n3) ++ [UInt8.ofNat xv]) := by
            rw [← list_strF (SL ++ LB), toList_app, hLBl, ← hSL, str_list]
          obtain ⟨t, ht⟩ : ∃ x, bl.take (n3) ++ [UInt8.ofNat xv] = x := ⟨_, rfl⟩
          have hlt : t.length ≤ 1000000 := by rw [← ht, List.length_append, List.length_take]; simp only [List.length_cons, List.length_nil]; omega
          rw [ht] at hge hfin
          have HST := Lib.hid (And.intro hfin (And.intro hge hlt))
          have g1 : ¬ (9223372036854775807 < SL.size + LB.size) := by omega
          have g2 : ¬ (9223372036854775807 < n3 + 1) := by omega
          clear hn3 hqn hqb hS0 hlv hm hne hge hxv hSL hLB hLBl hfin ht hlt
          go_upto_region 43 with fail
          go_region
          have HQX := Lib.hid (HQ12.out.alloc (.cells #[.int .u8 (xv : Int)] 5)).drew
          go_wp2_with fail
          go_meet
          case rel => exact ⟨t, 10, by rw [HST.out.1], rfl, by decide, HST.out.2.1, HST.out.2.2, HQX.out⟩
        · have g1 : ¬ (9223372036854775807 < SP.size + (⟨#[1, 0, 0, 0]⟩ : ByteArray).size) := by show ¬ (9223372036854775807 < SP.size + 4); omega
          have g2 : ¬ (9223372036854775807 < SP.size + 4) := by omega
          have g3 : ¬ (9223372036854775807 < q + 4) := by omega
          go_wp2_with fail
          have hl : (SP ++ ⟨#[1, 0, 0, 0]⟩).data.toList = P ++ [1, 0, 0, 0] := by rw [toList_app, ← HSTR.out.1, str_list]
          have hge : getE (Plain.sealL (P ++ [1, 0, 0, 0])) = 8 := HBF.out.getTail hgn2 _ rfl
          have hsz : (P ++ [1, 0, 0, 0]).length ≤ 50000 := by rw [List.length_append, HQ.out]; simp only [List.length_cons, List.length_nil]; omega
          have hlt := Plain.sealL_len (P ++ [1, 0, 0, 0])
          have hpn := Plain.padN_lt (P ++ [1, 0, 0, 0]).length
          have cc := seal_lit (SP ++ ⟨#[1, 0, 0, 0]⟩) _ hl (by omega) wr
          obtain ⟨t, ht⟩ : ∃ x, Plain.sealL (P ++ [1, 0, 0, 0]) = x := ⟨_, rfl⟩
          rw [ht] at cc hge hlt
          have hlt2 : t.length ≤ 1000000 := by omega
          obtain ⟨st, hst⟩ : ∃ x, str t = x := ⟨_, rfl⟩
          rw [hst] at cc
          have HST := Lib.hid (And.intro hst (And.intro hge hlt2))
          clear hl hge hsz hlt hpn ht hlt2 hst
          refine Calls.mono cc ?_
          rintro e8 w12 ⟨rfl, hb⟩
          have HQ13 := Lib.hid (HQ12.out.below hb)
          clear hb cc
          clear g1 g2 g3
          have hbx2 := (cells_of (HQ13.out.box 0 _ _ _ rfl).2).at_ 0 _ rfl
          by_cases hz : 0 < SZ.size
          · have hq1 : (q : Int) + 4 - 5 = ((q - 1 : Nat) : Int) := by omega
            have hq2 : ((q - 1 : Nat) : Int) ≤ (q : Int) + 4 := by omega
            have HZ := Lib.hid hz
            have g1 : ¬ (9223372036854775807 < SP5.size + (⟨#[1]⟩ : ByteArray).size) := by show ¬ (9223372036854775807 < SP5.size + 1); omega
            have g2 : ¬ (9223372036854775807 < SP5.size + 1) := by omega
            have g3 : ¬ (9223372036854775807 < q - 1 + 1) := by omega
            have g4 : ¬ (9223372036854775807 < q) := by omega
            go_wp2_with fail
            have hl : (SP5 ++ ⟨#[1]⟩).data.toList = P.take (P.length - 1) ++ [1] := by rw [toList_app, ← HSTR.out.2.2, str_list]
            have hge : getE (Plain.sealL (P.take (P.length - 1) ++ [1])) = 9 := HBF.out.getPad hgn2 (by rw [← HSZ.out.2]; exact HZ.out)
            have hsz : (P.take (P.length - 1) ++ [1]).length ≤ 50000 := by rw [List.length_append, List.length_take, HQ.out]; simp only [List.length_cons, List.length_nil]; omega
            have hlt := Plain.sealL_len (P.take (P.length - 1) ++ [1])
            have hpn := Plain.padN_lt (P.take (P.length - 1) ++ [1]).length
            have cc := seal_lit (SP5 ++ ⟨#[1]⟩) _ hl (by omega) w12
            obtain ⟨t2, ht⟩ : ∃ x, Plain.sealL (P.take (P.length - 1) ++ [1]) = x := ⟨_, rfl⟩
            rw [ht] at cc hge hlt
            have hlt2 : t2.length ≤ 1000000 := by omega
            obtain ⟨su, hst⟩ : ∃ x, str t2 = x := ⟨_, rfl⟩
            rw [hst] at cc
            have HSU := Lib.hid (And.intro hst (And.intro hge hlt2))
            clear hl hge hsz hlt hpn ht hlt2 hst
            refine Calls.mono cc ?_
            rintro e8 w13 ⟨rfl, hb⟩
            have HQ14 := Lib.hid (HQ13.out.below hb)
            clear hb cc
            clear g1 g2 g3 g4
            go_wp2_with fail
            go_meet
            case rel => exact ⟨t2, 9, by rw [HSU.out.1], rfl, by decide, HSU.out.2.1, HSU.out.2.2, HQ14.out⟩
          · have hz0 : SZ.size = 0 := by omega
            go_wp2_with fail
            go_meet
            case rel => exact ⟨t, 8, by rw [HST.out.1], rfl, by decide, HST.out.2.1, HST.out.2.2, HQ13.out⟩
      obtain ⟨t, e, rfl, rfl, he, hge, hlt, hq⟩ := hcut
      have cE := geterr_any t hlt e hge he wc
      obtain ⟨st, hst⟩ : ∃ x, str t = x := ⟨_, rfl⟩
      rw [hst] at cE ⊢
      have HQ13 := Lib.hid hq
      have HE := Lib.hid he
      have hz4 : decide (SZ.size < 4) = true := decide_eq_true (by rw [HSZ.out.2]; omega)
      have hz3 : SZ.size ≤ 3 := by rw [HSZ.out.2]; omega
      have hz3i : (SZ.size : Int) < 4 := by omega
      clear hq hge hlt hst he
      go_wp2_with fail
      refine Calls.mono cE ?_
      rintro e9 w14 ⟨rfl, hb⟩
      have hbx := (cells_of (blk_later (HQ13.out.box 0 _ _ _ rfl).2 hb)).at_ 0 _ rfl
      have hla := lt_of_some (blk_later (HQ13.out.box 0 _ _ _ rfl).2 hb)
      have HB14 := Lib.hid (below_then HQ13.out.2 hb)
      clear hb cE
      unfold pg0
      go_wp2_with fail
      go_ret
      exact ⟨rfl, below_then HB6.out (HB14.out.trans ((below_alloc (Below.refl w14.heap.size w14) _).mono HB14.out.size))⟩
end Go.Proofs.YtmiacgkidldjmaaGreatDoor
namespace Go.Proofs.YtmiacgkidldjmaaGreatDoor
open Go.ChangeShapes Go.WideShapes Go.RowKit Go.Lib Go.Deep Go.Maps
set_option maxRecDepth 100000 in
theorem faults_all {H : Type} {enc : TypeId × Value → H} {base : Nat} {v : Value} {d : DataW H} {p : List MemPlace} (a1 a2 : Int) (W : World) (hv : Value.okWide Tryz.prog W .any base 62 v) (h : DataW.Trod enc Tryz.prog W 0 (fun _ => true) true 62 v d p) (w1 : (Lit.int .u8 a1).wf = true) (w2 : (Lit.int .u8 a2).wf = true) :
    Calls Tryz.prog 9 #[v, .int .u8 a1, .int .u8 a2] W fun e w' => e = .returned (.bool true) ∧ Below W.heap.size W w' := by
  obtain ⟨PI, PL, pic, PC, PK, pcc, pg, own, LA, L, lc, g, rfl, hC⟩ := open_code_w hv h
  obtain ⟨k, rfl, hk⟩ := wf_u8 w1
  obtain ⟨b, rfl, hb⟩ := wf_u8 w2
  exact faults_w PI PC LA PL PK pic pcc lc pg own L g k b hk hb W hC
end Go.Proofs.YtmiacgkidldjmaaGreatDoor
