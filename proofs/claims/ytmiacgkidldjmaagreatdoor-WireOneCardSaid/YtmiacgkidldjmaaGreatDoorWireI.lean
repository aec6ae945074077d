/- Chapter 12: GetTable: what the code computes. Conditions: what each lemma says. -/
import Derived.Test.YtmiacgkidldjmaaGreatDoorWireH
set_option linter.unusedVariables false
set_option linter.unusedSimpArgs false
namespace Go.Proofs.YtmiacgkidldjmaaGreatDoor
open Go.RowKit Go.Lib
theorem SepB.rot {W w : World} {a b c d : Th} {l : List Th} (h : SepB W w (a :: b :: c :: d :: l)) : SepB W w (d :: c :: a :: b :: l) :=
  h.perm (.trans (.cons a (.trans (.swap c b _) (.cons c (.swap d b _)))) (.trans (.cons a (.swap d c _)) (.trans (.swap d a _) (.cons d (.swap c a _)))))
theorem SepB.to4 {W w : World} {x a b c d : Th} {l : List Th} (h : SepB W w (x :: a :: b :: c :: d :: l)) : SepB W w (a :: b :: c :: d :: x :: l) :=
  h.perm (.trans (.swap a x _) (.cons a (.trans (.swap b x _) (.cons b (.trans (.swap c x _) (.cons c (.swap d x _)))))))
theorem SepB.to5 {W w : World} {x a b c d e : Th} {l : List Th} (h : SepB W w (x :: a :: b :: c :: d :: e :: l)) : SepB W w (a :: b :: c :: d :: e :: x :: l) :=
  h.perm (.trans (.swap a x _) (.cons a (.trans (.swap b x _) (.cons b (.trans (.swap c x _) (.cons c (.trans (.swap d x _) (.cons d (.swap e x _)))))))))
theorem SepB.forN {W w : World} {x a b c d e f : Th} {l : List Th} (h : SepB W w (x :: a :: b :: c :: d :: e :: f :: l)) : SepB W w (a :: b :: f :: d :: x :: c :: e :: l) := by
  have h1 := h.to3
  have h2 : SepB W w (a :: b :: f :: c :: x :: d :: e :: l) := h1.perm (.cons a (.cons b (.trans (.cons c (.cons x (.trans (.cons d (.swap f e _)) (.swap f d _)))) (.trans (.cons c (.swap f x _)) (.swap f c _)))))
  exact h2.perm (.cons a (.cons b (.cons f (.trans (.cons c (.swap d x _)) (.trans (.swap d c _) (.cons d (.swap x c _)))))))
theorem SepB.forA {W w : World} {x a b c d : Th} {l : List Th} (h : SepB W w (x :: a :: b :: c :: d :: l)) : SepB W w (a :: b :: d :: x :: c :: l) := by
  have h1 : SepB W w (a :: b :: x :: c :: d :: l) := h.perm (.trans (.swap a x _) (.cons a (.swap b x _)))
  exact h1.perm (.cons a (.cons b (.trans (.cons x (.swap d c _)) (.swap d x _))))
theorem SepB.tail5 {W w : World} {a b c d e : Th} {l m : List Th} (h : SepB W w (a :: b :: c :: d :: e :: (l ++ m))) : SepB W w (a :: b :: c :: d :: e :: (m ++ l)) :=
  h.perm (.cons a (.cons b (.cons c (.cons d (.cons e List.perm_append_comm)))))
theorem tab_of {W w : World} {PA NA AA : Option Addr} {P : List Int} {R : List Row} {C : List Bool} {pc nc ac : Nat} {T0 T1 T3 T5 T7 : Th}
    (h : SepB W w (T0 :: T1 :: rowT 4 1 (.slice AA C.length ac) C.length (C.map Value.bool) :: T3 :: rowT 60 1 (.slice NA R.length nc) R.length (R.map rowV) :: T5 :: rowT 21 1 (.slice PA P.length pc) P.length (i32s P) :: T7 :: R.reverse.map rowTh)) : TabAt w PA P NA R AA C := by
  refine ⟨own_Sl (h.row 6 _ _ _ _ _ rfl) (by simp [i32s]), own_Sl (h.row 4 _ _ _ _ _ rfl) (by simp), fun r hr => ?_, own_Sl (h.row 2 _ _ _ _ _ rfl) (by simp), own_max (h.row 6 _ _ _ _ _ rfl), own_max (h.row 4 _ _ _ _ _ rfl), own_max (h.row 2 _ _ _ _ _ rfl)⟩
  have hm : rowTh r ∈ R.reverse.map rowTh := List.mem_map.2 ⟨r, List.mem_reverse.2 hr, rfl⟩
  have ho := h.1.1 (rowTh r) (by simp only [List.mem_cons]; exact .inr (.inr (.inr (.inr (.inr (.inr (.inr (.inr hm))))))))
  unfold rowTh rowV at ho
  rw [ok_row] at ho
  exact ⟨own_Sl ho (by simp [i64s]), own_max ho⟩
def getTE (l : List UInt8) : Int :=
  if Plain.openE l 2 ≠ 0 then Plain.openE l 2 else endR ((Plain.gTab (Plain.rd0 l)).st.fin l.length).bad (Plain.tabRight (Plain.gTab (Plain.rd0 l)).P (Plain.gTab (Plain.rd0 l)).N (Plain.gTab (Plain.rd0 l)).C.length)
def tb0 : Value := .agg #[.slice none 0 0, .slice none 0 0, .slice none 0 0]
def GetTRes (l : List UInt8) (w : World) (e : Ending) (w' : World) : Prop :=
  (getTE l ≠ 0 → e = .returned (.tuple #[tb0, .int .i64 (getTE l)])) ∧
  (getTE l = 0 → ∃ PA pc NA R nc AA ac, nums R = (Plain.gTab (Plain.rd0 l)).N ∧ e = .returned (.tuple #[tabV PA (Plain.gTab (Plain.rd0 l)).P pc NA R nc AA (Plain.gTab (Plain.rd0 l)).C ac, .int .i64 0]) ∧ TabAt w' PA (Plain.gTab (Plain.rd0 l)).P NA R AA (Plain.gTab (Plain.rd0 l)).C) ∧
  Below w.heap.size w w'
theorem cl73_any (PA NA AA : Option Addr) (P : List Int) (R : List Row) (C : List Bool) (pc nc ac tb : Nat) (w : World) (hT : TabAt w PA P NA R AA C) (hB : w.heap[tb]? = some (.cells #[.slice PA P.length pc, .slice NA R.length nc, .slice AA C.length ac] 34 (0, 0))) :
    Calls Tryz.prog 73 #[.pointer (some ⟨tb, 0, none⟩)] w fun e w' => e = .returned (.bool (Plain.tabRight P (nums R) C.length)) ∧ Below w.heap.size w w' := by
  have cR := tright_any PA P pc NA R nc AA C ac w hT
  obtain ⟨r, hr⟩ : ∃ x, Plain.tabRight P (nums R) C.length = x := ⟨_, rfl⟩
  rw [hr] at cR ⊢
  unfold tabV at cR
  obtain ⟨n, hn⟩ : ∃ x, P.length = x := ⟨_, rfl⟩
  obtain ⟨m, hm⟩ : ∃ x, R.length = x := ⟨_, rfl⟩
  obtain ⟨k, hk⟩ : ∃ x, C.length = x := ⟨_, rfl⟩
  rw [hn, hm, hk] at cR hB
  have CR := Lib.hid cR
  obtain ⟨p0, p1, p2⟩ := blk_cells3 hB
  clear cR hT hB hr hn hm hk
  go_enter Tryz.func73, Tryz.ntmps73
  go_wp2_with fail
  refine CR.out.mono ?_
  rintro _ w1 ⟨rfl, hb⟩
  have HB := Lib.hid hb
  clear hb p0 p1 p2
  go_wp2
  go_ret
  exact ⟨rfl, HB.out⟩
set_option maxRecDepth 1000000 in
set_option maxHeartbeats 8000000 in
theorem gettab_any (s : ByteArray) (w : World) (hs : s.size ≤ 1152921504606846976) : Calls Tryz.prog 33 #[.string s] w (GetTRes s.data.toList w) := by
  have hl : s.data.toList.length = s.size := by simp
  have CO := Lib.hid (fun W => open_any s 2 W hs)
  obtain ⟨l, hll⟩ : ∃ x, s.data.toList = x := ⟨_, rfl⟩
  rw [hll] at CO hl ⊢
  have hnew := (SepB.nil w).new #[.slice none 0 0, .slice none 0 0, .slice none 0 0] 34 (.cells #[.slice none 0 0, .slice none 0 0, .slice none 0 0] 34)
  obtain ⟨qb, hqb⟩ : ∃ x, w.heap.size = x := ⟨_, rfl⟩
  rw [hqb] at hnew
  have HN := Lib.hid hnew
  have HQB := Lib.hid hqb
  by_cases ho : Plain.openE l 2 = 0
  case neg =>
    have hg : getTE l = Plain.openE l 2 := by unfold getTE; rw [if_pos ho]
    have HO := Lib.hid ho
    have HG := Lib.hid hg
    obtain ⟨er, her⟩ : ∃ x, Plain.openE l 2 = x := ⟨_, rfl⟩
    have hne : er ≠ 0 := by rw [← her]; exact ho
    have d : (er != 0) = true := by simp [hne]
    have d' : (er == 0) = false := by simp [hne]
    have HER := Lib.hid her
    have HNE := Lib.hid hne
    clear hnew hqb ho hg her hll hl hne
    go_enter Tryz.func33, Tryz.ntmps33
    go_wp2_with fail
    rw [HQB.out]
    refine (CO.out _).mono ?_
    rintro _ w1 ⟨h1, _⟩
    obtain ⟨rfl, hb⟩ := h1 HO.out
    rw [HER.out]
    have hS := HN.out.below hb
    have hS2 := hS.alloc (.cells #[.pointer none] 127)
    have hB := (hS2.box 0 _ _ _ rfl).2
    have f0 := blk_frozen hB 0
    have f1 := blk_frozen hB 1
    have f2 := blk_frozen hB 2
    obtain ⟨q0, q1, q2⟩ := blk_cells3 hB
    have hS3 := ((hS2.store 0 _ _ _ rfl 0 (.slice none 0 0)).store 0 _ _ _ rfl 1 (.slice none 0 0)).store 0 _ _ _ rfl 2 (.slice none 0 0)
    have HS3 := Lib.hid hS3
    clear hS hS2 hB h1 hb hS3
    go_wp2
    obtain ⟨k0, k1, k2⟩ := blk_cells3 (HS3.out.box 0 _ _ _ rfl).2
    refine bodyPost_ret (v := .tuple #[tb0, .int .i64 er]) (by simp [results, Tryz.results33, go_sem, k0, k1, k2, tb0]) rfl ?_
    unfold GetTRes
    rw [HG.out, HER.out]
    exact ⟨fun _ => rfl, fun h => absurd h HNE.out, HS3.out.2⟩
  have hlen := kindE_len l (Plain.openE_zero l 2 ho).1
  have hsm0 := rd0_small l hlen.2
  obtain ⟨t0, ht0⟩ : ∃ x, Plain.rd0 l = x := ⟨_, rfl⟩
  have hge : getTE l = endR ((Plain.gTab t0).st.fin l.length).bad (Plain.tabRight (Plain.gTab t0).P (Plain.gTab t0).N (Plain.gTab t0).C.length) := by unfold getTE; rw [if_neg (by simp [ho]), ht0]
  rw [ht0] at hsm0
  have hsm1 := Plain.small_section t0 4 hsm0
  obtain ⟨t1, ht1⟩ : ∃ x, t0.section 4 = x := ⟨_, rfl⟩
  rw [ht1] at hsm1
  have hm2 := Plain.number_most t1 64
  have hsm2 := Plain.small_number t1 64 hsm1
  obtain ⟨⟨wd, t2⟩, hx2⟩ : ∃ x, t1.number 64 = x := ⟨_, rfl⟩
  rw [hx2] at hm2 hsm2
  dsimp only at hm2 hsm2
  obtain ⟨⟨t3, la, P⟩, hx3⟩ : ∃ x, Plain.many (fun s : Plain.SP => s.1.bad) Plain.gPart wd (t2, 0, []) = x := ⟨_, rfl⟩
  obtain ⟨t4, ht4⟩ : ∃ x, t3.section 5 = x := ⟨_, rfl⟩
  have hm5 := Plain.number_most t4 64
  obtain ⟨⟨nn, t5⟩, hx5⟩ : ∃ x, t4.number 64 = x := ⟨_, rfl⟩
  rw [hx5] at hm5
  dsimp only at hm5
  obtain ⟨⟨t6, N⟩, hx6⟩ : ∃ x, Plain.many (fun s : Plain.SN => s.1.bad) (Plain.gRow wd) nn (t5, []) = x := ⟨_, rfl⟩
  obtain ⟨t7, ht7⟩ : ∃ x, t6.section 6 = x := ⟨_, rfl⟩
  have hm8 := Plain.number_most t7 64
  obtain ⟨⟨na, t8⟩, hx8⟩ : ∃ x, t7.number 64 = x := ⟨_, rfl⟩
  rw [hx8] at hm8
  dsimp only at hm8
  obtain ⟨⟨t9, C⟩, hx9⟩ : ∃ x, Plain.many (fun s : Plain.SB => s.1.bad) Plain.gAcc na (t8, []) = x := ⟨_, rfl⟩
  have hG : Plain.gTab t0 = ⟨t9, P, N, C⟩ := by
    unfold Plain.gTab
    dsimp only
    rw [ht1, hx2]
    dsimp only
    rw [hx3]
    dsimp only
    rw [ht4, hx5]
    dsimp only
    rw [hx6]
    dsimp only
    rw [ht7, hx8]
    dsimp only
    rw [hx9]
  rw [hG] at hge
  dsimp only at hge
  rw [hl] at hge
  have hsz : s.size ≤ 65536 := by rw [← hl]; exact hlen.2
  have CS1 := Lib.hid (fun (g rc tb lb wb : Nat)  (W' : World)  (h' : SepB w W' (boxT g (rdCs t0) 173 :: boxT rc #[.pointer (some ⟨g, 0, none⟩)] 127 :: boxT lb #[.int .i64 0] 3 :: boxT tb #[.slice none 0 0, .slice none 0 0, .slice none 0 0] 34 :: rowT 21 1 (.slice none 0 0) 0 (i32s []) :: [boxT qb #[.slice none 0 0, .slice none 0 0, .slice none 0 0] 34])) => section_sep (w := W') 0 g t0 4 h' rfl hsm0 (by decide))
  rw [ht1] at CS1
  have CN2 := Lib.hid (fun (g rc tb lb wb : Nat)  (W' : World)  (h' : SepB w W' (boxT g (rdCs t1) 173 :: boxT rc #[.pointer (some ⟨g, 0, none⟩)] 127 :: boxT lb #[.int .i64 0] 3 :: boxT tb #[.slice none 0 0, .slice none 0 0, .slice none 0 0] 34 :: rowT 21 1 (.slice none 0 0) 0 (i32s []) :: [boxT qb #[.slice none 0 0, .slice none 0 0, .slice none 0 0] 34])) => number_at (w := W') 0 g t1 64 64 wd t2 h' rfl hsm1 (by decide) (by decide) hx2)
  have CM3 := Lib.hid (fun (g rc tb lb wb : Nat) (W' : World) (h' : SepB w W' (boxT g (rdCs t2) 173 :: boxT rc #[.pointer (some ⟨g, 0, none⟩)] 127 :: boxT lb #[.int .i64 0] 3 :: boxT tb #[(.slice none 0 0), .slice none 0 0, .slice none 0 0] 34 :: rowT 21 1 (.slice none 0 0) 0 (i32s []) :: boxT wb #[.int .i64 (wd : Int)] 3 :: [boxT qb #[.slice none 0 0, .slice none 0 0, .slice none 0 0] 34])) =>
    many_any (fun k (s : Plain.SP) W' => s.1.small ∧ s.2.2.length ≤ k ∧ (0 ≤ s.2.1 ∧ s.2.1 ≤ (k : Int) * 16777215) ∧ Post69 w g rc lb tb (.slice none 0 0) (.slice none 0 0) [boxT wb #[.int .i64 (wd : Int)] 3, boxT qb #[.slice none 0 0, .slice none 0 0, .slice none 0 0] 34] s.1 s.2.1 s.2.2 W') (fun s => s.1.bad) Plain.gPart g 69 wd #[.pointer (some ⟨lb, 0, none⟩), .pointer (some ⟨rc, 0, none⟩), .pointer (some ⟨tb, 0, none⟩)] (t2, 0, []) W' (by omega) (fun W => enter69 _ W)
      (fun k s W' hI => by
        obtain ⟨_, _, _, v', hS⟩ := hI
        exact (blk_cells5 (hS.box 0 _ _ _ rfl).2).2.2.2.2)
      (fun k s W' hk hI _ => by
        obtain ⟨hsm, hle, hla, v', hS⟩ := hI
        obtain ⟨ts, a, Ps⟩ := s
        dsimp only at hle hla hsm
        have hmm := Plain.number_most ts Plain.mw
        refine (cl69_any ts a Ps v' _ _ g rc lb tb _ hS hsm (by omega) (by omega)).mono ?_
        rintro e w' ⟨rfl, hP⟩
        refine ⟨rfl, gPart_small ts a Ps hsm, ?_, ?_, hP⟩
        · unfold Plain.gPart; simp; omega
        · unfold Plain.gPart; dsimp only; unfold Plain.mw at hmm ⊢; omega)
      ⟨hsm2, by simp, by simp, _, h'⟩)
  rw [hx3] at CM3
  have CS4 := Lib.hid (fun (g rc tb lb wb : Nat) (v0 : Value) (W' : World) (hs3 : t3.small) (h' : SepB w W' (boxT g (rdCs t3) 173 :: boxT rc #[.pointer (some ⟨g, 0, none⟩)] 127 :: boxT lb #[.int .i64 la] 3 :: boxT tb #[v0, .slice none 0 0, .slice none 0 0] 34 :: rowT 21 1 v0 P.length (i32s P) :: boxT wb #[.int .i64 (wd : Int)] 3 :: [boxT qb #[.slice none 0 0, .slice none 0 0, .slice none 0 0] 34])) => section_sep (w := W') 0 g t3 5 h' rfl hs3 (by decide))
  rw [ht4] at CS4
  have CN5 := Lib.hid (fun (g rc tb lb wb : Nat) (v0 : Value) (W' : World) (hs4 : t4.small) (h' : SepB w W' (boxT g (rdCs t4) 173 :: boxT rc #[.pointer (some ⟨g, 0, none⟩)] 127 :: boxT wb #[.int .i64 (wd : Int)] 3 :: boxT tb #[v0, (.slice none 0 0), .slice none 0 0] 34 :: rowT 60 1 (.slice none 0 0) 0 (([] : List Row).map rowV) :: (([] : List Row).reverse.map rowTh ++ [boxT lb #[.int .i64 la] 3, rowT 21 1 v0 P.length (i32s P), boxT qb #[.slice none 0 0, .slice none 0 0, .slice none 0 0] 34]))) => number_at (w := W') 0 g t4 64 64 nn t5 h' rfl hs4 (by decide) (by decide) hx5)
  have CM6 := Lib.hid (fun (g rc tb lb wb : Nat) (v0 : Value) (W' : World) (hs5 : t5.small) (h' : SepB w W' (boxT g (rdCs t5) 173 :: boxT rc #[.pointer (some ⟨g, 0, none⟩)] 127 :: boxT wb #[.int .i64 (wd : Int)] 3 :: boxT tb #[v0, (.slice none 0 0), .slice none 0 0] 34 :: rowT 60 1 (.slice none 0 0) 0 (([] : List Row).map rowV) :: (([] : List Row).reverse.map rowTh ++ [boxT lb #[.int .i64 la] 3, rowT 21 1 v0 P.length (i32s P), boxT qb #[.slice none 0 0, .slice none 0 0, .slice none 0 0] 34]))) =>
    many_any (fun k (s : Plain.SN) W' => s.1.small ∧ s.2.length ≤ k ∧ Post70 w g rc wb tb wd v0 (.slice none 0 0) [boxT lb #[.int .i64 la] 3, rowT 21 1 v0 P.length (i32s P), boxT qb #[.slice none 0 0, .slice none 0 0, .slice none 0 0] 34] s.1 s.2 W') (fun s => s.1.bad) (Plain.gRow wd) g 70 nn #[.pointer (some ⟨rc, 0, none⟩), .pointer (some ⟨wb, 0, none⟩), .pointer (some ⟨tb, 0, none⟩)] (t5, []) W' (by omega) (fun W => enter70 _ W)
      (fun k s W' hI => by
        obtain ⟨_, _, R, v1, _, hS⟩ := hI
        exact (blk_cells5 (hS.box 0 _ _ _ rfl).2).2.2.2.2)
      (fun k s W' hk hI _ => by
        obtain ⟨hsm, hle, R, v1, hR, hS⟩ := hI
        obtain ⟨ts, Ns⟩ := s
        dsimp only at hR hle
        subst hR
        have hRl : (nums R).length = R.length := by unfold nums; simp
        refine (cl70_any ts R v0 v1 (.slice none 0 0) g rc wb tb wd _ hS hsm (by omega) hm2).mono ?_
        rintro e w' ⟨rfl, hP⟩
        refine ⟨rfl, gRow_small wd ts _ hsm, ?_, hP⟩
        rw [gRow_len]; omega)
      ⟨hs5, by simp, [], _, rfl, h'⟩)
  rw [hx6] at CM6
  have CS7 := Lib.hid (fun (g rc tb lb wb : Nat) (v0 v1 : Value) (R : List Row) (W' : World) (hs6 : t6.small) (h' : SepB w W' (boxT g (rdCs t6) 173 :: boxT rc #[.pointer (some ⟨g, 0, none⟩)] 127 :: boxT wb #[.int .i64 (wd : Int)] 3 :: boxT tb #[v0, v1, .slice none 0 0] 34 :: rowT 60 1 v1 R.length (R.map rowV) :: boxT lb #[.int .i64 la] 3 :: rowT 21 1 v0 P.length (i32s P) :: boxT qb #[.slice none 0 0, .slice none 0 0, .slice none 0 0] 34 :: R.reverse.map rowTh)) => section_sep (w := W') 0 g t6 6 h' rfl hs6 (by decide))
  rw [ht7] at CS7
  have CN8 := Lib.hid (fun (g rc tb lb wb : Nat) (v0 v1 : Value) (R : List Row) (W' : World) (hs7 : t7.small) (h' : SepB w W' (boxT g (rdCs t7) 173 :: boxT rc #[.pointer (some ⟨g, 0, none⟩)] 127 :: boxT tb #[v0, v1, (.slice none 0 0)] 34 :: rowT 4 1 (.slice none 0 0) 0 (([] : List Bool).map Value.bool) :: boxT wb #[.int .i64 (wd : Int)] 3 :: rowT 60 1 v1 R.length (R.map rowV) :: boxT lb #[.int .i64 la] 3 :: rowT 21 1 v0 P.length (i32s P) :: boxT qb #[.slice none 0 0, .slice none 0 0, .slice none 0 0] 34 :: R.reverse.map rowTh)) => number_at (w := W') 0 g t7 64 64 na t8 h' rfl hs7 (by decide) (by decide) hx8)
  have CM9 := Lib.hid (fun (g rc tb lb wb : Nat) (v0 v1 : Value) (R : List Row) (W' : World) (hs8 : t8.small) (h' : SepB w W' (boxT g (rdCs t8) 173 :: boxT rc #[.pointer (some ⟨g, 0, none⟩)] 127 :: boxT tb #[v0, v1, (.slice none 0 0)] 34 :: rowT 4 1 (.slice none 0 0) 0 (([] : List Bool).map Value.bool) :: boxT wb #[.int .i64 (wd : Int)] 3 :: rowT 60 1 v1 R.length (R.map rowV) :: boxT lb #[.int .i64 la] 3 :: rowT 21 1 v0 P.length (i32s P) :: boxT qb #[.slice none 0 0, .slice none 0 0, .slice none 0 0] 34 :: R.reverse.map rowTh)) =>
    many_any (fun k (s : Plain.SB) W' => s.1.small ∧ s.2.length ≤ k ∧ Post72 w g rc tb v0 v1 (boxT wb #[.int .i64 (wd : Int)] 3 :: rowT 60 1 v1 R.length (R.map rowV) :: boxT lb #[.int .i64 la] 3 :: rowT 21 1 v0 P.length (i32s P) :: boxT qb #[.slice none 0 0, .slice none 0 0, .slice none 0 0] 34 :: R.reverse.map rowTh) s.1 s.2 W') (fun s => s.1.bad) Plain.gAcc g 72 na #[.pointer (some ⟨tb, 0, none⟩), .pointer (some ⟨rc, 0, none⟩)] (t8, []) W' (by omega) (fun W => enter72 _ W)
      (fun k s W' hI => by
        obtain ⟨_, _, v', hS⟩ := hI
        exact (blk_cells5 (hS.box 0 _ _ _ rfl).2).2.2.2.2)
      (fun k s W' hk hI _ => by
        obtain ⟨hsm, hle, v', hS⟩ := hI
        obtain ⟨ts, Cs⟩ := s
        dsimp only at hle
        refine (cl72_any ts Cs v0 v1 v' g rc tb _ hS hsm (by omega)).mono ?_
        rintro e w' ⟨rfl, hP⟩
        refine ⟨rfl, gAcc_small ts _ hsm, ?_, hP⟩
        rw [gAcc_len]; omega)
      ⟨hs8, by simp, _, h'⟩)
  rw [hx9] at CM9
  have HGE := Lib.hid hge
  have HGP := Lib.hid hG
  have HT0 := Lib.hid ht0
  have HS4 := Lib.hid (fun h : t3.small => (show t4.small from ht4 ▸ Plain.small_section t3 5 h))
  have HS5' := Lib.hid (fun h : t4.small => (show t5.small from by have := Plain.small_number t4 64 h; rw [hx5] at this; exact this))
  have HS7 := Lib.hid (fun h : t6.small => (show t7.small from ht7 ▸ Plain.small_section t6 6 h))
  have HS8 := Lib.hid (fun h : t7.small => (show t8.small from by have := Plain.small_number t7 64 h; rw [hx8] at this; exact this))
  have HO := Lib.hid ho
  clear hnew hqb ho hll hl hlen hsm0 ht0 hge hsm1 ht1 hsm2 hx2 hx3 ht4 hx5 hx6 ht7 hx8 hx9 hG
  go_enter Tryz.func33, Tryz.ntmps33
  go_wp2_with fail
  rw [HQB.out]
  refine (CO.out _).mono ?_
  rintro _ w1 ⟨_, h1⟩
  obtain ⟨g, rfl, hS1⟩ := h1 HO.out
  rw [HT0.out] at hS1
  have hS2 := hS1.rebase HN.out
  have hS3 := hS2.new #[.pointer (some ⟨g, 0, none⟩)] 127 (.cells #[.pointer (some ⟨g, 0, none⟩)] 127)
  have hS4 := hS3.new #[.slice none 0 0, .slice none 0 0, .slice none 0 0] 34 (.cells #[.slice none 0 0, .slice none 0 0, .slice none 0 0] 34)
  have hS5 := hS4.new #[.int .i64 0] 3 (.cells #[.int .i64 0] 3)
  rw [show ((w1.alloc (.cells #[.pointer (some ⟨g, 0, none⟩)] 127)).alloc (.cells #[.slice none 0 0, .slice none 0 0, .slice none 0 0] 34)).heap.size = w1.heap.size + 1 + 1 by simp, show (w1.alloc (.cells #[.pointer (some ⟨g, 0, none⟩)] 127)).heap.size = w1.heap.size + 1 by simp] at hS5
  obtain ⟨rc, hrc⟩ : ∃ x, w1.heap.size = x := ⟨_, rfl⟩
  rw [hrc] at hS5
  obtain ⟨tb, htb⟩ : ∃ x, rc + 1 = x := ⟨_, rfl⟩
  rw [htb] at hS5
  obtain ⟨lb, hlb⟩ : ∃ x, tb + 1 = x := ⟨_, rfl⟩
  rw [hlb] at hS5
  have HS := Lib.hid (show SepB w _ (boxT g (rdCs t0) 173 :: boxT rc #[.pointer (some ⟨g, 0, none⟩)] 127 :: boxT lb #[.int .i64 0] 3 :: boxT tb #[.slice none 0 0, .slice none 0 0, .slice none 0 0] 34 :: rowT 21 1 (.slice none 0 0) 0 (i32s []) :: [boxT qb #[.slice none 0 0, .slice none 0 0, .slice none 0 0] 34]) from (hS5.rot.empty 21 1).to4)
  have HRC := Lib.hid hrc
  have HTB := Lib.hid htb
  have HLB := Lib.hid hlb
  clear hS1 hS2 hS3 hS4 hS5 h1 hrc htb hlb
  go_upto_region 6 with fail
  rw [HRC.out, HTB.out, HLB.out]
  obtain ⟨w2, hw2⟩ : ∃ x, ((w1.alloc (.cells #[.pointer (some ⟨g, 0, none⟩)] 127)).alloc (.cells #[.slice none 0 0, .slice none 0 0, .slice none 0 0] 34)).alloc (.cells #[.int .i64 0] 3) = x := ⟨_, rfl⟩
  rw [hw2] at HS ⊢
  clear hw2
  have x0 := blk1 (HS.out.box 1 _ _ _ rfl).2
  go_wp2_with fail
  clear x0
  refine (CS1.out g rc tb lb 0 _ HS.out).mono ?_
  rintro _ w3 ⟨rfl, hS, _⟩
  clear HS
  have HS := Lib.hid (show SepB w w3 (boxT g (rdCs t1) 173 :: boxT rc #[.pointer (some ⟨g, 0, none⟩)] 127 :: boxT lb #[.int .i64 0] 3 :: boxT tb #[.slice none 0 0, .slice none 0 0, .slice none 0 0] 34 :: rowT 21 1 (.slice none 0 0) 0 (i32s []) :: [boxT qb #[.slice none 0 0, .slice none 0 0, .slice none 0 0] 34]) from hS)
  clear hS
  have x0 := blk1 (HS.out.box 1 _ _ _ rfl).2
  go_wp2_with fail
  clear x0
  refine (CN2.out g rc tb lb 0 _ HS.out).mono ?_
  rintro _ w4 ⟨rfl, hS, _⟩
  have hS : SepB w w4 (boxT g (rdCs t2) 173 :: boxT rc #[.pointer (some ⟨g, 0, none⟩)] 127 :: boxT lb #[.int .i64 0] 3 :: boxT tb #[.slice none 0 0, .slice none 0 0, .slice none 0 0] 34 :: rowT 21 1 (.slice none 0 0) 0 (i32s []) :: [boxT qb #[.slice none 0 0, .slice none 0 0, .slice none 0 0] 34]) := hS
  have hn := hS.new #[.int .i64 (wd : Int)] 3 (.cells #[.int .i64 (wd : Int)] 3)
  obtain ⟨wb, hwb⟩ : ∃ x, w4.heap.size = x := ⟨_, rfl⟩
  rw [hwb] at hn
  have HWB := Lib.hid hwb
  clear HS
  have HS := Lib.hid (show SepB w _ (boxT g (rdCs t2) 173 :: boxT rc #[.pointer (some ⟨g, 0, none⟩)] 127 :: boxT lb #[.int .i64 0] 3 :: boxT tb #[(.slice none 0 0), .slice none 0 0, .slice none 0 0] 34 :: rowT 21 1 (.slice none 0 0) 0 (i32s []) :: boxT wb #[.int .i64 (wd : Int)] 3 :: [boxT qb #[.slice none 0 0, .slice none 0 0, .slice none 0 0] 34]) from hn.to5)
  clear hS hn hwb
  go_upto_region 8 with fail
  rw [HWB.out]
  obtain ⟨w5, hw5⟩ : ∃ x, w4.alloc (.cells #[.int .i64 (wd : Int)] 3) = x := ⟨_, rfl⟩
  rw [hw5] at HS ⊢
  clear hw5
  have x0 := blk1 (HS.out.box 1 _ _ _ rfl).2
  have z0 := blk1 (HS.out.box 5 _ _ _ rfl).2
  go_wp2_with fail
  clear x0 z0
  refine (CM3.out g rc tb lb wb _ HS.out).mono ?_
  rintro _ w6 ⟨rfl, kk, hkk, hs3, _, _, v0, hS⟩
  try dsimp only at hS
  clear HS
  have HS := Lib.hid (show SepB w w6 (boxT g (rdCs t3) 173 :: boxT rc #[.pointer (some ⟨g, 0, none⟩)] 127 :: boxT lb #[.int .i64 la] 3 :: boxT tb #[v0, .slice none 0 0, .slice none 0 0] 34 :: rowT 21 1 v0 P.length (i32s P) :: boxT wb #[.int .i64 (wd : Int)] 3 :: [boxT qb #[.slice none 0 0, .slice none 0 0, .slice none 0 0] 34]) from hS)
  have hs4 := HS4.out hs3
  have HSM3 := Lib.hid hs3
  have HSM4 := Lib.hid hs4
  have HSM5 := Lib.hid (HS5'.out hs4)
  clear hS hs3 hs4
  have x0 := blk1 (HS.out.box 1 _ _ _ rfl).2
  go_wp2_with fail
  clear x0
  refine (CS4.out g rc tb lb wb v0 _ HSM3.out HS.out).mono ?_
  rintro _ w7 ⟨rfl, hS, _⟩
  have hS : SepB w w7 (boxT g (rdCs t4) 173 :: boxT rc #[.pointer (some ⟨g, 0, none⟩)] 127 :: boxT lb #[.int .i64 la] 3 :: boxT tb #[v0, .slice none 0 0, .slice none 0 0] 34 :: rowT 21 1 v0 P.length (i32s P) :: boxT wb #[.int .i64 (wd : Int)] 3 :: [boxT qb #[.slice none 0 0, .slice none 0 0, .slice none 0 0] 34]) := hS
  clear HS
  have HS := Lib.hid (show SepB w w7 (boxT g (rdCs t4) 173 :: boxT rc #[.pointer (some ⟨g, 0, none⟩)] 127 :: boxT wb #[.int .i64 (wd : Int)] 3 :: boxT tb #[v0, (.slice none 0 0), .slice none 0 0] 34 :: rowT 60 1 (.slice none 0 0) 0 (([] : List Row).map rowV) :: (([] : List Row).reverse.map rowTh ++ [boxT lb #[.int .i64 la] 3, rowT 21 1 v0 P.length (i32s P), boxT qb #[.slice none 0 0, .slice none 0 0, .slice none 0 0] 34])) from (hS.empty 60 1).forN)
  clear hS
  go_wp2_with fail
  obtain ⟨wz, hwz⟩ : ∃ x, w7.drew = x := ⟨_, rfl⟩
  have hS' := HS.out.drew
  rw [hwz] at hS'
  have HD := Lib.hid hS'
  have HF := Lib.hid (fun (w' : World) (h : wz.grownBy w' (some g)) => blk1 (gr_blk h (HD.out.box 1 _ _ _ rfl).2 (HD.out.ne 0 1 _ _ _ _ _ _ (by decide) rfl rfl).symm))
  have HG0 := Lib.hid (gr_refl wz (some g))
  clear hS' HS
  refine wp_region_noPanic ?_
  refine wp_region_T 4 (S := fun w' : World => wz.grownBy w' (some g)) (by kernel_rfl) (by decide) ?_
  rw [hwz]
  clear hwz
  refine wpAnyT_take2 0 (v := ?tvq0) (by kernel_rfl) rfl (by kernel_rfl) (fun _ _ _ h => h) (Or.inl ⟨by rfl, ?tyq0⟩) HG0.out ?trq0
  case tyq0 => (intro w' hSw; have x0 := HF.out w' hSw; (try dsimp only at hSw); go_simp; try with_reducible rfl)
  try simp only [Act.put, List.setIfInBounds_toArray, List.set_cons_zero, List.set_cons_succ]
  refine wpAnyT_take2 1 (v := ?tvq1) (by kernel_rfl) rfl (by kernel_rfl) (fun _ _ _ h => h) (Or.inl ⟨by rfl, ?tyq1⟩) HG0.out ?trq1
  case tyq1 => (intro w' hSw; have x0 := HF.out w' hSw; (try dsimp only at hSw); go_simp; try with_reducible rfl)
  try simp only [Act.put, List.setIfInBounds_toArray, List.set_cons_zero, List.set_cons_succ]
  refine wpAnyT_take2 3 (v := ?tvq3) (by kernel_rfl) rfl (by kernel_rfl) (fun _ _ _ h => h) (Or.inl ⟨by rfl, ?tyq3⟩) HG0.out ?trq3
  case tyq3 => (intro w' hSw; (try dsimp only at hSw); go_simp; try with_reducible rfl)
  try simp only [Act.put, List.setIfInBounds_toArray, List.set_cons_zero, List.set_cons_succ]
  refine wpAnyT_one2 2 rfl (by kernel_rfl) ?_
  intro K' hK'
  rw [if_pos (by rfl)]
  have HK := Lib.hid hK'
  clear hK'
  go_wp2_with (go_at_call 62; refine (CN5.out g rc tb lb wb v0 _ HSM4.out HD.out).mono ?_; rintro _ w5 ⟨rfl, hS5, hg5⟩)
  have HS5 := Lib.hid hS5
  have HG5 := Lib.hid hg5
  clear hS5 hg5
  refine HK.out _ _ ⟨HG5.out, ?_⟩
  clear HK K'
  try simp only [Act.put, List.setIfInBounds_toArray, List.set_cons_zero, List.set_cons_succ]
  refine ⟨by kernel_rfl, ?_⟩
  change wpList _ _ _ [_] _ _
  go_wp2_with fail
  refine (CM6.out g rc tb lb wb v0 _ HSM5.out HS5.out).mono ?_
  rintro _ w8 ⟨rfl, k2, hk2, hs6, _, R, v1, hR, hS⟩
  try dsimp only at hS
  try dsimp only at hR
  clear HD HF HG0 HS5 HG5
  have HR := Lib.hid hR
  have HS := Lib.hid (show SepB w w8 (boxT g (rdCs t6) 173 :: boxT rc #[.pointer (some ⟨g, 0, none⟩)] 127 :: boxT wb #[.int .i64 (wd : Int)] 3 :: boxT tb #[v0, v1, .slice none 0 0] 34 :: rowT 60 1 v1 R.length (R.map rowV) :: boxT lb #[.int .i64 la] 3 :: rowT 21 1 v0 P.length (i32s P) :: boxT qb #[.slice none 0 0, .slice none 0 0, .slice none 0 0] 34 :: R.reverse.map rowTh) from hS.tail5)
  have hs7 := HS7.out hs6
  have HSM6 := Lib.hid hs6
  have HSM7 := Lib.hid hs7
  have HSM8 := Lib.hid (HS8.out hs7)
  clear hS hR hs6 hs7
  have x0 := blk1 (HS.out.box 1 _ _ _ rfl).2
  go_wp2_with fail
  refine NoPanic.normal ?_
  go_wp2_with fail
  clear x0
  refine (CS7.out g rc tb lb wb v0 v1 R _ HSM6.out HS.out).mono ?_
  rintro _ w9 ⟨rfl, hS, _⟩
  have hS : SepB w w9 (boxT g (rdCs t7) 173 :: boxT rc #[.pointer (some ⟨g, 0, none⟩)] 127 :: boxT wb #[.int .i64 (wd : Int)] 3 :: boxT tb #[v0, v1, .slice none 0 0] 34 :: rowT 60 1 v1 R.length (R.map rowV) :: boxT lb #[.int .i64 la] 3 :: rowT 21 1 v0 P.length (i32s P) :: boxT qb #[.slice none 0 0, .slice none 0 0, .slice none 0 0] 34 :: R.reverse.map rowTh) := hS
  clear HS
  have HS := Lib.hid (show SepB w w9 (boxT g (rdCs t7) 173 :: boxT rc #[.pointer (some ⟨g, 0, none⟩)] 127 :: boxT tb #[v0, v1, (.slice none 0 0)] 34 :: rowT 4 1 (.slice none 0 0) 0 (([] : List Bool).map Value.bool) :: boxT wb #[.int .i64 (wd : Int)] 3 :: rowT 60 1 v1 R.length (R.map rowV) :: boxT lb #[.int .i64 la] 3 :: rowT 21 1 v0 P.length (i32s P) :: boxT qb #[.slice none 0 0, .slice none 0 0, .slice none 0 0] 34 :: R.reverse.map rowTh) from (hS.empty 4 1).forA)
  clear hS
  go_wp2_with fail
  obtain ⟨wz, hwz⟩ : ∃ x, w9.drew = x := ⟨_, rfl⟩
  have hS' := HS.out.drew
  rw [hwz] at hS'
  have HD := Lib.hid hS'
  have HF := Lib.hid (fun (w' : World) (h : wz.grownBy w' (some g)) => blk1 (gr_blk h (HD.out.box 1 _ _ _ rfl).2 (HD.out.ne 0 1 _ _ _ _ _ _ (by decide) rfl rfl).symm))
  have HG0 := Lib.hid (gr_refl wz (some g))
  clear hS' HS
  refine wp_region_noPanic ?_
  refine wp_region_T 4 (S := fun w' : World => wz.grownBy w' (some g)) (by kernel_rfl) (by decide) ?_
  rw [hwz]
  clear hwz
  refine wpAnyT_take2 0 (v := ?tvp0) (by kernel_rfl) rfl (by kernel_rfl) (fun _ _ _ h => h) (Or.inl ⟨by rfl, ?typ0⟩) HG0.out ?trp0
  case typ0 => (intro w' hSw; have x0 := HF.out w' hSw; (try dsimp only at hSw); go_simp; try with_reducible rfl)
  try simp only [Act.put, List.setIfInBounds_toArray, List.set_cons_zero, List.set_cons_succ]
  refine wpAnyT_take2 1 (v := ?tvp1) (by kernel_rfl) rfl (by kernel_rfl) (fun _ _ _ h => h) (Or.inl ⟨by rfl, ?typ1⟩) HG0.out ?trp1
  case typ1 => (intro w' hSw; have x0 := HF.out w' hSw; (try dsimp only at hSw); go_simp; try with_reducible rfl)
  try simp only [Act.put, List.setIfInBounds_toArray, List.set_cons_zero, List.set_cons_succ]
  refine wpAnyT_take2 3 (v := ?tvp3) (by kernel_rfl) rfl (by kernel_rfl) (fun _ _ _ h => h) (Or.inl ⟨by rfl, ?typ3⟩) HG0.out ?trp3
  case typ3 => (intro w' hSw; (try dsimp only at hSw); go_simp; try with_reducible rfl)
  try simp only [Act.put, List.setIfInBounds_toArray, List.set_cons_zero, List.set_cons_succ]
  refine wpAnyT_one2 2 rfl (by kernel_rfl) ?_
  intro K' hK'
  rw [if_pos (by rfl)]
  have HK := Lib.hid hK'
  clear hK'
  go_wp2_with (go_at_call 62; refine (CN8.out g rc tb lb wb v0 v1 R _ HSM7.out HD.out).mono ?_; rintro _ w5 ⟨rfl, hS5, hg5⟩)
  have HS5 := Lib.hid hS5
  have HG5 := Lib.hid hg5
  clear hS5 hg5
  refine HK.out _ _ ⟨HG5.out, ?_⟩
  clear HK K'
  try simp only [Act.put, List.setIfInBounds_toArray, List.set_cons_zero, List.set_cons_succ]
  refine ⟨by kernel_rfl, ?_⟩
  change wpList _ _ _ [_] _ _
  go_wp2_with fail
  refine (CM9.out g rc tb lb wb v0 v1 R _ HSM8.out HS5.out).mono ?_
  rintro _ w10 ⟨rfl, k3, hk3, hs9, _, v2, hS⟩
  try dsimp only at hS
  clear HD HF HG0 HS5 HG5
  obtain ⟨AA, ac, rfl⟩ := own_slice (hS.row 3 _ _ _ _ _ rfl)
  obtain ⟨NA, nc, rfl⟩ := own_slice (hS.row 5 _ _ _ _ _ rfl)
  obtain ⟨PA, pc, rfl⟩ := own_slice (hS.row 7 _ _ _ _ _ rfl)
  have HS := Lib.hid (show SepB w w10 (boxT g (rdCs t9) 173 :: boxT rc #[.pointer (some ⟨g, 0, none⟩)] 127 :: boxT tb #[.slice PA P.length pc, .slice NA R.length nc, .slice AA C.length ac] 34 :: rowT 4 1 (.slice AA C.length ac) C.length (C.map Value.bool) :: boxT wb #[.int .i64 (wd : Int)] 3 :: rowT 60 1 (.slice NA R.length nc) R.length (R.map rowV) :: boxT lb #[.int .i64 la] 3 :: rowT 21 1 (.slice PA P.length pc) P.length (i32s P) :: boxT qb #[.slice none 0 0, .slice none 0 0, .slice none 0 0] 34 :: R.reverse.map rowTh) from hS)
  clear hS
  go_wp2_with fail
  refine NoPanic.normal ?_
  have hR := HS.out.box 0 _ _ _ rfl
  have hrest := fun (W' : World) (hg : w10.grownBy W' (some g)) => HS.out.rest (w' := W') hg
  have CE := Lib.hid (rend_any g t9 s.size 73 #[.pointer (some ⟨tb, 0, none⟩)] (Plain.tabRight P N C.length) w10 hR.2 hs9 (by omega) (fun W => enter73 _ W) (fun W hg => by
    have hr := hrest W hg
    have hB := (hr.box 1 _ _ _ rfl).2
    have hT := tab_of hr
    rw [← HR.out]
    exact cl73_any PA NA AA P R C pc nc ac tb W hT hB))
  have HRS := Lib.hid hrest
  obtain ⟨er, her⟩ : ∃ x, getTE l = x := ⟨_, rfl⟩
  have hge := HGE.out
  rw [her] at hge
  rw [← hge] at CE
  have HER := Lib.hid her
  have x0 := blk1 (HS.out.box 1 _ _ _ rfl).2
  clear hR hrest hge her hs9
  go_wp2_with fail
  clear x0
  refine CE.out.mono ?_
  rintro _ w11 ⟨rfl, hg⟩
  have hq := HRS.out w11 hg
  have hB := (hq.box 7 _ _ _ rfl).2
  have hPB := (hq.box 1 _ _ _ rfl).2
  have f0 := blk_frozen hB 0
  have f1 := blk_frozen hB 1
  have f2 := blk_frozen hB 2
  obtain ⟨q0, q1, q2⟩ := blk_cells3 hB
  obtain ⟨p0, p1, p2⟩ := blk_cells3 hPB
  have HQ := Lib.hid hq
  clear hg hq hB hPB
  by_cases hz : er = 0
  · subst hz
    have hS3 := ((HQ.out.store 7 _ _ _ rfl 0 (.slice PA P.length pc)).store 7 _ _ _ rfl 1 (.slice NA R.length nc)).store 7 _ _ _ rfl 2 (.slice AA C.length ac)
    have hPF := tab_of hS3
    have HPF := Lib.hid hPF
    have HS3 := Lib.hid hS3
    clear hS3 hPF
    go_wp2
    obtain ⟨k0, k1, k2⟩ := blk_cells3 (HS3.out.box 7 _ _ _ rfl).2
    refine bodyPost_ret (v := .tuple #[tabV PA P pc NA R nc AA C ac, .int .i64 0]) (by simp [results, Tryz.results33, go_sem, k0, k1, k2, tabV]) rfl ?_
    unfold GetTRes
    rw [HER.out, HT0.out, HGP.out]
    exact ⟨fun h => absurd rfl h, fun _ => ⟨PA, pc, NA, R, nc, AA, ac, HR.out, rfl, HPF.out⟩, HS3.out.2⟩
  · have d1 : (er != 0) = true := by simp [hz]
    have d2 : (er == 0) = false := by simp [hz]
    have HZ := Lib.hid hz
    have hS3 := ((HQ.out.store 7 _ _ _ rfl 0 (.slice none 0 0)).store 7 _ _ _ rfl 1 (.slice none 0 0)).store 7 _ _ _ rfl 2 (.slice none 0 0)
    have HS3 := Lib.hid hS3
    clear hS3 hz
    go_wp2
    obtain ⟨k0, k1, k2⟩ := blk_cells3 (HS3.out.box 7 _ _ _ rfl).2
    refine bodyPost_ret (v := .tuple #[tb0, .int .i64 er]) (by simp [results, Tryz.results33, go_sem, k0, k1, k2, tb0]) rfl ?_
    unfold GetTRes
    rw [HER.out]
    exact ⟨fun _ => rfl, fun h => absurd h HZ.out, HS3.out.2⟩
end Go.Proofs.YtmiacgkidldjmaaGreatDoor
