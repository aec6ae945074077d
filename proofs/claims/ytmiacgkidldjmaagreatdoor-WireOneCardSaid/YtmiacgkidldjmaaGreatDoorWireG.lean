/- Chapter 12: Get: what the code computes. Conditions: what each lemma says. -/
import Derived.Test.YtmiacgkidldjmaaGreatDoorWireF
set_option linter.unusedVariables false
set_option linter.unusedSimpArgs false
namespace Go.Proofs.YtmiacgkidldjmaaGreatDoor
open Go.RowKit Go.Lib
open Plain (Rg May mayB In Norm In4 slotsOf insB bnd riB cls cnot rightB normB)
theorem th_base {b b' : Nat} {w : World} {T : Th} (h : T.ok b w) (hb : b' ≤ b) : T.ok b' w := by
  unfold Th.ok at h ⊢
  split at h
  · rename_i hd; rw [if_pos hd]; exact ⟨Nat.le_trans hb h.1, h.2⟩
  · rename_i hd; rw [if_neg hd]; exact own_base h hb
/-- what a callee has made lies beside what was there -/
theorem SepB.rebase {W w1 w2 : World} {l m : List Th} (h : SepB w1 w2 l) (h0 : SepB W w1 m) : SepB W w2 (l ++ m) := by
  have h1 := h0.below h.2
  refine ⟨⟨fun T hT => ?_, List.pairwise_append.2 ⟨h.1.2, h1.1.2, fun A hA B hB k h2 h3 => ?_⟩⟩, h1.2⟩
  · rcases List.mem_append.1 hT with hT | hT
    · exact th_base (h.1.1 T hT) h0.2.size
    · exact h1.1.1 T hT
  · have e1 := (th_lt (h.1.1 A hA) k h2).1
    have e2 := (th_lt (h0.1.1 B hB) k h3).2
    omega
/-- the others stay where one is turned -/
theorem SepB.rest {W w w' : World} {T : Th} {l : List Th} (h : SepB W w (T :: l)) (hg : w.grownBy w' T.blk) : SepB W w' l := by
  obtain ⟨⟨ho, hp⟩, hb⟩ := h
  obtain ⟨ha, hr⟩ := List.pairwise_cons.1 hp
  exact ⟨⟨fun X hX => th_kept (ho X (by simp [hX])) fun k hk => hg.block k (th_lt (ho X (by simp [hX])) k hk).2 (fun e => ha X hX k e.symm hk), hr⟩,
    ⟨hg.os.trans hb.os, hg.tape.trans hb.tape, hg.output.trans hb.output, Nat.le_trans hb.size hg.size, fun k hk => (hg.block k (Nat.lt_of_lt_of_le hk hb.size) (fun e => by
      have := (th_lt (ho T (by simp)) k e.symm).1; omega)).trans (hb.block k hk)⟩⟩
theorem SepB.rev3 {W w : World} {x y z : Th} {l : List Th} (h : SepB W w (x :: y :: z :: l)) : SepB W w (z :: y :: x :: l) :=
  h.perm (.trans (.cons x (.swap z y _)) (.trans (.swap z x _) (.cons z (.swap y x _))))
theorem SepB.to3 {W w : World} {x a b c : Th} {l : List Th} (h : SepB W w (x :: a :: b :: c :: l)) : SepB W w (a :: b :: c :: x :: l) :=
  h.perm (.trans (.swap a x _) (.cons a (.trans (.swap b x _) (.cons b (.swap c x _)))))
theorem own_max {w : World} {base : Nat} {e : TypeId} {size : Nat} {v : Value} {n : Nat} {xs : List Value} (h : w.ownsRow base e size v n xs) : n ≤ maxLen := by
  rcases h.2 with ⟨_, hx⟩ | ⟨g, cap, cur, _, _, _, h1, h2, _⟩
  · rw [hx]; exact Nat.zero_le _
  · exact Nat.le_trans h1 h2
/-- a program whose rows are one's own -/
theorem sep_pg {W w : World} {L : List In4} {K : List Cs} {v0 v1 : Value} {T1 T2 T3 : Th} {l : List Th} (h : SepB W w (T1 :: T2 :: T3 :: rowT 94 4 v0 L.length (i4s L) :: rowT 102 1 v1 K.length (K.map clV) :: (K.reverse.map clsT ++ l))) :
    ∃ I c C d, v0 = .slice I L.length c ∧ v1 = .slice C K.length d ∧ PgAt w I L C K := by
  have r0 := h.row 3 _ _ _ _ _ rfl
  have r1 := h.row 4 _ _ _ _ _ rfl
  obtain ⟨I, c, rfl⟩ := own_slice r0
  obtain ⟨C, d, rfl⟩ := own_slice r1
  refine ⟨I, c, C, d, rfl, rfl, own_SlN r0 (by rw [i4s_len]; omega), own_Sl r1 (by simp), fun x hx => ?_, own_max r0, own_max r1⟩
  have hm : clsT x ∈ T1 :: T2 :: T3 :: rowT 94 4 (.slice I L.length c) L.length (i4s L) :: rowT 102 1 (.slice C K.length d) K.length (K.map clV) :: (K.reverse.map clsT ++ l) := by
    have : clsT x ∈ K.reverse.map clsT := List.mem_map.2 ⟨x, List.mem_reverse.2 hx, rfl⟩
    simp only [List.mem_cons, List.mem_append]
    exact .inr (.inr (.inr (.inr (.inr (.inl this)))))
  have ho := h.1.1 _ hm
  unfold clsT at ho
  rw [ok_row] at ho
  exact ⟨Rs.of_own (c := x.c) ho rfl, own_max ho⟩
def pgP (L : List In4) (KR : List (List Rg)) (g : Int) : Bool :=
  decide (0 < L.length) && decide (L.length ≤ 512) && decide (KR.length ≤ 64) && decide (0 ≤ g) && decide (g ≤ 8) && !(L.any fun t => !riB L.length KR.length g t) && !(KR.any badB)
theorem pgP_eq (L : List In4) (K : List Cs) (g : Int) : pgR L K g = pgP L (K.map Cs.R) g := by
  unfold pgR pgP; rw [List.length_map, List.any_map]; rfl
/-- the error of what is got -/
def getE (l : List UInt8) : Int :=
  if Plain.openE l 1 ≠ 0 then Plain.openE l 1 else endR ((Plain.gProg (Plain.rd0 l)).st.fin l.length).bad (pgP (Plain.gProg (Plain.rd0 l)).L (Plain.gProg (Plain.rd0 l)).K (Plain.gProg (Plain.rd0 l)).g)
def pg0 : Value := .agg #[.slice none 0 0, .slice none 0 0, .int .i64 0]
def GetRes (l : List UInt8) (w : World) (e : Ending) (w' : World) : Prop :=
  (getE l ≠ 0 → e = .returned (.tuple #[pg0, .int .i64 (getE l)])) ∧
  (getE l = 0 → ∃ I c C d K, K.map Cs.R = (Plain.gProg (Plain.rd0 l)).K ∧ e = .returned (.tuple #[pgV I (Plain.gProg (Plain.rd0 l)).L.length c C K.length d (Plain.gProg (Plain.rd0 l)).g, .int .i64 0]) ∧ PgAt w' I (Plain.gProg (Plain.rd0 l)).L C K) ∧
  Below w.heap.size w w'
theorem cl68_any (I C : Option Addr) (L : List In4) (K : List Cs) (c d : Nat) (g : Int) (pb : Nat) (w : World) (hP : PgAt w I L C K) (hB : w.heap[pb]? = some (.cells #[.slice I L.length c, .slice C K.length d, .int .i64 g] 25 (0, 0))) :
    Calls Tryz.prog 68 #[.pointer (some ⟨pb, 0, none⟩)] w fun e w' => e = .returned (.bool (pgR L K g)) ∧ Below w.heap.size w w' := by
  have cR := prright_any I C L K c d g w hP
  obtain ⟨r, hr⟩ : ∃ x, pgR L K g = x := ⟨_, rfl⟩
  rw [hr] at cR ⊢
  unfold pgV at cR
  obtain ⟨n, hn⟩ : ∃ x, L.length = x := ⟨_, rfl⟩
  obtain ⟨m, hm⟩ : ∃ x, K.length = x := ⟨_, rfl⟩
  rw [hn, hm] at cR hB
  have CR := Lib.hid cR
  obtain ⟨p0, p1, p2⟩ := blk_cells3 hB
  clear cR hP hB hr hn hm
  go_enter Tryz.func68, Tryz.ntmps68
  go_wp2_with fail
  refine CR.out.mono ?_
  rintro _ w1 ⟨rfl, hb⟩
  have HB := Lib.hid hb
  clear hb p0 p1 p2
  go_wp2
  go_ret
  exact ⟨rfl, HB.out⟩
end Go.Proofs.YtmiacgkidldjmaaGreatDoor
namespace Go.Proofs.YtmiacgkidldjmaaGreatDoor
open Go.RowKit Go.Lib
open Plain (Rg May mayB In Norm In4 slotsOf insB bnd riB cls cnot rightB normB)
theorem gClass_len (t : Plain.St) (K : List (List Rg)) : (Plain.gClass (t, K)).2.length = K.length + 1 := by unfold Plain.gClass; simp
theorem many_small {Y : Type} (f : Plain.St × Y → Plain.St × Y) (hf : ∀ s, s.1.small → (f s).1.small) : ∀ (n : Nat) (s : Plain.St × Y), s.1.small → (Plain.many (fun s => s.1.bad) f n s).1.small := by
  intro n
  induction n with
  | zero => intro s h; exact h
  | succ n ih =>
    intro s h
    unfold Plain.many
    split
    · exact ih _ (hf s h)
    · exact h
theorem gClass_small (t : Plain.St) (K : List (List Rg)) (h : t.small) : (Plain.gClass (t, K)).1.small := by
  unfold Plain.gClass
  dsimp only
  exact many_small Plain.gRange (fun s hs => gRange_small s.1 s.2 hs) _ _ (Plain.small_number _ _ h)
/-- the same without the reader's box -/
theorem pg_of {W w : World} {I C : Option Addr} {L : List In4} {K : List Cs} {c d : Nat} {T2 T3 : Th} {l : List Th} (h : SepB W w (T2 :: T3 :: rowT 94 4 (.slice I L.length c) L.length (i4s L) :: rowT 102 1 (.slice C K.length d) K.length (K.map clV) :: (K.reverse.map clsT ++ l))) : PgAt w I L C K := by
  refine ⟨own_SlN (h.row 2 _ _ _ _ _ rfl) (by rw [i4s_len]; omega), own_Sl (h.row 3 _ _ _ _ _ rfl) (by simp), fun x hx => ?_, own_max (h.row 2 _ _ _ _ _ rfl), own_max (h.row 3 _ _ _ _ _ rfl)⟩
  have hm : clsT x ∈ T2 :: T3 :: rowT 94 4 (.slice I L.length c) L.length (i4s L) :: rowT 102 1 (.slice C K.length d) K.length (K.map clV) :: (K.reverse.map clsT ++ l) := by
    have : clsT x ∈ K.reverse.map clsT := List.mem_map.2 ⟨x, List.mem_reverse.2 hx, rfl⟩
    simp only [List.mem_cons, List.mem_append]
    exact .inr (.inr (.inr (.inr (.inl this))))
  have ho := h.1.1 _ hm
  unfold clsT at ho
  rw [ok_row] at ho
  exact ⟨Rs.of_own (c := x.c) ho rfl, own_max ho⟩
theorem pg_of2 {W w : World} {I C : Option Addr} {L : List In4} {K : List Cs} {c d : Nat} {T2 T3 : Th} (h : SepB W w (T2 :: T3 :: rowT 94 4 (.slice I L.length c) L.length (i4s L) :: rowT 102 1 (.slice C K.length d) K.length (K.map clV) :: K.reverse.map clsT)) : PgAt w I L C K :=
  pg_of (l := []) (by rw [List.append_nil]; exact h)
end Go.Proofs.YtmiacgkidldjmaaGreatDoor
namespace Go.Proofs.YtmiacgkidldjmaaGreatDoor
open Go.RowKit Go.Lib
open Plain (Rg May mayB In Norm In4 slotsOf insB bnd riB cls cnot rightB normB)
theorem rd0_small (l : List UInt8) (h : l.length ≤ 65536) : (Plain.rd0 l).small := by
  unfold Plain.rd0 Plain.St.small; dsimp only; rw [List.length_drop, List.length_take]; simp; omega
set_option maxRecDepth 1000000 in
set_option maxHeartbeats 8000000 in
theorem get_any (s : ByteArray) (w : World) (hs : s.size ≤ 1152921504606846976) : Calls Tryz.prog 32 #[.string s] w (GetRes s.data.toList w) := by
  have hl : s.data.toList.length = s.size := by simp
  have CO := Lib.hid (fun W => open_any s 1 W hs)
  obtain ⟨l, hll⟩ : ∃ x, s.data.toList = x := ⟨_, rfl⟩
  rw [hll] at CO hl ⊢
  have hnew := (SepB.nil w).new #[.slice none 0 0, .slice none 0 0, .int .i64 0] 25 (.cells #[.slice none 0 0, .slice none 0 0, .int .i64 0] 25)
  obtain ⟨qb, hqb⟩ : ∃ x, w.heap.size = x := ⟨_, rfl⟩
  rw [hqb] at hnew
  have HN := Lib.hid hnew
  have HQB := Lib.hid hqb
  by_cases ho : Plain.openE l 1 = 0
  case neg =>
    have hg : getE l = Plain.openE l 1 := by unfold getE; rw [if_pos ho]
    have HO := Lib.hid ho
    have HG := Lib.hid hg
    obtain ⟨er, her⟩ : ∃ x, Plain.openE l 1 = x := ⟨_, rfl⟩
    have hne : er ≠ 0 := by rw [← her]; exact ho
    have d : (er != 0) = true := by simp [hne]
    have d' : (er == 0) = false := by simp [hne]
    have HER := Lib.hid her
    have HNE := Lib.hid hne
    clear hnew hqb ho hg her hll hl hne
    go_enter Tryz.func32, Tryz.ntmps32
    go_wp2_with fail
    rw [HQB.out]
    refine (CO.out _).mono ?_
    rintro _ w1 ⟨h1, _⟩
    obtain ⟨rfl, hb⟩ := h1 HO.out
    rw [HER.out]
    have hS := HN.out.below hb
    have hS2 := hS.alloc (.cells #[.pointer none] 127)
    have hB := (hS2.box 0 _ _ _ rfl).2
    have f0 := blk_frozen hB 0
    have f1 := blk_frozen hB 1
    have f2 := blk_frozen hB 2
    obtain ⟨q0, q1, q2⟩ := blk_cells3 hB
    have hS3 := ((hS2.store 0 _ _ _ rfl 0 (.slice none 0 0)).store 0 _ _ _ rfl 1 (.slice none 0 0)).store 0 _ _ _ rfl 2 (.int .i64 0)
    have HS3 := Lib.hid hS3
    clear hS hS2 hB h1 hb hS3
    go_wp2
    obtain ⟨k0, k1, k2⟩ := blk_cells3 (HS3.out.box 0 _ _ _ rfl).2
    refine bodyPost_ret (v := .tuple #[pg0, .int .i64 er]) (by simp [results, Tryz.results32, go_sem, k0, k1, k2, pg0]) rfl ?_
    unfold GetRes
    rw [HG.out, HER.out]
    exact ⟨fun _ => rfl, fun h => absurd h HNE.out, HS3.out.2⟩

  have hlen := kindE_len l (Plain.openE_zero l 1 ho).1
  have hsm0 := rd0_small l hlen.2
  obtain ⟨t0, ht0⟩ : ∃ x, Plain.rd0 l = x := ⟨_, rfl⟩
  have hge : getE l = endR ((Plain.gProg t0).st.fin l.length).bad (pgP (Plain.gProg t0).L (Plain.gProg t0).K (Plain.gProg t0).g) := by unfold getE; rw [if_neg (by simp [ho]), ht0]
  rw [ht0] at hsm0
  have hsm1 := Plain.small_section t0 1 hsm0
  obtain ⟨t1, ht1⟩ : ∃ x, t0.section 1 = x := ⟨_, rfl⟩
  rw [ht1] at hsm1
  have hm2 := Plain.number_most t1 Plain.mw
  have hsm2 := Plain.small_number t1 Plain.mw hsm1
  obtain ⟨⟨gv, t2⟩, hx2⟩ : ∃ x, t1.number Plain.mw = x := ⟨_, rfl⟩
  rw [hx2] at hm2 hsm2
  dsimp only at hm2 hsm2
  unfold Plain.mw at hm2
  have hsm3 := Plain.small_section t2 2 hsm2
  obtain ⟨t3, ht3⟩ : ∃ x, t2.section 2 = x := ⟨_, rfl⟩
  rw [ht3] at hsm3
  have hm4 := Plain.number_most t3 64
  have hsm4 := Plain.small_number t3 64 hsm3
  obtain ⟨⟨nc, t4⟩, hx4⟩ : ∃ x, t3.number 64 = x := ⟨_, rfl⟩
  rw [hx4] at hm4 hsm4
  dsimp only at hm4 hsm4
  obtain ⟨⟨t5, KR⟩, hx5⟩ : ∃ x, Plain.many (fun s : Plain.SK => s.1.bad) Plain.gClass nc (t4, []) = x := ⟨_, rfl⟩
  obtain ⟨t6, ht6⟩ : ∃ x, t5.section 3 = x := ⟨_, rfl⟩
  have hm7 := Plain.number_most t6 512
  obtain ⟨⟨ni, t7⟩, hx7⟩ : ∃ x, t6.number 512 = x := ⟨_, rfl⟩
  rw [hx7] at hm7
  dsimp only at hm7
  obtain ⟨⟨t8, L⟩, hx8⟩ : ∃ x, Plain.many (fun s : Plain.SI => s.1.bad) Plain.gInst ni (t7, []) = x := ⟨_, rfl⟩
  have hG : Plain.gProg t0 = ⟨t8, L, KR, gv⟩ := by
    unfold Plain.gProg
    dsimp only
    rw [ht1, hx2]
    dsimp only
    rw [ht3, hx4]
    dsimp only
    rw [hx5]
    dsimp only
    rw [ht6, hx7]
    dsimp only
    rw [hx8]
  rw [hG] at hge
  dsimp only at hge
  rw [hl] at hge
  have hsz : s.size ≤ 65536 := by rw [← hl]; exact hlen.2
  have CS1 := Lib.hid (fun (g rc pb : Nat) (W' : World) (h' : SepB w W' (boxT g (rdCs t0) 173 :: boxT rc #[.pointer (some ⟨g, 0, none⟩)] 127 :: boxT pb #[.slice none 0 0, .slice none 0 0, .int .i64 0] 25 :: rowT 102 1 (.slice none 0 0) 0 [] :: [boxT qb #[.slice none 0 0, .slice none 0 0, .int .i64 0] 25])) => section_sep (w := W') 0 g t0 1 h' rfl hsm0 (by decide))
  rw [ht1] at CS1
  have CN2 := Lib.hid (fun (g rc pb : Nat) (W' : World) (h' : SepB w W' (boxT g (rdCs t1) 173 :: boxT rc #[.pointer (some ⟨g, 0, none⟩)] 127 :: boxT pb #[.slice none 0 0, .slice none 0 0, .int .i64 0] 25 :: rowT 102 1 (.slice none 0 0) 0 [] :: [boxT qb #[.slice none 0 0, .slice none 0 0, .int .i64 0] 25])) => number_at (w := W') 0 g t1 Plain.mw 16777215 gv t2 h' rfl hsm1 (by decide) (by decide) hx2)
  have CS3 := Lib.hid (fun (g rc pb : Nat) (W' : World) (h' : SepB w W' (boxT g (rdCs t2) 173 :: boxT rc #[.pointer (some ⟨g, 0, none⟩)] 127 :: boxT pb #[.slice none 0 0, .slice none 0 0, .int .i64 gv] 25 :: rowT 102 1 (.slice none 0 0) 0 [] :: [boxT qb #[.slice none 0 0, .slice none 0 0, .int .i64 0] 25])) => section_sep (w := W') 0 g t2 2 h' rfl hsm2 (by decide))
  rw [ht3] at CS3
  have CN4 := Lib.hid (fun (g rc pb : Nat) (W' : World) (h' : SepB w W' (boxT g (rdCs t3) 173 :: boxT rc #[.pointer (some ⟨g, 0, none⟩)] 127 :: boxT pb #[.slice none 0 0, .slice none 0 0, .int .i64 gv] 25 :: rowT 102 1 (.slice none 0 0) 0 [] :: [boxT qb #[.slice none 0 0, .slice none 0 0, .int .i64 0] 25])) => number_at (w := W') 0 g t3 64 64 nc t4 h' rfl hsm3 (by decide) (by decide) hx4)
  have CM5 := Lib.hid (fun (g rc pb : Nat) (W' : World) (h' : SepB w W' (LK g rc pb t4 [] (.slice none 0 0) (.slice none 0 0) gv [boxT qb #[.slice none 0 0, .slice none 0 0, .int .i64 0] 25])) =>
    many_any (fun k (s : Plain.SK) W' => s.1.small ∧ s.2.length ≤ k ∧ Post64 w g rc pb (.slice none 0 0) gv [boxT qb #[.slice none 0 0, .slice none 0 0, .int .i64 0] 25] s.1 s.2 W') (fun s => s.1.bad) Plain.gClass g 64 nc #[.pointer (some ⟨rc, 0, none⟩), .pointer (some ⟨pb, 0, none⟩)] (t4, []) W' (by omega) (fun W => enter64 _ W)
      (fun k s W' hI => by
        obtain ⟨_, _, K, v1, _, hS⟩ := hI
        exact (blk_cells5 (hS.box 0 _ _ _ rfl).2).2.2.2.2)
      (fun k s W' hk hI _ => by
        obtain ⟨hsm, hle, K, v1, hK, hS⟩ := hI
        obtain ⟨ts, Ks⟩ := s
        dsimp only at hK hle
        subst hK
        rw [List.length_map] at hle
        refine (cl64_any ts K (.slice none 0 0) v1 gv g rc pb [boxT qb #[.slice none 0 0, .slice none 0 0, .int .i64 0] 25] hS hsm (by omega)).mono ?_
        rintro e w' ⟨rfl, hP⟩
        refine ⟨rfl, gClass_small ts _ hsm, ?_, hP⟩
        rw [gClass_len, List.length_map]; omega)
      ⟨hsm4, by simp, [], _, rfl, h'⟩)
  rw [hx5] at CM5
  have CS6 := Lib.hid (fun (g rc pb : Nat) (K : List Cs) (v1 : Value) (W' : World) (hs5 : t5.small) (h' : SepB w W' (boxT g (rdCs t5) 173 :: boxT rc #[.pointer (some ⟨g, 0, none⟩)] 127 :: boxT pb #[(.slice none 0 0), v1, .int .i64 gv] 25 :: rowT 94 4 (.slice none 0 0) 0 [] :: rowT 102 1 v1 K.length (K.map clV) :: (K.reverse.map clsT ++ [boxT qb #[.slice none 0 0, .slice none 0 0, .int .i64 0] 25]))) => section_sep (w := W') 0 g t5 3 h' rfl hs5 (by decide))
  rw [ht6] at CS6
  have CN7 := Lib.hid (fun (g rc pb : Nat) (K : List Cs) (v1 : Value) (W' : World) (hs6 : t6.small) (h' : SepB w W' (boxT g (rdCs t6) 173 :: boxT rc #[.pointer (some ⟨g, 0, none⟩)] 127 :: boxT pb #[(.slice none 0 0), v1, .int .i64 gv] 25 :: rowT 94 4 (.slice none 0 0) 0 [] :: rowT 102 1 v1 K.length (K.map clV) :: (K.reverse.map clsT ++ [boxT qb #[.slice none 0 0, .slice none 0 0, .int .i64 0] 25]))) => number_at (w := W') 0 g t6 512 512 ni t7 h' rfl hs6 (by decide) (by decide) hx7)
  have CM8 := Lib.hid (fun (g rc pb : Nat) (more : List Th) (v1 : Value) (W' : World) (hs7 : t7.small) (h' : SepB w W' (boxT g (rdCs t7) 173 :: boxT rc #[.pointer (some ⟨g, 0, none⟩)] 127 :: boxT pb #[.slice none 0 0, v1, .int .i64 gv] 25 :: rowT 94 4 (.slice none 0 0) ([] : List In4).length (i4s []) :: more)) =>
    many_any (fun k (s : Plain.SI) W' => s.1.small ∧ s.2.length ≤ k ∧ Post66 w g rc pb v1 gv more s.1 s.2 W') (fun s => s.1.bad) Plain.gInst g 66 ni #[.pointer (some ⟨rc, 0, none⟩), .pointer (some ⟨pb, 0, none⟩)] (t7, []) W' (by omega) (fun W => enter66 _ W)
      (fun k s W' hI => by
        obtain ⟨_, _, v0, hS⟩ := hI
        exact (blk_cells5 (hS.box 0 _ _ _ rfl).2).2.2.2.2)
      (fun k s W' hk hI _ => by
        obtain ⟨hsm, hle, v0, hS⟩ := hI
        obtain ⟨ts, Ls⟩ := s
        try dsimp only at hle
        refine (cl66_any ts Ls v0 v1 gv g rc pb more hS hsm (by omega)).mono ?_
        rintro e w' ⟨rfl, hP⟩
        refine ⟨rfl, tS_small ts hsm 4, ?_, hP⟩
        rw [gInst_eq, List.length_append]; simp; omega)
      ⟨hs7, by simp, _, h'⟩)
  rw [hx8] at CM8
  have HGE := Lib.hid hge
  have HGP := Lib.hid hG
  have HT0 := Lib.hid ht0
  have HS6 := Lib.hid (fun h : t5.small => (show t6.small from ht6 ▸ Plain.small_section t5 3 h))
  have HS7 := Lib.hid (fun h : t6.small => (show t7.small from by have := Plain.small_number t6 512 h; rw [hx7] at this; exact this))
  have HO := Lib.hid ho
  clear hnew hqb ho hll hl hlen hsm0 ht0 hge hsm1 ht1 hsm2 hx2 hsm3 ht3 hsm4 hx4 hx5 ht6 hx7 hx8 hG
  go_enter Tryz.func32, Tryz.ntmps32
  go_wp2_with fail
  rw [HQB.out]
  refine (CO.out _).mono ?_
  rintro _ w1 ⟨_, h1⟩
  obtain ⟨g, rfl, hS1⟩ := h1 HO.out
  rw [HT0.out] at hS1
  have hS2 := hS1.rebase HN.out
  have hS3 := hS2.new #[.pointer (some ⟨g, 0, none⟩)] 127 (.cells #[.pointer (some ⟨g, 0, none⟩)] 127)
  have hS4 := hS3.new #[.slice none 0 0, .slice none 0 0, .int .i64 0] 25 (.cells #[.slice none 0 0, .slice none 0 0, .int .i64 0] 25)
  rw [show (w1.alloc (.cells #[.pointer (some ⟨g, 0, none⟩)] 127)).heap.size = w1.heap.size + 1 by simp] at hS4
  obtain ⟨rc, hrc⟩ : ∃ x, w1.heap.size = x := ⟨_, rfl⟩
  rw [hrc] at hS4
  obtain ⟨pb, hpb⟩ : ∃ x, rc + 1 = x := ⟨_, rfl⟩
  rw [hpb] at hS4
  have HS := Lib.hid (show SepB w _ (boxT g (rdCs t0) 173 :: boxT rc #[.pointer (some ⟨g, 0, none⟩)] 127 :: boxT pb #[.slice none 0 0, .slice none 0 0, .int .i64 0] 25 :: rowT 102 1 (.slice none 0 0) 0 [] :: [boxT qb #[.slice none 0 0, .slice none 0 0, .int .i64 0] 25]) from (hS4.rev3.empty 102 1).to3)
  have HRC := Lib.hid hrc
  have HPB := Lib.hid hpb
  clear hS1 hS2 hS3 hS4 h1 hrc hpb
  go_upto_region 5 with fail
  rw [HRC.out, HPB.out]
  obtain ⟨w2, hw2⟩ : ∃ x, (w1.alloc (.cells #[.pointer (some ⟨g, 0, none⟩)] 127)).alloc (.cells #[.slice none 0 0, .slice none 0 0, .int .i64 0] 25) = x := ⟨_, rfl⟩
  rw [hw2] at HS ⊢
  clear hw2
  have x0 := blk1 (HS.out.box 1 _ _ _ rfl).2
  go_wp2_with fail
  clear x0
  refine (CS1.out g rc pb _ HS.out).mono ?_
  rintro _ w3 ⟨rfl, hS, _⟩
  clear HS
  have HS := Lib.hid (show SepB w w3 (boxT g (rdCs t1) 173 :: boxT rc #[.pointer (some ⟨g, 0, none⟩)] 127 :: boxT pb #[.slice none 0 0, .slice none 0 0, .int .i64 0] 25 :: rowT 102 1 (.slice none 0 0) 0 [] :: [boxT qb #[.slice none 0 0, .slice none 0 0, .int .i64 0] 25]) from hS)
  clear hS
  have x0 := blk1 (HS.out.box 1 _ _ _ rfl).2
  go_wp2_with fail
  clear x0
  refine (CN2.out g rc pb _ HS.out).mono ?_
  rintro _ w4 ⟨rfl, hS, _⟩
  have hS : SepB w w4 (boxT g (rdCs t2) 173 :: boxT rc #[.pointer (some ⟨g, 0, none⟩)] 127 :: boxT pb #[.slice none 0 0, .slice none 0 0, .int .i64 0] 25 :: rowT 102 1 (.slice none 0 0) 0 [] :: [boxT qb #[.slice none 0 0, .slice none 0 0, .int .i64 0] 25]) := hS
  have hB := (hS.box 2 _ _ _ rfl).2
  have f2 := blk_frozen hB 2
  obtain ⟨p0, p1, p2⟩ := blk_cells3 hB
  clear HS
  have HS := Lib.hid (show SepB w _ (boxT g (rdCs t2) 173 :: boxT rc #[.pointer (some ⟨g, 0, none⟩)] 127 :: boxT pb #[.slice none 0 0, .slice none 0 0, .int .i64 gv] 25 :: rowT 102 1 (.slice none 0 0) 0 [] :: [boxT qb #[.slice none 0 0, .slice none 0 0, .int .i64 0] 25]) from hS.store 2 pb _ 25 rfl 2 (.int .i64 (gv : Int)))
  clear hS hB
  go_upto_region 7 with fail
  clear p0 p1 p2 f2
  obtain ⟨w5, hw5⟩ : ∃ x, w4.setCell ⟨pb, 2, none⟩ (.int .i64 (gv : Int)) = x := ⟨_, rfl⟩
  rw [hw5] at HS ⊢
  clear hw5
  have x0 := blk1 (HS.out.box 1 _ _ _ rfl).2
  go_wp2_with fail
  clear x0
  refine (CS3.out g rc pb _ HS.out).mono ?_
  rintro _ w6 ⟨rfl, hS, _⟩
  clear HS
  have HS := Lib.hid (show SepB w w6 (boxT g (rdCs t3) 173 :: boxT rc #[.pointer (some ⟨g, 0, none⟩)] 127 :: boxT pb #[.slice none 0 0, .slice none 0 0, .int .i64 gv] 25 :: rowT 102 1 (.slice none 0 0) 0 [] :: [boxT qb #[.slice none 0 0, .slice none 0 0, .int .i64 0] 25]) from hS)
  clear hS
  go_wp2_with fail
  obtain ⟨wd, hwd⟩ : ∃ x, w6.drew = x := ⟨_, rfl⟩
  have hS' := HS.out.drew
  rw [hwd] at hS'
  have HD := Lib.hid hS'
  have HF := Lib.hid (fun (w' : World) (h : wd.grownBy w' (some g)) => blk1 (gr_blk h (HD.out.box 1 _ _ _ rfl).2 (HD.out.ne 0 1 _ _ _ _ _ _ (by decide) rfl rfl).symm))
  have HG0 := Lib.hid (gr_refl wd (some g))
  clear hS' HS
  refine wp_region_noPanic ?_
  refine wp_region_T 4 (S := fun w' : World => wd.grownBy w' (some g)) (by kernel_rfl) (by decide) ?_
  rw [hwd]
  clear hwd
  refine wpAnyT_take2 0 (v := ?tvq0) (by kernel_rfl) rfl (by kernel_rfl) (fun _ _ _ h => h) (Or.inl ⟨by rfl, ?tyq0⟩) HG0.out ?trq0
  case tyq0 => (intro w' hSw; have x0 := HF.out w' hSw; (try dsimp only at hSw); go_simp; try with_reducible rfl)
  try simp only [Act.put, List.setIfInBounds_toArray, List.set_cons_zero, List.set_cons_succ]
  refine wpAnyT_take2 1 (v := ?tvq1) (by kernel_rfl) rfl (by kernel_rfl) (fun _ _ _ h => h) (Or.inl ⟨by rfl, ?tyq1⟩) HG0.out ?trq1
  case tyq1 => (intro w' hSw; have x0 := HF.out w' hSw; (try dsimp only at hSw); go_simp; try with_reducible rfl)
  try simp only [Act.put, List.setIfInBounds_toArray, List.set_cons_zero, List.set_cons_succ]
  refine wpAnyT_take2 3 (v := ?tvq3) (by kernel_rfl) rfl (by kernel_rfl) (fun _ _ _ h => h) (Or.inl ⟨by rfl, ?tyq3⟩) HG0.out ?trq3
  case tyq3 => (intro w' hSw; (try dsimp only at hSw); go_simp; try with_reducible rfl)
  try simp only [Act.put, List.setIfInBounds_toArray, List.set_cons_zero, List.set_cons_succ]
  refine wpAnyT_one2 2 rfl (by kernel_rfl) ?_
  intro K' hK'
  rw [if_pos (by rfl)]
  have HK := Lib.hid hK'
  clear hK'
  go_wp2_with (go_at_call 62; refine (CN4.out g rc pb _ HD.out).mono ?_; rintro _ w5 ⟨rfl, hS5, hg5⟩)
  have HS5 := Lib.hid hS5
  have HG5 := Lib.hid hg5
  clear hS5 hg5
  refine HK.out _ _ ⟨HG5.out, ?_⟩
  clear HK K'
  try simp only [Act.put, List.setIfInBounds_toArray, List.set_cons_zero, List.set_cons_succ]
  refine ⟨by kernel_rfl, ?_⟩
  change wpList _ _ _ [_] _ _
  go_wp2_with fail
  refine (CM5.out g rc pb _ HS5.out).mono ?_
  rintro _ w7 ⟨rfl, kk, hkk, hs5, hkl, K, v1, hK, hS⟩
  try dsimp only at hS
  clear HD HF HG0 HS5 HG5
  have HK := Lib.hid hK
  have HS := Lib.hid (show SepB w w7 (boxT g (rdCs t5) 173 :: boxT rc #[.pointer (some ⟨g, 0, none⟩)] 127 :: boxT pb #[(.slice none 0 0), v1, .int .i64 gv] 25 :: rowT 94 4 (.slice none 0 0) 0 [] :: rowT 102 1 v1 K.length (K.map clV) :: (K.reverse.map clsT ++ [boxT qb #[.slice none 0 0, .slice none 0 0, .int .i64 0] 25])) from ((hS.empty 94 4).to3))
  have hs6 := HS6.out hs5
  have HSM5 := Lib.hid hs5
  have HSM6 := Lib.hid hs6
  have HSM7 := Lib.hid (HS7.out hs6)
  clear hS hK hs5 hs6 hkl
  have x0 := blk1 (HS.out.box 1 _ _ _ rfl).2
  go_wp2_with fail
  refine NoPanic.normal ?_
  go_wp2_with fail
  clear x0
  refine (CS6.out g rc pb K v1 _ HSM5.out HS.out).mono ?_
  rintro _ w8 ⟨rfl, hS, _⟩
  clear HS
  have HS := Lib.hid (show SepB w w8 (boxT g (rdCs t6) 173 :: boxT rc #[.pointer (some ⟨g, 0, none⟩)] 127 :: boxT pb #[(.slice none 0 0), v1, .int .i64 gv] 25 :: rowT 94 4 (.slice none 0 0) 0 [] :: rowT 102 1 v1 K.length (K.map clV) :: (K.reverse.map clsT ++ [boxT qb #[.slice none 0 0, .slice none 0 0, .int .i64 0] 25])) from hS)
  clear hS
  go_wp2_with fail
  obtain ⟨wd, hwd⟩ : ∃ x, w8.drew = x := ⟨_, rfl⟩
  have hS' := HS.out.drew
  rw [hwd] at hS'
  have HD := Lib.hid hS'
  have HF := Lib.hid (fun (w' : World) (h : wd.grownBy w' (some g)) => blk1 (gr_blk h (HD.out.box 1 _ _ _ rfl).2 (HD.out.ne 0 1 _ _ _ _ _ _ (by decide) rfl rfl).symm))
  have HG0 := Lib.hid (gr_refl wd (some g))
  clear hS' HS
  refine wp_region_noPanic ?_
  refine wp_region_T 4 (S := fun w' : World => wd.grownBy w' (some g)) (by kernel_rfl) (by decide) ?_
  rw [hwd]
  clear hwd
  refine wpAnyT_take2 0 (v := ?tvp0) (by kernel_rfl) rfl (by kernel_rfl) (fun _ _ _ h => h) (Or.inl ⟨by rfl, ?typ0⟩) HG0.out ?trp0
  case typ0 => (intro w' hSw; have x0 := HF.out w' hSw; (try dsimp only at hSw); go_simp; try with_reducible rfl)
  try simp only [Act.put, List.setIfInBounds_toArray, List.set_cons_zero, List.set_cons_succ]
  refine wpAnyT_take2 1 (v := ?tvp1) (by kernel_rfl) rfl (by kernel_rfl) (fun _ _ _ h => h) (Or.inl ⟨by rfl, ?typ1⟩) HG0.out ?trp1
  case typ1 => (intro w' hSw; have x0 := HF.out w' hSw; (try dsimp only at hSw); go_simp; try with_reducible rfl)
  try simp only [Act.put, List.setIfInBounds_toArray, List.set_cons_zero, List.set_cons_succ]
  refine wpAnyT_take2 3 (v := ?tvp3) (by kernel_rfl) rfl (by kernel_rfl) (fun _ _ _ h => h) (Or.inl ⟨by rfl, ?typ3⟩) HG0.out ?trp3
  case typ3 => (intro w' hSw; (try dsimp only at hSw); go_simp; try with_reducible rfl)
  try simp only [Act.put, List.setIfInBounds_toArray, List.set_cons_zero, List.set_cons_succ]
  refine wpAnyT_one2 2 rfl (by kernel_rfl) ?_
  intro K' hK'
  rw [if_pos (by rfl)]
  have HK := Lib.hid hK'
  clear hK'
  go_wp2_with (go_at_call 62; refine (CN7.out g rc pb K v1 _ HSM6.out HD.out).mono ?_; rintro _ w5 ⟨rfl, hS5, hg5⟩)
  have HS5 := Lib.hid hS5
  have HG5 := Lib.hid hg5
  clear hS5 hg5
  refine HK.out _ _ ⟨HG5.out, ?_⟩
  clear HK K'
  try simp only [Act.put, List.setIfInBounds_toArray, List.set_cons_zero, List.set_cons_succ]
  refine ⟨by kernel_rfl, ?_⟩
  change wpList _ _ _ [_] _ _
  go_wp2_with fail
  refine (CM8.out g rc pb _ v1 _ HSM7.out HS5.out).mono ?_
  rintro _ w9 ⟨rfl, k2, hk2, hs8, hkl2, v0, hS⟩
  try dsimp only at hS
  clear HD HF HG0 HS5 HG5
  obtain ⟨I, c, C, d, rfl, rfl, hP⟩ := sep_pg hS
  have HS := Lib.hid hS
  have HP := Lib.hid hP
  clear hS hP
  go_wp2_with fail
  refine NoPanic.normal ?_
  have hfin : (t8.fin s.size).bad = (t8.fin s.size).bad := rfl
  have hb := HS.out.box 2 _ _ _ rfl
  have hR := HS.out.box 0 _ _ _ rfl
  have hrest := fun (W' : World) (hg : w9.grownBy W' (some g)) => HS.out.rest (w' := W') hg
  have hpP : pgR L K gv = pgP L KR gv := by rw [pgP_eq, HK.out]
  have CE := Lib.hid (rend_any g t8 s.size 68 #[.pointer (some ⟨pb, 0, none⟩)] (pgP L KR gv) w9 hR.2 hs8 (by omega) (fun W => enter68 _ W) (fun W hg => by
    have hr := hrest W hg
    have hB := (hr.box 1 _ _ _ rfl).2
    have hP := pg_of hr
    rw [← hpP]
    exact cl68_any I C L K c d gv pb W hP hB))
  have HRS := Lib.hid hrest
  obtain ⟨er, her⟩ : ∃ x, getE l = x := ⟨_, rfl⟩
  have hge := HGE.out
  rw [her] at hge
  rw [← hge] at CE
  have HER := Lib.hid her
  have x0 := blk1 (HS.out.box 1 _ _ _ rfl).2
  clear hb hR hrest hpP hge her hfin hs8 hkl2
  go_wp2_with fail
  clear x0
  refine CE.out.mono ?_
  rintro _ w10 ⟨rfl, hg⟩
  have hr := HRS.out w10 hg
  have HP10 := Lib.hid (pg_of hr)
  have hq : SepB w w10 (boxT qb #[.slice none 0 0, .slice none 0 0, .int .i64 0] 25 :: (boxT rc #[.pointer (some ⟨g, 0, none⟩)] 127 :: boxT pb #[.slice I L.length c, .slice C K.length d, .int .i64 gv] 25 :: rowT 94 4 (.slice I L.length c) L.length (i4s L) :: rowT 102 1 (.slice C K.length d) K.length (K.map clV) :: K.reverse.map clsT)) := by
    refine hr.perm ?_
    have : ∀ (A : List Th) (q : Th), (A ++ [q]).Perm (q :: A) := fun A q => List.perm_append_comm (l₁ := A) (l₂ := [q])
    exact this (boxT rc #[.pointer (some ⟨g, 0, none⟩)] 127 :: boxT pb #[.slice I L.length c, .slice C K.length d, .int .i64 gv] 25 :: rowT 94 4 (.slice I L.length c) L.length (i4s L) :: rowT 102 1 (.slice C K.length d) K.length (K.map clV) :: K.reverse.map clsT) (boxT qb #[.slice none 0 0, .slice none 0 0, .int .i64 0] 25)
  have hB := (hq.box 0 _ _ _ rfl).2
  have hPB := (hq.box 2 _ _ _ rfl).2
  have f0 := blk_frozen hB 0
  have f1 := blk_frozen hB 1
  have f2 := blk_frozen hB 2
  obtain ⟨q0, q1, q2⟩ := blk_cells3 hB
  obtain ⟨p0, p1, p2⟩ := blk_cells3 hPB
  have HQ := Lib.hid hq
  clear hg hr hq hB hPB
  by_cases hz : er = 0
  · subst hz
    have hP2 := (HQ.out.rest (w' := ((w10.setCell ⟨qb, 0, none⟩ (.slice I L.length c)).setCell ⟨qb, 1, none⟩ (.slice C K.length d)).setCell ⟨qb, 2, none⟩ (.int .i64 gv)) (gr_trans (gr_trans (gr_set _ _ _ _) (gr_set _ _ _ _)) (gr_set _ _ _ _)))
    have HPF := Lib.hid (pg_of2 hP2)
    have hS3 := ((HQ.out.store 0 _ _ _ rfl 0 (.slice I L.length c)).store 0 _ _ _ rfl 1 (.slice C K.length d)).store 0 _ _ _ rfl 2 (.int .i64 gv)
    have HS3 := Lib.hid hS3
    clear hP2 hS3
    go_wp2
    obtain ⟨k0, k1, k2⟩ := blk_cells3 (HS3.out.box 0 _ _ _ rfl).2
    refine bodyPost_ret (v := .tuple #[pgV I L.length c C K.length d gv, .int .i64 0]) (by simp [results, Tryz.results32, go_sem, k0, k1, k2, pgV]) rfl ?_
    unfold GetRes
    rw [HER.out, HT0.out, HGP.out]
    exact ⟨fun h => absurd rfl h, fun _ => ⟨I, c, C, d, K, HK.out, rfl, HPF.out⟩, HS3.out.2⟩
  · have d1 : (er != 0) = true := by simp [hz]
    have d2 : (er == 0) = false := by simp [hz]
    have HZ := Lib.hid hz
    have hS3 := ((HQ.out.store 0 _ _ _ rfl 0 (.slice none 0 0)).store 0 _ _ _ rfl 1 (.slice none 0 0)).store 0 _ _ _ rfl 2 (.int .i64 0)
    have HS3 := Lib.hid hS3
    clear hS3 hz
    go_wp2
    obtain ⟨k0, k1, k2⟩ := blk_cells3 (HS3.out.box 0 _ _ _ rfl).2
    refine bodyPost_ret (v := .tuple #[pg0, .int .i64 er]) (by simp [results, Tryz.results32, go_sem, k0, k1, k2, pg0]) rfl ?_
    unfold GetRes
    rw [HER.out]
    exact ⟨fun _ => rfl, fun h => absurd h HZ.out, HS3.out.2⟩
end Go.Proofs.YtmiacgkidldjmaaGreatDoor
