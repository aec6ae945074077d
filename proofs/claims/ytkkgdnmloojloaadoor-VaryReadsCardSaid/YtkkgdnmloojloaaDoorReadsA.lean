/- Chapter 2: the document's readers, and a reader as the document's: what the code computes. Conditions: what each lemma says. -/
import Derived.Test.YtkkgdnmloojloaaDoorOneW
import Derived.Deep.RegionHeld3
import Derived.BigQuiet
import Derived.Deep.QuietTactic
import Derived.Laws.StructEq
set_option linter.unusedVariables false
set_option linter.unusedSimpArgs false
namespace Go.Proofs.YtkkgdnmloojloaaDoor
open Go.RowKit Go.Lib

theorem rfail_any (s : ByteArray) (e0 e : Int) (w : World) :
    Calls Tryd.prog 50 #[rdV s e0, .int .i64 e] w fun en w' => en = .returned (rdV ⟨#[]⟩ (if e0 = 0 then e else e0)) ∧ Below w.heap.size w w' := by
  unfold rdV
  by_cases h : e0 = 0
  · subst h
    rw [if_pos rfl]
    go_enter Tryd.func50, Tryd.ntmps50
    go_wp2
    have hb : ((w.alloc (.cells #[.string s, .int .i64 0] 31)).alloc (.cells #[.string ⟨#[]⟩, .int .i64 e] 31)).heap[w.heap.size + 1]? = some (.cells #[.string ⟨#[]⟩, .int .i64 e] 31 (0, 0)) := heap_alloc_new2 _ _ _ _ (by simp)
    obtain ⟨m0, m1⟩ := blk2 hb
    exact bodyPost_ret (v := .agg #[.string ⟨#[]⟩, .int .i64 e]) (by simp [results, Tryd.results50, go_sem, m0, m1]) rfl ⟨rfl, ((Below.refl _ _).alloc (Nat.le_refl _) _).alloc (by simp) _⟩
  · rw [if_neg h]
    have h1 : (!(e0 == 0)) = true := by simp [h]
    go_enter Tryd.func50, Tryd.ntmps50
    go_wp2
    have hb : ((w.alloc (.cells #[.string s, .int .i64 e0] 31)).alloc (.cells #[.string ⟨#[]⟩, .int .i64 e0] 31)).heap[w.heap.size + 1]? = some (.cells #[.string ⟨#[]⟩, .int .i64 e0] 31 (0, 0)) := heap_alloc_new2 _ _ _ _ (by simp)
    obtain ⟨m0, m1⟩ := blk2 hb
    exact bodyPost_ret (v := .agg #[.string ⟨#[]⟩, .int .i64 e0]) (by simp [results, Tryd.results50, go_sem, m0, m1]) rfl ⟨rfl, ((Below.refl _ _).alloc (Nat.le_refl _) _).alloc (by simp) _⟩

theorem rfailR_any (r : Plain.Rd) (e : Int) (w : World) : Calls Tryd.prog 50 #[rdOf r, .int .i64 e] w fun en w' => en = .returned (rdOf (r.fail e)) ∧ Below w.heap.size w w' := by
  refine (rfail_any (str r.rest) r.e e w).mono ?_
  rintro en w' ⟨rfl, hb⟩
  refine ⟨?_, hb⟩
  unfold rdOf Plain.Rd.fail
  by_cases h : r.e = 0
  · rw [if_pos h, if_pos h]; rfl
  · rw [if_neg h, if_neg h]; rfl

set_option maxRecDepth 100000 in
set_option maxHeartbeats 1000000 in
theorem rput_any (n : Nat) (w : World) (hn : n < 18446744073709551616) :
    Calls Tryd.prog 18 #[.int .u64 n] w fun e w' => e = .returned (.string ⟨(Plain.putL n).toArray⟩) ∧ Below w.heap.size w w' := by
  have hl10 := (Plain.putL_len10 n hn).2
  obtain ⟨tot, htot⟩ : ∃ l, Plain.putL n = l := ⟨_, rfl⟩
  rw [htot] at hl10 ⊢
  have HTOT := Lib.hid htot
  clear htot
  obtain ⟨i8, hi8, y0, y1, y2⟩ := info_parts info5
  go_enter Tryd.func18, Tryd.ntmps18
  go_wp2_with fail
  go_loopw [0, 3] (fun a b wr => ∃ (m : Nat) (xs : List UInt8) (u : Value), u = b ∧ a = .int .u64 m ∧ m < 18446744073709551616 ∧ tot = xs ++ Plain.putL m ∧ Below w.heap.size w wr ∧ wr.ownsRow w.heap.size 5 1 u xs.length (u8s (nb xs))) (fun a _ _ => (RowKit.intOf a).toNat)
  case atStart => exact ⟨n, [], _, rfl, rfl, hn, HTOT.out.symm, Below.refl _ _, World.ownsRow_nil _ _ _ _⟩
  case round =>
    obtain ⟨m, xs, u, rfl, rfl, hm, ht, hB, hU⟩ := hrel
    have hxl : xs.length ≤ 9 := by
      have := congrArg List.length ht
      rw [List.length_append] at this
      have := List.length_pos_iff.2 (Plain.putL_ne m)
      omega
    have HU := Lib.hid hU
    have HB := Lib.hid hB
    have hsz := hB.size
    by_cases hlt : m < 128
    · rw [Plain.putL_small m hlt] at ht
      have htt : u8s (nb tot) = u8s (nb xs) ++ [.int .u8 (m : Int)] := by
        rw [ht]; unfold nb u8s; rw [List.map_append, List.map_append]
        simp only [List.map_cons, List.map_nil]
        rw [Plain.ofNat_toNat m (by omega)]
      have HTT := Lib.hid htt
      clear ht htt hU hB
      have hwm : (m : Int) % 256 = (m : Int) := by omega
      go_wp2_with (at_builtin; refine wpList_append_own2 _ rfl (.tmp 15) (.tmp 18) _ rfl w.heap.size 5 i8 _ 1 1 Tryd.underlying53 hi8 y0 y1 y2 rfl (by decide) u xs.length (u8s (nb xs)) rfl (HU.out.alloc _) ⟨wr.heap.size, 0, none⟩ 1 1 [.int .u8 (m : Int)] rfl rfl ?c1 ?c2 ?c3 ?c4 ?c5 ?_)
      case c1 => exact CellsAt_add (CellsAt.new wr _ _)
      case c2 => intro u hu; simp only [List.mem_cons, List.not_mem_nil, or_false] at hu; subst hu; rfl
      case c3 => simp only [maxLen]; omega
      case c4 => omega
      case c5 => simp; omega
      intro v3 w7 hown2 hg2 _
      have hBn : Below w.heap.size w w7 := (HB.out.alloc HB.out.size _).grown hg2 (by simp; omega) (fun g hg => (HU.out.lt g hg).1)
      rw [← HTT.out] at hown2
      obtain ⟨ua, uc, rfl⟩ := own_slice hown2
      have hcv := conv_bytes hown2
      rw [bstr_nb] at hcv
      have HBn := Lib.hid hBn
      clear hBn hg2 hown2
      go_wp2
      go_ret
      exact ⟨rfl, HBn.out⟩
    · have hst : u8s (nb (xs ++ [UInt8.ofNat (m % 128 + 128)])) = u8s (nb xs) ++ [.int .u8 ((m % 128 + 128 : Nat) : Int)] := by
        unfold nb u8s; rw [List.map_append, List.map_append]
        simp only [List.map_cons, List.map_nil]
        rw [Plain.ofNat_toNat _ (by omega)]
      have hto : tot = (xs ++ [UInt8.ofNat (m % 128 + 128)]) ++ Plain.putL (m / 128) := by rw [ht, Plain.putL_big m hlt, List.append_assoc]; rfl
      obtain ⟨k, hk⟩ : ∃ k, m % 128 + 128 = k := ⟨_, rfl⟩
      rw [hk] at hst hto
      have HST := Lib.hid hst
      have HTO := Lib.hid hto
      have hor : ((m : Int) % 128 + 128) = (k : Int) := by omega
      have hor2 : (k : Int) % 256 = (k : Int) := by omega
      clear hst hto ht hU hB hk
      go_wp2_with (at_builtin; refine wpList_append_own2 _ rfl (.tmp 6) (.tmp 11) _ rfl w.heap.size 5 i8 _ 1 1 Tryd.underlying53 hi8 y0 y1 y2 rfl (by decide) u xs.length (u8s (nb xs)) rfl (HU.out.alloc _) ⟨wr.heap.size, 0, none⟩ 1 1 [.int .u8 k] rfl rfl ?c1 ?c2 ?c3 ?c4 ?c5 ?_)
      case c1 => exact CellsAt_add (CellsAt.new wr _ _)
      case c2 => intro u hu; simp only [List.mem_cons, List.not_mem_nil, or_false] at hu; subst hu; rfl
      case c3 => simp only [maxLen]; omega
      case c4 => omega
      case c5 => simp; omega
      intro v3 w7 hown2 hg2 _
      have hBn : Below w.heap.size w w7 := (HB.out.alloc HB.out.size _).grown hg2 (by simp; omega) (fun g hg => (HU.out.lt g hg).1)
      have HBn := Lib.hid hBn
      have HO := Lib.hid hown2
      clear hBn hg2 hown2
      go_wp2
      go_roundw
      case rel => exact ⟨m / 128, xs ++ [UInt8.ofNat k], _, rfl, rfl, by omega, HTO.out, HBn.out, by rw [HST.out, List.length_append]; exact HO.out⟩
      case measure => simp [RowKit.intOf]; omega

set_option maxRecDepth 100000 in
set_option maxHeartbeats 1000000 in
theorem rbytes_any (r : Plain.Rd) (many : Int) (w : World) (hr : r.rest.length ≤ 1152921504606846976) : Calls Tryd.prog 25 #[rdOf r, .int .i64 many] w fun e w' => e = .returned (bytesV r many) ∧ Below w.heap.size w w' := by
  obtain ⟨l, e⟩ := r
  dsimp only at hr
  by_cases hok : e = 0 ∧ 0 ≤ many ∧ many ≤ l.length
  · obtain ⟨rfl, h0, h1⟩ := hok
    obtain ⟨k, rfl⟩ : ∃ k : Nat, many = k := ⟨many.toNat, by omega⟩
    have hv : bytesV ⟨l, 0⟩ k = .tuple #[.string (str (l.take k)), .agg #[.string (str (l.drop k)), .int .i64 0]] := by
      unfold bytesV Plain.Rd.bytes rdOf rdV
      rw [if_pos ⟨rfl, h0, h1⟩, Int.toNat_natCast]
    rw [hv]
    rw [← str_take l k, ← str_drop l k]
    unfold rdOf rdV
    dsimp only
    have hsz := str_size l
    obtain ⟨s, hs⟩ : ∃ s, str l = s := ⟨_, rfl⟩
    rw [hs] at hsz ⊢
    have hk0 : (0 : Int) ≤ (k : Int) := by omega
    have hk1 : (k : Int) ≤ (s.size : Int) := by omega
    have hsb : s.size ≤ 1152921504606846976 := by omega
    clear hv hs hsz h1 h0 hr
    have d1 : decide ((s.size : Int) < (k : Int)) = false := by simp; omega
    have d2 : decide (s.size < k) = false := by simp; omega
    go_enter Tryd.func25, Tryd.ntmps25
    go_wp2_with fail
    go_region_held3 (fun w' => w'.cell? ⟨w.heap.size, 0, none⟩ = some (.string s)) (go_keep) (fail)
    all_goals go_wp2
    all_goals
      have hb : ((w.alloc (.cells #[.string s, .int .i64 0] 31)).alloc (.cells #[.string (s.extract k s.size), .int .i64 0] 31)).drew.heap[w.heap.size + 1]? = some (.cells #[.string (s.extract k s.size), .int .i64 0] 31 (0, 0)) := heap_alloc_new2 _ _ _ _ (by simp)
      obtain ⟨m0, m1⟩ := blk2 hb
      exact bodyPost_ret (v := .tuple #[.string (s.extract 0 k), .agg #[.string (s.extract k s.size), .int .i64 0]]) (by simp [results, Tryd.results25, go_sem, m0, m1]) rfl ⟨rfl, (((Below.refl _ _).alloc (Nat.le_refl _) _).alloc (by simp) _).drew⟩
  · have hv : bytesV ⟨l, e⟩ many = .tuple #[.string ⟨#[]⟩, .agg #[.string ⟨#[]⟩, .int .i64 (if e = 0 then 4 else e)]] := by
      unfold bytesV Plain.Rd.bytes rdOf rdV
      rw [if_neg hok]
      dsimp only [Plain.Rd.fail]
      by_cases h : e = 0
      · rw [if_pos h, if_pos h]; rfl
      · rw [if_neg h, if_neg h]; rfl
    rw [hv]
    have cF := rfail_any (str l) e 4
    unfold rdOf rdV
    unfold rdV at cF
    dsimp only
    have hsz := str_size l
    obtain ⟨s, hs⟩ : ∃ s, str l = s := ⟨_, rfl⟩
    obtain ⟨e2, he2⟩ : ∃ e2, (if e = 0 then (4 : Int) else e) = e2 := ⟨_, rfl⟩
    rw [he2] at cF ⊢
    rw [hs] at hsz cF ⊢
    have hsb : s.size ≤ 1152921504606846976 := by omega
    have hok2 : ¬(e = 0 ∧ 0 ≤ many ∧ many ≤ (s.size : Int)) := by rw [hsz]; exact hok
    have CF := Lib.hid cF
    clear cF hv hs hsz hok hr he2
    by_cases h1 : e = 0
    · subst h1
      by_cases h2 : many < 0
      · have d1 : decide (many < 0) = true := by simp [h2]
        clear hok2
        go_enter Tryd.func25, Tryd.ntmps25
        go_wp2_with fail
        refine (CF.out _).mono ?_
        rintro en w1 ⟨rfl, hb⟩
        have hH : w1.heap[w.heap.size + 1]? = some (.cells #[.string ⟨#[]⟩, .int .i64 0] 31 (0, 0)) := by
          rw [hb.block _ (by simp)]; exact heap_alloc_new2 _ _ _ _ (by simp)
        have hB2 : Below w.heap.size w w1 := (((Below.refl _ _).alloc (Nat.le_refl _) _).alloc (by simp) _).trans (hb.mono (by simp; omega))
        have HB := Lib.hid hB2
        clear hb hB2
        obtain ⟨m0, m1⟩ := blk2 hH
        have f0 : w1.frozen? ⟨w.heap.size + 1, 0, none⟩ = false := by simp [World.frozen?, hH]
        have f1 : w1.frozen? ⟨w.heap.size + 1, 1, none⟩ = false := by simp [World.frozen?, hH]
        have HH := Lib.hid hH
        clear hH
        go_wp2
        obtain ⟨n0, n1⟩ := blk2 (blk_set2 HH.out (.string ⟨#[]⟩) (.int .i64 e2))
        exact bodyPost_ret (v := .tuple #[.string ⟨#[]⟩, .agg #[.string ⟨#[]⟩, .int .i64 e2]]) (by simp [results, Tryd.results25, go_sem, n0, n1]) rfl ⟨rfl, (HB.out.setCell (Nat.le_succ _) _).setCell (Nat.le_succ _) _⟩
      · have h3 : (s.size : Int) < many := by omega
        have d1 : decide (many < 0) = false := by simp; omega
        have d2 : decide ((s.size : Int) < many) = true := by simp [h3]
        clear hok2
        go_enter Tryd.func25, Tryd.ntmps25
        go_wp2_with fail
        refine (CF.out _).mono ?_
        rintro en w1 ⟨rfl, hb⟩
        have hH : w1.heap[w.heap.size + 1]? = some (.cells #[.string ⟨#[]⟩, .int .i64 0] 31 (0, 0)) := by
          rw [hb.block _ (by simp)]; exact heap_alloc_new2 _ _ _ _ (by simp)
        have hB2 : Below w.heap.size w w1 := (((Below.refl _ _).alloc (Nat.le_refl _) _).alloc (by simp) _).trans (hb.mono (by simp; omega))
        have HB := Lib.hid hB2
        clear hb hB2
        obtain ⟨m0, m1⟩ := blk2 hH
        have f0 : w1.frozen? ⟨w.heap.size + 1, 0, none⟩ = false := by simp [World.frozen?, hH]
        have f1 : w1.frozen? ⟨w.heap.size + 1, 1, none⟩ = false := by simp [World.frozen?, hH]
        have HH := Lib.hid hH
        clear hH
        go_wp2
        obtain ⟨n0, n1⟩ := blk2 (blk_set2 HH.out (.string ⟨#[]⟩) (.int .i64 e2))
        exact bodyPost_ret (v := .tuple #[.string ⟨#[]⟩, .agg #[.string ⟨#[]⟩, .int .i64 e2]]) (by simp [results, Tryd.results25, go_sem, n0, n1]) rfl ⟨rfl, (HB.out.setCell (Nat.le_succ _) _).setCell (Nat.le_succ _) _⟩
    · have d1 : (!(e == 0)) = true := by simp [h1]
      clear hok2
      go_enter Tryd.func25, Tryd.ntmps25
      go_wp2_with fail
      refine (CF.out _).mono ?_
      rintro en w1 ⟨rfl, hb⟩
      have hH : w1.heap[w.heap.size + 1]? = some (.cells #[.string ⟨#[]⟩, .int .i64 0] 31 (0, 0)) := by
        rw [hb.block _ (by simp)]; exact heap_alloc_new2 _ _ _ _ (by simp)
      have hB2 : Below w.heap.size w w1 := (((Below.refl _ _).alloc (Nat.le_refl _) _).alloc (by simp) _).trans (hb.mono (by simp; omega))
      have HB := Lib.hid hB2
      clear hb hB2
      obtain ⟨m0, m1⟩ := blk2 hH
      have f0 : w1.frozen? ⟨w.heap.size + 1, 0, none⟩ = false := by simp [World.frozen?, hH]
      have f1 : w1.frozen? ⟨w.heap.size + 1, 1, none⟩ = false := by simp [World.frozen?, hH]
      have HH := Lib.hid hH
      clear hH
      go_wp2
      obtain ⟨n0, n1⟩ := blk2 (blk_set2 HH.out (.string ⟨#[]⟩) (.int .i64 e2))
      exact bodyPost_ret (v := .tuple #[.string ⟨#[]⟩, .agg #[.string ⟨#[]⟩, .int .i64 e2]]) (by simp [results, Tryd.results25, go_sem, n0, n1]) rfl ⟨rfl, (HB.out.setCell (Nat.le_succ _) _).setCell (Nat.le_succ _) _⟩

theorem rend_any (r : Plain.Rd) (w : World) : Calls Tryd.prog 29 #[rdOf r] w fun e w' => e = .returned (.int .i64 r.endE) ∧ Below w.heap.size w w' := by
  obtain ⟨l, e⟩ := r
  unfold rdOf rdV Plain.Rd.endE
  dsimp only
  have hne := str_ne l
  obtain ⟨s, hs⟩ : ∃ s, str l = s := ⟨_, rfl⟩
  rw [hs] at hne ⊢
  by_cases h : e = 0
  · subst h
    by_cases h2 : l = []
    · rw [if_neg (by simp [h2])]
      have d : s.toList.isEmpty = true := by rw [hne]; simp [h2]
      go_enter Tryd.func29, Tryd.ntmps29
      go_wp2
      go_ret
      exact ⟨rfl, (Below.refl _ _).alloc (Nat.le_refl _) _⟩
    · rw [if_pos ⟨rfl, h2⟩]
      have d : s.toList.isEmpty = false := by rw [hne]; simp [h2]
      go_enter Tryd.func29, Tryd.ntmps29
      go_wp2
      go_ret
      exact ⟨rfl, (Below.refl _ _).alloc (Nat.le_refl _) _⟩
  · rw [if_neg (by simp [h])]
    have d : (e == 0) = false := by simp [h]
    go_enter Tryd.func29, Tryd.ntmps29
    go_wp2
    go_ret
    exact ⟨rfl, (Below.refl _ _).alloc (Nat.le_refl _) _⟩

theorem rtextS_any (s : ByteArray) (w : World) (hs : s.size ≤ 1152921504606846976) : Calls Tryd.prog 19 #[.string s] w fun e w' => e = .returned (.string (str (Plain.putL s.size ++ s.data.toList))) ∧ Below w.heap.size w w' := by
  have hsz := (Plain.putL_len10 s.size (by omega)).2
  have cP := rput_any s.size w (by omega)
  have happ : (⟨(Plain.putL s.size).toArray⟩ : ByteArray) ++ s = str (Plain.putL s.size ++ s.data.toList) := by
    rw [← str_app, str_of]; rfl
  have hl : (⟨(Plain.putL s.size).toArray⟩ : ByteArray).size ≤ 10 := by rw [show (⟨(Plain.putL s.size).toArray⟩ : ByteArray) = str (Plain.putL s.size) from rfl, str_size]; exact hsz
  obtain ⟨p, hp⟩ : ∃ p, (⟨(Plain.putL s.size).toArray⟩ : ByteArray) = p := ⟨_, rfl⟩
  rw [hp] at cP happ hl
  rw [← happ]
  have HP := Lib.hid cP
  clear cP happ hsz hp
  have hw : (s.size : Int) % 18446744073709551616 = (s.size : Int) := by omega
  go_enter Tryd.func19, Tryd.ntmps19
  go_wp2_with fail
  refine HP.out.mono ?_
  rintro e w1 ⟨rfl, hb⟩
  have HB := Lib.hid hb
  clear hb
  go_wp2
  go_ret
  exact ⟨rfl, HB.out⟩
end Go.Proofs.YtkkgdnmloojloaaDoor
namespace Go.Proofs.YtkkgdnmloojloaaDoor
open Go.RowKit Go.Lib
set_option maxRecDepth 100000 in
set_option maxHeartbeats 1000000 in
theorem rnext_any (r : Plain.Rd) (w : World) (hr : r.rest.length ≤ 1152921504606846976) : Calls Tryd.prog 21 #[rdOf r] w fun e w' => e = .returned (nextV r) ∧ Below w.heap.size w w' := by
  obtain ⟨l, e⟩ := r
  dsimp only at hr
  by_cases he : e = 0
  · subst he
    have hv : nextV ⟨l, 0⟩ = .tuple #[.int .u64 ((Plain.goN 10 0 l).1 : Nat), rdV (str (Plain.goN 10 0 l).2.1) ((Plain.goN 10 0 l).2.2 : Nat)] := by
      unfold nextV Plain.Rd.next rdOf
      rw [if_pos rfl]
    rw [hv]
    have hsz := str_size l
    have cF : ∀ (v : Int) (w : World), Calls Tryd.prog 50 #[.agg #[.string (str l), .int .i64 0], .int .i64 v] w fun en w' => en = .returned (.agg #[.string ⟨#[]⟩, .int .i64 v]) ∧ Below w.heap.size w w' := by
      intro v w
      have h := rfail_any (str l) 0 v w
      rw [if_pos rfl] at h
      exact h
    have CF3 := Lib.hid cF
    clear cF
    unfold rdOf
    dsimp only
    unfold rdV
    obtain ⟨tot, htot⟩ : ∃ t, Plain.goN 10 0 l = t := ⟨_, rfl⟩
    rw [htot]
    obtain ⟨s, hs⟩ : ∃ s, str l = s := ⟨_, rfl⟩
    rw [hs] at hsz CF3 ⊢
    have hgb : ∀ k (h : k < l.length) (h2 : k < s.size), l[k] = s[k] := by
      intro k h h2; subst hs; rfl
    have HGB := Lib.hid hgb
    clear hgb
    have HT := Lib.hid htot
    have HS := Lib.hid hs
    clear hs htot hv
    go_enter Tryd.func21, Tryd.ntmps21
    go_wp2_with fail
    go_loopw [4, 5] (fun a b wr => ∃ (acc k : Nat), a = .int .u64 acc ∧ b = .int .i64 k ∧ k ≤ 9 ∧ k ≤ l.length ∧ acc < 2 ^ (7 * k) ∧ tot = Plain.goN (10 - k) acc (l.drop k) ∧ wr = (w.alloc (.cells #[.string s, .int .i64 0] 31)).alloc (.cells #[.string ⟨#[]⟩, .int .i64 0] 31)) (fun _ b _ => (10 - RowKit.intOf b).toNat)
    case atStart => exact ⟨0, 0, rfl, rfl, by decide, Nat.zero_le _, by decide, HT.out.symm, rfl⟩
    case round =>
      obtain ⟨acc, k, rfl, rfl, hk, hkl, ha, ht, rfl⟩ := hrel
      have hklt : (k : Int) < 10 := by omega
      have hsb : s.size ≤ 1152921504606846976 := by omega
      by_cases hkL : k = l.length
      · have hdrop : l.drop k = [] := List.drop_eq_nil_of_le (by omega)
        obtain ⟨f, hf⟩ : ∃ f, 10 - k = f + 1 := ⟨9 - k, by omega⟩
        rw [hdrop, hf] at ht
        clear hdrop hf
        have hd1 : decide ((s.size : Int) ≤ (k : Int)) = true := by simp; omega
        have hd2 : decide (s.size ≤ k) = true := by simp; omega
        have HKL := Lib.hid hkL
        clear hkL hsz hkl
        go_wp2_with fail
        have hz : tot = (0, [], 4) := by
          rw [ht]; rfl
        clear ht
        subst hz
        refine (CF3.out 4 _).mono ?_
        rintro en w1 ⟨rfl, hb⟩
        have hH : w1.heap[w.heap.size + 1]? = some (.cells #[.string ⟨#[]⟩, .int .i64 0] 31 (0, 0)) := by
          rw [hb.block _ (by simp)]; exact heap_alloc_new2 _ _ _ _ (by simp)
        have hB2 : Below w.heap.size w w1 := (((Below.refl _ _).alloc (Nat.le_refl _) _).alloc (by simp) _).trans (hb.mono (by simp; omega))
        have HB := Lib.hid hB2
        clear hb hB2
        obtain ⟨m0, m1⟩ := blk2 hH
        have f0 : w1.frozen? ⟨w.heap.size + 1, 0, none⟩ = false := by simp [World.frozen?, hH]
        have f1 : w1.frozen? ⟨w.heap.size + 1, 1, none⟩ = false := by simp [World.frozen?, hH]
        have HH := Lib.hid hH
        clear hH
        go_wp2
        obtain ⟨n0, n1⟩ := blk2 (blk_set2 HH.out (.string ⟨#[]⟩) (.int .i64 4))
        exact bodyPost_ret (v := .tuple #[.int .u64 0, .agg #[.string ⟨#[]⟩, .int .i64 4]]) (by simp [results, Tryd.results21, go_sem, n0, n1]) rfl ⟨rfl, (HB.out.setCell (Nat.le_succ _) _).setCell (Nat.le_succ _) _⟩
      · have hlt : k < l.length := by omega
        have hlt2 : k < s.size := by omega
        have hdrop : l.drop k = s[k] :: l.drop (k + 1) := by rw [List.drop_eq_getElem_cons hlt, HGB.out k hlt hlt2]
        obtain ⟨f, hf⟩ : ∃ f, 10 - k = f + 1 := ⟨9 - k, by omega⟩
        have hfk : f = 9 - k := by omega
        rw [hdrop, hf] at ht
        clear hdrop hf
        unfold Plain.goN at ht
        subst hfk
        have HT2 := Lib.hid ht
        have hi0 : (0 : Int) ≤ (k : Int) + 1 := by omega
        have hi1 : (k : Int) + 1 ≤ (s.size : Int) := by omega
        have hwk : IntKind.i64.wrap ((k : Int) + 1) = (k : Int) + 1 := by rw [IntKind.wrap_i64]; omega
        have d1 : decide ((s.size : Int) < (k : Int) + 1) = false := by simp; omega
        have d2 : decide (s.size < k + 1) = false := by simp; omega
        have d3 : decide ((s.size : Int) ≤ (k : Int)) = false := by simp; omega
        have d4 : decide (s.size ≤ k) = false := by simp; omega
        clear hsz
        by_cases hk9 : k = 9
        · have e9 : ((k : Int) == 9) = true := by simp [hk9]
          have HK9 := Lib.hid hk9
          clear hk9
          go_wp2_with fail
          · have hz : tot = (0, [], 3) := by
              have := HT2.out; rw [if_pos (by have := HK9.out; omega)] at this; exact this
            clear ht
            subst hz
            refine (CF3.out 3 _).mono ?_
            rintro en w1 ⟨rfl, hb⟩
            have hH : w1.heap[w.heap.size + 1]? = some (.cells #[.string ⟨#[]⟩, .int .i64 0] 31 (0, 0)) := by
              rw [hb.block _ (by simp)]; exact heap_alloc_new2 _ _ _ _ (by simp)
            have hB2 : Below w.heap.size w w1 := (((Below.refl _ _).alloc (Nat.le_refl _) _).alloc (by simp) _).trans (hb.mono (by simp; omega))
            have HB := Lib.hid hB2
            clear hb hB2
            obtain ⟨m0, m1⟩ := blk2 hH
            have f0 : w1.frozen? ⟨w.heap.size + 1, 0, none⟩ = false := by simp [World.frozen?, hH]
            have f1 : w1.frozen? ⟨w.heap.size + 1, 1, none⟩ = false := by simp [World.frozen?, hH]
            have HH := Lib.hid hH
            clear hH
            go_wp2
            obtain ⟨n0, n1⟩ := blk2 (blk_set2 HH.out (.string ⟨#[]⟩) (.int .i64 3))
            exact bodyPost_ret (v := .tuple #[.int .u64 0, .agg #[.string ⟨#[]⟩, .int .i64 3]]) (by simp [results, Tryd.results21, go_sem, n0, n1]) rfl ⟨rfl, (HB.out.setCell (Nat.le_succ _) _).setCell (Nat.le_succ _) _⟩
          · have hz : tot = (0, [], 5) := by
              have := HT2.out; rw [if_neg (by have := HK9.out; omega), if_pos (by have := HK9.out; omega)] at this; exact this
            clear ht
            subst hz
            refine (CF3.out 5 _).mono ?_
            rintro en w1 ⟨rfl, hb⟩
            have hH : w1.heap[w.heap.size + 1]? = some (.cells #[.string ⟨#[]⟩, .int .i64 0] 31 (0, 0)) := by
              rw [hb.block _ (by simp)]; exact heap_alloc_new2 _ _ _ _ (by simp)
            have hB2 : Below w.heap.size w w1 := (((Below.refl _ _).alloc (Nat.le_refl _) _).alloc (by simp) _).trans (hb.mono (by simp; omega))
            have HB := Lib.hid hB2
            clear hb hB2
            obtain ⟨m0, m1⟩ := blk2 hH
            have f0 : w1.frozen? ⟨w.heap.size + 1, 0, none⟩ = false := by simp [World.frozen?, hH]
            have f1 : w1.frozen? ⟨w.heap.size + 1, 1, none⟩ = false := by simp [World.frozen?, hH]
            have HH := Lib.hid hH
            clear hH
            go_wp2
            obtain ⟨n0, n1⟩ := blk2 (blk_set2 HH.out (.string ⟨#[]⟩) (.int .i64 5))
            exact bodyPost_ret (v := .tuple #[.int .u64 0, .agg #[.string ⟨#[]⟩, .int .i64 5]]) (by simp [results, Tryd.results21, go_sem, n0, n1]) rfl ⟨rfl, (HB.out.setCell (Nat.le_succ _) _).setCell (Nat.le_succ _) _⟩
          · exact absurd HK9.out (by omega)
          · have hbv : s[k].toNat < 128 := by omega
            have hz := HT2.out
            rw [if_neg (by have := HK9.out; omega), if_neg (by have := HK9.out; omega), if_pos hbv] at hz
            go_region_held3 (fun w' => w'.cell? ⟨w.heap.size, 0, none⟩ = some (.string s)) (go_keep) (fail)
            all_goals go_wp2
            all_goals
              have hb8 := s[k].toNat_lt
              have hps := part_small (s[k].toNat) k hbv (by have := HK9.out; omega)
              have hval : bits .or .u64 (acc : Int) (IntKind.u64.wrap ((s[k].toNat : Int) % 128 * 2 ^ (7 * k))) = ((acc + s[k].toNat * 2 ^ (7 * k) : Nat) : Int) := by
                rw [show ((s[k].toNat : Int) % 128) = ((s[k].toNat : Nat) : Int) by omega, next_shl _ k hps, next_join acc _ k (by omega) ha hps]
              have hstr : s.extract (k + 1) s.size = str (l.drop (k + 1)) := by rw [← HS.out]; exact str_drop l (k + 1)
              rw [show 9 - (9 - k) = k by omega] at hz
              have hb : ((w.alloc (.cells #[.string s, .int .i64 0] 31)).alloc (.cells #[.string (s.extract (k + 1) s.size), .int .i64 0] 31)).drew.heap[w.heap.size + 1]? = some (.cells #[.string (s.extract (k + 1) s.size), .int .i64 0] 31 (0, 0)) := heap_alloc_new2 _ _ _ _ (by simp)
              obtain ⟨m0, m1⟩ := blk2 hb
              rw [hval]
              exact bodyPost_ret (v := .tuple #[.int .u64 ((acc + s[k].toNat * 2 ^ (7 * k) : Nat) : Int), .agg #[.string (s.extract (k + 1) s.size), .int .i64 0]]) (by simp [results, Tryd.results21, go_sem, m0, m1]) rfl ⟨by rw [hz, hstr]; rfl, (((Below.refl _ _).alloc (Nat.le_refl _) _).alloc (by simp) _).drew⟩
        · have e9 : ((k : Int) == 9) = false := by simp; omega
          go_wp2_with fail
          · have hz : tot = (0, [], 5) := by
              have := HT2.out; rw [if_neg (by omega), if_pos (by omega)] at this; exact this
            clear ht
            subst hz
            refine (CF3.out 5 _).mono ?_
            rintro en w1 ⟨rfl, hb⟩
            have hH : w1.heap[w.heap.size + 1]? = some (.cells #[.string ⟨#[]⟩, .int .i64 0] 31 (0, 0)) := by
              rw [hb.block _ (by simp)]; exact heap_alloc_new2 _ _ _ _ (by simp)
            have hB2 : Below w.heap.size w w1 := (((Below.refl _ _).alloc (Nat.le_refl _) _).alloc (by simp) _).trans (hb.mono (by simp; omega))
            have HB := Lib.hid hB2
            clear hb hB2
            obtain ⟨m0, m1⟩ := blk2 hH
            have f0 : w1.frozen? ⟨w.heap.size + 1, 0, none⟩ = false := by simp [World.frozen?, hH]
            have f1 : w1.frozen? ⟨w.heap.size + 1, 1, none⟩ = false := by simp [World.frozen?, hH]
            have HH := Lib.hid hH
            clear hH
            go_wp2
            obtain ⟨n0, n1⟩ := blk2 (blk_set2 HH.out (.string ⟨#[]⟩) (.int .i64 5))
            exact bodyPost_ret (v := .tuple #[.int .u64 0, .agg #[.string ⟨#[]⟩, .int .i64 5]]) (by simp [results, Tryd.results21, go_sem, n0, n1]) rfl ⟨rfl, (HB.out.setCell (Nat.le_succ _) _).setCell (Nat.le_succ _) _⟩
          · have hbv : s[k].toNat < 128 := by omega
            have hz := HT2.out
            rw [if_neg (by omega), if_neg (by omega), if_pos hbv] at hz
            go_region_held3 (fun w' => w'.cell? ⟨w.heap.size, 0, none⟩ = some (.string s)) (go_keep) (fail)
            all_goals go_wp2
            all_goals
              have hb8 := s[k].toNat_lt
              have hps := part_small (s[k].toNat) k hbv (by omega)
              have hval : bits .or .u64 (acc : Int) (IntKind.u64.wrap ((s[k].toNat : Int) % 128 * 2 ^ (7 * k))) = ((acc + s[k].toNat * 2 ^ (7 * k) : Nat) : Int) := by
                rw [show ((s[k].toNat : Int) % 128) = ((s[k].toNat : Nat) : Int) by omega, next_shl _ k hps, next_join acc _ k (by omega) ha hps]
              have hstr : s.extract (k + 1) s.size = str (l.drop (k + 1)) := by rw [← HS.out]; exact str_drop l (k + 1)
              rw [show 9 - (9 - k) = k by omega] at hz
              have hb : ((w.alloc (.cells #[.string s, .int .i64 0] 31)).alloc (.cells #[.string (s.extract (k + 1) s.size), .int .i64 0] 31)).drew.heap[w.heap.size + 1]? = some (.cells #[.string (s.extract (k + 1) s.size), .int .i64 0] 31 (0, 0)) := heap_alloc_new2 _ _ _ _ (by simp)
              obtain ⟨m0, m1⟩ := blk2 hb
              have h0 : ((s[k].toNat : Nat) : Int) = 0 := by omega
              rw [h0] at hval
              simp only [Int.zero_emod, Int.zero_mul] at hval
              rw [hval]
              exact bodyPost_ret (v := .tuple #[.int .u64 ((acc + s[k].toNat * 2 ^ (7 * k) : Nat) : Int), .agg #[.string (s.extract (k + 1) s.size), .int .i64 0]]) (by simp [results, Tryd.results21, go_sem, m0, m1]) rfl ⟨by rw [hz, hstr]; rfl, (((Below.refl _ _).alloc (Nat.le_refl _) _).alloc (by simp) _).drew⟩
          · have hbv : s[k].toNat < 128 := by omega
            have hz := HT2.out
            rw [if_neg (by omega), if_neg (by omega), if_pos hbv] at hz
            go_region_held3 (fun w' => w'.cell? ⟨w.heap.size, 0, none⟩ = some (.string s)) (go_keep) (fail)
            all_goals go_wp2
            all_goals
              have hb8 := s[k].toNat_lt
              have hps := part_small (s[k].toNat) k hbv (by omega)
              have hval : bits .or .u64 (acc : Int) (IntKind.u64.wrap ((s[k].toNat : Int) % 128 * 2 ^ (7 * k))) = ((acc + s[k].toNat * 2 ^ (7 * k) : Nat) : Int) := by
                rw [show ((s[k].toNat : Int) % 128) = ((s[k].toNat : Nat) : Int) by omega, next_shl _ k hps, next_join acc _ k (by omega) ha hps]
              have hstr : s.extract (k + 1) s.size = str (l.drop (k + 1)) := by rw [← HS.out]; exact str_drop l (k + 1)
              rw [show 9 - (9 - k) = k by omega] at hz
              have hb : ((w.alloc (.cells #[.string s, .int .i64 0] 31)).alloc (.cells #[.string (s.extract (k + 1) s.size), .int .i64 0] 31)).drew.heap[w.heap.size + 1]? = some (.cells #[.string (s.extract (k + 1) s.size), .int .i64 0] 31 (0, 0)) := heap_alloc_new2 _ _ _ _ (by simp)
              obtain ⟨m0, m1⟩ := blk2 hb
              rw [hval]
              exact bodyPost_ret (v := .tuple #[.int .u64 ((acc + s[k].toNat * 2 ^ (7 * k) : Nat) : Int), .agg #[.string (s.extract (k + 1) s.size), .int .i64 0]]) (by simp [results, Tryd.results21, go_sem, m0, m1]) rfl ⟨by rw [hz, hstr]; rfl, (((Below.refl _ _).alloc (Nat.le_refl _) _).alloc (by simp) _).drew⟩
          · have hbv : 128 ≤ s[k].toNat := by omega
            have hz := HT2.out
            rw [if_neg (by omega), if_neg (by omega), if_neg (by omega)] at hz
            have hb8 := s[k].toNat_lt
            have hps := part_small (s[k].toNat % 128) k (by omega) (by omega)
            refine ⟨⟨acc + (s[k].toNat % 128) * 2 ^ (7 * k), k + 1, ?_, by simp, by omega, by omega, acc_small acc _ k ha (by omega), ?_, trivial⟩, by simp [RowKit.intOf]; omega⟩
            · rw [show ((s[k].toNat : Int) % 128) = ((s[k].toNat % 128 : Nat) : Int) by omega, next_shl _ k hps, next_join acc _ k (by omega) ha hps]
            · rw [hz, show 10 - (k + 1) = 9 - k by omega, show 9 - (9 - k) = k by omega, show s[k].toNat - 128 = s[k].toNat % 128 by omega]
  · have hv : nextV ⟨l, e⟩ = .tuple #[.int .u64 0, .agg #[.string ⟨#[]⟩, .int .i64 e]] := by
      unfold nextV Plain.Rd.next rdOf rdV
      rw [if_neg he]
      rfl
    rw [hv]
    have cF : ∀ (w : World), Calls Tryd.prog 50 #[.agg #[.string (str l), .int .i64 e], .int .i64 3] w fun en w' => en = .returned (.agg #[.string ⟨#[]⟩, .int .i64 e]) ∧ Below w.heap.size w w' := by
      intro w
      have h := rfail_any (str l) e 3 w
      rw [if_neg he] at h
      exact h
    have CF := Lib.hid cF
    clear cF hv hr
    unfold rdOf rdV
    dsimp only
    obtain ⟨s, hs⟩ : ∃ s, str l = s := ⟨_, rfl⟩
    rw [hs] at CF ⊢
    clear hs
    have e1 : (e == 0) = false := by simp [he]
    have e2 : (!(e == 0)) = true := by simp [he]
    clear he
    go_enter Tryd.func21, Tryd.ntmps21
    go_wp2_with fail
    go_loopw [4, 5] (fun a b wr => a = .int .u64 0 ∧ b = .int .i64 0 ∧ wr = (w.alloc (.cells #[.string s, .int .i64 e] 31)).alloc (.cells #[.string ⟨#[]⟩, .int .i64 0] 31)) (fun _ _ _ => 0)
    case atStart => exact ⟨rfl, rfl, rfl⟩
    case round =>
      obtain ⟨rfl, rfl, rfl⟩ := hrel
      go_wp2_with fail
      refine (CF.out _).mono ?_
      rintro en w1 ⟨rfl, hb⟩
      have hH : w1.heap[w.heap.size + 1]? = some (.cells #[.string ⟨#[]⟩, .int .i64 0] 31 (0, 0)) := by
        rw [hb.block _ (by simp)]; exact heap_alloc_new2 _ _ _ _ (by simp)
      have hB2 : Below w.heap.size w w1 := (((Below.refl _ _).alloc (Nat.le_refl _) _).alloc (by simp) _).trans (hb.mono (by simp; omega))
      have HB := Lib.hid hB2
      clear hb hB2
      obtain ⟨m0, m1⟩ := blk2 hH
      have f0 : w1.frozen? ⟨w.heap.size + 1, 0, none⟩ = false := by simp [World.frozen?, hH]
      have f1 : w1.frozen? ⟨w.heap.size + 1, 1, none⟩ = false := by simp [World.frozen?, hH]
      have HH := Lib.hid hH
      clear hH
      go_wp2
      obtain ⟨n0, n1⟩ := blk2 (blk_set2 HH.out (.string ⟨#[]⟩) (.int .i64 e))
      exact bodyPost_ret (v := .tuple #[.int .u64 0, .agg #[.string ⟨#[]⟩, .int .i64 e]]) (by simp [results, Tryd.results21, go_sem, n0, n1]) rfl ⟨rfl, (HB.out.setCell (Nat.le_succ _) _).setCell (Nat.le_succ _) _⟩
end Go.Proofs.YtkkgdnmloojloaaDoor
namespace Go.Proofs.YtkkgdnmloojloaaDoor
open Go.RowKit Go.Lib
theorem next_err_zero (r : Plain.Rd) (h : r.next.2.e ≠ 0) : r.next.1 = 0 := by
  unfold Plain.Rd.next at h ⊢
  split
  · rename_i h0
    rw [if_pos h0] at h
    exact (goN_err 10 0 r.rest (fun e => h (by dsimp only; rw [e]; rfl))).1
  · rfl
set_option maxRecDepth 100000 in
set_option maxHeartbeats 1000000 in
theorem rtext_any (r : Plain.Rd) (most : Nat) (w : World) (hr : r.rest.length ≤ 1152921504606846976) (hm : most < 18446744073709551616) : Calls Tryd.prog 23 #[rdOf r, .int .u64 most] w fun e w' => e = .returned (textV r most) ∧ Below w.heap.size w w' := by
  have hl2 := next_len r
  have hne := next_err_zero r
  have cN := fun w => rnext_any r w hr
  obtain ⟨n, r1, hn⟩ : ∃ n r1, r.next = (n, r1) := ⟨_, _, rfl⟩
  have hv : textV r most = if most < n then .tuple #[.string ⟨#[]⟩, rdOf (r1.fail 3)] else if r1.rest.length < n then .tuple #[.string ⟨#[]⟩, rdOf (r1.fail 4)] else bytesV r1 (n : Nat) := by
    unfold textV Plain.Rd.text bytesV
    rw [hn]
    dsimp only
    split
    · rfl
    · split
      · rfl
      · rfl
  unfold nextV at cN
  rw [hn] at cN hl2 hne
  dsimp only at cN hl2 hne
  have cF := fun e w => rfailR_any r1 e w
  have cB := fun (w : World) => rbytes_any r1 (n : Nat) w (by omega)
  rw [hv]
  unfold rdOf rdV at cN cF
  unfold rdOf rdV
  obtain ⟨l, e⟩ := r
  obtain ⟨l1, e1⟩ := r1
  dsimp only at cN cF hl2 hr hne ⊢
  have hsz1 := str_size l1
  obtain ⟨s, hs⟩ : ∃ s, str l = s := ⟨_, rfl⟩
  obtain ⟨s1, hs1⟩ : ∃ s1, str l1 = s1 := ⟨_, rfl⟩
  unfold rdOf rdV at cB
  dsimp only at cB
  rw [hs] at cN ⊢
  rw [hs1] at cN cF cB hsz1
  have CN := Lib.hid cN
  have CF := Lib.hid cF
  have hsb : s1.size ≤ 1152921504606846976 := by omega
  have hll := hsz1
  rw [show l1.length = s1.size from hll.symm]
  by_cases h1 : most < n
  · rw [if_pos h1]
    have he1 : (e1 == 0) = true := by
      by_cases h : e1 = 0
      · simp [h]
      · have := hne h; omega
    clear hne
    clear cN cF cB hv hn hs hs1 hl2 hr
    obtain ⟨sf, ef, hf⟩ : ∃ sf ef, Plain.Rd.fail ⟨l1, e1⟩ 3 = ⟨sf, ef⟩ := ⟨_, _, rfl⟩
    have CF3 := fun w => CF.out 3 w
    rw [hf] at CF3 ⊢
    have CF2 := Lib.hid CF3
    clear CF3 CF hf
    dsimp only at CF2 ⊢
    obtain ⟨s2, hs2⟩ : ∃ s2, str sf = s2 := ⟨_, rfl⟩
    rw [hs2] at CF2 ⊢
    clear hs2 hsz1 hll
    have d1 : decide ((most : Int) < (n : Int)) = true := by simp; omega
    have d2 : decide (most < n) = true := by simp [h1]
    go_enter Tryd.func23, Tryd.ntmps23
    go_wp2_with fail
    refine (CN.out _).mono ?_
    rintro en w1 ⟨rfl, hb⟩
    obtain ⟨hB, hH0, hH1⟩ := two_new hb (.cells #[.string s, .int .i64 e] 31 (0, 0)) (.cells #[.string ⟨#[]⟩, .int .i64 0] 31 (0, 0))
    have HB := Lib.hid hB
    have HH0 := Lib.hid hH0
    have HH1 := Lib.hid hH1
    obtain ⟨m0, m1, f0, f1⟩ := box2 hH0
    clear hb hB hH0 hH1
    go_wp2_with fail
    refine (CF2.out _).mono ?_
    rintro en w2 ⟨rfl, hb⟩
    obtain ⟨hB, hH0, hO⟩ := (⟨below_then (below_alloc HB.out _) hb, trivial, fun k c h => blk_later (blk_alloc h _) hb⟩ : Below w.heap.size w w2 ∧ True ∧ ∀ k c, w1.heap[k]? = some c → w2.heap[k]? = some c)
    have hH1 := hO _ _ HH1.out
    have HB2 := Lib.hid hB
    have HG1 := Lib.hid hH1
    obtain ⟨n0, n1, g0, g1⟩ := box2 hH1
    clear hb hB hH1 hO m0 m1 f0 f1
    go_wp2
    obtain ⟨k0, k1⟩ := blk2 (blk_set2 HG1.out (.string s2) (.int .i64 ef))
    exact bodyPost_ret (v := .tuple #[.string ⟨#[]⟩, .agg #[.string s2, .int .i64 ef]]) (by simp [results, Tryd.results23, go_sem, k0, k1]) rfl ⟨rfl, (HB2.out.setCell (Nat.le_succ _) _).setCell (Nat.le_succ _) _⟩
  · rw [if_neg h1]
    clear hne
    have d1 : decide ((most : Int) < (n : Int)) = false := by simp; omega
    have d2 : decide (most < n) = false := by simp; omega
    have hnb : n < 18446744073709551616 := by omega
    cases he1 : (e1 == 0)
    all_goals
      by_cases h2 : s1.size < n
      · rw [if_pos h2]
        clear cN cF cB hv hn hs hs1 hl2 hr
        obtain ⟨sf, ef, hf⟩ : ∃ sf ef, Plain.Rd.fail ⟨l1, e1⟩ 4 = ⟨sf, ef⟩ := ⟨_, _, rfl⟩
        have CF3 := fun w => CF.out 4 w
        rw [hf] at CF3 ⊢
        have CF2 := Lib.hid CF3
        clear CF3 CF hf
        dsimp only at CF2 ⊢
        obtain ⟨s2, hs2⟩ : ∃ s2, str sf = s2 := ⟨_, rfl⟩
        rw [hs2] at CF2 ⊢
        clear hs2 hsz1 hll
        have hw : (s1.size : Int) % 18446744073709551616 = (s1.size : Int) := by omega
        have d3 : decide ((s1.size : Int) < (n : Int)) = true := by simp; omega
        have d4 : decide (s1.size < n) = true := by simp [h2]
        go_enter Tryd.func23, Tryd.ntmps23
        go_wp2_with fail
        refine (CN.out _).mono ?_
        rintro en w1 ⟨rfl, hb⟩
        obtain ⟨hB, hH0, hH1⟩ := two_new hb (.cells #[.string s, .int .i64 e] 31 (0, 0)) (.cells #[.string ⟨#[]⟩, .int .i64 0] 31 (0, 0))
        have HB := Lib.hid hB
        have HH0 := Lib.hid hH0
        have HH1 := Lib.hid hH1
        obtain ⟨m0, m1, f0, f1⟩ := box2 hH0
        clear hb hB hH0 hH1
        go_wp2_with fail
        refine (CF2.out _).mono ?_
        rintro en w2 ⟨rfl, hb⟩
        obtain ⟨hB, hH0, hO⟩ := (⟨below_then (below_alloc HB.out _) hb, trivial, fun k c h => blk_later (blk_alloc h _) hb⟩ : Below w.heap.size w w2 ∧ True ∧ ∀ k c, w1.heap[k]? = some c → w2.heap[k]? = some c)
        have hH1 := hO _ _ HH1.out
        have HB2 := Lib.hid hB
        have HG1 := Lib.hid hH1
        obtain ⟨n0, n1, g0, g1⟩ := box2 hH1
        clear hb hB hH1 hO m0 m1 f0 f1
        go_wp2
        obtain ⟨k0, k1⟩ := blk2 (blk_set2 HG1.out (.string s2) (.int .i64 ef))
        exact bodyPost_ret (v := .tuple #[.string ⟨#[]⟩, .agg #[.string s2, .int .i64 ef]]) (by simp [results, Tryd.results23, go_sem, k0, k1]) rfl ⟨rfl, (HB2.out.setCell (Nat.le_succ _) _).setCell (Nat.le_succ _) _⟩
      · rw [if_neg h2]
        obtain ⟨bs, be, hbv⟩ : ∃ bs be, Plain.Rd.bytes ⟨l1, e1⟩ (n : Int) = (bs, be) := ⟨_, _, rfl⟩
        unfold bytesV at cB ⊢
        rw [hbv] at cB ⊢
        dsimp only at cB ⊢
        unfold rdOf rdV at cB ⊢
        obtain ⟨s2, hs2⟩ : ∃ s2, str bs = s2 := ⟨_, rfl⟩
        obtain ⟨s3, hs3⟩ : ∃ s3, str be.rest = s3 := ⟨_, rfl⟩
        obtain ⟨e3, he3⟩ : ∃ e3, be.e = e3 := ⟨_, rfl⟩
        rw [hs2, hs3, he3] at cB ⊢
        have CB := Lib.hid cB
        clear cN cF cB hv hn hs hs1 hl2 hr hbv hs2 hs3 he3 hsz1 hll CF
        have hw : (s1.size : Int) % 18446744073709551616 = (s1.size : Int) := by omega
        have d3 : decide ((s1.size : Int) < (n : Int)) = false := by simp; omega
        have d4 : decide (s1.size < n) = false := by simp; omega
        go_enter Tryd.func23, Tryd.ntmps23
        go_wp2_with fail
        refine (CN.out _).mono ?_
        rintro en w1 ⟨rfl, hb⟩
        obtain ⟨hB, hH0, hH1⟩ := two_new hb (.cells #[.string s, .int .i64 e] 31 (0, 0)) (.cells #[.string ⟨#[]⟩, .int .i64 0] 31 (0, 0))
        have HB := Lib.hid hB
        have HH0 := Lib.hid hH0
        have HH1 := Lib.hid hH1
        obtain ⟨m0, m1, f0, f1⟩ := box2 hH0
        clear hb hB hH0 hH1
        go_wp2_with fail
        refine (CB.out _).mono ?_
        rintro en w2 ⟨rfl, hb⟩
        obtain ⟨hB, hH0, hO⟩ := (⟨below_then (below_alloc HB.out _) hb, trivial, fun k c h => blk_later (blk_alloc h _) hb⟩ : Below w.heap.size w w2 ∧ True ∧ ∀ k c, w1.heap[k]? = some c → w2.heap[k]? = some c)
        have hH1 := hO _ _ HH1.out
        have HB2 := Lib.hid hB
        have HG1 := Lib.hid hH1
        obtain ⟨n0, n1, g0, g1⟩ := box2 hH1
        clear hb hB hH1 hO m0 m1 f0 f1
        go_wp2
        obtain ⟨k0, k1⟩ := blk2 (blk_set2 HG1.out (.string s3) (.int .i64 e3))
        exact bodyPost_ret (v := .tuple #[.string s2, .agg #[.string s3, .int .i64 e3]]) (by simp [results, Tryd.results23, go_sem, k0, k1]) rfl ⟨rfl, (HB2.out.setCell (Nat.le_succ _) _).setCell (Nat.le_succ _) _⟩
end Go.Proofs.YtkkgdnmloojloaaDoor
namespace Go.Proofs.YtkkgdnmloojloaaDoor
open Go.RowKit Go.Lib
theorem all_false_of {l : List UInt8} {k : Nat} (hk : k < l.length) (h : l[k] ≠ 0) : l.all (· == 0) = false := by
  rw [List.all_eq_false]
  exact ⟨l[k], List.getElem_mem hk, by simp [h]⟩
theorem all_true_of {l : List UInt8} (h : ∀ j (hj : j < l.length), l[j] = 0) : l.all (· == 0) = true := by
  rw [List.all_eq_true]
  intro x hx
  obtain ⟨j, hj, rfl⟩ := List.getElem_of_mem hx
  simp [h j hj]
set_option maxRecDepth 100000 in
set_option maxHeartbeats 1000000 in
theorem rpad_any (r : Plain.Rd) (many : Int) (w : World) (hr : r.rest.length ≤ 1152921504606846976) : Calls Tryd.prog 27 #[rdOf r, .int .i64 many] w fun e w' => e = .returned (rdOf (r.pad many)) ∧ Below w.heap.size w w' := by
  have cB := fun (w : World) => rbytes_any r many w hr
  obtain ⟨bs, r1, hbv⟩ : ∃ bs r1, r.bytes many = (bs, r1) := ⟨_, _, rfl⟩
  have hbl : bs.length ≤ r.rest.length := by
    have : (r.bytes many).1.length ≤ r.rest.length := by unfold Plain.Rd.bytes; split <;> simp; omega
    rw [hbv] at this; exact this
  have hv : rdOf (r.pad many) = if bs.all (· == 0) then rdOf r1 else rdOf (r1.fail 9) := by
    unfold Plain.Rd.pad
    rw [hbv]
    dsimp only
    split <;> rfl
  rw [hv]
  unfold bytesV at cB
  rw [hbv] at cB
  dsimp only at cB
  have cF := fun w => rfailR_any r1 9 w
  have hsz := str_size bs
  obtain ⟨l, e⟩ := r
  obtain ⟨l1, e1⟩ := r1
  unfold rdOf rdV at cB cF ⊢
  dsimp only at cB cF hbl hr ⊢
  obtain ⟨s, hs⟩ : ∃ s, str l = s := ⟨_, rfl⟩
  obtain ⟨s1, hs1⟩ : ∃ s1, str l1 = s1 := ⟨_, rfl⟩
  obtain ⟨sb, hsb⟩ : ∃ sb, str bs = sb := ⟨_, rfl⟩
  have hgb : ∀ k (h : k < bs.length) (h2 : k < sb.size), bs[k] = sb[k] := by
    intro k h h2; subst hsb; rfl
  have HGB := Lib.hid hgb
  rw [hs, hs1, hsb] at cB
  rw [hs1] at cF
  rw [hs, hs1]
  rw [hsb] at hsz
  have hsl : sb.size ≤ 1152921504606846976 := by omega
  have CB := Lib.hid cB
  have HSZ := Lib.hid hsz
  clear hs hsb hbl hbv hv hgb hsz hr
  obtain ⟨sf, hf⟩ : ∃ sf, str (Plain.Rd.fail ⟨l1, e1⟩ 9).rest = sf := ⟨_, rfl⟩
  obtain ⟨ef, hf2⟩ : ∃ ef, (Plain.Rd.fail ⟨l1, e1⟩ 9).e = ef := ⟨_, rfl⟩
  rw [hf, hf2] at cF ⊢
  have CF := Lib.hid cF
  clear cF cB hf hf2 hs1
  obtain ⟨av, hav⟩ : ∃ av : Value, (if bs.all (· == 0) = true then Value.agg #[.string s1, .int .i64 e1] else .agg #[.string sf, .int .i64 ef]) = av := ⟨_, rfl⟩
  have HAV := Lib.hid hav
  rw [hav]
  clear hav
  go_enter Tryd.func27, Tryd.ntmps27
  go_wp2_with fail
  refine (CB.out _).mono ?_
  rintro en w1 ⟨rfl, hb⟩
  obtain ⟨hB, hH0, hH1⟩ := two_new hb (.cells #[.string s, .int .i64 e] 31 (0, 0)) (.cells #[.string ⟨#[]⟩, .int .i64 0] 31 (0, 0))
  have HB := Lib.hid hB
  have HH1 := Lib.hid hH1
  clear hb hB hH0 hH1
  go_wp2_with fail
  obtain ⟨wa, hwa⟩ : ∃ wa, w1.alloc (.cells #[.string s1, .int .i64 e1] 31) = wa := ⟨_, rfl⟩
  have hRa : wa.heap[w1.heap.size]? = some (.cells #[.string s1, .int .i64 e1] 31 (0, 0)) := by rw [← hwa]; exact heap_alloc_new2 _ _ _ _ rfl
  have hBa : Below w.heap.size w wa := by rw [← hwa]; exact below_alloc HB.out _
  have hH1a : wa.heap[w.heap.size + 1]? = some (.cells #[.string ⟨#[]⟩, .int .i64 0] 31 (0, 0)) := by rw [← hwa]; exact blk_alloc HH1.out _
  rw [hwa]
  obtain ⟨m0, m1, f0, f1⟩ := box2 hRa
  obtain ⟨n0, n1, g0, g1⟩ := box2 hH1a
  have HBa := Lib.hid hBa
  have HHa := Lib.hid hH1a
  clear hwa hRa hBa hH1a
  go_loopw [7] (fun i wr => ∃ k : Nat, i = .int .i64 k ∧ k ≤ sb.size ∧ Hid (∀ j (hj : j < bs.length), j < k → bs[j] = 0) ∧ wr = wa) (fun i _ => sb.size - (RowKit.intOf i).toNat)
  case atStart => exact ⟨0, rfl, Nat.zero_le _, Lib.hid (fun j hj h => absurd h (Nat.not_lt_zero _)), rfl⟩
  case round =>
    obtain ⟨k, rfl, hk, HZ, rfl⟩ := hrel
    by_cases hlt : k < sb.size
    · have hlb : k < bs.length := by rw [← HSZ.out]; exact hlt
      have hg := HGB.out k hlb hlt
      by_cases hz : sb[k] = 0
      · have hz2 : ((sb[k].toNat : Int) != 0) = false := by rw [hz]; rfl
        have hz3 : sb[k].toNat = 0 := by rw [hz]; rfl
        have HG := Lib.hid hg
        have HZK := Lib.hid hz
        clear hg hz
        go_wp2
        go_roundw
        case rel =>
          refine ⟨k + 1, by go_num, by omega, Lib.hid (fun j hj hjk => ?_), by trivial⟩
          by_cases e : j = k
          · subst e; rw [HG.out, HZK.out]
          · exact HZ.out j hj (by omega)
        case measure => simp [RowKit.intOf]; omega
      · have hz3 : ¬ sb[k].toNat = 0 := fun h => hz (by rw [← UInt8.toNat_inj]; exact h)
        have hz2 : ((sb[k].toNat : Int) != 0) = true := by simp; omega
        have hall := all_false_of hlb (by rw [hg]; exact hz)
        have hav := HAV.out
        rw [if_neg (by rw [hall]; simp)] at hav
        subst hav
        clear hall hg hz
        go_wp2_with fail
        refine (CF.out _).mono ?_
        rintro en w3 ⟨rfl, hb⟩
        have hH1 := blk_later HHa.out hb
        have HB3 := Lib.hid (below_then HBa.out hb)
        have HG1 := Lib.hid hH1
        obtain ⟨p0, p1, q0, q1⟩ := box2 hH1
        clear hb hH1 m0 m1 f0 f1 n0 n1 g0 g1
        go_wp2
        obtain ⟨k0, k1⟩ := blk2 (blk_set2 HG1.out (.string sf) (.int .i64 ef))
        exact bodyPost_ret (v := .agg #[.string sf, .int .i64 ef]) (by simp [results, Tryd.results27, go_sem, k0, k1]) rfl ⟨rfl, (HB3.out.setCell (Nat.le_succ _) _).setCell (Nat.le_succ _) _⟩
    · have hall : bs.all (· == 0) = true := all_true_of fun j hj => HZ.out j hj (by have := HSZ.out; omega)
      have hav := HAV.out
      rw [if_pos hall] at hav
      subst hav
      clear hall
      go_wp2
      obtain ⟨k0, k1⟩ := blk2 (blk_set2 HHa.out (.string s1) (.int .i64 e1))
      exact bodyPost_ret (v := .agg #[.string s1, .int .i64 e1]) (by simp [results, Tryd.results27, go_sem, k0, k1]) rfl ⟨rfl, (HBa.out.setCell (Nat.le_succ _) _).setCell (Nat.le_succ _) _⟩
end Go.Proofs.YtkkgdnmloojloaaDoor
namespace Go.Proofs.YtkkgdnmloojloaaDoor
open Go.RowKit Go.Lib
theorem ref_any (s : ByteArray) (e : Int) (w : World) : Calls Tryd.prog 17 #[.agg #[.string s, .int .i64 e]] w fun en w' => en = .returned (.agg #[.string s, .int .i64 e]) ∧ Below w.heap.size w w' := by
  go_enter Tryd.func17, Tryd.ntmps17
  go_wp2
  have hb : ((w.alloc (.cells #[.string s, .int .i64 e] 24)).alloc (.cells #[.string s, .int .i64 e] 31)).heap[w.heap.size + 1]? = some (.cells #[.string s, .int .i64 e] 31 (0, 0)) := heap_alloc_new2 _ _ _ _ (by simp)
  obtain ⟨m0, m1⟩ := blk2 hb
  exact bodyPost_ret (v := .agg #[.string s, .int .i64 e]) (by simp [results, Tryd.results17, go_sem, m0, m1]) rfl ⟨rfl, ((Below.refl _ _).alloc (Nat.le_refl _) _).alloc (by simp) _⟩
theorem eq31 (s : ByteArray) (e : Int) (w : World) : (binOp .eql 31 (.agg #[.string s, .int .i64 e]) (.agg #[.string s, .int .i64 e])).run Tryd.prog w = .ok (.bool true) w := by
  have hm : Tryd.prog.fieldsOf 31 = #[{ name := "Rest", type := 9, offset := 0, embedded := false, tag := "", pkgPath := "", byteOffset := 0 }, { name := "E", type := 3, offset := 1, embedded := false, tag := "", pkgPath := "", byteOffset := 16 }] := by kernel_rfl
  rw [run_eql_struct, run_equalIn_agg (d := 9999) w 31 _ _ (by rw [hm]; exact Tryd.underlying31) (by kernel_rfl), hm]
  simp [Op.eqFields, part, go_sem, Tryd.sizeOf9, Tryd.sizeOf3, Tryd.isAgg9, Tryd.isAgg3]
def ReadRel (W : World) (g h n : Nat) (i sm : Value) (wr : World) : Prop := ∃ (k : Nat) (r : Plain.Rd), i = .int .i64 k ∧ sm = .bool true ∧ k ≤ n ∧ k ≤ 10 ∧ r.rest.length ≤ 1152921504606846976 ∧ Below W.heap.size W wr ∧ wr.heap[g]? = some (.cells #[.string (str r.rest), .int .i64 r.e] 24 (0, 0)) ∧ wr.heap[h]? = some (.cells #[.string (str r.rest), .int .i64 r.e] 31 (0, 0))
end Go.Proofs.YtkkgdnmloojloaaDoor
