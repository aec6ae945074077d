/- Chapter 2: a reader, a number: what the code computes. Conditions: what each lemma says. -/
import Derived.Test.YtmiacgkidldjmaaGreatDoorKit
import Derived.Test.YtmiacgkidldjmaaGreatDoorVaryP
import Derived.Test.YtmiacgkidldjmaaGreatDoorWP3
import Derived.Deep.RegionHeld3
set_option linter.unusedVariables false
set_option linter.unusedSimpArgs false
namespace Go.Proofs.YtmiacgkidldjmaaGreatDoor
open Go.RowKit Go.Lib
/-- a reader's value -/
def rdV (s : ByteArray) (e : Int) : Value := .agg #[.string s, .int .i64 e]
theorem fail_any (s : ByteArray) (e0 e : Int) (w : World) :
    Calls Tryz.prog 74 #[rdV s e0, .int .i64 e] w fun en w' => en = .returned (rdV ⟨#[]⟩ (if e0 = 0 then e else e0)) ∧ Below w.heap.size w w' := by
  unfold rdV
  by_cases h : e0 = 0
  · subst h
    rw [if_pos rfl]
    go_enter Tryz.func74, Tryz.ntmps74
    go_wp2
    have hb : ((w.alloc (.cells #[.string s, .int .i64 0] 87)).alloc (.cells #[.string ⟨#[]⟩, .int .i64 e] 87)).heap[w.heap.size + 1]? = some (.cells #[.string ⟨#[]⟩, .int .i64 e] 87 (0, 0)) := heap_alloc_new2 _ _ _ _ (by simp)
    obtain ⟨m0, m1⟩ := blk2 hb
    exact bodyPost_ret (v := .agg #[.string ⟨#[]⟩, .int .i64 e]) (by simp [results, Tryz.results74, go_sem, m0, m1]) rfl ⟨rfl, ((Below.refl _ _).alloc (Nat.le_refl _) _).alloc (by simp) _⟩
  · rw [if_neg h]
    have h1 : (!(e0 == 0)) = true := by simp [h]
    go_enter Tryz.func74, Tryz.ntmps74
    go_wp2
    have hb : ((w.alloc (.cells #[.string s, .int .i64 e0] 87)).alloc (.cells #[.string ⟨#[]⟩, .int .i64 e0] 87)).heap[w.heap.size + 1]? = some (.cells #[.string ⟨#[]⟩, .int .i64 e0] 87 (0, 0)) := heap_alloc_new2 _ _ _ _ (by simp)
    obtain ⟨m0, m1⟩ := blk2 hb
    exact bodyPost_ret (v := .agg #[.string ⟨#[]⟩, .int .i64 e0]) (by simp [results, Tryz.results74, go_sem, m0, m1]) rfl ⟨rfl, ((Below.refl _ _).alloc (Nat.le_refl _) _).alloc (by simp) _⟩
end Go.Proofs.YtmiacgkidldjmaaGreatDoor
namespace Go.Proofs.YtmiacgkidldjmaaGreatDoor
open Go.RowKit Go.Lib
theorem info5 : (Tryz.prog.info? 5).map (fun i => (i.zero, i.size, i.bytes)) = some (some (.int .u8 0), 1, 1) := by kernel_rfl
/-- bytes as numbers -/
def nb (l : List UInt8) : List Int := l.map fun b => (b.toNat : Int)
theorem bstr_nb (l : List UInt8) : bstr (nb l) = ⟨l.toArray⟩ := by
  have h := bstr_list (nb l)
  unfold nb at h
  rw [List.map_map] at h
  have e : (l.map ((fun n : Int => UInt8.ofNat n.toNat) ∘ fun b : UInt8 => (b.toNat : Int))) = l := by
    conv => rhs; rw [← List.map_id l]
    exact List.map_congr_left fun b _ => by simp
  rw [e] at h
  obtain ⟨s, hs⟩ : ∃ s, bstr (nb l) = s := ⟨_, rfl⟩
  have h2 : s.data.toList = l := by rw [← hs]; exact h
  rw [hs]
  obtain ⟨d⟩ := s
  have h3 : d.toList = l := h2
  rw [← h3]
theorem conv_bytes {w : World} {base n c : Nat} {A : Option Addr} {ns : List Int} (h : w.ownsRow base 5 1 (.slice A n c) n (u8s ns)) : (convert 35 9 (.slice A n c)).run Tryz.prog w = .ok (.string (bstr ns)) w := by
  rw [run_convert_bytes_string w 35 9 5 A n c Tryz.underlying35 Tryz.underlying5 Tryz.underlying9]
  have hl := h.1
  rcases h.2 with ⟨hv, hn⟩ | ⟨g, cap, cur, hv, _⟩
  · injection hv with h1 h2 h3
    subst h1 h2 h3
    have : ns = [] := List.eq_nil_of_length_eq_zero (by simpa [u8s] using hl)
    subst this
    rfl
  · injection hv with h1 h2 h3
    subst h1
    have hc := h.cells (g := g) rfl
    have hlen : (u8s ns).length = n := by rw [hl, Nat.mul_one]
    have h2 := run_loadCells_list (P := Tryz.prog) (w := w) ⟨g, 0, none⟩ (u8s ns) hc
    rw [hlen] at h2
    exact run_bytesToString w _ n c ns h2
set_option maxRecDepth 100000 in
set_option maxHeartbeats 1000000 in
theorem put_any (n : Nat) (w : World) (hn : n < 18446744073709551616) :
    Calls Tryz.prog 34 #[.int .u64 n] w fun e w' => e = .returned (.string ⟨(Plain.putL n).toArray⟩) ∧ Below w.heap.size w w' := by
  have hl10 := (Plain.putL_len10 n hn).2
  obtain ⟨tot, htot⟩ : ∃ l, Plain.putL n = l := ⟨_, rfl⟩
  rw [htot] at hl10 ⊢
  have HTOT := Lib.hid htot
  clear htot
  obtain ⟨i8, hi8, y0, y1, y2⟩ := info_parts info5
  go_enter Tryz.func34, Tryz.ntmps34
  go_wp2_with fail
  go_loopw [0, 3] (fun a b wr => ∃ (m : Nat) (xs : List UInt8) (u : Value), u = b ∧ a = .int .u64 m ∧ m < 18446744073709551616 ∧ tot = xs ++ Plain.putL m ∧ Below w.heap.size w wr ∧ wr.ownsRow w.heap.size 5 1 u xs.length (u8s (nb xs))) (fun a _ _ => (RowKit.intOf a).toNat)
  case atStart => exact ⟨n, [], _, rfl, rfl, hn, HTOT.out.symm, Below.refl _ _, World.ownsRow_nil _ _ _ _⟩
  case round =>
    obtain ⟨m, xs, u, rfl, rfl, hm, ht, hB, hU⟩ := hrel
    have hxl : xs.length ≤ 9 := by
      have := congrArg List.length ht
      rw [List.length_append] at this
      have := List.length_pos_iff.2 (Plain.putL_ne m)
      omega
    have HU := Lib.hid hU
    have HB := Lib.hid hB
    have hsz := hB.size
    by_cases hlt : m < 128
    · rw [Plain.putL_small m hlt] at ht
      have htt : u8s (nb tot) = u8s (nb xs) ++ [.int .u8 (m : Int)] := by
        rw [ht]; unfold nb u8s; rw [List.map_append, List.map_append]
        simp only [List.map_cons, List.map_nil]
        rw [Plain.ofNat_toNat m (by omega)]
      have HTT := Lib.hid htt
      clear ht htt hU hB
      have hwm : (m : Int) % 256 = (m : Int) := by omega
      go_wp2_with (at_builtin; refine wpList_append_own2 _ rfl (.tmp 14) (.tmp 17) _ rfl w.heap.size 5 i8 _ 1 1 Tryz.underlying35 hi8 y0 y1 y2 rfl (by decide) u xs.length (u8s (nb xs)) rfl (HU.out.alloc _) ⟨wr.heap.size, 0, none⟩ 1 1 [.int .u8 (m : Int)] rfl rfl ?c1 ?c2 ?c3 ?c4 ?c5 ?_)
      case c1 => exact CellsAt_add (CellsAt.new wr _ _)
      case c2 => intro u hu; simp only [List.mem_cons, List.not_mem_nil, or_false] at hu; subst hu; rfl
      case c3 => simp only [maxLen]; omega
      case c4 => omega
      case c5 => simp; omega
      intro v3 w7 hown2 hg2 _
      have hBn : Below w.heap.size w w7 := (HB.out.alloc HB.out.size _).grown hg2 (by simp; omega) (fun g hg => (HU.out.lt g hg).1)
      rw [← HTT.out] at hown2
      obtain ⟨ua, uc, rfl⟩ := own_slice hown2
      have hcv := conv_bytes hown2
      rw [bstr_nb] at hcv
      have HBn := Lib.hid hBn
      clear hBn hg2 hown2
      go_wp2
      go_ret
      exact ⟨rfl, HBn.out⟩
    · have hst : u8s (nb (xs ++ [UInt8.ofNat (m % 128 + 128)])) = u8s (nb xs) ++ [.int .u8 ((m % 128 + 128 : Nat) : Int)] := by
        unfold nb u8s; rw [List.map_append, List.map_append]
        simp only [List.map_cons, List.map_nil]
        rw [Plain.ofNat_toNat _ (by omega)]
      have hto : tot = (xs ++ [UInt8.ofNat (m % 128 + 128)]) ++ Plain.putL (m / 128) := by rw [ht, Plain.putL_big m hlt, List.append_assoc]; rfl
      obtain ⟨k, hk⟩ : ∃ k, m % 128 + 128 = k := ⟨_, rfl⟩
      rw [hk] at hst hto
      have HST := Lib.hid hst
      have HTO := Lib.hid hto
      have hor : bits BinOp.or IntKind.u8 ((m : Int) % 256) 128 = (k : Int) := by
        have h1 := (bits_nat .u8 8 (by decide) wraps_u8 (m % 256) 128 (by omega) (by decide)).2
        have h2 : ∀ a, a < 256 → a ||| 128 = a % 128 + 128 := by decide
        rw [h2 _ (by omega), show m % 256 % 128 + 128 = k from by omega] at h1
        exact_mod_cast h1
      clear hst hto ht hU hB hk
      go_wp2_with (at_builtin; refine wpList_append_own2 _ rfl (.tmp 8) (.tmp 12) _ rfl w.heap.size 5 i8 _ 1 1 Tryz.underlying35 hi8 y0 y1 y2 rfl (by decide) u xs.length (u8s (nb xs)) rfl (HU.out.alloc _) ⟨wr.heap.size, 0, none⟩ 1 1 [.int .u8 k] rfl rfl ?c1 ?c2 ?c3 ?c4 ?c5 ?_)
      case c1 => exact CellsAt_add (CellsAt.new wr _ _)
      case c2 => intro u hu; simp only [List.mem_cons, List.not_mem_nil, or_false] at hu; subst hu; rfl
      case c3 => simp only [maxLen]; omega
      case c4 => omega
      case c5 => simp; omega
      intro v3 w7 hown2 hg2 _
      have hBn : Below w.heap.size w w7 := (HB.out.alloc HB.out.size _).grown hg2 (by simp; omega) (fun g hg => (HU.out.lt g hg).1)
      have HBn := Lib.hid hBn
      have HO := Lib.hid hown2
      clear hBn hg2 hown2
      go_wp2
      go_roundw
      case rel => exact ⟨m / 128, xs ++ [UInt8.ofNat k], _, rfl, rfl, by omega, HTO.out, HBn.out, by rw [HST.out, List.length_append]; exact HO.out⟩
      case measure => simp [RowKit.intOf]; omega
end Go.Proofs.YtmiacgkidldjmaaGreatDoor
namespace Go.Proofs.YtmiacgkidldjmaaGreatDoor
open Go.RowKit Go.Lib
def str (l : List UInt8) : ByteArray := ⟨l.toArray⟩
theorem str_size (l : List UInt8) : (str l).size = l.length := by simp [str, ByteArray.size]
theorem str_list (l : List UInt8) : (str l).data.toList = l := rfl
theorem str_of (s : ByteArray) : str s.data.toList = s := rfl
theorem str_ext {a b : ByteArray} (h : a.data.toList = b.data.toList) : a = b := by rw [← str_of a, ← str_of b, h]
theorem str_app (a b : List UInt8) : str a ++ str b = str (a ++ b) := str_ext (by rw [ByteArray.data_append, Array.toList_append]; rfl)
theorem str_take (l : List UInt8) (k : Nat) : (str l).extract 0 k = str (l.take k) := str_ext (by simp [str, ByteArray.data_extract])
theorem str_drop (l : List UInt8) (k : Nat) : (str l).extract k (str l).size = str (l.drop k) := str_ext (by rw [extract_to_end]; rfl)
def rdOf (r : Plain.Rd) : Value := rdV (str r.rest) r.e
theorem failR_any (r : Plain.Rd) (e : Int) (w : World) : Calls Tryz.prog 74 #[rdOf r, .int .i64 e] w fun en w' => en = .returned (rdOf (r.fail e)) ∧ Below w.heap.size w w' := by
  refine (fail_any (str r.rest) r.e e w).mono ?_
  rintro en w' ⟨rfl, hb⟩
  refine ⟨?_, hb⟩
  unfold rdOf Plain.Rd.fail
  by_cases h : r.e = 0
  · rw [if_pos h, if_pos h]; rfl
  · rw [if_neg h, if_neg h]; rfl
theorem textS_any (s : ByteArray) (w : World) (hs : s.size ≤ 1152921504606846976) : Calls Tryz.prog 35 #[.string s] w fun e w' => e = .returned (.string (str (Plain.putL s.size ++ s.data.toList))) ∧ Below w.heap.size w w' := by
  have hsz := (Plain.putL_len10 s.size (by omega)).2
  have cP := put_any s.size w (by omega)
  have happ : (⟨(Plain.putL s.size).toArray⟩ : ByteArray) ++ s = str (Plain.putL s.size ++ s.data.toList) := by
    rw [← str_app, str_of]; rfl
  have hl : (⟨(Plain.putL s.size).toArray⟩ : ByteArray).size ≤ 10 := by rw [show (⟨(Plain.putL s.size).toArray⟩ : ByteArray) = str (Plain.putL s.size) from rfl, str_size]; exact hsz
  obtain ⟨p, hp⟩ : ∃ p, (⟨(Plain.putL s.size).toArray⟩ : ByteArray) = p := ⟨_, rfl⟩
  rw [hp] at cP happ hl
  rw [← happ]
  have HP := Lib.hid cP
  clear cP happ hsz hp
  have hw : (s.size : Int) % 18446744073709551616 = (s.size : Int) := by omega
  go_enter Tryz.func35, Tryz.ntmps35
  go_wp2_with fail
  refine HP.out.mono ?_
  rintro e w1 ⟨rfl, hb⟩
  have HB := Lib.hid hb
  clear hb
  go_wp2
  go_ret
  exact ⟨rfl, HB.out⟩
theorem blk_set2 {w : World} {g : Nat} {x y : Value} {t : TypeId} (h : w.heap[g]? = some (.cells #[x, y] t (0, 0))) (a b : Value) :
    ((w.setCell ⟨g, 0, none⟩ a).setCell ⟨g, 1, none⟩ b).heap[g]? = some (.cells #[a, b] t (0, 0)) :=
  heap_setCell_same _ _ 1 _ _ _ (heap_setCell_same _ _ 0 _ _ _ h)
def bytesV (r : Plain.Rd) (many : Int) : Value := .tuple #[.string (str (r.bytes many).1), rdOf (r.bytes many).2]
set_option maxRecDepth 100000 in
set_option maxHeartbeats 1000000 in
theorem bytes_any (r : Plain.Rd) (many : Int) (w : World) (hr : r.rest.length ≤ 1152921504606846976) : Calls Tryz.prog 36 #[rdOf r, .int .i64 many] w fun e w' => e = .returned (bytesV r many) ∧ Below w.heap.size w w' := by
  obtain ⟨l, e⟩ := r
  dsimp only at hr
  by_cases hok : e = 0 ∧ 0 ≤ many ∧ many ≤ l.length
  · obtain ⟨rfl, h0, h1⟩ := hok
    obtain ⟨k, rfl⟩ : ∃ k : Nat, many = k := ⟨many.toNat, by omega⟩
    have hv : bytesV ⟨l, 0⟩ k = .tuple #[.string (str (l.take k)), .agg #[.string (str (l.drop k)), .int .i64 0]] := by
      unfold bytesV Plain.Rd.bytes rdOf rdV
      rw [if_pos ⟨rfl, h0, h1⟩, Int.toNat_natCast]
    rw [hv]
    rw [← str_take l k, ← str_drop l k]
    unfold rdOf rdV
    dsimp only
    have hsz := str_size l
    obtain ⟨s, hs⟩ : ∃ s, str l = s := ⟨_, rfl⟩
    rw [hs] at hsz ⊢
    have hk0 : (0 : Int) ≤ (k : Int) := by omega
    have hk1 : (k : Int) ≤ (s.size : Int) := by omega
    have hsb : s.size ≤ 1152921504606846976 := by omega
    clear hv hs hsz h1 h0 hr
    have d1 : decide ((s.size : Int) < (k : Int)) = false := by simp; omega
    have d2 : decide (s.size < k) = false := by simp; omega
    go_enter Tryz.func36, Tryz.ntmps36
    go_wp2_with fail
    go_region_held3 (fun w' => w'.cell? ⟨w.heap.size, 0, none⟩ = some (.string s)) (go_keep) (fail)
    all_goals go_wp2
    all_goals
      have hb : ((w.alloc (.cells #[.string s, .int .i64 0] 87)).alloc (.cells #[.string (s.extract k s.size), .int .i64 0] 87)).drew.heap[w.heap.size + 1]? = some (.cells #[.string (s.extract k s.size), .int .i64 0] 87 (0, 0)) := heap_alloc_new2 _ _ _ _ (by simp)
      obtain ⟨m0, m1⟩ := blk2 hb
      exact bodyPost_ret (v := .tuple #[.string (s.extract 0 k), .agg #[.string (s.extract k s.size), .int .i64 0]]) (by simp [results, Tryz.results36, go_sem, m0, m1]) rfl ⟨rfl, (((Below.refl _ _).alloc (Nat.le_refl _) _).alloc (by simp) _).drew⟩
  · have hv : bytesV ⟨l, e⟩ many = .tuple #[.string ⟨#[]⟩, .agg #[.string ⟨#[]⟩, .int .i64 (if e = 0 then 4 else e)]] := by
      unfold bytesV Plain.Rd.bytes rdOf rdV
      rw [if_neg hok]
      dsimp only [Plain.Rd.fail]
      by_cases h : e = 0
      · rw [if_pos h, if_pos h]; rfl
      · rw [if_neg h, if_neg h]; rfl
    rw [hv]
    have cF := fail_any (str l) e 4
    unfold rdOf rdV
    unfold rdV at cF
    dsimp only
    have hsz := str_size l
    obtain ⟨s, hs⟩ : ∃ s, str l = s := ⟨_, rfl⟩
    obtain ⟨e2, he2⟩ : ∃ e2, (if e = 0 then (4 : Int) else e) = e2 := ⟨_, rfl⟩
    rw [he2] at cF ⊢
    rw [hs] at hsz cF ⊢
    have hsb : s.size ≤ 1152921504606846976 := by omega
    have hok2 : ¬(e = 0 ∧ 0 ≤ many ∧ many ≤ (s.size : Int)) := by rw [hsz]; exact hok
    have CF := Lib.hid cF
    clear cF hv hs hsz hok hr he2
    by_cases h1 : e = 0
    · subst h1
      by_cases h2 : many < 0
      · have d1 : decide (many < 0) = true := by simp [h2]
        clear hok2
        go_enter Tryz.func36, Tryz.ntmps36
        go_wp2_with fail
        refine (CF.out _).mono ?_
        rintro en w1 ⟨rfl, hb⟩
        have hH : w1.heap[w.heap.size + 1]? = some (.cells #[.string ⟨#[]⟩, .int .i64 0] 87 (0, 0)) := by
          rw [hb.block _ (by simp)]; exact heap_alloc_new2 _ _ _ _ (by simp)
        have hB2 : Below w.heap.size w w1 := (((Below.refl _ _).alloc (Nat.le_refl _) _).alloc (by simp) _).trans (hb.mono (by simp; omega))
        have HB := Lib.hid hB2
        clear hb hB2
        obtain ⟨m0, m1⟩ := blk2 hH
        have f0 : w1.frozen? ⟨w.heap.size + 1, 0, none⟩ = false := by simp [World.frozen?, hH]
        have f1 : w1.frozen? ⟨w.heap.size + 1, 1, none⟩ = false := by simp [World.frozen?, hH]
        have HH := Lib.hid hH
        clear hH
        go_wp2
        obtain ⟨n0, n1⟩ := blk2 (blk_set2 HH.out (.string ⟨#[]⟩) (.int .i64 e2))
        exact bodyPost_ret (v := .tuple #[.string ⟨#[]⟩, .agg #[.string ⟨#[]⟩, .int .i64 e2]]) (by simp [results, Tryz.results36, go_sem, n0, n1]) rfl ⟨rfl, (HB.out.setCell (Nat.le_succ _) _).setCell (Nat.le_succ _) _⟩
      · have h3 : (s.size : Int) < many := by omega
        have d1 : decide (many < 0) = false := by simp; omega
        have d2 : decide ((s.size : Int) < many) = true := by simp [h3]
        clear hok2
        go_enter Tryz.func36, Tryz.ntmps36
        go_wp2_with fail
        refine (CF.out _).mono ?_
        rintro en w1 ⟨rfl, hb⟩
        have hH : w1.heap[w.heap.size + 1]? = some (.cells #[.string ⟨#[]⟩, .int .i64 0] 87 (0, 0)) := by
          rw [hb.block _ (by simp)]; exact heap_alloc_new2 _ _ _ _ (by simp)
        have hB2 : Below w.heap.size w w1 := (((Below.refl _ _).alloc (Nat.le_refl _) _).alloc (by simp) _).trans (hb.mono (by simp; omega))
        have HB := Lib.hid hB2
        clear hb hB2
        obtain ⟨m0, m1⟩ := blk2 hH
        have f0 : w1.frozen? ⟨w.heap.size + 1, 0, none⟩ = false := by simp [World.frozen?, hH]
        have f1 : w1.frozen? ⟨w.heap.size + 1, 1, none⟩ = false := by simp [World.frozen?, hH]
        have HH := Lib.hid hH
        clear hH
        go_wp2
        obtain ⟨n0, n1⟩ := blk2 (blk_set2 HH.out (.string ⟨#[]⟩) (.int .i64 e2))
        exact bodyPost_ret (v := .tuple #[.string ⟨#[]⟩, .agg #[.string ⟨#[]⟩, .int .i64 e2]]) (by simp [results, Tryz.results36, go_sem, n0, n1]) rfl ⟨rfl, (HB.out.setCell (Nat.le_succ _) _).setCell (Nat.le_succ _) _⟩
    · have d1 : (!(e == 0)) = true := by simp [h1]
      clear hok2
      go_enter Tryz.func36, Tryz.ntmps36
      go_wp2_with fail
      refine (CF.out _).mono ?_
      rintro en w1 ⟨rfl, hb⟩
      have hH : w1.heap[w.heap.size + 1]? = some (.cells #[.string ⟨#[]⟩, .int .i64 0] 87 (0, 0)) := by
        rw [hb.block _ (by simp)]; exact heap_alloc_new2 _ _ _ _ (by simp)
      have hB2 : Below w.heap.size w w1 := (((Below.refl _ _).alloc (Nat.le_refl _) _).alloc (by simp) _).trans (hb.mono (by simp; omega))
      have HB := Lib.hid hB2
      clear hb hB2
      obtain ⟨m0, m1⟩ := blk2 hH
      have f0 : w1.frozen? ⟨w.heap.size + 1, 0, none⟩ = false := by simp [World.frozen?, hH]
      have f1 : w1.frozen? ⟨w.heap.size + 1, 1, none⟩ = false := by simp [World.frozen?, hH]
      have HH := Lib.hid hH
      clear hH
      go_wp2
      obtain ⟨n0, n1⟩ := blk2 (blk_set2 HH.out (.string ⟨#[]⟩) (.int .i64 e2))
      exact bodyPost_ret (v := .tuple #[.string ⟨#[]⟩, .agg #[.string ⟨#[]⟩, .int .i64 e2]]) (by simp [results, Tryz.results36, go_sem, n0, n1]) rfl ⟨rfl, (HB.out.setCell (Nat.le_succ _) _).setCell (Nat.le_succ _) _⟩
end Go.Proofs.YtmiacgkidldjmaaGreatDoor
namespace Go.Proofs.YtmiacgkidldjmaaGreatDoor
open Go.RowKit Go.Lib
theorem str_ne (l : List UInt8) : (str l).toList.isEmpty = decide (l = []) := by
  rw [Go.ByteArray.toList_eq, str_list]
  cases l <;> rfl
theorem end_any (r : Plain.Rd) (w : World) : Calls Tryz.prog 111 #[rdOf r] w fun e w' => e = .returned (.int .i64 r.endE) ∧ Below w.heap.size w w' := by
  obtain ⟨l, e⟩ := r
  unfold rdOf rdV Plain.Rd.endE
  dsimp only
  have hne := str_ne l
  obtain ⟨s, hs⟩ : ∃ s, str l = s := ⟨_, rfl⟩
  rw [hs] at hne ⊢
  by_cases h : e = 0
  · subst h
    by_cases h2 : l = []
    · rw [if_neg (by simp [h2])]
      have d : s.toList.isEmpty = true := by rw [hne]; simp [h2]
      go_enter Tryz.func111, Tryz.ntmps111
      go_wp2
      go_ret
      exact ⟨rfl, (Below.refl _ _).alloc (Nat.le_refl _) _⟩
    · rw [if_pos ⟨rfl, h2⟩]
      have d : s.toList.isEmpty = false := by rw [hne]; simp [h2]
      go_enter Tryz.func111, Tryz.ntmps111
      go_wp2
      go_ret
      exact ⟨rfl, (Below.refl _ _).alloc (Nat.le_refl _) _⟩
  · rw [if_neg (by simp [h])]
    have d : (e == 0) = false := by simp [h]
    go_enter Tryz.func111, Tryz.ntmps111
    go_wp2
    go_ret
    exact ⟨rfl, (Below.refl _ _).alloc (Nat.le_refl _) _⟩
end Go.Proofs.YtmiacgkidldjmaaGreatDoor
namespace Go.Proofs.YtmiacgkidldjmaaGreatDoor
open Go.RowKit Go.Lib
theorem and127 (b : Nat) (h : b < 256) : bits .and .u8 (b : Int) 127 = ((b % 128 : Nat) : Int) := by
  have := bits_mask .u8 8 (by decide) wraps_u8 7 (by decide) (b : Int) (by omega) (by omega)
  simpa using this
theorem wraps_u64 (n : Int) (h₀ : 0 ≤ n) (h₁ : n < 2 ^ 64) : IntKind.u64.wrap n = n := by rw [IntKind.wrap_u64]; omega
theorem next_join (acc x k : Nat) (hk : k ≤ 9) (ha : acc < 2 ^ (7 * k)) (hx : x * 2 ^ (7 * k) < 2 ^ 64) :
    bits .or .u64 (acc : Int) ((x * 2 ^ (7 * k) : Nat) : Int) = ((acc + x * 2 ^ (7 * k) : Nat) : Int) := by
  have ha2 : acc < 2 ^ 64 := Nat.lt_of_lt_of_le ha (Nat.pow_le_pow_right (by decide) (by omega))
  rw [(bits_nat .u64 64 (by decide) wraps_u64 acc _ ha2 hx).2, Nat.or_comm, Nat.mul_comm x, ← Nat.two_pow_add_eq_or_of_lt ha x, Nat.add_comm]
/-- the shifted part -/
theorem next_shl (x k : Nat) (hx : x * 2 ^ (7 * k) < 2 ^ 64) : IntKind.u64.wrap ((x : Int) * 2 ^ (7 * k)) = ((x * 2 ^ (7 * k) : Nat) : Int) := by
  have e : ((x : Int) * 2 ^ (7 * k)) = ((x * 2 ^ (7 * k) : Nat) : Int) := by simp
  rw [e]
  exact wraps_u64 _ (Int.natCast_nonneg _) (by exact_mod_cast hx)
/-- a part that is not the tenth byte's is small -/
theorem part_small (b k : Nat) (hb : b < 128) (hk : k < 9 ∨ (k ≤ 9 ∧ b ≤ 1)) : b * 2 ^ (7 * k) < 2 ^ 64 := by
  rcases hk with h | ⟨h, h1⟩
  · have h2 : 2 ^ (7 * k) ≤ 2 ^ 56 := Nat.pow_le_pow_right (by decide) (by omega)
    have : b * 2 ^ (7 * k) ≤ 127 * 2 ^ 56 := Nat.mul_le_mul (by omega) h2
    omega
  · have h2 : 2 ^ (7 * k) ≤ 2 ^ 63 := Nat.pow_le_pow_right (by decide) (by omega)
    have : b * 2 ^ (7 * k) ≤ 1 * 2 ^ 63 := Nat.mul_le_mul h1 h2
    omega
/-- the sum's bound carries -/
theorem acc_small (acc b k : Nat) (ha : acc < 2 ^ (7 * k)) (hb : b < 128) : acc + b * 2 ^ (7 * k) < 2 ^ (7 * (k + 1)) := by
  have e : 2 ^ (7 * (k + 1)) = 128 * 2 ^ (7 * k) := by rw [show 7 * (k + 1) = 7 + 7 * k by omega, Nat.pow_add]
  have : b * 2 ^ (7 * k) ≤ 127 * 2 ^ (7 * k) := Nat.mul_le_mul_right _ (by omega)
  omega
end Go.Proofs.YtmiacgkidldjmaaGreatDoor
namespace Go.Proofs.YtmiacgkidldjmaaGreatDoor
open Go.RowKit Go.Lib
def nextV (r : Plain.Rd) : Value := .tuple #[.int .u64 (r.next).1, rdOf (r.next).2]
set_option maxRecDepth 100000 in
set_option maxHeartbeats 1000000 in
theorem next_any (r : Plain.Rd) (w : World) (hr : r.rest.length ≤ 1152921504606846976) : Calls Tryz.prog 75 #[rdOf r] w fun e w' => e = .returned (nextV r) ∧ Below w.heap.size w w' := by
  obtain ⟨l, e⟩ := r
  dsimp only at hr
  by_cases he : e = 0
  · subst he
    have hv : nextV ⟨l, 0⟩ = .tuple #[.int .u64 ((Plain.goN 10 0 l).1 : Nat), rdV (str (Plain.goN 10 0 l).2.1) ((Plain.goN 10 0 l).2.2 : Nat)] := by
      unfold nextV Plain.Rd.next rdOf
      rw [if_pos rfl]
    rw [hv]
    have hsz := str_size l
    have cF : ∀ (v : Int) (w : World), Calls Tryz.prog 74 #[.agg #[.string (str l), .int .i64 0], .int .i64 v] w fun en w' => en = .returned (.agg #[.string ⟨#[]⟩, .int .i64 v]) ∧ Below w.heap.size w w' := by
      intro v w
      have h := fail_any (str l) 0 v w
      rw [if_pos rfl] at h
      exact h
    have CF3 := Lib.hid cF
    clear cF
    unfold rdOf
    dsimp only
    unfold rdV
    obtain ⟨tot, htot⟩ : ∃ t, Plain.goN 10 0 l = t := ⟨_, rfl⟩
    rw [htot]
    obtain ⟨s, hs⟩ : ∃ s, str l = s := ⟨_, rfl⟩
    rw [hs] at hsz CF3 ⊢
    have hgb : ∀ k (h : k < l.length) (h2 : k < s.size), l[k] = s[k] := by
      intro k h h2; subst hs; rfl
    have HGB := Lib.hid hgb
    clear hgb
    have HT := Lib.hid htot
    have HS := Lib.hid hs
    clear hs htot hv
    go_enter Tryz.func75, Tryz.ntmps75
    go_wp2_with fail
    go_loopw [4, 7] (fun a b wr => ∃ (acc k : Nat), a = .int .u64 acc ∧ b = .int .i64 k ∧ k ≤ 10 ∧ k ≤ l.length ∧ acc < 2 ^ (7 * k) ∧ tot = Plain.goN (10 - k) acc (l.drop k) ∧ wr = (w.alloc (.cells #[.string s, .int .i64 0] 87)).alloc (.cells #[.string ⟨#[]⟩, .int .i64 0] 87)) (fun _ b _ => (10 - RowKit.intOf b).toNat)
    case atStart => exact ⟨0, 0, rfl, rfl, by decide, Nat.zero_le _, by decide, HT.out.symm, rfl⟩
    case round =>
      obtain ⟨acc, k, rfl, rfl, hk, hkl, ha, ht, rfl⟩ := hrel
      by_cases hk10 : k = 10
      · subst hk10
        go_wp2_with fail
        have hz : tot = (0, [], 3) := by
          rw [ht]; rfl
        clear ht
        subst hz
        refine (CF3.out 3 _).mono ?_
        rintro en w1 ⟨rfl, hb⟩
        have hH : w1.heap[w.heap.size + 1]? = some (.cells #[.string ⟨#[]⟩, .int .i64 0] 87 (0, 0)) := by
          rw [hb.block _ (by simp)]; exact heap_alloc_new2 _ _ _ _ (by simp)
        have hB2 : Below w.heap.size w w1 := (((Below.refl _ _).alloc (Nat.le_refl _) _).alloc (by simp) _).trans (hb.mono (by simp; omega))
        have HB := Lib.hid hB2
        clear hb hB2
        obtain ⟨m0, m1⟩ := blk2 hH
        have f0 : w1.frozen? ⟨w.heap.size + 1, 0, none⟩ = false := by simp [World.frozen?, hH]
        have f1 : w1.frozen? ⟨w.heap.size + 1, 1, none⟩ = false := by simp [World.frozen?, hH]
        have HH := Lib.hid hH
        clear hH
        go_wp2
        obtain ⟨n0, n1⟩ := blk2 (blk_set2 HH.out (.string ⟨#[]⟩) (.int .i64 3))
        exact bodyPost_ret (v := .tuple #[.int .u64 0, .agg #[.string ⟨#[]⟩, .int .i64 3]]) (by simp [results, Tryz.results75, go_sem, n0, n1]) rfl ⟨rfl, (HB.out.setCell (Nat.le_succ _) _).setCell (Nat.le_succ _) _⟩
      · have hklt : (k : Int) < 10 := by omega
        have hsb : s.size ≤ 1152921504606846976 := by omega
        have hw2 : ((k : Int) == (s.size : Int)) = decide (k = l.length) := by
          by_cases h : k = l.length
          · simp [h, hsz]
          · simp [h, hsz]; omega
        by_cases hkL : k = l.length
        · have hdrop : l.drop k = [] := List.drop_eq_nil_of_le (by omega)
          obtain ⟨f, hf⟩ : ∃ f, 10 - k = f + 1 := ⟨9 - k, by omega⟩
          rw [hdrop, hf] at ht
          clear hdrop hf
          go_wp2_with fail
          have hz : tot = (0, [], 4) := by
            rw [ht]; rfl
          clear ht
          subst hz
          refine (CF3.out 4 _).mono ?_
          rintro en w1 ⟨rfl, hb⟩
          have hH : w1.heap[w.heap.size + 1]? = some (.cells #[.string ⟨#[]⟩, .int .i64 0] 87 (0, 0)) := by
            rw [hb.block _ (by simp)]; exact heap_alloc_new2 _ _ _ _ (by simp)
          have hB2 : Below w.heap.size w w1 := (((Below.refl _ _).alloc (Nat.le_refl _) _).alloc (by simp) _).trans (hb.mono (by simp; omega))
          have HB := Lib.hid hB2
          clear hb hB2
          obtain ⟨m0, m1⟩ := blk2 hH
          have f0 : w1.frozen? ⟨w.heap.size + 1, 0, none⟩ = false := by simp [World.frozen?, hH]
          have f1 : w1.frozen? ⟨w.heap.size + 1, 1, none⟩ = false := by simp [World.frozen?, hH]
          have HH := Lib.hid hH
          clear hH
          go_wp2
          obtain ⟨n0, n1⟩ := blk2 (blk_set2 HH.out (.string ⟨#[]⟩) (.int .i64 4))
          exact bodyPost_ret (v := .tuple #[.int .u64 0, .agg #[.string ⟨#[]⟩, .int .i64 4]]) (by simp [results, Tryz.results75, go_sem, n0, n1]) rfl ⟨rfl, (HB.out.setCell (Nat.le_succ _) _).setCell (Nat.le_succ _) _⟩
        · have hlt : k < l.length := by omega
          have hlt2 : k < s.size := by omega
          have hdrop : l.drop k = s[k] :: l.drop (k + 1) := by rw [List.drop_eq_getElem_cons hlt, HGB.out k hlt hlt2]
          obtain ⟨f, hf⟩ : ∃ f, 10 - k = f + 1 := ⟨9 - k, by omega⟩
          have hfk : f = 9 - k := by omega
          rw [hdrop, hf] at ht
          clear hdrop hf
          unfold Plain.goN at ht
          subst hfk
          have HT2 := Lib.hid ht
          have hi0 : (0 : Int) ≤ (k : Int) + 1 := by omega
          have hi1 : (k : Int) + 1 ≤ (s.size : Int) := by omega
          have hwk : IntKind.i64.wrap ((k : Int) + 1) = (k : Int) + 1 := by rw [IntKind.wrap_i64]; omega
          have d1 : decide ((s.size : Int) < (k : Int) + 1) = false := by simp; omega
          have d2 : decide (s.size < k + 1) = false := by simp; omega
          have hw3 : ((k : Int) == (s.size : Int)) = false := by rw [hw2]; simp [hkL]
          have hlL := hlt
          clear hsz hw2
          by_cases hk9 : k = 9
          · have e9 : ((k : Int) == 9) = true := by simp [hk9]
            have HK9 := Lib.hid hk9
            clear hk9
            go_wp2_with fail
            · have hz : tot = (0, [], 3) := by
                have := HT2.out; rw [if_pos (by have := HK9.out; omega)] at this; exact this
              clear ht
              subst hz
              refine (CF3.out 3 _).mono ?_
              rintro en w1 ⟨rfl, hb⟩
              have hH : w1.heap[w.heap.size + 1]? = some (.cells #[.string ⟨#[]⟩, .int .i64 0] 87 (0, 0)) := by
                rw [hb.block _ (by simp)]; exact heap_alloc_new2 _ _ _ _ (by simp)
              have hB2 : Below w.heap.size w w1 := (((Below.refl _ _).alloc (Nat.le_refl _) _).alloc (by simp) _).trans (hb.mono (by simp; omega))
              have HB := Lib.hid hB2
              clear hb hB2
              obtain ⟨m0, m1⟩ := blk2 hH
              have f0 : w1.frozen? ⟨w.heap.size + 1, 0, none⟩ = false := by simp [World.frozen?, hH]
              have f1 : w1.frozen? ⟨w.heap.size + 1, 1, none⟩ = false := by simp [World.frozen?, hH]
              have HH := Lib.hid hH
              clear hH
              go_wp2
              obtain ⟨n0, n1⟩ := blk2 (blk_set2 HH.out (.string ⟨#[]⟩) (.int .i64 3))
              exact bodyPost_ret (v := .tuple #[.int .u64 0, .agg #[.string ⟨#[]⟩, .int .i64 3]]) (by simp [results, Tryz.results75, go_sem, n0, n1]) rfl ⟨rfl, (HB.out.setCell (Nat.le_succ _) _).setCell (Nat.le_succ _) _⟩
            · have hz : tot = (0, [], 5) := by
                have := HT2.out; rw [if_neg (by have := HK9.out; omega), if_pos (by have := HK9.out; omega)] at this; exact this
              clear ht
              subst hz
              refine (CF3.out 5 _).mono ?_
              rintro en w1 ⟨rfl, hb⟩
              have hH : w1.heap[w.heap.size + 1]? = some (.cells #[.string ⟨#[]⟩, .int .i64 0] 87 (0, 0)) := by
                rw [hb.block _ (by simp)]; exact heap_alloc_new2 _ _ _ _ (by simp)
              have hB2 : Below w.heap.size w w1 := (((Below.refl _ _).alloc (Nat.le_refl _) _).alloc (by simp) _).trans (hb.mono (by simp; omega))
              have HB := Lib.hid hB2
              clear hb hB2
              obtain ⟨m0, m1⟩ := blk2 hH
              have f0 : w1.frozen? ⟨w.heap.size + 1, 0, none⟩ = false := by simp [World.frozen?, hH]
              have f1 : w1.frozen? ⟨w.heap.size + 1, 1, none⟩ = false := by simp [World.frozen?, hH]
              have HH := Lib.hid hH
              clear hH
              go_wp2
              obtain ⟨n0, n1⟩ := blk2 (blk_set2 HH.out (.string ⟨#[]⟩) (.int .i64 5))
              exact bodyPost_ret (v := .tuple #[.int .u64 0, .agg #[.string ⟨#[]⟩, .int .i64 5]]) (by simp [results, Tryz.results75, go_sem, n0, n1]) rfl ⟨rfl, (HB.out.setCell (Nat.le_succ _) _).setCell (Nat.le_succ _) _⟩
            · exact absurd HK9.out (by omega)
            · have hbv : s[k].toNat < 128 := by have := HK9.out; omega
              have hz := HT2.out
              rw [if_neg (by have := HK9.out; omega), if_neg (by have := HK9.out; omega), if_pos hbv] at hz
              go_region_held3 (fun w' => w'.cell? ⟨w.heap.size, 0, none⟩ = some (.string s)) (go_keep) (fail)
              all_goals go_wp2
              all_goals
                have hb8 := s[k].toNat_lt
                have hps := part_small (s[k].toNat) k hbv (by have := HK9.out; omega)
                have hval : bits .or .u64 (acc : Int) (IntKind.u64.wrap (IntKind.u64.wrap (bits .and .u8 (s[k].toNat : Int) 127) * 2 ^ (7 * k))) = ((acc + s[k].toNat * 2 ^ (7 * k) : Nat) : Int) := by
                  rw [and127 _ hb8, Nat.mod_eq_of_lt hbv, wraps_u64 (s[k].toNat : Int) (by have := HK9.out; omega) (by have := HK9.out; omega), next_shl _ k hps, next_join acc _ k (by have := HK9.out; omega) ha hps]
                have hstr : s.extract (k + 1) s.size = str (l.drop (k + 1)) := by rw [← HS.out]; exact str_drop l (k + 1)
                rw [show 9 - (9 - k) = k by have := HK9.out; omega] at hz
                have hb : ((w.alloc (.cells #[.string s, .int .i64 0] 87)).alloc (.cells #[.string (s.extract (k + 1) s.size), .int .i64 0] 87)).drew.heap[w.heap.size + 1]? = some (.cells #[.string (s.extract (k + 1) s.size), .int .i64 0] 87 (0, 0)) := heap_alloc_new2 _ _ _ _ (by simp)
                obtain ⟨m0, m1⟩ := blk2 hb
                rw [hval]
                exact bodyPost_ret (v := .tuple #[.int .u64 ((acc + s[k].toNat * 2 ^ (7 * k) : Nat) : Int), .agg #[.string (s.extract (k + 1) s.size), .int .i64 0]]) (by simp [results, Tryz.results75, go_sem, m0, m1]) rfl ⟨by rw [hz, hstr]; rfl, (((Below.refl _ _).alloc (Nat.le_refl _) _).alloc (by simp) _).drew⟩
          · have e9 : ((k : Int) == 9) = false := by simp; omega
            go_wp2_with fail
            · have hz : tot = (0, [], 5) := by
                have := HT2.out; rw [if_neg (by omega), if_pos (by omega)] at this; exact this
              clear ht
              subst hz
              refine (CF3.out 5 _).mono ?_
              rintro en w1 ⟨rfl, hb⟩
              have hH : w1.heap[w.heap.size + 1]? = some (.cells #[.string ⟨#[]⟩, .int .i64 0] 87 (0, 0)) := by
                rw [hb.block _ (by simp)]; exact heap_alloc_new2 _ _ _ _ (by simp)
              have hB2 : Below w.heap.size w w1 := (((Below.refl _ _).alloc (Nat.le_refl _) _).alloc (by simp) _).trans (hb.mono (by simp; omega))
              have HB := Lib.hid hB2
              clear hb hB2
              obtain ⟨m0, m1⟩ := blk2 hH
              have f0 : w1.frozen? ⟨w.heap.size + 1, 0, none⟩ = false := by simp [World.frozen?, hH]
              have f1 : w1.frozen? ⟨w.heap.size + 1, 1, none⟩ = false := by simp [World.frozen?, hH]
              have HH := Lib.hid hH
              clear hH
              go_wp2
              obtain ⟨n0, n1⟩ := blk2 (blk_set2 HH.out (.string ⟨#[]⟩) (.int .i64 5))
              exact bodyPost_ret (v := .tuple #[.int .u64 0, .agg #[.string ⟨#[]⟩, .int .i64 5]]) (by simp [results, Tryz.results75, go_sem, n0, n1]) rfl ⟨rfl, (HB.out.setCell (Nat.le_succ _) _).setCell (Nat.le_succ _) _⟩
            · have hbv : s[k].toNat < 128 := by omega
              have hz := HT2.out
              rw [if_neg (by omega), if_neg (by omega), if_pos hbv] at hz
              go_region_held3 (fun w' => w'.cell? ⟨w.heap.size, 0, none⟩ = some (.string s)) (go_keep) (fail)
              all_goals go_wp2
              all_goals
                have hb8 := s[k].toNat_lt
                have hps := part_small (s[k].toNat) k hbv (by omega)
                have hval : bits .or .u64 (acc : Int) (IntKind.u64.wrap (IntKind.u64.wrap (bits .and .u8 (s[k].toNat : Int) 127) * 2 ^ (7 * k))) = ((acc + s[k].toNat * 2 ^ (7 * k) : Nat) : Int) := by
                  rw [and127 _ hb8, Nat.mod_eq_of_lt hbv, wraps_u64 (s[k].toNat : Int) (by omega) (by omega), next_shl _ k hps, next_join acc _ k (by omega) ha hps]
                have hstr : s.extract (k + 1) s.size = str (l.drop (k + 1)) := by rw [← HS.out]; exact str_drop l (k + 1)
                rw [show 9 - (9 - k) = k by omega] at hz
                have hb : ((w.alloc (.cells #[.string s, .int .i64 0] 87)).alloc (.cells #[.string (s.extract (k + 1) s.size), .int .i64 0] 87)).drew.heap[w.heap.size + 1]? = some (.cells #[.string (s.extract (k + 1) s.size), .int .i64 0] 87 (0, 0)) := heap_alloc_new2 _ _ _ _ (by simp)
                obtain ⟨m0, m1⟩ := blk2 hb
                have h0 : ((s[k].toNat : Nat) : Int) = 0 := by omega
                rw [h0] at hval
                rw [hval]
                exact bodyPost_ret (v := .tuple #[.int .u64 ((acc + s[k].toNat * 2 ^ (7 * k) : Nat) : Int), .agg #[.string (s.extract (k + 1) s.size), .int .i64 0]]) (by simp [results, Tryz.results75, go_sem, m0, m1]) rfl ⟨by rw [hz, hstr]; rfl, (((Below.refl _ _).alloc (Nat.le_refl _) _).alloc (by simp) _).drew⟩
            · have hbv : s[k].toNat < 128 := by omega
              have hz := HT2.out
              rw [if_neg (by omega), if_neg (by omega), if_pos hbv] at hz
              go_region_held3 (fun w' => w'.cell? ⟨w.heap.size, 0, none⟩ = some (.string s)) (go_keep) (fail)
              all_goals go_wp2
              all_goals
                have hb8 := s[k].toNat_lt
                have hps := part_small (s[k].toNat) k hbv (by omega)
                have hval : bits .or .u64 (acc : Int) (IntKind.u64.wrap (IntKind.u64.wrap (bits .and .u8 (s[k].toNat : Int) 127) * 2 ^ (7 * k))) = ((acc + s[k].toNat * 2 ^ (7 * k) : Nat) : Int) := by
                  rw [and127 _ hb8, Nat.mod_eq_of_lt hbv, wraps_u64 (s[k].toNat : Int) (by omega) (by omega), next_shl _ k hps, next_join acc _ k (by omega) ha hps]
                have hstr : s.extract (k + 1) s.size = str (l.drop (k + 1)) := by rw [← HS.out]; exact str_drop l (k + 1)
                rw [show 9 - (9 - k) = k by omega] at hz
                have hb : ((w.alloc (.cells #[.string s, .int .i64 0] 87)).alloc (.cells #[.string (s.extract (k + 1) s.size), .int .i64 0] 87)).drew.heap[w.heap.size + 1]? = some (.cells #[.string (s.extract (k + 1) s.size), .int .i64 0] 87 (0, 0)) := heap_alloc_new2 _ _ _ _ (by simp)
                obtain ⟨m0, m1⟩ := blk2 hb
                rw [hval]
                exact bodyPost_ret (v := .tuple #[.int .u64 ((acc + s[k].toNat * 2 ^ (7 * k) : Nat) : Int), .agg #[.string (s.extract (k + 1) s.size), .int .i64 0]]) (by simp [results, Tryz.results75, go_sem, m0, m1]) rfl ⟨by rw [hz, hstr]; rfl, (((Below.refl _ _).alloc (Nat.le_refl _) _).alloc (by simp) _).drew⟩
            · have hbv : 128 ≤ s[k].toNat := by omega
              have hz := HT2.out
              rw [if_neg (by omega), if_neg (by omega), if_neg (by omega)] at hz
              have hb8 := s[k].toNat_lt
              have hps := part_small (s[k].toNat % 128) k (by omega) (by omega)
              refine ⟨⟨acc + (s[k].toNat % 128) * 2 ^ (7 * k), k + 1, ?_, by simp, by omega, by omega, acc_small acc _ k ha (by omega), ?_, trivial⟩, by simp [RowKit.intOf]; omega⟩
              · rw [and127 _ hb8, wraps_u64 ((s[k].toNat % 128 : Nat) : Int) (by omega) (by omega), next_shl _ k hps, next_join acc _ k (by omega) ha hps]
              · rw [hz, show 10 - (k + 1) = 9 - k by omega, show 9 - (9 - k) = k by omega, show s[k].toNat - 128 = s[k].toNat % 128 by omega]
  · have hv : nextV ⟨l, e⟩ = .tuple #[.int .u64 0, .agg #[.string ⟨#[]⟩, .int .i64 e]] := by
      unfold nextV Plain.Rd.next rdOf rdV
      rw [if_neg he]
      rfl
    rw [hv]
    have cF : ∀ (w : World), Calls Tryz.prog 74 #[.agg #[.string (str l), .int .i64 e], .int .i64 4] w fun en w' => en = .returned (.agg #[.string ⟨#[]⟩, .int .i64 e]) ∧ Below w.heap.size w w' := by
      intro w
      have h := fail_any (str l) e 4 w
      rw [if_neg he] at h
      exact h
    have CF := Lib.hid cF
    clear cF hv hr
    unfold rdOf rdV
    dsimp only
    obtain ⟨s, hs⟩ : ∃ s, str l = s := ⟨_, rfl⟩
    rw [hs] at CF ⊢
    clear hs
    have e1 : (e == 0) = false := by simp [he]
    have e2 : (!(e == 0)) = true := by simp [he]
    clear he
    go_enter Tryz.func75, Tryz.ntmps75
    go_wp2_with fail
    go_loopw [4, 7] (fun a b wr => a = .int .u64 0 ∧ b = .int .i64 0 ∧ wr = (w.alloc (.cells #[.string s, .int .i64 e] 87)).alloc (.cells #[.string ⟨#[]⟩, .int .i64 0] 87)) (fun _ _ _ => 0)
    case atStart => exact ⟨rfl, rfl, rfl⟩
    case round =>
      obtain ⟨rfl, rfl, rfl⟩ := hrel
      go_wp2_with fail
      refine (CF.out _).mono ?_
      rintro en w1 ⟨rfl, hb⟩
      have hH : w1.heap[w.heap.size + 1]? = some (.cells #[.string ⟨#[]⟩, .int .i64 0] 87 (0, 0)) := by
        rw [hb.block _ (by simp)]; exact heap_alloc_new2 _ _ _ _ (by simp)
      have hB2 : Below w.heap.size w w1 := (((Below.refl _ _).alloc (Nat.le_refl _) _).alloc (by simp) _).trans (hb.mono (by simp; omega))
      have HB := Lib.hid hB2
      clear hb hB2
      obtain ⟨m0, m1⟩ := blk2 hH
      have f0 : w1.frozen? ⟨w.heap.size + 1, 0, none⟩ = false := by simp [World.frozen?, hH]
      have f1 : w1.frozen? ⟨w.heap.size + 1, 1, none⟩ = false := by simp [World.frozen?, hH]
      have HH := Lib.hid hH
      clear hH
      go_wp2
      obtain ⟨n0, n1⟩ := blk2 (blk_set2 HH.out (.string ⟨#[]⟩) (.int .i64 e))
      exact bodyPost_ret (v := .tuple #[.int .u64 0, .agg #[.string ⟨#[]⟩, .int .i64 e]]) (by simp [results, Tryz.results75, go_sem, n0, n1]) rfl ⟨rfl, (HB.out.setCell (Nat.le_succ _) _).setCell (Nat.le_succ _) _⟩
end Go.Proofs.YtmiacgkidldjmaaGreatDoor
