/- Chapter 2: a reader's failure, a number's bytes, a text's, the next bytes, the end: what the code computes. Conditions: what each lemma says. -/
import Derived.Test.YtkkgdnmloojloaaDoorBase
import Derived.Test.YtkkgdnmloojloaaDoorPlain2
import Derived.Deep.RegionHeld3
set_option linter.unusedVariables false
set_option linter.unusedSimpArgs false
namespace Go.Proofs.YtkkgdnmloojloaaDoor
open Go.RowKit Go.Lib
/-- a reader's value -/
def rdV (s : ByteArray) (e : Int) : Value := .agg #[.string s, .int .i64 e]
theorem blk2 {w : World} {g : Nat} {x y : Value} {t : TypeId} (h : w.heap[g]? = some (.cells #[x, y] t (0, 0))) : w.cell? ⟨g, 0, none⟩ = some x ∧ w.cell? ⟨g, 1, none⟩ = some y :=
  ⟨by rw [cell_of_row _ _ _ _ _ _ h]; rfl, by rw [cell_of_row _ _ _ _ _ _ h]; rfl⟩
theorem fail_any (s : ByteArray) (e0 e : Int) (w : World) :
    Calls Tryd.prog 49 #[rdV s e0, .int .i64 e] w fun en w' => en = .returned (rdV ⟨#[]⟩ (if e0 = 0 then e else e0)) ∧ Below w.heap.size w w' := by
  unfold rdV
  by_cases h : e0 = 0
  · subst h
    rw [if_pos rfl]
    go_enter Tryd.func49, Tryd.ntmps49
    go_wp2
    have hb : ((w.alloc (.cells #[.string s, .int .i64 0] 24)).alloc (.cells #[.string ⟨#[]⟩, .int .i64 e] 24)).heap[w.heap.size + 1]? = some (.cells #[.string ⟨#[]⟩, .int .i64 e] 24 (0, 0)) := heap_alloc_new2 _ _ _ _ (by simp)
    obtain ⟨m0, m1⟩ := blk2 hb
    exact bodyPost_ret (v := .agg #[.string ⟨#[]⟩, .int .i64 e]) (by simp [results, Tryd.results49, go_sem, m0, m1]) rfl ⟨rfl, ((Below.refl _ _).alloc (Nat.le_refl _) _).alloc (by simp) _⟩
  · rw [if_neg h]
    have h1 : (!(e0 == 0)) = true := by simp [h]
    go_enter Tryd.func49, Tryd.ntmps49
    go_wp2
    have hb : ((w.alloc (.cells #[.string s, .int .i64 e0] 24)).alloc (.cells #[.string ⟨#[]⟩, .int .i64 e0] 24)).heap[w.heap.size + 1]? = some (.cells #[.string ⟨#[]⟩, .int .i64 e0] 24 (0, 0)) := heap_alloc_new2 _ _ _ _ (by simp)
    obtain ⟨m0, m1⟩ := blk2 hb
    exact bodyPost_ret (v := .agg #[.string ⟨#[]⟩, .int .i64 e0]) (by simp [results, Tryd.results49, go_sem, m0, m1]) rfl ⟨rfl, ((Below.refl _ _).alloc (Nat.le_refl _) _).alloc (by simp) _⟩
end Go.Proofs.YtkkgdnmloojloaaDoor
namespace Go.Proofs.YtkkgdnmloojloaaDoor
open Go.RowKit Go.Lib
theorem info5 : (Tryd.prog.info? 5).map (fun i => (i.zero, i.size, i.bytes)) = some (some (.int .u8 0), 1, 1) := by kernel_rfl
/-- bytes as numbers -/
def nb (l : List UInt8) : List Int := l.map fun b => (b.toNat : Int)
theorem bstr_nb (l : List UInt8) : bstr (nb l) = ⟨l.toArray⟩ := by
  have h := bstr_list (nb l)
  unfold nb at h
  rw [List.map_map] at h
  have e : (l.map ((fun n : Int => UInt8.ofNat n.toNat) ∘ fun b : UInt8 => (b.toNat : Int))) = l := by
    conv => rhs; rw [← List.map_id l]
    exact List.map_congr_left fun b _ => by simp
  rw [e] at h
  obtain ⟨s, hs⟩ : ∃ s, bstr (nb l) = s := ⟨_, rfl⟩
  have h2 : s.data.toList = l := by rw [← hs]; exact h
  rw [hs]
  obtain ⟨d⟩ := s
  have h3 : d.toList = l := h2
  rw [← h3]
theorem conv_bytes {w : World} {base n c : Nat} {A : Option Addr} {ns : List Int} (h : w.ownsRow base 5 1 (.slice A n c) n (u8s ns)) : (convert 53 9 (.slice A n c)).run Tryd.prog w = .ok (.string (bstr ns)) w := by
  rw [run_convert_bytes_string w 53 9 5 A n c Tryd.underlying53 Tryd.underlying5 Tryd.underlying9]
  have hl := h.1
  rcases h.2 with ⟨hv, hn⟩ | ⟨g, cap, cur, hv, _⟩
  · injection hv with h1 h2 h3
    subst h1 h2 h3
    have : ns = [] := List.eq_nil_of_length_eq_zero (by simpa [u8s] using hl)
    subst this
    rfl
  · injection hv with h1 h2 h3
    subst h1
    have hc := h.cells (g := g) rfl
    have hlen : (u8s ns).length = n := by rw [hl, Nat.mul_one]
    have h2 := run_loadCells_list (P := Tryd.prog) (w := w) ⟨g, 0, none⟩ (u8s ns) hc
    rw [hlen] at h2
    exact run_bytesToString w _ n c ns h2
set_option maxRecDepth 100000 in
set_option maxHeartbeats 1000000 in
theorem put_any (n : Nat) (w : World) (hn : n < 18446744073709551616) :
    Calls Tryd.prog 15 #[.int .u64 n] w fun e w' => e = .returned (.string ⟨(Plain.putL n).toArray⟩) ∧ Below w.heap.size w w' := by
  have hl10 := (Plain.putL_len10 n hn).2
  obtain ⟨tot, htot⟩ : ∃ l, Plain.putL n = l := ⟨_, rfl⟩
  rw [htot] at hl10 ⊢
  have HTOT := Lib.hid htot
  clear htot
  obtain ⟨i8, hi8, y0, y1, y2⟩ := info_parts info5
  go_enter Tryd.func15, Tryd.ntmps15
  go_wp2_with fail
  go_loopw [0, 3] (fun a b wr => ∃ (m : Nat) (xs : List UInt8) (u : Value), u = b ∧ a = .int .u64 m ∧ m < 18446744073709551616 ∧ tot = xs ++ Plain.putL m ∧ Below w.heap.size w wr ∧ wr.ownsRow w.heap.size 5 1 u xs.length (u8s (nb xs))) (fun a _ _ => (RowKit.intOf a).toNat)
  case atStart => exact ⟨n, [], _, rfl, rfl, hn, HTOT.out.symm, Below.refl _ _, World.ownsRow_nil _ _ _ _⟩
  case round =>
    obtain ⟨m, xs, u, rfl, rfl, hm, ht, hB, hU⟩ := hrel
    have hxl : xs.length ≤ 9 := by
      have := congrArg List.length ht
      rw [List.length_append] at this
      have := List.length_pos_iff.2 (Plain.putL_ne m)
      omega
    have HU := Lib.hid hU
    have HB := Lib.hid hB
    have hsz := hB.size
    by_cases hlt : m < 128
    · rw [Plain.putL_small m hlt] at ht
      have htt : u8s (nb tot) = u8s (nb xs) ++ [.int .u8 (m : Int)] := by
        rw [ht]; unfold nb u8s; rw [List.map_append, List.map_append]
        simp only [List.map_cons, List.map_nil]
        rw [Plain.ofNat_toNat m (by omega)]
      have HTT := Lib.hid htt
      clear ht htt hU hB
      have hwm : (m : Int) % 256 = (m : Int) := by omega
      go_wp2_with (at_builtin; refine wpList_append_own2 _ rfl (.tmp 14) (.tmp 17) _ rfl w.heap.size 5 i8 _ 1 1 Tryd.underlying53 hi8 y0 y1 y2 rfl (by decide) u xs.length (u8s (nb xs)) rfl (HU.out.alloc _) ⟨wr.heap.size, 0, none⟩ 1 1 [.int .u8 (m : Int)] rfl rfl ?c1 ?c2 ?c3 ?c4 ?c5 ?_)
      case c1 => exact CellsAt_add (CellsAt.new wr _ _)
      case c2 => intro u hu; simp only [List.mem_cons, List.not_mem_nil, or_false] at hu; subst hu; rfl
      case c3 => simp only [maxLen]; omega
      case c4 => omega
      case c5 => simp; omega
      intro v3 w7 hown2 hg2 _
      have hBn : Below w.heap.size w w7 := (HB.out.alloc HB.out.size _).grown hg2 (by simp; omega) (fun g hg => (HU.out.lt g hg).1)
      rw [← HTT.out] at hown2
      obtain ⟨ua, uc, rfl⟩ := own_slice hown2
      have hcv := conv_bytes hown2
      rw [bstr_nb] at hcv
      have HBn := Lib.hid hBn
      clear hBn hg2 hown2
      go_wp2
      go_ret
      exact ⟨rfl, HBn.out⟩
    · have hst : u8s (nb (xs ++ [UInt8.ofNat (m % 128 + 128)])) = u8s (nb xs) ++ [.int .u8 ((m % 128 + 128 : Nat) : Int)] := by
        unfold nb u8s; rw [List.map_append, List.map_append]
        simp only [List.map_cons, List.map_nil]
        rw [Plain.ofNat_toNat _ (by omega)]
      have hto : tot = (xs ++ [UInt8.ofNat (m % 128 + 128)]) ++ Plain.putL (m / 128) := by rw [ht, Plain.putL_big m hlt, List.append_assoc]; rfl
      obtain ⟨k, hk⟩ : ∃ k, m % 128 + 128 = k := ⟨_, rfl⟩
      rw [hk] at hst hto
      have HST := Lib.hid hst
      have HTO := Lib.hid hto
      have hor : bits BinOp.or IntKind.u8 ((m : Int) % 256) 128 = (k : Int) := by
        have h1 := (bits_nat .u8 8 (by decide) wraps_u8 (m % 256) 128 (by omega) (by decide)).2
        have h2 : ∀ a, a < 256 → a ||| 128 = a % 128 + 128 := by decide
        rw [h2 _ (by omega), show m % 256 % 128 + 128 = k from by omega] at h1
        exact_mod_cast h1
      clear hst hto ht hU hB hk
      go_wp2_with (at_builtin; refine wpList_append_own2 _ rfl (.tmp 8) (.tmp 12) _ rfl w.heap.size 5 i8 _ 1 1 Tryd.underlying53 hi8 y0 y1 y2 rfl (by decide) u xs.length (u8s (nb xs)) rfl (HU.out.alloc _) ⟨wr.heap.size, 0, none⟩ 1 1 [.int .u8 k] rfl rfl ?c1 ?c2 ?c3 ?c4 ?c5 ?_)
      case c1 => exact CellsAt_add (CellsAt.new wr _ _)
      case c2 => intro u hu; simp only [List.mem_cons, List.not_mem_nil, or_false] at hu; subst hu; rfl
      case c3 => simp only [maxLen]; omega
      case c4 => omega
      case c5 => simp; omega
      intro v3 w7 hown2 hg2 _
      have hBn : Below w.heap.size w w7 := (HB.out.alloc HB.out.size _).grown hg2 (by simp; omega) (fun g hg => (HU.out.lt g hg).1)
      have HBn := Lib.hid hBn
      have HO := Lib.hid hown2
      clear hBn hg2 hown2
      go_wp2
      go_roundw
      case rel => exact ⟨m / 128, xs ++ [UInt8.ofNat k], _, rfl, rfl, by omega, HTO.out, HBn.out, by rw [HST.out, List.length_append]; exact HO.out⟩
      case measure => simp [RowKit.intOf]; omega
end Go.Proofs.YtkkgdnmloojloaaDoor
namespace Go.Proofs.YtkkgdnmloojloaaDoor
open Go.RowKit Go.Lib
def str (l : List UInt8) : ByteArray := ⟨l.toArray⟩
theorem str_size (l : List UInt8) : (str l).size = l.length := by simp [str, ByteArray.size]
theorem str_list (l : List UInt8) : (str l).data.toList = l := rfl
theorem str_of (s : ByteArray) : str s.data.toList = s := rfl
theorem str_ext {a b : ByteArray} (h : a.data.toList = b.data.toList) : a = b := by rw [← str_of a, ← str_of b, h]
theorem str_app (a b : List UInt8) : str a ++ str b = str (a ++ b) := str_ext (by rw [ByteArray.data_append, Array.toList_append]; rfl)
theorem str_take (l : List UInt8) (k : Nat) : (str l).extract 0 k = str (l.take k) := str_ext (by simp [str, ByteArray.data_extract])
theorem str_drop (l : List UInt8) (k : Nat) : (str l).extract k (str l).size = str (l.drop k) := str_ext (by rw [extract_to_end]; rfl)
def rdOf (r : Plain.Rd) : Value := rdV (str r.rest) r.e
theorem failR_any (r : Plain.Rd) (e : Int) (w : World) : Calls Tryd.prog 49 #[rdOf r, .int .i64 e] w fun en w' => en = .returned (rdOf (r.fail e)) ∧ Below w.heap.size w w' := by
  refine (fail_any (str r.rest) r.e e w).mono ?_
  rintro en w' ⟨rfl, hb⟩
  refine ⟨?_, hb⟩
  unfold rdOf Plain.Rd.fail
  by_cases h : r.e = 0
  · rw [if_pos h, if_pos h]; rfl
  · rw [if_neg h, if_neg h]; rfl
theorem textS_any (s : ByteArray) (w : World) (hs : s.size ≤ 1152921504606846976) : Calls Tryd.prog 16 #[.string s] w fun e w' => e = .returned (.string (str (Plain.putL s.size ++ s.data.toList))) ∧ Below w.heap.size w w' := by
  have hsz := (Plain.putL_len10 s.size (by omega)).2
  have cP := put_any s.size w (by omega)
  have happ : (⟨(Plain.putL s.size).toArray⟩ : ByteArray) ++ s = str (Plain.putL s.size ++ s.data.toList) := by
    rw [← str_app, str_of]; rfl
  have hl : (⟨(Plain.putL s.size).toArray⟩ : ByteArray).size ≤ 10 := by rw [show (⟨(Plain.putL s.size).toArray⟩ : ByteArray) = str (Plain.putL s.size) from rfl, str_size]; exact hsz
  obtain ⟨p, hp⟩ : ∃ p, (⟨(Plain.putL s.size).toArray⟩ : ByteArray) = p := ⟨_, rfl⟩
  rw [hp] at cP happ hl
  rw [← happ]
  have HP := Lib.hid cP
  clear cP happ hsz hp
  have hw : (s.size : Int) % 18446744073709551616 = (s.size : Int) := by omega
  go_enter Tryd.func16, Tryd.ntmps16
  go_wp2_with fail
  refine HP.out.mono ?_
  rintro e w1 ⟨rfl, hb⟩
  have HB := Lib.hid hb
  clear hb
  go_wp2
  go_ret
  exact ⟨rfl, HB.out⟩
theorem blk_set2 {w : World} {g : Nat} {x y : Value} {t : TypeId} (h : w.heap[g]? = some (.cells #[x, y] t (0, 0))) (a b : Value) :
    ((w.setCell ⟨g, 0, none⟩ a).setCell ⟨g, 1, none⟩ b).heap[g]? = some (.cells #[a, b] t (0, 0)) :=
  heap_setCell_same _ _ 1 _ _ _ (heap_setCell_same _ _ 0 _ _ _ h)
def bytesV (r : Plain.Rd) (many : Int) : Value := .tuple #[.string (str (r.bytes many).1), rdOf (r.bytes many).2]
set_option maxRecDepth 100000 in
set_option maxHeartbeats 1000000 in
theorem bytes_any (r : Plain.Rd) (many : Int) (w : World) (hr : r.rest.length ≤ 1152921504606846976) : Calls Tryd.prog 24 #[rdOf r, .int .i64 many] w fun e w' => e = .returned (bytesV r many) ∧ Below w.heap.size w w' := by
  obtain ⟨l, e⟩ := r
  dsimp only at hr
  by_cases hok : e = 0 ∧ 0 ≤ many ∧ many ≤ l.length
  · obtain ⟨rfl, h0, h1⟩ := hok
    obtain ⟨k, rfl⟩ : ∃ k : Nat, many = k := ⟨many.toNat, by omega⟩
    have hv : bytesV ⟨l, 0⟩ k = .tuple #[.string (str (l.take k)), .agg #[.string (str (l.drop k)), .int .i64 0]] := by
      unfold bytesV Plain.Rd.bytes rdOf rdV
      rw [if_pos ⟨rfl, h0, h1⟩, Int.toNat_natCast]
    rw [hv]
    rw [← str_take l k, ← str_drop l k]
    unfold rdOf rdV
    dsimp only
    have hsz := str_size l
    obtain ⟨s, hs⟩ : ∃ s, str l = s := ⟨_, rfl⟩
    rw [hs] at hsz ⊢
    have hk0 : (0 : Int) ≤ (k : Int) := by omega
    have hk1 : (k : Int) ≤ (s.size : Int) := by omega
    have hsb : s.size ≤ 1152921504606846976 := by omega
    clear hv hs hsz h1 h0 hr
    have d1 : decide ((s.size : Int) < (k : Int)) = false := by simp; omega
    have d2 : decide (s.size < k) = false := by simp; omega
    go_enter Tryd.func24, Tryd.ntmps24
    go_wp2_with fail
    go_region_held3 (fun w' => w'.cell? ⟨w.heap.size, 0, none⟩ = some (.string s)) (go_keep) (fail)
    all_goals go_wp2
    all_goals
      have hb : ((w.alloc (.cells #[.string s, .int .i64 0] 24)).alloc (.cells #[.string (s.extract k s.size), .int .i64 0] 24)).drew.heap[w.heap.size + 1]? = some (.cells #[.string (s.extract k s.size), .int .i64 0] 24 (0, 0)) := heap_alloc_new2 _ _ _ _ (by simp)
      obtain ⟨m0, m1⟩ := blk2 hb
      exact bodyPost_ret (v := .tuple #[.string (s.extract 0 k), .agg #[.string (s.extract k s.size), .int .i64 0]]) (by simp [results, Tryd.results24, go_sem, m0, m1]) rfl ⟨rfl, (((Below.refl _ _).alloc (Nat.le_refl _) _).alloc (by simp) _).drew⟩
  · have hv : bytesV ⟨l, e⟩ many = .tuple #[.string ⟨#[]⟩, .agg #[.string ⟨#[]⟩, .int .i64 (if e = 0 then 4 else e)]] := by
      unfold bytesV Plain.Rd.bytes rdOf rdV
      rw [if_neg hok]
      dsimp only [Plain.Rd.fail]
      by_cases h : e = 0
      · rw [if_pos h, if_pos h]; rfl
      · rw [if_neg h, if_neg h]; rfl
    rw [hv]
    have cF := fail_any (str l) e 4
    unfold rdOf rdV
    unfold rdV at cF
    dsimp only
    have hsz := str_size l
    obtain ⟨s, hs⟩ : ∃ s, str l = s := ⟨_, rfl⟩
    obtain ⟨e2, he2⟩ : ∃ e2, (if e = 0 then (4 : Int) else e) = e2 := ⟨_, rfl⟩
    rw [he2] at cF ⊢
    rw [hs] at hsz cF ⊢
    have hsb : s.size ≤ 1152921504606846976 := by omega
    have hok2 : ¬(e = 0 ∧ 0 ≤ many ∧ many ≤ (s.size : Int)) := by rw [hsz]; exact hok
    have CF := Lib.hid cF
    clear cF hv hs hsz hok hr he2
    by_cases h1 : e = 0
    · subst h1
      by_cases h2 : many < 0
      · have d1 : decide (many < 0) = true := by simp [h2]
        clear hok2
        go_enter Tryd.func24, Tryd.ntmps24
        go_wp2_with fail
        refine (CF.out _).mono ?_
        rintro en w1 ⟨rfl, hb⟩
        have hH : w1.heap[w.heap.size + 1]? = some (.cells #[.string ⟨#[]⟩, .int .i64 0] 24 (0, 0)) := by
          rw [hb.block _ (by simp)]; exact heap_alloc_new2 _ _ _ _ (by simp)
        have hB2 : Below w.heap.size w w1 := (((Below.refl _ _).alloc (Nat.le_refl _) _).alloc (by simp) _).trans (hb.mono (by simp; omega))
        have HB := Lib.hid hB2
        clear hb hB2
        obtain ⟨m0, m1⟩ := blk2 hH
        have f0 : w1.frozen? ⟨w.heap.size + 1, 0, none⟩ = false := by simp [World.frozen?, hH]
        have f1 : w1.frozen? ⟨w.heap.size + 1, 1, none⟩ = false := by simp [World.frozen?, hH]
        have HH := Lib.hid hH
        clear hH
        go_wp2
        obtain ⟨n0, n1⟩ := blk2 (blk_set2 HH.out (.string ⟨#[]⟩) (.int .i64 e2))
        exact bodyPost_ret (v := .tuple #[.string ⟨#[]⟩, .agg #[.string ⟨#[]⟩, .int .i64 e2]]) (by simp [results, Tryd.results24, go_sem, n0, n1]) rfl ⟨rfl, (HB.out.setCell (Nat.le_succ _) _).setCell (Nat.le_succ _) _⟩
      · have h3 : (s.size : Int) < many := by omega
        have d1 : decide (many < 0) = false := by simp; omega
        have d2 : decide ((s.size : Int) < many) = true := by simp [h3]
        clear hok2
        go_enter Tryd.func24, Tryd.ntmps24
        go_wp2_with fail
        refine (CF.out _).mono ?_
        rintro en w1 ⟨rfl, hb⟩
        have hH : w1.heap[w.heap.size + 1]? = some (.cells #[.string ⟨#[]⟩, .int .i64 0] 24 (0, 0)) := by
          rw [hb.block _ (by simp)]; exact heap_alloc_new2 _ _ _ _ (by simp)
        have hB2 : Below w.heap.size w w1 := (((Below.refl _ _).alloc (Nat.le_refl _) _).alloc (by simp) _).trans (hb.mono (by simp; omega))
        have HB := Lib.hid hB2
        clear hb hB2
        obtain ⟨m0, m1⟩ := blk2 hH
        have f0 : w1.frozen? ⟨w.heap.size + 1, 0, none⟩ = false := by simp [World.frozen?, hH]
        have f1 : w1.frozen? ⟨w.heap.size + 1, 1, none⟩ = false := by simp [World.frozen?, hH]
        have HH := Lib.hid hH
        clear hH
        go_wp2
        obtain ⟨n0, n1⟩ := blk2 (blk_set2 HH.out (.string ⟨#[]⟩) (.int .i64 e2))
        exact bodyPost_ret (v := .tuple #[.string ⟨#[]⟩, .agg #[.string ⟨#[]⟩, .int .i64 e2]]) (by simp [results, Tryd.results24, go_sem, n0, n1]) rfl ⟨rfl, (HB.out.setCell (Nat.le_succ _) _).setCell (Nat.le_succ _) _⟩
    · have d1 : (!(e == 0)) = true := by simp [h1]
      clear hok2
      go_enter Tryd.func24, Tryd.ntmps24
      go_wp2_with fail
      refine (CF.out _).mono ?_
      rintro en w1 ⟨rfl, hb⟩
      have hH : w1.heap[w.heap.size + 1]? = some (.cells #[.string ⟨#[]⟩, .int .i64 0] 24 (0, 0)) := by
        rw [hb.block _ (by simp)]; exact heap_alloc_new2 _ _ _ _ (by simp)
      have hB2 : Below w.heap.size w w1 := (((Below.refl _ _).alloc (Nat.le_refl _) _).alloc (by simp) _).trans (hb.mono (by simp; omega))
      have HB := Lib.hid hB2
      clear hb hB2
      obtain ⟨m0, m1⟩ := blk2 hH
      have f0 : w1.frozen? ⟨w.heap.size + 1, 0, none⟩ = false := by simp [World.frozen?, hH]
      have f1 : w1.frozen? ⟨w.heap.size + 1, 1, none⟩ = false := by simp [World.frozen?, hH]
      have HH := Lib.hid hH
      clear hH
      go_wp2
      obtain ⟨n0, n1⟩ := blk2 (blk_set2 HH.out (.string ⟨#[]⟩) (.int .i64 e2))
      exact bodyPost_ret (v := .tuple #[.string ⟨#[]⟩, .agg #[.string ⟨#[]⟩, .int .i64 e2]]) (by simp [results, Tryd.results24, go_sem, n0, n1]) rfl ⟨rfl, (HB.out.setCell (Nat.le_succ _) _).setCell (Nat.le_succ _) _⟩
end Go.Proofs.YtkkgdnmloojloaaDoor
namespace Go.Proofs.YtkkgdnmloojloaaDoor
open Go.RowKit Go.Lib
theorem str_ne (l : List UInt8) : (str l).toList.isEmpty = decide (l = []) := by
  rw [Go.ByteArray.toList_eq, str_list]
  cases l <;> rfl
theorem end_any (r : Plain.Rd) (w : World) : Calls Tryd.prog 28 #[rdOf r] w fun e w' => e = .returned (.int .i64 r.endE) ∧ Below w.heap.size w w' := by
  obtain ⟨l, e⟩ := r
  unfold rdOf rdV Plain.Rd.endE
  dsimp only
  have hne := str_ne l
  obtain ⟨s, hs⟩ : ∃ s, str l = s := ⟨_, rfl⟩
  rw [hs] at hne ⊢
  by_cases h : e = 0
  · subst h
    by_cases h2 : l = []
    · rw [if_neg (by simp [h2])]
      have d : s.toList.isEmpty = true := by rw [hne]; simp [h2]
      go_enter Tryd.func28, Tryd.ntmps28
      go_wp2
      go_ret
      exact ⟨rfl, (Below.refl _ _).alloc (Nat.le_refl _) _⟩
    · rw [if_pos ⟨rfl, h2⟩]
      have d : s.toList.isEmpty = false := by rw [hne]; simp [h2]
      go_enter Tryd.func28, Tryd.ntmps28
      go_wp2
      go_ret
      exact ⟨rfl, (Below.refl _ _).alloc (Nat.le_refl _) _⟩
  · rw [if_neg (by simp [h])]
    have d : (e == 0) = false := by simp [h]
    go_enter Tryd.func28, Tryd.ntmps28
    go_wp2
    go_ret
    exact ⟨rfl, (Below.refl _ _).alloc (Nat.le_refl _) _⟩
end Go.Proofs.YtkkgdnmloojloaaDoor
namespace Go.Proofs.YtkkgdnmloojloaaDoor
open Go.RowKit Go.Lib
theorem and127 (b : Nat) (h : b < 256) : bits .and .u8 (b : Int) 127 = ((b % 128 : Nat) : Int) := by
  have := bits_mask .u8 8 (by decide) wraps_u8 7 (by decide) (b : Int) (by omega) (by omega)
  simpa using this
theorem wraps_u64 (n : Int) (h₀ : 0 ≤ n) (h₁ : n < 2 ^ 64) : IntKind.u64.wrap n = n := by rw [IntKind.wrap_u64]; omega
theorem next_join (acc x k : Nat) (hk : k ≤ 9) (ha : acc < 2 ^ (7 * k)) (hx : x * 2 ^ (7 * k) < 2 ^ 64) :
    bits .or .u64 (acc : Int) ((x * 2 ^ (7 * k) : Nat) : Int) = ((acc + x * 2 ^ (7 * k) : Nat) : Int) := by
  have ha2 : acc < 2 ^ 64 := Nat.lt_of_lt_of_le ha (Nat.pow_le_pow_right (by decide) (by omega))
  rw [(bits_nat .u64 64 (by decide) wraps_u64 acc _ ha2 hx).2, Nat.or_comm, Nat.mul_comm x, ← Nat.two_pow_add_eq_or_of_lt ha x, Nat.add_comm]
/-- the shifted part -/
theorem next_shl (x k : Nat) (hx : x * 2 ^ (7 * k) < 2 ^ 64) : IntKind.u64.wrap ((x : Int) * 2 ^ (7 * k)) = ((x * 2 ^ (7 * k) : Nat) : Int) := by
  have e : ((x : Int) * 2 ^ (7 * k)) = ((x * 2 ^ (7 * k) : Nat) : Int) := by simp
  rw [e]
  exact wraps_u64 _ (Int.natCast_nonneg _) (by exact_mod_cast hx)
/-- a part that is not the tenth byte's is small -/
theorem part_small (b k : Nat) (hb : b < 128) (hk : k < 9 ∨ (k ≤ 9 ∧ b ≤ 1)) : b * 2 ^ (7 * k) < 2 ^ 64 := by
  rcases hk with h | ⟨h, h1⟩
  · have h2 : 2 ^ (7 * k) ≤ 2 ^ 56 := Nat.pow_le_pow_right (by decide) (by omega)
    have : b * 2 ^ (7 * k) ≤ 127 * 2 ^ 56 := Nat.mul_le_mul (by omega) h2
    omega
  · have h2 : 2 ^ (7 * k) ≤ 2 ^ 63 := Nat.pow_le_pow_right (by decide) (by omega)
    have : b * 2 ^ (7 * k) ≤ 1 * 2 ^ 63 := Nat.mul_le_mul h1 h2
    omega
/-- the sum's bound carries -/
theorem acc_small (acc b k : Nat) (ha : acc < 2 ^ (7 * k)) (hb : b < 128) : acc + b * 2 ^ (7 * k) < 2 ^ (7 * (k + 1)) := by
  have e : 2 ^ (7 * (k + 1)) = 128 * 2 ^ (7 * k) := by rw [show 7 * (k + 1) = 7 + 7 * k by omega, Nat.pow_add]
  have : b * 2 ^ (7 * k) ≤ 127 * 2 ^ (7 * k) := Nat.mul_le_mul_right _ (by omega)
  omega
end Go.Proofs.YtkkgdnmloojloaaDoor
