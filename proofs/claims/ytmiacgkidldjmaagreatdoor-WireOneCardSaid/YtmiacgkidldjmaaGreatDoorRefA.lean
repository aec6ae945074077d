/- The document's answers of chapters 1, 2, 4, 8: sums, numbers, texts, classes, instructions; a blob sealed. Conditions: what each lemma says. -/
import Derived.Test.YtmiacgkidldjmaaGreatDoorWireJ
import Derived.Test.YtmiacgkidldjmaaGreatDoorCodeB
import Derived.Deep.RegionHeld3
import Derived.Deep.QuietTactic
set_option linter.unusedVariables false
set_option linter.unusedSimpArgs false
namespace Go.Proofs.YtmiacgkidldjmaaGreatDoor
open Go.RowKit Go.Lib
open Plain (Rg May mayB In Norm rightB)
theorem Rs.spot {w : World} {ba off : Nat} {R : List Rg} (h : Rs w (some ⟨ba, off, none⟩) R) (k : Nat) (hk : k < R.length) : ba < w.heap.size ∧ w.cell? ⟨ba, off + k * 2, none⟩ = some (.int .i32 R[k].1) ∧ w.cell? ⟨ba, off + k * 2 + 1, none⟩ = some (.int .i32 R[k].2) := by
  obtain ⟨b, o, e, h1, h2, h3⟩ := h.get k hk
  injection e with e
  injection e with e1 e2
  subst e1 e2
  exact ⟨h1, h2, h3⟩
set_option maxRecDepth 100000 in
set_option maxHeartbeats 1000000 in
theorem rput_any (n : Nat) (w : World) (hn : n < 18446744073709551616) :
    Calls Tryz.prog 102 #[.int .u64 n] w fun e w' => e = .returned (.string ⟨(Plain.putL n).toArray⟩) ∧ Below w.heap.size w w' := by
  have hl10 := (Plain.putL_len10 n hn).2
  obtain ⟨tot, htot⟩ : ∃ l, Plain.putL n = l := ⟨_, rfl⟩
  rw [htot] at hl10 ⊢
  have HTOT := Lib.hid htot
  clear htot
  obtain ⟨i8, hi8, y0, y1, y2⟩ := info_parts info5
  go_enter Tryz.func102, Tryz.ntmps102
  go_wp2_with fail
  go_loopw [0, 3] (fun a b wr => ∃ (m : Nat) (xs : List UInt8) (u : Value), u = b ∧ a = .int .u64 m ∧ m < 18446744073709551616 ∧ tot = xs ++ Plain.putL m ∧ Below w.heap.size w wr ∧ wr.ownsRow w.heap.size 5 1 u xs.length (u8s (nb xs))) (fun a _ _ => (RowKit.intOf a).toNat)
  case atStart => exact ⟨n, [], _, rfl, rfl, hn, HTOT.out.symm, Below.refl _ _, World.ownsRow_nil _ _ _ _⟩
  case round =>
    obtain ⟨m, xs, u, rfl, rfl, hm, ht, hB, hU⟩ := hrel
    have hxl : xs.length ≤ 9 := by
      have := congrArg List.length ht
      rw [List.length_append] at this
      have := List.length_pos_iff.2 (Plain.putL_ne m)
      omega
    have HU := Lib.hid hU
    have HB := Lib.hid hB
    have hsz := hB.size
    by_cases hlt : m < 128
    · rw [Plain.putL_small m hlt] at ht
      have htt : u8s (nb tot) = u8s (nb xs) ++ [.int .u8 (m : Int)] := by
        rw [ht]; unfold nb u8s; rw [List.map_append, List.map_append]
        simp only [List.map_cons, List.map_nil]
        rw [Plain.ofNat_toNat m (by omega)]
      have HTT := Lib.hid htt
      clear ht htt hU hB
      have hwm : (m : Int) % 256 = (m : Int) := by omega
      go_wp2_with (at_builtin; refine wpList_append_own2 _ rfl (.tmp 15) (.tmp 18) _ rfl w.heap.size 5 i8 _ 1 1 Tryz.underlying35 hi8 y0 y1 y2 rfl (by decide) u xs.length (u8s (nb xs)) rfl (HU.out.alloc _) ⟨wr.heap.size, 0, none⟩ 1 1 [.int .u8 (m : Int)] rfl rfl ?c1 ?c2 ?c3 ?c4 ?c5 ?_)
      case c1 => exact CellsAt_add (CellsAt.new wr _ _)
      case c2 => intro u hu; simp only [List.mem_cons, List.not_mem_nil, or_false] at hu; subst hu; rfl
      case c3 => simp only [maxLen]; omega
      case c4 => omega
      case c5 => simp; omega
      intro v3 w7 hown2 hg2 _
      have hBn : Below w.heap.size w w7 := (HB.out.alloc HB.out.size _).grown hg2 (by simp; omega) (fun g hg => (HU.out.lt g hg).1)
      rw [← HTT.out] at hown2
      obtain ⟨ua, uc, rfl⟩ := own_slice hown2
      have hcv := conv_bytes hown2
      rw [bstr_nb] at hcv
      have HBn := Lib.hid hBn
      clear hBn hg2 hown2
      go_wp2
      go_ret
      exact ⟨rfl, HBn.out⟩
    · have hst : u8s (nb (xs ++ [UInt8.ofNat (m % 128 + 128)])) = u8s (nb xs) ++ [.int .u8 ((m % 128 + 128 : Nat) : Int)] := by
        unfold nb u8s; rw [List.map_append, List.map_append]
        simp only [List.map_cons, List.map_nil]
        rw [Plain.ofNat_toNat _ (by omega)]
      have hto : tot = (xs ++ [UInt8.ofNat (m % 128 + 128)]) ++ Plain.putL (m / 128) := by rw [ht, Plain.putL_big m hlt, List.append_assoc]; rfl
      obtain ⟨k, hk⟩ : ∃ k, m % 128 + 128 = k := ⟨_, rfl⟩
      rw [hk] at hst hto
      have HST := Lib.hid hst
      have HTO := Lib.hid hto
      have hor : ((m : Int) % 128 + 128) = (k : Int) := by omega
      have hor2 : (k : Int) % 256 = (k : Int) := by omega
      clear hst hto ht hU hB hk
      go_wp2_with (at_builtin; refine wpList_append_own2 _ rfl (.tmp 6) (.tmp 11) _ rfl w.heap.size 5 i8 _ 1 1 Tryz.underlying35 hi8 y0 y1 y2 rfl (by decide) u xs.length (u8s (nb xs)) rfl (HU.out.alloc _) ⟨wr.heap.size, 0, none⟩ 1 1 [.int .u8 k] rfl rfl ?c1 ?c2 ?c3 ?c4 ?c5 ?_)
      case c1 => exact CellsAt_add (CellsAt.new wr _ _)
      case c2 => intro u hu; simp only [List.mem_cons, List.not_mem_nil, or_false] at hu; subst hu; rfl
      case c3 => simp only [maxLen]; omega
      case c4 => omega
      case c5 => simp; omega
      intro v3 w7 hown2 hg2 _
      have hBn : Below w.heap.size w w7 := (HB.out.alloc HB.out.size _).grown hg2 (by simp; omega) (fun g hg => (HU.out.lt g hg).1)
      have HBn := Lib.hid hBn
      have HO := Lib.hid hown2
      clear hBn hg2 hown2
      go_wp2
      go_roundw
      case rel => exact ⟨m / 128, xs ++ [UInt8.ofNat k], _, rfl, rfl, by omega, HTO.out, HBn.out, by rw [HST.out, List.length_append]; exact HO.out⟩
      case measure => simp [RowKit.intOf]; omega

theorem rtextS_any (s : ByteArray) (w : World) (hs : s.size ≤ 1152921504606846976) : Calls Tryz.prog 103 #[.string s] w fun e w' => e = .returned (.string (str (Plain.putL s.size ++ s.data.toList))) ∧ Below w.heap.size w w' := by
  have hsz := (Plain.putL_len10 s.size (by omega)).2
  have cP := rput_any s.size w (by omega)
  have happ : (⟨(Plain.putL s.size).toArray⟩ : ByteArray) ++ s = str (Plain.putL s.size ++ s.data.toList) := by
    rw [← str_app, str_of]; rfl
  have hl : (⟨(Plain.putL s.size).toArray⟩ : ByteArray).size ≤ 10 := by rw [show (⟨(Plain.putL s.size).toArray⟩ : ByteArray) = str (Plain.putL s.size) from rfl, str_size]; exact hsz
  obtain ⟨p, hp⟩ : ∃ p, (⟨(Plain.putL s.size).toArray⟩ : ByteArray) = p := ⟨_, rfl⟩
  rw [hp] at cP happ hl
  rw [← happ]
  have HP := Lib.hid cP
  clear cP happ hsz hp
  have hw : (s.size : Int) % 18446744073709551616 = (s.size : Int) := by omega
  go_enter Tryz.func103, Tryz.ntmps103
  go_wp2_with fail
  refine HP.out.mono ?_
  rintro e w1 ⟨rfl, hb⟩
  have HB := Lib.hid hb
  clear hb
  go_wp2
  go_ret
  exact ⟨rfl, HB.out⟩
theorem rmay_any (lo hi : Int) (w : World) : Calls Tryz.prog 130 #[.agg #[.int .i32 lo, .int .i32 hi]] w fun e w' => e = .returned (.bool (mayB (lo, hi))) ∧ Below w.heap.size w w' := by
  unfold mayB
  dsimp only
  by_cases h1 : 0 ≤ lo
  · by_cases h2 : hi ≤ 1114111
    · by_cases h3 : lo ≤ hi
      · have d1 : decide (0 ≤ lo) = true := by simp [h1]
        have d2 : decide (hi ≤ 1114111) = true := by simp [h2]
        have d3 : decide (lo ≤ hi) = true := by simp [h3]
        go_enter Tryz.func130, Tryz.ntmps130
        go_wp2
        go_ret
        exact ⟨ret_bool (by simp [*]), (Below.refl _ _).alloc (Nat.le_refl _) _⟩
      · have d1 : decide (0 ≤ lo) = true := by simp [h1]
        have d2 : decide (hi ≤ 1114111) = true := by simp [h2]
        have d3 : decide (lo ≤ hi) = false := by simp; omega
        go_enter Tryz.func130, Tryz.ntmps130
        go_wp2
        go_ret
        exact ⟨ret_bool (by simp [*]), (Below.refl _ _).alloc (Nat.le_refl _) _⟩
    · have d1 : decide (0 ≤ lo) = true := by simp [h1]
      have d2 : decide (hi ≤ 1114111) = false := by simp; omega
      go_enter Tryz.func130, Tryz.ntmps130
      go_wp2
      go_ret
      exact ⟨ret_bool (by simp [*]), (Below.refl _ _).alloc (Nat.le_refl _) _⟩
  · have d1 : decide (0 ≤ lo) = false := by simp; omega
    go_enter Tryz.func130, Tryz.ntmps130
    go_wp2
    go_ret
    exact ⟨ret_bool (by simp [*]), (Below.refl _ _).alloc (Nat.le_refl _) _⟩
set_option maxRecDepth 100000 in
set_option maxHeartbeats 8000000 in
theorem rright_any {R : List Rg} {A : Option Addr} {n c : Nat} {w : World} (h : Rs w A R ∧ R.length = n ∧ True) (hn : n ≤ maxLen) :
    Calls Tryz.prog 101 #[.slice A n c] w (RightPost R w) := by
  have HX := Lib.hid h.1
  have HR := Lib.hid h.2.1
  clear h
  by_cases h64 : n ≤ 64
  · have d64 : decide ((n : Int) > 64) = false := by simp; omega
    have d64n : decide (64 < n) = false := by simp; omega
    go_enter Tryz.func101, Tryz.ntmps101
    go_wp2_with fail
    go_loopw [3] (fun i wr => ∃ k : Nat, i = .int .i64 k ∧ k ≤ n ∧ Hid (Norm (R.take k)) ∧ RowKit.Below w.heap.size w wr) (fun i _ => n - (RowKit.intOf i).toNat)
    case atStart => exact ⟨0, rfl, Nat.zero_le _, Lib.hid trivial, RowKit.Below.refl _ _⟩
    case round =>
      obtain ⟨k, rfl, hk, HN, hB⟩ := hrel
      have HB := Lib.hid hB
      by_cases hlt : k < n
      · have hkS : k < R.length := by rw [HR.out]; exact hlt
        obtain ⟨ba, off, rfl, hba, c0, c1⟩ := (HX.out.below hB).get k hkS
        have HXr := Lib.hid (HX.out.below hB)
        obtain ⟨r, hr⟩ : ∃ r, R[k] = r := ⟨_, rfl⟩
        rw [hr] at c0 c1
        have htk : R.take (k + 1) = R.take k ++ [r] := by rw [List.take_succ_eq_append_getElem hkS, hr]
        obtain ⟨lo, hi⟩ := r
        dsimp only at c0 c1
        have HTK := Lib.hid htk
        obtain ⟨q, hq⟩ : ∃ q, mayB (lo, hi) = q := ⟨_, rfl⟩
        have cM := fun W => rmay_any lo hi W
        rw [hq] at cM
        have CM := Lib.hid cM
        have HQ := Lib.hid hq
        have g0 : (0 : Int) ≤ (k : Int) := by omega
        have g1 : (k : Int) < (n : Int) := by omega
        clear hr htk hq cM hB
        go_upto_region 6 with fail
        cases q
        · refine wp_region_noPanic ?_
          refine wp_region_held_drew (S := (fun w' => w'.cell? ⟨ba, off + k * 2, none⟩ = some (.int .i32 lo) ∧ w'.cell? ⟨ba, off + k * 2 + 1, none⟩ = some (.int .i32 hi))) (by kernel_rfl) ?_ (fun hHeld => ?_)
          · (try dsimp only) <;> (first | go_keep | exact ⟨(hb9.cell (p := ⟨ba, off + k * 2, none⟩) hba).trans c0, (hb9.cell (p := ⟨ba, off + k * 2 + 1, none⟩) hba).trans c1⟩)
          refine wpAnyH_take (i := 0) (oi := ⟨_, _, _, _, _, _⟩) (v := ?v0q1) rfl (by kernel_rfl) (by kernel_rfl) (by kernel_rfl) (fun _ _ _ h => h) (Or.inl ⟨by rfl, ?h0q1⟩) (by assumption) ?r0q1
          case h0q1 => (intro w hSw; (try dsimp only at hSw); go_simp <;> with_reducible rfl)
          case' r0q1 => try simp only [Act.put, List.setIfInBounds_toArray, List.set_cons_zero, List.set_cons_succ]
          refine wpAnyH_take (i := 1) (oi := ⟨_, _, _, _, _, _⟩) (v := ?v1q1) rfl (by kernel_rfl) (by kernel_rfl) (by kernel_rfl) (fun _ _ _ h => h) (Or.inl ⟨by rfl, ?h1q1⟩) (by assumption) ?r1q1
          case h1q1 => (intro w hSw; (try dsimp only at hSw); go_simp <;> with_reducible rfl)
          case' r1q1 => try simp only [Act.put, List.setIfInBounds_toArray, List.set_cons_zero, List.set_cons_succ]
          refine wpAnyH_take (i := 2) (oi := ⟨_, _, _, _, _, _⟩) (v := ?v2q1) rfl (by kernel_rfl) (by kernel_rfl) (by kernel_rfl) (fun _ _ _ h => h) (Or.inl ⟨by rfl, ?h2q1⟩) (by assumption) ?r2q1
          case h2q1 => (intro w hSw; (try dsimp only at hSw); go_simp <;> with_reducible rfl)
          case' r2q1 => try simp only [Act.put, List.setIfInBounds_toArray, List.set_cons_zero, List.set_cons_succ]
          refine wpAnyH_take (i := 3) (oi := ⟨_, _, _, _, _, _⟩) (v := ?v3q1) rfl (by kernel_rfl) (by kernel_rfl) (by kernel_rfl) (fun _ _ _ h => h) (Or.inl ⟨by rfl, ?h3q1⟩) (by assumption) ?r3q1
          case h3q1 => (intro w hSw; (try dsimp only at hSw); go_simp <;> with_reducible rfl)
          case' r3q1 => try simp only [Act.put, List.setIfInBounds_toArray, List.set_cons_zero, List.set_cons_succ]
          refine wpAnyH_ready (rs := [4]) (by kernel_rfl) (by simp) ?_
          refine AllReadyH.cons (o := ⟨_, _, _, _, _, _⟩) rfl (fun K hK => ?_) AllReadyH.nil
          rw [if_pos (by rfl)]
          (first | (go_at_call 130; (with_reducible refine (CM.out _).mono ?_); rintro e w9 ⟨rfl, hb9⟩) | (go_simp; first | ((go_at_call 130; (with_reducible refine (CM.out _).mono ?_); rintro e w9 ⟨rfl, hb9⟩); (try dsimp only)) | skip))
          refine hK.out _ _ ?_ (fun hHeld => ?_)
          · (try dsimp only) <;> (first | go_keep | exact ⟨(hb9.cell (p := ⟨ba, off + k * 2, none⟩) hba).trans c0, (hb9.cell (p := ⟨ba, off + k * 2 + 1, none⟩) hba).trans c1⟩)
          clear hK K
          try simp only [Act.put, List.setIfInBounds_toArray, List.set_cons_zero, List.set_cons_succ]
          refine wpAnyH_take (i := 5) (oi := ⟨_, _, _, _, _, _⟩) (v := ?v5q1) rfl (by kernel_rfl) (by kernel_rfl) (by kernel_rfl) (fun _ _ _ h => h) (Or.inl ⟨by rfl, ?h5q1⟩) (by assumption) ?r5q1
          case h5q1 => (intro w hSw; (try dsimp only at hSw); go_simp <;> with_reducible rfl)
          case' r5q1 => try simp only [Act.put, List.setIfInBounds_toArray, List.set_cons_zero, List.set_cons_succ]
          refine wpAnyH_take (i := 6) (oi := ⟨_, _, _, _, _, _⟩) (v := ?v6q1) rfl (by kernel_rfl) (by kernel_rfl) (by kernel_rfl) (fun _ _ _ h => h) (Or.inl ⟨by rfl, ?h6q1⟩) (by assumption) ?r6q1
          case h6q1 => (intro w hSw; (try dsimp only at hSw); go_simp <;> with_reducible rfl)
          case' r6q1 => try simp only [Act.put, List.setIfInBounds_toArray, List.set_cons_zero, List.set_cons_succ]
          refine wpAnyH_take (i := 7) (oi := ⟨_, _, _, _, _, _⟩) (v := undef) rfl (by kernel_rfl) (by kernel_rfl) (by kernel_rfl) (fun _ _ _ h => h) (Or.inr ⟨by rfl, rfl⟩) (by assumption) ?_
          try simp only [Act.put, List.setIfInBounds_toArray, List.set_cons_zero, List.set_cons_succ]
          refine wpAnyH_take (i := 8) (oi := ⟨_, _, _, _, _, _⟩) (v := undef) rfl (by kernel_rfl) (by kernel_rfl) (by kernel_rfl) (fun _ _ _ h => h) (Or.inr ⟨by rfl, rfl⟩) (by assumption) ?_
          try simp only [Act.put, List.setIfInBounds_toArray, List.set_cons_zero, List.set_cons_succ]
          refine wpAnyH_take (i := 9) (oi := ⟨_, _, _, _, _, _⟩) (v := undef) rfl (by kernel_rfl) (by kernel_rfl) (by kernel_rfl) (fun _ _ _ h => h) (Or.inr ⟨by rfl, rfl⟩) (by assumption) ?_
          try simp only [Act.put, List.setIfInBounds_toArray, List.set_cons_zero, List.set_cons_succ]
          refine wpAnyH_take (i := 10) (oi := ⟨_, _, _, _, _, _⟩) (v := undef) rfl (by kernel_rfl) (by kernel_rfl) (by kernel_rfl) (fun _ _ _ h => h) (Or.inr ⟨by rfl, rfl⟩) (by assumption) ?_
          try simp only [Act.put, List.setIfInBounds_toArray, List.set_cons_zero, List.set_cons_succ]
          refine wpAnyH_take (i := 11) (oi := ⟨_, _, _, _, _, _⟩) (v := undef) rfl (by kernel_rfl) (by kernel_rfl) (by kernel_rfl) (fun _ _ _ h => h) (Or.inr ⟨by rfl, rfl⟩) (by assumption) ?_
          try simp only [Act.put, List.setIfInBounds_toArray, List.set_cons_zero, List.set_cons_succ]
          refine wpAnyH_take (i := 12) (oi := ⟨_, _, _, _, _, _⟩) (v := undef) rfl (by kernel_rfl) (by kernel_rfl) (by kernel_rfl) (fun _ _ _ h => h) (Or.inr ⟨by rfl, rfl⟩) (by assumption) ?_
          try simp only [Act.put, List.setIfInBounds_toArray, List.set_cons_zero, List.set_cons_succ]
          refine wpAnyH_take (i := 13) (oi := ⟨_, _, _, _, _, _⟩) (v := undef) rfl (by kernel_rfl) (by kernel_rfl) (by kernel_rfl) (fun _ _ _ h => h) (Or.inr ⟨by rfl, rfl⟩) (by assumption) ?_
          try simp only [Act.put, List.setIfInBounds_toArray, List.set_cons_zero, List.set_cons_succ]
          refine wpAnyH_take (i := 14) (oi := ⟨_, _, _, _, _, _⟩) (v := undef) rfl (by kernel_rfl) (by kernel_rfl) (by kernel_rfl) (fun _ _ _ h => h) (Or.inr ⟨by rfl, rfl⟩) (by assumption) ?_
          try simp only [Act.put, List.setIfInBounds_toArray, List.set_cons_zero, List.set_cons_succ]
          refine wpAnyH_take (i := 15) (oi := ⟨_, _, _, _, _, _⟩) (v := undef) rfl (by kernel_rfl) (by kernel_rfl) (by kernel_rfl) (fun _ _ _ h => h) (Or.inr ⟨by rfl, rfl⟩) (by assumption) ?_
          try simp only [Act.put, List.setIfInBounds_toArray, List.set_cons_zero, List.set_cons_succ]
          refine wpAnyH_take (i := 16) (oi := ⟨_, _, _, _, _, _⟩) (v := undef) rfl (by kernel_rfl) (by kernel_rfl) (by kernel_rfl) (fun _ _ _ h => h) (Or.inr ⟨by rfl, rfl⟩) (by assumption) ?_
          try simp only [Act.put, List.setIfInBounds_toArray, List.set_cons_zero, List.set_cons_succ]
          refine wpAnyH_take (i := 17) (oi := ⟨_, _, _, _, _, _⟩) (v := undef) rfl (by kernel_rfl) (by kernel_rfl) (by kernel_rfl) (fun _ _ _ h => h) (Or.inr ⟨by rfl, rfl⟩) (by assumption) ?_
          try simp only [Act.put, List.setIfInBounds_toArray, List.set_cons_zero, List.set_cons_succ]
          refine wpAnyH_take (i := 18) (oi := ⟨_, _, _, _, _, _⟩) (v := undef) rfl (by kernel_rfl) (by kernel_rfl) (by kernel_rfl) (fun _ _ _ h => h) (Or.inr ⟨by rfl, rfl⟩) (by assumption) ?_
          try simp only [Act.put, List.setIfInBounds_toArray, List.set_cons_zero, List.set_cons_succ]
          refine wpAnyH_take (i := 19) (oi := ⟨_, _, _, _, _, _⟩) (v := undef) rfl (by kernel_rfl) (by kernel_rfl) (by kernel_rfl) (fun _ _ _ h => h) (Or.inr ⟨by rfl, rfl⟩) (by assumption) ?_
          try simp only [Act.put, List.setIfInBounds_toArray, List.set_cons_zero, List.set_cons_succ]
          refine wpAnyH_take (i := 20) (oi := ⟨_, _, _, _, _, _⟩) (v := undef) rfl (by kernel_rfl) (by kernel_rfl) (by kernel_rfl) (fun _ _ _ h => h) (Or.inr ⟨by rfl, rfl⟩) (by assumption) ?_
          try simp only [Act.put, List.setIfInBounds_toArray, List.set_cons_zero, List.set_cons_succ]
          refine wpAnyH_take (i := 21) (oi := ⟨_, _, _, _, _, _⟩) (v := undef) rfl (by kernel_rfl) (by kernel_rfl) (by kernel_rfl) (fun _ _ _ h => h) (Or.inr ⟨by rfl, rfl⟩) (by assumption) ?_
          try simp only [Act.put, List.setIfInBounds_toArray, List.set_cons_zero, List.set_cons_succ]
          refine wpAnyH_take (i := 22) (oi := ⟨_, _, _, _, _, _⟩) (v := undef) rfl (by kernel_rfl) (by kernel_rfl) (by kernel_rfl) (fun _ _ _ h => h) (Or.inr ⟨by rfl, rfl⟩) (by assumption) ?_
          try simp only [Act.put, List.setIfInBounds_toArray, List.set_cons_zero, List.set_cons_succ]
          refine wpAnyH_take (i := 23) (oi := ⟨_, _, _, _, _, _⟩) (v := undef) rfl (by kernel_rfl) (by kernel_rfl) (by kernel_rfl) (fun _ _ _ h => h) (Or.inr ⟨by rfl, rfl⟩) (by assumption) ?_
          try simp only [Act.put, List.setIfInBounds_toArray, List.set_cons_zero, List.set_cons_succ]
          refine wpAnyH_take (i := 24) (oi := ⟨_, _, _, _, _, _⟩) (v := ?v24q1) rfl (by kernel_rfl) (by kernel_rfl) (by kernel_rfl) (fun _ _ _ h => h) (Or.inl ⟨by rfl, ?h24q1⟩) (by assumption) ?r24q1
          case h24q1 => (intro w hSw; (try dsimp only at hSw); go_simp <;> with_reducible rfl)
          case' r24q1 => try simp only [Act.put, List.setIfInBounds_toArray, List.set_cons_zero, List.set_cons_succ]
          refine wpAnyH_done (by kernel_rfl) ?_ _
          refine NoPanic.normal ?_
          all_goals
            have HB9 := Lib.hid (below_then HB.out (⟨hb9.os, hb9.tape, hb9.output, hb9.size, hb9.block⟩ : RowKit.Below wr.heap.size wr w9))
            clear hb9 c0 c1
            go_wp2_with fail
            go_ret
            refine ⟨false, rfl, ⟨(fun h => by cases h), fun h => ?_⟩, HB9.out⟩
            have h1 := norm_take h.1 (k + 1)
            rw [HTK.out] at h1
            have h2 := Plain.Norm_may h1 (lo, hi) (by simp)
            have h3 := (Plain.mayB_iff (lo, hi)).2 h2
            rw [HQ.out] at h3
            cases h3
        · have hmay : May (lo, hi) := (Plain.mayB_iff _).1 HQ.out
          obtain ⟨b1, b2, b3⟩ := hmay
          dsimp only at b1 b2 b3
          rcases Nat.eq_zero_or_pos k with hk0 | hk0
          · subst hk0
            simp only [Nat.zero_mul, Nat.add_zero] at c0 c1
            refine wp_region_noPanic ?_
            refine wp_region_held_drew (S := (fun w' => w'.cell? ⟨ba, off, none⟩ = some (.int .i32 lo) ∧ w'.cell? ⟨ba, off + 1, none⟩ = some (.int .i32 hi))) (by kernel_rfl) ?_ (fun hHeld => ?_)
            · (try dsimp only) <;> (first | go_keep | exact ⟨(hb9.cell (p := ⟨ba, off, none⟩) hba).trans c0, (hb9.cell (p := ⟨ba, off + 1, none⟩) hba).trans c1⟩)
            refine wpAnyH_take (i := 0) (oi := ⟨_, _, _, _, _, _⟩) (v := ?v0q2) rfl (by kernel_rfl) (by kernel_rfl) (by kernel_rfl) (fun _ _ _ h => h) (Or.inl ⟨by rfl, ?h0q2⟩) (by assumption) ?r0q2
            case h0q2 => (intro w hSw; (try dsimp only at hSw); go_simp <;> with_reducible rfl)
            case' r0q2 => try simp only [Act.put, List.setIfInBounds_toArray, List.set_cons_zero, List.set_cons_succ]
            refine wpAnyH_take (i := 1) (oi := ⟨_, _, _, _, _, _⟩) (v := ?v1q2) rfl (by kernel_rfl) (by kernel_rfl) (by kernel_rfl) (fun _ _ _ h => h) (Or.inl ⟨by rfl, ?h1q2⟩) (by assumption) ?r1q2
            case h1q2 => (intro w hSw; (try dsimp only at hSw); go_simp <;> with_reducible rfl)
            case' r1q2 => try simp only [Act.put, List.setIfInBounds_toArray, List.set_cons_zero, List.set_cons_succ]
            refine wpAnyH_take (i := 2) (oi := ⟨_, _, _, _, _, _⟩) (v := ?v2q2) rfl (by kernel_rfl) (by kernel_rfl) (by kernel_rfl) (fun _ _ _ h => h) (Or.inl ⟨by rfl, ?h2q2⟩) (by assumption) ?r2q2
            case h2q2 => (intro w hSw; (try dsimp only at hSw); go_simp <;> with_reducible rfl)
            case' r2q2 => try simp only [Act.put, List.setIfInBounds_toArray, List.set_cons_zero, List.set_cons_succ]
            refine wpAnyH_take (i := 3) (oi := ⟨_, _, _, _, _, _⟩) (v := ?v3q2) rfl (by kernel_rfl) (by kernel_rfl) (by kernel_rfl) (fun _ _ _ h => h) (Or.inl ⟨by rfl, ?h3q2⟩) (by assumption) ?r3q2
            case h3q2 => (intro w hSw; (try dsimp only at hSw); go_simp <;> with_reducible rfl)
            case' r3q2 => try simp only [Act.put, List.setIfInBounds_toArray, List.set_cons_zero, List.set_cons_succ]
            refine wpAnyH_ready (rs := [4]) (by kernel_rfl) (by simp) ?_
            refine AllReadyH.cons (o := ⟨_, _, _, _, _, _⟩) rfl (fun K hK => ?_) AllReadyH.nil
            rw [if_pos (by rfl)]
            (first | (go_at_call 130; (with_reducible refine (CM.out _).mono ?_); rintro e w9 ⟨rfl, hb9⟩) | (go_simp; first | ((go_at_call 130; (with_reducible refine (CM.out _).mono ?_); rintro e w9 ⟨rfl, hb9⟩); (try dsimp only)) | skip))
            refine hK.out _ _ ?_ (fun hHeld => ?_)
            · (try dsimp only) <;> (first | go_keep | exact ⟨(hb9.cell (p := ⟨ba, off, none⟩) hba).trans c0, (hb9.cell (p := ⟨ba, off + 1, none⟩) hba).trans c1⟩)
            clear hK K
            try simp only [Act.put, List.setIfInBounds_toArray, List.set_cons_zero, List.set_cons_succ]
            refine wpAnyH_take (i := 5) (oi := ⟨_, _, _, _, _, _⟩) (v := ?v5q2) rfl (by kernel_rfl) (by kernel_rfl) (by kernel_rfl) (fun _ _ _ h => h) (Or.inl ⟨by rfl, ?h5q2⟩) (by assumption) ?r5q2
            case h5q2 => (intro w hSw; (try dsimp only at hSw); go_simp <;> with_reducible rfl)
            case' r5q2 => try simp only [Act.put, List.setIfInBounds_toArray, List.set_cons_zero, List.set_cons_succ]
            refine wpAnyH_take (i := 6) (oi := ⟨_, _, _, _, _, _⟩) (v := ?v6q2) rfl (by kernel_rfl) (by kernel_rfl) (by kernel_rfl) (fun _ _ _ h => h) (Or.inl ⟨by rfl, ?h6q2⟩) (by assumption) ?r6q2
            case h6q2 => (intro w hSw; (try dsimp only at hSw); go_simp <;> with_reducible rfl)
            case' r6q2 => try simp only [Act.put, List.setIfInBounds_toArray, List.set_cons_zero, List.set_cons_succ]
            refine wpAnyH_take (i := 7) (oi := ⟨_, _, _, _, _, _⟩) (v := ?v7q2) rfl (by kernel_rfl) (by kernel_rfl) (by kernel_rfl) (fun _ _ _ h => h) (Or.inl ⟨by rfl, ?h7q2⟩) (by assumption) ?r7q2
            case h7q2 => (intro w hSw; (try dsimp only at hSw); go_simp <;> with_reducible rfl)
            case' r7q2 => try simp only [Act.put, List.setIfInBounds_toArray, List.set_cons_zero, List.set_cons_succ]
            refine wpAnyH_take (i := 8) (oi := ⟨_, _, _, _, _, _⟩) (v := ?v8q2) rfl (by kernel_rfl) (by kernel_rfl) (by kernel_rfl) (fun _ _ _ h => h) (Or.inl ⟨by rfl, ?h8q2⟩) (by assumption) ?r8q2
            case h8q2 => (intro w hSw; (try dsimp only at hSw); go_simp <;> with_reducible rfl)
            case' r8q2 => try simp only [Act.put, List.setIfInBounds_toArray, List.set_cons_zero, List.set_cons_succ]
            refine wpAnyH_take (i := 9) (oi := ⟨_, _, _, _, _, _⟩) (v := ?v9q2) rfl (by kernel_rfl) (by kernel_rfl) (by kernel_rfl) (fun _ _ _ h => h) (Or.inl ⟨by rfl, ?h9q2⟩) (by assumption) ?r9q2
            case h9q2 => (intro w hSw; (try dsimp only at hSw); go_simp <;> with_reducible rfl)
            case' r9q2 => try simp only [Act.put, List.setIfInBounds_toArray, List.set_cons_zero, List.set_cons_succ]
            refine wpAnyH_take (i := 10) (oi := ⟨_, _, _, _, _, _⟩) (v := undef) rfl (by kernel_rfl) (by kernel_rfl) (by kernel_rfl) (fun _ _ _ h => h) (Or.inr ⟨by rfl, rfl⟩) (by assumption) ?_
            try simp only [Act.put, List.setIfInBounds_toArray, List.set_cons_zero, List.set_cons_succ]
            refine wpAnyH_take (i := 11) (oi := ⟨_, _, _, _, _, _⟩) (v := undef) rfl (by kernel_rfl) (by kernel_rfl) (by kernel_rfl) (fun _ _ _ h => h) (Or.inr ⟨by rfl, rfl⟩) (by assumption) ?_
            try simp only [Act.put, List.setIfInBounds_toArray, List.set_cons_zero, List.set_cons_succ]
            refine wpAnyH_take (i := 12) (oi := ⟨_, _, _, _, _, _⟩) (v := undef) rfl (by kernel_rfl) (by kernel_rfl) (by kernel_rfl) (fun _ _ _ h => h) (Or.inr ⟨by rfl, rfl⟩) (by assumption) ?_
            try simp only [Act.put, List.setIfInBounds_toArray, List.set_cons_zero, List.set_cons_succ]
            refine wpAnyH_take (i := 13) (oi := ⟨_, _, _, _, _, _⟩) (v := undef) rfl (by kernel_rfl) (by kernel_rfl) (by kernel_rfl) (fun _ _ _ h => h) (Or.inr ⟨by rfl, rfl⟩) (by assumption) ?_
            try simp only [Act.put, List.setIfInBounds_toArray, List.set_cons_zero, List.set_cons_succ]
            refine wpAnyH_take (i := 14) (oi := ⟨_, _, _, _, _, _⟩) (v := undef) rfl (by kernel_rfl) (by kernel_rfl) (by kernel_rfl) (fun _ _ _ h => h) (Or.inr ⟨by rfl, rfl⟩) (by assumption) ?_
            try simp only [Act.put, List.setIfInBounds_toArray, List.set_cons_zero, List.set_cons_succ]
            refine wpAnyH_take (i := 15) (oi := ⟨_, _, _, _, _, _⟩) (v := undef) rfl (by kernel_rfl) (by kernel_rfl) (by kernel_rfl) (fun _ _ _ h => h) (Or.inr ⟨by rfl, rfl⟩) (by assumption) ?_
            try simp only [Act.put, List.setIfInBounds_toArray, List.set_cons_zero, List.set_cons_succ]
            refine wpAnyH_take (i := 16) (oi := ⟨_, _, _, _, _, _⟩) (v := undef) rfl (by kernel_rfl) (by kernel_rfl) (by kernel_rfl) (fun _ _ _ h => h) (Or.inr ⟨by rfl, rfl⟩) (by assumption) ?_
            try simp only [Act.put, List.setIfInBounds_toArray, List.set_cons_zero, List.set_cons_succ]
            refine wpAnyH_take (i := 17) (oi := ⟨_, _, _, _, _, _⟩) (v := undef) rfl (by kernel_rfl) (by kernel_rfl) (by kernel_rfl) (fun _ _ _ h => h) (Or.inr ⟨by rfl, rfl⟩) (by assumption) ?_
            try simp only [Act.put, List.setIfInBounds_toArray, List.set_cons_zero, List.set_cons_succ]
            refine wpAnyH_take (i := 18) (oi := ⟨_, _, _, _, _, _⟩) (v := undef) rfl (by kernel_rfl) (by kernel_rfl) (by kernel_rfl) (fun _ _ _ h => h) (Or.inr ⟨by rfl, rfl⟩) (by assumption) ?_
            try simp only [Act.put, List.setIfInBounds_toArray, List.set_cons_zero, List.set_cons_succ]
            refine wpAnyH_take (i := 19) (oi := ⟨_, _, _, _, _, _⟩) (v := undef) rfl (by kernel_rfl) (by kernel_rfl) (by kernel_rfl) (fun _ _ _ h => h) (Or.inr ⟨by rfl, rfl⟩) (by assumption) ?_
            try simp only [Act.put, List.setIfInBounds_toArray, List.set_cons_zero, List.set_cons_succ]
            refine wpAnyH_take (i := 20) (oi := ⟨_, _, _, _, _, _⟩) (v := undef) rfl (by kernel_rfl) (by kernel_rfl) (by kernel_rfl) (fun _ _ _ h => h) (Or.inr ⟨by rfl, rfl⟩) (by assumption) ?_
            try simp only [Act.put, List.setIfInBounds_toArray, List.set_cons_zero, List.set_cons_succ]
            refine wpAnyH_take (i := 21) (oi := ⟨_, _, _, _, _, _⟩) (v := undef) rfl (by kernel_rfl) (by kernel_rfl) (by kernel_rfl) (fun _ _ _ h => h) (Or.inr ⟨by rfl, rfl⟩) (by assumption) ?_
            try simp only [Act.put, List.setIfInBounds_toArray, List.set_cons_zero, List.set_cons_succ]
            refine wpAnyH_take (i := 22) (oi := ⟨_, _, _, _, _, _⟩) (v := undef) rfl (by kernel_rfl) (by kernel_rfl) (by kernel_rfl) (fun _ _ _ h => h) (Or.inr ⟨by rfl, rfl⟩) (by assumption) ?_
            try simp only [Act.put, List.setIfInBounds_toArray, List.set_cons_zero, List.set_cons_succ]
            refine wpAnyH_take (i := 23) (oi := ⟨_, _, _, _, _, _⟩) (v := ?v23q2) rfl (by kernel_rfl) (by kernel_rfl) (by kernel_rfl) (fun _ _ _ h => h) (Or.inl ⟨by rfl, ?h23q2⟩) (by assumption) ?r23q2
            case h23q2 => (intro w hSw; (try dsimp only at hSw); go_simp <;> with_reducible rfl)
            case' r23q2 => try simp only [Act.put, List.setIfInBounds_toArray, List.set_cons_zero, List.set_cons_succ]
            refine wpAnyH_take (i := 24) (oi := ⟨_, _, _, _, _, _⟩) (v := ?v24q2) rfl (by kernel_rfl) (by kernel_rfl) (by kernel_rfl) (fun _ _ _ h => h) (Or.inl ⟨by rfl, ?h24q2⟩) (by assumption) ?r24q2
            case h24q2 => (intro w hSw; (try dsimp only at hSw); go_simp <;> with_reducible rfl)
            case' r24q2 => try simp only [Act.put, List.setIfInBounds_toArray, List.set_cons_zero, List.set_cons_succ]
            refine wpAnyH_done (by kernel_rfl) ?_ _
            refine NoPanic.normal ?_
            all_goals
              have HB9 := Lib.hid (below_then HB.out (⟨hb9.os, hb9.tape, hb9.output, hb9.size, hb9.block⟩ : RowKit.Below wr.heap.size wr w9))
              clear hb9 c0 c1
              go_wp2_with fail
              go_roundw
              case rel => exact ⟨1, rfl, by omega, Lib.hid (by rw [HTK.out]; exact (Plain.Norm_one _).2 ⟨b1, b2, b3⟩), HB9.out⟩
              case measure => simp [RowKit.intOf]; omega
          · obtain ⟨j, hj⟩ : ∃ j, k = j + 1 := ⟨k - 1, by omega⟩
            have hjS : j < R.length := by omega
            obtain ⟨_, p0, p1⟩ := HXr.out.spot j hjS
            obtain ⟨p, hp⟩ : ∃ p, R[j] = p := ⟨_, rfl⟩
            rw [hp] at p0 p1
            have htj : R.take k = R.take j ++ [p] := by rw [hj, List.take_succ_eq_append_getElem hjS, hp]
            have hpm : May p := Plain.Norm_may HN.out p (by rw [htj]; simp)
            obtain ⟨pl, ph⟩ := p
            obtain ⟨d1, d2, d3⟩ := hpm
            dsimp only at p0 p1 d1 d2 d3
            have HTJ := Lib.hid htj
            have hw11 : (k : Int) - 1 = (j : Int) := by omega
            have hw1 : IntKind.i64.wrap ((k : Int) - 1) = (j : Int) := by rw [hw11, IntKind.wrap_i64]; omega
            have hj0 : (0 : Int) ≤ (j : Int) := by omega
            have hj1 : (j : Int) < (n : Int) := by omega
            have hw3 : IntKind.i64.wrap (j : Int) = (j : Int) := by rw [IntKind.wrap_i64]; omega
            have hw2 : IntKind.i32.wrap (ph + 1) = ph + 1 := by rw [IntKind.wrap_i32]; omega
            have hk1 : decide ((k : Int) > 0) = true := by simp; omega
            have hk00 : decide (0 < k) = true := by simp; omega
            clear hp htj hj
            by_cases hc : lo ≤ ph + 1
            · have dc : decide (lo ≤ ph + 1) = true := by simp [hc]
              go_region_held3 (fun w' => w'.cell? ⟨ba, off + k * 2, none⟩ = some (.int .i32 lo) ∧ w'.cell? ⟨ba, off + k * 2 + 1, none⟩ = some (.int .i32 hi) ∧ w'.cell? ⟨ba, off + j * 2 + 1, none⟩ = some (.int .i32 ph)) (first | go_keep | exact ⟨(hb9.cell (p := ⟨ba, off + k * 2, none⟩) hba).trans c0, (hb9.cell (p := ⟨ba, off + k * 2 + 1, none⟩) hba).trans c1, (hb9.cell (p := ⟨ba, off + j * 2 + 1, none⟩) hba).trans p1⟩) (first | (go_at_call 130; (with_reducible refine (CM.out _).mono ?_); rintro e w9 ⟨rfl, hb9⟩))
              all_goals
                have HB9 := Lib.hid (below_then HB.out (⟨hb9.os, hb9.tape, hb9.output, hb9.size, hb9.block⟩ : RowKit.Below wr.heap.size wr w9))
                clear hb9 c0 c1 p0 p1
                go_wp2_with fail
                go_ret
                refine ⟨false, rfl, ⟨(fun h => by cases h), fun h => ?_⟩, HB9.out⟩
                have h1 := norm_take h.1 (k + 1)
                rw [HTK.out, HTJ.out, norm_snoc] at h1
                have h2 : ph + 1 < lo := h1.2.2
                omega
            · have dc : decide (lo ≤ ph + 1) = false := by simp; omega
              go_region_held3 (fun w' => w'.cell? ⟨ba, off + k * 2, none⟩ = some (.int .i32 lo) ∧ w'.cell? ⟨ba, off + k * 2 + 1, none⟩ = some (.int .i32 hi) ∧ w'.cell? ⟨ba, off + j * 2 + 1, none⟩ = some (.int .i32 ph)) (first | go_keep | exact ⟨(hb9.cell (p := ⟨ba, off + k * 2, none⟩) hba).trans c0, (hb9.cell (p := ⟨ba, off + k * 2 + 1, none⟩) hba).trans c1, (hb9.cell (p := ⟨ba, off + j * 2 + 1, none⟩) hba).trans p1⟩) (first | (go_at_call 130; (with_reducible refine (CM.out _).mono ?_); rintro e w9 ⟨rfl, hb9⟩))
              all_goals
                have HB9 := Lib.hid (below_then HB.out (⟨hb9.os, hb9.tape, hb9.output, hb9.size, hb9.block⟩ : RowKit.Below wr.heap.size wr w9))
                clear hb9 c0 c1 p0 p1
                go_wp2_with fail
                go_roundw
                case rel => exact ⟨k + 1, by go_num, by omega, Lib.hid (by rw [HTK.out, HTJ.out, norm_snoc]; exact ⟨by rw [← HTJ.out]; exact HN.out, ⟨b1, b2, b3⟩, by show ph + 1 < lo; omega⟩), HB9.out⟩
                case measure => simp [RowKit.intOf]; omega
      · obtain rfl : k = n := by omega
        have hT : R.take k = R := List.take_of_length_le (by rw [HR.out]; exact Nat.le_refl _)
        have HT := Lib.hid hT
        clear hT hB
        go_wp2_with fail
        go_ret
        exact ⟨true, rfl, ⟨fun _ => ⟨by have := HN.out; rw [HT.out] at this; exact this, by rw [HR.out]; exact h64⟩, fun _ => rfl⟩, HB.out⟩
  · have d64 : decide ((n : Int) > 64) = true := by simp; omega
    have d64n : decide (64 < n) = true := by simp; omega
    go_enter Tryz.func101, Tryz.ntmps101
    go_wp2_with fail
    go_ret
    exact ⟨false, rfl, ⟨(fun h => by cases h), fun h => absurd h.2 (by rw [HR.out]; exact h64)⟩, RowKit.Below.refl _ _⟩
end Go.Proofs.YtmiacgkidldjmaaGreatDoor
namespace Go.Proofs.YtmiacgkidldjmaaGreatDoor
open Go.RowKit
theorem radd_any (x : Int) (s : ByteArray) (w : World) (h0 : 0 ≤ x) (h1 : x < 4294967296) (hs : s.size ≤ maxLen) :
    Calls Tryz.prog 109 #[.int .u32 x, .string s] w fun e w' => e = .returned (.int .u32 (Plain.addS x s.data.toList)) ∧ w = w' := by
  unfold maxLen at hs
  go_enter Tryz.func109, Tryz.ntmps109
  go_wp2
  go_loop [5, 6, 7] (fun a b i => ∃ k : Nat, k ≤ s.size ∧ i = .int .i64 k ∧ a = .int .u32 (Plain.run (x % 65536 % 65521, x / 65536 % 65521) (s.data.toList.take k)).1 ∧ b = .int .u32 (Plain.run (x % 65536 % 65521, x / 65536 % 65521) (s.data.toList.take k)).2) (fun _ _ i => s.size - (intOf i).toNat)
  case atStart => exact ⟨0, Nat.zero_le _, rfl, rfl, rfl⟩
  case round =>
    obtain ⟨k, hk, rfl, rfl, rfl⟩ := hrel
    have hd := Plain.run_bd (s.data.toList.take k) (x % 65536 % 65521, x / 65536 % 65521) (by simp only; omega) (by simp only; omega) (by simp only; omega) (by simp only; omega)
    obtain ⟨d1, d2, d3, d4⟩ := hd
    by_cases hlt : k < s.size
    · have hsn := Plain.run_snoc (x % 65536 % 65521, x / 65536 % 65521) (s.data.toList.take k) s[k]
      rw [← stake_snoc s k hlt] at hsn
      generalize Plain.run (x % 65536 % 65521, x / 65536 % 65521) (s.data.toList.take k) = p at *
      obtain ⟨a, b⟩ := p
      simp only at d1 d2 d3 d4
      have hc := UInt8.toNat_lt s[k]
      have HS := Lib.hid hsn; clear hsn
      go_wp2
      go_round
      case rel => exact ⟨k + 1, by omega, by go_num, by rw [HS.out]; rfl, by rw [HS.out]; rfl⟩
      case measure => simp [intOf]; omega
    · have hfin : Plain.addS x s.data.toList = (Plain.run (x % 65536 % 65521, x / 65536 % 65521) (s.data.toList.take k)).2 * 65536 + (Plain.run (x % 65536 % 65521, x / 65536 % 65521) (s.data.toList.take k)).1 := by
        rw [List.take_of_length_le (by simp; omega)]; rfl
      generalize Plain.run (x % 65536 % 65521, x / 65536 % 65521) (s.data.toList.take k) = p at *
      obtain ⟨a, b⟩ := p
      simp only at d1 d2 d3 d4 hfin
      have HS := Lib.hid hfin; clear hfin
      go_wp2
      go_ret
      exact ⟨ret_int HS.out.symm, rfl⟩
theorem rof_any (s : ByteArray) (w : World) (hs : s.size ≤ maxLen) : Calls Tryz.prog 58 #[.string s] w fun e w' => e = .returned (.int .u32 (sm s)) ∧ w = w' := by
  have cA := radd_any 1 s w (by decide) (by decide) hs
  go_enter Tryz.func58, Tryz.ntmps58
  go_wp2_with fail
  refine cA.mono ?_
  rintro e w1 ⟨rfl, hw⟩
  subst hw
  go_wp2
  go_ret
  exact ⟨rfl, rfl⟩
theorem rputi_any (n : Nat) (w : World) (hn : n < 9223372036854775808) : Calls Tryz.prog 51 #[.int .i64 (n : Int)] w fun e w' => e = .returned (.string (str (Plain.putL n))) ∧ Below w.heap.size w w' := by
  have cP := rput_any n w (by omega)
  have hw : (n : Int) % 18446744073709551616 = (n : Int) := by omega
  have HP := Lib.hid cP
  clear cP
  go_enter Tryz.func51, Tryz.ntmps51
  go_wp2_with fail
  refine HP.out.mono ?_
  rintro e w1 ⟨rfl, hb⟩
  have HB := Lib.hid hb
  clear hb
  go_wp2
  go_ret
  exact ⟨rfl, HB.out⟩
end Go.Proofs.YtmiacgkidldjmaaGreatDoor
namespace Go.Proofs.YtmiacgkidldjmaaGreatDoor
open Go.RowKit Go.Lib
def strZ : Value → Nat
  | .string s => (4 - s.size % 4) % 4
  | _ => 0
set_option maxRecDepth 100000 in
set_option maxHeartbeats 1000000 in
theorem rseal_any (s : ByteArray) (w : World) (hs : s.size ≤ 1152921504606846000) : Calls Tryz.prog 30 #[.string s] w fun e w' => e = .returned (.string (str (Plain.sealL s.data.toList))) ∧ Below w.heap.size w w' := by
  have hl0 : s.data.toList.length = s.size := by simp
  have CO := Lib.hid (fun (s : ByteArray) (w : World) (h : s.size ≤ maxLen) => rof_any s w h)
  obtain ⟨l, hl⟩ : ∃ x, s.data.toList = x := ⟨_, rfl⟩
  rw [hl] at hl0 ⊢
  have hs2 : s = str (l ++ List.replicate 0 0) := by rw [← hl, List.replicate_zero, List.append_nil]; unfold str; simp
  have hln : l.length ≤ 1152921504606846000 := by omega
  clear hs hl hl0
  subst hs2
  obtain ⟨pn, hpn⟩ : ∃ x, Plain.padN l.length = x := ⟨_, rfl⟩
  have hp4 := Plain.padN_lt l.length
  rw [hpn] at hp4
  have HPN := Lib.hid hpn
  clear hpn
  go_enter Tryz.func30, Tryz.ntmps30
  go_wp2_with fail
  go_loopw [0] (fun a wr => wr = w ∧ ∃ j : Nat, j ≤ pn ∧ a = .string (str (l ++ List.replicate j 0))) (fun a _ => strZ a)
  case atStart => exact ⟨rfl, 0, Nat.zero_le _, rfl⟩
  case round =>
    obtain ⟨rfl, j, hj, rfl⟩ := hrel
    obtain ⟨Y, hY⟩ : ∃ x, str (l ++ List.replicate j 0) = x := ⟨_, rfl⟩
    have hYz : Y.size = l.length + j := by rw [← hY, str_size, List.length_append, List.length_replicate]
    have hYl : Y.data.toList = l ++ List.replicate j 0 := by rw [← hY, str_list]
    have hpe := HPN.out
    unfold Plain.padN at hpe
    by_cases hjp : j < pn
    · have hne : (Y.size : Int) % 4 ≠ 0 := by rw [hYz]; omega
      have hnt : Int.tmod (Y.size : Int) 4 ≠ 0 := by rw [Int.tmod_eq_emod_of_nonneg (by omega)]; exact hne
      have hb1 : ((Y.size : Int) % 4 != 0) = true := by simpa using hne
      have hb2 : (Int.tmod (Y.size : Int) 4 != 0) = true := by simpa using hnt
      have g1 : ¬ (9223372036854775807 < Y.size + (⟨#[0]⟩ : ByteArray).size) := by show ¬ (9223372036854775807 < Y.size + 1); omega
      have g2 : ¬ (9223372036854775807 < Y.size + 1) := by omega
      have hnx : Y ++ ⟨#[0]⟩ = str (l ++ List.replicate (j + 1) 0) := by
        rw [← hY, show (⟨#[0]⟩ : ByteArray) = str [0] from rfl, str_app, List.append_assoc, List.replicate_succ']
      have HNX := Lib.hid hnx
      have HYZ := Lib.hid hYz
      have HPE := Lib.hid hpe
      rw [hY]
      clear hnx hYz hYl hpe hY
      go_wp2
      go_roundw
      case rel => exact ⟨by first | rfl | trivial, j + 1, by omega, by rw [HNX.out]⟩
      case measure =>
        rw [HNX.out]
        show (4 - (str (l ++ List.replicate (j + 1) 0)).size % 4) % 4 < (4 - Y.size % 4) % 4
        rw [str_size, List.length_append, List.length_replicate, HYZ.out]
        have := HPE.out
        omega
    · obtain rfl : j = pn := by omega
      have he : (Y.size : Int) % 4 = 0 := by rw [hYz]; omega
      have het : Int.tmod (Y.size : Int) 4 = 0 := by rw [Int.tmod_eq_emod_of_nonneg (by omega)]; exact he
      have hpl : Plain.padL l = l ++ List.replicate j 0 := by unfold Plain.padL; rw [HPN.out]
      have cO := CO.out Y wr (by unfold maxLen; omega)
      obtain ⟨b0, b1⟩ := sm_bd Y
      have hv : str (Plain.sealL l) = Y ++ bstr (b4i (sm Y)) := by
        unfold Plain.sealL
        rw [hpl, ← str_app, hY]
        congr 1
        unfold Plain.sealed
        rw [← hYl]
        exact (b4_nb (sm Y)).symm
      unfold b4i at hv
      obtain ⟨x, hx⟩ : ∃ x, sm Y = x := ⟨_, rfl⟩
      rw [hx] at cO b0 b1 hv
      rw [show x / 16777216 % 256 = x / 16777216 by omega] at hv
      have hcv := conv4 (w := wr) (x / 16777216) (x / 65536 % 256) (x / 256 % 256) (x % 256) (by intro y hy; simp only [List.mem_cons, List.not_mem_nil, or_false] at hy; rcases hy with h | h | h | h <;> (subst h; omega))
      obtain ⟨BS, hBS⟩ : ∃ z, bstr [x / 16777216, x / 65536 % 256, x / 256 % 256, x % 256] = z := ⟨_, rfl⟩
      have hBz : BS.size = 4 := by
        have h1 : BS.data.toList.length = 4 := by rw [← hBS, bstr_list]; rfl
        rw [← h1]; simp
      rw [hBS] at hcv hv
      have HV := Lib.hid hv
      have g1 : ¬ (9223372036854775807 < Y.size + BS.size) := by omega
      have g2 : ¬ (9223372036854775807 < Y.size + 4) := by omega
      rw [hY]
      have CO2 := Lib.hid cO
      have HYZ := Lib.hid hYz
      clear hv hx hBS cO hYl hpl hY hYz hpe
      go_wp2_with fail
      refine Calls.mono CO2.out ?_
      rintro e w1 ⟨rfl, hw⟩
      subst hw
      go_wp2_with fail
      go_ret
      exact ⟨by rw [HV.out]; rfl, below_alloc (Below.refl _ _) _⟩
set_option maxRecDepth 100000 in
set_option maxHeartbeats 4000000 in
theorem rblob_any (kb : UInt8) (tag : Nat) (a b c : List UInt8) (w : World) (ht : tag ≤ 10) (ha : a.length ≤ 65536) (hb : b.length ≤ 65536) (hc : c.length ≤ 65536) (hlen : (Plain.blobL kb tag a b c).length ≤ 65536) :
    Calls Tryz.prog 52 #[.string (str [kb]), .int .u8 (tag : Int), .string (str a), .string (str b), .string (str c)] w fun e w' => e = .returned (.tuple #[.string (str (Plain.blobL kb tag a b c)), .bool true]) ∧ Below w.heap.size w w' := by
  have hall : ∀ s ∈ [a, b, c], s.length ≤ 65536 := by intro s hs; simp at hs; rcases hs with rfl | rfl | rfl <;> assumption
  have HALL := Lib.hid hall
  obtain ⟨tot, htot⟩ : ∃ t, Plain.blobL kb tag a b c = t := ⟨_, rfl⟩
  have hseal : ∀ W, Calls Tryz.prog 30 #[.string (str (preL kb tag [a, b, c] 3))] W fun e w' => e = .returned (.string (str tot)) ∧ Below W.heap.size W w' := fun W => by
    have h1 := preL_len kb tag [a, b, c] hall 3 (by simp)
    have h2 := rseal_any (str (preL kb tag [a, b, c] 3)) W (by rw [str_size]; omega)
    rw [str_list, preL_three] at h2
    rw [preL_three, ← htot]
    exact h2
  have HSEAL := Lib.hid hseal
  have htl : (str tot).size ≤ 65536 := by rw [str_size, ← htot]; exact hlen
  rw [htot]
  obtain ⟨tb, htb⟩ : ∃ t, str tot = t := ⟨_, rfl⟩
  rw [htb] at HSEAL htl ⊢
  have hpre0 : (⟨#[87, 88]⟩ : ByteArray) ++ str [kb] = str (preL kb tag [a, b, c] 0) := by rw [show (⟨#[87, 88]⟩ : ByteArray) = str [87, 88] from rfl, str_app]; rfl
  have HPRE0 := Lib.hid hpre0
  have CT := Lib.hid (fun s W hs => rtextS_any s W hs)
  have hd3 : decide ((tb.size : Int) > 65536) = false := by simp; omega
  have hkz : (str [kb]).size = 1 := by rw [str_size]; rfl
  have g1 : ¬ (9223372036854775807 < (2 : Nat) + (str [kb]).size) := by omega
  clear hall htot hseal hpre0 htb hlen
  go_enter Tryz.func52, Tryz.ntmps52
  go_upto_region 2 with fail
  obtain ⟨wr, hwr⟩ : ∃ x, w = x := ⟨_, rfl⟩
  have HB := Lib.hid (show Below w.heap.size w wr from by rw [← hwr]; exact Below.refl _ _)
  rw [hwr]
  clear hwr
  have hpl := preL_len kb tag [a, b, c] HALL.out 0 (by simp)
  have hnx := preL_succ kb tag [a, b, c] 0
  rw [show ([a, b, c] : List (List UInt8)).getD 0 [] = a from rfl] at hnx
  have CK := Lib.hid (fun W => CT.out (str a) W (by rw [str_size]; omega))
  have hsec := Plain.secL_len (tag + 0) a (by omega)
  have hpz := (Plain.putL_len10 (str a).size (by rw [str_size]; omega)).2
  have hz : str (Plain.putL (str a).size ++ (str a).data.toList) = str (Plain.textL a) := by rw [str_size, str_list]; rfl
  have hzs : (str (Plain.textL a)).size ≤ 65550 := by rw [← hz, str_size, List.length_append, str_list]; rw [str_size] at hpz; rw [str_size]; omega
  rw [hz] at CK
  obtain ⟨pr, hpr⟩ : ∃ p, preL kb tag [a, b, c] 0 = p := ⟨_, rfl⟩
  obtain ⟨pn0, hpn0⟩ : ∃ p, preL kb tag [a, b, c] (0 + 1) = p := ⟨_, rfl⟩
  rw [hpr, hpn0] at hnx
  rw [hpr] at hpl
  have hcat : (str pr ++ str [UInt8.ofNat (tag + 0)]) ++ str (Plain.textL a) = str pn0 := by rw [str_app, str_app, hnx, List.append_assoc]; rfl
  have hps : (str pr).size ≤ 300000 := by rw [str_size]; omega
  have h1s : (str [UInt8.ofNat (tag + 0)]).size = 1 := by rw [str_size]; rfl
  obtain ⟨z, hze⟩ : ∃ z, str (Plain.textL a) = z := ⟨_, rfl⟩
  rw [hze] at CK hzs hcat
  obtain ⟨o, ho⟩ : ∃ o, str [UInt8.ofNat (tag + 0)] = o := ⟨_, rfl⟩
  have hc1 : ∀ (W : World) (g : Nat), W.heap[g]? = some (.cells #[.int .u8 ((tag + 0 : Nat) : Int)] 5 (0, 0)) → (convert 35 9 (.slice (some ⟨g, 0, none⟩) 1 1)).run Tryz.prog W = .ok (.string o) W := fun W g h => by rw [convB _ (by omega) h, bstr_one _ (by omega), ho]
  rw [ho] at hcat h1s
  obtain ⟨tj, htj⟩ : ∃ x, tag + 0 = x := ⟨_, rfl⟩
  rw [htj] at hc1
  obtain rfl : tag = tj := by omega
  have HCAT := Lib.hid hcat
  have HC1 := Lib.hid hc1
  obtain ⟨p0, hp0⟩ : ∃ x, str pr = x := ⟨_, rfl⟩
  rw [hp0] at HCAT hps
  have HPR := Lib.hid (And.intro hpr hp0)
  rw [HPRE0.out, hpr, hp0]
  have g2 : ¬ (9223372036854775807 < p0.size + o.size) := by omega
  have g3 : ¬ (9223372036854775807 < (p0 ++ o).size + z.size) := by rw [ByteArray.size_append]; omega
  have g4 : ¬ (9223372036854775807 < p0.size + o.size + z.size) := by omega
  have g5 : ¬ (9223372036854775807 < p0.size + 1 + z.size) := by omega
  have g6 : ¬ (9223372036854775807 < p0.size + 1) := by omega
  clear hnx hpl hz hze hsec hpz hcat hpr hc1 ho htj hp0
  go_cut [12] (fun s wx => s = .string (str pn0) ∧ Below w.heap.size w wx)
  case first =>
    have HBD := Lib.hid (Below.drew (Below.refl wr.heap.size wr))
    obtain ⟨wd, hwd⟩ : ∃ x, wr.drew = x := ⟨_, rfl⟩
    rw [hwd] at HBD
    refine wp_region_noPanic ?_
    refine wp_region_T 8 (S := fun w' : World => Below wr.heap.size wr w') (by kernel_rfl) (by decide) ?_
    rw [hwd]
    clear hwd
    refine wpAnyT_take2 0 (v := ?tvz01) (by kernel_rfl) rfl (by kernel_rfl) (fun _ _ _ h => h) (Or.inl ⟨by rfl, ?tyz01⟩) HBD.out ?trz01
    case tyz01 => (intro w' hSw; (try dsimp only at hSw); go_simp; try with_reducible rfl)
    try simp only [Act.put, List.setIfInBounds_toArray, List.set_cons_zero, List.set_cons_succ]
    refine wpAnyT_take2 1 (v := ?tvz02) (by kernel_rfl) rfl (by kernel_rfl) (fun _ _ _ h => h) (Or.inl ⟨by rfl, ?tyz02⟩) HBD.out ?trz02
    case tyz02 => (intro w' hSw; (try dsimp only at hSw); go_simp; try with_reducible rfl)
    try simp only [Act.put, List.setIfInBounds_toArray, List.set_cons_zero, List.set_cons_succ]
    refine wpAnyT_take2 5 (v := ?tvz03) (by kernel_rfl) rfl (by kernel_rfl) (fun _ _ _ h => h) (Or.inl ⟨by rfl, ?tyz03⟩) HBD.out ?trz03
    case tyz03 => (intro w' hSw; (try dsimp only at hSw); go_simp; try with_reducible rfl)
    try simp only [Act.put, List.setIfInBounds_toArray, List.set_cons_zero, List.set_cons_succ]
    refine wpAnyT_all [2, 6] (by kernel_rfl) (by decide) (fun i hi => ?_)
    simp only [List.mem_cons, List.not_mem_nil, or_false] at hi
    rcases hi with rfl | rfl
    · refine ⟨_, (by rfl), fun K' hK' => ?_⟩
      rw [if_pos (by rfl)]
      have HK := Lib.hid hK'
      clear hK'
      have hnew := heap_alloc_new2 wd (.cells #[.int .u8 (tag : Int)] 5) wd.heap.size _ rfl
      go_simp
      have HBz04 := Lib.hid (below_alloc HBD.out (.cells #[.int .u8 (tag : Int)] 5))
      refine HK.out _ _ ⟨HBz04.out, ?_⟩
      clear HK K'
      try simp only [Act.put, List.setIfInBounds_toArray, List.set_cons_zero, List.set_cons_succ]
      obtain ⟨wz04, hwz04⟩ : ∃ W0, wd.alloc (.cells #[.int .u8 (tag : Int)] 5) = W0 := ⟨_, rfl⟩
      obtain ⟨gb, hgb⟩ : ∃ x, wd.heap.size = x := ⟨_, rfl⟩
      rw [hwz04] at hnew HBz04 ⊢
      rw [hgb] at hnew ⊢
      have Hblkz04 := Lib.hid hnew
      clear hnew hwz04 hgb
      refine wpAnyT_all [3, 6] (by kernel_rfl) (by decide) (fun i hi => ?_)
      simp only [List.mem_cons, List.not_mem_nil, or_false] at hi
      rcases hi with rfl | rfl
      · refine ⟨_, (by rfl), fun K' hK' => ?_⟩
        rw [if_pos (by rfl)]
        have HK := Lib.hid hK'
        clear hK'
        have hcv := HC1.out _ _ Hblkz04.out
        go_simp
        refine HK.out _ _ ⟨HBz04.out, ?_⟩
        clear HK K'
        try simp only [Act.put, List.setIfInBounds_toArray, List.set_cons_zero, List.set_cons_succ]
        refine wpAnyT_take2 4 (v := ?tvz06) (by kernel_rfl) rfl (by kernel_rfl) (fun _ _ _ h => h) (Or.inl ⟨by rfl, ?tyz06⟩) HBz04.out ?trz06
        case tyz06 => (intro w' hSw; (try dsimp only at hSw); go_simp; try with_reducible rfl)
        try simp only [Act.put, List.setIfInBounds_toArray, List.set_cons_zero, List.set_cons_succ]
        refine wpAnyT_one2 6 rfl (by kernel_rfl) ?_
        intro K' hK'
        rw [if_pos (by rfl)]
        have HK := Lib.hid hK'
        clear hK'
        go_wp2_with (go_at_call 103; refine (CK.out _).mono ?_; rintro ez07 wz07 ⟨rfl, hb⟩)
        have HBz07 := Lib.hid (below_then HBz04.out hb)
        have Hblkz07 := Lib.hid (blk_later Hblkz04.out hb)
        clear hb
        refine HK.out _ _ ⟨HBz07.out, ?_⟩
        clear HK K'
        try simp only [Act.put, List.setIfInBounds_toArray, List.set_cons_zero, List.set_cons_succ]
        refine wpAnyT_take2 7 (v := ?tvz08) (by kernel_rfl) rfl (by kernel_rfl) (fun _ _ _ h => h) (Or.inl ⟨by rfl, ?tyz08⟩) HBz07.out ?trz08
        case tyz08 => (intro w' hSw; (try dsimp only at hSw); go_simp; try with_reducible rfl)
        try simp only [Act.put, List.setIfInBounds_toArray, List.set_cons_zero, List.set_cons_succ]
        refine ⟨by kernel_rfl, ?_⟩
        change wpList _ _ _ [_] _ _
        go_wp2
        refine NoPanic.normal ?_
        go_wp2
        go_meet
        case rel => exact ⟨by rw [HCAT.out], HB.out.trans (HBz07.out.mono HB.out.size)⟩
      · refine ⟨_, (by rfl), fun K' hK' => ?_⟩
        rw [if_pos (by rfl)]
        have HK := Lib.hid hK'
        clear hK'
        go_wp2_with (go_at_call 103; refine (CK.out _).mono ?_; rintro ez09 wz09 ⟨rfl, hb⟩)
        have HBz09 := Lib.hid (below_then HBz04.out hb)
        have Hblkz09 := Lib.hid (blk_later Hblkz04.out hb)
        clear hb
        refine HK.out _ _ ⟨HBz09.out, ?_⟩
        clear HK K'
        try simp only [Act.put, List.setIfInBounds_toArray, List.set_cons_zero, List.set_cons_succ]
        refine wpAnyT_one2 3 rfl (by kernel_rfl) ?_
        intro K' hK'
        rw [if_pos (by rfl)]
        have HK := Lib.hid hK'
        clear hK'
        have hcv := HC1.out _ _ Hblkz09.out
        go_simp
        refine HK.out _ _ ⟨HBz09.out, ?_⟩
        clear HK K'
        try simp only [Act.put, List.setIfInBounds_toArray, List.set_cons_zero, List.set_cons_succ]
        refine wpAnyT_take2 4 (v := ?tvz011) (by kernel_rfl) rfl (by kernel_rfl) (fun _ _ _ h => h) (Or.inl ⟨by rfl, ?tyz011⟩) HBz09.out ?trz011
        case tyz011 => (intro w' hSw; (try dsimp only at hSw); go_simp; try with_reducible rfl)
        try simp only [Act.put, List.setIfInBounds_toArray, List.set_cons_zero, List.set_cons_succ]
        refine wpAnyT_take2 7 (v := ?tvz012) (by kernel_rfl) rfl (by kernel_rfl) (fun _ _ _ h => h) (Or.inl ⟨by rfl, ?tyz012⟩) HBz09.out ?trz012
        case tyz012 => (intro w' hSw; (try dsimp only at hSw); go_simp; try with_reducible rfl)
        try simp only [Act.put, List.setIfInBounds_toArray, List.set_cons_zero, List.set_cons_succ]
        refine ⟨by kernel_rfl, ?_⟩
        change wpList _ _ _ [_] _ _
        go_wp2
        refine NoPanic.normal ?_
        go_wp2
        go_meet
        case rel => exact ⟨by rw [HCAT.out], HB.out.trans (HBz09.out.mono HB.out.size)⟩
    · refine ⟨_, (by rfl), fun K' hK' => ?_⟩
      rw [if_pos (by rfl)]
      have HK := Lib.hid hK'
      clear hK'
      go_wp2_with (go_at_call 103; refine (CK.out _).mono ?_; rintro ez013 wz013 ⟨rfl, hb⟩)
      have HBz013 := Lib.hid (below_then HBD.out hb)
      clear hb
      refine HK.out _ _ ⟨HBz013.out, ?_⟩
      clear HK K'
      try simp only [Act.put, List.setIfInBounds_toArray, List.set_cons_zero, List.set_cons_succ]
      refine wpAnyT_one2 2 rfl (by kernel_rfl) ?_
      intro K' hK'
      rw [if_pos (by rfl)]
      have HK := Lib.hid hK'
      clear hK'
      have hnew := heap_alloc_new2 wz013 (.cells #[.int .u8 (tag : Int)] 5) wz013.heap.size _ rfl
      go_simp
      have HBz014 := Lib.hid (below_alloc HBz013.out (.cells #[.int .u8 (tag : Int)] 5))
      refine HK.out _ _ ⟨HBz014.out, ?_⟩
      clear HK K'
      try simp only [Act.put, List.setIfInBounds_toArray, List.set_cons_zero, List.set_cons_succ]
      obtain ⟨wz014, hwz014⟩ : ∃ W0, wz013.alloc (.cells #[.int .u8 (tag : Int)] 5) = W0 := ⟨_, rfl⟩
      obtain ⟨gb, hgb⟩ : ∃ x, wz013.heap.size = x := ⟨_, rfl⟩
      rw [hwz014] at hnew HBz014 ⊢
      rw [hgb] at hnew ⊢
      have Hblkz014 := Lib.hid hnew
      clear hnew hwz014 hgb
      refine wpAnyT_one2 3 rfl (by kernel_rfl) ?_
      intro K' hK'
      rw [if_pos (by rfl)]
      have HK := Lib.hid hK'
      clear hK'
      have hcv := HC1.out _ _ Hblkz014.out
      go_simp
      refine HK.out _ _ ⟨HBz014.out, ?_⟩
      clear HK K'
      try simp only [Act.put, List.setIfInBounds_toArray, List.set_cons_zero, List.set_cons_succ]
      refine wpAnyT_take2 4 (v := ?tvz016) (by kernel_rfl) rfl (by kernel_rfl) (fun _ _ _ h => h) (Or.inl ⟨by rfl, ?tyz016⟩) HBz014.out ?trz016
      case tyz016 => (intro w' hSw; (try dsimp only at hSw); go_simp; try with_reducible rfl)
      try simp only [Act.put, List.setIfInBounds_toArray, List.set_cons_zero, List.set_cons_succ]
      refine wpAnyT_take2 7 (v := ?tvz017) (by kernel_rfl) rfl (by kernel_rfl) (fun _ _ _ h => h) (Or.inl ⟨by rfl, ?tyz017⟩) HBz014.out ?trz017
      case tyz017 => (intro w' hSw; (try dsimp only at hSw); go_simp; try with_reducible rfl)
      try simp only [Act.put, List.setIfInBounds_toArray, List.set_cons_zero, List.set_cons_succ]
      refine ⟨by kernel_rfl, ?_⟩
      change wpList _ _ _ [_] _ _
      go_wp2
      refine NoPanic.normal ?_
      go_wp2
      go_meet
      case rel => exact ⟨by rw [HCAT.out], HB.out.trans (HBz014.out.mono HB.out.size)⟩

  obtain ⟨rfl, hcb0⟩ := hcut
  obtain ⟨wk0, rfl⟩ : ∃ x, x = wc := ⟨_, rfl⟩
  clear g2 g3 g4 g5 g6 HCAT HC1 HPR CK hps h1s hzs HB
  go_upto_region 3 with fail
  obtain ⟨wr, hwr⟩ : ∃ x, wk0 = x := ⟨_, rfl⟩
  have HB := Lib.hid (show Below w.heap.size w wr from by rw [← hwr]; exact hcb0)
  rw [hwr]
  clear hwr
  have hpl := preL_len kb tag [a, b, c] HALL.out 1 (by simp)
  have hnx := preL_succ kb tag [a, b, c] 1
  rw [show ([a, b, c] : List (List UInt8)).getD 1 [] = b from rfl] at hnx
  have CK := Lib.hid (fun W => CT.out (str b) W (by rw [str_size]; omega))
  have hsec := Plain.secL_len (tag + 1) b (by omega)
  have hpz := (Plain.putL_len10 (str b).size (by rw [str_size]; omega)).2
  have hz : str (Plain.putL (str b).size ++ (str b).data.toList) = str (Plain.textL b) := by rw [str_size, str_list]; rfl
  have hzs : (str (Plain.textL b)).size ≤ 65550 := by rw [← hz, str_size, List.length_append, str_list]; rw [str_size] at hpz; rw [str_size]; omega
  rw [hz] at CK
  obtain ⟨pr, hpr⟩ : ∃ p, preL kb tag [a, b, c] 1 = p := ⟨_, rfl⟩
  obtain ⟨pn1, hpn1⟩ : ∃ p, preL kb tag [a, b, c] (1 + 1) = p := ⟨_, rfl⟩
  rw [hpr, hpn1] at hnx
  rw [hpr] at hpl
  have hcat : (str pr ++ str [UInt8.ofNat (tag + 1)]) ++ str (Plain.textL b) = str pn1 := by rw [str_app, str_app, hnx, List.append_assoc]; rfl
  have hps : (str pr).size ≤ 300000 := by rw [str_size]; omega
  have h1s : (str [UInt8.ofNat (tag + 1)]).size = 1 := by rw [str_size]; rfl
  obtain ⟨z, hze⟩ : ∃ z, str (Plain.textL b) = z := ⟨_, rfl⟩
  rw [hze] at CK hzs hcat
  obtain ⟨o, ho⟩ : ∃ o, str [UInt8.ofNat (tag + 1)] = o := ⟨_, rfl⟩
  have hc1 : ∀ (W : World) (g : Nat), W.heap[g]? = some (.cells #[.int .u8 ((tag + 1 : Nat) : Int)] 5 (0, 0)) → (convert 35 9 (.slice (some ⟨g, 0, none⟩) 1 1)).run Tryz.prog W = .ok (.string o) W := fun W g h => by rw [convB _ (by omega) h, bstr_one _ (by omega), ho]
  rw [ho] at hcat h1s
  obtain ⟨tj, htj⟩ : ∃ x, tag + 1 = x := ⟨_, rfl⟩
  rw [htj] at hc1
  have hw1 : ((tag : Int) + 1) = (tj : Int) := by omega
  have hw2 : IntKind.u8.wrap ((tag : Int) + 1) = (tj : Int) := by rw [IntKind.wrap_u8]; omega
  have hw3 : ((tag : Int) + 1) % 256 = (tj : Int) := by omega
  have hw4 : IntKind.u8.wrap (tj : Int) = (tj : Int) := by rw [IntKind.wrap_u8]; omega
  have hw5 : (tj : Int) % 256 = (tj : Int) := by omega
  have HCAT := Lib.hid hcat
  have HC1 := Lib.hid hc1
  obtain ⟨p0, hp0⟩ : ∃ x, str pr = x := ⟨_, rfl⟩
  rw [hp0] at HCAT hps
  have HPR := Lib.hid (And.intro hpr hp0)
  rw [show pn0 = pr from by rw [← hpn0]; exact hpr, hp0]
  have g2 : ¬ (9223372036854775807 < p0.size + o.size) := by omega
  have g3 : ¬ (9223372036854775807 < (p0 ++ o).size + z.size) := by rw [ByteArray.size_append]; omega
  have g4 : ¬ (9223372036854775807 < p0.size + o.size + z.size) := by omega
  have g5 : ¬ (9223372036854775807 < p0.size + 1 + z.size) := by omega
  have g6 : ¬ (9223372036854775807 < p0.size + 1) := by omega
  clear hnx hpl hz hze hsec hpz hcat hpr hc1 ho htj hp0
  go_cut [12] (fun s wx => s = .string (str pn1) ∧ Below w.heap.size w wx)
  case first =>
    have HBD := Lib.hid (Below.drew (Below.refl wr.heap.size wr))
    obtain ⟨wd, hwd⟩ : ∃ x, wr.drew = x := ⟨_, rfl⟩
    rw [hwd] at HBD
    refine wp_region_noPanic ?_
    refine wp_region_T 9 (S := fun w' : World => Below wr.heap.size wr w') (by kernel_rfl) (by decide) ?_
    rw [hwd]
    clear hwd
    refine wpAnyT_take2 0 (v := ?tvz11) (by kernel_rfl) rfl (by kernel_rfl) (fun _ _ _ h => h) (Or.inl ⟨by rfl, ?tyz11⟩) HBD.out ?trz11
    case tyz11 => (intro w' hSw; (try dsimp only at hSw); go_simp; try with_reducible rfl)
    try simp only [Act.put, List.setIfInBounds_toArray, List.set_cons_zero, List.set_cons_succ]
    refine wpAnyT_take2 1 (v := ?tvz12) (by kernel_rfl) rfl (by kernel_rfl) (fun _ _ _ h => h) (Or.inl ⟨by rfl, ?tyz12⟩) HBD.out ?trz12
    case tyz12 => (intro w' hSw; (try dsimp only at hSw); go_simp; try with_reducible rfl)
    try simp only [Act.put, List.setIfInBounds_toArray, List.set_cons_zero, List.set_cons_succ]
    refine wpAnyT_take2 2 (v := ?tvz13) (by kernel_rfl) rfl (by kernel_rfl) (fun _ _ _ h => h) (Or.inl ⟨by rfl, ?tyz13⟩) HBD.out ?trz13
    case tyz13 => (intro w' hSw; (try dsimp only at hSw); go_simp; try with_reducible rfl)
    try simp only [Act.put, List.setIfInBounds_toArray, List.set_cons_zero, List.set_cons_succ]
    refine wpAnyT_take2 6 (v := ?tvz14) (by kernel_rfl) rfl (by kernel_rfl) (fun _ _ _ h => h) (Or.inl ⟨by rfl, ?tyz14⟩) HBD.out ?trz14
    case tyz14 => (intro w' hSw; (try dsimp only at hSw); go_simp; try with_reducible rfl)
    try simp only [Act.put, List.setIfInBounds_toArray, List.set_cons_zero, List.set_cons_succ]
    refine wpAnyT_all [3, 7] (by kernel_rfl) (by decide) (fun i hi => ?_)
    simp only [List.mem_cons, List.not_mem_nil, or_false] at hi
    rcases hi with rfl | rfl
    · refine ⟨_, (by rfl), fun K' hK' => ?_⟩
      rw [if_pos (by rfl)]
      have HK := Lib.hid hK'
      clear hK'
      have hnew := heap_alloc_new2 wd (.cells #[.int .u8 (tj : Int)] 5) wd.heap.size _ rfl
      go_simp
      have HBz15 := Lib.hid (below_alloc HBD.out (.cells #[.int .u8 (tj : Int)] 5))
      refine HK.out _ _ ⟨HBz15.out, ?_⟩
      clear HK K'
      try simp only [Act.put, List.setIfInBounds_toArray, List.set_cons_zero, List.set_cons_succ]
      obtain ⟨wz15, hwz15⟩ : ∃ W0, wd.alloc (.cells #[.int .u8 (tj : Int)] 5) = W0 := ⟨_, rfl⟩
      obtain ⟨gb, hgb⟩ : ∃ x, wd.heap.size = x := ⟨_, rfl⟩
      rw [hwz15] at hnew HBz15 ⊢
      rw [hgb] at hnew ⊢
      have Hblkz15 := Lib.hid hnew
      clear hnew hwz15 hgb
      refine wpAnyT_all [4, 7] (by kernel_rfl) (by decide) (fun i hi => ?_)
      simp only [List.mem_cons, List.not_mem_nil, or_false] at hi
      rcases hi with rfl | rfl
      · refine ⟨_, (by rfl), fun K' hK' => ?_⟩
        rw [if_pos (by rfl)]
        have HK := Lib.hid hK'
        clear hK'
        have hcv := HC1.out _ _ Hblkz15.out
        go_simp
        refine HK.out _ _ ⟨HBz15.out, ?_⟩
        clear HK K'
        try simp only [Act.put, List.setIfInBounds_toArray, List.set_cons_zero, List.set_cons_succ]
        refine wpAnyT_take2 5 (v := ?tvz17) (by kernel_rfl) rfl (by kernel_rfl) (fun _ _ _ h => h) (Or.inl ⟨by rfl, ?tyz17⟩) HBz15.out ?trz17
        case tyz17 => (intro w' hSw; (try dsimp only at hSw); go_simp; try with_reducible rfl)
        try simp only [Act.put, List.setIfInBounds_toArray, List.set_cons_zero, List.set_cons_succ]
        refine wpAnyT_one2 7 rfl (by kernel_rfl) ?_
        intro K' hK'
        rw [if_pos (by rfl)]
        have HK := Lib.hid hK'
        clear hK'
        go_wp2_with (go_at_call 103; refine (CK.out _).mono ?_; rintro ez18 wz18 ⟨rfl, hb⟩)
        have HBz18 := Lib.hid (below_then HBz15.out hb)
        have Hblkz18 := Lib.hid (blk_later Hblkz15.out hb)
        clear hb
        refine HK.out _ _ ⟨HBz18.out, ?_⟩
        clear HK K'
        try simp only [Act.put, List.setIfInBounds_toArray, List.set_cons_zero, List.set_cons_succ]
        refine wpAnyT_take2 8 (v := ?tvz19) (by kernel_rfl) rfl (by kernel_rfl) (fun _ _ _ h => h) (Or.inl ⟨by rfl, ?tyz19⟩) HBz18.out ?trz19
        case tyz19 => (intro w' hSw; (try dsimp only at hSw); go_simp; try with_reducible rfl)
        try simp only [Act.put, List.setIfInBounds_toArray, List.set_cons_zero, List.set_cons_succ]
        refine ⟨by kernel_rfl, ?_⟩
        change wpList _ _ _ [_] _ _
        go_wp2
        refine NoPanic.normal ?_
        go_wp2
        go_meet
        case rel => exact ⟨by rw [HCAT.out], HB.out.trans (HBz18.out.mono HB.out.size)⟩
      · refine ⟨_, (by rfl), fun K' hK' => ?_⟩
        rw [if_pos (by rfl)]
        have HK := Lib.hid hK'
        clear hK'
        go_wp2_with (go_at_call 103; refine (CK.out _).mono ?_; rintro ez110 wz110 ⟨rfl, hb⟩)
        have HBz110 := Lib.hid (below_then HBz15.out hb)
        have Hblkz110 := Lib.hid (blk_later Hblkz15.out hb)
        clear hb
        refine HK.out _ _ ⟨HBz110.out, ?_⟩
        clear HK K'
        try simp only [Act.put, List.setIfInBounds_toArray, List.set_cons_zero, List.set_cons_succ]
        refine wpAnyT_one2 4 rfl (by kernel_rfl) ?_
        intro K' hK'
        rw [if_pos (by rfl)]
        have HK := Lib.hid hK'
        clear hK'
        have hcv := HC1.out _ _ Hblkz110.out
        go_simp
        refine HK.out _ _ ⟨HBz110.out, ?_⟩
        clear HK K'
        try simp only [Act.put, List.setIfInBounds_toArray, List.set_cons_zero, List.set_cons_succ]
        refine wpAnyT_take2 5 (v := ?tvz112) (by kernel_rfl) rfl (by kernel_rfl) (fun _ _ _ h => h) (Or.inl ⟨by rfl, ?tyz112⟩) HBz110.out ?trz112
        case tyz112 => (intro w' hSw; (try dsimp only at hSw); go_simp; try with_reducible rfl)
        try simp only [Act.put, List.setIfInBounds_toArray, List.set_cons_zero, List.set_cons_succ]
        refine wpAnyT_take2 8 (v := ?tvz113) (by kernel_rfl) rfl (by kernel_rfl) (fun _ _ _ h => h) (Or.inl ⟨by rfl, ?tyz113⟩) HBz110.out ?trz113
        case tyz113 => (intro w' hSw; (try dsimp only at hSw); go_simp; try with_reducible rfl)
        try simp only [Act.put, List.setIfInBounds_toArray, List.set_cons_zero, List.set_cons_succ]
        refine ⟨by kernel_rfl, ?_⟩
        change wpList _ _ _ [_] _ _
        go_wp2
        refine NoPanic.normal ?_
        go_wp2
        go_meet
        case rel => exact ⟨by rw [HCAT.out], HB.out.trans (HBz110.out.mono HB.out.size)⟩
    · refine ⟨_, (by rfl), fun K' hK' => ?_⟩
      rw [if_pos (by rfl)]
      have HK := Lib.hid hK'
      clear hK'
      go_wp2_with (go_at_call 103; refine (CK.out _).mono ?_; rintro ez114 wz114 ⟨rfl, hb⟩)
      have HBz114 := Lib.hid (below_then HBD.out hb)
      clear hb
      refine HK.out _ _ ⟨HBz114.out, ?_⟩
      clear HK K'
      try simp only [Act.put, List.setIfInBounds_toArray, List.set_cons_zero, List.set_cons_succ]
      refine wpAnyT_one2 3 rfl (by kernel_rfl) ?_
      intro K' hK'
      rw [if_pos (by rfl)]
      have HK := Lib.hid hK'
      clear hK'
      have hnew := heap_alloc_new2 wz114 (.cells #[.int .u8 (tj : Int)] 5) wz114.heap.size _ rfl
      go_simp
      have HBz115 := Lib.hid (below_alloc HBz114.out (.cells #[.int .u8 (tj : Int)] 5))
      refine HK.out _ _ ⟨HBz115.out, ?_⟩
      clear HK K'
      try simp only [Act.put, List.setIfInBounds_toArray, List.set_cons_zero, List.set_cons_succ]
      obtain ⟨wz115, hwz115⟩ : ∃ W0, wz114.alloc (.cells #[.int .u8 (tj : Int)] 5) = W0 := ⟨_, rfl⟩
      obtain ⟨gb, hgb⟩ : ∃ x, wz114.heap.size = x := ⟨_, rfl⟩
      rw [hwz115] at hnew HBz115 ⊢
      rw [hgb] at hnew ⊢
      have Hblkz115 := Lib.hid hnew
      clear hnew hwz115 hgb
      refine wpAnyT_one2 4 rfl (by kernel_rfl) ?_
      intro K' hK'
      rw [if_pos (by rfl)]
      have HK := Lib.hid hK'
      clear hK'
      have hcv := HC1.out _ _ Hblkz115.out
      go_simp
      refine HK.out _ _ ⟨HBz115.out, ?_⟩
      clear HK K'
      try simp only [Act.put, List.setIfInBounds_toArray, List.set_cons_zero, List.set_cons_succ]
      refine wpAnyT_take2 5 (v := ?tvz117) (by kernel_rfl) rfl (by kernel_rfl) (fun _ _ _ h => h) (Or.inl ⟨by rfl, ?tyz117⟩) HBz115.out ?trz117
      case tyz117 => (intro w' hSw; (try dsimp only at hSw); go_simp; try with_reducible rfl)
      try simp only [Act.put, List.setIfInBounds_toArray, List.set_cons_zero, List.set_cons_succ]
      refine wpAnyT_take2 8 (v := ?tvz118) (by kernel_rfl) rfl (by kernel_rfl) (fun _ _ _ h => h) (Or.inl ⟨by rfl, ?tyz118⟩) HBz115.out ?trz118
      case tyz118 => (intro w' hSw; (try dsimp only at hSw); go_simp; try with_reducible rfl)
      try simp only [Act.put, List.setIfInBounds_toArray, List.set_cons_zero, List.set_cons_succ]
      refine ⟨by kernel_rfl, ?_⟩
      change wpList _ _ _ [_] _ _
      go_wp2
      refine NoPanic.normal ?_
      go_wp2
      go_meet
      case rel => exact ⟨by rw [HCAT.out], HB.out.trans (HBz115.out.mono HB.out.size)⟩

  obtain ⟨rfl, hcb1⟩ := hcut
  obtain ⟨wk1, rfl⟩ : ∃ x, x = wc := ⟨_, rfl⟩
  clear g2 g3 g4 g5 g6 HCAT HC1 HPR CK hps h1s hzs HB
  go_upto_region 4 with fail
  obtain ⟨wr, hwr⟩ : ∃ x, wk1 = x := ⟨_, rfl⟩
  have HB := Lib.hid (show Below w.heap.size w wr from by rw [← hwr]; exact hcb1)
  rw [hwr]
  clear hwr
  have hpl := preL_len kb tag [a, b, c] HALL.out 2 (by simp)
  have hnx := preL_succ kb tag [a, b, c] 2
  rw [show ([a, b, c] : List (List UInt8)).getD 2 [] = c from rfl] at hnx
  have CK := Lib.hid (fun W => CT.out (str c) W (by rw [str_size]; omega))
  have hsec := Plain.secL_len (tag + 2) c (by omega)
  have hpz := (Plain.putL_len10 (str c).size (by rw [str_size]; omega)).2
  have hz : str (Plain.putL (str c).size ++ (str c).data.toList) = str (Plain.textL c) := by rw [str_size, str_list]; rfl
  have hzs : (str (Plain.textL c)).size ≤ 65550 := by rw [← hz, str_size, List.length_append, str_list]; rw [str_size] at hpz; rw [str_size]; omega
  rw [hz] at CK
  obtain ⟨pr, hpr⟩ : ∃ p, preL kb tag [a, b, c] 2 = p := ⟨_, rfl⟩
  obtain ⟨pn2, hpn2⟩ : ∃ p, preL kb tag [a, b, c] (2 + 1) = p := ⟨_, rfl⟩
  rw [hpr, hpn2] at hnx
  rw [hpr] at hpl
  have hcat : (str pr ++ str [UInt8.ofNat (tag + 2)]) ++ str (Plain.textL c) = str pn2 := by rw [str_app, str_app, hnx, List.append_assoc]; rfl
  have hps : (str pr).size ≤ 300000 := by rw [str_size]; omega
  have h1s : (str [UInt8.ofNat (tag + 2)]).size = 1 := by rw [str_size]; rfl
  obtain ⟨z, hze⟩ : ∃ z, str (Plain.textL c) = z := ⟨_, rfl⟩
  rw [hze] at CK hzs hcat
  obtain ⟨o, ho⟩ : ∃ o, str [UInt8.ofNat (tag + 2)] = o := ⟨_, rfl⟩
  have hc1 : ∀ (W : World) (g : Nat), W.heap[g]? = some (.cells #[.int .u8 ((tag + 2 : Nat) : Int)] 5 (0, 0)) → (convert 35 9 (.slice (some ⟨g, 0, none⟩) 1 1)).run Tryz.prog W = .ok (.string o) W := fun W g h => by rw [convB _ (by omega) h, bstr_one _ (by omega), ho]
  rw [ho] at hcat h1s
  obtain ⟨tj, htj⟩ : ∃ x, tag + 2 = x := ⟨_, rfl⟩
  rw [htj] at hc1
  have hw1 : ((tag : Int) + 2) = (tj : Int) := by omega
  have hw2 : IntKind.u8.wrap ((tag : Int) + 2) = (tj : Int) := by rw [IntKind.wrap_u8]; omega
  have hw3 : ((tag : Int) + 2) % 256 = (tj : Int) := by omega
  have hw4 : IntKind.u8.wrap (tj : Int) = (tj : Int) := by rw [IntKind.wrap_u8]; omega
  have hw5 : (tj : Int) % 256 = (tj : Int) := by omega
  have HCAT := Lib.hid hcat
  have HC1 := Lib.hid hc1
  obtain ⟨p0, hp0⟩ : ∃ x, str pr = x := ⟨_, rfl⟩
  rw [hp0] at HCAT hps
  have HPR := Lib.hid (And.intro hpr hp0)
  rw [show pn1 = pr from by rw [← hpn1]; exact hpr, hp0]
  have g2 : ¬ (9223372036854775807 < p0.size + o.size) := by omega
  have g3 : ¬ (9223372036854775807 < (p0 ++ o).size + z.size) := by rw [ByteArray.size_append]; omega
  have g4 : ¬ (9223372036854775807 < p0.size + o.size + z.size) := by omega
  have g5 : ¬ (9223372036854775807 < p0.size + 1 + z.size) := by omega
  have g6 : ¬ (9223372036854775807 < p0.size + 1) := by omega
  clear hnx hpl hz hze hsec hpz hcat hpr hc1 ho htj hp0
  go_cut [12] (fun s wx => s = .string (str pn2) ∧ Below w.heap.size w wx)
  case first =>
    have HBD := Lib.hid (Below.drew (Below.refl wr.heap.size wr))
    obtain ⟨wd, hwd⟩ : ∃ x, wr.drew = x := ⟨_, rfl⟩
    rw [hwd] at HBD
    refine wp_region_noPanic ?_
    refine wp_region_T 9 (S := fun w' : World => Below wr.heap.size wr w') (by kernel_rfl) (by decide) ?_
    rw [hwd]
    clear hwd
    refine wpAnyT_take2 0 (v := ?tvz21) (by kernel_rfl) rfl (by kernel_rfl) (fun _ _ _ h => h) (Or.inl ⟨by rfl, ?tyz21⟩) HBD.out ?trz21
    case tyz21 => (intro w' hSw; (try dsimp only at hSw); go_simp; try with_reducible rfl)
    try simp only [Act.put, List.setIfInBounds_toArray, List.set_cons_zero, List.set_cons_succ]
    refine wpAnyT_take2 1 (v := ?tvz22) (by kernel_rfl) rfl (by kernel_rfl) (fun _ _ _ h => h) (Or.inl ⟨by rfl, ?tyz22⟩) HBD.out ?trz22
    case tyz22 => (intro w' hSw; (try dsimp only at hSw); go_simp; try with_reducible rfl)
    try simp only [Act.put, List.setIfInBounds_toArray, List.set_cons_zero, List.set_cons_succ]
    refine wpAnyT_take2 2 (v := ?tvz23) (by kernel_rfl) rfl (by kernel_rfl) (fun _ _ _ h => h) (Or.inl ⟨by rfl, ?tyz23⟩) HBD.out ?trz23
    case tyz23 => (intro w' hSw; (try dsimp only at hSw); go_simp; try with_reducible rfl)
    try simp only [Act.put, List.setIfInBounds_toArray, List.set_cons_zero, List.set_cons_succ]
    refine wpAnyT_take2 6 (v := ?tvz24) (by kernel_rfl) rfl (by kernel_rfl) (fun _ _ _ h => h) (Or.inl ⟨by rfl, ?tyz24⟩) HBD.out ?trz24
    case tyz24 => (intro w' hSw; (try dsimp only at hSw); go_simp; try with_reducible rfl)
    try simp only [Act.put, List.setIfInBounds_toArray, List.set_cons_zero, List.set_cons_succ]
    refine wpAnyT_all [3, 7] (by kernel_rfl) (by decide) (fun i hi => ?_)
    simp only [List.mem_cons, List.not_mem_nil, or_false] at hi
    rcases hi with rfl | rfl
    · refine ⟨_, (by rfl), fun K' hK' => ?_⟩
      rw [if_pos (by rfl)]
      have HK := Lib.hid hK'
      clear hK'
      have hnew := heap_alloc_new2 wd (.cells #[.int .u8 (tj : Int)] 5) wd.heap.size _ rfl
      go_simp
      have HBz25 := Lib.hid (below_alloc HBD.out (.cells #[.int .u8 (tj : Int)] 5))
      refine HK.out _ _ ⟨HBz25.out, ?_⟩
      clear HK K'
      try simp only [Act.put, List.setIfInBounds_toArray, List.set_cons_zero, List.set_cons_succ]
      obtain ⟨wz25, hwz25⟩ : ∃ W0, wd.alloc (.cells #[.int .u8 (tj : Int)] 5) = W0 := ⟨_, rfl⟩
      obtain ⟨gb, hgb⟩ : ∃ x, wd.heap.size = x := ⟨_, rfl⟩
      rw [hwz25] at hnew HBz25 ⊢
      rw [hgb] at hnew ⊢
      have Hblkz25 := Lib.hid hnew
      clear hnew hwz25 hgb
      refine wpAnyT_all [4, 7] (by kernel_rfl) (by decide) (fun i hi => ?_)
      simp only [List.mem_cons, List.not_mem_nil, or_false] at hi
      rcases hi with rfl | rfl
      · refine ⟨_, (by rfl), fun K' hK' => ?_⟩
        rw [if_pos (by rfl)]
        have HK := Lib.hid hK'
        clear hK'
        have hcv := HC1.out _ _ Hblkz25.out
        go_simp
        refine HK.out _ _ ⟨HBz25.out, ?_⟩
        clear HK K'
        try simp only [Act.put, List.setIfInBounds_toArray, List.set_cons_zero, List.set_cons_succ]
        refine wpAnyT_take2 5 (v := ?tvz27) (by kernel_rfl) rfl (by kernel_rfl) (fun _ _ _ h => h) (Or.inl ⟨by rfl, ?tyz27⟩) HBz25.out ?trz27
        case tyz27 => (intro w' hSw; (try dsimp only at hSw); go_simp; try with_reducible rfl)
        try simp only [Act.put, List.setIfInBounds_toArray, List.set_cons_zero, List.set_cons_succ]
        refine wpAnyT_one2 7 rfl (by kernel_rfl) ?_
        intro K' hK'
        rw [if_pos (by rfl)]
        have HK := Lib.hid hK'
        clear hK'
        go_wp2_with (go_at_call 103; refine (CK.out _).mono ?_; rintro ez28 wz28 ⟨rfl, hb⟩)
        have HBz28 := Lib.hid (below_then HBz25.out hb)
        have Hblkz28 := Lib.hid (blk_later Hblkz25.out hb)
        clear hb
        refine HK.out _ _ ⟨HBz28.out, ?_⟩
        clear HK K'
        try simp only [Act.put, List.setIfInBounds_toArray, List.set_cons_zero, List.set_cons_succ]
        refine wpAnyT_take2 8 (v := ?tvz29) (by kernel_rfl) rfl (by kernel_rfl) (fun _ _ _ h => h) (Or.inl ⟨by rfl, ?tyz29⟩) HBz28.out ?trz29
        case tyz29 => (intro w' hSw; (try dsimp only at hSw); go_simp; try with_reducible rfl)
        try simp only [Act.put, List.setIfInBounds_toArray, List.set_cons_zero, List.set_cons_succ]
        refine ⟨by kernel_rfl, ?_⟩
        change wpList _ _ _ [_] _ _
        go_wp2
        refine NoPanic.normal ?_
        go_wp2
        go_meet
        case rel => exact ⟨by rw [HCAT.out], HB.out.trans (HBz28.out.mono HB.out.size)⟩
      · refine ⟨_, (by rfl), fun K' hK' => ?_⟩
        rw [if_pos (by rfl)]
        have HK := Lib.hid hK'
        clear hK'
        go_wp2_with (go_at_call 103; refine (CK.out _).mono ?_; rintro ez210 wz210 ⟨rfl, hb⟩)
        have HBz210 := Lib.hid (below_then HBz25.out hb)
        have Hblkz210 := Lib.hid (blk_later Hblkz25.out hb)
        clear hb
        refine HK.out _ _ ⟨HBz210.out, ?_⟩
        clear HK K'
        try simp only [Act.put, List.setIfInBounds_toArray, List.set_cons_zero, List.set_cons_succ]
        refine wpAnyT_one2 4 rfl (by kernel_rfl) ?_
        intro K' hK'
        rw [if_pos (by rfl)]
        have HK := Lib.hid hK'
        clear hK'
        have hcv := HC1.out _ _ Hblkz210.out
        go_simp
        refine HK.out _ _ ⟨HBz210.out, ?_⟩
        clear HK K'
        try simp only [Act.put, List.setIfInBounds_toArray, List.set_cons_zero, List.set_cons_succ]
        refine wpAnyT_take2 5 (v := ?tvz212) (by kernel_rfl) rfl (by kernel_rfl) (fun _ _ _ h => h) (Or.inl ⟨by rfl, ?tyz212⟩) HBz210.out ?trz212
        case tyz212 => (intro w' hSw; (try dsimp only at hSw); go_simp; try with_reducible rfl)
        try simp only [Act.put, List.setIfInBounds_toArray, List.set_cons_zero, List.set_cons_succ]
        refine wpAnyT_take2 8 (v := ?tvz213) (by kernel_rfl) rfl (by kernel_rfl) (fun _ _ _ h => h) (Or.inl ⟨by rfl, ?tyz213⟩) HBz210.out ?trz213
        case tyz213 => (intro w' hSw; (try dsimp only at hSw); go_simp; try with_reducible rfl)
        try simp only [Act.put, List.setIfInBounds_toArray, List.set_cons_zero, List.set_cons_succ]
        refine ⟨by kernel_rfl, ?_⟩
        change wpList _ _ _ [_] _ _
        go_wp2
        refine NoPanic.normal ?_
        go_wp2
        go_meet
        case rel => exact ⟨by rw [HCAT.out], HB.out.trans (HBz210.out.mono HB.out.size)⟩
    · refine ⟨_, (by rfl), fun K' hK' => ?_⟩
      rw [if_pos (by rfl)]
      have HK := Lib.hid hK'
      clear hK'
      go_wp2_with (go_at_call 103; refine (CK.out _).mono ?_; rintro ez214 wz214 ⟨rfl, hb⟩)
      have HBz214 := Lib.hid (below_then HBD.out hb)
      clear hb
      refine HK.out _ _ ⟨HBz214.out, ?_⟩
      clear HK K'
      try simp only [Act.put, List.setIfInBounds_toArray, List.set_cons_zero, List.set_cons_succ]
      refine wpAnyT_one2 3 rfl (by kernel_rfl) ?_
      intro K' hK'
      rw [if_pos (by rfl)]
      have HK := Lib.hid hK'
      clear hK'
      have hnew := heap_alloc_new2 wz214 (.cells #[.int .u8 (tj : Int)] 5) wz214.heap.size _ rfl
      go_simp
      have HBz215 := Lib.hid (below_alloc HBz214.out (.cells #[.int .u8 (tj : Int)] 5))
      refine HK.out _ _ ⟨HBz215.out, ?_⟩
      clear HK K'
      try simp only [Act.put, List.setIfInBounds_toArray, List.set_cons_zero, List.set_cons_succ]
      obtain ⟨wz215, hwz215⟩ : ∃ W0, wz214.alloc (.cells #[.int .u8 (tj : Int)] 5) = W0 := ⟨_, rfl⟩
      obtain ⟨gb, hgb⟩ : ∃ x, wz214.heap.size = x := ⟨_, rfl⟩
      rw [hwz215] at hnew HBz215 ⊢
      rw [hgb] at hnew ⊢
      have Hblkz215 := Lib.hid hnew
      clear hnew hwz215 hgb
      refine wpAnyT_one2 4 rfl (by kernel_rfl) ?_
      intro K' hK'
      rw [if_pos (by rfl)]
      have HK := Lib.hid hK'
      clear hK'
      have hcv := HC1.out _ _ Hblkz215.out
      go_simp
      refine HK.out _ _ ⟨HBz215.out, ?_⟩
      clear HK K'
      try simp only [Act.put, List.setIfInBounds_toArray, List.set_cons_zero, List.set_cons_succ]
      refine wpAnyT_take2 5 (v := ?tvz217) (by kernel_rfl) rfl (by kernel_rfl) (fun _ _ _ h => h) (Or.inl ⟨by rfl, ?tyz217⟩) HBz215.out ?trz217
      case tyz217 => (intro w' hSw; (try dsimp only at hSw); go_simp; try with_reducible rfl)
      try simp only [Act.put, List.setIfInBounds_toArray, List.set_cons_zero, List.set_cons_succ]
      refine wpAnyT_take2 8 (v := ?tvz218) (by kernel_rfl) rfl (by kernel_rfl) (fun _ _ _ h => h) (Or.inl ⟨by rfl, ?tyz218⟩) HBz215.out ?trz218
      case tyz218 => (intro w' hSw; (try dsimp only at hSw); go_simp; try with_reducible rfl)
      try simp only [Act.put, List.setIfInBounds_toArray, List.set_cons_zero, List.set_cons_succ]
      refine ⟨by kernel_rfl, ?_⟩
      change wpList _ _ _ [_] _ _
      go_wp2
      refine NoPanic.normal ?_
      go_wp2
      go_meet
      case rel => exact ⟨by rw [HCAT.out], HB.out.trans (HBz215.out.mono HB.out.size)⟩

  obtain ⟨rfl, hcb2⟩ := hcut
  obtain ⟨wk2, rfl⟩ : ∃ x, x = wc := ⟨_, rfl⟩
  clear g2 g3 g4 g5 g6 HCAT HC1 HPR CK hps h1s hzs HB
  have hp3 := hpn2
  rw [show (2 : Nat) + 1 = 3 from rfl] at hp3
  rw [hp3] at HSEAL
  have HB := Lib.hid hcb2
  clear hcb0 hcb1 hcb2 hpn0 hpn1 hpn2 hp3
  go_wp2_with fail
  refine Calls.mono (HSEAL.out _) ?_
  rintro e w2 ⟨rfl, hb2⟩
  go_wp2_with fail
  go_ret2
  exact ⟨rfl, HB.out.trans (hb2.mono HB.out.size)⟩
end Go.Proofs.YtmiacgkidldjmaaGreatDoor
namespace Go.Proofs.YtmiacgkidldjmaaGreatDoor
open Go.RowKit Go.Lib
open Plain (Rg May mayB In Norm In4 slotsOf insB bnd riB)
theorem insB_one (z : Int) : insB z 1 = (z == 0) := by
  unfold insB
  rw [Bool.eq_iff_iff, Bool.and_eq_true, decide_eq_true_iff, decide_eq_true_iff, beq_iff_eq]; omega
set_option maxRecDepth 100000 in
theorem rinside_any (n m : Int) (w : World) : Calls Tryz.prog 128 #[.int .i64 n, .int .i64 m] w fun e w' => e = .returned (.bool (insB n m)) ∧ w' = w := by
  unfold insB
  by_cases h : 0 ≤ n
  · have d0 : decide (n ≥ 0) = true := by simp [h]
    rw [decide_eq_true h]
    go_enter Tryz.func128, Tryz.ntmps128
    go_wp2_with fail
    go_ret
    exact ⟨by simp, rfl⟩
  · have d0 : decide (n ≥ 0) = false := by simp; omega
    rw [decide_eq_false h]
    go_enter Tryz.func128, Tryz.ntmps128
    go_wp2_with fail
    go_ret
    exact ⟨rfl, rfl⟩

set_option maxRecDepth 100000 in
theorem rslots_any (I C : Option Addr) (n c m d : Nat) (g : Int) (w : World) :
    Calls Tryz.prog 129 #[pgV I n c C m d g] w fun e w' => e = .returned (.int .i64 (slotsOf g)) ∧ Below w.heap.size w w' := by
  unfold pgV
  by_cases h : g < 1
  · have hs : slotsOf g = 2 := by
      have h2 : RowKit.wrap64 (RowKit.wrap64 (2 * 0) + 2) = 2 := by
        have := slotsOf_sm 0 (by decide) (by decide)
        unfold slotsOf at this
        rw [if_neg (by decide)] at this
        exact this
      unfold slotsOf
      by_cases h0 : g < 0
      · rw [if_pos h0]; exact h2
      · rw [if_neg h0, show g = 0 by omega]; exact h2
    have hd : decide (g < 1) = true := decide_eq_true h
    rw [hs]
    clear hs
    go_enter Tryz.func129, Tryz.ntmps129
    go_wp2
    go_ret
    exact ⟨rfl, (Below.refl _ _).alloc (Nat.le_refl _) _⟩
  · have hs : slotsOf g = RowKit.wrap64 (RowKit.wrap64 (2 * g) + 2) := if_neg (by omega)
    have hd : decide (g < 1) = false := decide_eq_false h
    rw [hs]
    clear hs
    go_enter Tryz.func129, Tryz.ntmps129
    go_wp2
    go_ret
    exact ⟨rfl, (Below.refl _ _).alloc (Nat.le_refl _) _⟩
def rriBX (n : Nat) (op x : Int) : Bool := if op = 0 then x == 0 else insB x n
set_option maxRecDepth 100000 in
set_option maxHeartbeats 4000000 in
theorem rri_any (I C : Option Addr) (n c m d : Nat) (g : Int) (t : In4) (w : World) :
    Calls Tryz.prog 100 #[i4V t, pgV I n c C m d g] w fun e w' => e = .returned (.bool (riB n m g t)) ∧ Below w.heap.size w w' := by
  obtain ⟨op, x, y, a⟩ := t
  unfold i4V
  dsimp only
  have CI := Lib.hid (fun (p q : Int) (W : World) => rinside_any p q W)
  have CS := Lib.hid (fun W => rslots_any I C n c m d g W)
  by_cases h0 : 0 ≤ op
  case neg =>
    have hr : riB n m g (op, x, y, a) = false := by unfold riB; dsimp only; rw [decide_eq_false h0]; simp
    have hd : decide (op < 0) = true := decide_eq_true (by omega)
    rw [hr]
    unfold pgV
    clear hr
    go_enter Tryz.func100, Tryz.ntmps100
    go_wp2_with fail
    go_ret
    exact ⟨rfl, ((Below.refl _ _).alloc (Nat.le_refl _) _).alloc (by simp) _⟩
  by_cases h5 : op ≤ 5
  case neg =>
    have hr : riB n m g (op, x, y, a) = false := by unfold riB; dsimp only; rw [decide_eq_false h5]; simp
    have hd : decide (op < 0) = false := decide_eq_false (by omega)
    have hd5 : decide (op > 5) = true := decide_eq_true (by omega)
    rw [hr]
    unfold pgV
    clear hr
    go_enter Tryz.func100, Tryz.ntmps100
    go_wp2_with fail
    go_ret
    exact ⟨rfl, ((Below.refl _ _).alloc (Nat.le_refl _) _).alloc (by simp) _⟩
  have hr : riB n m g (op, x, y, a) = (insB x (bnd n m g op).1 && insB y (bnd n m g op).2.1 && insB a (bnd n m g op).2.2) := by
    unfold riB; dsimp only; rw [decide_eq_true h0, decide_eq_true h5]; simp
  rw [hr]
  clear hr
  obtain ⟨b1, e1⟩ : ∃ b, insB x n = b := ⟨_, rfl⟩
  obtain ⟨b2, e2⟩ : ∃ b, insB y n = b := ⟨_, rfl⟩
  obtain ⟨b3, e3⟩ : ∃ b, insB a m = b := ⟨_, rfl⟩
  obtain ⟨b4, e4⟩ : ∃ b, insB a 4 = b := ⟨_, rfl⟩
  obtain ⟨sl, e5⟩ : ∃ s, slotsOf g = s := ⟨_, rfl⟩
  obtain ⟨b6, e6⟩ : ∃ b, insB a sl = b := ⟨_, rfl⟩
  obtain ⟨z1, f1⟩ : ∃ b, (x == 0) = b := ⟨_, rfl⟩
  obtain ⟨z2, f2⟩ : ∃ b, (y == 0) = b := ⟨_, rfl⟩
  obtain ⟨z3, f3⟩ : ∃ b, (a == 0) = b := ⟨_, rfl⟩
  have C1 := Lib.hid (fun W => by have := CI.out x n W; rw [e1] at this; exact this)
  have C2 := Lib.hid (fun W => by have := CI.out y n W; rw [e2] at this; exact this)
  have C3 := Lib.hid (fun W => by have := CI.out a m W; rw [e3] at this; exact this)
  have C4 := Lib.hid (fun W => by have := CI.out a 4 W; rw [e4] at this; exact this)
  have C6 := Lib.hid (fun W => by have := CI.out a sl W; rw [e6] at this; exact this)
  rw [e5] at CS
  unfold pgV at CS ⊢
  have hop : op = 0 ∨ op = 1 ∨ op = 2 ∨ op = 3 ∨ op = 4 ∨ op = 5 := by omega
  clear h0 h5 CI
  rcases hop with rfl | rfl | rfl | rfl | rfl | rfl
  · rw [show bnd n m g 0 = (1, 1, 1) from rfl]; dsimp only; rw [insB_one, insB_one, insB_one, f1, f2, f3]
    clear e1 e2 e3 e4 e5 e6
    go_enter Tryz.func100, Tryz.ntmps100
    go_wp2_with fail
    refine Calls.mono (C1.out _) ?_
    rintro _ w1 ⟨rfl, hw⟩
    subst hw
    cases z1 <;> cases z2 <;> cases z3
    all_goals
      go_wp2_with fail
      go_ret
      exact ⟨rfl, ((Below.refl _ _).alloc (Nat.le_refl _) _).alloc (by simp) _⟩
  · rw [show bnd n m g 1 = ((n : Int), 1, (m : Int)) from rfl]; dsimp only; rw [insB_one, e1, e3, f2]
    clear e1 e2 e3 e4 e5 e6
    go_enter Tryz.func100, Tryz.ntmps100
    go_wp2_with fail
    refine Calls.mono (C1.out _) ?_
    rintro _ w1 ⟨rfl, hw⟩
    subst hw
    go_wp2_with fail
    refine Calls.mono (C3.out _) ?_
    rintro _ w1 ⟨rfl, hw⟩
    subst hw
    cases b1 <;> cases z2 <;> cases b3
    all_goals
      go_wp2_with fail
      go_ret
      exact ⟨rfl, ((Below.refl _ _).alloc (Nat.le_refl _) _).alloc (by simp) _⟩
  · rw [show bnd n m g 2 = ((n : Int), (n : Int), 1) from rfl]; dsimp only; rw [insB_one, e1, e2, f3]
    clear e1 e2 e3 e4 e5 e6
    go_enter Tryz.func100, Tryz.ntmps100
    go_wp2_with fail
    refine Calls.mono (C1.out _) ?_
    rintro _ w1 ⟨rfl, hw⟩
    subst hw
    go_wp2_with fail
    refine Calls.mono (C2.out _) ?_
    rintro _ w1 ⟨rfl, hw⟩
    subst hw
    cases b1 <;> cases b2 <;> cases z3
    all_goals
      go_wp2_with fail
      go_ret
      exact ⟨rfl, ((Below.refl _ _).alloc (Nat.le_refl _) _).alloc (by simp) _⟩
  · rw [show bnd n m g 3 = ((n : Int), 1, 1) from rfl]; dsimp only; rw [insB_one, insB_one, e1, f2, f3]
    clear e1 e2 e3 e4 e5 e6
    go_enter Tryz.func100, Tryz.ntmps100
    go_wp2_with fail
    refine Calls.mono (C1.out _) ?_
    rintro _ w1 ⟨rfl, hw⟩
    subst hw
    cases b1 <;> cases z2 <;> cases z3
    all_goals
      go_wp2_with fail
      go_ret
      exact ⟨rfl, ((Below.refl _ _).alloc (Nat.le_refl _) _).alloc (by simp) _⟩
  · rw [show bnd n m g 4 = ((n : Int), 1, slotsOf g) from rfl]; dsimp only; rw [e5, insB_one, e1, f2, e6]
    clear e1 e2 e3 e4 e5 e6
    go_enter Tryz.func100, Tryz.ntmps100
    go_wp2_with fail
    refine Calls.mono (C1.out _) ?_
    rintro _ w1 ⟨rfl, hw⟩
    subst hw
    go_upto_region 14 with fail
    have C6B := Lib.hid (fun W => Calls.mono (C6.out W) (fun e w' h => (⟨h.1, by rw [h.2]; exact Below.refl _ _⟩ : e = .returned (.bool b6) ∧ Below W.heap.size W w')))
    have hx := blk_alloc (heap_alloc_new2 w (.cells #[.int .i64 4, .int .i64 x, .int .i64 y, .int .i64 a] 118) w.heap.size _ rfl) (.cells #[.slice I n c, .slice C m d, .int .i64 g] 68)
    have hy := heap_alloc_new2 (w.alloc (.cells #[.int .i64 4, .int .i64 x, .int .i64 y, .int .i64 a] 118)) (.cells #[.slice I n c, .slice C m d, .int .i64 g] 68) (w.heap.size + 1) _ (by simp)
    have hb := below_alloc (below_alloc (Below.refl w.heap.size w) (.cells #[.int .i64 4, .int .i64 x, .int .i64 y, .int .i64 a] 118)) (.cells #[.slice I n c, .slice C m d, .int .i64 g] 68)
    obtain ⟨w2, hw2⟩ : ∃ z, (w.alloc (.cells #[.int .i64 4, .int .i64 x, .int .i64 y, .int .i64 a] 118)).alloc (.cells #[.slice I n c, .slice C m d, .int .i64 g] 68) = z := ⟨_, rfl⟩
    rw [hw2] at hx hy hb ⊢
    have HB2 := Lib.hid hb
    have hbd : Below w2.heap.size w2 w2.drew := (Below.refl w2.heap.size w2).drew
    obtain ⟨wd, hwd⟩ : ∃ z, w2.drew = z := ⟨_, rfl⟩
    rw [hwd] at hbd
    have HBD := Lib.hid hbd
    have HF := Lib.hid (fun (w' : World) (h : Below w2.heap.size w2 w') => (⟨(cells_of (blk_later hx h)).at_ 0 _ rfl, (cells_of (blk_later hx h)).at_ 1 _ rfl, (cells_of (blk_later hx h)).at_ 2 _ rfl, (cells_of (blk_later hx h)).at_ 3 _ rfl, (cells_of (blk_later hy h)).at_ 0 _ rfl, (cells_of (blk_later hy h)).at_ 1 _ rfl, (cells_of (blk_later hy h)).at_ 2 _ rfl⟩ : _ ∧ _ ∧ _ ∧ _ ∧ _ ∧ _ ∧ _))
    clear hx hy hb hbd hw2
    refine wp_region_noPanic ?_
    refine wp_region_T 5 (S := fun w' : World => Below w2.heap.size w2 w') (by kernel_rfl) (by decide) ?_
    rw [hwd]
    clear hwd
    refine wpAnyT_take2 0 (v := ?tvq1) (by kernel_rfl) rfl (by kernel_rfl) (fun _ _ _ h => h) (Or.inl ⟨by rfl, ?tyq1⟩) HBD.out ?trq1
    case tyq1 => (intro w' hSw; (try dsimp only at hSw); go_simp; try with_reducible rfl)
    try simp only [Act.put, List.setIfInBounds_toArray, List.set_cons_zero, List.set_cons_succ]
    refine wpAnyT_take2 1 (v := ?tvq2) (by kernel_rfl) rfl (by kernel_rfl) (fun _ _ _ h => h) (Or.inl ⟨by rfl, ?tyq2⟩) HBD.out ?trq2
    case tyq2 => (intro w' hSw; obtain ⟨p0, p1, p2, p3, k0, k1, k2⟩ := HF.out w' hSw; (try dsimp only at hSw); go_simp; try with_reducible rfl)
    try simp only [Act.put, List.setIfInBounds_toArray, List.set_cons_zero, List.set_cons_succ]
    refine wpAnyT_take2 2 (v := ?tvq3) (by kernel_rfl) rfl (by kernel_rfl) (fun _ _ _ h => h) (Or.inl ⟨by rfl, ?tyq3⟩) HBD.out ?trq3
    case tyq3 => (intro w' hSw; obtain ⟨p0, p1, p2, p3, k0, k1, k2⟩ := HF.out w' hSw; (try dsimp only at hSw); go_simp; try with_reducible rfl)
    try simp only [Act.put, List.setIfInBounds_toArray, List.set_cons_zero, List.set_cons_succ]
    refine wpAnyT_one2 3 rfl (by kernel_rfl) ?_
    intro K' hK'
    rw [if_pos (by rfl)]
    have HK := Lib.hid hK'
    clear hK'
    go_wp2_with (go_at_call 129; refine (CS.out _).mono ?_; rintro eq4 wq4 ⟨rfl, hb⟩)
    have HBq4 := Lib.hid (below_then HBD.out hb)
    clear hb
    refine HK.out _ _ ⟨HBq4.out, ?_⟩
    clear HK K'
    try simp only [Act.put, List.setIfInBounds_toArray, List.set_cons_zero, List.set_cons_succ]
    refine wpAnyT_one2 4 rfl (by kernel_rfl) ?_
    intro K' hK'
    rw [if_pos (by rfl)]
    have HK := Lib.hid hK'
    clear hK'
    go_wp2_with (go_at_call 128; refine (C6B.out _).mono ?_; rintro eq5 wq5 ⟨rfl, hb⟩)
    have HBq5 := Lib.hid (below_then HBq4.out hb)
    clear hb
    refine HK.out _ _ ⟨HBq5.out, ?_⟩
    clear HK K'
    try simp only [Act.put, List.setIfInBounds_toArray, List.set_cons_zero, List.set_cons_succ]
    refine ⟨by kernel_rfl, ?_⟩
    change wpList _ _ _ [_] _ _
    go_wp2
    refine NoPanic.normal ?_
    cases b1 <;> cases z2 <;> cases b6
    all_goals
      go_wp2
      go_ret
      exact ⟨rfl, HB2.out.trans (HBq5.out.mono HB2.out.size)⟩
  · rw [show bnd n m g 5 = ((n : Int), 1, 4) from rfl]; dsimp only; rw [insB_one, e1, f2, e4]
    clear e1 e2 e3 e4 e5 e6
    go_enter Tryz.func100, Tryz.ntmps100
    go_wp2_with fail
    refine Calls.mono (C1.out _) ?_
    rintro _ w1 ⟨rfl, hw⟩
    subst hw
    go_wp2_with fail
    refine Calls.mono (C4.out _) ?_
    rintro _ w1 ⟨rfl, hw⟩
    subst hw
    cases b1 <;> cases z2 <;> cases b4
    all_goals
      go_wp2_with fail
      go_ret
      exact ⟨rfl, ((Below.refl _ _).alloc (Nat.le_refl _) _).alloc (by simp) _⟩
end Go.Proofs.YtmiacgkidldjmaaGreatDoor
