/- The document's own decoder: its walk says what the library's says. Conditions: the text is not empty, at most 2^42 bytes. -/
import Derived.Test.YtjkialgdaikijaaDoorWalksE
import Derived.WalkKit
import Derived.WalkLawsBesides
import Derived.WalkSpells
import Derived.Laws.BytesArg
import Derived.Deep.QuietTactic
import Derived.BigQuiet
import Derived.Deep.RegionHeld3
namespace Go.Proofs.YtjkialgdaikijaaDoor
open Go.RowKit Go.Lib
theorem rright_any (r : Int) (w : World) : Calls Tryd.prog 21 #[.int .i32 r] w fun e w' => e = .returned (.bool (Plain.rightB r)) ∧ w = w' := by
  by_cases h1 : 0 ≤ r <;> by_cases h2 : r ≤ 1114111 <;> by_cases h3 : r < 55296 <;> by_cases h4 : 57343 < r <;> first | (exfalso; omega) | skip
  all_goals
    go_enter Tryd.func21, Tryd.ntmps21
    go_wp2
    go_ret
    refine ⟨?_, rfl⟩
    unfold Plain.rightB
    congr 1
    all_goals first | (simp; done) | (simp; omega)
theorem ret_bool {a b : Bool} (h : a = b) : Ending.returned (.bool a) = .returned (.bool b) := by rw [h]
theorem rword_any (r : Int) (w : World) : Calls Tryd.prog 25 #[.int .i32 r] w fun e w' => e = .returned (.bool (Plain.wordB r)) ∧ w = w' := by
  by_cases h1 : 48 ≤ r <;> by_cases h2 : r ≤ 57 <;> by_cases h3 : 65 ≤ r <;> by_cases h4 : r ≤ 90 <;> by_cases h5 : 97 ≤ r <;> by_cases h6 : r ≤ 122 <;> by_cases h7 : r = 95 <;> first | (exfalso; omega) | skip
  all_goals
    go_enter Tryd.func25, Tryd.ntmps25
    go_wp2
    go_ret
    refine ⟨ret_bool ?_, rfl⟩
    unfold Plain.wordB
    first | (simp; done) | (simp; omega) | (rw [Bool.eq_iff_iff]; simp; omega)
theorem conv_rune (w : World) (r : Int) (xs : List Int) (n : Nat) (hn : xs.length = n) (h : encodeRuneZ r = xs) :
    (convert 22 9 (.slice (some ⟨w.heap.size, 0, none⟩) n n)).run Tryd.prog (w.alloc (.cells (xs.map (Value.int .u8)).toArray 5)) = .ok (.string (Utf8.encode r)) (w.alloc (.cells (xs.map (Value.int .u8)).toArray 5)) := by
  rw [run_convert_bytes_arg (P := Tryd.prog) _ 22 5 Tryd.underlying22 Tryd.underlying5 w.heap.size 0 n n xs hn (fun i hi => by
    rw [cell_of_row _ _ _ _ _ _ (heap_alloc_new _ _)]
    simp [List.getD, hn ▸ hi]) 9 Tryd.underlying9]
  have e : strOfNums xs = Utf8.encode r := ba_eq (by rw [strOfNums_data, encode_list]; unfold encodeRune; rw [h])
  rw [e]
set_option maxRecDepth 100000 in
theorem rput_any (r : Int) (w : World) (h0 : -2147483648 ≤ r) (h9 : r ≤ 2147483647) : Calls Tryd.prog 23 #[.int .i32 r] w fun e w' => e = .returned (.string (Utf8.encode r)) ∧ Below w.heap.size w w' := by
  cases hb : Plain.rightB r
  · have hbad : encodeRuneZ r = [239, 191, 189] := encodeRuneZ_bad (by unfold Plain.rightB at hb; rw [decide_eq_false_iff_not] at hb; omega)
    have hcv := fun W : World => conv_rune W r [239, 191, 189] 3 rfl hbad
    simp only [List.map_cons, List.map_nil] at hcv
    have hR := fun W : World => rright_any r W
    rw [hb] at hR
    have HR := Lib.hid hR
    clear hR hb hbad
    go_enter Tryd.func23, Tryd.ntmps23
    go_wp2_with (go_at_call 21; refine (HR.out _).mono ?_; rintro e w' ⟨rfl, rfl⟩)
    go_ret
    exact ⟨rfl, (Below.refl _ _).alloc (Nat.le_refl _) _⟩
  · have hR := fun W : World => rright_any r W
    rw [hb] at hR
    have HR := Lib.hid hR
    unfold Plain.rightB at hb
    rw [decide_eq_true_eq] at hb
    obtain ⟨k0, k1, k2⟩ := hb
    clear hR
    rcases (by omega : r ≤ 127 ∨ (128 ≤ r ∧ r ≤ 2047) ∨ (2048 ≤ r ∧ r ≤ 65535) ∨ 65536 ≤ r) with h | ⟨h, h'⟩ | ⟨h, h'⟩ | h
    · have hcv := fun W : World => conv_rune W r [r] 1 rfl (encodeRuneZ_one k0 h)
      simp only [List.map_cons, List.map_nil] at hcv
      go_enter Tryd.func23, Tryd.ntmps23
      go_wp2_with (go_at_call 21; refine (HR.out _).mono ?_; rintro e w' ⟨rfl, rfl⟩)
      go_ret
      exact ⟨rfl, (Below.refl _ _).alloc (Nat.le_refl _) _⟩
    · have hcv := fun W : World => conv_rune W r _ 2 rfl (encodeRuneZ_two h h')
      simp only [List.map_cons, List.map_nil] at hcv
      go_enter Tryd.func23, Tryd.ntmps23
      go_wp2_with (go_at_call 21; refine (HR.out _).mono ?_; rintro e w' ⟨rfl, rfl⟩)
      go_ret
      exact ⟨rfl, (Below.refl _ _).alloc (Nat.le_refl _) _⟩
    · have hcv := fun W : World => conv_rune W r _ 3 rfl (encodeRuneZ_three (by omega))
      simp only [List.map_cons, List.map_nil] at hcv
      go_enter Tryd.func23, Tryd.ntmps23
      go_wp2_with (go_at_call 21; refine (HR.out _).mono ?_; rintro e w' ⟨rfl, rfl⟩)
      go_ret
      exact ⟨rfl, (Below.refl _ _).alloc (Nat.le_refl _) _⟩
    · have hcv := fun W : World => conv_rune W r _ 4 rfl (encodeRuneZ_four h k1)
      simp only [List.map_cons, List.map_nil] at hcv
      go_enter Tryd.func23, Tryd.ntmps23
      go_wp2_with (go_at_call 21; refine (HR.out _).mono ?_; rintro e w' ⟨rfl, rfl⟩)
      go_ret
      exact ⟨rfl, (Below.refl _ _).alloc (Nat.le_refl _) _⟩
theorem rlow_lt (b : Nat) (h : b < 256) : Plain.rlow b < 256 := by unfold Plain.rlow; split <;> (try split) <;> (try split) <;> omega
theorem rnum_lt (l : List UInt8) (k : Nat) (hk : k ≤ 3) : Plain.rnum l k < 67108864 ∧ (k ≤ 2 → Plain.rnum l k < 1048576) := by
  have h0 : Plain.rnum l 0 < 256 := rlow_lt _ (UInt8.toNat_lt _)
  have h1 : Plain.rnum l 1 = Plain.rnum l 0 * 64 + (l.getD 1 0).toNat % 64 := rfl
  have h2 : Plain.rnum l 2 = Plain.rnum l 1 * 64 + (l.getD 2 0).toNat % 64 := rfl
  have h3 : Plain.rnum l 3 = Plain.rnum l 2 * 64 + (l.getD 3 0).toNat % 64 := rfl
  match k, hk with
  | 0, _ => omega
  | 1, _ => omega
  | 2, _ => omega
  | 3, _ => omega

set_option maxRecDepth 100000 in
set_option maxHeartbeats 1000000 in
theorem rfirst_4 (s : ByteArray) (w : World) (h0 : 0 < s.size) (hs : s.size ≤ 4398046511104) (hb : 240 ≤ (s.data.toList.getD 0 0).toNat) :
    Calls Tryd.prog 27 #[.string s] w fun e w' => e = .returned (.tuple #[.int .i32 (Plain.rfirst s.data.toList).1, .int .i64 (Plain.rfirst s.data.toList).2]) ∧ Below w.heap.size w w' := by
  have hrs : Plain.rsize (s.data.toList.getD 0 0).toNat = 4 := by unfold Plain.rsize; rw [if_pos (by omega)]
  have hg : ∀ i (hi : i < s.size), s[i] = s.data.toList.getD i 0 := fun i hi => by simp [List.getD, hi]; rfl
  have hb0 : s[0] = s.data.toList.getD 0 0 := hg 0 h0
  have hlow : Plain.rnum s.data.toList 0 = (s.data.toList.getD 0 0).toNat % 8 := by show Plain.rlow _ = _; unfold Plain.rlow; rw [if_pos (by omega)]
  have hlt := UInt8.toNat_lt (s.data.toList.getD 0 0)
  have hlen : s.data.toList.length = s.size := by simp
  have hfl := rnum_lt s.data.toList
  have hstep : ∀ j, Plain.rnum s.data.toList (j + 1) = Plain.rnum s.data.toList j * 64 + (s.data.toList.getD (j + 1) 0).toNat % 64 := fun _ => rfl
  have hfin : Plain.rfirst s.data.toList = if s.size < 4 then (65533, 1) else if 1114111 < Plain.rnum s.data.toList 3 ∨ Plain.rightB (Plain.rnum s.data.toList 3) = false ∨ encodeRune (Plain.rnum s.data.toList 3 : Int) ≠ s.data.toList.take 4 then (65533, 1) else (Plain.rnum s.data.toList 3, 4) := by
    unfold Plain.rfirst; rw [hrs, hlen]
  have HF := Lib.hid hfin
  have HST := Lib.hid hstep
  have HLT := Lib.hid hfl
  have HG := Lib.hid hg
  have HLOW := Lib.hid hlow
  generalize hcc : s.data.toList.getD 0 0 = c0 at *
  have HCC := Lib.hid hcc
  clear hfin hstep hfl hg hlow hlen hrs hcc
  by_cases hsz : s.size < 4
  · have hfv : Plain.rfirst s.data.toList = (65533, 1) := by rw [HF.out, if_pos hsz]
    have HFV := Lib.hid hfv
    clear hfv
    go_enter Tryd.func27, Tryd.ntmps27
    go_wp2
    go_ret2
    exact ⟨by rw [HFV.out]; rfl, Below.refl _ _⟩
  · have hsz' : 4 ≤ s.size := by omega
    go_enter Tryd.func27, Tryd.ntmps27
    go_wp2_with fail
    go_loop [6, 7] (fun n i => ∃ k : Nat, k + 1 ≤ 4 ∧ i = .int .i64 ((k : Int) + 1) ∧ n = .int .u32 (Plain.rnum s.data.toList k)) (fun _ i => 4 - (RowKit.intOf i).toNat)
    case atStart => exact ⟨0, by omega, rfl, by rw [HLOW.out]; exact congrArg (Value.int .u32) (by omega)⟩
    case round =>
      obtain ⟨k, hk, rfl, rfl⟩ := hrel
      by_cases hlt2 : k + 1 < 4
      · have hb1 := (HLT.out k (by omega)).2 (by omega)
        have hst := HST.out k
        have hgk := HG.out (k + 1) (by omega)
        have hc1 := UInt8.toNat_lt (s.data.toList.getD (k + 1) 0)
        generalize s.data.toList.getD (k + 1) 0 = c at *
        generalize hnn : Plain.rnum s.data.toList k = N at *
        have HSTK := Lib.hid hst
        clear hst hnn
        go_wp2
        go_round
        case rel => exact ⟨k + 1, by omega, by go_num, by rw [HSTK.out]; exact congrArg (Value.int .u32) (by omega)⟩
        case measure => simp [RowKit.intOf]; omega
      · obtain rfl : k = 3 := by omega
        have hb1 := (HLT.out 3 (by omega)).1
        have hx : (s.extract 0 4).data.toList = s.data.toList.take 4 := by rw [extract_data]; simp
        have hF2 := HF.out
        rw [if_neg hsz] at hF2
        generalize Plain.rnum s.data.toList 3 = N at *
        by_cases hmax : 1114111 < N
        · rw [if_pos (.inl hmax)] at hF2
          have hmd : decide ((1114111 : Int) < (N : Int)) = true := by simp; omega
          have hmd2 : decide (1114111 < N) = true := by simpa using hmax
          have HF2 := Lib.hid hF2
          clear hF2 hx
          go_wp2_with fail
          go_quiet (fail)
          go_wp2
          go_ret2
          exact ⟨by rw [HF2.out]; rfl, below_drewN (Below.refl _ _) _⟩
        · have hmd : decide ((1114111 : Int) < (N : Int)) = false := by simp; omega
          have hmd2 : decide (1114111 < N) = false := by simpa using hmax
          cases hr : Plain.rightB (N : Int)
          · rw [if_pos (.inr (.inl hr))] at hF2
            have hRR := fun W : World => (rright_any (N : Int) W).mono fun e w' (h : e = .returned (.bool (Plain.rightB (N : Int))) ∧ W = w') => (⟨h.1, h.2.symm⟩ : e = .returned (.bool (Plain.rightB (N : Int))) ∧ w' = W)
            rw [hr] at hRR
            have HRR := Lib.hid hRR
            have HF2 := Lib.hid hF2
            clear hF2 hx hRR hr
            go_wp2_with fail
            go_quiet ((go_at_call 21; exact Calls.quiet_of_same (HRR.out _)))
            go_wp2
            go_ret2
            exact ⟨by rw [HF2.out]; rfl, below_drewN (Below.refl _ _) _⟩
          · have hRR := fun W : World => rright_any (N : Int) W
            rw [hr] at hRR
            have HRR := Lib.hid hRR
            have hPP := fun W : World => rput_any (N : Int) W (by omega) (by omega)
            have HPP := Lib.hid hPP
            by_cases he : encodeRune (N : Int) = s.data.toList.take 4
            · have hee : Utf8.encode (N : Int) = s.extract 0 4 := ba_eq (by rw [encode_list, hx, he])
              rw [if_neg (by rintro (h | h | h); exact hmax h; rw [hr] at h; cases h; exact h he)] at hF2
              have HF2 := Lib.hid hF2
              have HEE := Lib.hid hee
              have hw : IntKind.i32.wrap (N : Int) = (N : Int) := by rw [IntKind.wrap_i32]; omega
              clear hF2 hx hRR hr hPP he
              go_wp2_with fail
              go_region_held3 (fun _ => True) (exact trivial) (first | (go_at_call 21; (with_reducible refine (HRR.out _).mono ?_); rintro e w' ⟨rfl, rfl⟩) | (go_at_call 23; (with_reducible refine (HPP.out _).mono ?_); rintro e w' ⟨rfl, hb1⟩))
              have hee := HEE.out
              go_wp2
              go_ret2
              exact ⟨by rw [HF2.out]; rfl, ((Below.refl _ _).drew).trans hb1⟩
            · have hee : ((Utf8.encode (N : Int)).toList == (s.extract 0 4).toList) = false := by
                rw [beq_eq_false_iff_ne]
                intro h
                rw [Lib.toList_data, Lib.toList_data, encode_list, hx] at h
                exact he h
              rw [if_pos (.inr (.inr he))] at hF2
              have HF2 := Lib.hid hF2
              have HEE := Lib.hid hee
              have hw : IntKind.i32.wrap (N : Int) = (N : Int) := by rw [IntKind.wrap_i32]; omega
              clear hF2 hx hRR hr hPP he hee
              go_wp2_with fail
              go_region_held3 (fun _ => True) (exact trivial) (first | (go_at_call 21; (with_reducible refine (HRR.out _).mono ?_); rintro e w' ⟨rfl, rfl⟩) | (go_at_call 23; (with_reducible refine (HPP.out _).mono ?_); rintro e w' ⟨rfl, hb1⟩))
              have hee := HEE.out
              go_wp2
              · go_ret2
                exact ⟨by rw [HF2.out]; rfl, ((Below.refl _ _).drew).trans hb1⟩
              · rename_i h
                rw [hee] at h
                cases h

set_option maxRecDepth 100000 in
set_option maxHeartbeats 1000000 in
theorem rfirst_3 (s : ByteArray) (w : World) (h0 : 0 < s.size) (hs : s.size ≤ 4398046511104) (hb : 224 ≤ (s.data.toList.getD 0 0).toNat) (hb' : (s.data.toList.getD 0 0).toNat < 240) :
    Calls Tryd.prog 27 #[.string s] w fun e w' => e = .returned (.tuple #[.int .i32 (Plain.rfirst s.data.toList).1, .int .i64 (Plain.rfirst s.data.toList).2]) ∧ Below w.heap.size w w' := by
  have hrs : Plain.rsize (s.data.toList.getD 0 0).toNat = 3 := by unfold Plain.rsize; rw [if_neg (by omega), if_pos (by omega)]
  have hg : ∀ i (hi : i < s.size), s[i] = s.data.toList.getD i 0 := fun i hi => by simp [List.getD, hi]; rfl
  have hb0 : s[0] = s.data.toList.getD 0 0 := hg 0 h0
  have hlow : Plain.rnum s.data.toList 0 = (s.data.toList.getD 0 0).toNat % 16 := by show Plain.rlow _ = _; unfold Plain.rlow; rw [if_neg (by omega), if_pos (by omega)]
  have hlt := UInt8.toNat_lt (s.data.toList.getD 0 0)
  have hlen : s.data.toList.length = s.size := by simp
  have hfl := rnum_lt s.data.toList
  have hstep : ∀ j, Plain.rnum s.data.toList (j + 1) = Plain.rnum s.data.toList j * 64 + (s.data.toList.getD (j + 1) 0).toNat % 64 := fun _ => rfl
  have hfin : Plain.rfirst s.data.toList = if s.size < 3 then (65533, 1) else if 1114111 < Plain.rnum s.data.toList 2 ∨ Plain.rightB (Plain.rnum s.data.toList 2) = false ∨ encodeRune (Plain.rnum s.data.toList 2 : Int) ≠ s.data.toList.take 3 then (65533, 1) else (Plain.rnum s.data.toList 2, 3) := by
    unfold Plain.rfirst; rw [hrs, hlen]
  have HF := Lib.hid hfin
  have HST := Lib.hid hstep
  have HLT := Lib.hid hfl
  have HG := Lib.hid hg
  have HLOW := Lib.hid hlow
  generalize hcc : s.data.toList.getD 0 0 = c0 at *
  have HCC := Lib.hid hcc
  clear hfin hstep hfl hg hlow hlen hrs hcc
  by_cases hsz : s.size < 3
  · have hfv : Plain.rfirst s.data.toList = (65533, 1) := by rw [HF.out, if_pos hsz]
    have HFV := Lib.hid hfv
    clear hfv
    go_enter Tryd.func27, Tryd.ntmps27
    go_wp2
    go_ret2
    exact ⟨by rw [HFV.out]; rfl, Below.refl _ _⟩
  · have hsz' : 3 ≤ s.size := by omega
    go_enter Tryd.func27, Tryd.ntmps27
    go_wp2_with fail
    go_loop [6, 7] (fun n i => ∃ k : Nat, k + 1 ≤ 3 ∧ i = .int .i64 ((k : Int) + 1) ∧ n = .int .u32 (Plain.rnum s.data.toList k)) (fun _ i => 3 - (RowKit.intOf i).toNat)
    case atStart => exact ⟨0, by omega, rfl, by rw [HLOW.out]; exact congrArg (Value.int .u32) (by omega)⟩
    case round =>
      obtain ⟨k, hk, rfl, rfl⟩ := hrel
      by_cases hlt2 : k + 1 < 3
      · have hb1 := (HLT.out k (by omega)).2 (by omega)
        have hst := HST.out k
        have hgk := HG.out (k + 1) (by omega)
        have hc1 := UInt8.toNat_lt (s.data.toList.getD (k + 1) 0)
        generalize s.data.toList.getD (k + 1) 0 = c at *
        generalize hnn : Plain.rnum s.data.toList k = N at *
        have HSTK := Lib.hid hst
        clear hst hnn
        go_wp2
        go_round
        case rel => exact ⟨k + 1, by omega, by go_num, by rw [HSTK.out]; exact congrArg (Value.int .u32) (by omega)⟩
        case measure => simp [RowKit.intOf]; omega
      · obtain rfl : k = 2 := by omega
        have hb1 := (HLT.out 2 (by omega)).1
        have hx : (s.extract 0 3).data.toList = s.data.toList.take 3 := by rw [extract_data]; simp
        have hF2 := HF.out
        rw [if_neg hsz] at hF2
        generalize Plain.rnum s.data.toList 2 = N at *
        by_cases hmax : 1114111 < N
        · rw [if_pos (.inl hmax)] at hF2
          have hmd : decide ((1114111 : Int) < (N : Int)) = true := by simp; omega
          have hmd2 : decide (1114111 < N) = true := by simpa using hmax
          have HF2 := Lib.hid hF2
          clear hF2 hx
          go_wp2_with fail
          go_quiet (fail)
          go_wp2
          go_ret2
          exact ⟨by rw [HF2.out]; rfl, below_drewN (Below.refl _ _) _⟩
        · have hmd : decide ((1114111 : Int) < (N : Int)) = false := by simp; omega
          have hmd2 : decide (1114111 < N) = false := by simpa using hmax
          cases hr : Plain.rightB (N : Int)
          · rw [if_pos (.inr (.inl hr))] at hF2
            have hRR := fun W : World => (rright_any (N : Int) W).mono fun e w' (h : e = .returned (.bool (Plain.rightB (N : Int))) ∧ W = w') => (⟨h.1, h.2.symm⟩ : e = .returned (.bool (Plain.rightB (N : Int))) ∧ w' = W)
            rw [hr] at hRR
            have HRR := Lib.hid hRR
            have HF2 := Lib.hid hF2
            clear hF2 hx hRR hr
            go_wp2_with fail
            go_quiet ((go_at_call 21; exact Calls.quiet_of_same (HRR.out _)))
            go_wp2
            go_ret2
            exact ⟨by rw [HF2.out]; rfl, below_drewN (Below.refl _ _) _⟩
          · have hRR := fun W : World => rright_any (N : Int) W
            rw [hr] at hRR
            have HRR := Lib.hid hRR
            have hPP := fun W : World => rput_any (N : Int) W (by omega) (by omega)
            have HPP := Lib.hid hPP
            by_cases he : encodeRune (N : Int) = s.data.toList.take 3
            · have hee : Utf8.encode (N : Int) = s.extract 0 3 := ba_eq (by rw [encode_list, hx, he])
              rw [if_neg (by rintro (h | h | h); exact hmax h; rw [hr] at h; cases h; exact h he)] at hF2
              have HF2 := Lib.hid hF2
              have HEE := Lib.hid hee
              have hw : IntKind.i32.wrap (N : Int) = (N : Int) := by rw [IntKind.wrap_i32]; omega
              clear hF2 hx hRR hr hPP he
              go_wp2_with fail
              go_region_held3 (fun _ => True) (exact trivial) (first | (go_at_call 21; (with_reducible refine (HRR.out _).mono ?_); rintro e w' ⟨rfl, rfl⟩) | (go_at_call 23; (with_reducible refine (HPP.out _).mono ?_); rintro e w' ⟨rfl, hb1⟩))
              have hee := HEE.out
              go_wp2
              go_ret2
              exact ⟨by rw [HF2.out]; rfl, ((Below.refl _ _).drew).trans hb1⟩
            · have hee : ((Utf8.encode (N : Int)).toList == (s.extract 0 3).toList) = false := by
                rw [beq_eq_false_iff_ne]
                intro h
                rw [Lib.toList_data, Lib.toList_data, encode_list, hx] at h
                exact he h
              rw [if_pos (.inr (.inr he))] at hF2
              have HF2 := Lib.hid hF2
              have HEE := Lib.hid hee
              have hw : IntKind.i32.wrap (N : Int) = (N : Int) := by rw [IntKind.wrap_i32]; omega
              clear hF2 hx hRR hr hPP he hee
              go_wp2_with fail
              go_region_held3 (fun _ => True) (exact trivial) (first | (go_at_call 21; (with_reducible refine (HRR.out _).mono ?_); rintro e w' ⟨rfl, rfl⟩) | (go_at_call 23; (with_reducible refine (HPP.out _).mono ?_); rintro e w' ⟨rfl, hb1⟩))
              have hee := HEE.out
              go_wp2
              · go_ret2
                exact ⟨by rw [HF2.out]; rfl, ((Below.refl _ _).drew).trans hb1⟩
              · rename_i h
                rw [hee] at h
                cases h

set_option maxRecDepth 100000 in
set_option maxHeartbeats 1000000 in
theorem rfirst_2 (s : ByteArray) (w : World) (h0 : 0 < s.size) (hs : s.size ≤ 4398046511104) (hb : 192 ≤ (s.data.toList.getD 0 0).toNat) (hb' : (s.data.toList.getD 0 0).toNat < 224) :
    Calls Tryd.prog 27 #[.string s] w fun e w' => e = .returned (.tuple #[.int .i32 (Plain.rfirst s.data.toList).1, .int .i64 (Plain.rfirst s.data.toList).2]) ∧ Below w.heap.size w w' := by
  have hrs : Plain.rsize (s.data.toList.getD 0 0).toNat = 2 := by unfold Plain.rsize; rw [if_neg (by omega), if_neg (by omega), if_pos (by omega)]
  have hg : ∀ i (hi : i < s.size), s[i] = s.data.toList.getD i 0 := fun i hi => by simp [List.getD, hi]; rfl
  have hb0 : s[0] = s.data.toList.getD 0 0 := hg 0 h0
  have hlow : Plain.rnum s.data.toList 0 = (s.data.toList.getD 0 0).toNat % 32 := by show Plain.rlow _ = _; unfold Plain.rlow; rw [if_neg (by omega), if_neg (by omega), if_pos (by omega)]
  have hlt := UInt8.toNat_lt (s.data.toList.getD 0 0)
  have hlen : s.data.toList.length = s.size := by simp
  have hfl := rnum_lt s.data.toList
  have hstep : ∀ j, Plain.rnum s.data.toList (j + 1) = Plain.rnum s.data.toList j * 64 + (s.data.toList.getD (j + 1) 0).toNat % 64 := fun _ => rfl
  have hfin : Plain.rfirst s.data.toList = if s.size < 2 then (65533, 1) else if 1114111 < Plain.rnum s.data.toList 1 ∨ Plain.rightB (Plain.rnum s.data.toList 1) = false ∨ encodeRune (Plain.rnum s.data.toList 1 : Int) ≠ s.data.toList.take 2 then (65533, 1) else (Plain.rnum s.data.toList 1, 2) := by
    unfold Plain.rfirst; rw [hrs, hlen]
  have HF := Lib.hid hfin
  have HST := Lib.hid hstep
  have HLT := Lib.hid hfl
  have HG := Lib.hid hg
  have HLOW := Lib.hid hlow
  generalize hcc : s.data.toList.getD 0 0 = c0 at *
  have HCC := Lib.hid hcc
  clear hfin hstep hfl hg hlow hlen hrs hcc
  by_cases hsz : s.size < 2
  · have hfv : Plain.rfirst s.data.toList = (65533, 1) := by rw [HF.out, if_pos hsz]
    have HFV := Lib.hid hfv
    clear hfv
    go_enter Tryd.func27, Tryd.ntmps27
    go_wp2
    go_ret2
    exact ⟨by rw [HFV.out]; rfl, Below.refl _ _⟩
  · have hsz' : 2 ≤ s.size := by omega
    go_enter Tryd.func27, Tryd.ntmps27
    go_wp2_with fail
    go_loop [6, 7] (fun n i => ∃ k : Nat, k + 1 ≤ 2 ∧ i = .int .i64 ((k : Int) + 1) ∧ n = .int .u32 (Plain.rnum s.data.toList k)) (fun _ i => 2 - (RowKit.intOf i).toNat)
    case atStart => exact ⟨0, by omega, rfl, by rw [HLOW.out]; exact congrArg (Value.int .u32) (by omega)⟩
    case round =>
      obtain ⟨k, hk, rfl, rfl⟩ := hrel
      by_cases hlt2 : k + 1 < 2
      · have hb1 := (HLT.out k (by omega)).2 (by omega)
        have hst := HST.out k
        have hgk := HG.out (k + 1) (by omega)
        have hc1 := UInt8.toNat_lt (s.data.toList.getD (k + 1) 0)
        generalize s.data.toList.getD (k + 1) 0 = c at *
        generalize hnn : Plain.rnum s.data.toList k = N at *
        have HSTK := Lib.hid hst
        clear hst hnn
        go_wp2
        go_round
        case rel => exact ⟨k + 1, by omega, by go_num, by rw [HSTK.out]; exact congrArg (Value.int .u32) (by omega)⟩
        case measure => simp [RowKit.intOf]; omega
      · obtain rfl : k = 1 := by omega
        have hb1 := (HLT.out 1 (by omega)).1
        have hx : (s.extract 0 2).data.toList = s.data.toList.take 2 := by rw [extract_data]; simp
        have hF2 := HF.out
        rw [if_neg hsz] at hF2
        generalize Plain.rnum s.data.toList 1 = N at *
        by_cases hmax : 1114111 < N
        · rw [if_pos (.inl hmax)] at hF2
          have hmd : decide ((1114111 : Int) < (N : Int)) = true := by simp; omega
          have hmd2 : decide (1114111 < N) = true := by simpa using hmax
          have HF2 := Lib.hid hF2
          clear hF2 hx
          go_wp2_with fail
          go_quiet (fail)
          go_wp2
          go_ret2
          exact ⟨by rw [HF2.out]; rfl, below_drewN (Below.refl _ _) _⟩
        · have hmd : decide ((1114111 : Int) < (N : Int)) = false := by simp; omega
          have hmd2 : decide (1114111 < N) = false := by simpa using hmax
          cases hr : Plain.rightB (N : Int)
          · rw [if_pos (.inr (.inl hr))] at hF2
            have hRR := fun W : World => (rright_any (N : Int) W).mono fun e w' (h : e = .returned (.bool (Plain.rightB (N : Int))) ∧ W = w') => (⟨h.1, h.2.symm⟩ : e = .returned (.bool (Plain.rightB (N : Int))) ∧ w' = W)
            rw [hr] at hRR
            have HRR := Lib.hid hRR
            have HF2 := Lib.hid hF2
            clear hF2 hx hRR hr
            go_wp2_with fail
            go_quiet ((go_at_call 21; exact Calls.quiet_of_same (HRR.out _)))
            go_wp2
            go_ret2
            exact ⟨by rw [HF2.out]; rfl, below_drewN (Below.refl _ _) _⟩
          · have hRR := fun W : World => rright_any (N : Int) W
            rw [hr] at hRR
            have HRR := Lib.hid hRR
            have hPP := fun W : World => rput_any (N : Int) W (by omega) (by omega)
            have HPP := Lib.hid hPP
            by_cases he : encodeRune (N : Int) = s.data.toList.take 2
            · have hee : Utf8.encode (N : Int) = s.extract 0 2 := ba_eq (by rw [encode_list, hx, he])
              rw [if_neg (by rintro (h | h | h); exact hmax h; rw [hr] at h; cases h; exact h he)] at hF2
              have HF2 := Lib.hid hF2
              have HEE := Lib.hid hee
              have hw : IntKind.i32.wrap (N : Int) = (N : Int) := by rw [IntKind.wrap_i32]; omega
              clear hF2 hx hRR hr hPP he
              go_wp2_with fail
              go_region_held3 (fun _ => True) (exact trivial) (first | (go_at_call 21; (with_reducible refine (HRR.out _).mono ?_); rintro e w' ⟨rfl, rfl⟩) | (go_at_call 23; (with_reducible refine (HPP.out _).mono ?_); rintro e w' ⟨rfl, hb1⟩))
              have hee := HEE.out
              go_wp2
              go_ret2
              exact ⟨by rw [HF2.out]; rfl, ((Below.refl _ _).drew).trans hb1⟩
            · have hee : ((Utf8.encode (N : Int)).toList == (s.extract 0 2).toList) = false := by
                rw [beq_eq_false_iff_ne]
                intro h
                rw [Lib.toList_data, Lib.toList_data, encode_list, hx] at h
                exact he h
              rw [if_pos (.inr (.inr he))] at hF2
              have HF2 := Lib.hid hF2
              have HEE := Lib.hid hee
              have hw : IntKind.i32.wrap (N : Int) = (N : Int) := by rw [IntKind.wrap_i32]; omega
              clear hF2 hx hRR hr hPP he hee
              go_wp2_with fail
              go_region_held3 (fun _ => True) (exact trivial) (first | (go_at_call 21; (with_reducible refine (HRR.out _).mono ?_); rintro e w' ⟨rfl, rfl⟩) | (go_at_call 23; (with_reducible refine (HPP.out _).mono ?_); rintro e w' ⟨rfl, hb1⟩))
              have hee := HEE.out
              go_wp2
              · go_ret2
                exact ⟨by rw [HF2.out]; rfl, ((Below.refl _ _).drew).trans hb1⟩
              · rename_i h
                rw [hee] at h
                cases h

set_option maxRecDepth 100000 in
set_option maxHeartbeats 1000000 in
theorem rfirst_1 (s : ByteArray) (w : World) (h0 : 0 < s.size) (hs : s.size ≤ 4398046511104) (hb' : (s.data.toList.getD 0 0).toNat < 192) :
    Calls Tryd.prog 27 #[.string s] w fun e w' => e = .returned (.tuple #[.int .i32 (Plain.rfirst s.data.toList).1, .int .i64 (Plain.rfirst s.data.toList).2]) ∧ Below w.heap.size w w' := by
  have hrs : Plain.rsize (s.data.toList.getD 0 0).toNat = 1 := by unfold Plain.rsize; rw [if_neg (by omega), if_neg (by omega), if_neg (by omega)]
  have hg : ∀ i (hi : i < s.size), s[i] = s.data.toList.getD i 0 := fun i hi => by simp [List.getD, hi]; rfl
  have hb0 : s[0] = s.data.toList.getD 0 0 := hg 0 h0
  have hlow : Plain.rnum s.data.toList 0 = (s.data.toList.getD 0 0).toNat := by show Plain.rlow _ = _; unfold Plain.rlow; rw [if_neg (by omega), if_neg (by omega), if_neg (by omega)]
  have hlt := UInt8.toNat_lt (s.data.toList.getD 0 0)
  have hlen : s.data.toList.length = s.size := by simp
  have hfl := rnum_lt s.data.toList
  have hstep : ∀ j, Plain.rnum s.data.toList (j + 1) = Plain.rnum s.data.toList j * 64 + (s.data.toList.getD (j + 1) 0).toNat % 64 := fun _ => rfl
  have hfin : Plain.rfirst s.data.toList = if s.size < 1 then (65533, 1) else if 1114111 < Plain.rnum s.data.toList 0 ∨ Plain.rightB (Plain.rnum s.data.toList 0) = false ∨ encodeRune (Plain.rnum s.data.toList 0 : Int) ≠ s.data.toList.take 1 then (65533, 1) else (Plain.rnum s.data.toList 0, 1) := by
    unfold Plain.rfirst; rw [hrs, hlen]
  have HF := Lib.hid hfin
  have HST := Lib.hid hstep
  have HLT := Lib.hid hfl
  have HG := Lib.hid hg
  have HLOW := Lib.hid hlow
  generalize hcc : s.data.toList.getD 0 0 = c0 at *
  have HCC := Lib.hid hcc
  clear hfin hstep hfl hg hlow hlen hrs hcc
  have hsz : ¬ s.size < 1 := by omega
  · have hsz' : 1 ≤ s.size := by omega
    go_enter Tryd.func27, Tryd.ntmps27
    go_wp2_with fail
    go_loop [6, 7] (fun n i => ∃ k : Nat, k + 1 ≤ 1 ∧ i = .int .i64 ((k : Int) + 1) ∧ n = .int .u32 (Plain.rnum s.data.toList k)) (fun _ i => 1 - (RowKit.intOf i).toNat)
    case atStart => exact ⟨0, by omega, rfl, by rw [HLOW.out]⟩
    case round =>
      obtain ⟨k, hk, rfl, rfl⟩ := hrel
      have htriv : k + 1 = 1 := by omega
      · obtain rfl : k = 0 := by omega
        have hb1 := (HLT.out 0 (by omega)).1
        have hx : (s.extract 0 1).data.toList = s.data.toList.take 1 := by rw [extract_data]; simp
        have hF2 := HF.out
        rw [if_neg hsz] at hF2
        generalize Plain.rnum s.data.toList 0 = N at *
        by_cases hmax : 1114111 < N
        · rw [if_pos (.inl hmax)] at hF2
          have hmd : decide ((1114111 : Int) < (N : Int)) = true := by simp; omega
          have hmd2 : decide (1114111 < N) = true := by simpa using hmax
          have HF2 := Lib.hid hF2
          clear hF2 hx
          go_wp2_with fail
          go_quiet (fail)
          go_wp2
          go_ret2
          exact ⟨by rw [HF2.out]; rfl, below_drewN (Below.refl _ _) _⟩
        · have hmd : decide ((1114111 : Int) < (N : Int)) = false := by simp; omega
          have hmd2 : decide (1114111 < N) = false := by simpa using hmax
          cases hr : Plain.rightB (N : Int)
          · rw [if_pos (.inr (.inl hr))] at hF2
            have hRR := fun W : World => (rright_any (N : Int) W).mono fun e w' (h : e = .returned (.bool (Plain.rightB (N : Int))) ∧ W = w') => (⟨h.1, h.2.symm⟩ : e = .returned (.bool (Plain.rightB (N : Int))) ∧ w' = W)
            rw [hr] at hRR
            have HRR := Lib.hid hRR
            have HF2 := Lib.hid hF2
            clear hF2 hx hRR hr
            go_wp2_with fail
            go_quiet ((go_at_call 21; exact Calls.quiet_of_same (HRR.out _)))
            go_wp2
            go_ret2
            exact ⟨by rw [HF2.out]; rfl, below_drewN (Below.refl _ _) _⟩
          · have hRR := fun W : World => rright_any (N : Int) W
            rw [hr] at hRR
            have HRR := Lib.hid hRR
            have hPP := fun W : World => rput_any (N : Int) W (by omega) (by omega)
            have HPP := Lib.hid hPP
            by_cases he : encodeRune (N : Int) = s.data.toList.take 1
            · have hee : Utf8.encode (N : Int) = s.extract 0 1 := ba_eq (by rw [encode_list, hx, he])
              rw [if_neg (by rintro (h | h | h); exact hmax h; rw [hr] at h; cases h; exact h he)] at hF2
              have HF2 := Lib.hid hF2
              have HEE := Lib.hid hee
              have hw : IntKind.i32.wrap (N : Int) = (N : Int) := by rw [IntKind.wrap_i32]; omega
              clear hF2 hx hRR hr hPP he
              go_wp2_with fail
              go_region_held3 (fun _ => True) (exact trivial) (first | (go_at_call 21; (with_reducible refine (HRR.out _).mono ?_); rintro e w' ⟨rfl, rfl⟩) | (go_at_call 23; (with_reducible refine (HPP.out _).mono ?_); rintro e w' ⟨rfl, hb1⟩))
              have hee := HEE.out
              go_wp2
              go_ret2
              exact ⟨by rw [HF2.out]; rfl, ((Below.refl _ _).drew).trans hb1⟩
            · have hee : ((Utf8.encode (N : Int)).toList == (s.extract 0 1).toList) = false := by
                rw [beq_eq_false_iff_ne]
                intro h
                rw [Lib.toList_data, Lib.toList_data, encode_list, hx] at h
                exact he h
              rw [if_pos (.inr (.inr he))] at hF2
              have HF2 := Lib.hid hF2
              have HEE := Lib.hid hee
              have hw : IntKind.i32.wrap (N : Int) = (N : Int) := by rw [IntKind.wrap_i32]; omega
              clear hF2 hx hRR hr hPP he hee
              go_wp2_with fail
              go_region_held3 (fun _ => True) (exact trivial) (first | (go_at_call 21; (with_reducible refine (HRR.out _).mono ?_); rintro e w' ⟨rfl, rfl⟩) | (go_at_call 23; (with_reducible refine (HPP.out _).mono ?_); rintro e w' ⟨rfl, hb1⟩))
              have hee := HEE.out
              go_wp2
              · go_ret2
                exact ⟨by rw [HF2.out]; rfl, ((Below.refl _ _).drew).trans hb1⟩
              · rename_i h
                rw [hee] at h
                cases h

theorem first_any (s : ByteArray) (w : World) (h0 : 0 < s.size) (hs : s.size ≤ 4398046511104) :
    Calls Tryd.prog 27 #[.string s] w fun e w' => e = .returned (.tuple #[.int .i32 (decodeL s.data.toList).1, .int .i64 (decodeL s.data.toList).2]) ∧ Below w.heap.size w w' := by
  have hne : s.data.toList ≠ [] := by intro h; have hl : s.data.toList.length = s.size := Array.length_toList; rw [h, List.length_nil] at hl; omega
  rw [← Plain.rfirst_eq _ hne]
  by_cases h4 : 240 ≤ (s.data.toList.getD 0 0).toNat
  · exact rfirst_4 s w h0 hs h4
  · by_cases h3 : 224 ≤ (s.data.toList.getD 0 0).toNat
    · exact rfirst_3 s w h0 hs h3 (by omega)
    · by_cases h2 : 192 ≤ (s.data.toList.getD 0 0).toNat
      · exact rfirst_2 s w h0 hs h2 (by omega)
      · exact rfirst_1 s w h0 hs (by omega)
end Go.Proofs.YtjkialgdaikijaaDoor
