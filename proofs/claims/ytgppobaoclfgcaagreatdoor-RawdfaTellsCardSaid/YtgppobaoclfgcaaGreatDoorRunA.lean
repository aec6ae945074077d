/- The document's decoder. Conditions: what each lemma says. -/
import Derived.Test.YtgppobaoclfgcaaGreatDoorRunP
import Derived.Test.YtgppobaoclfgcaaGreatDoorShelfN
import Derived.Test.YtgppobaoclfgcaaGreatDoorMacA
import Derived.WalkKit
import Derived.WalkLawsBesides
import Derived.WalkSpells
import Derived.Below
import Derived.Lib.Hide
import Derived.Lib.OthersKept
import Derived.WalkSmall
import Derived.Laws.OwnMore
import Derived.Deep.QuietTactic
import Derived.BigQuiet
import Derived.Laws.AppendOwn
import Derived.Lib.IndexBytes
import Derived.Laws.ResultCell
import Derived.Laws.BytesArg
import Derived.Deep.RegionHeld3
set_option linter.unusedVariables false
set_option linter.unusedSimpArgs false
namespace Go.Proofs.YtgppobaoclfgcaaGreatDoor
open Go.RowKit Go.Lib
end Go.Proofs.YtgppobaoclfgcaaGreatDoor
namespace Go.Proofs.YtgppobaoclfgcaaGreatDoor
open Go.RowKit Go.Lib
/-- a rune's cells -/
def rcells (x : Plain.Rn) : List Value := [.int .i32 x.1, .int .i64 x.2.1, .int .i64 x.2.2]
theorem cells_new (w : World) (l : List Value) (t : TypeId) : ∀ j u, l[j]? = some u → (w.alloc (.cells l.toArray t)).cell? ((⟨w.heap.size, 0, none⟩ : Addr).add j) = some u := by
  intro j u h
  have e : (⟨w.heap.size, 0, none⟩ : Addr).add j = ⟨w.heap.size, j, none⟩ := by unfold Addr.add; split <;> simp_all
  rw [e, cell_of_row _ _ _ _ _ _ (heap_alloc_new _ _)]
  simpa using h
end Go.Proofs.YtgppobaoclfgcaaGreatDoor
namespace Go.Proofs.YtgppobaoclfgcaaGreatDoor
open Go.RowKit Go.Lib
end Go.Proofs.YtgppobaoclfgcaaGreatDoor
namespace Go.Proofs.YtgppobaoclfgcaaGreatDoor
open Go.RowKit Go.Lib
end Go.Proofs.YtgppobaoclfgcaaGreatDoor
namespace Go.Proofs.YtgppobaoclfgcaaGreatDoor
open Go.RowKit Go.Lib
end Go.Proofs.YtgppobaoclfgcaaGreatDoor
namespace Go.Proofs.YtgppobaoclfgcaaGreatDoor
open Go.RowKit Go.Lib
theorem CellsAt.of_own {w : World} {base : Nat} {e : TypeId} {size n : Nat} {v : Value} {xs : List Value} (h : w.ownsRow base e size v n xs) (hn : 0 < n) :
    ∃ g cap, v = .slice (some ⟨g, 0, none⟩) n cap ∧ n ≤ cap ∧ base ≤ g ∧ CellsAt w g xs := by
  obtain ⟨hl, hv | ⟨g, cap, cur, rfl, hg, hh, hnc, hcm, hsz, htk⟩⟩ := h
  · omega
  · refine ⟨g, cap, rfl, hnc, hg, ?_, fun j u hu => ?_⟩
    · rcases Nat.lt_or_ge g w.heap.size with h' | h'
      · exact h'
      · rw [Array.getElem?_eq_none h'] at hh; cases hh
    · rw [cell_of_row _ _ _ _ _ _ hh]
      rw [← htk, List.getElem?_take] at hu
      split at hu
      · simpa using hu
      · cases hu
end Go.Proofs.YtgppobaoclfgcaaGreatDoor
namespace Go.Proofs.YtgppobaoclfgcaaGreatDoor
open Go.RowKit Go.Lib
theorem encode_list (r : Int) : (Utf8.encode r).data.toList = encodeRune r := by
  by_cases hv : (0 ≤ r ∧ r < 55296) ∨ (57344 ≤ r ∧ r ≤ 1114111)
  · have hvalid : Utf8.valid r = true := by unfold Utf8.valid; simp; omega
    obtain ⟨n, rfl⟩ : ∃ n : Nat, r = n := ⟨r.toNat, by omega⟩
    unfold Utf8.encode encodeRune
    simp only [hvalid, if_true, Int.toNat_natCast]
    rcases (by omega : n ≤ 127 ∨ (128 ≤ n ∧ n ≤ 2047) ∨ (2048 ≤ n ∧ n ≤ 65535) ∨ 65536 ≤ n) with h | ⟨h, h'⟩ | ⟨h, h'⟩ | h
    · rw [if_pos (by omega), encodeRuneZ_one (by omega) (by omega)]
      simp
    · rw [if_neg (by omega), if_pos (by omega), encodeRuneZ_two (by omega) (by omega)]
      simp only [List.map_cons, List.map_nil]
      rw [show (192 + (n : Int) / 64).toNat = 192 + n / 64 from by omega, show (128 + (n : Int) % 64).toNat = 128 + n % 64 from by omega]
    · rw [if_neg (by omega), if_neg (by omega), if_pos (by omega), encodeRuneZ_three (by omega)]
      simp only [List.map_cons, List.map_nil]
      rw [show (224 + (n : Int) / 4096).toNat = 224 + n / 4096 from by omega, show (128 + (n : Int) / 64 % 64).toNat = 128 + n / 64 % 64 from by omega, show (128 + (n : Int) % 64).toNat = 128 + n % 64 from by omega]
    · rw [if_neg (by omega), if_neg (by omega), if_neg (by omega), encodeRuneZ_four (by omega) (by omega)]
      simp only [List.map_cons, List.map_nil]
      rw [show (240 + (n : Int) / 262144).toNat = 240 + n / 262144 from by omega, show (128 + (n : Int) / 4096 % 64).toNat = 128 + n / 4096 % 64 from by omega, show (128 + (n : Int) / 64 % 64).toNat = 128 + n / 64 % 64 from by omega, show (128 + (n : Int) % 64).toNat = 128 + n % 64 from by omega]
  · have hvalid : Utf8.valid r = false := by rw [← Bool.not_eq_true]; unfold Utf8.valid; simp; omega
    unfold Utf8.encode encodeRune
    rw [encodeRuneZ_bad (by omega)]
    simp only [hvalid, Bool.false_eq_true, if_false]
    decide +kernel
theorem ba_eq {a b : ByteArray} (h : a.data.toList = b.data.toList) : a = b := by
  cases a; cases b; congr 1; exact Array.toList_inj.1 h
end Go.Proofs.YtgppobaoclfgcaaGreatDoor
namespace Go.Proofs.YtgppobaoclfgcaaGreatDoor
open Go.RowKit Go.Lib
theorem own_formr {w : World} {base : Nat} {e : TypeId} {size n : Nat} {v : Value} {xs : List Value} (h : w.ownsRow base e size v n xs) :
    ∃ a c, v = .slice a n c ∧ (0 < n → ∃ g, a = some ⟨g, 0, none⟩ ∧ base ≤ g ∧ n ≤ c ∧ CellsAt w g xs) := by
  rcases Nat.eq_zero_or_pos n with h0 | h0
  · subst h0
    rcases h.2 with ⟨rfl, _⟩ | ⟨g, c, _, rfl, _⟩
    · exact ⟨_, _, rfl, fun h => absurd h (by omega)⟩
    · exact ⟨_, _, rfl, fun h => absurd h (by omega)⟩
  · obtain ⟨g, c, rfl, h1, h2, h3⟩ := CellsAt.of_own h h0
    exact ⟨_, _, rfl, fun _ => ⟨g, rfl, h2, h1, h3⟩⟩
end Go.Proofs.YtgppobaoclfgcaaGreatDoor
namespace Go.Proofs.YtgppobaoclfgcaaGreatDoor
open Go.RowKit Go.Lib
theorem runeR_any (r : Int) (w : World) : Calls Tryz.prog 109 #[.int .i32 r] w fun e w' => e = .returned (.bool (Plain.runeB r)) ∧ w = w' := by
  by_cases h1 : 0 ≤ r <;> by_cases h2 : r ≤ 1114111 <;> by_cases h3 : r < 55296 <;> by_cases h4 : 57343 < r <;> first | (exfalso; omega) | skip
  all_goals
    go_enter Tryz.func109, Tryz.ntmps109
    go_wp2
    go_ret
    refine ⟨?_, rfl⟩
    unfold Plain.runeB
    congr 1
    all_goals first | (simp; done) | (simp; omega)
theorem conv_rune (w : World) (r : Int) (xs : List Int) (n : Nat) (hn : xs.length = n) (h : encodeRuneZ r = xs) :
    (convert 28 9 (.slice (some ⟨w.heap.size, 0, none⟩) n n)).run Tryz.prog (w.alloc (.cells (xs.map (Value.int .u8)).toArray 5)) = .ok (.string (Utf8.encode r)) (w.alloc (.cells (xs.map (Value.int .u8)).toArray 5)) := by
  rw [run_convert_bytes_arg (P := Tryz.prog) _ 28 5 Tryz.underlying28 Tryz.underlying5 w.heap.size 0 n n xs hn (fun i hi => by
    rw [cell_of_row _ _ _ _ _ _ (heap_alloc_new _ _)]
    simp [List.getD, hn ▸ hi]) 9 Tryz.underlying9]
  have e : strOfNums xs = Utf8.encode r := ba_eq (by rw [strOfNums_data, encode_list]; unfold encodeRune; rw [h])
  rw [e]
set_option maxRecDepth 100000 in
theorem rput_any (r : Int) (w : World) (h0 : -2147483648 ≤ r) (h9 : r ≤ 2147483647) : Calls Tryz.prog 110 #[.int .i32 r] w fun e w' => e = .returned (.string (Utf8.encode r)) ∧ Below w.heap.size w w' := by
  cases hb : Plain.runeB r
  · have hbad : encodeRuneZ r = [239, 191, 189] := encodeRuneZ_bad (by unfold Plain.runeB at hb; rw [decide_eq_false_iff_not] at hb; omega)
    have hcv := fun W : World => conv_rune W r [239, 191, 189] 3 rfl hbad
    simp only [List.map_cons, List.map_nil] at hcv
    have hR := fun W : World => runeR_any r W
    rw [hb] at hR
    have HR := Lib.hid hR
    clear hR hb hbad
    go_enter Tryz.func110, Tryz.ntmps110
    go_wp2_with (go_at_call 109; refine (HR.out _).mono ?_; rintro e w' ⟨rfl, rfl⟩)
    go_ret
    exact ⟨rfl, (Below.refl _ _).alloc (Nat.le_refl _) _⟩
  · have hR := fun W : World => runeR_any r W
    rw [hb] at hR
    have HR := Lib.hid hR
    unfold Plain.runeB at hb
    rw [decide_eq_true_eq] at hb
    obtain ⟨k0, k1, k2⟩ := hb
    clear hR
    rcases (by omega : r ≤ 127 ∨ (128 ≤ r ∧ r ≤ 2047) ∨ (2048 ≤ r ∧ r ≤ 65535) ∨ 65536 ≤ r) with h | ⟨h, h'⟩ | ⟨h, h'⟩ | h
    · have hcv := fun W : World => conv_rune W r [r] 1 rfl (encodeRuneZ_one k0 h)
      simp only [List.map_cons, List.map_nil] at hcv
      go_enter Tryz.func110, Tryz.ntmps110
      go_wp2_with (go_at_call 109; refine (HR.out _).mono ?_; rintro e w' ⟨rfl, rfl⟩)
      go_ret
      exact ⟨rfl, (Below.refl _ _).alloc (Nat.le_refl _) _⟩
    · have hcv := fun W : World => conv_rune W r _ 2 rfl (encodeRuneZ_two h h')
      simp only [List.map_cons, List.map_nil] at hcv
      go_enter Tryz.func110, Tryz.ntmps110
      go_wp2_with (go_at_call 109; refine (HR.out _).mono ?_; rintro e w' ⟨rfl, rfl⟩)
      go_ret
      exact ⟨rfl, (Below.refl _ _).alloc (Nat.le_refl _) _⟩
    · have hcv := fun W : World => conv_rune W r _ 3 rfl (encodeRuneZ_three (by omega))
      simp only [List.map_cons, List.map_nil] at hcv
      go_enter Tryz.func110, Tryz.ntmps110
      go_wp2_with (go_at_call 109; refine (HR.out _).mono ?_; rintro e w' ⟨rfl, rfl⟩)
      go_ret
      exact ⟨rfl, (Below.refl _ _).alloc (Nat.le_refl _) _⟩
    · have hcv := fun W : World => conv_rune W r _ 4 rfl (encodeRuneZ_four h k1)
      simp only [List.map_cons, List.map_nil] at hcv
      go_enter Tryz.func110, Tryz.ntmps110
      go_wp2_with (go_at_call 109; refine (HR.out _).mono ?_; rintro e w' ⟨rfl, rfl⟩)
      go_ret
      exact ⟨rfl, (Below.refl _ _).alloc (Nat.le_refl _) _⟩
theorem rlow_lt (b : Nat) (h : b < 256) : Plain.rlow b < 256 := by unfold Plain.rlow; split <;> (try split) <;> (try split) <;> omega
theorem rnum_lt (l : List UInt8) (k : Nat) (hk : k ≤ 3) : Plain.rnum l k < 67108864 ∧ (k ≤ 2 → Plain.rnum l k < 1048576) := by
  have h0 : Plain.rnum l 0 < 256 := rlow_lt _ (UInt8.toNat_lt _)
  have h1 : Plain.rnum l 1 = Plain.rnum l 0 * 64 + (l.getD 1 0).toNat % 64 := rfl
  have h2 : Plain.rnum l 2 = Plain.rnum l 1 * 64 + (l.getD 2 0).toNat % 64 := rfl
  have h3 : Plain.rnum l 3 = Plain.rnum l 2 * 64 + (l.getD 3 0).toNat % 64 := rfl
  match k, hk with
  | 0, _ => omega
  | 1, _ => omega
  | 2, _ => omega
  | 3, _ => omega

set_option maxRecDepth 100000 in
set_option maxHeartbeats 1000000 in
theorem rfirst_4 (s : ByteArray) (w : World) (h0 : 0 < s.size) (hs : s.size ≤ 4398046511104) (hb : 240 ≤ (s.data.toList.getD 0 0).toNat) :
    Calls Tryz.prog 78 #[.string s] w fun e w' => e = .returned (.tuple #[.int .i32 (Plain.rfirst s.data.toList).1, .int .i64 (Plain.rfirst s.data.toList).2]) ∧ Below w.heap.size w w' := by
  have hrs : Plain.rsize (s.data.toList.getD 0 0).toNat = 4 := by unfold Plain.rsize; rw [if_pos (by omega)]
  have hg : ∀ i (hi : i < s.size), s[i] = s.data.toList.getD i 0 := fun i hi => by simp [List.getD, hi]; rfl
  have hb0 : s[0] = s.data.toList.getD 0 0 := hg 0 h0
  have hlow : Plain.rnum s.data.toList 0 = (s.data.toList.getD 0 0).toNat % 8 := by show Plain.rlow _ = _; unfold Plain.rlow; rw [if_pos (by omega)]
  have hlt := UInt8.toNat_lt (s.data.toList.getD 0 0)
  have hlen : s.data.toList.length = s.size := by simp
  have hfl := rnum_lt s.data.toList
  have hstep : ∀ j, Plain.rnum s.data.toList (j + 1) = Plain.rnum s.data.toList j * 64 + (s.data.toList.getD (j + 1) 0).toNat % 64 := fun _ => rfl
  have hfin : Plain.rfirst s.data.toList = if s.size < 4 then (65533, 1) else if 1114111 < Plain.rnum s.data.toList 3 ∨ Plain.runeB (Plain.rnum s.data.toList 3) = false ∨ encodeRune (Plain.rnum s.data.toList 3 : Int) ≠ s.data.toList.take 4 then (65533, 1) else (Plain.rnum s.data.toList 3, 4) := by
    unfold Plain.rfirst; rw [hrs, hlen]
  have HF := Lib.hid hfin
  have HST := Lib.hid hstep
  have HLT := Lib.hid hfl
  have HG := Lib.hid hg
  have HLOW := Lib.hid hlow
  generalize hcc : s.data.toList.getD 0 0 = c0 at *
  have HCC := Lib.hid hcc
  clear hfin hstep hfl hg hlow hlen hrs hcc
  by_cases hsz : s.size < 4
  · have hfv : Plain.rfirst s.data.toList = (65533, 1) := by rw [HF.out, if_pos hsz]
    have HFV := Lib.hid hfv
    clear hfv
    go_enter Tryz.func78, Tryz.ntmps78
    go_wp2
    go_ret2
    exact ⟨by rw [HFV.out]; rfl, Below.refl _ _⟩
  · have hsz' : 4 ≤ s.size := by omega
    go_enter Tryz.func78, Tryz.ntmps78
    go_wp2_with fail
    go_loop [6, 7] (fun n i => ∃ k : Nat, k + 1 ≤ 4 ∧ i = .int .i64 ((k : Int) + 1) ∧ n = .int .u32 (Plain.rnum s.data.toList k)) (fun _ i => 4 - (RowKit.intOf i).toNat)
    case atStart => exact ⟨0, by omega, rfl, by rw [HLOW.out]; exact congrArg (Value.int .u32) (by omega)⟩
    case round =>
      obtain ⟨k, hk, rfl, rfl⟩ := hrel
      by_cases hlt2 : k + 1 < 4
      · have hb1 := (HLT.out k (by omega)).2 (by omega)
        have hst := HST.out k
        have hgk := HG.out (k + 1) (by omega)
        have hc1 := UInt8.toNat_lt (s.data.toList.getD (k + 1) 0)
        generalize s.data.toList.getD (k + 1) 0 = c at *
        generalize hnn : Plain.rnum s.data.toList k = N at *
        have HSTK := Lib.hid hst
        clear hst hnn
        go_wp2
        go_round
        case rel => exact ⟨k + 1, by omega, by go_num, by rw [HSTK.out]; exact congrArg (Value.int .u32) (by omega)⟩
        case measure => simp [RowKit.intOf]; omega
      · obtain rfl : k = 3 := by omega
        have hb1 := (HLT.out 3 (by omega)).1
        have hx : (s.extract 0 4).data.toList = s.data.toList.take 4 := by rw [extract_data]; simp
        have hF2 := HF.out
        rw [if_neg hsz] at hF2
        generalize Plain.rnum s.data.toList 3 = N at *
        by_cases hmax : 1114111 < N
        · rw [if_pos (.inl hmax)] at hF2
          have hmd : decide ((1114111 : Int) < (N : Int)) = true := by simp; omega
          have hmd2 : decide (1114111 < N) = true := by simpa using hmax
          have HF2 := Lib.hid hF2
          clear hF2 hx
          go_wp2_with fail
          go_quiet (fail)
          go_wp2
          go_ret2
          exact ⟨by rw [HF2.out]; rfl, below_drewN (Below.refl _ _) _⟩
        · have hmd : decide ((1114111 : Int) < (N : Int)) = false := by simp; omega
          have hmd2 : decide (1114111 < N) = false := by simpa using hmax
          cases hr : Plain.runeB (N : Int)
          · rw [if_pos (.inr (.inl hr))] at hF2
            have hRR := fun W : World => (runeR_any (N : Int) W).mono fun e w' (h : e = .returned (.bool (Plain.runeB (N : Int))) ∧ W = w') => (⟨h.1, h.2.symm⟩ : e = .returned (.bool (Plain.runeB (N : Int))) ∧ w' = W)
            rw [hr] at hRR
            have HRR := Lib.hid hRR
            have HF2 := Lib.hid hF2
            clear hF2 hx hRR hr
            go_wp2_with fail
            go_quiet ((go_at_call 109; exact Calls.quiet_of_same (HRR.out _)))
            go_wp2
            go_ret2
            exact ⟨by rw [HF2.out]; rfl, below_drewN (Below.refl _ _) _⟩
          · have hRR := fun W : World => runeR_any (N : Int) W
            rw [hr] at hRR
            have HRR := Lib.hid hRR
            have hPP := fun W : World => rput_any (N : Int) W (by omega) (by omega)
            have HPP := Lib.hid hPP
            by_cases he : encodeRune (N : Int) = s.data.toList.take 4
            · have hee : Utf8.encode (N : Int) = s.extract 0 4 := ba_eq (by rw [encode_list, hx, he])
              rw [if_neg (by rintro (h | h | h); exact hmax h; rw [hr] at h; cases h; exact h he)] at hF2
              have HF2 := Lib.hid hF2
              have HEE := Lib.hid hee
              have hw : IntKind.i32.wrap (N : Int) = (N : Int) := by rw [IntKind.wrap_i32]; omega
              clear hF2 hx hRR hr hPP he
              go_wp2_with fail
              go_region_held3 (fun _ => True) (exact trivial) (first | (go_at_call 109; (with_reducible refine (HRR.out _).mono ?_); rintro e w' ⟨rfl, rfl⟩) | (go_at_call 110; (with_reducible refine (HPP.out _).mono ?_); rintro e w' ⟨rfl, hb1⟩))
              have hee := HEE.out
              go_wp2
              go_ret2
              exact ⟨by rw [HF2.out]; rfl, ((Below.refl _ _).drew).trans hb1⟩
            · have hee : ((Utf8.encode (N : Int)).toList == (s.extract 0 4).toList) = false := by
                rw [beq_eq_false_iff_ne]
                intro h
                rw [Lib.toList_data, Lib.toList_data, encode_list, hx] at h
                exact he h
              rw [if_pos (.inr (.inr he))] at hF2
              have HF2 := Lib.hid hF2
              have HEE := Lib.hid hee
              have hw : IntKind.i32.wrap (N : Int) = (N : Int) := by rw [IntKind.wrap_i32]; omega
              clear hF2 hx hRR hr hPP he hee
              go_wp2_with fail
              go_region_held3 (fun _ => True) (exact trivial) (first | (go_at_call 109; (with_reducible refine (HRR.out _).mono ?_); rintro e w' ⟨rfl, rfl⟩) | (go_at_call 110; (with_reducible refine (HPP.out _).mono ?_); rintro e w' ⟨rfl, hb1⟩))
              have hee := HEE.out
              go_wp2
              · go_ret2
                exact ⟨by rw [HF2.out]; rfl, ((Below.refl _ _).drew).trans hb1⟩
              · rename_i h
                rw [hee] at h
                cases h

set_option maxRecDepth 100000 in
set_option maxHeartbeats 1000000 in
theorem rfirst_3 (s : ByteArray) (w : World) (h0 : 0 < s.size) (hs : s.size ≤ 4398046511104) (hb : 224 ≤ (s.data.toList.getD 0 0).toNat) (hb' : (s.data.toList.getD 0 0).toNat < 240) :
    Calls Tryz.prog 78 #[.string s] w fun e w' => e = .returned (.tuple #[.int .i32 (Plain.rfirst s.data.toList).1, .int .i64 (Plain.rfirst s.data.toList).2]) ∧ Below w.heap.size w w' := by
  have hrs : Plain.rsize (s.data.toList.getD 0 0).toNat = 3 := by unfold Plain.rsize; rw [if_neg (by omega), if_pos (by omega)]
  have hg : ∀ i (hi : i < s.size), s[i] = s.data.toList.getD i 0 := fun i hi => by simp [List.getD, hi]; rfl
  have hb0 : s[0] = s.data.toList.getD 0 0 := hg 0 h0
  have hlow : Plain.rnum s.data.toList 0 = (s.data.toList.getD 0 0).toNat % 16 := by show Plain.rlow _ = _; unfold Plain.rlow; rw [if_neg (by omega), if_pos (by omega)]
  have hlt := UInt8.toNat_lt (s.data.toList.getD 0 0)
  have hlen : s.data.toList.length = s.size := by simp
  have hfl := rnum_lt s.data.toList
  have hstep : ∀ j, Plain.rnum s.data.toList (j + 1) = Plain.rnum s.data.toList j * 64 + (s.data.toList.getD (j + 1) 0).toNat % 64 := fun _ => rfl
  have hfin : Plain.rfirst s.data.toList = if s.size < 3 then (65533, 1) else if 1114111 < Plain.rnum s.data.toList 2 ∨ Plain.runeB (Plain.rnum s.data.toList 2) = false ∨ encodeRune (Plain.rnum s.data.toList 2 : Int) ≠ s.data.toList.take 3 then (65533, 1) else (Plain.rnum s.data.toList 2, 3) := by
    unfold Plain.rfirst; rw [hrs, hlen]
  have HF := Lib.hid hfin
  have HST := Lib.hid hstep
  have HLT := Lib.hid hfl
  have HG := Lib.hid hg
  have HLOW := Lib.hid hlow
  generalize hcc : s.data.toList.getD 0 0 = c0 at *
  have HCC := Lib.hid hcc
  clear hfin hstep hfl hg hlow hlen hrs hcc
  by_cases hsz : s.size < 3
  · have hfv : Plain.rfirst s.data.toList = (65533, 1) := by rw [HF.out, if_pos hsz]
    have HFV := Lib.hid hfv
    clear hfv
    go_enter Tryz.func78, Tryz.ntmps78
    go_wp2
    go_ret2
    exact ⟨by rw [HFV.out]; rfl, Below.refl _ _⟩
  · have hsz' : 3 ≤ s.size := by omega
    go_enter Tryz.func78, Tryz.ntmps78
    go_wp2_with fail
    go_loop [6, 7] (fun n i => ∃ k : Nat, k + 1 ≤ 3 ∧ i = .int .i64 ((k : Int) + 1) ∧ n = .int .u32 (Plain.rnum s.data.toList k)) (fun _ i => 3 - (RowKit.intOf i).toNat)
    case atStart => exact ⟨0, by omega, rfl, by rw [HLOW.out]; exact congrArg (Value.int .u32) (by omega)⟩
    case round =>
      obtain ⟨k, hk, rfl, rfl⟩ := hrel
      by_cases hlt2 : k + 1 < 3
      · have hb1 := (HLT.out k (by omega)).2 (by omega)
        have hst := HST.out k
        have hgk := HG.out (k + 1) (by omega)
        have hc1 := UInt8.toNat_lt (s.data.toList.getD (k + 1) 0)
        generalize s.data.toList.getD (k + 1) 0 = c at *
        generalize hnn : Plain.rnum s.data.toList k = N at *
        have HSTK := Lib.hid hst
        clear hst hnn
        go_wp2
        go_round
        case rel => exact ⟨k + 1, by omega, by go_num, by rw [HSTK.out]; exact congrArg (Value.int .u32) (by omega)⟩
        case measure => simp [RowKit.intOf]; omega
      · obtain rfl : k = 2 := by omega
        have hb1 := (HLT.out 2 (by omega)).1
        have hx : (s.extract 0 3).data.toList = s.data.toList.take 3 := by rw [extract_data]; simp
        have hF2 := HF.out
        rw [if_neg hsz] at hF2
        generalize Plain.rnum s.data.toList 2 = N at *
        by_cases hmax : 1114111 < N
        · rw [if_pos (.inl hmax)] at hF2
          have hmd : decide ((1114111 : Int) < (N : Int)) = true := by simp; omega
          have hmd2 : decide (1114111 < N) = true := by simpa using hmax
          have HF2 := Lib.hid hF2
          clear hF2 hx
          go_wp2_with fail
          go_quiet (fail)
          go_wp2
          go_ret2
          exact ⟨by rw [HF2.out]; rfl, below_drewN (Below.refl _ _) _⟩
        · have hmd : decide ((1114111 : Int) < (N : Int)) = false := by simp; omega
          have hmd2 : decide (1114111 < N) = false := by simpa using hmax
          cases hr : Plain.runeB (N : Int)
          · rw [if_pos (.inr (.inl hr))] at hF2
            have hRR := fun W : World => (runeR_any (N : Int) W).mono fun e w' (h : e = .returned (.bool (Plain.runeB (N : Int))) ∧ W = w') => (⟨h.1, h.2.symm⟩ : e = .returned (.bool (Plain.runeB (N : Int))) ∧ w' = W)
            rw [hr] at hRR
            have HRR := Lib.hid hRR
            have HF2 := Lib.hid hF2
            clear hF2 hx hRR hr
            go_wp2_with fail
            go_quiet ((go_at_call 109; exact Calls.quiet_of_same (HRR.out _)))
            go_wp2
            go_ret2
            exact ⟨by rw [HF2.out]; rfl, below_drewN (Below.refl _ _) _⟩
          · have hRR := fun W : World => runeR_any (N : Int) W
            rw [hr] at hRR
            have HRR := Lib.hid hRR
            have hPP := fun W : World => rput_any (N : Int) W (by omega) (by omega)
            have HPP := Lib.hid hPP
            by_cases he : encodeRune (N : Int) = s.data.toList.take 3
            · have hee : Utf8.encode (N : Int) = s.extract 0 3 := ba_eq (by rw [encode_list, hx, he])
              rw [if_neg (by rintro (h | h | h); exact hmax h; rw [hr] at h; cases h; exact h he)] at hF2
              have HF2 := Lib.hid hF2
              have HEE := Lib.hid hee
              have hw : IntKind.i32.wrap (N : Int) = (N : Int) := by rw [IntKind.wrap_i32]; omega
              clear hF2 hx hRR hr hPP he
              go_wp2_with fail
              go_region_held3 (fun _ => True) (exact trivial) (first | (go_at_call 109; (with_reducible refine (HRR.out _).mono ?_); rintro e w' ⟨rfl, rfl⟩) | (go_at_call 110; (with_reducible refine (HPP.out _).mono ?_); rintro e w' ⟨rfl, hb1⟩))
              have hee := HEE.out
              go_wp2
              go_ret2
              exact ⟨by rw [HF2.out]; rfl, ((Below.refl _ _).drew).trans hb1⟩
            · have hee : ((Utf8.encode (N : Int)).toList == (s.extract 0 3).toList) = false := by
                rw [beq_eq_false_iff_ne]
                intro h
                rw [Lib.toList_data, Lib.toList_data, encode_list, hx] at h
                exact he h
              rw [if_pos (.inr (.inr he))] at hF2
              have HF2 := Lib.hid hF2
              have HEE := Lib.hid hee
              have hw : IntKind.i32.wrap (N : Int) = (N : Int) := by rw [IntKind.wrap_i32]; omega
              clear hF2 hx hRR hr hPP he hee
              go_wp2_with fail
              go_region_held3 (fun _ => True) (exact trivial) (first | (go_at_call 109; (with_reducible refine (HRR.out _).mono ?_); rintro e w' ⟨rfl, rfl⟩) | (go_at_call 110; (with_reducible refine (HPP.out _).mono ?_); rintro e w' ⟨rfl, hb1⟩))
              have hee := HEE.out
              go_wp2
              · go_ret2
                exact ⟨by rw [HF2.out]; rfl, ((Below.refl _ _).drew).trans hb1⟩
              · rename_i h
                rw [hee] at h
                cases h

set_option maxRecDepth 100000 in
set_option maxHeartbeats 1000000 in
theorem rfirst_2 (s : ByteArray) (w : World) (h0 : 0 < s.size) (hs : s.size ≤ 4398046511104) (hb : 192 ≤ (s.data.toList.getD 0 0).toNat) (hb' : (s.data.toList.getD 0 0).toNat < 224) :
    Calls Tryz.prog 78 #[.string s] w fun e w' => e = .returned (.tuple #[.int .i32 (Plain.rfirst s.data.toList).1, .int .i64 (Plain.rfirst s.data.toList).2]) ∧ Below w.heap.size w w' := by
  have hrs : Plain.rsize (s.data.toList.getD 0 0).toNat = 2 := by unfold Plain.rsize; rw [if_neg (by omega), if_neg (by omega), if_pos (by omega)]
  have hg : ∀ i (hi : i < s.size), s[i] = s.data.toList.getD i 0 := fun i hi => by simp [List.getD, hi]; rfl
  have hb0 : s[0] = s.data.toList.getD 0 0 := hg 0 h0
  have hlow : Plain.rnum s.data.toList 0 = (s.data.toList.getD 0 0).toNat % 32 := by show Plain.rlow _ = _; unfold Plain.rlow; rw [if_neg (by omega), if_neg (by omega), if_pos (by omega)]
  have hlt := UInt8.toNat_lt (s.data.toList.getD 0 0)
  have hlen : s.data.toList.length = s.size := by simp
  have hfl := rnum_lt s.data.toList
  have hstep : ∀ j, Plain.rnum s.data.toList (j + 1) = Plain.rnum s.data.toList j * 64 + (s.data.toList.getD (j + 1) 0).toNat % 64 := fun _ => rfl
  have hfin : Plain.rfirst s.data.toList = if s.size < 2 then (65533, 1) else if 1114111 < Plain.rnum s.data.toList 1 ∨ Plain.runeB (Plain.rnum s.data.toList 1) = false ∨ encodeRune (Plain.rnum s.data.toList 1 : Int) ≠ s.data.toList.take 2 then (65533, 1) else (Plain.rnum s.data.toList 1, 2) := by
    unfold Plain.rfirst; rw [hrs, hlen]
  have HF := Lib.hid hfin
  have HST := Lib.hid hstep
  have HLT := Lib.hid hfl
  have HG := Lib.hid hg
  have HLOW := Lib.hid hlow
  generalize hcc : s.data.toList.getD 0 0 = c0 at *
  have HCC := Lib.hid hcc
  clear hfin hstep hfl hg hlow hlen hrs hcc
  by_cases hsz : s.size < 2
  · have hfv : Plain.rfirst s.data.toList = (65533, 1) := by rw [HF.out, if_pos hsz]
    have HFV := Lib.hid hfv
    clear hfv
    go_enter Tryz.func78, Tryz.ntmps78
    go_wp2
    go_ret2
    exact ⟨by rw [HFV.out]; rfl, Below.refl _ _⟩
  · have hsz' : 2 ≤ s.size := by omega
    go_enter Tryz.func78, Tryz.ntmps78
    go_wp2_with fail
    go_loop [6, 7] (fun n i => ∃ k : Nat, k + 1 ≤ 2 ∧ i = .int .i64 ((k : Int) + 1) ∧ n = .int .u32 (Plain.rnum s.data.toList k)) (fun _ i => 2 - (RowKit.intOf i).toNat)
    case atStart => exact ⟨0, by omega, rfl, by rw [HLOW.out]; exact congrArg (Value.int .u32) (by omega)⟩
    case round =>
      obtain ⟨k, hk, rfl, rfl⟩ := hrel
      by_cases hlt2 : k + 1 < 2
      · have hb1 := (HLT.out k (by omega)).2 (by omega)
        have hst := HST.out k
        have hgk := HG.out (k + 1) (by omega)
        have hc1 := UInt8.toNat_lt (s.data.toList.getD (k + 1) 0)
        generalize s.data.toList.getD (k + 1) 0 = c at *
        generalize hnn : Plain.rnum s.data.toList k = N at *
        have HSTK := Lib.hid hst
        clear hst hnn
        go_wp2
        go_round
        case rel => exact ⟨k + 1, by omega, by go_num, by rw [HSTK.out]; exact congrArg (Value.int .u32) (by omega)⟩
        case measure => simp [RowKit.intOf]; omega
      · obtain rfl : k = 1 := by omega
        have hb1 := (HLT.out 1 (by omega)).1
        have hx : (s.extract 0 2).data.toList = s.data.toList.take 2 := by rw [extract_data]; simp
        have hF2 := HF.out
        rw [if_neg hsz] at hF2
        generalize Plain.rnum s.data.toList 1 = N at *
        by_cases hmax : 1114111 < N
        · rw [if_pos (.inl hmax)] at hF2
          have hmd : decide ((1114111 : Int) < (N : Int)) = true := by simp; omega
          have hmd2 : decide (1114111 < N) = true := by simpa using hmax
          have HF2 := Lib.hid hF2
          clear hF2 hx
          go_wp2_with fail
          go_quiet (fail)
          go_wp2
          go_ret2
          exact ⟨by rw [HF2.out]; rfl, below_drewN (Below.refl _ _) _⟩
        · have hmd : decide ((1114111 : Int) < (N : Int)) = false := by simp; omega
          have hmd2 : decide (1114111 < N) = false := by simpa using hmax
          cases hr : Plain.runeB (N : Int)
          · rw [if_pos (.inr (.inl hr))] at hF2
            have hRR := fun W : World => (runeR_any (N : Int) W).mono fun e w' (h : e = .returned (.bool (Plain.runeB (N : Int))) ∧ W = w') => (⟨h.1, h.2.symm⟩ : e = .returned (.bool (Plain.runeB (N : Int))) ∧ w' = W)
            rw [hr] at hRR
            have HRR := Lib.hid hRR
            have HF2 := Lib.hid hF2
            clear hF2 hx hRR hr
            go_wp2_with fail
            go_quiet ((go_at_call 109; exact Calls.quiet_of_same (HRR.out _)))
            go_wp2
            go_ret2
            exact ⟨by rw [HF2.out]; rfl, below_drewN (Below.refl _ _) _⟩
          · have hRR := fun W : World => runeR_any (N : Int) W
            rw [hr] at hRR
            have HRR := Lib.hid hRR
            have hPP := fun W : World => rput_any (N : Int) W (by omega) (by omega)
            have HPP := Lib.hid hPP
            by_cases he : encodeRune (N : Int) = s.data.toList.take 2
            · have hee : Utf8.encode (N : Int) = s.extract 0 2 := ba_eq (by rw [encode_list, hx, he])
              rw [if_neg (by rintro (h | h | h); exact hmax h; rw [hr] at h; cases h; exact h he)] at hF2
              have HF2 := Lib.hid hF2
              have HEE := Lib.hid hee
              have hw : IntKind.i32.wrap (N : Int) = (N : Int) := by rw [IntKind.wrap_i32]; omega
              clear hF2 hx hRR hr hPP he
              go_wp2_with fail
              go_region_held3 (fun _ => True) (exact trivial) (first | (go_at_call 109; (with_reducible refine (HRR.out _).mono ?_); rintro e w' ⟨rfl, rfl⟩) | (go_at_call 110; (with_reducible refine (HPP.out _).mono ?_); rintro e w' ⟨rfl, hb1⟩))
              have hee := HEE.out
              go_wp2
              go_ret2
              exact ⟨by rw [HF2.out]; rfl, ((Below.refl _ _).drew).trans hb1⟩
            · have hee : ((Utf8.encode (N : Int)).toList == (s.extract 0 2).toList) = false := by
                rw [beq_eq_false_iff_ne]
                intro h
                rw [Lib.toList_data, Lib.toList_data, encode_list, hx] at h
                exact he h
              rw [if_pos (.inr (.inr he))] at hF2
              have HF2 := Lib.hid hF2
              have HEE := Lib.hid hee
              have hw : IntKind.i32.wrap (N : Int) = (N : Int) := by rw [IntKind.wrap_i32]; omega
              clear hF2 hx hRR hr hPP he hee
              go_wp2_with fail
              go_region_held3 (fun _ => True) (exact trivial) (first | (go_at_call 109; (with_reducible refine (HRR.out _).mono ?_); rintro e w' ⟨rfl, rfl⟩) | (go_at_call 110; (with_reducible refine (HPP.out _).mono ?_); rintro e w' ⟨rfl, hb1⟩))
              have hee := HEE.out
              go_wp2
              · go_ret2
                exact ⟨by rw [HF2.out]; rfl, ((Below.refl _ _).drew).trans hb1⟩
              · rename_i h
                rw [hee] at h
                cases h

set_option maxRecDepth 100000 in
set_option maxHeartbeats 1000000 in
theorem rfirst_1 (s : ByteArray) (w : World) (h0 : 0 < s.size) (hs : s.size ≤ 4398046511104) (hb' : (s.data.toList.getD 0 0).toNat < 192) :
    Calls Tryz.prog 78 #[.string s] w fun e w' => e = .returned (.tuple #[.int .i32 (Plain.rfirst s.data.toList).1, .int .i64 (Plain.rfirst s.data.toList).2]) ∧ Below w.heap.size w w' := by
  have hrs : Plain.rsize (s.data.toList.getD 0 0).toNat = 1 := by unfold Plain.rsize; rw [if_neg (by omega), if_neg (by omega), if_neg (by omega)]
  have hg : ∀ i (hi : i < s.size), s[i] = s.data.toList.getD i 0 := fun i hi => by simp [List.getD, hi]; rfl
  have hb0 : s[0] = s.data.toList.getD 0 0 := hg 0 h0
  have hlow : Plain.rnum s.data.toList 0 = (s.data.toList.getD 0 0).toNat := by show Plain.rlow _ = _; unfold Plain.rlow; rw [if_neg (by omega), if_neg (by omega), if_neg (by omega)]
  have hlt := UInt8.toNat_lt (s.data.toList.getD 0 0)
  have hlen : s.data.toList.length = s.size := by simp
  have hfl := rnum_lt s.data.toList
  have hstep : ∀ j, Plain.rnum s.data.toList (j + 1) = Plain.rnum s.data.toList j * 64 + (s.data.toList.getD (j + 1) 0).toNat % 64 := fun _ => rfl
  have hfin : Plain.rfirst s.data.toList = if s.size < 1 then (65533, 1) else if 1114111 < Plain.rnum s.data.toList 0 ∨ Plain.runeB (Plain.rnum s.data.toList 0) = false ∨ encodeRune (Plain.rnum s.data.toList 0 : Int) ≠ s.data.toList.take 1 then (65533, 1) else (Plain.rnum s.data.toList 0, 1) := by
    unfold Plain.rfirst; rw [hrs, hlen]
  have HF := Lib.hid hfin
  have HST := Lib.hid hstep
  have HLT := Lib.hid hfl
  have HG := Lib.hid hg
  have HLOW := Lib.hid hlow
  generalize hcc : s.data.toList.getD 0 0 = c0 at *
  have HCC := Lib.hid hcc
  clear hfin hstep hfl hg hlow hlen hrs hcc
  have hsz : ¬ s.size < 1 := by omega
  · have hsz' : 1 ≤ s.size := by omega
    go_enter Tryz.func78, Tryz.ntmps78
    go_wp2_with fail
    go_loop [6, 7] (fun n i => ∃ k : Nat, k + 1 ≤ 1 ∧ i = .int .i64 ((k : Int) + 1) ∧ n = .int .u32 (Plain.rnum s.data.toList k)) (fun _ i => 1 - (RowKit.intOf i).toNat)
    case atStart => exact ⟨0, by omega, rfl, by rw [HLOW.out]⟩
    case round =>
      obtain ⟨k, hk, rfl, rfl⟩ := hrel
      have htriv : k + 1 = 1 := by omega
      · obtain rfl : k = 0 := by omega
        have hb1 := (HLT.out 0 (by omega)).1
        have hx : (s.extract 0 1).data.toList = s.data.toList.take 1 := by rw [extract_data]; simp
        have hF2 := HF.out
        rw [if_neg hsz] at hF2
        generalize Plain.rnum s.data.toList 0 = N at *
        by_cases hmax : 1114111 < N
        · rw [if_pos (.inl hmax)] at hF2
          have hmd : decide ((1114111 : Int) < (N : Int)) = true := by simp; omega
          have hmd2 : decide (1114111 < N) = true := by simpa using hmax
          have HF2 := Lib.hid hF2
          clear hF2 hx
          go_wp2_with fail
          go_quiet (fail)
          go_wp2
          go_ret2
          exact ⟨by rw [HF2.out]; rfl, below_drewN (Below.refl _ _) _⟩
        · have hmd : decide ((1114111 : Int) < (N : Int)) = false := by simp; omega
          have hmd2 : decide (1114111 < N) = false := by simpa using hmax
          cases hr : Plain.runeB (N : Int)
          · rw [if_pos (.inr (.inl hr))] at hF2
            have hRR := fun W : World => (runeR_any (N : Int) W).mono fun e w' (h : e = .returned (.bool (Plain.runeB (N : Int))) ∧ W = w') => (⟨h.1, h.2.symm⟩ : e = .returned (.bool (Plain.runeB (N : Int))) ∧ w' = W)
            rw [hr] at hRR
            have HRR := Lib.hid hRR
            have HF2 := Lib.hid hF2
            clear hF2 hx hRR hr
            go_wp2_with fail
            go_quiet ((go_at_call 109; exact Calls.quiet_of_same (HRR.out _)))
            go_wp2
            go_ret2
            exact ⟨by rw [HF2.out]; rfl, below_drewN (Below.refl _ _) _⟩
          · have hRR := fun W : World => runeR_any (N : Int) W
            rw [hr] at hRR
            have HRR := Lib.hid hRR
            have hPP := fun W : World => rput_any (N : Int) W (by omega) (by omega)
            have HPP := Lib.hid hPP
            by_cases he : encodeRune (N : Int) = s.data.toList.take 1
            · have hee : Utf8.encode (N : Int) = s.extract 0 1 := ba_eq (by rw [encode_list, hx, he])
              rw [if_neg (by rintro (h | h | h); exact hmax h; rw [hr] at h; cases h; exact h he)] at hF2
              have HF2 := Lib.hid hF2
              have HEE := Lib.hid hee
              have hw : IntKind.i32.wrap (N : Int) = (N : Int) := by rw [IntKind.wrap_i32]; omega
              clear hF2 hx hRR hr hPP he
              go_wp2_with fail
              go_region_held3 (fun _ => True) (exact trivial) (first | (go_at_call 109; (with_reducible refine (HRR.out _).mono ?_); rintro e w' ⟨rfl, rfl⟩) | (go_at_call 110; (with_reducible refine (HPP.out _).mono ?_); rintro e w' ⟨rfl, hb1⟩))
              have hee := HEE.out
              go_wp2
              go_ret2
              exact ⟨by rw [HF2.out]; rfl, ((Below.refl _ _).drew).trans hb1⟩
            · have hee : ((Utf8.encode (N : Int)).toList == (s.extract 0 1).toList) = false := by
                rw [beq_eq_false_iff_ne]
                intro h
                rw [Lib.toList_data, Lib.toList_data, encode_list, hx] at h
                exact he h
              rw [if_pos (.inr (.inr he))] at hF2
              have HF2 := Lib.hid hF2
              have HEE := Lib.hid hee
              have hw : IntKind.i32.wrap (N : Int) = (N : Int) := by rw [IntKind.wrap_i32]; omega
              clear hF2 hx hRR hr hPP he hee
              go_wp2_with fail
              go_region_held3 (fun _ => True) (exact trivial) (first | (go_at_call 109; (with_reducible refine (HRR.out _).mono ?_); rintro e w' ⟨rfl, rfl⟩) | (go_at_call 110; (with_reducible refine (HPP.out _).mono ?_); rintro e w' ⟨rfl, hb1⟩))
              have hee := HEE.out
              go_wp2
              · go_ret2
                exact ⟨by rw [HF2.out]; rfl, ((Below.refl _ _).drew).trans hb1⟩
              · rename_i h
                rw [hee] at h
                cases h

theorem rfirst_any (s : ByteArray) (w : World) (h0 : 0 < s.size) (hs : s.size ≤ 4398046511104) :
    Calls Tryz.prog 78 #[.string s] w fun e w' => e = .returned (.tuple #[.int .i32 (decodeL s.data.toList).1, .int .i64 (decodeL s.data.toList).2]) ∧ Below w.heap.size w w' := by
  have hne : s.data.toList ≠ [] := by intro h; have hl : s.data.toList.length = s.size := Array.length_toList; rw [h, List.length_nil] at hl; omega
  rw [← Plain.rfirst_eq _ hne]
  by_cases h4 : 240 ≤ (s.data.toList.getD 0 0).toNat
  · exact rfirst_4 s w h0 hs h4
  · by_cases h3 : 224 ≤ (s.data.toList.getD 0 0).toNat
    · exact rfirst_3 s w h0 hs h3 (by omega)
    · by_cases h2 : 192 ≤ (s.data.toList.getD 0 0).toNat
      · exact rfirst_2 s w h0 hs h2 (by omega)
      · exact rfirst_1 s w h0 hs (by omega)
end Go.Proofs.YtgppobaoclfgcaaGreatDoor
namespace Go.Proofs.YtgppobaoclfgcaaGreatDoor
open Go.RowKit Go.Lib
theorem infoRn : (Tryz.prog.info? 116).map (fun i => (i.zero, i.size, i.bytes)) = some (some (.agg #[.int .i32 0, .int .i64 0, .int .i64 0]), 3, 24) := by kernel_rfl
/-- what holds at the head of a round of the document's All -/
def RAllRel (s : ByteArray) (w : World) (v : Value) (wr : World) (p : Nat) (A : List Plain.Rn) : Prop :=
  Plain.allA 0 s.data.toList = A ++ Plain.allA p (s.data.toList.drop p) ∧ A.length ≤ p ∧ wr.ownsRow w.heap.size 116 3 v A.length (A.flatMap rcells) ∧ Below w.heap.size w wr
theorem RAllRel.step {s : ByteArray} {w wr w1 w2 : World} {v v' : Value} {p : Nat} {A : List Plain.Rn} {o : Obj} (h : RAllRel s w v wr p A) (hp : p < s.size)
    (hb1 : Below wr.heap.size wr w1)
    (hown : w2.ownsRow w.heap.size 116 3 v' (A.length + 1) (A.flatMap rcells ++ [.int .i32 (decodeL (s.data.toList.drop p)).1, .int .i64 p, .int .i64 (decodeL (s.data.toList.drop p)).2])) (hg : (w1.alloc o).grownBy w2 v.ownBlock) :
    RAllRel s w v' w2 (p + (decodeL (s.data.toList.drop p)).2) (A ++ [((decodeL (s.data.toList.drop p)).1, p, (decodeL (s.data.toList.drop p)).2)]) ∧ p + (decodeL (s.data.toList.drop p)).2 ≤ s.size := by
  obtain ⟨h2, h3, h4, h5⟩ := h
  have hne : s.data.toList.drop p ≠ [] := by intro e; have := congrArg List.length e; simp at this; omega
  have hs := Plain.allA_step p _ hne
  have hpos := Plain.dec_pos (s.data.toList.drop p)
  have hle := decodeL_le _ hne
  have hrow : ∀ g, v.ownBlock = some g → w.heap.size ≤ g := fun g hg => (h4.lt g hg).1
  have hB1 : Below w.heap.size w w1 := h5.trans (hb1.mono h5.size)
  refine ⟨⟨?_, ?_, ?_, ?_⟩, ?_⟩
  · rw [h2, hs, List.drop_drop]; simp
  · simp; omega
  · simpa [rcells] using hown
  · exact ((hB1.alloc hB1.size o).grown hg (by simp; have := hB1.size; omega) hrow)
  · rw [List.length_drop] at hle; simp at hle; omega
set_option maxRecDepth 100000 in
set_option maxHeartbeats 1000000 in
theorem rall_walk (s : ByteArray) (w : World) (hs : s.size ≤ 1048576) :
    Calls Tryz.prog 53 #[.string s] w fun e w' => ∃ v, e = .returned v ∧ w'.ownsRow w.heap.size 116 3 v (Plain.allA 0 s.data.toList).length ((Plain.allA 0 s.data.toList).flatMap rcells) ∧ Below w.heap.size w w' := by
  obtain ⟨i0, hi, hz0, hz1, hz2⟩ := info_parts infoRn
  go_enter Tryz.func53, Tryz.ntmps53
  go_wp2_with fail
  go_loopw [3, 4, 5, 6] (fun v i _ _ wr => ∃ u p A, u = v ∧ p ≤ s.size ∧ i = .int .i64 (p : Nat) ∧ RAllRel s w u wr p A) (fun _ i _ _ _ => s.size - (RowKit.intOf i).toNat)
  case atStart => exact ⟨_, 0, [], rfl, Nat.zero_le _, rfl, by simp, Nat.le_refl _, ⟨by simp, .inl ⟨rfl, rfl⟩⟩, Below.refl _ _⟩
  case round =>
    obtain ⟨v, p, A, rfl, hp, rfl, hR⟩ := hrel
    by_cases hlt : p < s.size
    · have hx := extract_to_end s p
      have hsx : (s.extract p s.size).size = s.size - p := by rw [size_eq, hx]; simp
      have hne : s.data.toList.drop p ≠ [] := by intro e; have := congrArg List.length e; simp at this; omega
      have hle : p + (decodeL (s.data.toList.drop p)).2 ≤ s.size := by have := decodeL_le _ hne; rw [List.length_drop] at this; simp at this; omega
      have cF : ∀ W, Calls Tryz.prog 78 #[.string (s.extract p s.size)] W fun e w' => e = .returned (.tuple #[.int .i32 (decodeL (s.data.toList.drop p)).1, .int .i64 (decodeL (s.data.toList.drop p)).2]) ∧ Below W.heap.size W w' := fun W => by
        have := rfirst_any (s.extract p s.size) W (by omega) (by omega)
        rw [hx] at this; exact this
      have HS := Lib.hid cF
      have HR := Lib.hid hR
      have hl := hR.2.1
      have hown := hR.2.2.1
      have hwz := hR.2.2.2.size
      have hpos := Plain.dec_pos (s.data.toList.drop p)
      clear cF hR hx hsx hne
      go_wp2_with fail
      refine (HS.out _).mono ?_
      rintro e w1 ⟨rfl, hb1⟩
      have hown1 : w1.ownsRow w.heap.size 116 3 v A.length (A.flatMap rcells) := own_below hown hb1
      have hsz1 : w.heap.size ≤ w1.heap.size := Nat.le_trans hwz hb1.size
      have HB := Lib.hid hb1; clear hb1 hown
      go_wp2_with (at_builtin; refine wpList_append_own _ rfl (.tmp 18) (.tmp 23) _ rfl w.heap.size 116 i0 _ 3 24 Tryz.underlying113 hi hz0 hz1 hz2 rfl (by decide) v A.length (A.flatMap rcells) rfl (hown1.alloc _) ⟨w1.heap.size, 0, none⟩ 1 1 [.int .i32 (decodeL (s.data.toList.drop p)).1, .int .i64 p, .int .i64 (decodeL (s.data.toList.drop p)).2] rfl rfl ?c1 ?c2 ?c3 ?c4 ?c5 ?_)
      case c1 => exact cells_new w1 _ _
      case c2 => intro u hu; simp only [List.mem_cons, List.not_mem_nil, or_false] at hu; rcases hu with rfl | rfl | rfl <;> rfl
      case c3 => simp only [maxLen]; omega
      case c4 => omega
      case c5 => simp; omega
      intro v2 w2 hown2 hg2 _
      have hst := HR.out.step hlt HB.out hown2 hg2
      have HST := Lib.hid hst; clear hst hown2 hg2
      go_wp2
      go_roundw
      case rel => exact ⟨v2, _, _, rfl, HST.out.2, by go_num, HST.out.1⟩
      case measure => simp [RowKit.intOf]; omega
    · have hR' := Lib.hid hR
      clear hR
      go_wp2
      go_ret
      obtain ⟨h2, h3, h4, h5⟩ := hR'.out
      have he : s.data.toList.drop p = [] := List.drop_of_length_le (by simp; omega)
      rw [he, Plain.allA_nil, List.append_nil] at h2
      rw [h2]
      exact ⟨_, rfl, h4, h5⟩
theorem rall_form (s : ByteArray) (W : World) (L : List Plain.Rn) (N : Nat) (hs : s.size ≤ 1048576) (hL : Plain.allA 0 s.data.toList = L) (hN : L.length = N) :
    Calls Tryz.prog 53 #[.string s] W fun e w' => ∃ a c, e = .returned (.slice a N c) ∧ (0 < N → ∃ g, a = some ⟨g, 0, none⟩ ∧ N ≤ c ∧ CellsAt w' g (L.flatMap rcells)) ∧ Below W.heap.size W w' := by
  refine (rall_walk s W hs).mono ?_
  rintro e w' ⟨v, rfl, hown, hb⟩
  rw [hL, hN] at hown
  obtain ⟨a, c, rfl, h⟩ := own_formr hown
  exact ⟨a, c, rfl, fun h0 => by obtain ⟨g, e, _, h1, h2⟩ := h h0; exact ⟨g, e, h1, h2⟩, hb⟩

end Go.Proofs.YtgppobaoclfgcaaGreatDoor
