/- Chapter 12: WireKinds, the walk. Conditions: what the lemma says. -/
import Derived.Test.YtmiacgkidldjmaaGreatDoorWireJ
import Derived.OwnWalk
set_option linter.unusedVariables false
set_option linter.unusedSimpArgs false
namespace Go.Proofs.YtmiacgkidldjmaaGreatDoor
open Go.RowKit Go.Lib
def bgn (n : Nat) : List UInt8 := [[87, 88, 80], [87, 88, 84], [87, 88, 112], [87, 88], [88, 87, 80], []].getD n []
theorem bgn_len (n : Nat) : (bgn n).length ≤ 3 := by
  unfold bgn
  by_cases h : n < 6
  · rcases (show n = 0 ∨ n = 1 ∨ n = 2 ∨ n = 3 ∨ n = 4 ∨ n = 5 by omega) with rfl | rfl | rfl | rfl | rfl | rfl <;> decide
  · rw [List.getD_eq_getElem?_getD, List.getElem?_eq_none (by simp; omega)]; decide
theorem long_bytes {w : World} {base : Nat} (n : Nat) (g : Nat) (hs : (w.ownsRow base 5 1 (.slice (some ⟨g, 0, none⟩) n n) n (madeCells #[.int .u8 0] n).toList)) :
    (convert 35 9 (.slice (some ⟨g, 0, none⟩) n n)).run Tryz.prog w = .ok (.string (str (List.replicate n 0))) w := by
  have hx : (madeCells #[.int .u8 0] n).toList = u8s (nb (List.replicate n 0)) := by
    rw [toList_madeCells_one]
    unfold u8s nb
    rw [List.map_replicate, List.map_replicate]; rfl
  rw [hx] at hs
  rw [conv_bytes hs, bstr_nb]; rfl
theorem long_kind (n : Nat) (h : 65533 < n) : Plain.kindE ((⟨#[87, 88, 80]⟩ : ByteArray) ++ str (List.replicate n 0)).data.toList = (0, 3) := by
  have hz : ((⟨#[87, 88, 80]⟩ : ByteArray) ++ str (List.replicate n 0)).data.toList.length = 3 + n := by
    rw [toList_app, List.length_append, str_list, List.length_replicate]; rfl
  unfold Plain.kindE
  rw [if_pos (by omega)]
def kin (l : List UInt8) : Int := if l.take 3 = [87, 88, 84] then 2 else if l.take 3 = [87, 88, 80] then 1 else 0
set_option maxRecDepth 1000000 in
set_option maxHeartbeats 8000000 in
theorem kinds_walk (s : ByteArray) (a b : Nat) (ha : a < 256) (hb : b < 65536) (W : World) (s0 : s.size ≤ 140737488355328) :
    Calls Tryz.prog 4 #[.string s, .int .u8 (a : Int), .int .u16 (b : Int)] W fun e w' => e = .returned (.bool true) ∧ Below W.heap.size W w' := by
  have CX := Lib.hid (fun W => ex12_any W)
  obtain ⟨n, hn⟩ : ∃ n, a % 6 = n := ⟨_, rfl⟩
  have hn6 : n < 6 := by omega
  have hr : (a : Int) % 6 = (n : Int) := by omega
  obtain ⟨k, hk⟩ : ∃ n, b % 8 = n := ⟨_, rfl⟩
  have hk8 : k < 8 := by omega
  have hrk : (b : Int) % 8 = (k : Int) := by omega
  have hbl := bgn_len n
  go_enter Tryz.func4, Tryz.ntmps4
  go_wp2_with fail
  refine (CX.out _).mono ?_
  rintro _ w1 ⟨rfl, hb1⟩
  go_upto_region 4 with fail
  have z0 : (w1.alloc (.cells #[.string ⟨#[87, 88, 80]⟩, .string ⟨#[87, 88, 84]⟩, .string ⟨#[87, 88, 112]⟩, .string ⟨#[87, 88]⟩, .string ⟨#[88, 87, 80]⟩, .string ⟨#[]⟩] 9)).cell? ⟨w1.heap.size, n, none⟩ = some (.string (str (bgn n))) := by
    rw [cell_of_row _ _ _ _ _ _ (heap_alloc_new _ _)]
    rcases (show n = 0 ∨ n = 1 ∨ n = 2 ∨ n = 3 ∨ n = 4 ∨ n = 5 by omega) with rfl | rfl | rfl | rfl | rfl | rfl <;> rfl
  have hnn : (n : Int).toNat = n := by omega
  obtain ⟨bg, hbg⟩ : ∃ x, str (bgn n) = x := ⟨_, rfl⟩
  have hbz : bg.size ≤ 3 := by rw [← hbg, str_size]; exact hbl
  rw [hbg] at z0
  have g1 : ¬ (9223372036854775807 < bg.size + s.size) := by omega
  have g2 : ¬ (9223372036854775807 < bg.size + s.size + 8) := by omega
  go_upto_region 6 with fail
  obtain ⟨T, hT⟩ : ∃ x, bg ++ s ++ ⟨#[97, 98, 99, 100, 101, 102, 103, 104]⟩ = x := ⟨_, rfl⟩
  rw [hT]
  obtain ⟨w2, hw2⟩ : ∃ x, w1.alloc (.cells #[.string ⟨#[87, 88, 80]⟩, .string ⟨#[87, 88, 84]⟩, .string ⟨#[87, 88, 112]⟩, .string ⟨#[87, 88]⟩, .string ⟨#[88, 87, 80]⟩, .string ⟨#[]⟩] 9) = x := ⟨_, rfl⟩
  have HB2 := Lib.hid (show Below W.heap.size W w2 from by rw [← hw2]; exact below_alloc hb1 _)
  rw [hw2]
  have hTz : T.size = bg.size + s.size + 8 := by rw [← hT, ByteArray.size_append, ByteArray.size_append]; rfl
  have hTl : T.data.toList.length = T.size := by simp
  have cK := fun W => kind_any T W (by omega)
  have cF := fun W => kind_any (T.extract 0 k) W (by rw [ByteArray.size_extract]; omega)
  have hk4 : Plain.kindE (T.extract 0 k).data.toList = (0, 4) := by
    have hz : (T.extract 0 k).data.toList.length ≤ 7 := by
      have : (T.extract 0 k).data.toList.length = (T.extract 0 k).size := by simp
      rw [this, ByteArray.size_extract]; omega
    unfold Plain.kindE
    rw [if_neg (by omega), if_pos (by omega)]
  unfold kindV at cK cF
  rw [hk4] at cF
  have hw1 : IntKind.i64.wrap (b : Int) = (b : Int) := by rw [IntKind.wrap_i64]; omega
  have hkn : (k : Int).toNat = k := by omega
  have hk0 : (k : Int) ≤ (T.size : Int) := by omega
  have hex : (T.extract 0 3).data.toList = T.data.toList.take 3 := by simp [ByteArray.data_extract]
  have h3 : (3 : Int) ≤ (T.size : Int) := by omega
  obtain ⟨l, hl⟩ : ∃ x, T.data.toList = x := ⟨_, rfl⟩
  rw [hl] at cK hTl hex
  obtain ⟨⟨kd, ke⟩, hke⟩ : ∃ x, Plain.kindE l = x := ⟨_, rfl⟩
  rw [hke] at cK
  dsimp only at cK cF
  have CK := Lib.hid cK
  have CF := Lib.hid cF
  clear cK cF hw2 hb1 z0 hT hk4 hl
  go_wp2_with fail
  refine (CK.out _).mono ?_
  rintro _ w3 ⟨rfl, hw⟩
  subst hw
  go_wp2_with fail
  refine (CF.out _).mono ?_
  rintro _ w3 ⟨rfl, hw⟩
  subst hw
  go_upto_region 8 with fail
  obtain ⟨N, hN⟩ : ∃ x : Nat, x = 65536 := ⟨_, rfl⟩
  have hL : (65536 : Int) = (N : Int) := by omega
  have HL := Lib.hid hL
  have HN := Lib.hid hN
  obtain ⟨i5, hi5, y0, y1, y2⟩ := info_parts info5
  clear hL hN
  go_wp2_with (at_make; refine wpList_make_full _ rfl _ _ _ rfl W.heap.size 5 i5 _ 1 Tryz.underlying35 hi5 y0 y1 .i64 .i64 65536 65536 N rfl rfl HL.out HL.out ?e1 ?e2 ?e3 ?_)
  case e1 => rw [y2, HN.out]; decide
  case e2 => rw [HN.out]; decide
  case e3 => exact HB2.out.size
  intro w4 hown hg
  have hcv := long_bytes N _ hown
  have hb4 : Below w3.heap.size w3 w4 := ⟨hg.os, hg.tape, hg.output, hg.size, fun k hk => hg.block k hk (by simp)⟩
  have HB4 := Lib.hid (below_then HB2.out hb4)
  have hlk := long_kind N (by rw [HN.out]; decide)
  have hlz : ((⟨#[87, 88, 80]⟩ : ByteArray) ++ str (List.replicate N 0)).size = 65539 := by rw [ByteArray.size_append, str_size, List.length_replicate, HN.out]; rfl
  have hsz : (str (List.replicate N 0)).size = 65536 := by rw [str_size, List.length_replicate, HN.out]
  obtain ⟨LS, hLS⟩ : ∃ x, str (List.replicate N 0) = x := ⟨_, rfl⟩
  rw [hLS] at hcv hlk hlz hsz
  have cG := fun W => kind_any ((⟨#[87, 88, 80]⟩ : ByteArray) ++ LS) W (by rw [hlz]; decide)
  unfold kindV at cG
  rw [hlk] at cG
  have CG := Lib.hid cG
  have g3 : ¬ (9223372036854775807 < 3 + LS.size) := by omega
  clear hown hg hb4 hlk hlz hLS cG hsz
  go_wp2_with fail
  refine (CG.out _).mono ?_
  rintro _ w5 ⟨rfl, hw⟩
  subst hw
  obtain ⟨X, hX⟩ : ∃ x, T.extract 0 3 = x := ⟨_, rfl⟩
  rw [hX] at hex
  have hXl : X.toList = l.take 3 := by rw [← hex]; simp [ByteArray.toList_eq]
  have hkk : kd = (if 65536 < T.size then 0 else if l.take 3 = [87, 88, 80] then 1 else if l.take 3 = [87, 88, 84] then 2 else 0) ∧ ke = (if 65536 < T.size then 3 else if l.take 3 = [87, 88, 80] then 0 else if l.take 3 = [87, 88, 84] then 0 else 6) := by
    unfold Plain.kindE at hke
    rw [hTl] at hke
    by_cases h1 : 65536 < T.size
    · rw [if_pos h1] at hke
      rw [if_pos h1, if_pos h1]
      injection hke with e1 e2
      exact ⟨e1.symm, e2.symm⟩
    · rw [if_neg h1, if_neg (show ¬ T.size < 8 by omega)] at hke
      rw [if_neg h1, if_neg h1]
      by_cases h2 : l.take 3 = [87, 88, 80]
      · rw [if_pos h2] at hke ⊢
        rw [if_pos h2]
        injection hke with e1 e2
        exact ⟨e1.symm, e2.symm⟩
      · rw [if_neg h2] at hke ⊢
        rw [if_neg h2]
        by_cases h3 : l.take 3 = [87, 88, 84]
        · rw [if_pos h3] at hke ⊢
          rw [if_pos h3]
          injection hke with e1 e2
          exact ⟨e1.symm, e2.symm⟩
        · rw [if_neg h3] at hke ⊢
          rw [if_neg h3]
          injection hke with e1 e2
          exact ⟨e1.symm, e2.symm⟩
  rw [← hXl] at hkk
  obtain ⟨e1, e2⟩ := hkk
  subst e1 e2
  clear hke hXl hex hTl CK CF CG HL HN hi5 y0 y1 y2 hcv g1 g2 g3 hTz hk0
  by_cases hbig : 65536 < T.size
  · rw [if_pos hbig, if_pos hbig]
    have db : decide ((T.size : Int) > 65536) = true := by simp; omega
    clear hbig
    by_cases q1 : X.toList = [87, 88, 80]
    · have d1 : (X.toList == [87, 88, 80]) = true := by rw [q1]; rfl
      have d2 : (X.toList == [87, 88, 84]) = false := by rw [q1]; rfl
      clear q1
      go_wp2
      go_ret
      exact ⟨rfl, HB4.out⟩
    · have d1 : (X.toList == [87, 88, 80]) = false := by simp [q1]
      by_cases q2 : X.toList = [87, 88, 84]
      · have d2 : (X.toList == [87, 88, 84]) = true := by rw [q2]; rfl
        clear q1 q2
        go_wp2
        go_ret
        exact ⟨rfl, HB4.out⟩
      · have d2 : (X.toList == [87, 88, 84]) = false := by simp [q2]
        clear q1 q2
        go_wp2
        go_ret
        exact ⟨rfl, HB4.out⟩
  · rw [if_neg hbig, if_neg hbig]
    have db : decide ((T.size : Int) > 65536) = false := by simp; omega
    clear hbig
    by_cases q1 : X.toList = [87, 88, 80]
    · have d1 : (X.toList == [87, 88, 80]) = true := by rw [q1]; rfl
      have d2 : (X.toList == [87, 88, 84]) = false := by rw [q1]; rfl
      rw [if_pos q1, if_pos q1]
      clear q1
      go_wp2
      go_ret
      exact ⟨rfl, HB4.out⟩
    · have d1 : (X.toList == [87, 88, 80]) = false := by simp [q1]
      rw [if_neg q1, if_neg q1]
      by_cases q2 : X.toList = [87, 88, 84]
      · have d2 : (X.toList == [87, 88, 84]) = true := by rw [q2]; rfl
        rw [if_pos q2, if_pos q2]
        clear q1 q2
        go_wp2
        go_ret
        exact ⟨rfl, HB4.out⟩
      · have d2 : (X.toList == [87, 88, 84]) = false := by simp [q2]
        rw [if_neg q2, if_neg q2]
        clear q1 q2
        go_wp2
        go_ret
        exact ⟨rfl, HB4.out⟩
theorem kinds_all (s : ByteArray) (a1 a2 : Int) (W : World) (s0 : s.size ≤ 140737488355328) (w1 : (Lit.int .u8 a1).wf = true) (w2 : (Lit.int .u16 a2).wf = true) :
    Calls Tryz.prog 4 #[.string s, .int .u8 a1, .int .u16 a2] W fun e w' => e = .returned (.bool true) ∧ Below W.heap.size W w' := by
  obtain ⟨a, rfl, ha⟩ := wf_u8 w1
  obtain ⟨b, rfl, hb⟩ := wf_u16 w2
  exact kinds_walk s a b ha hb W s0
end Go.Proofs.YtmiacgkidldjmaaGreatDoor
