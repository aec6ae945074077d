/- Chapter 4, the document's answer: Same, Has, Put, put, Of: what the code computes. Conditions: what each lemma says. -/
import Derived.Test.YtkkgdnmloojloaaDoorClassT
import Derived.Deep.RegionHeld3
import Derived.Deep.QuietTactic
import Derived.Deep.Cut
import Derived.Deep.DeepCutAuto
import Derived.Laws.StructEq
import Derived.Laws.AppendOwnNone
set_option linter.unusedVariables false
set_option linter.unusedSimpArgs false
namespace Go.Proofs.YtkkgdnmloojloaaDoor
open Go.RowKit Go.Lib
open Plain (Rg May mayB In Norm put1 mergeL gapF gaps)
theorem neq91 (a b c d : Int) (w : World) : (binOp .neq 91 (.agg #[.int .i32 a, .int .i32 b]) (.agg #[.int .i32 c, .int .i32 d])).run Tryd.prog w = .ok (.bool (!decide ((a, b) = (c, d)))) w := by
  have hm : Tryd.prog.fieldsOf 91 = #[{ name := "Low", type := 21, offset := 0, embedded := false, tag := "", pkgPath := "", byteOffset := 0 }, { name := "High", type := 21, offset := 1, embedded := false, tag := "", pkgPath := "", byteOffset := 4 }] := by kernel_rfl
  rw [run_neq_struct, run_equalIn_agg (d := 9999) w 91 _ _ (by rw [hm]; exact Tryd.underlying91) (by kernel_rfl), hm]
  by_cases h1 : a = c
  · by_cases h2 : b = d
    · simp [Op.eqFields, part, go_sem, Tryd.sizeOf21, Tryd.isAgg21, h1, h2]
    · simp [Op.eqFields, part, go_sem, Tryd.sizeOf21, Tryd.isAgg21, h1, h2]
  · simp [Op.eqFields, part, go_sem, Tryd.sizeOf21, Tryd.isAgg21, h1]
set_option maxRecDepth 100000 in
set_option maxHeartbeats 2000000 in
theorem rsame_any (R S : List Rg) (A B : Option Addr) (c d : Nat) (w : World) (hX : Rs w A R) (hY : Rs w B S) (hn : R.length ≤ maxLen) (hn2 : S.length ≤ maxLen) :
    Calls Tryd.prog 33 #[.slice A R.length c, .slice B S.length d] w fun e w' => e = .returned (.bool (decide (R = S))) ∧ Below w.heap.size w w' := by
  unfold maxLen at hn hn2
  obtain ⟨n, hN⟩ : ∃ n, R.length = n := ⟨_, rfl⟩
  obtain ⟨m, hM⟩ : ∃ m, S.length = m := ⟨_, rfl⟩
  obtain ⟨q, hq⟩ : ∃ q, decide (R = S) = q := ⟨_, rfl⟩
  rw [hN] at hn ⊢
  rw [hM] at hn2 ⊢
  rw [hq]
  have HX := Lib.hid hX
  have HY := Lib.hid hY
  have HN := Lib.hid hN
  have HM := Lib.hid hM
  have HQ := Lib.hid hq
  clear hX hY hN hM hq
  by_cases hnm : n = m
  · have e1 : ((n : Int) != (m : Int)) = false := by rw [hnm]; simp
    have HNM := Lib.hid hnm
    clear hnm
    go_enter Tryd.func33, Tryd.ntmps33
    go_wp2
    go_loopw [5] (fun i wr => ∃ k : Nat, k ≤ n ∧ i = .int .i64 k ∧ Hid (∀ j (hj : j < R.length) (hj2 : j < S.length), j < k → R[j] = S[j]) ∧ RowKit.Below w.heap.size w wr) (fun i _ => n - (RowKit.intOf i).toNat)
    case atStart => exact ⟨0, Nat.zero_le _, rfl, Lib.hid (fun j _ _ h => absurd h (by omega)), RowKit.Below.refl _ _⟩
    case round =>
      obtain ⟨k, hk, rfl, HA, hB⟩ := hrel
      have HB := Lib.hid hB
      by_cases hlt : k < n
      · have hk1 : k < R.length := by rw [HN.out]; exact hlt
        have hk2 : k < S.length := by rw [HM.out, ← HNM.out]; exact hlt
        have hltm : k < m := by rw [← HNM.out]; exact hlt
        obtain ⟨ba, off, rfl, hba, c0, c1⟩ := (HX.out.below hB).get k hk1
        obtain ⟨bb, off2, rfl, hbb, d0, d1⟩ := (HY.out.below hB).get k hk2
        obtain ⟨r, hr⟩ : ∃ r, R[k] = r := ⟨_, rfl⟩
        obtain ⟨s, hs⟩ : ∃ s, S[k] = s := ⟨_, rfl⟩
        rw [hr] at c0 c1
        rw [hs] at d0 d1
        obtain ⟨a1, a2⟩ := r
        obtain ⟨s1, s2⟩ := s
        dsimp only at c0 c1 d0 d1
        have HR := Lib.hid hr
        have HS := Lib.hid hs
        have hne := neq91 a1 a2 s1 s2
        obtain ⟨p, hp⟩ : ∃ p, decide ((a1, a2) = (s1, s2)) = p := ⟨_, rfl⟩
        rw [hp] at hne
        have HP := Lib.hid hp
        have g0 : (0 : Int) ≤ (k : Int) := by omega
        have g1 : (k : Int) < (n : Int) := by omega
        have g2 : (k : Int) < (m : Int) := by omega
        clear hr hs hp hB
        go_upto_region 6 with fail
        cases p
        · go_quiet (fail)
          have hBd := Lib.hid (below_then HB.out (⟨rfl, rfl, rfl, Nat.le_refl _, fun _ _ => rfl⟩ : RowKit.Below wr.heap.size wr (wr.drewN nq)))
          have hqv : q = false := by
            rw [← HQ.out]
            have h1 := HP.out
            simp only [decide_eq_false_iff_not] at h1 ⊢
            intro h; subst h
            exact h1 (HR.out.symm.trans HS.out)
          subst hqv
          go_wp2
          go_ret
          exact ⟨rfl, hBd.out⟩
        · go_quiet (fail)
          have hBd := Lib.hid (below_then HB.out (⟨rfl, rfl, rfl, Nat.le_refl _, fun _ _ => rfl⟩ : RowKit.Below wr.heap.size wr (wr.drewN nq)))
          go_wp2
          go_roundw
          case rel =>
            refine ⟨k + 1, by omega, by go_num, Lib.hid (fun j hj hj2 hjk => ?_), hBd.out⟩
            by_cases e : j = k
            · subst e; rw [HR.out, HS.out]; exact of_decide_eq_true HP.out
            · exact HA.out j hj hj2 (by omega)
          case measure => simp [RowKit.intOf]; omega
      · have hqv : q = true := by
          rw [← HQ.out]
          refine decide_eq_true (List.ext_getElem (by rw [HN.out, HM.out, HNM.out]) fun j h1 h2 => HA.out j h1 h2 (by rw [HN.out] at h1; omega))
        subst hqv
        clear hB
        go_wp2
        go_ret
        exact ⟨rfl, HB.out⟩
  · have e1 : ((n : Int) != (m : Int)) = true := by simp; omega
    have hqv : q = false := by
      rw [← HQ.out]
      simp only [decide_eq_false_iff_not]
      intro h; subst h
      exact hnm (HN.out.symm.trans HM.out)
    subst hqv
    go_enter Tryd.func33, Tryd.ntmps33
    go_wp2
    go_ret
    exact ⟨rfl, RowKit.Below.refl _ _⟩
end Go.Proofs.YtkkgdnmloojloaaDoor
namespace Go.Proofs.YtkkgdnmloojloaaDoor
open Go.RowKit Go.Lib
open Plain (Rg May mayB In Norm)
set_option maxRecDepth 100000 in
set_option maxHeartbeats 2000000 in
theorem rhas_any (R : List Rg) (A : Option Addr) (n c : Nat) (x : Int) (w : World) (h : Cl w A n c R) (hn : n ≤ 10000) :
    Calls Tryd.prog 43 #[.slice A n c, .int .i32 x] w fun e w' => e = .returned (.bool (hasB R x)) ∧ w' = w := by
  have HX := Lib.hid h.1
  have HR := Lib.hid h.2.1
  clear h
  obtain ⟨b, hb⟩ : ∃ b, hasB R x = b := ⟨_, rfl⟩
  rw [hb]
  have HB := Lib.hid hb
  clear hb
  go_enter Tryd.func43, Tryd.ntmps43
  go_wp2_with fail
  go_loopw [5] (fun i wr => ∃ k : Nat, k ≤ n ∧ i = .int .i64 k ∧ Hid (∀ j (hj : j < R.length), j < k → inB x R[j] = false) ∧ wr = w) (fun i _ => n - (RowKit.intOf i).toNat)
  case atStart => exact ⟨0, Nat.zero_le _, rfl, Lib.hid (fun j _ h => absurd h (by omega)), rfl⟩
  case round =>
    obtain ⟨k, hk, rfl, HA, rfl⟩ := hrel
    by_cases hlt : k < n
    · have hkl : k < R.length := by rw [HR.out]; exact hlt
      obtain ⟨ba, off, rfl, hba, c0, c1⟩ := HX.out.get k hkl
      obtain ⟨r, hr⟩ : ∃ r, R[k] = r := ⟨_, rfl⟩
      rw [hr] at c0 c1
      obtain ⟨lo, hi⟩ := r
      dsimp only at c0 c1
      have HRr := Lib.hid hr
      clear hr
      have hnx : inB x (lo, hi) = false → ∀ j (hj : j < R.length), j < k + 1 → inB x R[j] = false := fun hf j hj hjk => by
        rcases Nat.lt_or_ge j k with h | h
        · exact HA.out j hj h
        · obtain rfl : j = k := by omega
          rw [HRr.out]; exact hf
      have HNX := Lib.hid hnx
      clear hnx
      by_cases h1 : lo ≤ x
      · have g1 : decide (x ≥ lo) = true := by simp [h1]
        by_cases h2 : x ≤ hi
        · have g2 : decide (x ≤ hi) = true := by simp [h2]
          have hbt : b = true := by
            rw [← HB.out]
            exact List.any_eq_true.2 ⟨R[k], List.getElem_mem hkl, by rw [HRr.out]; unfold inB; simp [h1, h2]⟩
          subst hbt
          go_wp2_with fail
          go_ret
          exact ⟨rfl, rfl⟩
        · have g2 : decide (x ≤ hi) = false := by simp; omega
          go_wp2_with fail
          go_roundw
          case rel => exact ⟨k + 1, by omega, by go_num, Lib.hid (HNX.out (by unfold inB; simp; omega)), trivial⟩
          case measure => simp [RowKit.intOf]; omega
      · have g1 : decide (x ≥ lo) = false := by simp; omega
        go_wp2_with fail
        go_roundw
        case rel => exact ⟨k + 1, by omega, by go_num, Lib.hid (HNX.out (by unfold inB; simp; omega)), trivial⟩
        case measure => simp [RowKit.intOf]; omega
    · obtain rfl : k = n := by omega
      have hbf : b = false := by
        rw [← HB.out]
        unfold hasB
        rw [List.any_eq_false]
        intro r hr
        obtain ⟨j, hj, rfl⟩ := List.getElem_of_mem hr
        rw [HA.out j hj (by rw [← HR.out]; exact hj)]
        simp
      subst hbf
      go_wp2_with fail
      go_ret
      exact ⟨rfl, rfl⟩
end Go.Proofs.YtkkgdnmloojloaaDoor
namespace Go.Proofs.YtkkgdnmloojloaaDoor.Plain
def upL (R : List Rg) : List UInt8 := cputL R
theorem cputL_snoc (R : List Rg) (r : Rg) : cputL (R ++ [r]) = cputL R ++ (if R = [] then [] else [44]) ++ putR r := by
  unfold cputL
  cases R with
  | nil => simp [Go.Lib.join_one, Go.Lib.join_nil]
  | cons a R =>
    rw [List.cons_append, List.map_cons, List.map_cons, Go.Lib.join_cons, Go.Lib.join_cons, List.map_append]
    unfold Go.Lib.joinTail
    simp
end Go.Proofs.YtkkgdnmloojloaaDoor.Plain
namespace Go.Proofs.YtkkgdnmloojloaaDoor
open Go.RowKit Go.Lib
open Plain (Rg putR cputL hexZ)
def RPutRel (w : World) (n : Nat) (R : List Rg) (v i : Value) (wr : World) : Prop :=
  ∃ k : Nat, k ≤ n ∧ i = .int .i64 k ∧ v = .string (str (cputL (R.take k))) ∧ Below w.heap.size w wr
set_option maxRecDepth 100000 in
set_option maxHeartbeats 4000000 in
theorem rput_any (R : List Rg) (A : Option Addr) (n c : Nat) (w : World) (h : Cl w A n c R) (hn : n ≤ 10000) (hW : Wide R) :
    Calls Tryd.prog 48 #[.slice A n c] w fun e w' => e = .returned (.string (str (cputL R))) ∧ Below w.heap.size w w' := by
  have HX := Lib.hid h.1
  have HR := Lib.hid h.2.1
  have HW := Lib.hid hW
  clear h hW
  go_enter Tryd.func48, Tryd.ntmps48
  go_wp2_with fail
  go_loopw [3, 4] (fun v i wr => RPutRel w n R v i wr) (fun _ i _ => n - (RowKit.intOf i).toNat)
  case atStart => exact ⟨0, Nat.zero_le _, rfl, rfl, Below.refl _ _⟩
  case round =>
    obtain ⟨k, hk, rfl, rfl, hB⟩ := hrel
    have HB := Lib.hid hB
    clear hB
    by_cases hlt : k < n
    · have hkl : k < R.length := by rw [HR.out]; exact hlt
      obtain ⟨ba, off, rfl, hba, c0, c1⟩ := (HX.out.below HB.out).get k hkl
      obtain ⟨r, hr⟩ : ∃ r, R[k] = r := ⟨_, rfl⟩
      have hwd := HW.out r (by rw [← hr]; exact List.getElem_mem hkl)
      have hnext : cputL (R.take (k + 1)) = cputL (R.take k) ++ (if R.take k = [] then [] else [44]) ++ putR r := by
        rw [List.take_succ_eq_append_getElem hkl, hr, Plain.cputL_snoc]
      have hL := Plain.cputL_len (R.take k)
      have htl : (R.take k).length = k := by rw [List.length_take]; omega
      rw [htl] at hL
      rw [hr] at c0 c1
      obtain ⟨lo, hi⟩ := r
      obtain ⟨b1, b2, b3, b4⟩ := hwd
      dsimp only at c0 c1 b1 b2 b3 b4
      obtain ⟨Q, hQ⟩ : ∃ Q, cputL (R.take k) = Q := ⟨_, rfl⟩
      rw [hQ] at hnext hL ⊢
      have CLO := Lib.hid (fun W => rhex_any lo (by omega) (by omega) W)
      have CHI := Lib.hid (fun W => rhex_any hi (by omega) (by omega) W)
      have zl := Plain.hexZ_len lo
      have zh := Plain.hexZ_len hi
      obtain ⟨L, hLo⟩ : ∃ L, hexZ lo = L := ⟨_, rfl⟩
      obtain ⟨M, hHi⟩ : ∃ M, hexZ hi = M := ⟨_, rfl⟩
      have hpe : hi = lo → putR (lo, hi) = L := fun e => by unfold Plain.putR; dsimp only; rw [if_pos e, hLo]
      have hpn : hi ≠ lo → putR (lo, hi) = L ++ 45 :: M := fun e => by unfold Plain.putR; dsimp only; rw [if_neg e, hLo, hHi]
      rw [hLo] at CLO zl
      rw [hHi] at CHI zh
      have zQ : (str Q).size ≤ 36 * k := by rw [str_size]; exact hL
      have zL : (str L).size ≤ 17 := by rw [str_size]; exact zl
      have zM : (str M).size ≤ 17 := by rw [str_size]; exact zh
      have q44 : (⟨#[44]⟩ : ByteArray) = str [44] := rfl
      have q45 : (⟨#[45]⟩ : ByteArray) = str [45] := rfl
      have HNX := Lib.hid hnext
      have HPE := Lib.hid hpe
      have HPN := Lib.hid hpn
      have HTL := Lib.hid htl
      clear hnext hr hQ hpe hpn hLo hHi htl hL zl zh
      rcases Nat.eq_zero_or_pos k with h0 | h0
      · subst h0
        simp only [Nat.zero_mul, Nat.add_zero] at c0 c1
        by_cases he : hi = lo
        · have hne : (hi != lo) = false := by simp [he]
          have y1x : ¬ (9223372036854775807 < (str Q).size + (str L).size) := by omega
          go_wp2_with fail
          refine (CLO.out _).mono ?_
          rintro e w2 ⟨rfl, rfl⟩
          subst he
          go_upto_region 8 with fail
          go_quiet (fail)
          obtain ⟨w3, hw3⟩ : ∃ x, w2.drewN nq = x := ⟨_, rfl⟩
          have hb3 : Below w2.heap.size w2 w3 := by rw [← hw3]; exact ⟨rfl, rfl, rfl, Nat.le_refl _, fun _ _ => rfl⟩
          rw [hw3]
          have HB3 := Lib.hid (below_then HB.out hb3)
          have c0 := (hb3.cell (p := ⟨ba, off, none⟩) hba).trans c0
          have c1 := (hb3.cell (p := ⟨ba, off + 1, none⟩) hba).trans c1
          have hba := Nat.lt_of_lt_of_le hba hb3.size
          clear hw3 hb3
          go_wp2_with fail
          go_roundw
          case rel =>
            refine ⟨0 + 1, by omega, by go_num, ?_, HB3.out⟩
            rw [HNX.out, HPE.out (by trivial), if_pos (List.eq_nil_of_length_eq_zero HTL.out)]
            simp only [q44, q45, str_app, List.append_nil, List.append_assoc, List.cons_append, List.nil_append, List.singleton_append]
            try rfl
          case measure => simp [RowKit.intOf]; omega
        · have hne : (hi != lo) = true := by simp [he]
          have hne2 : (hi == lo) = false := by simp [he]
          have y1x : ¬ (9223372036854775807 < (str Q).size + (str L).size) := by omega
          have yU : (str Q ++ str L : ByteArray).size = (str Q).size + (str L).size := by rw [ByteArray.size_append]
          have y2 : ¬ (9223372036854775807 < (str Q ++ str L : ByteArray).size + 1) := by rw [yU]; omega
          have y2x : ¬ (9223372036854775807 < (str Q).size + (str L).size + 1) := by omega
          have y3 : ¬ (9223372036854775807 < (str Q ++ str L ++ ⟨#[45]⟩ : ByteArray).size + (str M).size) := by rw [ByteArray.size_append, yU]; have : (⟨#[45]⟩ : ByteArray).size = 1 := rfl; omega
          have y3x : ¬ (9223372036854775807 < (str Q).size + (str L).size + 1 + (str M).size) := by omega
          go_wp2_with fail
          refine (CLO.out _).mono ?_
          rintro e w2 ⟨rfl, rfl⟩
          go_upto_region 8 with fail
          go_quiet (fail)
          obtain ⟨w3, hw3⟩ : ∃ x, w2.drewN nq = x := ⟨_, rfl⟩
          have hb3 : Below w2.heap.size w2 w3 := by rw [← hw3]; exact ⟨rfl, rfl, rfl, Nat.le_refl _, fun _ _ => rfl⟩
          rw [hw3]
          have HB3 := Lib.hid (below_then HB.out hb3)
          have c0 := (hb3.cell (p := ⟨ba, off, none⟩) hba).trans c0
          have c1 := (hb3.cell (p := ⟨ba, off + 1, none⟩) hba).trans c1
          have hba := Nat.lt_of_lt_of_le hba hb3.size
          clear hw3 hb3
          go_wp2_with fail
          refine (CHI.out _).mono ?_
          rintro e w4 ⟨rfl, rfl⟩
          go_wp2_with fail
          go_roundw
          case rel =>
            refine ⟨0 + 1, by omega, by go_num, ?_, HB3.out⟩
            rw [HNX.out, HPN.out he, if_pos (List.eq_nil_of_length_eq_zero HTL.out)]
            simp only [q44, q45, str_app, List.append_nil, List.append_assoc, List.cons_append, List.nil_append, List.singleton_append]
            try rfl
          case measure => simp [RowKit.intOf]; omega
      · have g0 : decide ((k : Int) > 0) = true := by simp; omega
        have g0n : decide (0 < k) = true := by simp; omega
        by_cases he : hi = lo
        · have hne : (hi != lo) = false := by simp [he]
          have y4 : ¬ (9223372036854775807 < (str Q).size + 1) := by omega
          have yT : (str Q ++ ⟨#[44]⟩ : ByteArray).size = (str Q).size + 1 := by rw [ByteArray.size_append]; rfl
          have y1 : ¬ (9223372036854775807 < (str Q ++ ⟨#[44]⟩ : ByteArray).size + (str L).size) := by rw [yT]; omega
          have y1x : ¬ (9223372036854775807 < ((str Q).size + 1) + (str L).size) := by omega
          go_wp2_with fail
          refine (CLO.out _).mono ?_
          rintro e w2 ⟨rfl, rfl⟩
          subst he
          go_upto_region 8 with fail
          go_quiet (fail)
          obtain ⟨w3, hw3⟩ : ∃ x, w2.drewN nq = x := ⟨_, rfl⟩
          have hb3 : Below w2.heap.size w2 w3 := by rw [← hw3]; exact ⟨rfl, rfl, rfl, Nat.le_refl _, fun _ _ => rfl⟩
          rw [hw3]
          have HB3 := Lib.hid (below_then HB.out hb3)
          have c0 := (hb3.cell (p := ⟨ba, off + k * 2, none⟩) hba).trans c0
          have c1 := (hb3.cell (p := ⟨ba, off + k * 2 + 1, none⟩) hba).trans c1
          have hba := Nat.lt_of_lt_of_le hba hb3.size
          clear hw3 hb3
          go_wp2_with fail
          go_roundw
          case rel =>
            refine ⟨k + 1, by omega, by go_num, ?_, HB3.out⟩
            rw [HNX.out, HPE.out (by trivial), if_neg (fun hh => by have h2 := HTL.out; rw [hh] at h2; simp at h2; omega)]
            simp only [q44, q45, str_app, List.append_nil, List.append_assoc, List.cons_append, List.nil_append, List.singleton_append]
            try rfl
          case measure => simp [RowKit.intOf]; omega
        · have hne : (hi != lo) = true := by simp [he]
          have hne2 : (hi == lo) = false := by simp [he]
          have y4 : ¬ (9223372036854775807 < (str Q).size + 1) := by omega
          have yT : (str Q ++ ⟨#[44]⟩ : ByteArray).size = (str Q).size + 1 := by rw [ByteArray.size_append]; rfl
          have y1 : ¬ (9223372036854775807 < (str Q ++ ⟨#[44]⟩ : ByteArray).size + (str L).size) := by rw [yT]; omega
          have y1x : ¬ (9223372036854775807 < ((str Q).size + 1) + (str L).size) := by omega
          have yU : ((str Q ++ ⟨#[44]⟩) ++ str L : ByteArray).size = ((str Q).size + 1) + (str L).size := by rw [ByteArray.size_append]; rw [yT]
          have y2 : ¬ (9223372036854775807 < ((str Q ++ ⟨#[44]⟩) ++ str L : ByteArray).size + 1) := by rw [yU]; omega
          have y2x : ¬ (9223372036854775807 < ((str Q).size + 1) + (str L).size + 1) := by omega
          have y3 : ¬ (9223372036854775807 < ((str Q ++ ⟨#[44]⟩) ++ str L ++ ⟨#[45]⟩ : ByteArray).size + (str M).size) := by rw [ByteArray.size_append, yU]; have : (⟨#[45]⟩ : ByteArray).size = 1 := rfl; omega
          have y3x : ¬ (9223372036854775807 < ((str Q).size + 1) + (str L).size + 1 + (str M).size) := by omega
          go_wp2_with fail
          refine (CLO.out _).mono ?_
          rintro e w2 ⟨rfl, rfl⟩
          go_upto_region 8 with fail
          go_quiet (fail)
          obtain ⟨w3, hw3⟩ : ∃ x, w2.drewN nq = x := ⟨_, rfl⟩
          have hb3 : Below w2.heap.size w2 w3 := by rw [← hw3]; exact ⟨rfl, rfl, rfl, Nat.le_refl _, fun _ _ => rfl⟩
          rw [hw3]
          have HB3 := Lib.hid (below_then HB.out hb3)
          have c0 := (hb3.cell (p := ⟨ba, off + k * 2, none⟩) hba).trans c0
          have c1 := (hb3.cell (p := ⟨ba, off + k * 2 + 1, none⟩) hba).trans c1
          have hba := Nat.lt_of_lt_of_le hba hb3.size
          clear hw3 hb3
          go_wp2_with fail
          refine (CHI.out _).mono ?_
          rintro e w4 ⟨rfl, rfl⟩
          go_wp2_with fail
          go_roundw
          case rel =>
            refine ⟨k + 1, by omega, by go_num, ?_, HB3.out⟩
            rw [HNX.out, HPN.out he, if_neg (fun hh => by have h2 := HTL.out; rw [hh] at h2; simp at h2; omega)]
            simp only [q44, q45, str_app, List.append_nil, List.append_assoc, List.cons_append, List.nil_append, List.singleton_append]
            try rfl
          case measure => simp [RowKit.intOf]; omega
    · obtain rfl : k = n := by omega
      have hT : R.take k = R := List.take_of_length_le (by rw [HR.out]; exact Nat.le_refl _)
      have HT := Lib.hid hT
      clear hT
      go_wp2_with fail
      go_ret
      rw [HT.out]
      exact ⟨rfl, HB.out⟩
end Go.Proofs.YtkkgdnmloojloaaDoor
namespace Go.Proofs.YtkkgdnmloojloaaDoor.Plain
theorem Norm_lt {R : List Rg} (h : Norm R) {i j : Nat} (hij : i < j) (hj : j < R.length) : (R[i]'(by omega)).2 + 1 < R[j].1 := by
  have hs : R = R.take j ++ R.drop j := (List.take_append_drop _ _).symm
  have h2 := h
  rw [hs, Norm_append] at h2
  refine h2.2.2 _ ?_ _ ?_
  · have : (R.take j)[i]'(by rw [List.length_take]; omega) = R[i]'(by omega) := List.getElem_take
    rw [← this]; exact List.getElem_mem _
  · rw [List.drop_eq_getElem_cons hj]; exact List.mem_cons_self
theorem mem_take {R : List Rg} {k : Nat} {q : Rg} (h : q ∈ R.take k) : ∃ i, ∃ (hi : i < R.length), i < k ∧ R[i] = q := by
  obtain ⟨i, hi, rfl⟩ := List.getElem_of_mem h
  rw [List.length_take] at hi
  exact ⟨i, by omega, by omega, (List.getElem_take).symm⟩
theorem mem_drop {R : List Rg} {k : Nat} {q : Rg} (h : q ∈ R.drop k) : ∃ i, ∃ (hi : i < R.length), k ≤ i ∧ R[i] = q := by
  obtain ⟨i, hi, rfl⟩ := List.getElem_of_mem h
  rw [List.length_drop] at hi
  exact ⟨k + i, by omega, by omega, (List.getElem_drop).symm⟩
structure Ins (R : List Rg) (lo hi : Int) (k a : Nat) (lo' hi' : Int) : Prop where
  ka : k ≤ a
  ra : a ≤ R.length
  m0 : 0 ≤ lo'
  m1 : lo' ≤ lo
  m2 : hi ≤ hi'
  m3 : hi' ≤ 1114111
  far : ∀ q ∈ R.take k, q.2 + 1 < lo'
  near : ∀ j (hj : j < R.length), k ≤ j → lo ≤ R[j].2 + 1
  mid : ∀ x, (lo' ≤ x ∧ x ≤ hi') ↔ (lo ≤ x ∧ x ≤ hi) ∨ In ((R.take a).drop k) x
theorem Ins.first {R : List Rg} {lo hi : Int} {k : Nat} (hR : Norm R) (hm : May (lo, hi)) (hk : k ≤ R.length) (hf : ∀ q ∈ R.take k, q.2 + 1 < lo) (hn : ∀ (h : k < R.length), ¬ R[k].2 + 1 < lo) : Ins R lo hi k k lo hi where
  ka := Nat.le_refl _
  ra := hk
  m0 := hm.1
  m1 := Int.le_refl _
  m2 := Int.le_refl _
  m3 := hm.2.1
  far := hf
  near j hj hkj := by
    have h1 := hn (by omega)
    rcases Nat.eq_or_lt_of_le hkj with e | e
    · subst e; omega
    · have h2 := Norm_lt hR e hj
      have h3 := (Norm_may hR _ (List.getElem_mem hj)).2.2
      omega
  mid x := by
    rw [show (R.take k).drop k = [] from List.drop_eq_nil_of_le (by rw [List.length_take]; omega)]
    simp [In_nil]
theorem Ins.next {R : List Rg} {lo hi lo' hi' : Int} {k a : Nat} (hR : Norm R) (hm : lo ≤ hi) (h : Ins R lo hi k a lo' hi') (ha : a < R.length) (hc : R[a].1 ≤ hi' + 1) : Ins R lo hi k (a + 1) (min lo' R[a].1) (max hi' R[a].2) where
  ka := by have := h.ka; omega
  ra := ha
  m0 := by have := h.m0; have := (Norm_may hR _ (List.getElem_mem ha)).1; omega
  m1 := by have := h.m1; omega
  m2 := by have := h.m2; omega
  m3 := by have := h.m3; have := (Norm_may hR _ (List.getElem_mem ha)).2.1; omega
  far q hq := by
    have h1 := h.far q hq
    obtain ⟨i, hi, hik, rfl⟩ := mem_take hq
    have := h.ka
    have h2 := Norm_lt hR (show i < a by omega) ha
    omega
  near := h.near
  mid x := by
    have h1 := h.mid x
    have h2 := h.near a ha h.ka
    have h3 := h.m1
    have h4 := h.m2
    have h5 := (Norm_may hR _ (List.getElem_mem ha)).2.2
    have e : (R.take (a + 1)).drop k = (R.take a).drop k ++ [R[a]] := by
      rw [List.take_succ_eq_append_getElem ha, List.drop_append_of_le_length (by rw [List.length_take]; have := h.ka; omega)]
    rw [e, In_append, ← or_assoc, ← h1, In_cons]
    simp only [In_nil, or_false]
    omega
theorem Ins.last {R : List Rg} {lo hi lo' hi' : Int} {k a : Nat} (hR : Norm R) (hm : lo ≤ hi) (h : Ins R lo hi k a lo' hi') (hc : ∀ (ha : a < R.length), ¬ R[a].1 ≤ hi' + 1) :
    Norm (R.take k ++ [(lo', hi')] ++ R.drop a) ∧ ∀ x, In (R.take k ++ [(lo', hi')] ++ R.drop a) x ↔ In R x ∨ (lo ≤ x ∧ x ≤ hi) := by
  have hd : ∀ s ∈ R.drop a, hi' + 1 < s.1 := fun s hs => by
    obtain ⟨i, hi, hai, rfl⟩ := mem_drop hs
    have h1 := hc (by omega)
    rcases Nat.eq_or_lt_of_le hai with e | e
    · subst e; omega
    · have h2 := Norm_lt hR e hi
      have h3 := (Norm_may hR _ (List.getElem_mem (show a < R.length by omega))).2.2
      omega
  have hsp : R = R.take a ++ R.drop a := (List.take_append_drop _ _).symm
  have hsk : R.take a = R.take k ++ (R.take a).drop k := by
    have := (List.take_append_drop k (R.take a)).symm
    rw [List.take_take, Nat.min_eq_left h.ka] at this
    exact this
  have hNa : Norm (R.take a) ∧ Norm (R.drop a) ∧ ∀ r ∈ R.take a, ∀ s ∈ R.drop a, r.2 + 1 < s.1 := by have h2 := hR; rw [hsp, Norm_append] at h2; exact h2
  have hNk : Norm (R.take k) := by have h2 := hNa.1; rw [hsk, Norm_append] at h2; exact h2.1
  have hmm : May (lo', hi') := ⟨h.m0, h.m3, by have := h.m1; have := h.m2; show lo' ≤ hi'; omega⟩
  refine ⟨?_, fun x => ?_⟩
  · rw [Norm_append, Norm_append, Norm_one]
    refine ⟨⟨hNk, hmm, fun q hq s hs => ?_⟩, hNa.2.1, fun q hq s hs => ?_⟩
    · have e : s = (lo', hi') := by simpa using hs
      subst e; exact h.far q hq
    · rcases List.mem_append.1 hq with e | e
      · exact hNa.2.2 q (by rw [hsk]; exact List.mem_append_left _ e) s hs
      · have e : q = (lo', hi') := by simpa using e
        subst e; exact hd s hs
  · have h1 := h.mid x
    have e : In R x ↔ In (R.take k) x ∨ In ((R.take a).drop k) x ∨ In (R.drop a) x := by
      rw [← or_assoc, ← In_append, ← hsk, ← In_append, ← hsp]
    rw [e, In_append, In_append, In_cons]
    simp only [In_nil, or_false]
    show (In (R.take k) x ∨ (lo' ≤ x ∧ x ≤ hi')) ∨ _ ↔ _
    rw [h1]
    constructor
    · rintro ((h | h | h) | h)
      · exact .inl (.inl h)
      · exact .inr h
      · exact .inl (.inr (.inl h))
      · exact .inl (.inr (.inr h))
    · rintro ((h | h | h) | h)
      · exact .inl (.inl h)
      · exact .inl (.inr (.inr h))
      · exact .inr h
      · exact .inl (.inr (.inl h))
end Go.Proofs.YtkkgdnmloojloaaDoor.Plain
namespace Go.Proofs.YtkkgdnmloojloaaDoor
open Go.RowKit Go.Lib
open Plain (Rg May mayB In Norm Ins)
def InsPost (R : List Rg) (lo hi : Int) (w : World) (en : Ending) (w' : World) : Prop :=
  ∃ C, Norm C ∧ (∀ x, In C x ↔ In R x ∨ (lo ≤ x ∧ x ≤ hi)) ∧ C.length ≤ R.length + 1 ∧ ∃ A n c, en = .returned (.slice A n c) ∧ Cl w' A n c C ∧ n ≤ c ∧ Below w.heap.size w w'
def Ins1 (w : World) (n : Nat) (R : List Rg) (lo : Int) (v i : Value) (wr : World) : Prop :=
  ∃ k : Nat, k ≤ n ∧ i = .int .i64 k ∧ wr.ownsRow w.heap.size 91 2 v k (rgs (R.take k)) ∧ (∀ q ∈ R.take k, q.2 + 1 < lo) ∧ Below w.heap.size w wr
def Ins2 (w : World) (b : Nat) (R : List Rg) (lo hi : Int) (k : Nat) (v : Value) (i : Value) (wr : World) : Prop :=
  ∃ (a : Nat) (lo' hi' : Int), i = .int .i64 a ∧ Ins R lo hi k a lo' hi' ∧ wr.heap[b]? = some (.cells #[.int .i32 lo', .int .i32 hi'] 91 (0, 0)) ∧ wr.ownsRow (b + 1) 91 2 v k (rgs (R.take k)) ∧ Below b w wr
theorem own_cap {w : World} {base n c sz : Nat} {e : TypeId} {A : Option Addr} {xs : List Value} (h : w.ownsRow base e sz (.slice A n c) n xs) : n ≤ c := by
  rcases h.2 with ⟨hv, _⟩ | ⟨g, cap, cur, hv, _, _, h1, _⟩
  · injection hv with _ h1 h2; omega
  · injection hv with _ _ h2; omega
theorem Rs.drop {w : World} {ba off : Nat} {R : List Rg} (h : Rs w (some ⟨ba, off, none⟩) R) (a : Nat) : Rs w (some ⟨ba, off + a * 2, none⟩) (R.drop a) := fun hn => by
  rw [List.length_drop] at hn
  obtain ⟨b, o, e, h1, h2⟩ := h (by omega)
  injection e with e
  injection e with e1 e2
  subst e1 e2
  refine ⟨ba, off + a * 2, rfl, h1, fun i r hi => ?_⟩
  rw [List.getElem?_drop] at hi
  have := h2 (a + i) r hi
  rw [show off + a * 2 + i * 2 = off + (a + i) * 2 by omega]
  exact this
theorem Rs.spot {w : World} {ba off : Nat} {R : List Rg} (h : Rs w (some ⟨ba, off, none⟩) R) (k : Nat) (hk : k < R.length) : ba < w.heap.size ∧ w.cell? ⟨ba, off + k * 2, none⟩ = some (.int .i32 R[k].1) ∧ w.cell? ⟨ba, off + k * 2 + 1, none⟩ = some (.int .i32 R[k].2) := by
  obtain ⟨b, o, e, h1, h2, h3⟩ := h.get k hk
  injection e with e
  injection e with e1 e2
  subst e1 e2
  exact ⟨h1, h2, h3⟩
theorem below_then' {w w1 w2 : World} {b : Nat} (h : Below b w w1) (hb : Below w1.heap.size w1 w2) (hl : b < w1.heap.size) : Below b w w2 := h.trans (hb.mono (Nat.le_of_lt hl))
theorem box_set0 {w : World} {g : Nat} {x y : Value} {t : TypeId} (h : w.heap[g]? = some (.cells #[x, y] t (0, 0))) (a : Value) : (w.setCell ⟨g, 0, none⟩ a).heap[g]? = some (.cells #[a, y] t (0, 0)) := heap_setCell_same w g 0 _ _ a h
theorem box_set1 {w : World} {g : Nat} {x y : Value} {t : TypeId} (h : w.heap[g]? = some (.cells #[x, y] t (0, 0))) (a : Value) : (w.setCell ⟨g, 1, none⟩ a).heap[g]? = some (.cells #[x, a] t (0, 0)) := heap_setCell_same w g 1 _ _ a h
theorem own_far {w : World} {base b j n sz : Nat} {e : TypeId} {v : Value} {xs : List Value} (h : w.ownsRow base e sz v n xs) (hb : b < base) (u : Value) : (w.setCell ⟨b, j, none⟩ u).ownsRow base e sz v n xs :=
  h.kept (row := some b) ⟨rfl, rfl, rfl, by simp, fun k _ hk => heap_setCell_other w ⟨b, j, none⟩ k u (fun e => hk (by simp [e]))⟩ (by
    rcases hv : v.ownBlock with _ | k
    · exact .inl rfl
    · exact .inr (fun e => by injection e with e; have := (h.lt k hv).1; omega))
set_option maxRecDepth 100000 in
set_option maxHeartbeats 8000000 in
theorem rins_any {R : List Rg} {A : Option Addr} {n c : Nat} (lo hi : Int) {w : World} (h : Cl w A n c R) (hn : n ≤ 10000) (hnc : n ≤ c) (hN : Norm R) (hm : May (lo, hi)) :
    Calls Tryd.prog 61 #[.slice A n c, .agg #[.int .i32 lo, .int .i32 hi]] w (InsPost R lo hi w) := by
  obtain ⟨i91, hi91, y0, y1, y2⟩ := info_parts info91
  have HX := Lib.hid h.1
  have HR := Lib.hid h.2.1
  have HAN := Lib.hid h.2.2
  have HN := Lib.hid hN
  obtain ⟨p1, p2, p3⟩ := hm
  dsimp only at p1 p2 p3
  clear h hN
  have e2 : IntKind.i32.wrap (hi + 1) = hi + 1 := by rw [IntKind.wrap_i32]; omega
  go_enter Tryd.func61, Tryd.ntmps61
  go_upto_region 1 with fail
  obtain ⟨wa, hwa⟩ : ∃ x, w.alloc (.cells #[.int .i32 lo, .int .i32 hi] 91) = x := ⟨_, rfl⟩
  have hba : Below w.heap.size w wa := by rw [← hwa]; exact (Below.refl _ _).alloc (Nat.le_refl _) _
  have hxa : wa.heap[w.heap.size]? = some (.cells #[.int .i32 lo, .int .i32 hi] 91 (0, 0)) := by rw [← hwa]; exact heap_alloc_new2 _ _ _ _ rfl
  have hsz : wa.heap.size = w.heap.size + 1 := by rw [← hwa]; simp
  rw [hwa]
  have HXA := Lib.hid hxa
  have HBA := Lib.hid hba
  have HSZ := Lib.hid hsz
  clear hwa hba hxa hsz
  go_wp2_with fail
  go_loopw [5, 6] (fun v i wr => Ins1 wa n R lo v i wr) (fun _ i _ => n - (RowKit.intOf i).toNat)
  case atStart => exact ⟨0, Nat.zero_le _, rfl, World.ownsRow_nil _ _ _ _, fun q hq => by simp at hq, Below.refl _ _⟩
  case round =>
    obtain ⟨k, hk, rfl, hO, hF, hB⟩ := hrel
    obtain ⟨ua, uc, rfl⟩ := own_slice hO
    have HO := Lib.hid hO
    have HF := Lib.hid hF
    have HB := Lib.hid hB
    have HXk := Lib.hid (blk_later HXA.out hB)
    have HBw := Lib.hid (below_then HBA.out hB)
    obtain ⟨x0, x1, x2, x3⟩ := box2 HXk.out
    have lx := lt_of_some HXk.out
    clear hO hF hB
    by_cases hlt : k < n
    · have d1 : decide (k < n) = true := by simp [hlt]
      have d1i : decide ((k : Int) < (n : Int)) = true := by simp [hlt]
      have hkl : k < R.length := by rw [HR.out]; exact hlt
      obtain ⟨ba, off, rfl, hba, c0, c1⟩ := (HX.out.below HBw.out).get k hkl
      obtain ⟨s, hs⟩ : ∃ s, R[k] = s := ⟨_, rfl⟩
      have hms := Plain.Norm_may HN.out s (by rw [← hs]; exact List.getElem_mem hkl)
      rw [hs] at c0 c1
      obtain ⟨sl, sh⟩ := s
      obtain ⟨b1, b2, b3⟩ := hms
      dsimp only at c0 c1 b1 b2 b3
      have f1 : IntKind.i32.wrap (sh + 1) = sh + 1 := by rw [IntKind.wrap_i32]; omega
      have HS := Lib.hid hs
      have g0 : (0 : Int) ≤ (k : Int) := by omega
      have g1 : (k : Int) < (n : Int) := by omega
      clear hs
      by_cases hcc : sh + 1 < lo
      · have d2 : decide (sh + 1 < lo) = true := by simp [hcc]
        go_upto_region 3 with fail
        go_quiet (fail)
        obtain ⟨wq, hwq⟩ : ∃ x, wr.drewN nq = x := ⟨_, rfl⟩
        have hbq : Below wr.heap.size wr wq := by rw [← hwq]; exact ⟨rfl, rfl, rfl, Nat.le_refl _, fun _ _ => rfl⟩
        rw [hwq]
        have HOq := Lib.hid (own_below HO.out hbq)
        have HBq := Lib.hid (below_then HB.out hbq)
        have c0 := (hbq.cell (p := ⟨ba, off + k * 2, none⟩) hba).trans c0
        have c1 := (hbq.cell (p := ⟨ba, off + k * 2 + 1, none⟩) hba).trans c1
        have hba := Nat.lt_of_lt_of_le hba hbq.size
        have hnext : rgs (R.take (k + 1)) = rgs (R.take k) ++ [.int .i32 sl, .int .i32 sh] := by
          rw [List.take_succ_eq_append_getElem hkl, HS.out, rgs_append]; rfl
        have hF2 : ∀ q ∈ R.take (k + 1), q.2 + 1 < lo := fun q hq => by
          rw [List.take_succ_eq_append_getElem hkl, HS.out] at hq
          rcases List.mem_append.1 hq with e | e
          · exact HF.out q e
          · have e : q = (sl, sh) := by simpa using e
            subst e; exact hcc
        have HNX := Lib.hid hnext
        have HF2 := Lib.hid hF2
        clear hwq hbq x0 x1 x2 x3 lx hnext hF2
        go_wp2_with (at_builtin; refine wpList_append_own2 _ rfl (.tmp 22) (.tmp 27) _ rfl wa.heap.size 91 i91 _ 2 8 Tryd.underlying61 hi91 y0 y1 y2 rfl (by decide) (.slice ua k uc) k (rgs (R.take k)) rfl (HOq.out.alloc _) ⟨wq.heap.size, 0, none⟩ 1 1 [.int .i32 sl, .int .i32 sh] rfl rfl (CellsAt_add (CellsAt.new wq _ _)) ?c2 ?c3 ?c4 ?c5 ?_)
        case c2 => first | exact ⟨rfl, rfl⟩ | (intro u hu; simp only [List.mem_cons, List.not_mem_nil, or_false] at hu; rcases hu with rfl | rfl <;> rfl)
        case c3 => simp only [maxLen]; omega
        case c4 => omega
        case c5 => have := HBq.out.size; simp; omega
        intro v3 w7 hown2 hg2 hvb
        have hBn : Below wa.heap.size wa w7 := (HBq.out.alloc HBq.out.size _).grown hg2 (by have := HBq.out.size; simp; omega) (fun g hg => (HOq.out.lt g hg).1)
        have HBn := Lib.hid hBn
        have HO7 := Lib.hid hown2
        clear hBn hg2 hown2 hvb
        go_wp2
        go_roundw
        case rel =>
          refine ⟨k + 1, by omega, by go_num, ?_, HF2.out, HBn.out⟩
          rw [HNX.out]
          exact HO7.out
        case measure => simp [RowKit.intOf]; omega
      · have d2 : decide (sh + 1 < lo) = false := by simp; omega
        go_upto_region 3 with fail
        go_quiet (fail)
        obtain ⟨wq, hwq⟩ : ∃ x, wr.drewN nq = x := ⟨_, rfl⟩
        have hbq : Below wr.heap.size wr wq := by rw [← hwq]; exact ⟨rfl, rfl, rfl, Nat.le_refl _, fun _ _ => rfl⟩
        rw [hwq]
        have HOq := Lib.hid (own_below HO.out hbq)
        have HBq := Lib.hid (below_then HBw.out hbq)
        have HXq := Lib.hid (blk_later HXk.out hbq)
        have hI := Plain.Ins.first HN.out ⟨p1, p2, p3⟩ (Nat.le_of_lt hkl) HF.out (fun h => by rw [HS.out]; exact hcc)
        have HI := Lib.hid hI
        clear hwq hbq x0 x1 x2 x3 lx hI c0 c1
        go_wp2_with fail
        go_loopw [6] (fun i wr => Ins2 w w.heap.size R lo hi k (.slice ua k uc) i wr) (fun i _ => n - (RowKit.intOf i).toNat)
        case atStart => exact ⟨k, lo, hi, rfl, HI.out, HXq.out, by have h := HOq.out; rw [HSZ.out] at h; exact h, HBq.out⟩
        case round =>
          clear HB HO HXk HBw
          obtain ⟨a, lo', hi', rfl, hIn, hX2, hO2, hB2⟩ := hrel
          have r0 := hIn.m0
          have r1 := hIn.m1
          have r2 := hIn.m2
          have r3 := hIn.m3
          have r4 := hIn.ka
          have r5 := hIn.ra
          rw [HR.out] at r5
          have HIN := Lib.hid hIn
          have HX2 := Lib.hid hX2
          have HO2 := Lib.hid hO2
          have HB2 := Lib.hid hB2
          obtain ⟨x0, x1, x2, x3⟩ := box2 hX2
          have lx := lt_of_some hX2
          have e3 : IntKind.i32.wrap (hi' + 1) = hi' + 1 := by rw [IntKind.wrap_i32]; omega
          clear hIn hX2 hO2 hB2
          by_cases hla : a < n
          · have d1 : decide (a < n) = true := by simp [hla]
            have d1i : decide ((a : Int) < (n : Int)) = true := by simp [hla]
            have hal : a < R.length := by rw [HR.out]; exact hla
            obtain ⟨ba', off', hv', hba, c0, c1⟩ := (HX.out.below HB2.out).get a hal
            injection hv' with hv'
            injection hv' with hv1 hv2
            subst hv1 hv2
            obtain ⟨s, hs2⟩ : ∃ s, R[a] = s := ⟨_, rfl⟩
            have hms := Plain.Norm_may HN.out s (by rw [← hs2]; exact List.getElem_mem hal)
            rw [hs2] at c0 c1
            obtain ⟨tl, th⟩ := s
            obtain ⟨b1', b2', b3'⟩ := hms
            dsimp only at c0 c1 b1' b2' b3'
            have g0' : (0 : Int) ≤ (a : Int) := by omega
            have g1' : (a : Int) < (n : Int) := by omega
            by_cases hc2 : tl ≤ hi' + 1
            · have d2 : decide (tl ≤ hi' + 1) = true := by simp [hc2]
              have hnx := Plain.Ins.next HN.out p3 HIN.out hal (by rw [hs2]; exact hc2)
              rw [hs2] at hnx
              have HNX := Lib.hid hnx
              have HS2 := Lib.hid hs2
              clear hnx hs2
              have hne : ba ≠ w.heap.size := fun e => by have := HX.out.get a hal; obtain ⟨q, o, h1, h2, _⟩ := this; injection h1 with h1; injection h1 with h1 _; omega
              go_upto_region 6 with fail
              go_quiet (fail)
              obtain ⟨wz, hwz⟩ : ∃ x, wr.drewN nq = x := ⟨_, rfl⟩
              have hbz : Below wr.heap.size wr wz := by rw [← hwz]; exact ⟨rfl, rfl, rfl, Nat.le_refl _, fun _ _ => rfl⟩
              rw [hwz]
              have HOz := Lib.hid (own_below HO2.out hbz)
              have HBz := Lib.hid (below_then' HB2.out hbz lx)
              have HXz := Lib.hid (blk_later HX2.out hbz)
              have c0 := (hbz.cell (p := ⟨ba, off + a * 2, none⟩) hba).trans c0
              have c1 := (hbz.cell (p := ⟨ba, off + a * 2 + 1, none⟩) hba).trans c1
              have hba := Nat.lt_of_lt_of_le hba hbz.size
              clear hwz hbz x0 x1 x2 x3 lx
              obtain ⟨x0, x1, x2, x3⟩ := box2 HXz.out
              have lx := lt_of_some HXz.out
              go_upto_region 7 with fail
              go_region
              obtain ⟨wy, hwy⟩ : ∃ x, (wz.setCell ⟨w.heap.size, 0, none⟩ (.int .i32 (min lo' tl))).drew = x := ⟨_, rfl⟩
              have hxy : wy.heap[w.heap.size]? = some (.cells #[.int .i32 (min lo' tl), .int .i32 hi'] 91 (0, 0)) := by rw [← hwy]; exact box_set0 HXz.out _
              have hoy : wy.ownsRow (w.heap.size + 1) 91 2 (.slice ua k uc) k (rgs (R.take k)) := by rw [← hwy]; exact own_below (own_far HOz.out (Nat.lt_succ_self _) _) (Below.refl _ _).drew
              have hby : Below w.heap.size w wy := by rw [← hwy]; exact (HBz.out.setCell (p := ⟨w.heap.size, 0, none⟩) (Nat.le_refl _) _).drew
              have HXy := Lib.hid hxy
              have HOy := Lib.hid hoy
              have HBy := Lib.hid hby
              rw [hwy]
              clear hwy hxy hoy hby x0 x1 x2 x3 lx c0 c1 hba
              obtain ⟨hba, c0, c1⟩ := (HX.out.below HBy.out).spot a hal
              rw [HS2.out] at c0 c1
              dsimp only at c0 c1
              obtain ⟨x0, x1, x2, x3⟩ := box2 HXy.out
              have lx := lt_of_some HXy.out
              go_upto_region 8 with fail
              go_region
              obtain ⟨wx, hwx⟩ : ∃ x, (wy.setCell ⟨w.heap.size, 1, none⟩ (.int .i32 (max hi' th))).drew = x := ⟨_, rfl⟩
              have hxx : wx.heap[w.heap.size]? = some (.cells #[.int .i32 (min lo' tl), .int .i32 (max hi' th)] 91 (0, 0)) := by rw [← hwx]; exact box_set1 HXy.out _
              have hox : wx.ownsRow (w.heap.size + 1) 91 2 (.slice ua k uc) k (rgs (R.take k)) := by rw [← hwx]; exact own_below (own_far HOy.out (Nat.lt_succ_self _) _) (Below.refl _ _).drew
              have hbx : Below w.heap.size w wx := by rw [← hwx]; exact (HBy.out.setCell (p := ⟨w.heap.size, 1, none⟩) (Nat.le_refl _) _).drew
              have HXx := Lib.hid hxx
              have HOx := Lib.hid hox
              have HBx := Lib.hid hbx
              rw [hwx]
              clear hwx hxx hox hbx x0 x1 x2 x3 lx c0 c1 hba
              go_wp2_with fail
              go_roundw
              case rel => exact ⟨a + 1, _, _, by go_num, HNX.out, HXx.out, HOx.out, HBx.out⟩
              case measure => simp [RowKit.intOf]; omega
            · have d2 : decide (tl ≤ hi' + 1) = false := by simp; omega
              have hl := Plain.Ins.last HN.out p3 HIN.out (fun h => by rw [hs2]; exact hc2)
              have HL := Lib.hid hl
              clear hl
              go_upto_region 6 with fail
              go_quiet (fail)
              obtain ⟨wz, hwz⟩ : ∃ x, wr.drewN nq = x := ⟨_, rfl⟩
              have hbz : Below wr.heap.size wr wz := by rw [← hwz]; exact ⟨rfl, rfl, rfl, Nat.le_refl _, fun _ _ => rfl⟩
              rw [hwz]
              have HOz := Lib.hid (own_below HO2.out hbz)
              have HBz := Lib.hid (below_then' HB2.out hbz (lt_of_some HX2.out))
              have hxz := blk_later HX2.out hbz
              clear hwz hbz x0 x1 x2 x3 lx
              obtain ⟨x0, x1, x2, x3⟩ := box2 hxz
              have lx := lt_of_some hxz
              have hbase := HBz.out.size
              clear hxz
              go_upto_region 10 with fail
              go_wp2_with (at_builtin; refine wpList_append_own2 _ rfl (.tmp 66) (.tmp 68) _ rfl (w.heap.size + 1) 91 i91 _ 2 8 Tryd.underlying61 hi91 y0 y1 y2 rfl (by decide) (.slice ua k uc) k (rgs (R.take k)) rfl (HOz.out.alloc _) ⟨wz.heap.size, 0, none⟩ 1 1 [.int .i32 lo', .int .i32 hi'] rfl rfl (CellsAt_add (CellsAt.new wz _ _)) ?c2m1 ?c3m1 ?c4m1 ?c5m1 ?_)
              case c2m1 => first | exact ⟨rfl, rfl⟩ | (intro u hu; simp only [List.mem_cons, List.not_mem_nil, or_false] at hu; rcases hu with rfl | rfl <;> rfl)
              case c3m1 => simp only [maxLen]; omega
              case c4m1 => omega
              try (case c5m1 => have := HBz.out.size; simp; omega)
              intro v3 w7 hown2 hg2 hvb
              obtain ⟨va, vc, rfl⟩ := own_slice hown2
              have hB7 : Below w.heap.size w w7 := (HBz.out.alloc HBz.out.size _).grown hg2 (by simp; omega) (fun g hg => by have := (HOz.out.lt g hg).1; omega)
              have HB7 := Lib.hid hB7
              have HO7 := Lib.hid hown2
              have hb7 : w.heap.size + 1 ≤ w7.heap.size := by have := hg2.size; simp at this; omega
              clear hB7 hg2 hown2 hvb x0 x1 x2 x3 lx
              have HRs := Lib.hid (HX.out.below HB7.out)
              have hca : ¬ (c = a) := by omega
              go_wp2_with (at_builtin; refine wpList_append_own2 _ rfl (.tmp 70) (.tmp 73) _ rfl (w.heap.size + 1) 91 i91 _ 2 8 Tryd.underlying61 hi91 y0 y1 y2 rfl (by decide) (.slice va (k + 1) vc) (k + 1) (rgs (R.take k) ++ [.int .i32 lo', .int .i32 hi']) rfl HO7.out ⟨ba, off + a * 2, none⟩ (n - a) (c - a) (rgs (R.drop a)) rfl (by rw [rgs_len, List.length_drop, HR.out]) (HRs.out.drop a).flat (rgs_one _) (by simp only [maxLen]; omega) (by omega) (by omega) ?_)
              intro v9 w9 hown9 hg9 hvb9
              obtain ⟨za, zc, rfl⟩ := own_slice hown9
              have hB9 : Below w.heap.size w w9 := HB7.out.grown hg9 (by omega) (fun g hg => by have := (HO7.out.lt g hg).1; omega)
              have HB9 := Lib.hid hB9
              have HO9 := Lib.hid hown9
              clear hB9 hg9 hown9 hvb9
              go_wp2_with fail
              go_ret
              have hl : (R.take k ++ [(lo', hi')] ++ R.drop a).length = k + 1 + (n - a) := by rw [List.length_append, List.length_append, List.length_take, List.length_drop, HR.out]; simp; omega
              have h9 := HO9.out
              have hcap := own_cap h9
              refine ⟨R.take k ++ [(lo', hi')] ++ R.drop a, HL.out.1, HL.out.2, by rw [hl, HR.out]; omega, za, k + 1 + (n - a), zc, rfl, ?_, hcap, HB9.out⟩
              exact Cl.of_own91 (by rw [rgs_append, rgs_append, List.append_assoc]; exact own_base h9 (Nat.le_succ _)) hl
          · have d1 : decide (a < n) = false := by simp; omega
            have d1i : decide ((a : Int) < (n : Int)) = false := by simp; omega
            obtain rfl : a = n := by omega
            have hl := Plain.Ins.last HN.out p3 HIN.out (fun h => absurd h (by rw [HR.out]; omega))
            have HL := Lib.hid hl
            clear hl
            go_upto_region 6 with fail
            go_quiet (fail)
            obtain ⟨wz, hwz⟩ : ∃ x, wr.drewN nq = x := ⟨_, rfl⟩
            have hbz : Below wr.heap.size wr wz := by rw [← hwz]; exact ⟨rfl, rfl, rfl, Nat.le_refl _, fun _ _ => rfl⟩
            rw [hwz]
            have HOz := Lib.hid (own_below HO2.out hbz)
            have HBz := Lib.hid (below_then' HB2.out hbz (lt_of_some HX2.out))
            have hxz := blk_later HX2.out hbz
            clear hwz hbz x0 x1 x2 x3 lx
            obtain ⟨x0, x1, x2, x3⟩ := box2 hxz
            have lx := lt_of_some hxz
            have hbase := HBz.out.size
            clear hxz
            go_upto_region 10 with fail
            go_wp2_with (at_builtin; refine wpList_append_own2 _ rfl (.tmp 66) (.tmp 68) _ rfl (w.heap.size + 1) 91 i91 _ 2 8 Tryd.underlying61 hi91 y0 y1 y2 rfl (by decide) (.slice ua k uc) k (rgs (R.take k)) rfl (HOz.out.alloc _) ⟨wz.heap.size, 0, none⟩ 1 1 [.int .i32 lo', .int .i32 hi'] rfl rfl (CellsAt_add (CellsAt.new wz _ _)) ?c2e2 ?c3e2 ?c4e2 ?c5e2 ?_)
            case c2e2 => first | exact ⟨rfl, rfl⟩ | (intro u hu; simp only [List.mem_cons, List.not_mem_nil, or_false] at hu; rcases hu with rfl | rfl <;> rfl)
            case c3e2 => simp only [maxLen]; omega
            case c4e2 => omega
            try (case c5e2 => have := HBz.out.size; simp; omega)
            intro v3 w7 hown2 hg2 hvb
            obtain ⟨va, vc, rfl⟩ := own_slice hown2
            have hB7 : Below w.heap.size w w7 := (HBz.out.alloc HBz.out.size _).grown hg2 (by simp; omega) (fun g hg => by have := (HOz.out.lt g hg).1; omega)
            have HB7 := Lib.hid hB7
            have HO7 := Lib.hid hown2
            have hb7 : w.heap.size + 1 ≤ w7.heap.size := by have := hg2.size; simp at this; omega
            clear hB7 hg2 hown2 hvb x0 x1 x2 x3 lx
            have HRs := Lib.hid (HX.out.below HB7.out)
            by_cases hca : c = a
            all_goals
              go_wp2_with (at_builtin; refine wpList_append_own2 _ rfl (.tmp 70) (.tmp 73) _ rfl (w.heap.size + 1) 91 i91 _ 2 8 Tryd.underlying61 hi91 y0 y1 y2 rfl (by decide) (.slice va (k + 1) vc) (k + 1) (rgs (R.take k) ++ [.int .i32 lo', .int .i32 hi']) rfl HO7.out _ 0 _ [] rfl rfl (fun j u hu => by simp at hu) (fun u hu => by simp at hu) (by simp only [maxLen]; omega) (by omega) (by omega) ?_)
              intro v9 w9 hown9 hg9 hvb9
              obtain ⟨za, zc, rfl⟩ := own_slice hown9
              have hB9 : Below w.heap.size w w9 := HB7.out.grown hg9 (by omega) (fun g hg => by have := (HO7.out.lt g hg).1; omega)
              have HB9 := Lib.hid hB9
              have HO9 := Lib.hid hown9
              clear hB9 hg9 hown9 hvb9
              go_wp2_with fail
              go_ret
              have hd : R.drop a = [] := List.drop_eq_nil_of_le (by rw [HR.out]; exact Nat.le_refl _)
              have hl : (R.take k ++ [(lo', hi')] ++ R.drop a).length = k + 1 := by rw [hd, List.append_nil, List.length_append, List.length_take, HR.out]; simp <;> omega
              have h9 := HO9.out
              have hcap := own_cap h9
              refine ⟨R.take k ++ [(lo', hi')] ++ R.drop a, HL.out.1, HL.out.2, by rw [hl, HR.out]; omega, za, k + 1, zc, rfl, ?_, hcap, HB9.out⟩
              try rw [List.append_nil] at h9
              refine Cl.of_own91 (base := w.heap.size) ?_ hl
              rw [hd, List.append_nil, rgs_append]
              exact own_base h9 (Nat.le_succ _)
          
    · have d1 : decide (k < n) = false := by simp; omega
      have d1i : decide ((k : Int) < (n : Int)) = false := by simp; omega
      obtain rfl : k = n := by omega
      go_upto_region 3 with fail
      go_quiet (fail)
      obtain ⟨wq, hwq⟩ : ∃ x, wr.drewN nq = x := ⟨_, rfl⟩
      have hbq : Below wr.heap.size wr wq := by rw [← hwq]; exact ⟨rfl, rfl, rfl, Nat.le_refl _, fun _ _ => rfl⟩
      rw [hwq]
      have HOq := Lib.hid (own_below HO.out hbq)
      have HBq := Lib.hid (below_then HBw.out hbq)
      have HXq := Lib.hid (blk_later HXk.out hbq)
      have hI := Plain.Ins.first HN.out ⟨p1, p2, p3⟩ (by rw [HR.out]; exact Nat.le_refl _) HF.out (fun h => absurd h (by rw [HR.out]; omega))
      have HI := Lib.hid hI
      clear hwq hbq x0 x1 x2 x3 lx hI 
      go_wp2_with fail
      go_loopw [6] (fun i wr => Ins2 w w.heap.size R lo hi k (.slice ua k uc) i wr) (fun i _ => k - (RowKit.intOf i).toNat)
      case atStart => exact ⟨k, lo, hi, rfl, HI.out, HXq.out, by have h := HOq.out; rw [HSZ.out] at h; exact h, HBq.out⟩
      case round =>
        clear HB HO HXk HBw
        obtain ⟨a, lo', hi', rfl, hIn, hX2, hO2, hB2⟩ := hrel
        have r0 := hIn.m0
        have r1 := hIn.m1
        have r2 := hIn.m2
        have r3 := hIn.m3
        have r4 := hIn.ka
        have r5 := hIn.ra
        rw [HR.out] at r5
        have HIN := Lib.hid hIn
        have HX2 := Lib.hid hX2
        have HO2 := Lib.hid hO2
        have HB2 := Lib.hid hB2
        obtain ⟨x0, x1, x2, x3⟩ := box2 hX2
        have lx := lt_of_some hX2
        have e3 : IntKind.i32.wrap (hi' + 1) = hi' + 1 := by rw [IntKind.wrap_i32]; omega
        clear hIn hX2 hO2 hB2
        obtain rfl : k = a := by omega
        have d1 : decide (k < k) = false := by simp
        have d1i : decide ((k : Int) < (k : Int)) = false := by simp
        have hl := Plain.Ins.last HN.out p3 HIN.out (fun h => absurd h (by rw [HR.out]; omega))
        have HL := Lib.hid hl
        clear hl
        cases A with
        | none =>
          have hc0 := HAN.out rfl
          subst hc0
          go_upto_region 6 with fail
          go_quiet (fail)
          obtain ⟨wz, hwz⟩ : ∃ x, wr.drewN nq = x := ⟨_, rfl⟩
          have hbz : Below wr.heap.size wr wz := by rw [← hwz]; exact ⟨rfl, rfl, rfl, Nat.le_refl _, fun _ _ => rfl⟩
          rw [hwz]
          have HOz := Lib.hid (own_below HO2.out hbz)
          have HBz := Lib.hid (below_then' HB2.out hbz (lt_of_some HX2.out))
          have hxz := blk_later HX2.out hbz
          clear hwz hbz x0 x1 x2 x3 lx
          obtain ⟨x0, x1, x2, x3⟩ := box2 hxz
          have lx := lt_of_some hxz
          have hbase := HBz.out.size
          clear hxz
          go_upto_region 10 with fail
          go_wp2_with (at_builtin; refine wpList_append_own2 _ rfl (.tmp 66) (.tmp 68) _ rfl (w.heap.size + 1) 91 i91 _ 2 8 Tryd.underlying61 hi91 y0 y1 y2 rfl (by decide) (.slice ua k uc) k (rgs (R.take k)) rfl (HOz.out.alloc _) ⟨wz.heap.size, 0, none⟩ 1 1 [.int .i32 lo', .int .i32 hi'] rfl rfl (CellsAt_add (CellsAt.new wz _ _)) ?c2n4 ?c3n4 ?c4n4 ?c5n4 ?_)
          case c2n4 => first | exact ⟨rfl, rfl⟩ | (intro u hu; simp only [List.mem_cons, List.not_mem_nil, or_false] at hu; rcases hu with rfl | rfl <;> rfl)
          case c3n4 => simp only [maxLen]; omega
          case c4n4 => omega
          try (case c5n4 => have := HBz.out.size; simp; omega)
          intro v3 w7 hown2 hg2 hvb
          obtain ⟨va, vc, rfl⟩ := own_slice hown2
          have hB7 : Below w.heap.size w w7 := (HBz.out.alloc HBz.out.size _).grown hg2 (by simp; omega) (fun g hg => by have := (HOz.out.lt g hg).1; omega)
          have HB7 := Lib.hid hB7
          have HO7 := Lib.hid hown2
          have hb7 : w.heap.size + 1 ≤ w7.heap.size := by have := hg2.size; simp at this; omega
          clear hB7 hg2 hown2 hvb x0 x1 x2 x3 lx
          go_wp2_with (at_builtin; refine wpList_append_own_none rfl (.tmp 70) (.tmp 73) _ rfl (w.heap.size + 1) 91 i91 2 Tryd.underlying61 hi91 (.slice va (k + 1) vc) (k + 1) (rgs (R.take k) ++ [.int .i32 lo', .int .i32 hi']) rfl HO7.out rfl ?_)
          go_ret
          have hd : R.drop k = [] := List.drop_eq_nil_of_le (by rw [HR.out]; exact Nat.le_refl _)
          obtain ⟨q1, q2⟩ := HL.out
          rw [hd, List.append_nil] at q1 q2
          have hl : (R.take k ++ [(lo', hi')]).length = k + 1 := by rw [List.length_append, List.length_take, HR.out]; simp
          refine ⟨R.take k ++ [(lo', hi')], q1, q2, by rw [hl, HR.out]; exact Nat.le_refl _, va, k + 1, vc, rfl, ?_, own_cap HO7.out, HB7.out⟩
          have h := HO7.out
          exact Cl.of_own91 (by rw [rgs_append]; exact own_base h (Nat.le_succ _)) hl
        | some ad =>
          go_upto_region 6 with fail
          go_quiet (fail)
          obtain ⟨wz, hwz⟩ : ∃ x, wr.drewN nq = x := ⟨_, rfl⟩
          have hbz : Below wr.heap.size wr wz := by rw [← hwz]; exact ⟨rfl, rfl, rfl, Nat.le_refl _, fun _ _ => rfl⟩
          rw [hwz]
          have HOz := Lib.hid (own_below HO2.out hbz)
          have HBz := Lib.hid (below_then' HB2.out hbz (lt_of_some HX2.out))
          have hxz := blk_later HX2.out hbz
          clear hwz hbz x0 x1 x2 x3 lx
          obtain ⟨x0, x1, x2, x3⟩ := box2 hxz
          have lx := lt_of_some hxz
          have hbase := HBz.out.size
          clear hxz
          go_upto_region 10 with fail
          go_wp2_with (at_builtin; refine wpList_append_own2 _ rfl (.tmp 66) (.tmp 68) _ rfl (w.heap.size + 1) 91 i91 _ 2 8 Tryd.underlying61 hi91 y0 y1 y2 rfl (by decide) (.slice ua k uc) k (rgs (R.take k)) rfl (HOz.out.alloc _) ⟨wz.heap.size, 0, none⟩ 1 1 [.int .i32 lo', .int .i32 hi'] rfl rfl (CellsAt_add (CellsAt.new wz _ _)) ?c2e3 ?c3e3 ?c4e3 ?c5e3 ?_)
          case c2e3 => first | exact ⟨rfl, rfl⟩ | (intro u hu; simp only [List.mem_cons, List.not_mem_nil, or_false] at hu; rcases hu with rfl | rfl <;> rfl)
          case c3e3 => simp only [maxLen]; omega
          case c4e3 => omega
          try (case c5e3 => have := HBz.out.size; simp; omega)
          intro v3 w7 hown2 hg2 hvb
          obtain ⟨va, vc, rfl⟩ := own_slice hown2
          have hB7 : Below w.heap.size w w7 := (HBz.out.alloc HBz.out.size _).grown hg2 (by simp; omega) (fun g hg => by have := (HOz.out.lt g hg).1; omega)
          have HB7 := Lib.hid hB7
          have HO7 := Lib.hid hown2
          have hb7 : w.heap.size + 1 ≤ w7.heap.size := by have := hg2.size; simp at this; omega
          clear hB7 hg2 hown2 hvb x0 x1 x2 x3 lx
          have HRs := Lib.hid (HX.out.below HB7.out)
          by_cases hca : c = k
          all_goals
            go_wp2_with (at_builtin; refine wpList_append_own2 _ rfl (.tmp 70) (.tmp 73) _ rfl (w.heap.size + 1) 91 i91 _ 2 8 Tryd.underlying61 hi91 y0 y1 y2 rfl (by decide) (.slice va (k + 1) vc) (k + 1) (rgs (R.take k) ++ [.int .i32 lo', .int .i32 hi']) rfl HO7.out _ 0 _ [] rfl rfl (fun j u hu => by simp at hu) (fun u hu => by simp at hu) (by simp only [maxLen]; omega) (by omega) (by omega) ?_)
            intro v9 w9 hown9 hg9 hvb9
            obtain ⟨za, zc, rfl⟩ := own_slice hown9
            have hB9 : Below w.heap.size w w9 := HB7.out.grown hg9 (by omega) (fun g hg => by have := (HO7.out.lt g hg).1; omega)
            have HB9 := Lib.hid hB9
            have HO9 := Lib.hid hown9
            clear hB9 hg9 hown9 hvb9
            go_wp2_with fail
            go_ret
            have hd : R.drop k = [] := List.drop_eq_nil_of_le (by rw [HR.out]; exact Nat.le_refl _)
            have hl : (R.take k ++ [(lo', hi')] ++ R.drop k).length = k + 1 := by rw [hd, List.append_nil, List.length_append, List.length_take, HR.out]; simp <;> omega
            have h9 := HO9.out
            have hcap := own_cap h9
            refine ⟨R.take k ++ [(lo', hi')] ++ R.drop k, HL.out.1, HL.out.2, by rw [hl, HR.out]; omega, za, k + 1, zc, rfl, ?_, hcap, HB9.out⟩
            try rw [List.append_nil] at h9
            refine Cl.of_own91 (base := w.heap.size) ?_ hl
            rw [hd, List.append_nil, rgs_append]
            exact own_base h9 (Nat.le_succ _)
        
end Go.Proofs.YtkkgdnmloojloaaDoor
namespace Go.Proofs.YtkkgdnmloojloaaDoor
open Go.RowKit Go.Lib
open Plain (Rg May mayB In Norm cls)
def ROfRel (w : World) (n : Nat) (R : List Rg) (v i : Value) (wr : World) : Prop :=
  ∃ (k m c : Nat) (A : Option Addr) (C : List Rg), k ≤ n ∧ i = .int .i64 k ∧ v = .slice A m c ∧ Cl wr A m c C ∧ m ≤ c ∧ Norm C ∧ (∀ x, In C x ↔ In ((R.take k).filter mayB) x) ∧ C.length ≤ k ∧ Below w.heap.size w wr
set_option maxRecDepth 100000 in
set_option maxHeartbeats 4000000 in
theorem rof_any {R : List Rg} {A : Option Addr} {n c : Nat} {w : World} (h : Cl w A n c R) (hn : n ≤ 10000) : Calls Tryd.prog 35 #[.slice A n c] w (ClPost (cls R) w) := by
  have HX := Lib.hid h.1
  have HR := Lib.hid h.2.1
  clear h
  go_enter Tryd.func35, Tryd.ntmps35
  go_wp2_with fail
  go_loopw [3, 4] (fun v i wr => ROfRel w n R v i wr) (fun _ i _ => n - (RowKit.intOf i).toNat)
  case atStart => exact ⟨0, 0, 0, none, [], Nat.zero_le _, rfl, rfl, cl_nil _, Nat.le_refl _, trivial, fun x => Iff.rfl, Nat.le_refl _, Below.refl _ _⟩
  case round =>
    obtain ⟨k, m, cc, AA, C, hk, rfl, rfl, hC, hmc, hNC, hIC, hlC, hB⟩ := hrel
    have HC := Lib.hid hC
    have HNC := Lib.hid hNC
    have HIC := Lib.hid hIC
    have HLC := Lib.hid hlC
    have HB := Lib.hid hB
    have hm := hC.2.1
    have hm10 : m ≤ 10000 := by rw [← hm]; omega
    clear hC hNC hIC hlC hB hm
    by_cases hlt : k < n
    · have hkl : k < R.length := by rw [HR.out]; exact hlt
      obtain ⟨ba, off, rfl, hba, c0, c1⟩ := (HX.out.below HB.out).get k hkl
      obtain ⟨s, hs⟩ : ∃ s, R[k] = s := ⟨_, rfl⟩
      rw [hs] at c0 c1
      have hnx : (R.take (k + 1)).filter mayB = (R.take k).filter mayB ++ [s].filter mayB := by
        rw [List.take_succ_eq_append_getElem hkl, hs, List.filter_append]
      obtain ⟨lo, hi⟩ := s
      dsimp only at c0 c1
      have HS := Lib.hid hs
      have HNX := Lib.hid hnx
      have CM := Lib.hid (fun W => rmay_any lo hi W)
      obtain ⟨q, hq⟩ : ∃ q, mayB (lo, hi) = q := ⟨_, rfl⟩
      rw [hq] at CM
      have HQ := Lib.hid hq
      clear hs hnx hq
      go_wp2_with fail
      refine (CM.out _).mono ?_
      rintro e w2 ⟨rfl, hb⟩
      have HB2 := Lib.hid (below_then HB.out hb)
      have HC2 := Lib.hid (HC.out.below hb)
      have c0 := (hb.cell (p := ⟨ba, off + k * 2, none⟩) hba).trans c0
      have c1 := (hb.cell (p := ⟨ba, off + k * 2 + 1, none⟩) hba).trans c1
      have hba := Nat.lt_of_lt_of_le hba hb.size
      clear hb
      cases q
      · go_wp2_with fail
        go_roundw
        case rel =>
          have h0 : [(lo, hi)].filter mayB = [] := by rw [List.filter_cons, if_neg (by rw [HQ.out]; simp), List.filter_nil]
          refine ⟨k + 1, m, cc, AA, C, by omega, by go_num, rfl, HC2.out, hmc, HNC.out, fun x => ?_, by have := HLC.out; omega, HB2.out⟩
          rw [HNX.out, h0, List.append_nil]; exact HIC.out x
        case measure => simp [RowKit.intOf]; omega
      · have hmay := (Plain.mayB_iff _).1 HQ.out
        have CI := Lib.hid (rins_any lo hi HC2.out hm10 hmc HNC.out hmay)
        clear hmay
        go_wp2_with fail
        refine CI.out.mono ?_
        rintro e w3 ⟨D, hND, hID, hlD, A3, n3, c3, rfl, hC3, hc3, hb3⟩
        have HB3 := Lib.hid (below_then HB2.out hb3)
        have HC3 := Lib.hid hC3
        have HND := Lib.hid hND
        have HID := Lib.hid hID
        have HLD := Lib.hid hlD
        clear hb3 hC3 hND hID hlD c0 c1 hba
        go_wp2_with fail
        go_roundw
        case rel =>
          have h0 : [(lo, hi)].filter mayB = [(lo, hi)] := by rw [List.filter_cons, if_pos HQ.out, List.filter_nil]
          refine ⟨k + 1, n3, c3, A3, D, by omega, by go_num, rfl, HC3.out, hc3, HND.out, fun x => ?_, by have := HLC.out; have := HLD.out; omega, HB3.out⟩
          rw [HNX.out, h0, Plain.In_append, HID.out x, HIC.out x, Plain.In_cons]
          simp only [Plain.In_nil, or_false]
        case measure => simp [RowKit.intOf]; omega
    · obtain rfl : k = n := by omega
      have hT : R.take k = R := List.take_of_length_le (by rw [HR.out]; exact Nat.le_refl _)
      have hI := HIC.out
      rw [hT] at hI
      obtain rfl := Plain.cls_is HNC.out hI
      clear hT hI
      go_wp2_with fail
      go_ret
      exact ⟨AA, m, cc, rfl, HC.out, HB.out⟩
end Go.Proofs.YtkkgdnmloojloaaDoor
