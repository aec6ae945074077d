/- VaryTexts' walk for every input. Conditions: none but the text's reach. -/
import Derived.Test.YtkkgdnmloojloaaDoorWalksE
set_option linter.unusedVariables false
set_option linter.unusedSimpArgs false
namespace Go.Proofs.YtkkgdnmloojloaaDoor
open Go.RowKit Go.Lib
theorem bne_of_size {t : ByteArray} (h : 0 < t.size) : t.toList.isEmpty = false := by
  rw [Go.ByteArray.toList_eq]
  cases h2 : t.data.toList with
  | nil => have h3 : t.size = t.data.toList.length := Lib.size_eq t; rw [h2] at h3; rw [h3] at h; simp at h
  | cons => rfl
set_option maxRecDepth 1000000 in
set_option maxHeartbeats 1000000 in
theorem texts_walk_fb (m c k n wh : Nat) (s t tx tk q2 u2 : ByteArray) (W : World)
    (hss : s.size ≤ 1152921504606846976) (hts : t.size ≤ 1152921504606846976) (ht1 : 0 < t.size) (htx : t ++ ⟨#[120]⟩ = tx) (hc : c < 65536) (hm : m < 256) (hn : (m : Int) % 40 = (n : Int)) (hn4 : n < 40) (hk : ((c : Int) % (t.size : Int)) = (k : Int)) (hkt : k < t.size) (htk : t.extract 0 k = tk)
    (hwh : (t.size : Int) - (s.size : Int) = (wh : Int)) (hf : s.size ≤ n) (hb : wh ≤ k)
    (cT : ∀ w, Calls Tryd.prog 16 #[.string s] w fun e w' => e = .returned (.string t) ∧ Below w.heap.size w w')
    (cU1 : ∀ w, Calls Tryd.prog 22 #[.agg #[.string tx, .int .i64 0], .int .u64 n] w fun e w' => e = .returned (.tuple #[.string s, .agg #[.string ⟨#[120]⟩, .int .i64 0]]) ∧ Below w.heap.size w w')
    (cU2 : ∀ w, Calls Tryd.prog 22 #[.agg #[.string tk, .int .i64 0], .int .u64 n] w fun e w' => e = .returned (.tuple #[.string u2, .agg #[.string q2, .int .i64 4]]) ∧ Below w.heap.size w w') :
    Calls Tryd.prog 8 #[.string s, .int .u8 m, .int .u16 c] W fun e w' => e = .returned (.bool true) ∧ Below W.heap.size W w' := by
  have CcT := Lib.hid cT
  have CcU1 := Lib.hid cU1
  have CcU2 := Lib.hid cU2
  clear cT cU1 cU2
  have t1 : t.toList.isEmpty = false := bne_of_size ht1
  have t2 : (t.toList == []) = false := by cases h : t.toList with | nil => rw [h] at t1; cases t1 | cons => rfl
  have e1 : decide ((s.size : Int) ≤ (n : Int)) = true := by simp; omega
  have e2 : decide (s.size ≤ n) = true := by simp; omega
  have e3 : decide ((wh : Int) ≤ (k : Int)) = true := by simp; omega
  have e4 : decide (wh ≤ k) = true := by simp; omega
  have hw1 : (s.size : Int) % 18446744073709551616 = (s.size : Int) := by omega
  have hw2 : (n : Int) % 18446744073709551616 = (n : Int) := by omega
  go_enter Tryd.func8, Tryd.ntmps8
  go_wp2_with fail
  refine (examples_any _).mono ?_
  rintro en1 w1 ⟨rfl, hb⟩
  have hB1 := below_then (Below.refl _ _) hb
  have L1 := hb.size
  try simp at L1
  have HB1 := Lib.hid hB1
  clear hb hB1
  go_wp2_with fail
  refine (CcT.out _).mono ?_
  rintro en2 w2 ⟨rfl, hb⟩
  have hB2 := below_then HB1.out hb
  have L2 := hb.size
  try simp at L2
  have HB2 := Lib.hid hB2
  clear hb hB2
  go_wp2_with fail
  refine (CcU1.out _).mono ?_
  rintro en3 w3 ⟨rfl, hb⟩
  have hB3 := below_then HB2.out hb
  have L3 := hb.size
  try simp at L3
  have HB3 := Lib.hid hB3
  clear hb hB3
  go_wp2_with fail
  refine (CcU2.out _).mono ?_
  rintro en4 w4 ⟨rfl, hb⟩
  have hB4 := below_then (below_alloc HB3.out _) hb
  have L4 := hb.size
  try simp at L4
  have hKR4 : w4.heap[w3.heap.size]? = some (.cells #[.string ⟨#[120]⟩, .int .i64 0] 24 (0, 0)) := blk_later (heap_alloc_new2 _ _ _ _ (by simp)) hb
  have lR4 : w3.heap.size < w4.heap.size := lt_of_some hKR4
  obtain ⟨mR4, nR4, fR4, gR4⟩ := box2 hKR4
  have KR4 := Lib.hid hKR4
  clear hKR4
  have HB4 := Lib.hid hB4
  clear hb hB4
  go_wp2
  go_ret
  exact ⟨rfl, (below_alloc HB4.out _)⟩

set_option maxRecDepth 1000000 in
set_option maxHeartbeats 1000000 in
theorem texts_walk_fs (m c k n wh : Nat) (s t tx tk q2 u2 : ByteArray) (W : World)
    (hss : s.size ≤ 1152921504606846976) (hts : t.size ≤ 1152921504606846976) (ht1 : 0 < t.size) (htx : t ++ ⟨#[120]⟩ = tx) (hc : c < 65536) (hm : m < 256) (hn : (m : Int) % 40 = (n : Int)) (hn4 : n < 40) (hk : ((c : Int) % (t.size : Int)) = (k : Int)) (hkt : k < t.size) (htk : t.extract 0 k = tk)
    (hwh : (t.size : Int) - (s.size : Int) = (wh : Int)) (hf : s.size ≤ n) (hb : k < wh)
    (cT : ∀ w, Calls Tryd.prog 16 #[.string s] w fun e w' => e = .returned (.string t) ∧ Below w.heap.size w w')
    (cU1 : ∀ w, Calls Tryd.prog 22 #[.agg #[.string tx, .int .i64 0], .int .u64 n] w fun e w' => e = .returned (.tuple #[.string s, .agg #[.string ⟨#[120]⟩, .int .i64 0]]) ∧ Below w.heap.size w w')
    (cU2 : ∀ w, Calls Tryd.prog 22 #[.agg #[.string tk, .int .i64 0], .int .u64 n] w fun e w' => e = .returned (.tuple #[.string u2, .agg #[.string q2, .int .i64 4]]) ∧ Below w.heap.size w w') :
    Calls Tryd.prog 8 #[.string s, .int .u8 m, .int .u16 c] W fun e w' => e = .returned (.bool true) ∧ Below W.heap.size W w' := by
  have CcT := Lib.hid cT
  have CcU1 := Lib.hid cU1
  have CcU2 := Lib.hid cU2
  clear cT cU1 cU2
  have t1 : t.toList.isEmpty = false := bne_of_size ht1
  have t2 : (t.toList == []) = false := by cases h : t.toList with | nil => rw [h] at t1; cases t1 | cons => rfl
  have e1 : decide ((s.size : Int) ≤ (n : Int)) = true := by simp; omega
  have e2 : decide (s.size ≤ n) = true := by simp; omega
  have e3 : decide ((wh : Int) ≤ (k : Int)) = false := by simp; omega
  have e4 : decide (wh ≤ k) = false := by simp; omega
  have hw1 : (s.size : Int) % 18446744073709551616 = (s.size : Int) := by omega
  have hw2 : (n : Int) % 18446744073709551616 = (n : Int) := by omega
  go_enter Tryd.func8, Tryd.ntmps8
  go_wp2_with fail
  refine (examples_any _).mono ?_
  rintro en1 w1 ⟨rfl, hb⟩
  have hB1 := below_then (Below.refl _ _) hb
  have L1 := hb.size
  try simp at L1
  have HB1 := Lib.hid hB1
  clear hb hB1
  go_wp2_with fail
  refine (CcT.out _).mono ?_
  rintro en2 w2 ⟨rfl, hb⟩
  have hB2 := below_then HB1.out hb
  have L2 := hb.size
  try simp at L2
  have HB2 := Lib.hid hB2
  clear hb hB2
  go_wp2_with fail
  refine (CcU1.out _).mono ?_
  rintro en3 w3 ⟨rfl, hb⟩
  have hB3 := below_then HB2.out hb
  have L3 := hb.size
  try simp at L3
  have HB3 := Lib.hid hB3
  clear hb hB3
  go_wp2_with fail
  refine (CcU2.out _).mono ?_
  rintro en4 w4 ⟨rfl, hb⟩
  have hB4 := below_then (below_alloc HB3.out _) hb
  have L4 := hb.size
  try simp at L4
  have hKR4 : w4.heap[w3.heap.size]? = some (.cells #[.string ⟨#[120]⟩, .int .i64 0] 24 (0, 0)) := blk_later (heap_alloc_new2 _ _ _ _ (by simp)) hb
  have lR4 : w3.heap.size < w4.heap.size := lt_of_some hKR4
  obtain ⟨mR4, nR4, fR4, gR4⟩ := box2 hKR4
  have KR4 := Lib.hid hKR4
  clear hKR4
  have HB4 := Lib.hid hB4
  clear hb hB4
  go_wp2
  go_ret
  exact ⟨rfl, (below_alloc HB4.out _)⟩

set_option maxRecDepth 1000000 in
set_option maxHeartbeats 1000000 in
theorem texts_walk_nb (m c k n wh : Nat) (s t tx tk q2 u2 : ByteArray) (W : World)
    (hss : s.size ≤ 1152921504606846976) (hts : t.size ≤ 1152921504606846976) (ht1 : 0 < t.size) (htx : t ++ ⟨#[120]⟩ = tx) (hc : c < 65536) (hm : m < 256) (hn : (m : Int) % 40 = (n : Int)) (hn4 : n < 40) (hk : ((c : Int) % (t.size : Int)) = (k : Int)) (hkt : k < t.size) (htk : t.extract 0 k = tk)
    (hwh : (t.size : Int) - (s.size : Int) = (wh : Int)) (hf : n < s.size) (hb : wh ≤ k)
    (cT : ∀ w, Calls Tryd.prog 16 #[.string s] w fun e w' => e = .returned (.string t) ∧ Below w.heap.size w w')
    (cU1 : ∀ w, Calls Tryd.prog 22 #[.agg #[.string tx, .int .i64 0], .int .u64 n] w fun e w' => e = .returned (.tuple #[.string ⟨#[]⟩, .agg #[.string ⟨#[]⟩, .int .i64 3]]) ∧ Below w.heap.size w w')
    (cU2 : ∀ w, Calls Tryd.prog 22 #[.agg #[.string tk, .int .i64 0], .int .u64 n] w fun e w' => e = .returned (.tuple #[.string u2, .agg #[.string q2, .int .i64 3]]) ∧ Below w.heap.size w w') :
    Calls Tryd.prog 8 #[.string s, .int .u8 m, .int .u16 c] W fun e w' => e = .returned (.bool true) ∧ Below W.heap.size W w' := by
  have CcT := Lib.hid cT
  have CcU1 := Lib.hid cU1
  have CcU2 := Lib.hid cU2
  clear cT cU1 cU2
  have t1 : t.toList.isEmpty = false := bne_of_size ht1
  have t2 : (t.toList == []) = false := by cases h : t.toList with | nil => rw [h] at t1; cases t1 | cons => rfl
  have e1 : decide ((s.size : Int) ≤ (n : Int)) = false := by simp; omega
  have e2 : decide (s.size ≤ n) = false := by simp; omega
  have e3 : decide ((wh : Int) ≤ (k : Int)) = true := by simp; omega
  have e4 : decide (wh ≤ k) = true := by simp; omega
  have hw1 : (s.size : Int) % 18446744073709551616 = (s.size : Int) := by omega
  have hw2 : (n : Int) % 18446744073709551616 = (n : Int) := by omega
  go_enter Tryd.func8, Tryd.ntmps8
  go_wp2_with fail
  refine (examples_any _).mono ?_
  rintro en1 w1 ⟨rfl, hb⟩
  have hB1 := below_then (Below.refl _ _) hb
  have L1 := hb.size
  try simp at L1
  have HB1 := Lib.hid hB1
  clear hb hB1
  go_wp2_with fail
  refine (CcT.out _).mono ?_
  rintro en2 w2 ⟨rfl, hb⟩
  have hB2 := below_then HB1.out hb
  have L2 := hb.size
  try simp at L2
  have HB2 := Lib.hid hB2
  clear hb hB2
  go_wp2_with fail
  refine (CcU1.out _).mono ?_
  rintro en3 w3 ⟨rfl, hb⟩
  have hB3 := below_then HB2.out hb
  have L3 := hb.size
  try simp at L3
  have HB3 := Lib.hid hB3
  clear hb hB3
  go_wp2_with fail
  refine (CcU2.out _).mono ?_
  rintro en4 w4 ⟨rfl, hb⟩
  have hB4 := below_then (below_alloc HB3.out _) hb
  have L4 := hb.size
  try simp at L4
  have hKR4 : w4.heap[w3.heap.size]? = some (.cells #[.string ⟨#[]⟩, .int .i64 3] 24 (0, 0)) := blk_later (heap_alloc_new2 _ _ _ _ (by simp)) hb
  have lR4 : w3.heap.size < w4.heap.size := lt_of_some hKR4
  obtain ⟨mR4, nR4, fR4, gR4⟩ := box2 hKR4
  have KR4 := Lib.hid hKR4
  clear hKR4
  have HB4 := Lib.hid hB4
  clear hb hB4
  go_wp2
  go_ret
  exact ⟨rfl, (below_alloc HB4.out _)⟩

set_option maxRecDepth 1000000 in
set_option maxHeartbeats 1000000 in
theorem texts_walk_ns (m c k n wh : Nat) (s t tx tk q2 u2 : ByteArray) (W : World)
    (hss : s.size ≤ 1152921504606846976) (hts : t.size ≤ 1152921504606846976) (ht1 : 0 < t.size) (htx : t ++ ⟨#[120]⟩ = tx) (hc : c < 65536) (hm : m < 256) (hn : (m : Int) % 40 = (n : Int)) (hn4 : n < 40) (hk : ((c : Int) % (t.size : Int)) = (k : Int)) (hkt : k < t.size) (htk : t.extract 0 k = tk)
    (hwh : (t.size : Int) - (s.size : Int) = (wh : Int)) (hf : n < s.size) (hb : k < wh)
    (cT : ∀ w, Calls Tryd.prog 16 #[.string s] w fun e w' => e = .returned (.string t) ∧ Below w.heap.size w w')
    (cU1 : ∀ w, Calls Tryd.prog 22 #[.agg #[.string tx, .int .i64 0], .int .u64 n] w fun e w' => e = .returned (.tuple #[.string ⟨#[]⟩, .agg #[.string ⟨#[]⟩, .int .i64 3]]) ∧ Below w.heap.size w w')
    (cU2 : ∀ w, Calls Tryd.prog 22 #[.agg #[.string tk, .int .i64 0], .int .u64 n] w fun e w' => e = .returned (.tuple #[.string u2, .agg #[.string q2, .int .i64 4]]) ∧ Below w.heap.size w w') :
    Calls Tryd.prog 8 #[.string s, .int .u8 m, .int .u16 c] W fun e w' => e = .returned (.bool true) ∧ Below W.heap.size W w' := by
  have CcT := Lib.hid cT
  have CcU1 := Lib.hid cU1
  have CcU2 := Lib.hid cU2
  clear cT cU1 cU2
  have t1 : t.toList.isEmpty = false := bne_of_size ht1
  have t2 : (t.toList == []) = false := by cases h : t.toList with | nil => rw [h] at t1; cases t1 | cons => rfl
  have e1 : decide ((s.size : Int) ≤ (n : Int)) = false := by simp; omega
  have e2 : decide (s.size ≤ n) = false := by simp; omega
  have e3 : decide ((wh : Int) ≤ (k : Int)) = false := by simp; omega
  have e4 : decide (wh ≤ k) = false := by simp; omega
  have hw1 : (s.size : Int) % 18446744073709551616 = (s.size : Int) := by omega
  have hw2 : (n : Int) % 18446744073709551616 = (n : Int) := by omega
  go_enter Tryd.func8, Tryd.ntmps8
  go_wp2_with fail
  refine (examples_any _).mono ?_
  rintro en1 w1 ⟨rfl, hb⟩
  have hB1 := below_then (Below.refl _ _) hb
  have L1 := hb.size
  try simp at L1
  have HB1 := Lib.hid hB1
  clear hb hB1
  go_wp2_with fail
  refine (CcT.out _).mono ?_
  rintro en2 w2 ⟨rfl, hb⟩
  have hB2 := below_then HB1.out hb
  have L2 := hb.size
  try simp at L2
  have HB2 := Lib.hid hB2
  clear hb hB2
  go_wp2_with fail
  refine (CcU1.out _).mono ?_
  rintro en3 w3 ⟨rfl, hb⟩
  have hB3 := below_then HB2.out hb
  have L3 := hb.size
  try simp at L3
  have HB3 := Lib.hid hB3
  clear hb hB3
  go_wp2_with fail
  refine (CcU2.out _).mono ?_
  rintro en4 w4 ⟨rfl, hb⟩
  have hB4 := below_then (below_alloc HB3.out _) hb
  have L4 := hb.size
  try simp at L4
  have hKR4 : w4.heap[w3.heap.size]? = some (.cells #[.string ⟨#[]⟩, .int .i64 3] 24 (0, 0)) := blk_later (heap_alloc_new2 _ _ _ _ (by simp)) hb
  have lR4 : w3.heap.size < w4.heap.size := lt_of_some hKR4
  obtain ⟨mR4, nR4, fR4, gR4⟩ := box2 hKR4
  have KR4 := Lib.hid hKR4
  clear hKR4
  have HB4 := Lib.hid hB4
  clear hb hB4
  go_wp2
  go_ret
  exact ⟨rfl, (below_alloc HB4.out _)⟩

end Go.Proofs.YtkkgdnmloojloaaDoor
namespace Go.Proofs.YtkkgdnmloojloaaDoor
open Go.RowKit Go.Lib
theorem texts_all (s : ByteArray) (a1 a2 : Int) (W : World) (s0 : s.size ≤ 140737488355328) (w1 : (Lit.int .u8 a1).wf = true) (w2 : (Lit.int .u16 a2).wf = true) :
    Calls Tryd.prog 8 #[.string s, .int .u8 a1, .int .u16 a2] W fun e w' => e = .returned (.bool true) ∧ Below W.heap.size W w' := by
  obtain ⟨m, rfl, hm⟩ := wf_u8 w1
  obtain ⟨c, rfl, hc⟩ := wf_u16 w2
  obtain ⟨S, rfl⟩ : ∃ S, s = str S := ⟨s.data.toList, (str_of s).symm⟩
  have hS := str_size S
  have hSl : S.length < 18446744073709551616 := by omega
  have ls := Plain.putL_len10 S.length hSl
  obtain ⟨n, hn⟩ : ∃ n, m % 40 = n := ⟨_, rfl⟩
  obtain ⟨T, hT⟩ : ∃ T, Plain.putL S.length ++ S = T := ⟨_, rfl⟩
  have hTl : T.length = (Plain.putL S.length).length + S.length := by rw [← hT]; simp
  obtain ⟨k, hkk⟩ : ∃ k, c % T.length = k := ⟨_, rfl⟩
  have hk : k < T.length := by rw [← hkk]; exact Nat.mod_lt _ (by omega)
  have hT1 : T ++ [120] = Plain.putL S.length ++ (S ++ [120]) := by rw [← hT, List.append_assoc]
  have hTk : T.take k = if k < (Plain.putL S.length).length then (Plain.putL S.length).take k else Plain.putL S.length ++ S.take (k - (Plain.putL S.length).length) := by
    rw [← hT]
    by_cases h : k < (Plain.putL S.length).length
    · rw [if_pos h, List.take_append_of_le_length (by omega)]
    · rw [if_neg h, List.take_append, List.take_of_length_le (by omega)]
  have cT : ∀ w, Calls Tryd.prog 16 #[.string (str S)] w fun e w' => e = .returned (.string (str T)) ∧ Below w.heap.size w w' := by
    intro w
    have := textS_any (str S) w (by omega)
    rw [hS, str_list, hT] at this
    exact this
  have hfit : ∀ q, (Plain.Rd.mk (T ++ [120]) 0).text n = q → ∀ w, Calls Tryd.prog 22 #[.agg #[.string (str (T ++ [120])), .int .i64 0], .int .u64 n] w fun e w' => e = .returned (.tuple #[.string (str q.1), .agg #[.string (str q.2.rest), .int .i64 q.2.e]]) ∧ Below w.heap.size w w' :=
    fun q h => text_at (r := ⟨T ++ [120], 0⟩) (q := q.2) (s := q.1) h (by show (T ++ [120]).length ≤ _; simp; omega) (by omega)
  have hcut : ∀ q, (Plain.Rd.mk (T.take k) 0).text n = q → ∀ w, Calls Tryd.prog 22 #[.agg #[.string (str (T.take k)), .int .i64 0], .int .u64 n] w fun e w' => e = .returned (.tuple #[.string (str q.1), .agg #[.string (str q.2.rest), .int .i64 q.2.e]]) ∧ Below w.heap.size w w' :=
    fun q h => text_at (r := ⟨T.take k, 0⟩) (q := q.2) (s := q.1) h (by show (T.take k).length ≤ _; rw [List.length_take]; omega) (by omega)
  have g1 : ∀ h : S.length ≤ n, (Plain.Rd.mk (T ++ [120]) 0).text n = (S, ⟨[120], 0⟩) := fun h => by rw [hT1]; exact Plain.text_put S [120] n hSl h
  have g2 : ∀ h : n < S.length, (Plain.Rd.mk (T ++ [120]) 0).text n = ([], ⟨[], 3⟩) := fun h => by rw [hT1]; exact Plain.text_big S (S ++ [120]) n hSl h
  have g3 : ∀ h : k < (Plain.putL S.length).length, (Plain.Rd.mk (T.take k) 0).text n = ([], ⟨[], 4⟩) := fun h => by
    rw [hTk, if_pos h]
    obtain ⟨y, ys, he⟩ := Plain.cut_of _ k h
    exact Plain.text_cut S.length _ ys y n hSl he
  have g4 : ∀ (h : ¬ k < (Plain.putL S.length).length) (hf : S.length ≤ n), (Plain.Rd.mk (T.take k) 0).text n = ([], ⟨[], 4⟩) := fun h hf => by
    rw [hTk, if_neg h]
    exact Plain.text_short S _ n hSl hf (by rw [List.length_take]; omega)
  have g5 : ∀ (h : ¬ k < (Plain.putL S.length).length) (hf : n < S.length), (Plain.Rd.mk (T.take k) 0).text n = ([], ⟨[], 3⟩) := fun h hf => by
    rw [hTk, if_neg h]
    exact Plain.text_big S _ n hSl hf
  have x1 : (str T).size ≤ 1152921504606846976 := by rw [str_size]; omega
  have x2 : 0 < (str T).size := by rw [str_size]; omega
  have x3 : str T ++ ⟨#[120]⟩ = str (T ++ [120]) := by rw [← str_app]; rfl
  have x4 : ((c : Int) % ((str T).size : Int)) = (k : Int) := by rw [str_size]; omega
  have x5 : k < (str T).size := by rw [str_size]; exact hk
  have x6 : ((str T).size : Int) - ((str S).size : Int) = ((Plain.putL S.length).length : Nat) := by rw [str_size, str_size]; omega
  by_cases hf : S.length ≤ n
  · by_cases hb : k < (Plain.putL S.length).length
    · exact texts_walk_fs m c k n _ (str S) (str T) (str (T ++ [120])) (str (T.take k)) (str []) (str []) W (by omega) x1 x2 x3 hc hm (by omega) (by omega) x4 x5 (by rw [str_take]) x6 (by omega) hb cT (hfit _ (g1 hf)) (hcut _ (g3 hb))
    · exact texts_walk_fb m c k n _ (str S) (str T) (str (T ++ [120])) (str (T.take k)) (str []) (str []) W (by omega) x1 x2 x3 hc hm (by omega) (by omega) x4 x5 (by rw [str_take]) x6 (by omega) (by omega) cT (hfit _ (g1 hf)) (hcut _ (g4 hb hf))
  · by_cases hb : k < (Plain.putL S.length).length
    · exact texts_walk_ns m c k n _ (str S) (str T) (str (T ++ [120])) (str (T.take k)) (str []) (str []) W (by omega) x1 x2 x3 hc hm (by omega) (by omega) x4 x5 (by rw [str_take]) x6 (by omega) hb cT (hfit _ (g2 (by omega))) (hcut _ (g3 hb))
    · exact texts_walk_nb m c k n _ (str S) (str T) (str (T ++ [120])) (str (T.take k)) (str []) (str []) W (by omega) x1 x2 x3 hc hm (by omega) (by omega) x4 x5 (by rw [str_take]) x6 (by omega) (by omega) cT (hfit _ (g2 (by omega))) (hcut _ (g5 hb (by omega)))
end Go.Proofs.YtkkgdnmloojloaaDoor
