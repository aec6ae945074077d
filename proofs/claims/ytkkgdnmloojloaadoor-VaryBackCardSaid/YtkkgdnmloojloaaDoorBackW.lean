/- VaryBack's walk for every input. Conditions: none but the strings' reach. -/
import Derived.Test.YtkkgdnmloojloaaDoorWalksE
set_option linter.unusedVariables false
set_option linter.unusedSimpArgs false
namespace Go.Proofs.YtkkgdnmloojloaaDoor
open Go.RowKit Go.Lib
set_option maxRecDepth 1000000 in
set_option maxHeartbeats 1000000 in
theorem back_walk (a b c k n1 n3 : Nat) (s beh pa ps pb t tb r1 r2 tk q1 q2 q3 u1 : ByteArray) (e1 e2 : Int) (W : World)
    (hpa : pa.size ≤ 100) (hps : ps.size ≤ 1152921504606846976) (hpb : pb.size ≤ 100) (hbs : beh.size ≤ 1152921504606846976) (hss : s.size ≤ 1152921504606846976) (hts : t.size ≤ 1152921504606846976) (ht3 : 3 ≤ t.size) (happ : pa ++ ps ++ pb = t) (happ2 : t ++ beh = tb) (hc : c < 65536) (hk : ((c : Int) % (t.size : Int)) = (k : Int)) (hkt : k < t.size) (htk : t.extract 0 k = tk)
    (cP1 : ∀ w, Calls Tryd.prog 15 #[.int .u64 a] w fun e w' => e = .returned (.string pa) ∧ Below w.heap.size w w')
    (cT : ∀ w, Calls Tryd.prog 16 #[.string s] w fun e w' => e = .returned (.string ps) ∧ Below w.heap.size w w')
    (cP2 : ∀ w, Calls Tryd.prog 15 #[.int .u64 b] w fun e w' => e = .returned (.string pb) ∧ Below w.heap.size w w')
    (cN1 : ∀ w, Calls Tryd.prog 20 #[.agg #[.string tb, .int .i64 0]] w fun e w' => e = .returned (.tuple #[.int .u64 a, .agg #[.string r1, .int .i64 0]]) ∧ Below w.heap.size w w')
    (cU1 : ∀ w, Calls Tryd.prog 22 #[.agg #[.string r1, .int .i64 0], .int .u64 s.size] w fun e w' => e = .returned (.tuple #[.string s, .agg #[.string r2, .int .i64 0]]) ∧ Below w.heap.size w w')
    (cN2 : ∀ w, Calls Tryd.prog 20 #[.agg #[.string r2, .int .i64 0]] w fun e w' => e = .returned (.tuple #[.int .u64 b, .agg #[.string beh, .int .i64 0]]) ∧ Below w.heap.size w w')
    (cN3 : ∀ w, Calls Tryd.prog 20 #[.agg #[.string tk, .int .i64 0]] w fun e w' => e = .returned (.tuple #[.int .u64 n1, .agg #[.string q1, .int .i64 e1]]) ∧ Below w.heap.size w w')
    (cU2 : ∀ w, Calls Tryd.prog 22 #[.agg #[.string q1, .int .i64 e1], .int .u64 s.size] w fun e w' => e = .returned (.tuple #[.string u1, .agg #[.string q2, .int .i64 e2]]) ∧ Below w.heap.size w w')
    (cN4 : ∀ w, Calls Tryd.prog 20 #[.agg #[.string q2, .int .i64 e2]] w fun e w' => e = .returned (.tuple #[.int .u64 n3, .agg #[.string q3, .int .i64 4]]) ∧ Below w.heap.size w w') :
    Calls Tryd.prog 4 #[.int .u64 a, .int .u64 b, .string s, .string beh, .int .u16 c] W fun e w' => e = .returned (.bool true) ∧ Below W.heap.size W w' := by
  have CcP1 := Lib.hid cP1
  have CcT := Lib.hid cT
  have CcP2 := Lib.hid cP2
  have CcN1 := Lib.hid cN1
  have CcU1 := Lib.hid cU1
  have CcN2 := Lib.hid cN2
  have CcN3 := Lib.hid cN3
  have CcU2 := Lib.hid cU2
  have CcN4 := Lib.hid cN4
  clear cP1 cT cP2 cN1 cU1 cN2 cN3 cU2 cN4
  have d1 : decide ((t.size : Int) < 3) = false := by simp; omega
  have d2 : decide (t.size < 3) = false := by simp; omega
  have hw1 : (s.size : Int) % 18446744073709551616 = (s.size : Int) := by omega
  go_enter Tryd.func4, Tryd.ntmps4
  go_wp2_with fail
  refine (examples_any _).mono ?_
  rintro en1 w1 ⟨rfl, hb⟩
  have hB1 := below_then (Below.refl _ _) hb
  have L1 := hb.size
  try simp at L1
  have HB1 := Lib.hid hB1
  clear hb hB1
  go_wp2_with fail
  refine (CcP1.out _).mono ?_
  rintro en2 w2 ⟨rfl, hb⟩
  have hB2 := below_then HB1.out hb
  have L2 := hb.size
  try simp at L2
  have HB2 := Lib.hid hB2
  clear hb hB2
  go_wp2_with fail
  refine (CcT.out _).mono ?_
  rintro en3 w3 ⟨rfl, hb⟩
  have hB3 := below_then HB2.out hb
  have L3 := hb.size
  try simp at L3
  have HB3 := Lib.hid hB3
  clear hb hB3
  go_wp2_with fail
  refine (CcP2.out _).mono ?_
  rintro en4 w4 ⟨rfl, hb⟩
  have hB4 := below_then HB3.out hb
  have L4 := hb.size
  try simp at L4
  have HB4 := Lib.hid hB4
  clear hb hB4
  go_wp2_with fail
  refine (CcN1.out _).mono ?_
  rintro en5 w5 ⟨rfl, hb⟩
  have hB5 := below_then HB4.out hb
  have L5 := hb.size
  try simp at L5
  have HB5 := Lib.hid hB5
  clear hb hB5
  go_wp2_with fail
  refine (CcU1.out _).mono ?_
  rintro en6 w6 ⟨rfl, hb⟩
  have hB6 := below_then (below_alloc HB5.out _) hb
  have L6 := hb.size
  try simp at L6
  have hKR6 : w6.heap[w5.heap.size]? = some (.cells #[.string r1, .int .i64 0] 24 (0, 0)) := blk_later (heap_alloc_new2 _ _ _ _ (by simp)) hb
  obtain ⟨mR6, nR6, fR6, gR6⟩ := box2 hKR6
  have KR6 := Lib.hid hKR6
  clear hKR6
  have HB6 := Lib.hid hB6
  clear hb hB6
  go_wp2_with fail
  refine (CcN2.out _).mono ?_
  rintro en7 w7 ⟨rfl, hb⟩
  have hB7 := below_then (set2_below HB6.out (by omega) (.string r2) (.int .i64 0)) hb
  have L7 := hb.size
  try simp at L7
  have hKR7 : w7.heap[w5.heap.size]? = some (.cells #[.string r2, .int .i64 0] 24 (0, 0)) := blk_later (set2_same KR6.out (.string r2) (.int .i64 0)) hb
  obtain ⟨mR7, nR7, fR7, gR7⟩ := box2 hKR7
  have KR7 := Lib.hid hKR7
  clear hKR7
  have HB7 := Lib.hid hB7
  clear hb hB7 mR6 nR6 fR6 gR6
  go_wp2_with fail
  refine (CcN3.out _).mono ?_
  rintro en8 w8 ⟨rfl, hb⟩
  have hB8 := below_then (set2_below HB7.out (by omega) (.string beh) (.int .i64 0)) hb
  have L8 := hb.size
  try simp at L8
  have hKR8 : w8.heap[w5.heap.size]? = some (.cells #[.string beh, .int .i64 0] 24 (0, 0)) := blk_later (set2_same KR7.out (.string beh) (.int .i64 0)) hb
  obtain ⟨mR8, nR8, fR8, gR8⟩ := box2 hKR8
  have KR8 := Lib.hid hKR8
  clear hKR8
  have HB8 := Lib.hid hB8
  clear hb hB8 mR7 nR7 fR7 gR7
  go_wp2_with fail
  refine (CcU2.out _).mono ?_
  rintro en9 w9 ⟨rfl, hb⟩
  have hB9 := below_then (below_alloc HB8.out _) hb
  have L9 := hb.size
  try simp at L9
  have hKR9 : w9.heap[w5.heap.size]? = some (.cells #[.string beh, .int .i64 0] 24 (0, 0)) := blk_later (blk_alloc KR8.out _) hb
  obtain ⟨mR9, nR9, fR9, gR9⟩ := box2 hKR9
  have KR9 := Lib.hid hKR9
  clear hKR9
  have hKQ9 : w9.heap[w8.heap.size]? = some (.cells #[.string q1, .int .i64 e1] 24 (0, 0)) := blk_later (heap_alloc_new2 _ _ _ _ (by simp)) hb
  obtain ⟨mQ9, nQ9, fQ9, gQ9⟩ := box2 hKQ9
  have KQ9 := Lib.hid hKQ9
  clear hKQ9
  have HB9 := Lib.hid hB9
  clear hb hB9 mR8 nR8 fR8 gR8
  go_wp2_with fail
  refine (CcN4.out _).mono ?_
  rintro en10 w10 ⟨rfl, hb⟩
  have hB10 := below_then (set2_below HB9.out (by omega) (.string q2) (.int .i64 e2)) hb
  have L10 := hb.size
  try simp at L10
  have hKR10 : w10.heap[w5.heap.size]? = some (.cells #[.string beh, .int .i64 0] 24 (0, 0)) := blk_later ((set2_other (by omega) (.string q2) (.int .i64 e2)).trans KR9.out) hb
  obtain ⟨mR10, nR10, fR10, gR10⟩ := box2 hKR10
  have KR10 := Lib.hid hKR10
  clear hKR10
  have hKQ10 : w10.heap[w8.heap.size]? = some (.cells #[.string q2, .int .i64 e2] 24 (0, 0)) := blk_later (set2_same KQ9.out (.string q2) (.int .i64 e2)) hb
  obtain ⟨mQ10, nQ10, fQ10, gQ10⟩ := box2 hKQ10
  have KQ10 := Lib.hid hKQ10
  clear hKQ10
  have HB10 := Lib.hid hB10
  clear hb hB10 mR9 nR9 fR9 gR9 mQ9 nQ9 fQ9 gQ9
  go_wp2
  go_ret
  exact ⟨rfl, (set2_below HB10.out (by omega) (.string q3) (.int .i64 4))⟩
end Go.Proofs.YtkkgdnmloojloaaDoor
namespace Go.Proofs.YtkkgdnmloojloaaDoor
open Go.RowKit Go.Lib
theorem back_all (a0 a1 : Int) (s beh : ByteArray) (a4 : Int) (W : World) (w0 : (Lit.int .u64 a0).wf = true) (w1 : (Lit.int .u64 a1).wf = true) (s2 : s.size ≤ 140737488355328) (s3 : beh.size ≤ 140737488355328) (w4 : (Lit.int .u16 a4).wf = true) :
    Calls Tryd.prog 4 #[.int .u64 a0, .int .u64 a1, .string s, .string beh, .int .u16 a4] W fun e w' => e = .returned (.bool true) ∧ Below W.heap.size W w' := by
  obtain ⟨a, rfl, ha⟩ := wf_u64 w0
  obtain ⟨b, rfl, hb⟩ := wf_u64 w1
  obtain ⟨c, rfl, hc⟩ := wf_u16 w4
  obtain ⟨S, rfl⟩ : ∃ S, s = str S := ⟨s.data.toList, (str_of s).symm⟩
  obtain ⟨B, rfl⟩ : ∃ S, beh = str S := ⟨beh.data.toList, (str_of beh).symm⟩
  have la := Plain.putL_len10 a ha
  have lb := Plain.putL_len10 b hb
  have ls := Plain.putL_len10 (str S).size (by omega)
  have hS := str_size S
  have hB := str_size B
  have hl : (Plain.putL a ++ (Plain.putL (str S).size ++ S) ++ Plain.putL b).length = (Plain.putL a).length + ((Plain.putL (str S).size).length + S.length) + (Plain.putL b).length := by simp [List.length_append]; omega
  have hN1 := next_at (Plain.next_put a (Plain.putL S.length ++ (S ++ (Plain.putL b ++ B))) ha) (by show (Plain.putL a ++ (Plain.putL S.length ++ (S ++ (Plain.putL b ++ B)))).length ≤ _; rw [← hS]; simp [List.length_append]; omega)
  have hU1 := text_at (Plain.text_put S (Plain.putL b ++ B) S.length (by omega) (Nat.le_refl _)) (by show (Plain.putL S.length ++ (S ++ (Plain.putL b ++ B))).length ≤ _; rw [← hS]; simp [List.length_append]; omega) (by omega)
  have hN2 := next_at (Plain.next_put b B hb) (by show (Plain.putL b ++ B).length ≤ _; simp [List.length_append]; omega)
  obtain ⟨T, hT⟩ : ∃ T, Plain.putL a ++ (Plain.putL S.length ++ S) ++ Plain.putL b = T := ⟨_, rfl⟩
  have hTl : T.length = (Plain.putL a).length + ((Plain.putL S.length).length + S.length) + (Plain.putL b).length := by rw [← hT]; simp [List.length_append]; omega
  rw [hS] at ls hl
  have hk : c % T.length < T.length := Nat.mod_lt _ (by omega)
  obtain ⟨k, hkk⟩ : ∃ k, c % T.length = k := ⟨_, rfl⟩
  rw [hkk] at hk
  have hsh := Plain.back_short a b S k ha hb (by omega) (by rw [hT]; exact hk)
  rw [hT] at hsh
  obtain ⟨n1, Q1, h1⟩ : ∃ n q, (Plain.Rd.mk (T.take k) 0).next = (n, q) := ⟨_, _, rfl⟩
  have l1 : Q1.rest.length ≤ k := by
    have := next_len (Plain.Rd.mk (T.take k) 0)
    rw [h1] at this
    simp at this; omega
  rw [h1] at hsh
  obtain ⟨u2, Q2, h2⟩ : ∃ n q, Q1.text S.length = (n, q) := ⟨_, _, rfl⟩
  have l2 : Q2.rest.length ≤ k := by
    have := text_len Q1 S.length
    rw [h2] at this
    exact Nat.le_trans this l1
  dsimp only at hsh
  rw [h2] at hsh
  obtain ⟨n3, Q3, h3⟩ : ∃ n q, Q2.next = (n, q) := ⟨_, _, rfl⟩
  dsimp only at hsh
  rw [h3] at hsh
  dsimp only at hsh
  have hN3 := next_at h1 (by show (T.take k).length ≤ _; rw [List.length_take]; omega)
  have hU2 := text_at h2 (by omega) (by omega)
  have hN4 := next_at h3 (by omega)
  rw [hsh] at hN4
  have hq2 := text_any
  refine back_walk a b c k n1 n3 (str S) (str B) (str (Plain.putL a)) (str (Plain.putL S.length ++ S)) (str (Plain.putL b)) (str T) (str (T ++ B)) (str (Plain.putL S.length ++ (S ++ (Plain.putL b ++ B)))) (str (Plain.putL b ++ B)) (str (T.take k)) (str Q1.rest) (str Q2.rest) (str Q3.rest) (str u2) Q1.e Q2.e W
    (by rw [str_size]; omega) (by rw [str_size, List.length_append]; omega) (by rw [str_size]; omega) (by omega) (by omega) (by rw [str_size]; omega) (by rw [str_size]; omega) (by rw [str_app, str_app, hT]) (by rw [str_app]) hc (by rw [str_size]; omega) (by rw [str_size]; exact hk) (by rw [str_take])
    (fun w => put_any a w ha) (fun w => ?_) (fun w => put_any b w hb) ?_ ?_ ?_ hN3 ?_ hN4
  · have := textS_any (str S) w (by omega)
    rw [hS, str_list] at this
    exact this
  · rw [← hT]
    simp only [List.append_assoc]
    exact hN1
  · rw [hS]; exact hU1
  · exact hN2
  · rw [hS]; exact hU2
end Go.Proofs.YtkkgdnmloojloaaDoor
