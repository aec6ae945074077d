/- VaryOne's walk for every input. Conditions: none but the text's reach. -/
import Derived.Test.YtkkgdnmloojloaaDoorWalksE
import Derived.Deep.RegionHeld3
import Derived.BigQuiet
import Derived.Deep.QuietTactic
set_option linter.unusedVariables false
set_option linter.unusedSimpArgs false
namespace Go.Proofs.YtkkgdnmloojloaaDoor
open Go.RowKit Go.Lib
set_option maxRecDepth 1000000 in
set_option maxHeartbeats 1000000 in
theorem one_walk_del (a b n k : Nat) (s pa pb pn r : ByteArray) (e1 : Int) (W : World) (ha : a < 18446744073709551616) (hb : b < 18446744073709551616) (hss : s.size ≤ 1152921504606846976)
    (he : e1 ≠ 0) (hp1 : 1 ≤ pa.size) (hp10 : pa.size ≤ 10) (z1 : (a : Int) / 2 ^ (7 * pa.size) = 0) (z2 : pa.size ≤ 1) (heq : (pa.toList == pb.toList) = ((a : Int) == (b : Int)))
    (cN : ∀ w, Calls Tryd.prog 20 #[.agg #[.string s, .int .i64 0]] w fun e w' => e = .returned (.tuple #[.int .u64 0, .agg #[.string ⟨#[]⟩, .int .i64 e1]]) ∧ Below w.heap.size w w')
    (cPa : ∀ w, Calls Tryd.prog 15 #[.int .u64 a] w fun e w' => e = .returned (.string pa) ∧ Below w.heap.size w w')
    (cPb : ∀ w, Calls Tryd.prog 15 #[.int .u64 b] w fun e w' => e = .returned (.string pb) ∧ Below w.heap.size w w') :
    Calls Tryd.prog 5 #[.int .u64 a, .int .u64 b, .string s, .bool false] W fun e w' => e = .returned (.bool true) ∧ Below W.heap.size W w' := by
  have CcN := Lib.hid cN
  have CcPa := Lib.hid cPa
  have CcPb := Lib.hid cPb
  clear cN cPa cPb
  have he1 : (e1 == 0) = false := by simp [he]
  clear he
  have z4 : decide ((1 : Int) < (pa.size : Int)) = false := by simp; omega
  have z5 : decide (1 < pa.size) = false := by simp; omega
  go_enter Tryd.func5, Tryd.ntmps5
  go_wp2_with fail
  refine (examples_any _).mono ?_
  rintro en1 w1 ⟨rfl, hb⟩
  have hB1 := below_then (Below.refl _ _) hb
  have L1 := hb.size
  try simp at L1
  have HB1 := Lib.hid hB1
  clear hb hB1
  go_wp2_with fail
  refine (CcN.out _).mono ?_
  rintro en2 w2 ⟨rfl, hb⟩
  have hB2 := below_then HB1.out hb
  have L2 := hb.size
  try simp at L2
  have HB2 := Lib.hid hB2
  clear hb hB2
  go_wp2_with fail
  obtain ⟨wa, hwa⟩ : ∃ wa, w2.alloc (.cells #[.string ⟨#[]⟩, .int .i64 e1] 24) = wa := ⟨_, rfl⟩
  have hRa : wa.heap[w2.heap.size]? = some (.cells #[.string ⟨#[]⟩, .int .i64 e1] 24 (0, 0)) := by rw [← hwa]; exact heap_alloc_new2 _ _ _ _ rfl
  have hBa : Below W.heap.size W wa := by rw [← hwa]; exact below_alloc HB2.out _
  rw [hwa]
  obtain ⟨k0, k1, kf0, kf1⟩ := box2 hRa
  have la := lt_of_some hRa
  have HRa := Lib.hid hRa
  have HBa := Lib.hid hBa
  clear hwa hRa hBa
  go_quiet (fail)
  have hb8 : Below wa.heap.size wa (wa.drewN nq) := ⟨rfl, rfl, rfl, Nat.le_refl _, fun _ _ => rfl⟩
  obtain ⟨wc, hwc⟩ : ∃ wc, wa.drewN nq = wc := ⟨_, rfl⟩
  rw [hwc] at hb8 ⊢
  have hRc := blk_later HRa.out hb8
  have hBc := below_then HBa.out hb8
  clear hb8 k0 k1 kf0 kf1 la hwc
  have la := lt_of_some hRc
  obtain ⟨k0, k1, kf0, kf1⟩ := box2 hRc
  have HBc := Lib.hid hBc
  have HRc := Lib.hid hRc
  clear hRc hBc
  go_wp2_with fail
  refine (CcPa.out _).mono ?_
  rintro en3 w3 ⟨rfl, hb⟩
  have hB3 := below_then HBc.out hb
  have L3 := hb.size
  try simp at L3
  have hKR3 : w3.heap[w2.heap.size]? = some (.cells #[.string ⟨#[]⟩, .int .i64 e1] 24 (0, 0)) := blk_later HRc.out hb
  have lR3 : w2.heap.size < w3.heap.size := lt_of_some hKR3
  obtain ⟨mR3, nR3, fR3, gR3⟩ := box2 hKR3
  have KR3 := Lib.hid hKR3
  clear hKR3
  have HB3 := Lib.hid hB3
  clear hb hB3 la k0 k1 kf0 kf1
  go_wp2_with fail
  all_goals
    refine (CcPb.out _).mono ?_
    rintro en4 w4 ⟨rfl, hb⟩
    have hB4 := below_then HB3.out hb
    have L4 := hb.size
    try simp at L4
    have hKR4 : w4.heap[w2.heap.size]? = some (.cells #[.string ⟨#[]⟩, .int .i64 e1] 24 (0, 0)) := blk_later KR3.out hb
    have lR4 : w2.heap.size < w4.heap.size := lt_of_some hKR4
    obtain ⟨mR4, nR4, fR4, gR4⟩ := box2 hKR4
    have KR4 := Lib.hid hKR4
    clear hKR4
    have HB4 := Lib.hid hB4
    clear hb hB4 mR3 nR3 fR3 gR3 lR3
    go_wp2
    go_ret
    exact ⟨rfl, HB4.out⟩

set_option maxRecDepth 1000000 in
set_option maxHeartbeats 1000000 in
theorem one_walk_deb (a b n k : Nat) (s pa pb pn r : ByteArray) (e1 : Int) (W : World) (ha : a < 18446744073709551616) (hb : b < 18446744073709551616) (hss : s.size ≤ 1152921504606846976)
    (he : e1 ≠ 0) (hp1 : 1 ≤ pa.size) (hp10 : pa.size ≤ 10) (z1 : (a : Int) / 2 ^ (7 * pa.size) = 0) (z2 : 1 < pa.size) (z3 : ((a : Int) / 2 ^ (7 * (pa.size - 1)) == 0) = false) (heq : (pa.toList == pb.toList) = ((a : Int) == (b : Int)))
    (cN : ∀ w, Calls Tryd.prog 20 #[.agg #[.string s, .int .i64 0]] w fun e w' => e = .returned (.tuple #[.int .u64 0, .agg #[.string ⟨#[]⟩, .int .i64 e1]]) ∧ Below w.heap.size w w')
    (cPa : ∀ w, Calls Tryd.prog 15 #[.int .u64 a] w fun e w' => e = .returned (.string pa) ∧ Below w.heap.size w w')
    (cPb : ∀ w, Calls Tryd.prog 15 #[.int .u64 b] w fun e w' => e = .returned (.string pb) ∧ Below w.heap.size w w') :
    Calls Tryd.prog 5 #[.int .u64 a, .int .u64 b, .string s, .bool false] W fun e w' => e = .returned (.bool true) ∧ Below W.heap.size W w' := by
  have CcN := Lib.hid cN
  have CcPa := Lib.hid cPa
  have CcPb := Lib.hid cPb
  clear cN cPa cPb
  have he1 : (e1 == 0) = false := by simp [he]
  clear he
  have z4 : decide ((1 : Int) < (pa.size : Int)) = true := by simp; omega
  have z5 : decide (1 < pa.size) = true := by simp; omega
  go_enter Tryd.func5, Tryd.ntmps5
  go_wp2_with fail
  refine (examples_any _).mono ?_
  rintro en1 w1 ⟨rfl, hb⟩
  have hB1 := below_then (Below.refl _ _) hb
  have L1 := hb.size
  try simp at L1
  have HB1 := Lib.hid hB1
  clear hb hB1
  go_wp2_with fail
  refine (CcN.out _).mono ?_
  rintro en2 w2 ⟨rfl, hb⟩
  have hB2 := below_then HB1.out hb
  have L2 := hb.size
  try simp at L2
  have HB2 := Lib.hid hB2
  clear hb hB2
  go_wp2_with fail
  obtain ⟨wa, hwa⟩ : ∃ wa, w2.alloc (.cells #[.string ⟨#[]⟩, .int .i64 e1] 24) = wa := ⟨_, rfl⟩
  have hRa : wa.heap[w2.heap.size]? = some (.cells #[.string ⟨#[]⟩, .int .i64 e1] 24 (0, 0)) := by rw [← hwa]; exact heap_alloc_new2 _ _ _ _ rfl
  have hBa : Below W.heap.size W wa := by rw [← hwa]; exact below_alloc HB2.out _
  rw [hwa]
  obtain ⟨k0, k1, kf0, kf1⟩ := box2 hRa
  have la := lt_of_some hRa
  have HRa := Lib.hid hRa
  have HBa := Lib.hid hBa
  clear hwa hRa hBa
  go_quiet (fail)
  have hb8 : Below wa.heap.size wa (wa.drewN nq) := ⟨rfl, rfl, rfl, Nat.le_refl _, fun _ _ => rfl⟩
  obtain ⟨wc, hwc⟩ : ∃ wc, wa.drewN nq = wc := ⟨_, rfl⟩
  rw [hwc] at hb8 ⊢
  have hRc := blk_later HRa.out hb8
  have hBc := below_then HBa.out hb8
  clear hb8 k0 k1 kf0 kf1 la hwc
  have la := lt_of_some hRc
  obtain ⟨k0, k1, kf0, kf1⟩ := box2 hRc
  have HBc := Lib.hid hBc
  have HRc := Lib.hid hRc
  clear hRc hBc
  go_wp2_with fail
  refine (CcPa.out _).mono ?_
  rintro en3 w3 ⟨rfl, hb⟩
  have hB3 := below_then HBc.out hb
  have L3 := hb.size
  try simp at L3
  have hKR3 : w3.heap[w2.heap.size]? = some (.cells #[.string ⟨#[]⟩, .int .i64 e1] 24 (0, 0)) := blk_later HRc.out hb
  have lR3 : w2.heap.size < w3.heap.size := lt_of_some hKR3
  obtain ⟨mR3, nR3, fR3, gR3⟩ := box2 hKR3
  have KR3 := Lib.hid hKR3
  clear hKR3
  have HB3 := Lib.hid hB3
  clear hb hB3 la k0 k1 kf0 kf1
  go_wp2_with fail
  all_goals
    refine (CcPb.out _).mono ?_
    rintro en4 w4 ⟨rfl, hb⟩
    have hB4 := below_then HB3.out hb
    have L4 := hb.size
    try simp at L4
    have hKR4 : w4.heap[w2.heap.size]? = some (.cells #[.string ⟨#[]⟩, .int .i64 e1] 24 (0, 0)) := blk_later KR3.out hb
    have lR4 : w2.heap.size < w4.heap.size := lt_of_some hKR4
    obtain ⟨mR4, nR4, fR4, gR4⟩ := box2 hKR4
    have KR4 := Lib.hid hKR4
    clear hKR4
    have HB4 := Lib.hid hB4
    clear hb hB4 mR3 nR3 fR3 gR3 lR3
    go_wp2
    go_ret
    exact ⟨rfl, HB4.out⟩

set_option maxRecDepth 1000000 in
set_option maxHeartbeats 1000000 in
theorem one_walk_dol (a b n k : Nat) (s pa pb pn r : ByteArray) (e1 : Int) (W : World) (hrs : r.size < s.size) (hk : r.size + k = s.size) (hkx : s.extract 0 k = pn) (ha : a < 18446744073709551616) (hb : b < 18446744073709551616) (hss : s.size ≤ 1152921504606846976)
    (he : e1 = 0) (hp1 : 1 ≤ pa.size) (hp10 : pa.size ≤ 10) (z1 : (a : Int) / 2 ^ (7 * pa.size) = 0) (z2 : pa.size ≤ 1) (heq : (pa.toList == pb.toList) = ((a : Int) == (b : Int)))
    (cN : ∀ w, Calls Tryd.prog 20 #[.agg #[.string s, .int .i64 0]] w fun e w' => e = .returned (.tuple #[.int .u64 n, .agg #[.string r, .int .i64 e1]]) ∧ Below w.heap.size w w')
    (cPa : ∀ w, Calls Tryd.prog 15 #[.int .u64 a] w fun e w' => e = .returned (.string pa) ∧ Below w.heap.size w w')
    (cPn : ∀ w, Calls Tryd.prog 15 #[.int .u64 n] w fun e w' => e = .returned (.string pn) ∧ Below w.heap.size w w')
    (cPb : ∀ w, Calls Tryd.prog 15 #[.int .u64 b] w fun e w' => e = .returned (.string pb) ∧ Below w.heap.size w w') :
    Calls Tryd.prog 5 #[.int .u64 a, .int .u64 b, .string s, .bool false] W fun e w' => e = .returned (.bool true) ∧ Below W.heap.size W w' := by
  have CcN := Lib.hid cN
  have CcPa := Lib.hid cPa
  have CcPn := Lib.hid cPn
  have CcPb := Lib.hid cPb
  clear cN cPa cPn cPb
  subst he
  have z4 : decide ((1 : Int) < (pa.size : Int)) = false := by simp; omega
  have z5 : decide (1 < pa.size) = false := by simp; omega
  go_enter Tryd.func5, Tryd.ntmps5
  go_wp2_with fail
  refine (examples_any _).mono ?_
  rintro en1 w1 ⟨rfl, hb⟩
  have hB1 := below_then (Below.refl _ _) hb
  have L1 := hb.size
  try simp at L1
  have HB1 := Lib.hid hB1
  clear hb hB1
  go_wp2_with fail
  refine (CcN.out _).mono ?_
  rintro en2 w2 ⟨rfl, hb⟩
  have hB2 := below_then HB1.out hb
  have L2 := hb.size
  try simp at L2
  have HB2 := Lib.hid hB2
  clear hb hB2
  go_wp2_with fail
  obtain ⟨wa, hwa⟩ : ∃ wa, w2.alloc (.cells #[.string r, .int .i64 0] 24) = wa := ⟨_, rfl⟩
  have hRa : wa.heap[w2.heap.size]? = some (.cells #[.string r, .int .i64 0] 24 (0, 0)) := by rw [← hwa]; exact heap_alloc_new2 _ _ _ _ rfl
  have hBa : Below W.heap.size W wa := by rw [← hwa]; exact below_alloc HB2.out _
  rw [hwa]
  obtain ⟨k0, k1, kf0, kf1⟩ := box2 hRa
  have la := lt_of_some hRa
  have HRa := Lib.hid hRa
  have HBa := Lib.hid hBa
  clear hwa hRa hBa
  have hw1 : IntKind.i64.wrap ((s.size : Int) - (r.size : Int)) = (k : Int) := by rw [IntKind.wrap_i64]; omega
  have hk0 : (0 : Int) ≤ (k : Int) := by omega
  have hk1 : (k : Int) ≤ (s.size : Int) := by omega
  have d1 : decide (r.size < s.size) = true := by simp; omega
  have d2 : decide ((r.size : Int) < (s.size : Int)) = true := by simp; omega
  go_region_held3 (fun w' => w'.cell? ⟨w2.heap.size, 0, none⟩ = some (.string r) ∧ w'.cell? ⟨w2.heap.size, 1, none⟩ = some (.int .i64 0)) (first | go_keep | exact ⟨(hb9.cell (p := ⟨w2.heap.size, 0, none⟩) la).trans k0, (hb9.cell (p := ⟨w2.heap.size, 1, none⟩) la).trans k1⟩) (first | (go_at_call 15; (with_reducible refine (CcPn.out _).mono ?_); rintro e w9 ⟨rfl, hb9⟩))
  have hb8 : Below wa.heap.size wa w9 := ⟨hb9.os, hb9.tape, hb9.output, hb9.size, hb9.block⟩
  have hRc := blk_later HRa.out hb8
  have hBc := below_then HBa.out hb8
  clear hb9 hb8 k0 k1 kf0 kf1 la
  have la := lt_of_some hRc
  obtain ⟨k0, k1, kf0, kf1⟩ := box2 hRc
  have HBc := Lib.hid hBc
  have HRc := Lib.hid hRc
  clear hRc hBc
  go_wp2_with fail
  refine (CcPa.out _).mono ?_
  rintro en3 w3 ⟨rfl, hb⟩
  have hB3 := below_then HBc.out hb
  have L3 := hb.size
  try simp at L3
  have hKR3 : w3.heap[w2.heap.size]? = some (.cells #[.string r, .int .i64 0] 24 (0, 0)) := blk_later HRc.out hb
  have lR3 : w2.heap.size < w3.heap.size := lt_of_some hKR3
  obtain ⟨mR3, nR3, fR3, gR3⟩ := box2 hKR3
  have KR3 := Lib.hid hKR3
  clear hKR3
  have HB3 := Lib.hid hB3
  clear hb hB3 la k0 k1 kf0 kf1
  go_wp2_with fail
  all_goals
    refine (CcPb.out _).mono ?_
    rintro en4 w4 ⟨rfl, hb⟩
    have hB4 := below_then HB3.out hb
    have L4 := hb.size
    try simp at L4
    have hKR4 : w4.heap[w2.heap.size]? = some (.cells #[.string r, .int .i64 0] 24 (0, 0)) := blk_later KR3.out hb
    have lR4 : w2.heap.size < w4.heap.size := lt_of_some hKR4
    obtain ⟨mR4, nR4, fR4, gR4⟩ := box2 hKR4
    have KR4 := Lib.hid hKR4
    clear hKR4
    have HB4 := Lib.hid hB4
    clear hb hB4 mR3 nR3 fR3 gR3 lR3
    go_wp2
    go_ret
    exact ⟨rfl, HB4.out⟩

set_option maxRecDepth 1000000 in
set_option maxHeartbeats 1000000 in
theorem one_walk_dob (a b n k : Nat) (s pa pb pn r : ByteArray) (e1 : Int) (W : World) (hrs : r.size < s.size) (hk : r.size + k = s.size) (hkx : s.extract 0 k = pn) (ha : a < 18446744073709551616) (hb : b < 18446744073709551616) (hss : s.size ≤ 1152921504606846976)
    (he : e1 = 0) (hp1 : 1 ≤ pa.size) (hp10 : pa.size ≤ 10) (z1 : (a : Int) / 2 ^ (7 * pa.size) = 0) (z2 : 1 < pa.size) (z3 : ((a : Int) / 2 ^ (7 * (pa.size - 1)) == 0) = false) (heq : (pa.toList == pb.toList) = ((a : Int) == (b : Int)))
    (cN : ∀ w, Calls Tryd.prog 20 #[.agg #[.string s, .int .i64 0]] w fun e w' => e = .returned (.tuple #[.int .u64 n, .agg #[.string r, .int .i64 e1]]) ∧ Below w.heap.size w w')
    (cPa : ∀ w, Calls Tryd.prog 15 #[.int .u64 a] w fun e w' => e = .returned (.string pa) ∧ Below w.heap.size w w')
    (cPn : ∀ w, Calls Tryd.prog 15 #[.int .u64 n] w fun e w' => e = .returned (.string pn) ∧ Below w.heap.size w w')
    (cPb : ∀ w, Calls Tryd.prog 15 #[.int .u64 b] w fun e w' => e = .returned (.string pb) ∧ Below w.heap.size w w') :
    Calls Tryd.prog 5 #[.int .u64 a, .int .u64 b, .string s, .bool false] W fun e w' => e = .returned (.bool true) ∧ Below W.heap.size W w' := by
  have CcN := Lib.hid cN
  have CcPa := Lib.hid cPa
  have CcPn := Lib.hid cPn
  have CcPb := Lib.hid cPb
  clear cN cPa cPn cPb
  subst he
  have z4 : decide ((1 : Int) < (pa.size : Int)) = true := by simp; omega
  have z5 : decide (1 < pa.size) = true := by simp; omega
  go_enter Tryd.func5, Tryd.ntmps5
  go_wp2_with fail
  refine (examples_any _).mono ?_
  rintro en1 w1 ⟨rfl, hb⟩
  have hB1 := below_then (Below.refl _ _) hb
  have L1 := hb.size
  try simp at L1
  have HB1 := Lib.hid hB1
  clear hb hB1
  go_wp2_with fail
  refine (CcN.out _).mono ?_
  rintro en2 w2 ⟨rfl, hb⟩
  have hB2 := below_then HB1.out hb
  have L2 := hb.size
  try simp at L2
  have HB2 := Lib.hid hB2
  clear hb hB2
  go_wp2_with fail
  obtain ⟨wa, hwa⟩ : ∃ wa, w2.alloc (.cells #[.string r, .int .i64 0] 24) = wa := ⟨_, rfl⟩
  have hRa : wa.heap[w2.heap.size]? = some (.cells #[.string r, .int .i64 0] 24 (0, 0)) := by rw [← hwa]; exact heap_alloc_new2 _ _ _ _ rfl
  have hBa : Below W.heap.size W wa := by rw [← hwa]; exact below_alloc HB2.out _
  rw [hwa]
  obtain ⟨k0, k1, kf0, kf1⟩ := box2 hRa
  have la := lt_of_some hRa
  have HRa := Lib.hid hRa
  have HBa := Lib.hid hBa
  clear hwa hRa hBa
  have hw1 : IntKind.i64.wrap ((s.size : Int) - (r.size : Int)) = (k : Int) := by rw [IntKind.wrap_i64]; omega
  have hk0 : (0 : Int) ≤ (k : Int) := by omega
  have hk1 : (k : Int) ≤ (s.size : Int) := by omega
  have d1 : decide (r.size < s.size) = true := by simp; omega
  have d2 : decide ((r.size : Int) < (s.size : Int)) = true := by simp; omega
  go_region_held3 (fun w' => w'.cell? ⟨w2.heap.size, 0, none⟩ = some (.string r) ∧ w'.cell? ⟨w2.heap.size, 1, none⟩ = some (.int .i64 0)) (first | go_keep | exact ⟨(hb9.cell (p := ⟨w2.heap.size, 0, none⟩) la).trans k0, (hb9.cell (p := ⟨w2.heap.size, 1, none⟩) la).trans k1⟩) (first | (go_at_call 15; (with_reducible refine (CcPn.out _).mono ?_); rintro e w9 ⟨rfl, hb9⟩))
  have hb8 : Below wa.heap.size wa w9 := ⟨hb9.os, hb9.tape, hb9.output, hb9.size, hb9.block⟩
  have hRc := blk_later HRa.out hb8
  have hBc := below_then HBa.out hb8
  clear hb9 hb8 k0 k1 kf0 kf1 la
  have la := lt_of_some hRc
  obtain ⟨k0, k1, kf0, kf1⟩ := box2 hRc
  have HBc := Lib.hid hBc
  have HRc := Lib.hid hRc
  clear hRc hBc
  go_wp2_with fail
  refine (CcPa.out _).mono ?_
  rintro en3 w3 ⟨rfl, hb⟩
  have hB3 := below_then HBc.out hb
  have L3 := hb.size
  try simp at L3
  have hKR3 : w3.heap[w2.heap.size]? = some (.cells #[.string r, .int .i64 0] 24 (0, 0)) := blk_later HRc.out hb
  have lR3 : w2.heap.size < w3.heap.size := lt_of_some hKR3
  obtain ⟨mR3, nR3, fR3, gR3⟩ := box2 hKR3
  have KR3 := Lib.hid hKR3
  clear hKR3
  have HB3 := Lib.hid hB3
  clear hb hB3 la k0 k1 kf0 kf1
  go_wp2_with fail
  all_goals
    refine (CcPb.out _).mono ?_
    rintro en4 w4 ⟨rfl, hb⟩
    have hB4 := below_then HB3.out hb
    have L4 := hb.size
    try simp at L4
    have hKR4 : w4.heap[w2.heap.size]? = some (.cells #[.string r, .int .i64 0] 24 (0, 0)) := blk_later KR3.out hb
    have lR4 : w2.heap.size < w4.heap.size := lt_of_some hKR4
    obtain ⟨mR4, nR4, fR4, gR4⟩ := box2 hKR4
    have KR4 := Lib.hid hKR4
    clear hKR4
    have HB4 := Lib.hid hB4
    clear hb hB4 mR3 nR3 fR3 gR3 lR3
    go_wp2
    go_ret
    exact ⟨rfl, HB4.out⟩

set_option maxRecDepth 1000000 in
set_option maxHeartbeats 1000000 in
theorem one_walk_sel (a b n k : Nat) (s pa pb pn r : ByteArray) (e1 : Int) (W : World) (ha : a < 18446744073709551616) (hb : b < 18446744073709551616) (hss : s.size ≤ 1152921504606846976)
    (he : e1 ≠ 0) (hp1 : 1 ≤ pa.size) (hp10 : pa.size ≤ 10) (z1 : (a : Int) / 2 ^ (7 * pa.size) = 0) (z2 : pa.size ≤ 1)
    (cN : ∀ w, Calls Tryd.prog 20 #[.agg #[.string s, .int .i64 0]] w fun e w' => e = .returned (.tuple #[.int .u64 0, .agg #[.string ⟨#[]⟩, .int .i64 e1]]) ∧ Below w.heap.size w w')
    (cPa : ∀ w, Calls Tryd.prog 15 #[.int .u64 a] w fun e w' => e = .returned (.string pa) ∧ Below w.heap.size w w') :
    Calls Tryd.prog 5 #[.int .u64 a, .int .u64 b, .string s, .bool true] W fun e w' => e = .returned (.bool true) ∧ Below W.heap.size W w' := by
  have CcN := Lib.hid cN
  have CcPa := Lib.hid cPa
  clear cN cPa
  have he1 : (e1 == 0) = false := by simp [he]
  clear he
  have z4 : decide ((1 : Int) < (pa.size : Int)) = false := by simp; omega
  have z5 : decide (1 < pa.size) = false := by simp; omega
  go_enter Tryd.func5, Tryd.ntmps5
  go_wp2_with fail
  refine (examples_any _).mono ?_
  rintro en1 w1 ⟨rfl, hb⟩
  have hB1 := below_then (Below.refl _ _) hb
  have L1 := hb.size
  try simp at L1
  have HB1 := Lib.hid hB1
  clear hb hB1
  go_wp2_with fail
  refine (CcN.out _).mono ?_
  rintro en2 w2 ⟨rfl, hb⟩
  have hB2 := below_then HB1.out hb
  have L2 := hb.size
  try simp at L2
  have HB2 := Lib.hid hB2
  clear hb hB2
  go_wp2_with fail
  obtain ⟨wa, hwa⟩ : ∃ wa, w2.alloc (.cells #[.string ⟨#[]⟩, .int .i64 e1] 24) = wa := ⟨_, rfl⟩
  have hRa : wa.heap[w2.heap.size]? = some (.cells #[.string ⟨#[]⟩, .int .i64 e1] 24 (0, 0)) := by rw [← hwa]; exact heap_alloc_new2 _ _ _ _ rfl
  have hBa : Below W.heap.size W wa := by rw [← hwa]; exact below_alloc HB2.out _
  rw [hwa]
  obtain ⟨k0, k1, kf0, kf1⟩ := box2 hRa
  have la := lt_of_some hRa
  have HRa := Lib.hid hRa
  have HBa := Lib.hid hBa
  clear hwa hRa hBa
  go_quiet (fail)
  have hb8 : Below wa.heap.size wa (wa.drewN nq) := ⟨rfl, rfl, rfl, Nat.le_refl _, fun _ _ => rfl⟩
  obtain ⟨wc, hwc⟩ : ∃ wc, wa.drewN nq = wc := ⟨_, rfl⟩
  rw [hwc] at hb8 ⊢
  have hRc := blk_later HRa.out hb8
  have hBc := below_then HBa.out hb8
  clear hb8 k0 k1 kf0 kf1 la hwc
  have la := lt_of_some hRc
  obtain ⟨k0, k1, kf0, kf1⟩ := box2 hRc
  have HBc := Lib.hid hBc
  have HRc := Lib.hid hRc
  clear hRc hBc
  go_wp2_with fail
  refine (CcPa.out _).mono ?_
  rintro en3 w3 ⟨rfl, hb⟩
  have hB3 := below_then HBc.out hb
  have L3 := hb.size
  try simp at L3
  have hKR3 : w3.heap[w2.heap.size]? = some (.cells #[.string ⟨#[]⟩, .int .i64 e1] 24 (0, 0)) := blk_later HRc.out hb
  have lR3 : w2.heap.size < w3.heap.size := lt_of_some hKR3
  obtain ⟨mR3, nR3, fR3, gR3⟩ := box2 hKR3
  have KR3 := Lib.hid hKR3
  clear hKR3
  have HB3 := Lib.hid hB3
  clear hb hB3 la k0 k1 kf0 kf1
  go_wp2_with fail
  all_goals
    refine (CcPa.out _).mono ?_
    rintro en4 w4 ⟨rfl, hb⟩
    have hB4 := below_then HB3.out hb
    have L4 := hb.size
    try simp at L4
    have hKR4 : w4.heap[w2.heap.size]? = some (.cells #[.string ⟨#[]⟩, .int .i64 e1] 24 (0, 0)) := blk_later KR3.out hb
    have lR4 : w2.heap.size < w4.heap.size := lt_of_some hKR4
    obtain ⟨mR4, nR4, fR4, gR4⟩ := box2 hKR4
    have KR4 := Lib.hid hKR4
    clear hKR4
    have HB4 := Lib.hid hB4
    clear hb hB4 mR3 nR3 fR3 gR3 lR3
    go_wp2
    go_ret
    exact ⟨rfl, HB4.out⟩

set_option maxRecDepth 1000000 in
set_option maxHeartbeats 1000000 in
theorem one_walk_seb (a b n k : Nat) (s pa pb pn r : ByteArray) (e1 : Int) (W : World) (ha : a < 18446744073709551616) (hb : b < 18446744073709551616) (hss : s.size ≤ 1152921504606846976)
    (he : e1 ≠ 0) (hp1 : 1 ≤ pa.size) (hp10 : pa.size ≤ 10) (z1 : (a : Int) / 2 ^ (7 * pa.size) = 0) (z2 : 1 < pa.size) (z3 : ((a : Int) / 2 ^ (7 * (pa.size - 1)) == 0) = false)
    (cN : ∀ w, Calls Tryd.prog 20 #[.agg #[.string s, .int .i64 0]] w fun e w' => e = .returned (.tuple #[.int .u64 0, .agg #[.string ⟨#[]⟩, .int .i64 e1]]) ∧ Below w.heap.size w w')
    (cPa : ∀ w, Calls Tryd.prog 15 #[.int .u64 a] w fun e w' => e = .returned (.string pa) ∧ Below w.heap.size w w') :
    Calls Tryd.prog 5 #[.int .u64 a, .int .u64 b, .string s, .bool true] W fun e w' => e = .returned (.bool true) ∧ Below W.heap.size W w' := by
  have CcN := Lib.hid cN
  have CcPa := Lib.hid cPa
  clear cN cPa
  have he1 : (e1 == 0) = false := by simp [he]
  clear he
  have z4 : decide ((1 : Int) < (pa.size : Int)) = true := by simp; omega
  have z5 : decide (1 < pa.size) = true := by simp; omega
  go_enter Tryd.func5, Tryd.ntmps5
  go_wp2_with fail
  refine (examples_any _).mono ?_
  rintro en1 w1 ⟨rfl, hb⟩
  have hB1 := below_then (Below.refl _ _) hb
  have L1 := hb.size
  try simp at L1
  have HB1 := Lib.hid hB1
  clear hb hB1
  go_wp2_with fail
  refine (CcN.out _).mono ?_
  rintro en2 w2 ⟨rfl, hb⟩
  have hB2 := below_then HB1.out hb
  have L2 := hb.size
  try simp at L2
  have HB2 := Lib.hid hB2
  clear hb hB2
  go_wp2_with fail
  obtain ⟨wa, hwa⟩ : ∃ wa, w2.alloc (.cells #[.string ⟨#[]⟩, .int .i64 e1] 24) = wa := ⟨_, rfl⟩
  have hRa : wa.heap[w2.heap.size]? = some (.cells #[.string ⟨#[]⟩, .int .i64 e1] 24 (0, 0)) := by rw [← hwa]; exact heap_alloc_new2 _ _ _ _ rfl
  have hBa : Below W.heap.size W wa := by rw [← hwa]; exact below_alloc HB2.out _
  rw [hwa]
  obtain ⟨k0, k1, kf0, kf1⟩ := box2 hRa
  have la := lt_of_some hRa
  have HRa := Lib.hid hRa
  have HBa := Lib.hid hBa
  clear hwa hRa hBa
  go_quiet (fail)
  have hb8 : Below wa.heap.size wa (wa.drewN nq) := ⟨rfl, rfl, rfl, Nat.le_refl _, fun _ _ => rfl⟩
  obtain ⟨wc, hwc⟩ : ∃ wc, wa.drewN nq = wc := ⟨_, rfl⟩
  rw [hwc] at hb8 ⊢
  have hRc := blk_later HRa.out hb8
  have hBc := below_then HBa.out hb8
  clear hb8 k0 k1 kf0 kf1 la hwc
  have la := lt_of_some hRc
  obtain ⟨k0, k1, kf0, kf1⟩ := box2 hRc
  have HBc := Lib.hid hBc
  have HRc := Lib.hid hRc
  clear hRc hBc
  go_wp2_with fail
  refine (CcPa.out _).mono ?_
  rintro en3 w3 ⟨rfl, hb⟩
  have hB3 := below_then HBc.out hb
  have L3 := hb.size
  try simp at L3
  have hKR3 : w3.heap[w2.heap.size]? = some (.cells #[.string ⟨#[]⟩, .int .i64 e1] 24 (0, 0)) := blk_later HRc.out hb
  have lR3 : w2.heap.size < w3.heap.size := lt_of_some hKR3
  obtain ⟨mR3, nR3, fR3, gR3⟩ := box2 hKR3
  have KR3 := Lib.hid hKR3
  clear hKR3
  have HB3 := Lib.hid hB3
  clear hb hB3 la k0 k1 kf0 kf1
  go_wp2_with fail
  all_goals
    refine (CcPa.out _).mono ?_
    rintro en4 w4 ⟨rfl, hb⟩
    have hB4 := below_then HB3.out hb
    have L4 := hb.size
    try simp at L4
    have hKR4 : w4.heap[w2.heap.size]? = some (.cells #[.string ⟨#[]⟩, .int .i64 e1] 24 (0, 0)) := blk_later KR3.out hb
    have lR4 : w2.heap.size < w4.heap.size := lt_of_some hKR4
    obtain ⟨mR4, nR4, fR4, gR4⟩ := box2 hKR4
    have KR4 := Lib.hid hKR4
    clear hKR4
    have HB4 := Lib.hid hB4
    clear hb hB4 mR3 nR3 fR3 gR3 lR3
    go_wp2
    go_ret
    exact ⟨rfl, HB4.out⟩

set_option maxRecDepth 1000000 in
set_option maxHeartbeats 1000000 in
theorem one_walk_sol (a b n k : Nat) (s pa pb pn r : ByteArray) (e1 : Int) (W : World) (hrs : r.size < s.size) (hk : r.size + k = s.size) (hkx : s.extract 0 k = pn) (ha : a < 18446744073709551616) (hb : b < 18446744073709551616) (hss : s.size ≤ 1152921504606846976)
    (he : e1 = 0) (hp1 : 1 ≤ pa.size) (hp10 : pa.size ≤ 10) (z1 : (a : Int) / 2 ^ (7 * pa.size) = 0) (z2 : pa.size ≤ 1)
    (cN : ∀ w, Calls Tryd.prog 20 #[.agg #[.string s, .int .i64 0]] w fun e w' => e = .returned (.tuple #[.int .u64 n, .agg #[.string r, .int .i64 e1]]) ∧ Below w.heap.size w w')
    (cPa : ∀ w, Calls Tryd.prog 15 #[.int .u64 a] w fun e w' => e = .returned (.string pa) ∧ Below w.heap.size w w')
    (cPn : ∀ w, Calls Tryd.prog 15 #[.int .u64 n] w fun e w' => e = .returned (.string pn) ∧ Below w.heap.size w w') :
    Calls Tryd.prog 5 #[.int .u64 a, .int .u64 b, .string s, .bool true] W fun e w' => e = .returned (.bool true) ∧ Below W.heap.size W w' := by
  have CcN := Lib.hid cN
  have CcPa := Lib.hid cPa
  have CcPn := Lib.hid cPn
  clear cN cPa cPn
  subst he
  have z4 : decide ((1 : Int) < (pa.size : Int)) = false := by simp; omega
  have z5 : decide (1 < pa.size) = false := by simp; omega
  go_enter Tryd.func5, Tryd.ntmps5
  go_wp2_with fail
  refine (examples_any _).mono ?_
  rintro en1 w1 ⟨rfl, hb⟩
  have hB1 := below_then (Below.refl _ _) hb
  have L1 := hb.size
  try simp at L1
  have HB1 := Lib.hid hB1
  clear hb hB1
  go_wp2_with fail
  refine (CcN.out _).mono ?_
  rintro en2 w2 ⟨rfl, hb⟩
  have hB2 := below_then HB1.out hb
  have L2 := hb.size
  try simp at L2
  have HB2 := Lib.hid hB2
  clear hb hB2
  go_wp2_with fail
  obtain ⟨wa, hwa⟩ : ∃ wa, w2.alloc (.cells #[.string r, .int .i64 0] 24) = wa := ⟨_, rfl⟩
  have hRa : wa.heap[w2.heap.size]? = some (.cells #[.string r, .int .i64 0] 24 (0, 0)) := by rw [← hwa]; exact heap_alloc_new2 _ _ _ _ rfl
  have hBa : Below W.heap.size W wa := by rw [← hwa]; exact below_alloc HB2.out _
  rw [hwa]
  obtain ⟨k0, k1, kf0, kf1⟩ := box2 hRa
  have la := lt_of_some hRa
  have HRa := Lib.hid hRa
  have HBa := Lib.hid hBa
  clear hwa hRa hBa
  have hw1 : IntKind.i64.wrap ((s.size : Int) - (r.size : Int)) = (k : Int) := by rw [IntKind.wrap_i64]; omega
  have hk0 : (0 : Int) ≤ (k : Int) := by omega
  have hk1 : (k : Int) ≤ (s.size : Int) := by omega
  have d1 : decide (r.size < s.size) = true := by simp; omega
  have d2 : decide ((r.size : Int) < (s.size : Int)) = true := by simp; omega
  go_region_held3 (fun w' => w'.cell? ⟨w2.heap.size, 0, none⟩ = some (.string r) ∧ w'.cell? ⟨w2.heap.size, 1, none⟩ = some (.int .i64 0)) (first | go_keep | exact ⟨(hb9.cell (p := ⟨w2.heap.size, 0, none⟩) la).trans k0, (hb9.cell (p := ⟨w2.heap.size, 1, none⟩) la).trans k1⟩) (first | (go_at_call 15; (with_reducible refine (CcPn.out _).mono ?_); rintro e w9 ⟨rfl, hb9⟩))
  have hb8 : Below wa.heap.size wa w9 := ⟨hb9.os, hb9.tape, hb9.output, hb9.size, hb9.block⟩
  have hRc := blk_later HRa.out hb8
  have hBc := below_then HBa.out hb8
  clear hb9 hb8 k0 k1 kf0 kf1 la
  have la := lt_of_some hRc
  obtain ⟨k0, k1, kf0, kf1⟩ := box2 hRc
  have HBc := Lib.hid hBc
  have HRc := Lib.hid hRc
  clear hRc hBc
  go_wp2_with fail
  refine (CcPa.out _).mono ?_
  rintro en3 w3 ⟨rfl, hb⟩
  have hB3 := below_then HBc.out hb
  have L3 := hb.size
  try simp at L3
  have hKR3 : w3.heap[w2.heap.size]? = some (.cells #[.string r, .int .i64 0] 24 (0, 0)) := blk_later HRc.out hb
  have lR3 : w2.heap.size < w3.heap.size := lt_of_some hKR3
  obtain ⟨mR3, nR3, fR3, gR3⟩ := box2 hKR3
  have KR3 := Lib.hid hKR3
  clear hKR3
  have HB3 := Lib.hid hB3
  clear hb hB3 la k0 k1 kf0 kf1
  go_wp2_with fail
  all_goals
    refine (CcPa.out _).mono ?_
    rintro en4 w4 ⟨rfl, hb⟩
    have hB4 := below_then HB3.out hb
    have L4 := hb.size
    try simp at L4
    have hKR4 : w4.heap[w2.heap.size]? = some (.cells #[.string r, .int .i64 0] 24 (0, 0)) := blk_later KR3.out hb
    have lR4 : w2.heap.size < w4.heap.size := lt_of_some hKR4
    obtain ⟨mR4, nR4, fR4, gR4⟩ := box2 hKR4
    have KR4 := Lib.hid hKR4
    clear hKR4
    have HB4 := Lib.hid hB4
    clear hb hB4 mR3 nR3 fR3 gR3 lR3
    go_wp2
    go_ret
    exact ⟨rfl, HB4.out⟩

set_option maxRecDepth 1000000 in
set_option maxHeartbeats 1000000 in
theorem one_walk_sob (a b n k : Nat) (s pa pb pn r : ByteArray) (e1 : Int) (W : World) (hrs : r.size < s.size) (hk : r.size + k = s.size) (hkx : s.extract 0 k = pn) (ha : a < 18446744073709551616) (hb : b < 18446744073709551616) (hss : s.size ≤ 1152921504606846976)
    (he : e1 = 0) (hp1 : 1 ≤ pa.size) (hp10 : pa.size ≤ 10) (z1 : (a : Int) / 2 ^ (7 * pa.size) = 0) (z2 : 1 < pa.size) (z3 : ((a : Int) / 2 ^ (7 * (pa.size - 1)) == 0) = false)
    (cN : ∀ w, Calls Tryd.prog 20 #[.agg #[.string s, .int .i64 0]] w fun e w' => e = .returned (.tuple #[.int .u64 n, .agg #[.string r, .int .i64 e1]]) ∧ Below w.heap.size w w')
    (cPa : ∀ w, Calls Tryd.prog 15 #[.int .u64 a] w fun e w' => e = .returned (.string pa) ∧ Below w.heap.size w w')
    (cPn : ∀ w, Calls Tryd.prog 15 #[.int .u64 n] w fun e w' => e = .returned (.string pn) ∧ Below w.heap.size w w') :
    Calls Tryd.prog 5 #[.int .u64 a, .int .u64 b, .string s, .bool true] W fun e w' => e = .returned (.bool true) ∧ Below W.heap.size W w' := by
  have CcN := Lib.hid cN
  have CcPa := Lib.hid cPa
  have CcPn := Lib.hid cPn
  clear cN cPa cPn
  subst he
  have z4 : decide ((1 : Int) < (pa.size : Int)) = true := by simp; omega
  have z5 : decide (1 < pa.size) = true := by simp; omega
  go_enter Tryd.func5, Tryd.ntmps5
  go_wp2_with fail
  refine (examples_any _).mono ?_
  rintro en1 w1 ⟨rfl, hb⟩
  have hB1 := below_then (Below.refl _ _) hb
  have L1 := hb.size
  try simp at L1
  have HB1 := Lib.hid hB1
  clear hb hB1
  go_wp2_with fail
  refine (CcN.out _).mono ?_
  rintro en2 w2 ⟨rfl, hb⟩
  have hB2 := below_then HB1.out hb
  have L2 := hb.size
  try simp at L2
  have HB2 := Lib.hid hB2
  clear hb hB2
  go_wp2_with fail
  obtain ⟨wa, hwa⟩ : ∃ wa, w2.alloc (.cells #[.string r, .int .i64 0] 24) = wa := ⟨_, rfl⟩
  have hRa : wa.heap[w2.heap.size]? = some (.cells #[.string r, .int .i64 0] 24 (0, 0)) := by rw [← hwa]; exact heap_alloc_new2 _ _ _ _ rfl
  have hBa : Below W.heap.size W wa := by rw [← hwa]; exact below_alloc HB2.out _
  rw [hwa]
  obtain ⟨k0, k1, kf0, kf1⟩ := box2 hRa
  have la := lt_of_some hRa
  have HRa := Lib.hid hRa
  have HBa := Lib.hid hBa
  clear hwa hRa hBa
  have hw1 : IntKind.i64.wrap ((s.size : Int) - (r.size : Int)) = (k : Int) := by rw [IntKind.wrap_i64]; omega
  have hk0 : (0 : Int) ≤ (k : Int) := by omega
  have hk1 : (k : Int) ≤ (s.size : Int) := by omega
  have d1 : decide (r.size < s.size) = true := by simp; omega
  have d2 : decide ((r.size : Int) < (s.size : Int)) = true := by simp; omega
  go_region_held3 (fun w' => w'.cell? ⟨w2.heap.size, 0, none⟩ = some (.string r) ∧ w'.cell? ⟨w2.heap.size, 1, none⟩ = some (.int .i64 0)) (first | go_keep | exact ⟨(hb9.cell (p := ⟨w2.heap.size, 0, none⟩) la).trans k0, (hb9.cell (p := ⟨w2.heap.size, 1, none⟩) la).trans k1⟩) (first | (go_at_call 15; (with_reducible refine (CcPn.out _).mono ?_); rintro e w9 ⟨rfl, hb9⟩))
  have hb8 : Below wa.heap.size wa w9 := ⟨hb9.os, hb9.tape, hb9.output, hb9.size, hb9.block⟩
  have hRc := blk_later HRa.out hb8
  have hBc := below_then HBa.out hb8
  clear hb9 hb8 k0 k1 kf0 kf1 la
  have la := lt_of_some hRc
  obtain ⟨k0, k1, kf0, kf1⟩ := box2 hRc
  have HBc := Lib.hid hBc
  have HRc := Lib.hid hRc
  clear hRc hBc
  go_wp2_with fail
  refine (CcPa.out _).mono ?_
  rintro en3 w3 ⟨rfl, hb⟩
  have hB3 := below_then HBc.out hb
  have L3 := hb.size
  try simp at L3
  have hKR3 : w3.heap[w2.heap.size]? = some (.cells #[.string r, .int .i64 0] 24 (0, 0)) := blk_later HRc.out hb
  have lR3 : w2.heap.size < w3.heap.size := lt_of_some hKR3
  obtain ⟨mR3, nR3, fR3, gR3⟩ := box2 hKR3
  have KR3 := Lib.hid hKR3
  clear hKR3
  have HB3 := Lib.hid hB3
  clear hb hB3 la k0 k1 kf0 kf1
  go_wp2_with fail
  all_goals
    refine (CcPa.out _).mono ?_
    rintro en4 w4 ⟨rfl, hb⟩
    have hB4 := below_then HB3.out hb
    have L4 := hb.size
    try simp at L4
    have hKR4 : w4.heap[w2.heap.size]? = some (.cells #[.string r, .int .i64 0] 24 (0, 0)) := blk_later KR3.out hb
    have lR4 : w2.heap.size < w4.heap.size := lt_of_some hKR4
    obtain ⟨mR4, nR4, fR4, gR4⟩ := box2 hKR4
    have KR4 := Lib.hid hKR4
    clear hKR4
    have HB4 := Lib.hid hB4
    clear hb hB4 mR3 nR3 fR3 gR3 lR3
    go_wp2
    go_ret
    exact ⟨rfl, HB4.out⟩

end Go.Proofs.YtkkgdnmloojloaaDoor
namespace Go.Proofs.YtkkgdnmloojloaaDoor
open Go.RowKit Go.Lib
theorem goN_err : ∀ (f acc : Nat) (l : List UInt8), (Plain.goN f acc l).2.2 ≠ 0 → (Plain.goN f acc l).1 = 0 ∧ (Plain.goN f acc l).2.1 = [] := by
  intro f
  induction f with
  | zero => intro acc l _; simp [Plain.goN]
  | succ f ih =>
    intro acc l
    cases l with
    | nil => intro _; simp [Plain.goN]
    | cons b t =>
      unfold Plain.goN
      split
      · intro _; exact ⟨rfl, rfl⟩
      · split
        · intro _; exact ⟨rfl, rfl⟩
        · split
          · intro h; exact absurd rfl h
          · exact ih _ _
theorem div_zero_i (a k : Nat) (h : a < 2 ^ k) : (a : Int) / 2 ^ k = 0 := by
  have h1 : a / 2 ^ k = 0 := Nat.div_eq_of_lt h
  exact_mod_cast h1
theorem div_ne_i (a k : Nat) (h : 2 ^ k ≤ a) : ((a : Int) / 2 ^ k == 0) = false := by
  have h1 : 0 < a / 2 ^ k := Nat.div_pos h (Nat.pow_pos (by decide))
  have h2 : (a : Int) / 2 ^ k = ((a / 2 ^ k : Nat) : Int) := by norm_cast
  rw [h2]; simp; omega
theorem put_eq (a b : Nat) (ha : a < 18446744073709551616) (hb : b < 18446744073709551616) : ((str (Plain.putL a)).toList == (str (Plain.putL b)).toList) = ((a : Int) == (b : Int)) := by
  rw [Go.ByteArray.toList_eq, Go.ByteArray.toList_eq, str_list, str_list]
  by_cases h : a = b
  · subst h; simp
  · have h1 : Plain.putL a ≠ Plain.putL b := fun e => h (Plain.putL_inj a b ha hb e)
    rw [beq_eq_false_iff_ne.2 h1, beq_eq_false_iff_ne.2 (by omega)]
theorem one_all (a0 a1 : Int) (s : ByteArray) (same : Bool) (W : World) (w0 : (Lit.int .u64 a0).wf = true) (w1 : (Lit.int .u64 a1).wf = true) (s2 : s.size ≤ 140737488355328) :
    Calls Tryd.prog 5 #[.int .u64 a0, .int .u64 a1, .string s, .bool same] W fun e w' => e = .returned (.bool true) ∧ Below W.heap.size W w' := by
  obtain ⟨a, rfl, ha⟩ := wf_u64 w0
  obtain ⟨b, rfl, hb⟩ := wf_u64 w1
  obtain ⟨S, rfl⟩ : ∃ S, s = str S := ⟨s.data.toList, (str_of s).symm⟩
  have hS := str_size S
  have la := Plain.putL_len10 a ha
  have hfew := Plain.putL_few a
  have cPa : ∀ w, Calls Tryd.prog 15 #[.int .u64 a] w fun e w' => e = .returned (.string (str (Plain.putL a))) ∧ Below w.heap.size w w' := fun w => put_any a w ha
  have cPb : ∀ w, Calls Tryd.prog 15 #[.int .u64 b] w fun e w' => e = .returned (.string (str (Plain.putL b))) ∧ Below w.heap.size w w' := fun w => put_any b w hb
  have p1 : 1 ≤ (str (Plain.putL a)).size := by rw [str_size]; exact la.1
  have p2 : (str (Plain.putL a)).size ≤ 10 := by rw [str_size]; exact la.2
  have z1 : (a : Int) / 2 ^ (7 * (str (Plain.putL a)).size) = 0 := by rw [str_size]; exact div_zero_i _ _ hfew.1
  have z3 : 1 < (str (Plain.putL a)).size → ((a : Int) / 2 ^ (7 * ((str (Plain.putL a)).size - 1)) == 0) = false := fun h => by
    rw [str_size] at h ⊢
    exact div_ne_i _ _ (hfew.2.resolve_left (by omega))
  have heq := put_eq a b ha hb
  have hl0 : (Plain.Rd.mk S 0).rest.length ≤ 1152921504606846976 := by show S.length ≤ _; omega
  have hgo : (Plain.Rd.mk S 0).next = ((Plain.goN 10 0 S).1, ⟨(Plain.goN 10 0 S).2.1, (Plain.goN 10 0 S).2.2⟩) := by unfold Plain.Rd.next; rw [if_pos rfl]
  obtain ⟨n, t, e, hg⟩ : ∃ n t e, Plain.goN 10 0 S = (n, t, e) := ⟨_, _, _, rfl⟩
  have hN := next_at hgo hl0
  rw [hg] at hN
  dsimp only at hN
  by_cases he : e = 0
  · subst he
    obtain ⟨m, h1, h2, h3, _⟩ := Plain.go_back 9 0 S n t (Nat.le_refl _) hg
    simp only [Nat.sub_self, Nat.mul_zero, Nat.pow_zero, Nat.mul_one, Nat.zero_add] at h2 h3
    subst h2
    have hn : n < 18446744073709551616 := h3
    have ln := Plain.putL_len10 n hn
    have cPn : ∀ w, Calls Tryd.prog 15 #[.int .u64 n] w fun e w' => e = .returned (.string (str (Plain.putL n))) ∧ Below w.heap.size w w' := fun w => put_any n w hn
    have hSl : S.length = (Plain.putL n).length + t.length := by rw [h1]; simp
    have k1 : (str t).size < (str S).size := by rw [str_size, str_size]; omega
    have k2 : (str t).size + (Plain.putL n).length = (str S).size := by rw [str_size, str_size]; omega
    have k3 : (str S).extract 0 (Plain.putL n).length = str (Plain.putL n) := by rw [str_take, h1, List.take_left]
    cases same
    · by_cases hp : 1 < (str (Plain.putL a)).size
      · exact one_walk_dob a b n _ _ _ _ _ _ 0 W k1 k2 k3 ha hb (by omega) rfl p1 p2 z1 hp (z3 hp) heq hN cPa cPn cPb
      · exact one_walk_dol a b n _ _ _ _ _ _ 0 W k1 k2 k3 ha hb (by omega) rfl p1 p2 z1 (by omega) heq hN cPa cPn cPb
    · by_cases hp : 1 < (str (Plain.putL a)).size
      · exact one_walk_sob a b n _ _ _ (str (Plain.putL b)) _ _ 0 W k1 k2 k3 ha hb (by omega) rfl p1 p2 z1 hp (z3 hp) hN cPa cPn
      · exact one_walk_sol a b n _ _ _ (str (Plain.putL b)) _ _ 0 W k1 k2 k3 ha hb (by omega) rfl p1 p2 z1 (by omega) hN cPa cPn
  · have herr := goN_err 10 0 S (by rw [hg]; exact he)
    rw [hg] at herr
    obtain ⟨h1, h2⟩ := herr
    dsimp only at h1 h2
    subst h1 h2
    have he' : ((e : Nat) : Int) ≠ 0 := by omega
    cases same
    · by_cases hp : 1 < (str (Plain.putL a)).size
      · exact one_walk_deb a b 0 0 _ _ _ (str []) (str []) e W ha hb (by omega) he' p1 p2 z1 hp (z3 hp) heq hN cPa cPb
      · exact one_walk_del a b 0 0 _ _ _ (str []) (str []) e W ha hb (by omega) he' p1 p2 z1 (by omega) heq hN cPa cPb
    · by_cases hp : 1 < (str (Plain.putL a)).size
      · exact one_walk_seb a b 0 0 _ _ (str []) (str []) (str []) e W ha hb (by omega) he' p1 p2 z1 hp (z3 hp) hN cPa
      · exact one_walk_sel a b 0 0 _ _ (str []) (str []) (str []) e W ha hb (by omega) he' p1 p2 z1 (by omega) hN cPa
end Go.Proofs.YtkkgdnmloojloaaDoor
