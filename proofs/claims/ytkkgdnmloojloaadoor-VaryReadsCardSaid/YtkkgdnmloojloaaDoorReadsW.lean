/- VaryReads' walk for every input: deed by deed the code's reader and the document's. Conditions: none but the reach. -/
import Derived.Test.YtkkgdnmloojloaaDoorReadsA
import Derived.Test.YtkkgdnmloojloaaDoorPadsW
import Derived.Deep.DeepCutAuto
import Derived.SizedLaws
set_option linter.unusedVariables false
set_option linter.unusedSimpArgs false
namespace Go.Proofs.YtkkgdnmloojloaaDoor
open Go.RowKit Go.Lib
theorem next_pair (l : List UInt8) (e : Int) (hl : l.length ≤ 1152921504606846976) : ∃ (a : Nat) (l2 : List UInt8) (e2 : Int), l2.length ≤ 1152921504606846976 ∧
    (∀ w, Calls Tryd.prog 20 #[.agg #[.string (str l), .int .i64 e]] w fun en w' => en = .returned (.tuple #[.int .u64 a, .agg #[.string (str l2), .int .i64 e2]]) ∧ Below w.heap.size w w') ∧
    (∀ w, Calls Tryd.prog 21 #[.agg #[.string (str l), .int .i64 e]] w fun en w' => en = .returned (.tuple #[.int .u64 a, .agg #[.string (str l2), .int .i64 e2]]) ∧ Below w.heap.size w w') :=
  ⟨(Plain.Rd.mk l e).next.1, (Plain.Rd.mk l e).next.2.rest, (Plain.Rd.mk l e).next.2.e, Nat.le_trans (next_len ⟨l, e⟩) hl, fun w => next_any ⟨l, e⟩ w hl, fun w => rnext_any ⟨l, e⟩ w hl⟩
theorem text_pair (l : List UInt8) (e : Int) (most : Nat) (hm : most < 18446744073709551616) (hl : l.length ≤ 1152921504606846976) : ∃ (t l2 : List UInt8) (e2 : Int), l2.length ≤ 1152921504606846976 ∧
    (∀ w, Calls Tryd.prog 22 #[.agg #[.string (str l), .int .i64 e], .int .u64 most] w fun en w' => en = .returned (.tuple #[.string (str t), .agg #[.string (str l2), .int .i64 e2]]) ∧ Below w.heap.size w w') ∧
    (∀ w, Calls Tryd.prog 23 #[.agg #[.string (str l), .int .i64 e], .int .u64 most] w fun en w' => en = .returned (.tuple #[.string (str t), .agg #[.string (str l2), .int .i64 e2]]) ∧ Below w.heap.size w w') :=
  ⟨((Plain.Rd.mk l e).text most).1, ((Plain.Rd.mk l e).text most).2.rest, ((Plain.Rd.mk l e).text most).2.e, Nat.le_trans (text_len ⟨l, e⟩ most) hl, fun w => text_any ⟨l, e⟩ most w hl hm, fun w => rtext_any ⟨l, e⟩ most w hl hm⟩
theorem bytes_pair (l : List UInt8) (e : Int) (m : Int) (hl : l.length ≤ 1152921504606846976) : ∃ (t l2 : List UInt8) (e2 : Int), l2.length ≤ 1152921504606846976 ∧
    (∀ w, Calls Tryd.prog 24 #[.agg #[.string (str l), .int .i64 e], .int .i64 m] w fun en w' => en = .returned (.tuple #[.string (str t), .agg #[.string (str l2), .int .i64 e2]]) ∧ Below w.heap.size w w') ∧
    (∀ w, Calls Tryd.prog 25 #[.agg #[.string (str l), .int .i64 e], .int .i64 m] w fun en w' => en = .returned (.tuple #[.string (str t), .agg #[.string (str l2), .int .i64 e2]]) ∧ Below w.heap.size w w') :=
  ⟨((Plain.Rd.mk l e).bytes m).1, ((Plain.Rd.mk l e).bytes m).2.rest, ((Plain.Rd.mk l e).bytes m).2.e, Nat.le_trans (bytes_len ⟨l, e⟩ m) hl, fun w => bytes_any ⟨l, e⟩ m w hl, fun w => rbytes_any ⟨l, e⟩ m w hl⟩
theorem pad_len (r : Plain.Rd) (m : Int) : (r.pad m).rest.length ≤ r.rest.length := by
  unfold Plain.Rd.pad
  split
  · exact bytes_len r m
  · exact Nat.le_trans (fail_len _ _) (bytes_len r m)
theorem pad_pair (l : List UInt8) (e : Int) (m : Int) (hl : l.length ≤ 1152921504606846976) : ∃ (l2 : List UInt8) (e2 : Int), l2.length ≤ 1152921504606846976 ∧
    (∀ w, Calls Tryd.prog 26 #[.agg #[.string (str l), .int .i64 e], .int .i64 m] w fun en w' => en = .returned (.agg #[.string (str l2), .int .i64 e2]) ∧ Below w.heap.size w w') ∧
    (∀ w, Calls Tryd.prog 27 #[.agg #[.string (str l), .int .i64 e], .int .i64 m] w fun en w' => en = .returned (.agg #[.string (str l2), .int .i64 e2]) ∧ Below w.heap.size w w') :=
  ⟨((Plain.Rd.mk l e).pad m).rest, ((Plain.Rd.mk l e).pad m).e, Nat.le_trans (pad_len ⟨l, e⟩ m) hl, fun w => pad_any ⟨l, e⟩ m w hl, fun w => rpad_any ⟨l, e⟩ m w hl⟩
theorem end_pair (l : List UInt8) (e : Int) : ∃ z : Int,
    (∀ w, Calls Tryd.prog 28 #[.agg #[.string (str l), .int .i64 e]] w fun en w' => en = .returned (.int .i64 z) ∧ Below w.heap.size w w') ∧
    (∀ w, Calls Tryd.prog 29 #[.agg #[.string (str l), .int .i64 e]] w fun en w' => en = .returned (.int .i64 z) ∧ Below w.heap.size w w') :=
  ⟨(Plain.Rd.mk l e).endE, fun w => end_any ⟨l, e⟩ w, fun w => rend_any ⟨l, e⟩ w⟩
def CutA (wr : World) (C : Obj) (v : Value) (sp sr : Value) (wx : World) : Prop := ∃ (wy : World) (pa : Nat), wy = wx ∧ sp = .pointer (some ⟨pa, 0, none⟩) ∧ sr = v ∧ Below wr.heap.size wr wy ∧ wr.heap.size ≤ pa ∧ wy.heap[pa]? = some C
def CutI (W : World) (v : Value) (sp : Value) (wx : World) : Prop := ∃ (wy : World) (s0 : ByteArray) (e0 : Int), wy = wx ∧ sp = v ∧ s0.size ≤ 1152921504606846976 ∧ Below W.heap.size W wy ∧ wy.heap[W.heap.size]? = some (.cells #[.string s0, .int .i64 e0] 24 (0, 0))
theorem keepL {ws w1 w2 : World} {g h : Nat} {a b c d : Value} (hS : Below ws.heap.size ws w1 ∧ w1.cell? ⟨g, 0, none⟩ = some a ∧ w1.cell? ⟨g, 1, none⟩ = some b ∧ w1.cell? ⟨h, 0, none⟩ = some c ∧ w1.cell? ⟨h, 1, none⟩ = some d) (hg : g < ws.heap.size) (hh : h < ws.heap.size) (hb : Below w1.heap.size w1 w2) :
    Below ws.heap.size ws w2 ∧ w2.cell? ⟨g, 0, none⟩ = some a ∧ w2.cell? ⟨g, 1, none⟩ = some b ∧ w2.cell? ⟨h, 0, none⟩ = some c ∧ w2.cell? ⟨h, 1, none⟩ = some d := by
  obtain ⟨h1, h2, h3, h4, h5⟩ := hS
  have lg := Nat.lt_of_lt_of_le hg h1.size
  have lh := Nat.lt_of_lt_of_le hh h1.size
  exact ⟨below_then h1 hb, (hb.cell (p := ⟨g, 0, none⟩) lg).trans h2, (hb.cell (p := ⟨g, 1, none⟩) lg).trans h3, (hb.cell (p := ⟨h, 0, none⟩) lh).trans h4, (hb.cell (p := ⟨h, 1, none⟩) lh).trans h5⟩
end Go.Proofs.YtkkgdnmloojloaaDoor
namespace Go.Proofs.YtkkgdnmloojloaaDoor
open Go.RowKit Go.Lib
set_option maxRecDepth 1000000 in
set_option maxHeartbeats 60000000 in
theorem reads_walk (own : Bool) (n : Nat) (s x pn ps pq xo : ByteArray) (e : Int) (A : Option Addr) (D : List (Int × Int)) (dc : Nat) (W : World) (hn : n < 18446744073709551616) (hs : s.size ≤ 140737488355328) (hx : x.size ≤ 140737488355328) (hp1 : pn.size ≤ 10) (hp2 : ps.size ≤ 140737488355338) (hpq : pn ++ ps = pq) (hpqs : pq.size ≤ 140737488355348) (hxo : pq ++ x = xo) (hxs : xo.size ≤ 1152921504606846976)
    (hD : Sl2 W A D) (hDl : D.length ≤ maxLen)
    (cP : ∀ w, Calls Tryd.prog 15 #[.int .u64 n] w fun e w' => e = .returned (.string pn) ∧ Below w.heap.size w w')
    (cR : ∀ w, Calls Tryd.prog 18 #[.int .u64 n] w fun e w' => e = .returned (.string pn) ∧ Below w.heap.size w w')
    (cT : ∀ w, Calls Tryd.prog 16 #[.string s] w fun e w' => e = .returned (.string ps) ∧ Below w.heap.size w w')
    (cS : ∀ w, Calls Tryd.prog 19 #[.string s] w fun e w' => e = .returned (.string ps) ∧ Below w.heap.size w w') :
    Calls Tryd.prog 3 #[.agg #[.string x, .int .i64 e], .slice A D.length dc, .int .u64 n, .string s, .bool own] W fun e w' => e = .returned (.bool true) ∧ Below W.heap.size W w' := by
  have CcP := Lib.hid cP
  have CcR := Lib.hid cR
  have CcT := Lib.hid cT
  have CcS := Lib.hid cS
  clear cP cR cT cS
  unfold maxLen at hDl
  have hq := eq31
  have HQ := Lib.hid hpq
  have HXO := Lib.hid hxo
  clear hpq hxo
  go_enter Tryd.func3, Tryd.ntmps3
  go_wp2_with fail
  refine (examples_any _).mono ?_
  rintro en1 w1 ⟨rfl, hb⟩
  have hB1 := below_then (below_alloc (Below.refl _ _) _) hb
  have L1 := hb.size
  try simp at L1
  have hKX1 : w1.heap[W.heap.size]? = some (.cells #[.string x, .int .i64 e] 24 (0, 0)) := blk_later (heap_alloc_new2 _ _ _ _ (by simp)) hb
  have lX1 : W.heap.size < w1.heap.size := lt_of_some hKX1
  obtain ⟨mX1, nX1, fX1, gX1⟩ := box2 hKX1
  have KX1 := Lib.hid hKX1
  clear hKX1
  have HB1 := Lib.hid hB1
  clear hb hB1
  go_upto_if 30 with fail
  go_cut [5] (fun s5 wx => CutI W (.pointer (some ⟨W.heap.size, 0, none⟩)) s5 wx)
  case first =>
    cases own
    · go_wp2_with fail
      go_meet
      exact ⟨_, x, e, rfl, rfl, by omega, HB1.out, KX1.out⟩
    · have hpq := HQ.out
      have hxo := HXO.out
      have hc1 : ¬ 9223372036854775807 < pn.size + ps.size := by omega
      have hc2 : ¬ 9223372036854775807 < pq.size + x.size := by omega
      have ha1 := fun w => run_string_add_sum (P := Tryd.prog) w pn ps (by omega)
      have ha2 := fun w => run_string_add_sum (P := Tryd.prog) w pq x (by omega)
      go_wp2_with fail
      go_region_with (first | (go_at_call 15; (with_reducible refine (CcP.out _).mono ?_); rintro en wp ⟨rfl, hbp⟩; have hX5 := blk_later KX1.out (show Below w1.heap.size w1 wp from ⟨hbp.os, hbp.tape, hbp.output, hbp.size, hbp.block⟩); obtain ⟨y0, y1, y2, y3⟩ := box2 hX5; have HX5 := Lib.hid hX5; clear hX5) | (go_at_call 16; (with_reducible refine (CcT.out _).mono ?_); rintro en wq ⟨rfl, hbq⟩; have hX6 := blk_later HX5.out (show Below wp.heap.size wp wq from ⟨hbq.os, hbq.tape, hbq.output, hbq.size, hbq.block⟩); obtain ⟨x0, x1, x2, x3⟩ := box2 hX6; have HX6 := Lib.hid hX6; clear hX6))
      all_goals
        have hBq := below_then (below_then HB1.out (show Below w1.heap.size w1 wp from ⟨hbp.os, hbp.tape, hbp.output, hbp.size, hbp.block⟩)) (show Below wp.heap.size wp wq from ⟨hbq.os, hbq.tape, hbq.output, hbq.size, hbq.block⟩)
        go_wp2_with fail
        go_meet
        exact ⟨_, xo, 0, rfl, rfl, hxs, set2_below hBq (Nat.le_refl _) _ _, set2_same HX6.out _ _⟩
  case rest =>
    obtain ⟨w2, x0, e0, rfl, rfl, hx0, hB2, hX2⟩ := hcut
    have lX2 := lt_of_some hX2
    obtain ⟨mX2, nX2, fX2, gX2⟩ := box2 hX2
    have KX2 := Lib.hid hX2
    have HB2 := Lib.hid hB2
    clear hX2 hB2 mX1 nX1 fX1 gX1 lX1
    go_wp2_with fail
    refine (ref_any _ _ _).mono ?_
    rintro en3 w3 ⟨rfl, hb⟩
    have hB3 := below_then HB2.out hb
    have L3 := hb.size
    try simp at L3
    have hKX3 : w3.heap[W.heap.size]? = some (.cells #[.string x0, .int .i64 e0] 24 (0, 0)) := blk_later KX2.out hb
    have lX3 : W.heap.size < w3.heap.size := lt_of_some hKX3
    obtain ⟨mX3, nX3, fX3, gX3⟩ := box2 hKX3
    have KX3 := Lib.hid hKX3
    clear hKX3
    have HB3 := Lib.hid hB3
    clear hb hB3 mX2 nX2 fX2 gX2
    go_wp2_with fail
    refine (CcP.out _).mono ?_
    rintro en4 w4 ⟨rfl, hb⟩
    have hB4 := below_then (below_alloc HB3.out _) hb
    have L4 := hb.size
    try simp at L4
    have hKX4 : w4.heap[W.heap.size]? = some (.cells #[.string x0, .int .i64 e0] 24 (0, 0)) := blk_later (blk_alloc KX3.out _) hb
    have lX4 : W.heap.size < w4.heap.size := lt_of_some hKX4
    obtain ⟨mX4, nX4, fX4, gX4⟩ := box2 hKX4
    have KX4 := Lib.hid hKX4
    clear hKX4
    have hKY4 : w4.heap[w3.heap.size]? = some (.cells #[.string x0, .int .i64 e0] 31 (0, 0)) := blk_later (heap_alloc_new2 _ _ _ _ (by simp)) hb
    have lY4 : w3.heap.size < w4.heap.size := lt_of_some hKY4
    obtain ⟨mY4, nY4, fY4, gY4⟩ := box2 hKY4
    have KY4 := Lib.hid hKY4
    clear hKY4
    have HB4 := Lib.hid hB4
    clear hb hB4 mX3 nX3 fX3 gX3 lX3
    go_wp2_with fail
    refine (CcR.out _).mono ?_
    rintro en5 w5 ⟨rfl, hb⟩
    have hB5 := below_then HB4.out hb
    have L5 := hb.size
    try simp at L5
    have hKX5 : w5.heap[W.heap.size]? = some (.cells #[.string x0, .int .i64 e0] 24 (0, 0)) := blk_later KX4.out hb
    have lX5 : W.heap.size < w5.heap.size := lt_of_some hKX5
    obtain ⟨mX5, nX5, fX5, gX5⟩ := box2 hKX5
    have KX5 := Lib.hid hKX5
    clear hKX5
    have hKY5 : w5.heap[w3.heap.size]? = some (.cells #[.string x0, .int .i64 e0] 31 (0, 0)) := blk_later KY4.out hb
    have lY5 : w3.heap.size < w5.heap.size := lt_of_some hKY5
    obtain ⟨mY5, nY5, fY5, gY5⟩ := box2 hKY5
    have KY5 := Lib.hid hKY5
    clear hKY5
    have HB5 := Lib.hid hB5
    clear hb hB5 mX4 nX4 fX4 gX4 lX4 mY4 nY4 fY4 gY4 lY4
    go_wp2_with fail
    refine (CcT.out _).mono ?_
    rintro en6 w6 ⟨rfl, hb⟩
    have hB6 := below_then HB5.out hb
    have L6 := hb.size
    try simp at L6
    have hKX6 : w6.heap[W.heap.size]? = some (.cells #[.string x0, .int .i64 e0] 24 (0, 0)) := blk_later KX5.out hb
    have lX6 : W.heap.size < w6.heap.size := lt_of_some hKX6
    obtain ⟨mX6, nX6, fX6, gX6⟩ := box2 hKX6
    have KX6 := Lib.hid hKX6
    clear hKX6
    have hKY6 : w6.heap[w3.heap.size]? = some (.cells #[.string x0, .int .i64 e0] 31 (0, 0)) := blk_later KY5.out hb
    have lY6 : w3.heap.size < w6.heap.size := lt_of_some hKY6
    obtain ⟨mY6, nY6, fY6, gY6⟩ := box2 hKY6
    have KY6 := Lib.hid hKY6
    clear hKY6
    have HB6 := Lib.hid hB6
    clear hb hB6 mX5 nX5 fX5 gX5 lX5 mY5 nY5 fY5 gY5 lY5
    go_wp2_with fail
    refine (CcS.out _).mono ?_
    rintro en7 w7 ⟨rfl, hb⟩
    have hB7 := below_then HB6.out hb
    have L7 := hb.size
    try simp at L7
    have hKX7 : w7.heap[W.heap.size]? = some (.cells #[.string x0, .int .i64 e0] 24 (0, 0)) := blk_later KX6.out hb
    have lX7 : W.heap.size < w7.heap.size := lt_of_some hKX7
    obtain ⟨mX7, nX7, fX7, gX7⟩ := box2 hKX7
    have KX7 := Lib.hid hKX7
    clear hKX7
    have hKY7 : w7.heap[w3.heap.size]? = some (.cells #[.string x0, .int .i64 e0] 31 (0, 0)) := blk_later KY6.out hb
    have lY7 : w3.heap.size < w7.heap.size := lt_of_some hKY7
    obtain ⟨mY7, nY7, fY7, gY7⟩ := box2 hKY7
    have KY7 := Lib.hid hKY7
    clear hKY7
    have HB7 := Lib.hid hB7
    clear hb hB7 mX6 nX6 fX6 gX6 lX6 mY6 nY6 fY6 gY6 lY6
    go_wp2_with fail
    have hgh : W.heap.size < w3.heap.size := by omega
    have hXl : (x0).data.toList.length ≤ 1152921504606846976 := by have := str_size (x0).data.toList; rw [str_of] at this; omega
    have hXb := KX7.out
    have hYb := KY7.out
    have hXB := HB7.out
    clear mX7 nX7 fX7 gX7 lX7 mY7 nY7 fY7 gY7 lY7
    go_loopw [14, 13] (fun i sm wr => ReadRel W (W.heap.size) (w3.heap.size) D.length i sm wr) (fun i _ _ => 10 - (RowKit.intOf i).toNat)
    case atStart => exact ⟨0, ⟨(x0).data.toList, e0⟩, rfl, rfl, Nat.zero_le _, Nat.zero_le _, hXl, hXB, hXb, hYb⟩
    case round =>
      obtain ⟨k, ⟨l, er⟩, rfl, rfl, hk1, hk2, hrl, hB, hX, hY⟩ := hrel
      dsimp only at hrl hX hY
      clear hXb hYb hXB hXl
      have HBr := Lib.hid hB
      have HX := Lib.hid hX
      have HY := Lib.hid hY
      by_cases hkn : k < D.length
      · by_cases hk6 : k < 10
        · have d1 : decide ((k : Int) < (D.length : Int)) = true := by simp; omega
          have d2 : decide (k < D.length) = true := by simp; omega
          have d3 : decide ((k : Int) < 10) = true := by simp; omega
          obtain ⟨b0, off, rfl, hb0, hcl⟩ := hD (by omega)
          obtain ⟨⟨kd, xv⟩, hdk⟩ : ∃ d, D[k]? = some d := ⟨_, List.getElem?_eq_getElem hkn⟩
          obtain ⟨c0, c1, hkd0, hkd1, hx0, hx1⟩ := hcl k kd xv hdk
          have HC1 := Lib.hid c1
          have o0_r := (HBr.out.cell (p := ⟨b0, off + k * 2, none⟩) hb0).trans c0
          have o1_r := (HBr.out.cell (p := ⟨b0, off + k * 2 + 1, none⟩) hb0).trans c1
          have ol_r : b0 < wr.heap.size := Nat.lt_of_lt_of_le hb0 HBr.out.size
          have HCL := Lib.hid hcl
          clear hcl hdk c0 c1
          obtain ⟨mo, hmo, hmob⟩ : ∃ mo : Nat, xv % 18446744073709551616 = (mo : Int) ∧ mo < 18446744073709551616 := ⟨(xv % 18446744073709551616).toNat, by omega, by omega⟩
          have hmw : IntKind.u64.wrap xv = (mo : Int) := by rw [IntKind.wrap_u64]; exact hmo
          have hk4 : kd % 4 = 0 ∨ kd % 4 = 1 ∨ kd % 4 = 2 ∨ kd % 4 = 3 := by omega
          rcases hk4 with hk4 | hk4 | hk4 | hk4
          · as_aux_lemma =>
              obtain ⟨a, l2, e2, hl2, cA, cB⟩ := next_pair l er hrl
              have hkt : Int.tmod kd 4 = 0 := by rw [Int.tmod_eq_emod_of_nonneg (by omega)]; exact hk4
              obtain ⟨z, cE, cF⟩ := end_pair l2 e2
              obtain ⟨s1, hs1⟩ : ∃ s, str l = s := ⟨_, rfl⟩
              obtain ⟨s2, hs2⟩ : ∃ s, str l2 = s := ⟨_, rfl⟩
              have hX2 := HX.out
              have hY2 := HY.out
              rw [hs1] at cA cB hX2 hY2
              rw [hs2] at cA cB cE cF
              have HS2 := Lib.hid hs2
              have CA := Lib.hid cA
              have CB := Lib.hid cB
              have CE := Lib.hid cE
              have CF := Lib.hid cF
              have HX2 := Lib.hid hX2
              have HY2 := Lib.hid hY2
              obtain ⟨m0, m1, f0, f1⟩ := box2 hX2
              obtain ⟨n0, n1, g0, g1⟩ := box2 hY2
              have lX := lt_of_some hX2
              have lY := lt_of_some hY2
              clear cA cB cE cF hX2 hY2 hs1 hs2 hX hY hB
              go_wp2_with fail
              refine (CA.out _).mono ?_
              rintro en1 v1 ⟨rfl, hb⟩
              have hB1 := below_then HBr.out hb
              have L1 := hb.size
              try simp at L1
              have hKX1 : v1.heap[W.heap.size]? = some (.cells #[.string s1, .int .i64 er] 24 (0, 0)) := blk_later HX2.out hb
              have lX1 : W.heap.size < v1.heap.size := lt_of_some hKX1
              obtain ⟨mX1, nX1, fX1, gX1⟩ := box2 hKX1
              have KX1 := Lib.hid hKX1
              clear hKX1
              have hKY1 : v1.heap[w3.heap.size]? = some (.cells #[.string s1, .int .i64 er] 31 (0, 0)) := blk_later HY2.out hb
              have lY1 : w3.heap.size < v1.heap.size := lt_of_some hKY1
              obtain ⟨mY1, nY1, fY1, gY1⟩ := box2 hKY1
              have KY1 := Lib.hid hKY1
              clear hKY1
              have o0_1 := (hB1.cell (p := ⟨b0, off + k * 2 + 1, none⟩) hb0).trans HC1.out
              have ol0_1 : b0 < v1.heap.size := Nat.lt_of_lt_of_le hb0 hB1.size
              have HB1 := Lib.hid hB1
              clear hb hB1 m0 m1 f0 f1 n0 n1 g0 g1 lX lY o0_r o1_r ol_r
              go_wp2_with fail
              refine (CB.out _).mono ?_
              rintro en2 v2 ⟨rfl, hb⟩
              have hB2 := below_then (below_alloc HB1.out _) hb
              have L2 := hb.size
              try simp at L2
              have hKX2 : v2.heap[W.heap.size]? = some (.cells #[.string s1, .int .i64 er] 24 (0, 0)) := blk_later (blk_alloc KX1.out _) hb
              have lX2 : W.heap.size < v2.heap.size := lt_of_some hKX2
              obtain ⟨mX2, nX2, fX2, gX2⟩ := box2 hKX2
              have KX2 := Lib.hid hKX2
              clear hKX2
              have hKY2 : v2.heap[w3.heap.size]? = some (.cells #[.string s1, .int .i64 er] 31 (0, 0)) := blk_later (blk_alloc KY1.out _) hb
              have lY2 : w3.heap.size < v2.heap.size := lt_of_some hKY2
              obtain ⟨mY2, nY2, fY2, gY2⟩ := box2 hKY2
              have KY2 := Lib.hid hKY2
              clear hKY2
              have hKP2 : v2.heap[v1.heap.size]? = some (.cells #[.string s2, .int .i64 e2] 24 (0, 0)) := blk_later (heap_alloc_new2 _ _ _ _ (by simp)) hb
              have lP2 : v1.heap.size < v2.heap.size := lt_of_some hKP2
              obtain ⟨mP2, nP2, fP2, gP2⟩ := box2 hKP2
              have KP2 := Lib.hid hKP2
              clear hKP2
              have o0_2 := (hB2.cell (p := ⟨b0, off + k * 2 + 1, none⟩) hb0).trans HC1.out
              have ol0_2 : b0 < v2.heap.size := Nat.lt_of_lt_of_le hb0 hB2.size
              have HB2 := Lib.hid hB2
              clear hb hB2 mX1 nX1 fX1 gX1 lX1 mY1 nY1 fY1 gY1 lY1 o0_1 ol0_1
              go_wp2_with fail
              obtain ⟨ws, hw_ws⟩ : ∃ x, ((((v2.setCell ⟨W.heap.size, 0, none⟩ (.string s2)).setCell ⟨W.heap.size, 1, none⟩ (.int .i64 e2)).setCell ⟨w3.heap.size, 0, none⟩ (.string s2)).setCell ⟨w3.heap.size, 1, none⟩ (.int .i64 e2)).alloc (.cells #[.string s2, .int .i64 e2] 31) = x := ⟨_, rfl⟩
              have hB_ws : Below W.heap.size W ws := by rw [← hw_ws]; exact (below_alloc (set2_below (set2_below HB2.out (Nat.le_refl _) (.string s2) (.int .i64 e2)) (by omega) (.string s2) (.int .i64 e2)) _)
              have hKX_ws : ws.heap[W.heap.size]? = some (.cells #[.string s2, .int .i64 e2] 24 (0, 0)) := by rw [← hw_ws]; exact (blk_alloc ((set2_other (by omega) (.string s2) (.int .i64 e2)).trans (set2_same KX2.out (.string s2) (.int .i64 e2))) _)
              have lX_ws : W.heap.size < ws.heap.size := lt_of_some hKX_ws
              obtain ⟨mX_ws, nX_ws, fX_ws, gX_ws⟩ := box2 hKX_ws
              have KX_ws := Lib.hid hKX_ws
              clear hKX_ws
              have hKY_ws : ws.heap[w3.heap.size]? = some (.cells #[.string s2, .int .i64 e2] 31 (0, 0)) := by rw [← hw_ws]; exact (blk_alloc (set2_same ((set2_other (by omega) (.string s2) (.int .i64 e2)).trans KY2.out) (.string s2) (.int .i64 e2)) _)
              have lY_ws : w3.heap.size < ws.heap.size := lt_of_some hKY_ws
              obtain ⟨mY_ws, nY_ws, fY_ws, gY_ws⟩ := box2 hKY_ws
              have KY_ws := Lib.hid hKY_ws
              clear hKY_ws
              have o0_ws := (hB_ws.cell (p := ⟨b0, off + k * 2 + 1, none⟩) hb0).trans HC1.out
              have ol0_ws : b0 < ws.heap.size := Nat.lt_of_lt_of_le hb0 hB_ws.size
              rw [hw_ws]
              have HB_ws := Lib.hid hB_ws
              clear hw_ws hB_ws mX2 nX2 fX2 gX2 lX2 mY2 nY2 fY2 gY2 lY2 mP2 nP2 fP2 gP2 lP2 o0_2 ol0_2
              go_region_held3 (fun w' => Below ws.heap.size ws w' ∧ w'.cell? ⟨W.heap.size, 0, none⟩ = some (.string s2) ∧ w'.cell? ⟨W.heap.size, 1, none⟩ = some (.int .i64 e2) ∧ w'.cell? ⟨w3.heap.size, 0, none⟩ = some (.string s2) ∧ w'.cell? ⟨w3.heap.size, 1, none⟩ = some (.int .i64 e2)) (first | exact keepL ‹_› lX_ws lY_ws hb9 | exact ⟨(Below.refl _ _).drew, mX_ws, nX_ws, mY_ws, nY_ws⟩ | exact ⟨Below.refl _ _, mX_ws, nX_ws, mY_ws, nY_ws⟩ | (go_keep)) (first | (go_at_call 17; (with_reducible refine (ref_any _ _ _).mono ?_); rintro e w9 ⟨rfl, hb9⟩) | (go_at_call 28; (with_reducible refine (CE.out _).mono ?_); rintro e w9 ⟨rfl, hb9⟩) | (go_at_call 29; (with_reducible refine (CF.out _).mono ?_); rintro e w9 ⟨rfl, hb9⟩))
              all_goals
                have hb8 := (‹Below ws.heap.size ws w9 ∧ _› : _).1
                have hX9 := blk_later KX_ws.out hb8
                have hY9 := blk_later KY_ws.out hb8
                rw [← HS2.out] at hX9 hY9
                have HB9 := Lib.hid (below_then HB_ws.out hb8)
                have HX9 := Lib.hid hX9
                have HY9 := Lib.hid hY9
                clear hb8 hX9 hY9 mX_ws nX_ws fX_ws gX_ws lX_ws mY_ws nY_ws fY_ws gY_ws lY_ws o0_ws ol0_ws
                go_wp2
                go_roundw
                case rel => exact ⟨k + 1, ⟨l2, e2⟩, by go_num, rfl, by omega, by omega, hl2, HB9.out, HX9.out, HY9.out⟩
                case measure => simp [RowKit.intOf]; omega
          · as_aux_lemma =>
              obtain ⟨t, l2, e2, hl2, cA, cB⟩ := text_pair l er mo hmob hrl
              have hkt : Int.tmod kd 4 = 1 := by rw [Int.tmod_eq_emod_of_nonneg (by omega)]; exact hk4
              obtain ⟨z, cE, cF⟩ := end_pair l2 e2
              obtain ⟨s1, hs1⟩ : ∃ s, str l = s := ⟨_, rfl⟩
              obtain ⟨s2, hs2⟩ : ∃ s, str l2 = s := ⟨_, rfl⟩
              have hX2 := HX.out
              have hY2 := HY.out
              rw [hs1] at cA cB hX2 hY2
              rw [hs2] at cA cB cE cF
              have HS2 := Lib.hid hs2
              obtain ⟨st, hst⟩ : ∃ s, str t = s := ⟨_, rfl⟩
              rw [hst] at cA cB
              clear hst
              have CA := Lib.hid cA
              have CB := Lib.hid cB
              have CE := Lib.hid cE
              have CF := Lib.hid cF
              have HX2 := Lib.hid hX2
              have HY2 := Lib.hid hY2
              obtain ⟨m0, m1, f0, f1⟩ := box2 hX2
              obtain ⟨n0, n1, g0, g1⟩ := box2 hY2
              have lX := lt_of_some hX2
              have lY := lt_of_some hY2
              clear cA cB cE cF hX2 hY2 hs1 hs2 hX hY hB
              go_upto_region 19 with fail
              go_cut [19, 20] (fun sr sp wx => CutA wr (.cells #[.string s2, .int .i64 e2] 24 (0, 0)) (.string st) sp sr wx)
              case first =>
                go_region_with (first | (go_at_call 22; (with_reducible refine (CA.out _).mono ?_); rintro en1 v1 ⟨rfl, hb⟩; have hb := (⟨hb.os, hb.tape, hb.output, hb.size, hb.block⟩ : Below (wr.alloc (.cells #[.string ⟨#[]⟩, .int .i64 0] 24)).heap.size (wr.alloc (.cells #[.string ⟨#[]⟩, .int .i64 0] 24)) v1); have hz := blk_later (heap_alloc_new2 wr (.cells #[.string ⟨#[]⟩, .int .i64 0] 24) wr.heap.size (.cells #[.string ⟨#[]⟩, .int .i64 0] 24 (0, 0)) rfl) hb; obtain ⟨z0, z1, z2, z3⟩ := box2 hz; have HZ1 := Lib.hid hz; have HA1 := Lib.hid ((below_alloc (Below.refl _ _) (.cells #[.string ⟨#[]⟩, .int .i64 0] 24)).trans (hb.mono (by simp)) : Below wr.heap.size wr v1); clear hb hz) | (go_at_call 22; (with_reducible refine (CA.out _).mono ?_); rintro en1 v1 ⟨rfl, hb⟩; have hb := (⟨hb.os, hb.tape, hb.output, hb.size, hb.block⟩ : Below (wr).heap.size (wr) v1); have HA1 := Lib.hid hb; clear hb))
                all_goals (go_wp2_with fail; go_meet; first | exact ⟨_, _, rfl, rfl, rfl, below_alloc HA1.out _, HA1.out.size, heap_alloc_new2 _ _ _ _ rfl⟩ | exact ⟨_, _, rfl, rfl, rfl, set2_below HA1.out (Nat.le_refl _) _ _, Nat.le_refl _, set2_same HZ1.out _ _⟩)
              case rest =>
                obtain ⟨yv1, pv1, rfl, rfl, rfl, hbw, hpl, hPb⟩ := hcut
                have hB1 := below_then HBr.out hbw
                have hKX1 : yv1.heap[W.heap.size]? = some (.cells #[.string s1, .int .i64 er] 24 (0, 0)) := blk_later HX2.out hbw
                have lX1 : W.heap.size < yv1.heap.size := lt_of_some hKX1
                have eX1 : W.heap.size < pv1 := by have := lt_of_some HX2.out; omega
                obtain ⟨mX1, nX1, fX1, gX1⟩ := box2 hKX1
                have KX1 := Lib.hid hKX1
                clear hKX1
                have hKY1 : yv1.heap[w3.heap.size]? = some (.cells #[.string s1, .int .i64 er] 31 (0, 0)) := blk_later HY2.out hbw
                have lY1 : w3.heap.size < yv1.heap.size := lt_of_some hKY1
                have eY1 : w3.heap.size < pv1 := by have := lt_of_some HY2.out; omega
                obtain ⟨mY1, nY1, fY1, gY1⟩ := box2 hKY1
                have KY1 := Lib.hid hKY1
                clear hKY1
                have lP1 : pv1 < yv1.heap.size := lt_of_some hPb
                obtain ⟨mP1, nP1, fP1, gP1⟩ := box2 hPb
                have KP1 := Lib.hid hPb
                clear hPb
                have o0_1 := (hB1.cell (p := ⟨b0, off + k * 2 + 1, none⟩) hb0).trans HC1.out
                have ol0_1 : b0 < yv1.heap.size := Nat.lt_of_lt_of_le hb0 hB1.size
                have HB1 := Lib.hid hB1
                clear hbw hpl hB1 m0 m1 f0 f1 n0 n1 g0 g1 lX lY o0_r o1_r ol_r
                go_upto_region 20 with fail
                go_cut [21, 22] (fun sr sp wx => CutA yv1 (.cells #[.string s2, .int .i64 e2] 31 (0, 0)) (.string st) sp sr wx)
                case first =>
                  go_region_with (first | (go_at_call 23; (with_reducible refine (CB.out _).mono ?_); rintro en2 v2 ⟨rfl, hb⟩; have hb := (⟨hb.os, hb.tape, hb.output, hb.size, hb.block⟩ : Below (yv1.alloc (.cells #[.string ⟨#[]⟩, .int .i64 0] 31)).heap.size (yv1.alloc (.cells #[.string ⟨#[]⟩, .int .i64 0] 31)) v2); have hz := blk_later (heap_alloc_new2 yv1 (.cells #[.string ⟨#[]⟩, .int .i64 0] 31) yv1.heap.size (.cells #[.string ⟨#[]⟩, .int .i64 0] 31 (0, 0)) rfl) hb; obtain ⟨z0, z1, z2, z3⟩ := box2 hz; have HZ2 := Lib.hid hz; have HA2 := Lib.hid ((below_alloc (Below.refl _ _) (.cells #[.string ⟨#[]⟩, .int .i64 0] 31)).trans (hb.mono (by simp)) : Below yv1.heap.size yv1 v2); clear hb hz) | (go_at_call 23; (with_reducible refine (CB.out _).mono ?_); rintro en2 v2 ⟨rfl, hb⟩; have hb := (⟨hb.os, hb.tape, hb.output, hb.size, hb.block⟩ : Below (yv1).heap.size (yv1) v2); have HA2 := Lib.hid hb; clear hb))
                  all_goals (go_wp2_with fail; go_meet; first | exact ⟨_, _, rfl, rfl, rfl, below_alloc HA2.out _, HA2.out.size, heap_alloc_new2 _ _ _ _ rfl⟩ | exact ⟨_, _, rfl, rfl, rfl, set2_below HA2.out (Nat.le_refl _) _ _, Nat.le_refl _, set2_same HZ2.out _ _⟩)
                case rest =>
                  obtain ⟨yv2, pv2, rfl, rfl, rfl, hbw, hpl, hPb⟩ := hcut
                  have hB2 := below_then HB1.out hbw
                  have hKX2 : yv2.heap[W.heap.size]? = some (.cells #[.string s1, .int .i64 er] 24 (0, 0)) := blk_later KX1.out hbw
                  have lX2 : W.heap.size < yv2.heap.size := lt_of_some hKX2
                  have eX2 : W.heap.size < pv2 := by have := lt_of_some KX1.out; omega
                  obtain ⟨mX2, nX2, fX2, gX2⟩ := box2 hKX2
                  have KX2 := Lib.hid hKX2
                  clear hKX2
                  have hKY2 : yv2.heap[w3.heap.size]? = some (.cells #[.string s1, .int .i64 er] 31 (0, 0)) := blk_later KY1.out hbw
                  have lY2 : w3.heap.size < yv2.heap.size := lt_of_some hKY2
                  have eY2 : w3.heap.size < pv2 := by have := lt_of_some KY1.out; omega
                  obtain ⟨mY2, nY2, fY2, gY2⟩ := box2 hKY2
                  have KY2 := Lib.hid hKY2
                  clear hKY2
                  have hKP2 : yv2.heap[pv1]? = some (.cells #[.string s2, .int .i64 e2] 24 (0, 0)) := blk_later KP1.out hbw
                  have lP2 : pv1 < yv2.heap.size := lt_of_some hKP2
                  have eP2 : pv1 < pv2 := by have := lt_of_some KP1.out; omega
                  obtain ⟨mP2, nP2, fP2, gP2⟩ := box2 hKP2
                  have KP2 := Lib.hid hKP2
                  clear hKP2
                  have lQ2 : pv2 < yv2.heap.size := lt_of_some hPb
                  obtain ⟨mQ2, nQ2, fQ2, gQ2⟩ := box2 hPb
                  have KQ2 := Lib.hid hPb
                  clear hPb
                  have o0_2 := (hB2.cell (p := ⟨b0, off + k * 2 + 1, none⟩) hb0).trans HC1.out
                  have ol0_2 : b0 < yv2.heap.size := Nat.lt_of_lt_of_le hb0 hB2.size
                  have HB2 := Lib.hid hB2
                  clear hbw hpl hB2 mX1 nX1 fX1 gX1 lX1 mY1 nY1 fY1 gY1 lY1 mP1 nP1 fP1 gP1 lP1 o0_1 ol0_1
                  go_wp2_with fail
                  obtain ⟨ws, hw_ws⟩ : ∃ x, (((yv2.setCell ⟨W.heap.size, 0, none⟩ (.string s2)).setCell ⟨W.heap.size, 1, none⟩ (.int .i64 e2)).setCell ⟨w3.heap.size, 0, none⟩ (.string s2)).setCell ⟨w3.heap.size, 1, none⟩ (.int .i64 e2) = x := ⟨_, rfl⟩
                  have hB_ws : Below W.heap.size W ws := by rw [← hw_ws]; exact (set2_below (set2_below HB2.out (Nat.le_refl _) (.string s2) (.int .i64 e2)) (by omega) (.string s2) (.int .i64 e2))
                  have hKX_ws : ws.heap[W.heap.size]? = some (.cells #[.string s2, .int .i64 e2] 24 (0, 0)) := by rw [← hw_ws]; exact ((set2_other (by omega) (.string s2) (.int .i64 e2)).trans (set2_same KX2.out (.string s2) (.int .i64 e2)))
                  have lX_ws : W.heap.size < ws.heap.size := lt_of_some hKX_ws
                  obtain ⟨mX_ws, nX_ws, fX_ws, gX_ws⟩ := box2 hKX_ws
                  have KX_ws := Lib.hid hKX_ws
                  clear hKX_ws
                  have hKY_ws : ws.heap[w3.heap.size]? = some (.cells #[.string s2, .int .i64 e2] 31 (0, 0)) := by rw [← hw_ws]; exact (set2_same ((set2_other (by omega) (.string s2) (.int .i64 e2)).trans KY2.out) (.string s2) (.int .i64 e2))
                  have lY_ws : w3.heap.size < ws.heap.size := lt_of_some hKY_ws
                  obtain ⟨mY_ws, nY_ws, fY_ws, gY_ws⟩ := box2 hKY_ws
                  have KY_ws := Lib.hid hKY_ws
                  clear hKY_ws
                  have o0_ws := (hB_ws.cell (p := ⟨b0, off + k * 2 + 1, none⟩) hb0).trans HC1.out
                  have ol0_ws : b0 < ws.heap.size := Nat.lt_of_lt_of_le hb0 hB_ws.size
                  rw [hw_ws]
                  have HB_ws := Lib.hid hB_ws
                  clear hw_ws hB_ws mX2 nX2 fX2 gX2 lX2 mY2 nY2 fY2 gY2 lY2 mP2 nP2 fP2 gP2 lP2 mQ2 nQ2 fQ2 gQ2 lQ2 o0_2 ol0_2
                  go_region_held3 (fun w' => Below ws.heap.size ws w' ∧ w'.cell? ⟨W.heap.size, 0, none⟩ = some (.string s2) ∧ w'.cell? ⟨W.heap.size, 1, none⟩ = some (.int .i64 e2) ∧ w'.cell? ⟨w3.heap.size, 0, none⟩ = some (.string s2) ∧ w'.cell? ⟨w3.heap.size, 1, none⟩ = some (.int .i64 e2)) (first | exact keepL ‹_› lX_ws lY_ws hb9 | exact ⟨(Below.refl _ _).drew, mX_ws, nX_ws, mY_ws, nY_ws⟩ | exact ⟨Below.refl _ _, mX_ws, nX_ws, mY_ws, nY_ws⟩ | (go_keep)) (first | (go_at_call 17; (with_reducible refine (ref_any _ _ _).mono ?_); rintro e w9 ⟨rfl, hb9⟩) | (go_at_call 28; (with_reducible refine (CE.out _).mono ?_); rintro e w9 ⟨rfl, hb9⟩) | (go_at_call 29; (with_reducible refine (CF.out _).mono ?_); rintro e w9 ⟨rfl, hb9⟩))
                  all_goals
                    have hb8 := (‹Below ws.heap.size ws w9 ∧ _› : _).1
                    have hX9 := blk_later KX_ws.out hb8
                    have hY9 := blk_later KY_ws.out hb8
                    rw [← HS2.out] at hX9 hY9
                    have HB9 := Lib.hid (below_then HB_ws.out hb8)
                    have HX9 := Lib.hid hX9
                    have HY9 := Lib.hid hY9
                    clear hb8 hX9 hY9 mX_ws nX_ws fX_ws gX_ws lX_ws mY_ws nY_ws fY_ws gY_ws lY_ws o0_ws ol0_ws
                    go_wp2
                    go_roundw
                    case rel => exact ⟨k + 1, ⟨l2, e2⟩, by go_num, rfl, by omega, by omega, hl2, HB9.out, HX9.out, HY9.out⟩
                    case measure => simp [RowKit.intOf]; omega
          · as_aux_lemma =>
              obtain ⟨t, l2, e2, hl2, cA, cB⟩ := bytes_pair l er xv hrl
              have hkt : Int.tmod kd 4 = 2 := by rw [Int.tmod_eq_emod_of_nonneg (by omega)]; exact hk4
              obtain ⟨z, cE, cF⟩ := end_pair l2 e2
              obtain ⟨s1, hs1⟩ : ∃ s, str l = s := ⟨_, rfl⟩
              obtain ⟨s2, hs2⟩ : ∃ s, str l2 = s := ⟨_, rfl⟩
              have hX2 := HX.out
              have hY2 := HY.out
              rw [hs1] at cA cB hX2 hY2
              rw [hs2] at cA cB cE cF
              have HS2 := Lib.hid hs2
              obtain ⟨st, hst⟩ : ∃ s, str t = s := ⟨_, rfl⟩
              rw [hst] at cA cB
              clear hst
              have CA := Lib.hid cA
              have CB := Lib.hid cB
              have CE := Lib.hid cE
              have CF := Lib.hid cF
              have HX2 := Lib.hid hX2
              have HY2 := Lib.hid hY2
              obtain ⟨m0, m1, f0, f1⟩ := box2 hX2
              obtain ⟨n0, n1, g0, g1⟩ := box2 hY2
              have lX := lt_of_some hX2
              have lY := lt_of_some hY2
              clear cA cB cE cF hX2 hY2 hs1 hs2 hX hY hB
              go_upto_region 25 with fail
              go_cut [23, 24] (fun sr sp wx => CutA wr (.cells #[.string s2, .int .i64 e2] 24 (0, 0)) (.string st) sp sr wx)
              case first =>
                go_region_with (first | (go_at_call 24; (with_reducible refine (CA.out _).mono ?_); rintro en1 v1 ⟨rfl, hb⟩; have hb := (⟨hb.os, hb.tape, hb.output, hb.size, hb.block⟩ : Below (wr.alloc (.cells #[.string ⟨#[]⟩, .int .i64 0] 24)).heap.size (wr.alloc (.cells #[.string ⟨#[]⟩, .int .i64 0] 24)) v1); have hz := blk_later (heap_alloc_new2 wr (.cells #[.string ⟨#[]⟩, .int .i64 0] 24) wr.heap.size (.cells #[.string ⟨#[]⟩, .int .i64 0] 24 (0, 0)) rfl) hb; obtain ⟨z0, z1, z2, z3⟩ := box2 hz; have HZ1 := Lib.hid hz; have HA1 := Lib.hid ((below_alloc (Below.refl _ _) (.cells #[.string ⟨#[]⟩, .int .i64 0] 24)).trans (hb.mono (by simp)) : Below wr.heap.size wr v1); clear hb hz) | (go_at_call 24; (with_reducible refine (CA.out _).mono ?_); rintro en1 v1 ⟨rfl, hb⟩; have hb := (⟨hb.os, hb.tape, hb.output, hb.size, hb.block⟩ : Below (wr).heap.size (wr) v1); have HA1 := Lib.hid hb; clear hb))
                all_goals (go_wp2_with fail; go_meet; first | exact ⟨_, _, rfl, rfl, rfl, below_alloc HA1.out _, HA1.out.size, heap_alloc_new2 _ _ _ _ rfl⟩ | exact ⟨_, _, rfl, rfl, rfl, set2_below HA1.out (Nat.le_refl _) _ _, Nat.le_refl _, set2_same HZ1.out _ _⟩)
              case rest =>
                obtain ⟨yv1, pv1, rfl, rfl, rfl, hbw, hpl, hPb⟩ := hcut
                have hB1 := below_then HBr.out hbw
                have hKX1 : yv1.heap[W.heap.size]? = some (.cells #[.string s1, .int .i64 er] 24 (0, 0)) := blk_later HX2.out hbw
                have lX1 : W.heap.size < yv1.heap.size := lt_of_some hKX1
                have eX1 : W.heap.size < pv1 := by have := lt_of_some HX2.out; omega
                obtain ⟨mX1, nX1, fX1, gX1⟩ := box2 hKX1
                have KX1 := Lib.hid hKX1
                clear hKX1
                have hKY1 : yv1.heap[w3.heap.size]? = some (.cells #[.string s1, .int .i64 er] 31 (0, 0)) := blk_later HY2.out hbw
                have lY1 : w3.heap.size < yv1.heap.size := lt_of_some hKY1
                have eY1 : w3.heap.size < pv1 := by have := lt_of_some HY2.out; omega
                obtain ⟨mY1, nY1, fY1, gY1⟩ := box2 hKY1
                have KY1 := Lib.hid hKY1
                clear hKY1
                have lP1 : pv1 < yv1.heap.size := lt_of_some hPb
                obtain ⟨mP1, nP1, fP1, gP1⟩ := box2 hPb
                have KP1 := Lib.hid hPb
                clear hPb
                have o0_1 := (hB1.cell (p := ⟨b0, off + k * 2 + 1, none⟩) hb0).trans HC1.out
                have ol0_1 : b0 < yv1.heap.size := Nat.lt_of_lt_of_le hb0 hB1.size
                have HB1 := Lib.hid hB1
                clear hbw hpl hB1 m0 m1 f0 f1 n0 n1 g0 g1 lX lY o0_r o1_r ol_r
                go_upto_region 26 with fail
                go_cut [25, 26] (fun sr sp wx => CutA yv1 (.cells #[.string s2, .int .i64 e2] 31 (0, 0)) (.string st) sp sr wx)
                case first =>
                  go_region_with (first | (go_at_call 25; (with_reducible refine (CB.out _).mono ?_); rintro en2 v2 ⟨rfl, hb⟩; have hb := (⟨hb.os, hb.tape, hb.output, hb.size, hb.block⟩ : Below (yv1.alloc (.cells #[.string ⟨#[]⟩, .int .i64 0] 31)).heap.size (yv1.alloc (.cells #[.string ⟨#[]⟩, .int .i64 0] 31)) v2); have hz := blk_later (heap_alloc_new2 yv1 (.cells #[.string ⟨#[]⟩, .int .i64 0] 31) yv1.heap.size (.cells #[.string ⟨#[]⟩, .int .i64 0] 31 (0, 0)) rfl) hb; obtain ⟨z0, z1, z2, z3⟩ := box2 hz; have HZ2 := Lib.hid hz; have HA2 := Lib.hid ((below_alloc (Below.refl _ _) (.cells #[.string ⟨#[]⟩, .int .i64 0] 31)).trans (hb.mono (by simp)) : Below yv1.heap.size yv1 v2); clear hb hz) | (go_at_call 25; (with_reducible refine (CB.out _).mono ?_); rintro en2 v2 ⟨rfl, hb⟩; have hb := (⟨hb.os, hb.tape, hb.output, hb.size, hb.block⟩ : Below (yv1).heap.size (yv1) v2); have HA2 := Lib.hid hb; clear hb))
                  all_goals (go_wp2_with fail; go_meet; first | exact ⟨_, _, rfl, rfl, rfl, below_alloc HA2.out _, HA2.out.size, heap_alloc_new2 _ _ _ _ rfl⟩ | exact ⟨_, _, rfl, rfl, rfl, set2_below HA2.out (Nat.le_refl _) _ _, Nat.le_refl _, set2_same HZ2.out _ _⟩)
                case rest =>
                  obtain ⟨yv2, pv2, rfl, rfl, rfl, hbw, hpl, hPb⟩ := hcut
                  have hB2 := below_then HB1.out hbw
                  have hKX2 : yv2.heap[W.heap.size]? = some (.cells #[.string s1, .int .i64 er] 24 (0, 0)) := blk_later KX1.out hbw
                  have lX2 : W.heap.size < yv2.heap.size := lt_of_some hKX2
                  have eX2 : W.heap.size < pv2 := by have := lt_of_some KX1.out; omega
                  obtain ⟨mX2, nX2, fX2, gX2⟩ := box2 hKX2
                  have KX2 := Lib.hid hKX2
                  clear hKX2
                  have hKY2 : yv2.heap[w3.heap.size]? = some (.cells #[.string s1, .int .i64 er] 31 (0, 0)) := blk_later KY1.out hbw
                  have lY2 : w3.heap.size < yv2.heap.size := lt_of_some hKY2
                  have eY2 : w3.heap.size < pv2 := by have := lt_of_some KY1.out; omega
                  obtain ⟨mY2, nY2, fY2, gY2⟩ := box2 hKY2
                  have KY2 := Lib.hid hKY2
                  clear hKY2
                  have hKP2 : yv2.heap[pv1]? = some (.cells #[.string s2, .int .i64 e2] 24 (0, 0)) := blk_later KP1.out hbw
                  have lP2 : pv1 < yv2.heap.size := lt_of_some hKP2
                  have eP2 : pv1 < pv2 := by have := lt_of_some KP1.out; omega
                  obtain ⟨mP2, nP2, fP2, gP2⟩ := box2 hKP2
                  have KP2 := Lib.hid hKP2
                  clear hKP2
                  have lQ2 : pv2 < yv2.heap.size := lt_of_some hPb
                  obtain ⟨mQ2, nQ2, fQ2, gQ2⟩ := box2 hPb
                  have KQ2 := Lib.hid hPb
                  clear hPb
                  have o0_2 := (hB2.cell (p := ⟨b0, off + k * 2 + 1, none⟩) hb0).trans HC1.out
                  have ol0_2 : b0 < yv2.heap.size := Nat.lt_of_lt_of_le hb0 hB2.size
                  have HB2 := Lib.hid hB2
                  clear hbw hpl hB2 mX1 nX1 fX1 gX1 lX1 mY1 nY1 fY1 gY1 lY1 mP1 nP1 fP1 gP1 lP1 o0_1 ol0_1
                  go_wp2_with fail
                  obtain ⟨ws, hw_ws⟩ : ∃ x, (((yv2.setCell ⟨W.heap.size, 0, none⟩ (.string s2)).setCell ⟨W.heap.size, 1, none⟩ (.int .i64 e2)).setCell ⟨w3.heap.size, 0, none⟩ (.string s2)).setCell ⟨w3.heap.size, 1, none⟩ (.int .i64 e2) = x := ⟨_, rfl⟩
                  have hB_ws : Below W.heap.size W ws := by rw [← hw_ws]; exact (set2_below (set2_below HB2.out (Nat.le_refl _) (.string s2) (.int .i64 e2)) (by omega) (.string s2) (.int .i64 e2))
                  have hKX_ws : ws.heap[W.heap.size]? = some (.cells #[.string s2, .int .i64 e2] 24 (0, 0)) := by rw [← hw_ws]; exact ((set2_other (by omega) (.string s2) (.int .i64 e2)).trans (set2_same KX2.out (.string s2) (.int .i64 e2)))
                  have lX_ws : W.heap.size < ws.heap.size := lt_of_some hKX_ws
                  obtain ⟨mX_ws, nX_ws, fX_ws, gX_ws⟩ := box2 hKX_ws
                  have KX_ws := Lib.hid hKX_ws
                  clear hKX_ws
                  have hKY_ws : ws.heap[w3.heap.size]? = some (.cells #[.string s2, .int .i64 e2] 31 (0, 0)) := by rw [← hw_ws]; exact (set2_same ((set2_other (by omega) (.string s2) (.int .i64 e2)).trans KY2.out) (.string s2) (.int .i64 e2))
                  have lY_ws : w3.heap.size < ws.heap.size := lt_of_some hKY_ws
                  obtain ⟨mY_ws, nY_ws, fY_ws, gY_ws⟩ := box2 hKY_ws
                  have KY_ws := Lib.hid hKY_ws
                  clear hKY_ws
                  have o0_ws := (hB_ws.cell (p := ⟨b0, off + k * 2 + 1, none⟩) hb0).trans HC1.out
                  have ol0_ws : b0 < ws.heap.size := Nat.lt_of_lt_of_le hb0 hB_ws.size
                  rw [hw_ws]
                  have HB_ws := Lib.hid hB_ws
                  clear hw_ws hB_ws mX2 nX2 fX2 gX2 lX2 mY2 nY2 fY2 gY2 lY2 mP2 nP2 fP2 gP2 lP2 mQ2 nQ2 fQ2 gQ2 lQ2 o0_2 ol0_2
                  go_region_held3 (fun w' => Below ws.heap.size ws w' ∧ w'.cell? ⟨W.heap.size, 0, none⟩ = some (.string s2) ∧ w'.cell? ⟨W.heap.size, 1, none⟩ = some (.int .i64 e2) ∧ w'.cell? ⟨w3.heap.size, 0, none⟩ = some (.string s2) ∧ w'.cell? ⟨w3.heap.size, 1, none⟩ = some (.int .i64 e2)) (first | exact keepL ‹_› lX_ws lY_ws hb9 | exact ⟨(Below.refl _ _).drew, mX_ws, nX_ws, mY_ws, nY_ws⟩ | exact ⟨Below.refl _ _, mX_ws, nX_ws, mY_ws, nY_ws⟩ | (go_keep)) (first | (go_at_call 17; (with_reducible refine (ref_any _ _ _).mono ?_); rintro e w9 ⟨rfl, hb9⟩) | (go_at_call 28; (with_reducible refine (CE.out _).mono ?_); rintro e w9 ⟨rfl, hb9⟩) | (go_at_call 29; (with_reducible refine (CF.out _).mono ?_); rintro e w9 ⟨rfl, hb9⟩))
                  all_goals
                    have hb8 := (‹Below ws.heap.size ws w9 ∧ _› : _).1
                    have hX9 := blk_later KX_ws.out hb8
                    have hY9 := blk_later KY_ws.out hb8
                    rw [← HS2.out] at hX9 hY9
                    have HB9 := Lib.hid (below_then HB_ws.out hb8)
                    have HX9 := Lib.hid hX9
                    have HY9 := Lib.hid hY9
                    clear hb8 hX9 hY9 mX_ws nX_ws fX_ws gX_ws lX_ws mY_ws nY_ws fY_ws gY_ws lY_ws o0_ws ol0_ws
                    go_wp2
                    go_roundw
                    case rel => exact ⟨k + 1, ⟨l2, e2⟩, by go_num, rfl, by omega, by omega, hl2, HB9.out, HX9.out, HY9.out⟩
                    case measure => simp [RowKit.intOf]; omega
          · as_aux_lemma =>
              obtain ⟨l2, e2, hl2, cA, cB⟩ := pad_pair l er xv hrl
              have hkt : Int.tmod kd 4 = 3 := by rw [Int.tmod_eq_emod_of_nonneg (by omega)]; exact hk4
              obtain ⟨z, cE, cF⟩ := end_pair l2 e2
              obtain ⟨s1, hs1⟩ : ∃ s, str l = s := ⟨_, rfl⟩
              obtain ⟨s2, hs2⟩ : ∃ s, str l2 = s := ⟨_, rfl⟩
              have hX2 := HX.out
              have hY2 := HY.out
              rw [hs1] at cA cB hX2 hY2
              rw [hs2] at cA cB cE cF
              have HS2 := Lib.hid hs2
              have CA := Lib.hid cA
              have CB := Lib.hid cB
              have CE := Lib.hid cE
              have CF := Lib.hid cF
              have HX2 := Lib.hid hX2
              have HY2 := Lib.hid hY2
              obtain ⟨m0, m1, f0, f1⟩ := box2 hX2
              obtain ⟨n0, n1, g0, g1⟩ := box2 hY2
              have lX := lt_of_some hX2
              have lY := lt_of_some hY2
              clear cA cB cE cF hX2 hY2 hs1 hs2 hX hY hB
              go_wp2_with fail
              go_region_with (first | (go_at_call 26; (with_reducible refine (CA.out _).mono ?_); rintro en1 v1 ⟨rfl, hb⟩; have hb := (⟨hb.os, hb.tape, hb.output, hb.size, hb.block⟩ : Below (wr).heap.size (wr) v1); have qX1 : v1.heap[W.heap.size]? = some (.cells #[.string s1, .int .i64 er] 24 (0, 0)) := blk_later HX2.out hb; obtain ⟨mX1r, nX1r, fX1r, gX1r⟩ := box2 qX1; have qX1 := Lib.hid qX1))
              all_goals
                clear mX1r nX1r fX1r gX1r qX1
                have hB1 := below_then HBr.out hb
                have L1 := hb.size
                try simp at L1
                have hKX1 : v1.heap[W.heap.size]? = some (.cells #[.string s1, .int .i64 er] 24 (0, 0)) := blk_later HX2.out hb
                have lX1 : W.heap.size < v1.heap.size := lt_of_some hKX1
                obtain ⟨mX1, nX1, fX1, gX1⟩ := box2 hKX1
                have KX1 := Lib.hid hKX1
                clear hKX1
                have hKY1 : v1.heap[w3.heap.size]? = some (.cells #[.string s1, .int .i64 er] 31 (0, 0)) := blk_later HY2.out hb
                have lY1 : w3.heap.size < v1.heap.size := lt_of_some hKY1
                obtain ⟨mY1, nY1, fY1, gY1⟩ := box2 hKY1
                have KY1 := Lib.hid hKY1
                clear hKY1
                have o0_1 := (hB1.cell (p := ⟨b0, off + k * 2 + 1, none⟩) hb0).trans HC1.out
                have ol0_1 : b0 < v1.heap.size := Nat.lt_of_lt_of_le hb0 hB1.size
                have HB1 := Lib.hid hB1
                clear hb hB1 m0 m1 f0 f1 n0 n1 g0 g1 lX lY o0_r o1_r ol_r
                go_wp2_with fail
                go_region_with (first | (go_at_call 27; (with_reducible refine (CB.out _).mono ?_); rintro en2 v2 ⟨rfl, hb⟩; have hb := (⟨hb.os, hb.tape, hb.output, hb.size, hb.block⟩ : Below ((v1.setCell ⟨W.heap.size, 0, none⟩ (.string s2)).setCell ⟨W.heap.size, 1, none⟩ (.int .i64 e2)).heap.size ((v1.setCell ⟨W.heap.size, 0, none⟩ (.string s2)).setCell ⟨W.heap.size, 1, none⟩ (.int .i64 e2)) v2); have qY2 : v2.heap[w3.heap.size]? = some (.cells #[.string s1, .int .i64 er] 31 (0, 0)) := blk_later ((set2_other (by omega) (.string s2) (.int .i64 e2)).trans KY1.out) hb; obtain ⟨mY2r, nY2r, fY2r, gY2r⟩ := box2 qY2; have qY2 := Lib.hid qY2))
                all_goals
                  clear mY2r nY2r fY2r gY2r qY2
                  have hB2 := below_then (set2_below HB1.out (Nat.le_refl _) (.string s2) (.int .i64 e2)) hb
                  have L2 := hb.size
                  try simp at L2
                  have hKX2 : v2.heap[W.heap.size]? = some (.cells #[.string s2, .int .i64 e2] 24 (0, 0)) := blk_later (set2_same KX1.out (.string s2) (.int .i64 e2)) hb
                  have lX2 : W.heap.size < v2.heap.size := lt_of_some hKX2
                  obtain ⟨mX2, nX2, fX2, gX2⟩ := box2 hKX2
                  have KX2 := Lib.hid hKX2
                  clear hKX2
                  have hKY2 : v2.heap[w3.heap.size]? = some (.cells #[.string s1, .int .i64 er] 31 (0, 0)) := blk_later ((set2_other (by omega) (.string s2) (.int .i64 e2)).trans KY1.out) hb
                  have lY2 : w3.heap.size < v2.heap.size := lt_of_some hKY2
                  obtain ⟨mY2, nY2, fY2, gY2⟩ := box2 hKY2
                  have KY2 := Lib.hid hKY2
                  clear hKY2
                  have o0_2 := (hB2.cell (p := ⟨b0, off + k * 2 + 1, none⟩) hb0).trans HC1.out
                  have ol0_2 : b0 < v2.heap.size := Nat.lt_of_lt_of_le hb0 hB2.size
                  have HB2 := Lib.hid hB2
                  clear hb hB2 mX1 nX1 fX1 gX1 lX1 mY1 nY1 fY1 gY1 lY1 o0_1 ol0_1
                  go_wp2_with fail
                  obtain ⟨ws, hw_ws⟩ : ∃ x, (v2.setCell ⟨w3.heap.size, 0, none⟩ (.string s2)).setCell ⟨w3.heap.size, 1, none⟩ (.int .i64 e2) = x := ⟨_, rfl⟩
                  have hB_ws : Below W.heap.size W ws := by rw [← hw_ws]; exact (set2_below HB2.out (by omega) (.string s2) (.int .i64 e2))
                  have hKX_ws : ws.heap[W.heap.size]? = some (.cells #[.string s2, .int .i64 e2] 24 (0, 0)) := by rw [← hw_ws]; exact ((set2_other (by omega) (.string s2) (.int .i64 e2)).trans KX2.out)
                  have lX_ws : W.heap.size < ws.heap.size := lt_of_some hKX_ws
                  obtain ⟨mX_ws, nX_ws, fX_ws, gX_ws⟩ := box2 hKX_ws
                  have KX_ws := Lib.hid hKX_ws
                  clear hKX_ws
                  have hKY_ws : ws.heap[w3.heap.size]? = some (.cells #[.string s2, .int .i64 e2] 31 (0, 0)) := by rw [← hw_ws]; exact (set2_same KY2.out (.string s2) (.int .i64 e2))
                  have lY_ws : w3.heap.size < ws.heap.size := lt_of_some hKY_ws
                  obtain ⟨mY_ws, nY_ws, fY_ws, gY_ws⟩ := box2 hKY_ws
                  have KY_ws := Lib.hid hKY_ws
                  clear hKY_ws
                  have o0_ws := (hB_ws.cell (p := ⟨b0, off + k * 2 + 1, none⟩) hb0).trans HC1.out
                  have ol0_ws : b0 < ws.heap.size := Nat.lt_of_lt_of_le hb0 hB_ws.size
                  rw [hw_ws]
                  have HB_ws := Lib.hid hB_ws
                  clear hw_ws hB_ws mX2 nX2 fX2 gX2 lX2 mY2 nY2 fY2 gY2 lY2 o0_2 ol0_2
                  go_region_held3 (fun w' => Below ws.heap.size ws w' ∧ w'.cell? ⟨W.heap.size, 0, none⟩ = some (.string s2) ∧ w'.cell? ⟨W.heap.size, 1, none⟩ = some (.int .i64 e2) ∧ w'.cell? ⟨w3.heap.size, 0, none⟩ = some (.string s2) ∧ w'.cell? ⟨w3.heap.size, 1, none⟩ = some (.int .i64 e2)) (first | exact keepL ‹_› lX_ws lY_ws hb9 | exact ⟨(Below.refl _ _).drew, mX_ws, nX_ws, mY_ws, nY_ws⟩ | exact ⟨Below.refl _ _, mX_ws, nX_ws, mY_ws, nY_ws⟩ | (go_keep)) (first | (go_at_call 17; (with_reducible refine (ref_any _ _ _).mono ?_); rintro e w9 ⟨rfl, hb9⟩) | (go_at_call 28; (with_reducible refine (CE.out _).mono ?_); rintro e w9 ⟨rfl, hb9⟩) | (go_at_call 29; (with_reducible refine (CF.out _).mono ?_); rintro e w9 ⟨rfl, hb9⟩))
                  all_goals
                    have hb8 := (‹Below ws.heap.size ws w9 ∧ _› : _).1
                    have hX9 := blk_later KX_ws.out hb8
                    have hY9 := blk_later KY_ws.out hb8
                    rw [← HS2.out] at hX9 hY9
                    have HB9 := Lib.hid (below_then HB_ws.out hb8)
                    have HX9 := Lib.hid hX9
                    have HY9 := Lib.hid hY9
                    clear hb8 hX9 hY9 mX_ws nX_ws fX_ws gX_ws lX_ws mY_ws nY_ws fY_ws gY_ws lY_ws o0_ws ol0_ws
                    go_wp2
                    go_roundw
                    case rel => exact ⟨k + 1, ⟨l2, e2⟩, by go_num, rfl, by omega, by omega, hl2, HB9.out, HX9.out, HY9.out⟩
                    case measure => simp [RowKit.intOf]; omega
        · have d1 : decide ((k : Int) < (D.length : Int)) = true := by simp; omega
          have d2 : decide (k < D.length) = true := by simp; omega
          have d3 : decide ((k : Int) < 10) = false := by simp; omega
          clear hX hY hB
          go_wp2
          go_ret
          exact ⟨rfl, HBr.out⟩
      · have d1 : decide ((k : Int) < (D.length : Int)) = false := by simp; omega
        have d2 : decide (k < D.length) = false := by simp; omega
        clear hX hY hB
        go_wp2
        go_ret
        exact ⟨rfl, HBr.out⟩

end Go.Proofs.YtkkgdnmloojloaaDoor
namespace Go.Proofs.YtkkgdnmloojloaaDoor
open Go.ChangeShapes Go.WideShapes Go.RowKit Go.Lib
set_option maxRecDepth 100000 in
theorem open_reader {H : Type} {enc : TypeId × Value → H} {W : World} {base : Nat} {v : Value} {d : DataW H} {p : List MemPlace} (hv : Value.okWide Tryd.prog W .any base 24 v) (h : DataW.Trod enc Tryd.prog W 0 (fun _ => true) true 24 v d p) :
    ∃ (x : ByteArray) (e : Int) (d2 : DataW H), v = .agg #[.string x, .int .i64 e] ∧ d = .agg [.lit (.string x.data.toList), d2] := by
  obtain ⟨cs, rfl, hsz⟩ := okWide_struct Tryd.underlying24 hv
  have h2 : Tryd.prog.cellsOf 24 = 2 := by kernel_rfl
  have s9 : Tryd.prog.cellsOf 9 = 1 := by kernel_rfl
  have s22 : Tryd.prog.cellsOf 22 = 1 := by kernel_rfl
  obtain ⟨l⟩ := cs
  match l, hsz.trans h2 with
  | [c0, c1], _ =>
    obtain ⟨fuel, hf⟩ := h
    obtain ⟨xs, n, _, hx, _, hlen, hg⟩ := DataW.trod_struct Tryd.underlying24 hf
    match xs, hlen with
    | [y0, y1], _ =>
      have g0 := hg 0 _ rfl
      have g1 := hg 1 _ rfl
      simp [Value.cells, s9, s22] at g0 g1
      obtain ⟨s, hs, hd, _⟩ := DataW.trod_string Tryd.underlying9 g0
      obtain ⟨e, he, hd1, _⟩ := DataW.trod_int Tryd.underlying22 g1
      simp only [List.cons.injEq, and_true] at hs he
      subst hs he
      simp only [Prod.mk.injEq] at hx
      refine ⟨s, e, y1.1, rfl, ?_⟩
      rw [hx.1, hd]; rfl
set_option maxRecDepth 100000 in
theorem reads_all {H : Type} {enc : TypeId × Value → H} (a2 : Int) (s : ByteArray) (own : Bool) (W : World) {base base' : Nat} {v v' : Value} {d d' : DataW H} {p p' : List MemPlace}
    (hv : Value.okWide Tryd.prog W .any base 24 v) (h : DataW.Trod enc Tryd.prog W 0 (fun _ => true) true 24 v d p) (hz : ∀ n ∈ d.weights Tryd.prog 24, n ≤ reachBytes)
    (hv' : Value.okWide Tryd.prog W .any base' 25 v') (h' : DataW.Trod enc Tryd.prog W 0 (fun _ => true) true 25 v' d' p') (w2 : (Lit.int .u64 a2).wf = true) (s3 : s.size ≤ 140737488355328) :
    Calls Tryd.prog 3 #[v, v', .int .u64 a2, .string s, .bool own] W fun e w' => e = .returned (.bool true) ∧ Below W.heap.size W w' := by
  obtain ⟨x, e, d2, rfl, rfl⟩ := open_reader hv h
  obtain ⟨A, D, dc, rfl, hD, hDl⟩ := open_deeds hv' h'
  obtain ⟨n, rfl, hn⟩ := wf_u64 w2
  obtain ⟨S, rfl⟩ : ∃ S, s = str S := ⟨s.data.toList, (str_of s).symm⟩
  have hx : x.size ≤ 140737488355328 := by
    have h1 := hz x.data.toList.length (by simp [DataW.weights, Tryd.underlying24, DataW.weightsEach])
    have h2 := str_size x.data.toList
    rw [str_of] at h2
    have h3 := reachBytes_lt
    omega
  have hS := str_size S
  have ln := Plain.putL_len10 n hn
  have ls := Plain.putL_len10 S.length (by omega)
  have cP : ∀ w, Calls Tryd.prog 15 #[.int .u64 n] w fun e w' => e = .returned (.string (str (Plain.putL n))) ∧ Below w.heap.size w w' := fun w => put_any n w hn
  have cR : ∀ w, Calls Tryd.prog 18 #[.int .u64 n] w fun e w' => e = .returned (.string (str (Plain.putL n))) ∧ Below w.heap.size w w' := fun w => rput_any n w hn
  have cT : ∀ w, Calls Tryd.prog 16 #[.string (str S)] w fun e w' => e = .returned (.string (str (Plain.putL S.length ++ S))) ∧ Below w.heap.size w w' := by
    intro w
    have := textS_any (str S) w (by omega)
    rw [hS, str_list] at this
    exact this
  have cS : ∀ w, Calls Tryd.prog 19 #[.string (str S)] w fun e w' => e = .returned (.string (str (Plain.putL S.length ++ S))) ∧ Below w.heap.size w w' := by
    intro w
    have := rtextS_any (str S) w (by omega)
    rw [hS, str_list] at this
    exact this
  have hxe : str (Plain.putL n ++ (Plain.putL S.length ++ S)) ++ x = str (Plain.putL n ++ (Plain.putL S.length ++ S) ++ x.data.toList) := by
    conv => lhs; rw [← str_of x]
    rw [str_app]
  have hxl : x.data.toList.length = x.size := by have h2 := str_size x.data.toList; rw [str_of] at h2; exact h2.symm
  exact reads_walk own n (str S) x (str (Plain.putL n)) (str (Plain.putL S.length ++ S)) (str (Plain.putL n ++ (Plain.putL S.length ++ S))) (str (Plain.putL n ++ (Plain.putL S.length ++ S) ++ x.data.toList)) e A D dc W hn s3 hx
    (by rw [str_size]; omega) (by rw [str_size, List.length_append]; omega) (by rw [str_app]) (by rw [str_size, List.length_append, List.length_append]; omega) hxe (by rw [str_size, List.length_append, List.length_append, List.length_append]; omega) hD hDl cP cR cT cS
end Go.Proofs.YtkkgdnmloojloaaDoor
