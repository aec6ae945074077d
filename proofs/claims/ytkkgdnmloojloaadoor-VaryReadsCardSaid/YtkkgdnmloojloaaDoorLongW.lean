/- VaryLong's walk for every input: a text as bytes, one of them turned, one more behind. Conditions: none. -/
import Derived.Test.YtkkgdnmloojloaaDoorWalksE
import Derived.ArgAppend
import Derived.Lib.ConvBytes
set_option linter.unusedVariables false
set_option linter.unusedSimpArgs false
namespace Go.Proofs.YtkkgdnmloojloaaDoor
open Go.RowKit Go.Lib
/-- a row of bytes that a conversion made: so many cells, of which the first are these -/
def Brow (w : World) (g c : Nat) (L : List Int) : Prop := ∃ cur : Array Value, w.heap[g]? = some (.cells cur 5 (c, c + 1)) ∧ cur.size = c ∧ L.length ≤ c ∧ ∀ j, j < L.length → cur[j]? = some (.int .u8 (L.getD j 0))
theorem brow_new (w : World) (s : ByteArray) : ∃ c w', (convert 9 53 (.string s)).run Tryd.prog w = .ok (.slice (some ⟨w.heap.size, 0, none⟩) s.size c) w' ∧ s.size ≤ c ∧ Brow w' w.heap.size c (nb s.data.toList) ∧ Below w.heap.size w w' ∧ w'.heap.size = w.heap.size + 1 := by
  refine ⟨_, _, Lib.run_convert_string_bytes (P := Tryd.prog) w 9 53 5 s Tryd.underlying9 Tryd.underlying53 Tryd.underlying5, grownCap_ge _ _ _ _, ?_, ?_, Lib.bytesWorld_size _ _ _⟩
  · have h1 : (Lib.bytesCells w 5 s).size = grownCap w s.size 0 5 := by
      have := grownCap_ge w s.size 0 5
      unfold Lib.bytesCells
      rw [Array.size_append, Array.size_map, Array.size_replicate]
      have h2 : s.data.size = s.size := rfl
      omega
    refine ⟨_, by rw [Lib.bytesWorld_at_new, h1], h1, ?_, fun j hj => ?_⟩
    · unfold nb; rw [List.length_map, ← Lib.size_eq]; exact grownCap_ge _ _ _ _
    · unfold nb at hj ⊢
      rw [List.length_map, ← Lib.size_eq] at hj
      have hj2 : j < s.data.size := hj
      unfold Lib.bytesCells
      rw [Array.getElem?_append_left (by simpa using hj2)]
      simp only [Array.getElem?_map, List.getD_eq_getElem?_getD, List.getElem?_map, Array.getElem?_toList]
      rw [Array.getElem?_eq_getElem hj2]; simp
  · refine ⟨?_, ?_, ?_, ?_, fun k hk => Lib.bytesWorld_at_old w 5 s k hk⟩
    · simp [Lib.bytesWorld, World.freeze] <;> rfl
    · simp [Lib.bytesWorld, World.freeze] <;> rfl
    · simp [Lib.bytesWorld, World.freeze] <;> rfl
    · rw [Lib.bytesWorld_size]; exact Nat.le_succ _
theorem brow_cell {w : World} {g c : Nat} {L : List Int} (h : Brow w g c L) (j : Nat) (hj : j < L.length) : w.cell? ⟨g, j, none⟩ = some (.int .u8 (L.getD j 0)) := by
  obtain ⟨cur, h1, h2, h3, h4⟩ := h
  rw [cell_of_row _ _ _ _ _ _ h1]; exact h4 j hj
theorem brow_some {w : World} {g c : Nat} {L : List Int} (h : Brow w g c L) (j : Nat) (hj : j < c) : (w.cell? ⟨g, j, none⟩).isSome = true := by
  obtain ⟨cur, h1, h2, h3, h4⟩ := h
  rw [cell_of_row _ _ _ _ _ _ h1, Array.getElem?_eq_getElem (by omega)]; rfl
theorem brow_frozen {w : World} {g c : Nat} {L : List Int} (h : Brow w g c L) (j : Nat) (hj : j < c) : w.frozen? ⟨g, j, none⟩ = false := by
  obtain ⟨cur, h1, h2, h3, h4⟩ := h
  simp [World.frozen?, h1]; omega
theorem heap_setCell_tag (w : World) (g i : Nat) (cs : Array Value) (t : TypeId) (fr : Nat × Nat) (v : Value) (hg : w.heap[g]? = some (.cells cs t fr)) : (w.setCell ⟨g, i, none⟩ v).heap[g]? = some (.cells (cs.setIfInBounds i v) t fr) := by
  simp [World.setCell, Array.getElem?_modify, hg]
theorem brow_set {w : World} {g c : Nat} {L : List Int} (h : Brow w g c L) (j : Nat) (hj : j < L.length) (x : Int) : Brow (w.setCell ⟨g, j, none⟩ (.int .u8 x)) g c (L.set j x) := by
  obtain ⟨cur, h1, h2, h3, h4⟩ := h
  refine ⟨_, heap_setCell_tag w g j cur 5 _ _ h1, by simpa using h2, by simpa using h3, fun k hk => ?_⟩
  rw [List.length_set] at hk
  rw [Array.getElem?_setIfInBounds]
  by_cases e : j = k
  · subst e
    rw [if_pos rfl, if_pos (by omega)]; simp [hj]
  · rw [if_neg e, h4 k hk]
    simp [List.getElem?_set, e]
theorem brow_push {w : World} {g c : Nat} {L : List Int} (h : Brow w g c L) (hj : L.length < c) (x : Int) : Brow (w.setCell ⟨g, L.length, none⟩ (.int .u8 x)) g c (L ++ [x]) := by
  obtain ⟨cur, h1, h2, h3, h4⟩ := h
  refine ⟨_, heap_setCell_tag w g _ cur 5 _ _ h1, by simpa using h2, by simp; omega, fun k hk => ?_⟩
  rw [List.length_append, List.length_singleton] at hk
  rw [Array.getElem?_setIfInBounds]
  by_cases e : L.length = k
  · subst e
    rw [if_pos rfl, if_pos (by omega)]; simp
  · rw [if_neg e, h4 k (by omega)]
    have hk2 : k < L.length := by omega
    simp [List.getElem?_append_left hk2]
theorem brow_below {w w' : World} {g c : Nat} {L : List Int} (h : Brow w g c L) (hb : Below w.heap.size w w') : Brow w' g c L := by
  obtain ⟨cur, h1, h2⟩ := h
  exact ⟨cur, blk_later h1 hb, h2⟩
theorem brow_conv {w : World} {g c : Nat} {L : List Int} (h : Brow w g c L) : (convert 53 9 (.slice (some ⟨g, 0, none⟩) L.length c)).run Tryd.prog w = .ok (.string (bstr L)) w := by
  rw [run_convert_bytes_string w 53 9 5 _ L.length c Tryd.underlying53 Tryd.underlying5 Tryd.underlying9]
  have hc : ∀ (j : Nat) u, (u8s L)[j]? = some u → w.cell? ((⟨g, 0, none⟩ : Addr).add j) = some u := by
    intro j u hu
    have hj : j < L.length := by have := (List.getElem?_eq_some_iff.1 hu).1; simpa [u8s] using this
    have e : (⟨g, 0, none⟩ : Addr).add j = ⟨g, j, none⟩ := by unfold Addr.add; split <;> simp_all
    rw [e, brow_cell h j hj, ← hu]
    simp [u8s, hj]
  have h2 := run_loadCells_list (P := Tryd.prog) (w := w) ⟨g, 0, none⟩ (u8s L) hc
  have hlen : (u8s L).length = L.length := by simp [u8s]
  rw [hlen] at h2
  exact run_bytesToString w _ L.length c L h2
theorem brow_one (w : World) (x : Int) : (convert 53 9 (.slice (some ⟨w.heap.size, 0, none⟩) 1 1)).run Tryd.prog (w.alloc (.cells #[.int .u8 x] 5)) = .ok (.string (bstr [x])) (w.alloc (.cells #[.int .u8 x] 5)) :=
  conv_bytes (base := w.heap.size) (own_one (heap_alloc_new2 _ _ _ _ rfl) (Nat.le_refl _))
theorem brow_one2 (w : World) (o : Obj) (x : Int) : (convert 53 9 (.slice (some ⟨w.heap.size + 1, 0, none⟩) 1 1)).run Tryd.prog ((w.alloc o).alloc (.cells #[.int .u8 x] 5)) = .ok (.string (bstr [x])) ((w.alloc o).alloc (.cells #[.int .u8 x] 5)) := by
  have h := brow_one (w.alloc o) x
  rw [show (w.alloc o).heap.size = w.heap.size + 1 by simp] at h
  exact h
def OddRel (W w4 : World) (g N c : Nat) (q : ByteArray) (a b : Value) (wr : World) : Prop :=
  (a = .slice (some ⟨g, 0, none⟩) N c ∧ b = .int .i64 0 ∧ wr = w4) ∨ (∃ A c2, a = .slice A (N + 1) c2 ∧ b = .int .i64 1 ∧ (convert 53 9 (.slice A (N + 1) c2)).run Tryd.prog wr = .ok (.string q) wr ∧ Below W.heap.size W wr)
end Go.Proofs.YtkkgdnmloojloaaDoor
namespace Go.Proofs.YtkkgdnmloojloaaDoor
open Go.RowKit Go.Lib
set_option maxRecDepth 1000000 in
set_option maxHeartbeats 1000000 in
theorem long_walk_a (n m n8 mo mq : Nat) (s qa ov : ByteArray) (L : List UInt8) (x y : Int) (W : World) (hn : n < 18446744073709551616) (hn8 : (n : Int) / 256 = (n8 : Int)) (hm : m < 256) (hs0 : 0 < s.size) (hs8 : s.size ≤ 8)
    (hmo : (m : Int) % 254 = (mo : Int)) (hm2 : (m : Int) % 2 = 0) (hmo2 : mo < 254) (hmq : (2 : Int) + (mo : Int) = (mq : Int)) (hmq2 : mq < 256) (hx : (nb s.data.toList).getD (s.size - 1) 0 = x) (hy : bits .or .u8 x 128 = y) (hL : (nb s.data.toList).set (s.size - 1) y = nb L) (hLl : L.length = s.size)
    (hq : (str L) ++ ⟨#[0, 120]⟩ = qa) (hov : ⟨#[255, 255, 255, 255, 255, 255, 255, 255, 255]⟩ ++ bstr [(mq : Int)] ++ ⟨#[120]⟩ = ov) (hov1 : (bstr [(mq : Int)]).size = 1)
    (cP : ∀ w, Calls Tryd.prog 15 #[.int .u64 n8] w fun e w' => e = .returned (.string s) ∧ Below w.heap.size w w')
    (cN1 : ∀ w, Calls Tryd.prog 20 #[.agg #[.string qa, .int .i64 0]] w fun e w' => e = .returned (.tuple #[.int .u64 0, .agg #[.string ⟨#[]⟩, .int .i64 5]]) ∧ Below w.heap.size w w')
    (cN2 : ∀ w, Calls Tryd.prog 20 #[.agg #[.string ov, .int .i64 0]] w fun e w' => e = .returned (.tuple #[.int .u64 0, .agg #[.string ⟨#[]⟩, .int .i64 3]]) ∧ Below w.heap.size w w') :
    Calls Tryd.prog 6 #[.int .u64 n, .int .u8 m] W fun e w' => e = .returned (.bool true) ∧ Below W.heap.size W w' := by
  have CcP := Lib.hid cP
  have CN1 := Lib.hid cN1
  have CN2 := Lib.hid cN2
  clear cP cN1 cN2
  obtain ⟨N, hN⟩ : ∃ N, s.size = N := ⟨_, rfl⟩
  rw [hN] at hs0 hs8 hx hL hLl
  have hN1 : ((N - 1 : Nat) : Int) = (N : Int) - 1 := by omega
  obtain ⟨j, hj⟩ : ∃ j, N - 1 = j := ⟨_, rfl⟩
  rw [hj] at hx hL hN1
  have hjN : j < N := by omega
  have HX := Lib.hid hx
  have HL := Lib.hid hL
  have HQ := Lib.hid hq
  have HOV := Lib.hid hov
  have HLl := Lib.hid hLl
  have HSN := Lib.hid hN
  clear hx hL hq hov hLl
  obtain ⟨S, hS⟩ : ∃ S, nb s.data.toList = S := ⟨_, rfl⟩
  have hSl : S.length = N := by rw [← hS, ← hN, Lib.size_eq]; simp [nb]
  rw [hS] at HX HL
  have d0 : ((N : Int) == 0) = false := by simp; omega
  go_enter Tryd.func6, Tryd.ntmps6
  go_wp2_with fail
  refine (examples_any _).mono ?_
  rintro en1 w1 ⟨rfl, hb⟩
  have hB1 := below_then (Below.refl _ _) hb
  have L1 := hb.size
  try simp at L1
  have HB1 := Lib.hid hB1
  clear hb hB1
  go_wp2_with fail
  refine (CcP.out _).mono ?_
  rintro en2 w2 ⟨rfl, hb⟩
  have hB2 := below_then HB1.out hb
  have L2 := hb.size
  try simp at L2
  have HB2 := Lib.hid hB2
  clear hb hB2
  obtain ⟨c, w3, hcv, hNc, hR, hB3, hz3⟩ := brow_new w2 s
  rw [hS] at hR
  rw [hN] at hcv hNc
  have hxc := brow_cell hR j (by omega)
  have hxf := brow_frozen hR j (by omega)
  rw [HX.out] at hxc
  have hRs := brow_set hR j (by omega) y
  rw [HL.out] at hRs
  have HR := Lib.hid hRs
  have HB3 := Lib.hid (below_then HB2.out hB3)
  have hl3 : w2.heap.size < w3.heap.size := by omega
  have hj1 : (N : Int) - 1 = (j : Int) := by omega
  clear hR hRs hB3 hz3 hS hSl hN1 hj
  obtain ⟨w4, hw4⟩ : ∃ w4, w3.setCell ⟨w2.heap.size, j, none⟩ (.int .u8 y) = w4 := ⟨_, rfl⟩
  have HR4 : Hid (Brow w4 w2.heap.size c (nb L)) := Lib.hid (by rw [← hw4]; exact HR.out)
  have HB4 : Hid (Below W.heap.size W w4) := Lib.hid (by rw [← hw4]; exact HB3.out.setCell (by have := HB2.out.size; exact this) _)
  have l4 : w2.heap.size < w4.heap.size := by rw [← hw4]; simpa using hl3
  have HW4 := Lib.hid hw4
  clear hw4
  go_wp2_with fail
  rw [HW4.out]
  go_loopw [6, 7] (fun a b wr => a = .slice (some ⟨w2.heap.size, 0, none⟩) N c ∧ b = .int .i64 0 ∧ wr = w4) (fun _ _ _ => 0)
  case atStart => exact ⟨rfl, rfl, rfl⟩
  case round =>
    obtain ⟨rfl, rfl, rfl⟩ := hrel
    have hcv := brow_conv HR4.out
    have hnl : (nb L).length = N := by unfold nb; rw [List.length_map]; exact HLl.out
    rw [hnl, bstr_nb] at hcv
    have HQ2 := HQ.out
    have hql : (str L).size ≤ 100 := by rw [str_size, HLl.out]; omega
    change _ = Result.ok (Value.string (str L)) _ at hcv
    obtain ⟨q0, hq0⟩ : ∃ q, str L = q := ⟨_, rfl⟩
    rw [hq0] at hcv HQ2 hql
    clear hnl hq0
    go_wp2_with fail
    refine (CN1.out _).mono ?_
    rintro en3 w3 ⟨rfl, hb⟩
    have hB3 := below_then HB4.out hb
    have L3 := hb.size
    try simp at L3
    have HB3 := Lib.hid hB3
    clear hb hB3
    have hc1 := brow_one2 w3 (.cells #[.string ⟨#[]⟩, .int .i64 5] 24) (mq : Int)
    have HOV2 := HOV.out
    obtain ⟨ob, hob⟩ : ∃ ob, bstr [(mq : Int)] = ob := ⟨_, rfl⟩
    rw [hob] at hc1 HOV2 hov1
    clear hob
    go_wp2_with fail
    refine (CN2.out _).mono ?_
    rintro en4 w4 ⟨rfl, hb⟩
    have hB4 := below_then (below_alloc (below_alloc HB3.out _) _) hb
    have L4 := hb.size
    try simp at L4
    have hKR4 : w4.heap[w3.heap.size]? = some (.cells #[.string ⟨#[]⟩, .int .i64 5] 24 (0, 0)) := blk_later (blk_alloc (heap_alloc_new2 _ _ _ _ (by simp)) _) hb
    have lR4 : w3.heap.size < w4.heap.size := lt_of_some hKR4
    obtain ⟨mR4, nR4, fR4, gR4⟩ := box2 hKR4
    have KR4 := Lib.hid hKR4
    clear hKR4
    have HB4 := Lib.hid hB4
    clear hb hB4
    go_wp2
    go_ret
    exact ⟨rfl, (below_alloc HB4.out _)⟩

set_option maxRecDepth 1000000 in
set_option maxHeartbeats 1000000 in
theorem long_walk_b (n m n8 mo mq : Nat) (s qa ov : ByteArray) (L : List UInt8) (x y : Int) (W : World) (hn : n < 18446744073709551616) (hn8 : (n : Int) / 256 = (n8 : Int)) (hm : m < 256) (hs0 : 0 < s.size) (hs8 : s.size ≤ 8)
    (hmo : (m : Int) % 254 = (mo : Int)) (hm2 : (m : Int) % 2 = 1) (hmo2 : mo < 254) (hmq : (2 : Int) + (mo : Int) = (mq : Int)) (hmq2 : mq < 256) (hx : (nb s.data.toList).getD (s.size - 1) 0 = x) (hy : bits .or .u8 x 128 = y) (hL : (nb s.data.toList).set (s.size - 1) y = nb L) (hLl : L.length = s.size)
    (hq : (str (L ++ [128])) ++ ⟨#[0, 120]⟩ = qa) (hov : ⟨#[255, 255, 255, 255, 255, 255, 255, 255, 255]⟩ ++ bstr [(mq : Int)] ++ ⟨#[120]⟩ = ov) (hov1 : (bstr [(mq : Int)]).size = 1)
    (cP : ∀ w, Calls Tryd.prog 15 #[.int .u64 n8] w fun e w' => e = .returned (.string s) ∧ Below w.heap.size w w')
    (cN1 : ∀ w, Calls Tryd.prog 20 #[.agg #[.string qa, .int .i64 0]] w fun e w' => e = .returned (.tuple #[.int .u64 0, .agg #[.string ⟨#[]⟩, .int .i64 5]]) ∧ Below w.heap.size w w')
    (cN2 : ∀ w, Calls Tryd.prog 20 #[.agg #[.string ov, .int .i64 0]] w fun e w' => e = .returned (.tuple #[.int .u64 0, .agg #[.string ⟨#[]⟩, .int .i64 3]]) ∧ Below w.heap.size w w') :
    Calls Tryd.prog 6 #[.int .u64 n, .int .u8 m] W fun e w' => e = .returned (.bool true) ∧ Below W.heap.size W w' := by
  have CcP := Lib.hid cP
  have CN1 := Lib.hid cN1
  have CN2 := Lib.hid cN2
  clear cP cN1 cN2
  obtain ⟨N, hN⟩ : ∃ N, s.size = N := ⟨_, rfl⟩
  rw [hN] at hs0 hs8 hx hL hLl
  have hN1 : ((N - 1 : Nat) : Int) = (N : Int) - 1 := by omega
  obtain ⟨j, hj⟩ : ∃ j, N - 1 = j := ⟨_, rfl⟩
  rw [hj] at hx hL hN1
  have hjN : j < N := by omega
  have HX := Lib.hid hx
  have HL := Lib.hid hL
  have HQ := Lib.hid hq
  have HOV := Lib.hid hov
  have HLl := Lib.hid hLl
  have HSN := Lib.hid hN
  clear hx hL hq hov hLl
  obtain ⟨S, hS⟩ : ∃ S, nb s.data.toList = S := ⟨_, rfl⟩
  have hSl : S.length = N := by rw [← hS, ← hN, Lib.size_eq]; simp [nb]
  rw [hS] at HX HL
  have d0 : ((N : Int) == 0) = false := by simp; omega
  go_enter Tryd.func6, Tryd.ntmps6
  go_wp2_with fail
  refine (examples_any _).mono ?_
  rintro en1 w1 ⟨rfl, hb⟩
  have hB1 := below_then (Below.refl _ _) hb
  have L1 := hb.size
  try simp at L1
  have HB1 := Lib.hid hB1
  clear hb hB1
  go_wp2_with fail
  refine (CcP.out _).mono ?_
  rintro en2 w2 ⟨rfl, hb⟩
  have hB2 := below_then HB1.out hb
  have L2 := hb.size
  try simp at L2
  have HB2 := Lib.hid hB2
  clear hb hB2
  obtain ⟨c, w3, hcv, hNc, hR, hB3, hz3⟩ := brow_new w2 s
  rw [hS] at hR
  rw [hN] at hcv hNc
  have hxc := brow_cell hR j (by omega)
  have hxf := brow_frozen hR j (by omega)
  rw [HX.out] at hxc
  have hRs := brow_set hR j (by omega) y
  rw [HL.out] at hRs
  have HR := Lib.hid hRs
  have HB3 := Lib.hid (below_then HB2.out hB3)
  have hl3 : w2.heap.size < w3.heap.size := by omega
  have hj1 : (N : Int) - 1 = (j : Int) := by omega
  clear hR hRs hB3 hz3 hS hSl hN1 hj
  obtain ⟨w4, hw4⟩ : ∃ w4, w3.setCell ⟨w2.heap.size, j, none⟩ (.int .u8 y) = w4 := ⟨_, rfl⟩
  have HR4 : Hid (Brow w4 w2.heap.size c (nb L)) := Lib.hid (by rw [← hw4]; exact HR.out)
  have HB4 : Hid (Below W.heap.size W w4) := Lib.hid (by rw [← hw4]; exact HB3.out.setCell (by have := HB2.out.size; exact this) _)
  have l4 : w2.heap.size < w4.heap.size := by rw [← hw4]; simpa using hl3
  have HW4 := Lib.hid hw4
  clear hw4
  go_wp2_with fail
  rw [HW4.out]
  obtain ⟨i8, hi8, y0, y1, y2⟩ := info_parts info5
  have hql : (str (L ++ [128])).size ≤ 100 := by rw [str_size, List.length_append, HLl.out]; simp; omega
  obtain ⟨q0, hq0⟩ : ∃ q, str (L ++ [128]) = q := ⟨_, rfl⟩
  have HQ2 := HQ.out
  rw [hq0] at HQ2 hql
  have HQ3 := Lib.hid HQ2
  have HQ0 := Lib.hid hq0
  clear HQ HQ2 hq0
  go_loopw [6, 7] (fun a b wr => OddRel W w4 w2.heap.size N c q0 a b wr) (fun _ b _ => (1 - RowKit.intOf b).toNat)
  case atStart => exact .inl ⟨rfl, rfl, rfl⟩
  case round =>
    rcases hrel with ⟨rfl, rfl, rfl⟩ | ⟨A, c2, rfl, rfl, hcv, hBr⟩
    · go_wp2_with (at_builtin; refine wpList_append_arg _ rfl (.tmp 38) (.tmp 39) _ rfl 5 i8 _ 1 1 Tryd.underlying53 hi8 y0 y1 y2 rfl (by decide) w2.heap.size 0 N c (u8s (nb L)) rfl ?lo ?olds ⟨wr.heap.size, 0, none⟩ 1 1 [.int .u8 128] rfl rfl ?c1 ?c2 ?spare ?c3 ?c4 ?room ?grow)
      case lo => unfold u8s nb; rw [List.length_map, List.length_map, HLl.out, Nat.mul_one]
      case olds =>
        intro i u hu
        have hi := (List.getElem?_eq_some_iff.1 hu).1
        rw [Nat.zero_add]
        have hb := brow_cell (brow_below HR4.out ((Below.refl wr.heap.size wr).alloc (Nat.le_refl _) (.cells #[.int .u8 128] 5))) i (by simpa [u8s] using hi)
        rw [hb, ← hu]
        unfold u8s
        rw [List.getElem?_map]
        simp [u8s] at hi
        simp [hi]
      case c1 => exact CellsAt_add (CellsAt.new wr _ _)
      case c2 => intro u hu; simp only [List.mem_cons, List.not_mem_nil, or_false] at hu; subst hu; rfl
      case spare =>
        intro hroom i hi
        have hb := brow_below HR4.out ((Below.refl wr.heap.size wr).alloc (Nat.le_refl _) (.cells #[.int .u8 128] 5))
        simp only [List.length_cons, List.length_nil] at hi
        have e : 0 + N * 1 + i < c := by omega
        exact ⟨brow_some hb _ e, brow_frozen hb _ e⟩
      case c3 => simp only [maxLen]; omega
      case c4 => omega
      case room =>
        intro hroom
        have hb := brow_below HR4.out ((Below.refl wr.heap.size wr).alloc (Nat.le_refl _) (.cells #[.int .u8 128] 5))
        have hnl : (nb L).length = N := by unfold nb; rw [List.length_map]; exact HLl.out
        have hp := brow_push hb (by omega) 128
        have hcv := brow_conv hp
        rw [show nb L ++ [128] = nb (L ++ [128]) by simp [nb], bstr_nb, show (nb (L ++ [128])).length = N + 1 by unfold nb; simp; exact HLl.out, hnl] at hcv
        change _ = Result.ok (Value.string (str (L ++ [128]))) _ at hcv
        rw [HQ0.out] at hcv
        have hBn : Below W.heap.size W ((wr.alloc (.cells #[.int .u8 128] 5)).setCell ⟨w2.heap.size, N, none⟩ (.int .u8 128)) := (below_alloc HB4.out _).setCell (p := ⟨w2.heap.size, N, none⟩) (by have := HB2.out.size; exact this) _
        rw [show (wr.alloc (.cells #[.int .u8 128] 5)).setCells w2.heap.size N [.int .u8 128] = (wr.alloc (.cells #[.int .u8 128] 5)).setCell ⟨w2.heap.size, N, none⟩ (.int .u8 128) from rfl]
        obtain ⟨w6, hw6⟩ : ∃ w6, (wr.alloc (.cells #[.int .u8 128] 5)).setCell ⟨w2.heap.size, N, none⟩ (.int .u8 128) = w6 := ⟨_, rfl⟩
        rw [hw6] at hcv hBn ⊢
        have HC := Lib.hid hcv
        have HBn := Lib.hid hBn
        clear hcv hBn hw6 hb hp
        go_wp2
        go_roundw
        case rel => exact .inr ⟨_, _, rfl, rfl, HC.out, HBn.out⟩
        case measure => simp [RowKit.intOf]
      case grow =>
        intro hgrow v5 w5 hown hg
        have hst : u8s (nb L) ++ [.int .u8 128] = u8s (nb (L ++ [128])) := by simp [u8s, nb]
        rw [hst] at hown
        obtain ⟨ua, uc, rfl⟩ := own_slice hown
        have hcv := conv_bytes hown
        rw [bstr_nb] at hcv
        change _ = Result.ok (Value.string (str (L ++ [128]))) _ at hcv
        rw [HQ0.out] at hcv
        have hBn : Below W.heap.size W w5 := (below_alloc HB4.out _).grown hg (by have := HB4.out.size; simp; omega) (fun k hk => by cases hk)
        have HC := Lib.hid hcv
        have HBn := Lib.hid hBn
        clear hcv hBn hown hst
        go_wp2
        go_roundw
        case rel => exact .inr ⟨_, _, rfl, rfl, HC.out, HBn.out⟩
        case measure => simp [RowKit.intOf]
    · have HB5 := Lib.hid hBr
      have HQ4 := HQ3.out
      clear hBr
      go_wp2_with fail
      refine (CN1.out _).mono ?_
      rintro en3 w3 ⟨rfl, hb⟩
      have hB3 := below_then HB5.out hb
      have L3 := hb.size
      try simp at L3
      have HB3 := Lib.hid hB3
      clear hb hB3
      have hc1 := brow_one2 w3 (.cells #[.string ⟨#[]⟩, .int .i64 5] 24) (mq : Int)
      have HOV2 := HOV.out
      obtain ⟨ob, hob⟩ : ∃ ob, bstr [(mq : Int)] = ob := ⟨_, rfl⟩
      rw [hob] at hc1 HOV2 hov1
      clear hob
      go_wp2_with fail
      refine (CN2.out _).mono ?_
      rintro en4 w4 ⟨rfl, hb⟩
      have hB4 := below_then (below_alloc (below_alloc HB3.out _) _) hb
      have L4 := hb.size
      try simp at L4
      have hKR4 : w4.heap[w3.heap.size]? = some (.cells #[.string ⟨#[]⟩, .int .i64 5] 24 (0, 0)) := blk_later (blk_alloc (heap_alloc_new2 _ _ _ _ (by simp)) _) hb
      have lR4 : w3.heap.size < w4.heap.size := lt_of_some hKR4
      obtain ⟨mR4, nR4, fR4, gR4⟩ := box2 hKR4
      have KR4 := Lib.hid hKR4
      clear hKR4
      have HB4 := Lib.hid hB4
      clear hb hB4
      go_wp2
      go_ret
      exact ⟨rfl, (below_alloc HB4.out _)⟩

end Go.Proofs.YtkkgdnmloojloaaDoor
namespace Go.Proofs.YtkkgdnmloojloaaDoor
open Go.RowKit Go.Lib
theorem putL_split (n : Nat) : ∃ xs b, Plain.putL n = xs ++ [b] ∧ (∀ x ∈ xs, 128 ≤ x.toNat) ∧ b.toNat < 128 := by
  induction n using Nat.strongRecOn with
  | _ n ih =>
    by_cases h1 : n < 128
    · exact ⟨[], UInt8.ofNat n, by rw [Plain.putL_small n h1]; rfl, fun x hx => absurd hx (by simp), by rw [Plain.ofNat_toNat n (by omega)]; exact h1⟩
    · obtain ⟨xs, b, h2, h3, h4⟩ := ih (n / 128) (by omega)
      refine ⟨UInt8.ofNat (n % 128 + 128) :: xs, b, by rw [Plain.putL_big n h1, h2]; rfl, fun x hx => ?_, h4⟩
      rcases List.mem_cons.1 hx with e | e
      · rw [e, Plain.ofNat_toNat _ (by omega)]; omega
      · exact h3 x e
theorem or128 (b : Nat) (h : b < 128) : bits BinOp.or IntKind.u8 (b : Int) 128 = ((b + 128 : Nat) : Int) := by
  have h1 := (bits_nat .u8 8 (by decide) wraps_u8 b 128 (by omega) (by decide)).2
  have h2 : ∀ a, a < 128 → a ||| 128 = a + 128 := by decide
  rw [h2 _ h] at h1
  exact_mod_cast h1
theorem bstr_one (k : Nat) (h : k < 256) : bstr [(k : Int)] = str [UInt8.ofNat k] := by
  have e := bstr_nb [UInt8.ofNat k]
  unfold nb at e
  simp only [List.map_cons, List.map_nil] at e
  rw [Plain.ofNat_toNat k h] at e
  exact e
theorem long_all (a0 a1 : Int) (W : World) (w0 : (Lit.int .u64 a0).wf = true) (w1 : (Lit.int .u8 a1).wf = true) :
    Calls Tryd.prog 6 #[.int .u64 a0, .int .u8 a1] W fun e w' => e = .returned (.bool true) ∧ Below W.heap.size W w' := by
  obtain ⟨n, rfl, hn⟩ := wf_u64 w0
  obtain ⟨m, rfl, hm⟩ := wf_u8 w1
  obtain ⟨n8, hn8⟩ : ∃ n8, n / 256 = n8 := ⟨_, rfl⟩
  have hl8 : (Plain.putL n8).length ≤ 8 := Plain.putL_len 7 n8 (by show n8 < 72057594037927936; omega)
  obtain ⟨xs, b, hp, hx, hb⟩ := putL_split n8
  have hlx : xs.length ≤ 7 := by rw [hp] at hl8; simp at hl8; omega
  obtain ⟨L, hL⟩ : ∃ L, xs ++ [UInt8.ofNat (b.toNat + 128)] = L := ⟨_, rfl⟩
  have hLh : ∀ x ∈ L, 128 ≤ x.toNat := by
    intro x h
    rw [← hL] at h
    rcases List.mem_append.1 h with e | e
    · exact hx x e
    · simp only [List.mem_cons, List.not_mem_nil, or_false] at e
      rw [e, Plain.ofNat_toNat _ (by omega)]; omega
  have hLl : L.length = xs.length + 1 := by rw [← hL]; simp
  have hsz : (str (Plain.putL n8)).size = xs.length + 1 := by rw [str_size, hp]; simp
  have cP : ∀ w, Calls Tryd.prog 15 #[.int .u64 n8] w fun e w' => e = .returned (.string (str (Plain.putL n8))) ∧ Below w.heap.size w w' := fun w => put_any n8 w (by omega)
  have hget : (nb (str (Plain.putL n8)).data.toList).getD ((str (Plain.putL n8)).size - 1) 0 = (b.toNat : Int) := by
    rw [hsz, str_list, hp]
    simp [nb]
  have hset : (nb (str (Plain.putL n8)).data.toList).set ((str (Plain.putL n8)).size - 1) ((b.toNat + 128 : Nat) : Int) = nb L := by
    rw [hsz, str_list, hp, ← hL]
    unfold nb
    rw [List.map_append, List.map_append, List.set_append]
    simp only [List.length_map, Nat.add_sub_cancel, Nat.lt_irrefl, if_false, Nat.sub_self, List.map_cons, List.map_nil]
    rw [Plain.ofNat_toNat _ (by omega)]
    rfl
  have hov : (⟨#[255, 255, 255, 255, 255, 255, 255, 255, 255]⟩ : ByteArray) ++ bstr [((2 + m % 254 : Nat) : Int)] ++ ⟨#[120]⟩ = str ([255, 255, 255, 255, 255, 255, 255, 255, 255] ++ UInt8.ofNat (2 + m % 254) :: [120]) := by
    rw [bstr_one _ (by omega)]
    exact str_ext (by simp [str])
  have hN2 := next_at (Plain.next_over [255, 255, 255, 255, 255, 255, 255, 255, 255] [120] (UInt8.ofNat (2 + m % 254)) (by decide) rfl (by rw [Plain.ofNat_toNat _ (by omega)]; omega)) (by simp)
  have h1 : (bstr [((2 + m % 254 : Nat) : Int)]).size = 1 := by rw [bstr_one _ (by omega)]; rfl
  by_cases ho : m % 2 = 0
  · have hN1 := next_at (Plain.next_long L [120] hLh (by omega) (by omega)) (by show (L ++ 0 :: [120]).length ≤ _; simp; omega)
    exact long_walk_a n m n8 (m % 254) (2 + m % 254) _ _ _ L _ _ W hn (by omega) hm (by omega) (by omega) (by omega) (by omega) (by omega) (by omega) (by omega) hget (or128 _ hb) hset (by omega) (show str L ++ ⟨#[0, 120]⟩ = str (L ++ 0 :: [120]) by rw [← str_app]; rfl) hov h1 cP hN1 hN2
  · have hN1 := next_at (Plain.next_long (L ++ [128]) [120] (fun x hx => by
      rcases List.mem_append.1 hx with e | e
      · exact hLh x e
      · simp only [List.mem_cons, List.not_mem_nil, or_false] at e; rw [e]; decide) (by simp) (by simp; omega)) (by show (L ++ [128] ++ 0 :: [120]).length ≤ _; simp; omega)
    exact long_walk_b n m n8 (m % 254) (2 + m % 254) _ _ _ L _ _ W hn (by omega) hm (by omega) (by omega) (by omega) (by omega) (by omega) (by omega) (by omega) hget (or128 _ hb) hset (by omega) (show str (L ++ [128]) ++ ⟨#[0, 120]⟩ = str (L ++ [128] ++ 0 :: [120]) by rw [← str_app]; rfl) hov h1 cP hN1 hN2
end Go.Proofs.YtkkgdnmloojloaaDoor
