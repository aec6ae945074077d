/- layout.Of: what the code computes. Conditions: what each lemma says. -/
import Derived.Test.YtbbcdebjkedepaaCodeA
import Derived.Deep.CutBlock
import Derived.Deep.RegionHeld3
set_option linter.unusedVariables false
set_option linter.unusedSimpArgs false
namespace Go.Proofs.Ytbbcdebjkedepaa
open Go.RowKit Go.Lib
open Plain (Rg May mayB In Norm In4 slotsOf insB bnd riB cls cnot rightB normB)
def recc (t : In4) : List Value := [.int .u32 (w32 t.1), .int .u32 (w32 t.2.1), .int .u32 (w32 t.2.2.1), .int .u32 (w32 t.2.2.2)]
def recsC (L : List In4) : List Value := L.flatMap recc
theorem recsC_snoc (L : List In4) (t : In4) : recsC (L ++ [t]) = recsC L ++ recc t := by simp [recsC]
theorem recsC_len : ∀ L : List In4, (recsC L).length = L.length * 4
  | [] => rfl
  | t :: L => by
    have := recsC_len L
    unfold recsC at this ⊢
    rw [List.flatMap_cons, List.length_append, this, List.length_cons]
    show 4 + _ = _
    omega
def ru2 (r : Rg) : List Value := [.int .u32 (w32 r.1), .int .u32 (w32 r.2)]
def ru2s (R : List Rg) : List Value := R.flatMap ru2
theorem ru2s_snoc (L : List Rg) (t : Rg) : ru2s (L ++ [t]) = ru2s L ++ ru2 t := by simp [ru2s]
theorem ru2s_len : ∀ L : List Rg, (ru2s L).length = L.length * 2
  | [] => rfl
  | t :: L => by
    have := ru2s_len L
    unfold ru2s at this ⊢
    rw [List.flatMap_cons, List.length_append, this, List.length_cons]
    show 2 + _ = _
    omega
/-- all ranges, one class behind the other; where each class ends -/
def allR (K : List (List Rg)) : List Rg := K.flatMap id
def endsR (K : List (List Rg)) : List Int := (List.range K.length).map fun i => ((allR (K.take (i + 1))).length : Int)
theorem allR_snoc (K : List (List Rg)) (R : List Rg) : allR (K ++ [R]) = allR K ++ R := by simp [allR]
theorem endsR_snoc (K : List (List Rg)) (R : List Rg) : endsR (K ++ [R]) = endsR K ++ [((allR (K ++ [R])).length : Int)] := by
  unfold endsR
  rw [List.length_append, List.length_singleton, List.range_succ, List.map_append, List.map_singleton, List.take_of_length_le (l := K ++ [R]) (by simp)]
  congr 1
  refine List.map_congr_left fun i hi => ?_
  rw [List.mem_range] at hi
  rw [List.take_append_of_le_length (by omega)]
theorem endsR_len (K : List (List Rg)) : (endsR K).length = K.length := by simp [endsR]
theorem allR_take_le (K : List (List Rg)) (k : Nat) : (allR (K.take k)).length ≤ (allR K).length := by
  unfold allR
  conv => rhs; rw [← List.take_append_drop k K, List.flatMap_append, List.length_append]
  omega
/-- an arena in a block of its own -/
structure Ar (B : World) (fb : Nat) (w : World) (v0 v1 v2 : Value) (s : Int) (m0 m1 m2 : Nat) (x0 x1 x2 : List Value) : Prop where
  blk : w.heap[fb]? = some (.cells #[v0, v1, v2, .int .u32 s] 43 (0, 0))
  o0 : w.ownsRow B.heap.size 79 4 v0 m0 x0
  o1 : w.ownsRow B.heap.size 80 2 v1 m1 x1
  o2 : w.ownsRow B.heap.size 41 1 v2 m2 x2
  below : Below B.heap.size B w
  ge : B.heap.size ≤ fb
  n0 : v0.ownBlock ≠ some fb
  n1 : v1.ownBlock ≠ some fb
  n2 : v2.ownBlock ≠ some fb
  a01 : apart v0 v1
  a02 : apart v0 v2
  a12 : apart v1 v2
section
variable {B w w2 : World} {fb : Nat} {v0 v1 v2 v' : Value} {s : Int} {m0 m1 m2 m : Nat} {x0 x1 x2 y : List Value}
theorem Ar.lt (h : Ar B fb w v0 v1 v2 s m0 m1 m2 x0 x1 x2) : fb < w.heap.size := lt_of_some h.blk
theorem Ar.cell (h : Ar B fb w v0 v1 v2 s m0 m1 m2 x0 x1 x2) : w.cell? ⟨fb, 0, none⟩ = some v0 ∧ w.cell? ⟨fb, 1, none⟩ = some v1 ∧ w.cell? ⟨fb, 2, none⟩ = some v2 ∧ w.cell? ⟨fb, 3, none⟩ = some (.int .u32 s) := blk_cells4 h.blk
theorem Ar.kept (h : Ar B fb w v0 v1 v2 s m0 m1 m2 x0 x1 x2) (hb : Below w.heap.size w w2) : Ar B fb w2 v0 v1 v2 s m0 m1 m2 x0 x1 x2 :=
  ⟨by rw [hb.block fb h.lt]; exact h.blk, own_below h.o0 hb, own_below h.o1 hb, own_below h.o2 hb, h.below.trans (hb.mono h.below.size), h.ge, h.n0, h.n1, h.n2, h.a01, h.a02, h.a12⟩
theorem own_gr {e : TypeId} {base sz n : Nat} {u v : Value} {xs : List Value} (h : w.ownsRow base e sz u n xs) (hg : w.grownBy w2 v.ownBlock) (ap : apart v u) : w2.ownsRow base e sz u n xs :=
  h.kept hg (by
    rcases hu : u.ownBlock with _ | k
    · exact .inl rfl
    · exact .inr (fun e => ap k e.symm hu))
theorem blk_gr {t : TypeId} {cs : Array Value} {k : Nat} (hb : w.heap[k]? = some (.cells cs t (0, 0))) {row : Option Nat} (hg : w.grownBy w2 row) (hne : row ≠ some k) : w2.heap[k]? = some (.cells cs t (0, 0)) :=
  (hg.block k (lt_of_some hb) (fun e => hne e.symm)).trans hb
theorem Ar.ne {v : Value} (h : Ar B fb w v0 v1 v2 s m0 m1 m2 x0 x1 x2) (hv : v.ownBlock ≠ some fb) (hb : v'.ownBlock = v.ownBlock ∨ v'.ownBlock = some w.heap.size) : v'.ownBlock ≠ some fb := by
  have hlt := h.lt
  rcases hb with e | e
  · rw [e]; exact hv
  · rw [e]; intro e; injection e with e; omega
theorem or_ex {a b : Option Nat} {k : Nat} (h : a = b ∨ a = some k) : a = b ∨ ∃ g, a = some g ∧ k ≤ g := h.imp_right fun e => ⟨k, e, Nat.le_refl _⟩
theorem Ar.push0 (h : Ar B fb w v0 v1 v2 s m0 m1 m2 x0 x1 x2) (ho : w2.ownsRow B.heap.size 79 4 v' m (x0 ++ y)) (hg : w.grownBy w2 v0.ownBlock) (hb : v'.ownBlock = v0.ownBlock ∨ v'.ownBlock = some w.heap.size) :
    Ar B fb (w2.setCell ⟨fb, 0, none⟩ v') v' v1 v2 s m m1 m2 (x0 ++ y) x1 x2 := by
  have hn' := h.ne h.n0 hb
  refine ⟨?_, ownsRow_setCell_other ho hn' _, ownsRow_setCell_other (own_gr h.o1 hg h.a01) h.n1 _, ownsRow_setCell_other (own_gr h.o2 hg h.a02) h.n2 _, ?_, h.ge, hn', h.n1, h.n2, h.a01.push' h.o1 (or_ex hb), h.a02.push' h.o2 (or_ex hb), h.a12⟩
  · exact heap_setCell_same _ _ _ _ _ _ (blk_gr h.blk hg h.n0)
  · exact (h.below.grown hg h.below.size (fun k hk => (h.o0.lt k hk).1)).setCell h.ge _
theorem Ar.push1 (h : Ar B fb w v0 v1 v2 s m0 m1 m2 x0 x1 x2) (ho : w2.ownsRow B.heap.size 80 2 v' m (x1 ++ y)) (hg : w.grownBy w2 v1.ownBlock) (hb : v'.ownBlock = v1.ownBlock ∨ v'.ownBlock = some w.heap.size) :
    Ar B fb (w2.setCell ⟨fb, 1, none⟩ v') v0 v' v2 s m0 m m2 x0 (x1 ++ y) x2 := by
  have hn' := h.ne h.n1 hb
  refine ⟨?_, ownsRow_setCell_other (own_gr h.o0 hg h.a01.symm) h.n0 _, ownsRow_setCell_other ho hn' _, ownsRow_setCell_other (own_gr h.o2 hg h.a12) h.n2 _, ?_, h.ge, h.n0, hn', h.n2, (h.a01.symm.push' h.o0 (or_ex hb)).symm, h.a02, h.a12.push' h.o2 (or_ex hb)⟩
  · exact heap_setCell_same _ _ _ _ _ _ (blk_gr h.blk hg h.n1)
  · exact (h.below.grown hg h.below.size (fun k hk => (h.o1.lt k hk).1)).setCell h.ge _
theorem Ar.push2 (h : Ar B fb w v0 v1 v2 s m0 m1 m2 x0 x1 x2) (ho : w2.ownsRow B.heap.size 41 1 v' m (x2 ++ y)) (hg : w.grownBy w2 v2.ownBlock) (hb : v'.ownBlock = v2.ownBlock ∨ v'.ownBlock = some w.heap.size) :
    Ar B fb (w2.setCell ⟨fb, 2, none⟩ v') v0 v1 v' s m0 m1 m x0 x1 (x2 ++ y) := by
  have hn' := h.ne h.n2 hb
  refine ⟨?_, ownsRow_setCell_other (own_gr h.o0 hg h.a02.symm) h.n0 _, ownsRow_setCell_other (own_gr h.o1 hg h.a12.symm) h.n1 _, ownsRow_setCell_other ho hn' _, ?_, h.ge, h.n0, h.n1, hn', h.a01, (h.a02.symm.push' h.o0 (or_ex hb)).symm, (h.a12.symm.push' h.o1 (or_ex hb)).symm⟩
  · exact heap_setCell_same _ _ _ _ _ _ (blk_gr h.blk hg h.n2)
  · exact (h.below.grown hg h.below.size (fun k hk => (h.o2.lt k hk).1)).setCell h.ge _
theorem Ar.init (hb : w.heap[fb]? = some (.cells #[.slice none 0 0, .slice none 0 0, .slice none 0 0, .int .u32 s] 43 (0, 0))) (hB : Below B.heap.size B w) (hf : B.heap.size ≤ fb) :
    Ar B fb w (.slice none 0 0) (.slice none 0 0) (.slice none 0 0) s 0 0 0 [] [] [] :=
  ⟨hb, World.ownsRow_nil _ _ _ _, World.ownsRow_nil _ _ _ _, World.ownsRow_nil _ _ _ _, hB, hf, by simp [Value.ownBlock], by simp [Value.ownBlock], by simp [Value.ownBlock], fun k h => by simp [Value.ownBlock] at h, fun k h => by simp [Value.ownBlock] at h, fun k h => by simp [Value.ownBlock] at h⟩
theorem Ar.drew (h : Ar B fb w v0 v1 v2 s m0 m1 m2 x0 x1 x2) : Ar B fb w.drew v0 v1 v2 s m0 m1 m2 x0 x1 x2 := h.kept (Below.refl _ _).drew
end
theorem info79 : (Try.prog.info? 79).map (fun i => (i.zero, i.size, i.bytes)) = some (some (.agg #[.int .u32 0, .int .u32 0, .int .u32 0, .int .u32 0]), 4, 16) := by kernel_rfl
theorem info80 : (Try.prog.info? 80).map (fun i => (i.zero, i.size, i.bytes)) = some (some (.agg #[.int .u32 0, .int .u32 0]), 2, 8) := by kernel_rfl
theorem info41 : (Try.prog.info? 41).map (fun i => (i.zero, i.size, i.bytes)) = some (some (.int .u32 0), 1, 4) := by kernel_rfl
set_option maxRecDepth 100000 in
set_option maxHeartbeats 1000000 in
theorem of_wrong (I C : Option Addr) (L : List In4) (K : List Cs) (c d : Nat) (g : Int) (w : World) (hP : PgAt w I L C K) (hq : pgR L K g = false) :
    Calls Try.prog 9 #[pgV I L.length c C K.length d g] w fun e w' => e = .returned (.tuple #[arV none 0 0 none 0 0 none 0 0 0, .int .i64 11]) ∧ Below w.heap.size w w' := by
  have cR := fun (W : World) (h : PgAt W I L C K) => prright_any I C L K c d g W h
  rw [hq] at cR
  unfold pgV at cR ⊢
  unfold arV
  have HP := Lib.hid hP
  have HR := Lib.hid cR
  clear hP cR hq
  go_enter Try.func9, Try.ntmps9
  go_wp2_with fail
  refine (HR.out _ (HP.out.below (((Below.refl _ _).alloc (Nat.le_refl _) _).alloc (by simp) _))).mono ?_
  rintro e w1 ⟨rfl, hb1⟩
  have hbk : w1.heap[w.heap.size + 1]? = some (.cells #[.slice none 0 0, .slice none 0 0, .slice none 0 0, .int .u32 0] 43 (0, 0)) := by
    rw [hb1.block (w.heap.size + 1) (by simp)]
    exact heap_alloc_new2 _ _ _ _ (by simp)
  obtain ⟨c0, c1, c2, c3⟩ := blk_cells4 hbk
  have f0 := blk_frozen hbk 0
  have f1 := blk_frozen hbk 1
  have f2 := blk_frozen hbk 2
  have f3 := blk_frozen hbk 3
  have HB := Lib.hid hbk
  have HB1 := Lib.hid hb1
  clear hbk hb1
  go_wp2
  have hW : ((((w1.setCell ⟨w.heap.size + 1, 0, none⟩ (.slice none 0 0)).setCell ⟨w.heap.size + 1, 1, none⟩ (.slice none 0 0)).setCell ⟨w.heap.size + 1, 2, none⟩ (.slice none 0 0)).setCell ⟨w.heap.size + 1, 3, none⟩ (.int .u32 0)).heap[w.heap.size + 1]? = some (.cells #[.slice none 0 0, .slice none 0 0, .slice none 0 0, .int .u32 0] 43 (0, 0)) :=
    heap_setCell_same _ _ 3 _ _ _ (heap_setCell_same _ _ 2 _ _ _ (heap_setCell_same _ _ 1 _ _ _ (heap_setCell_same _ _ 0 _ _ _ HB.out)))
  obtain ⟨m0, m1, m2, m3⟩ := blk_cells4 hW
  have hBB : Below w.heap.size w w1 := (((Below.refl _ _).alloc (Nat.le_refl _) _).alloc (by simp) _).trans (HB1.out.mono (by simp; omega))
  exact bodyPost_ret (v := .tuple #[.agg #[.slice none 0 0, .slice none 0 0, .slice none 0 0, .int .u32 0], .int .i64 11]) (by simp [results, Try.results9, go_sem, m0, m1, m2, m3]) rfl ⟨rfl, (((hBB.setCell (by simp) _).setCell (by simp) _).setCell (by simp) _).setCell (by simp) _⟩
end Go.Proofs.Ytbbcdebjkedepaa
namespace Go.Proofs.Ytbbcdebjkedepaa
open Go.RowKit Go.Lib
open Plain (Rg May mayB In Norm In4 slotsOf insB bnd riB cls cnot rightB normB)
set_option maxRecDepth 1000000 in
set_option maxHeartbeats 8000000 in
theorem of_right (I C : Option Addr) (L : List In4) (K : List Cs) (c d : Nat) (g : Int) (w : World) (hP : PgAt w I L C K) (hq : pgR L K g = true) (hN : (allR (K.map Cs.R)).length ≤ 1048576) :
    Calls Try.prog 9 #[pgV I L.length c C K.length d g] w fun e w' => ∃ A0 c0 A1 c1 A2 c2, e = .returned (.tuple #[arV A0 L.length c0 A1 (allR (K.map Cs.R)).length c1 A2 K.length c2 (w32 (slotsOf g)), .int .i64 0]) ∧
      w'.ownsRow w.heap.size 79 4 (.slice A0 L.length c0) L.length (recsC L) ∧ w'.ownsRow w.heap.size 80 2 (.slice A1 (allR (K.map Cs.R)).length c1) (allR (K.map Cs.R)).length (ru2s (allR (K.map Cs.R))) ∧
      w'.ownsRow w.heap.size 41 1 (.slice A2 K.length c2) K.length (u32s (endsR (K.map Cs.R))) ∧ apart (.slice A0 L.length c0) (.slice A1 (allR (K.map Cs.R)).length c1) ∧ apart (.slice A0 L.length c0) (.slice A2 K.length c2) ∧ apart (.slice A1 (allR (K.map Cs.R)).length c1) (.slice A2 K.length c2) ∧ Below w.heap.size w w' := by
  have cR := fun (W : World) (h : PgAt W I L C K) => prright_any I C L K c d g W h
  have cS := fun (W : World) => slots_any I C L.length c K.length d g W
  have cC := fun (t : In4) (W : World) => record_any t W
  rw [hq] at cR
  have hb : L.length ≤ 512 ∧ K.length ≤ 64 := by
    unfold pgR at hq
    simp only [Bool.and_eq_true, decide_eq_true_eq] at hq
    exact ⟨hq.1.1.1.1.1.2, hq.1.1.1.1.2⟩
  obtain ⟨i79, hi79, y0, y1, y2⟩ := info_parts info79
  obtain ⟨i80, hi80, z0, z1, z2⟩ := info_parts info80
  obtain ⟨i41, hi41, u0, u1, u2⟩ := info_parts info41
  unfold pgV at cR cS ⊢
  unfold arV
  unfold i4V at cC
  obtain ⟨n, hn⟩ : ∃ n, L.length = n := ⟨_, rfl⟩
  obtain ⟨m, hm⟩ : ∃ m, K.length = m := ⟨_, rfl⟩
  obtain ⟨S, hS⟩ : ∃ S, w32 (slotsOf g) = S := ⟨_, rfl⟩
  obtain ⟨sl, hsl⟩ : ∃ sl, slotsOf g = sl := ⟨_, rfl⟩
  rw [hsl] at hS cS
  unfold w32 at hS
  rw [show w32 (slotsOf g) = S by rw [hsl]; exact hS]
  simp only [hn, hm] at cR cS hb ⊢
  have HP := Lib.hid hP
  have CR := Lib.hid cR
  have CSl := Lib.hid cS
  have CC := Lib.hid cC
  have HN := Lib.hid hn
  have HM := Lib.hid hm
  have HSS := Lib.hid hS
  have HLE := Lib.hid hN
  clear hP hq hN hn hm hS hsl cR cS cC
  go_enter Try.func9, Try.ntmps9
  go_wp2_with fail
  refine (CR.out _ (HP.out.below (((Below.refl _ _).alloc (Nat.le_refl _) _).alloc (by simp) _))).mono ?_
  rintro e w1 ⟨rfl, hb1⟩
  obtain ⟨B, hBe⟩ : ∃ W0, (w.alloc (.cells #[.slice I n c, .slice C m d, .int .i64 g] 25)).alloc (.cells #[.slice none 0 0, .slice none 0 0, .slice none 0 0, .int .u32 0] 43) = W0 := ⟨_, rfl⟩
  have hB0 : Below w.heap.size w B := by rw [← hBe]; exact ((Below.refl _ _).alloc (Nat.le_refl _) _).alloc (by simp) _
  have hC0 : B.heap[w.heap.size]? = some (.cells #[.slice I n c, .slice C m d, .int .i64 g] 25 (0, 0)) := by rw [← hBe]; exact blk_alloc (heap_alloc_new2 _ _ _ _ rfl) _
  have hC1 : B.heap[w.heap.size + 1]? = some (.cells #[.slice none 0 0, .slice none 0 0, .slice none 0 0, .int .u32 0] 43 (0, 0)) := by rw [← hBe]; exact heap_alloc_new2 _ _ _ _ (by simp)
  have hsB : B.heap.size = w.heap.size + 2 := by rw [← hBe]; simp
  rw [hBe] at hb1
  have hB1 : Below B.heap.size B w1 := hb1
  have HC1 := Lib.hid hC1
  clear hC1
  have HB0 := Lib.hid hB0
  have HC0 := Lib.hid hC0
  have HSB := Lib.hid hsB
  have HB1 := Lib.hid hB1
  have HPB := Lib.hid (HP.out.below hB0)
  clear hB0 hC0 hB1 hb1 hBe hsB HP
  obtain ⟨p0, p1, p2⟩ := blk_cells3 (blk_later HC0.out HB1.out)
  go_wp2_with fail
  refine (CSl.out _).mono ?_
  rintro e w2 ⟨rfl, hb2⟩
  have HB2 := Lib.hid (below_then HB1.out hb2)
  clear hb2 p0 p1 p2
  go_upto_region 4 with fail
  rw [HSS.out]
  obtain ⟨w3, hw3⟩ : ∃ W0, w2.alloc (.cells #[.slice none 0 0, .slice none 0 0, .slice none 0 0, .int .u32 S] 43) = W0 := ⟨_, rfl⟩
  obtain ⟨gf, hgf⟩ : ∃ x, w2.heap.size = x := ⟨_, rfl⟩
  have hx3 : w3.heap[gf]? = some (.cells #[.slice none 0 0, .slice none 0 0, .slice none 0 0, .int .u32 S] 43 (0, 0)) := by rw [← hw3]; exact heap_alloc_new2 _ _ _ _ hgf.symm
  have hB3 : Below B.heap.size B w3 := by rw [← hw3]; exact below_alloc HB2.out _
  have hgB : B.heap.size ≤ gf := by rw [← hgf]; exact HB2.out.size
  rw [hw3, hgf]
  have HI := Lib.hid (Ar.init hx3 hB3 hgB)
  obtain ⟨p0, p1, p2⟩ := blk_cells3 (blk_later HC0.out hB3)
  clear hw3 hx3 hB3 hgf HB2
  go_wp2_with fail
  go_loopw [6, 22] (fun _ i wr => ∃ (k : Nat) (v0 : Value), k ≤ n ∧ i = .int .i64 k ∧ Ar B gf wr v0 (.slice none 0 0) (.slice none 0 0) S k 0 0 (recsC (L.take k)) [] []) (fun _ i _ => n - (RowKit.intOf i).toNat)
  case atStart => exact ⟨0, _, Nat.zero_le _, rfl, HI.out⟩
  clear HI p0 p1 p2
  case round =>
    obtain ⟨k, v0, hk, rfl, hA⟩ := hrel
    have HAc := Lib.hid hA
    clear hA
    by_cases hlt : k < n
    · have hkl : k < L.length := by rw [HN.out]; exact hlt
      obtain ⟨ba, off, rfl, hba, c0, c1, c2, c3⟩ := i4_at (HPB.out.insts.below HAc.out.below) k hkl
      have hst : recsC (L.take (k + 1)) = recsC (L.take k) ++ recc L[k] := by
        rw [Plain.take_snoc L k L[k] (List.getElem?_eq_getElem hkl), recsC_snoc]
      obtain ⟨t, ht⟩ : ∃ t, L[k] = t := ⟨_, rfl⟩
      rw [ht] at c0 c1 c2 c3 hst
      have HST := Lib.hid hst
      clear hst ht
      go_upto_region 7 with fail
      obtain ⟨wt, hwt⟩ : ∃ W0, wr.alloc (.cells #[.int .i64 t.1, .int .i64 t.2.1, .int .i64 t.2.2.1, .int .i64 t.2.2.2] 84) = W0 := ⟨_, rfl⟩
      have hbt : Below wr.heap.size wr wt := by rw [← hwt]; exact (Below.refl _ _).alloc (Nat.le_refl _) _
      have hTt : wt.heap[wr.heap.size]? = some (.cells #[.int .i64 t.1, .int .i64 t.2.1, .int .i64 t.2.2.1, .int .i64 t.2.2.2] 84 (0, 0)) := by rw [← hwt]; exact heap_alloc_new2 _ _ _ _ rfl
      rw [hwt]
      obtain ⟨gt, hgt⟩ : ∃ x, wr.heap.size = x := ⟨_, rfl⟩
      rw [hgt] at hTt ⊢
      have HAt := Lib.hid (HAc.out.kept hbt)
      have HTT := Lib.hid hTt
      clear hwt hbt hTt c0 c1 c2 c3 hgt HAc
      have HSF := Lib.hid (fun (W : World) (hW : Below wt.heap.size wt W) => show _ ∧ _ ∧ _ ∧ _ ∧ _ ∧ _ ∧ _ ∧ _ from ⟨(blk_cells4 (blk_later HTT.out hW)).1, (blk_cells4 (blk_later HTT.out hW)).2.1, (blk_cells4 (blk_later HTT.out hW)).2.2.1, (blk_cells4 (blk_later HTT.out hW)).2.2.2, (HAt.out.kept hW).cell⟩)
      have HBD := Lib.hid (Below.drew (Below.refl wt.heap.size wt))
      refine wp_region_noPanic ?_
      refine wp_region_T 5 (S := fun w' : World => Below wt.heap.size wt w') (by kernel_rfl) (by decide) ?_
      refine wpAnyT_take2 0 (v := ?tvo0) (by kernel_rfl) rfl (by kernel_rfl) (fun _ _ _ h => h) (Or.inl ⟨by rfl, ?tyo0⟩) HBD.out ?tro0
      case tyo0 => (intro w' hSw; (try dsimp only at hSw); go_simp; try with_reducible rfl)
      try simp only [Act.put, List.setIfInBounds_toArray, List.set_cons_zero, List.set_cons_succ]
      refine wpAnyT_take2 1 (v := ?tvo1) (by kernel_rfl) rfl (by kernel_rfl) (fun _ _ _ h => h) (Or.inl ⟨by rfl, ?tyo1⟩) HBD.out ?tro1
      case tyo1 => (intro w' hSw; obtain ⟨f0, f1, f2, f3, g0, g1, g2, g3⟩ := HSF.out w' hSw; (try dsimp only at hSw); go_simp; try with_reducible rfl)
      try simp only [Act.put, List.setIfInBounds_toArray, List.set_cons_zero, List.set_cons_succ]
      refine wpAnyT_take2 2 (v := ?tvo2) (by kernel_rfl) rfl (by kernel_rfl) (fun _ _ _ h => h) (Or.inl ⟨by rfl, ?tyo2⟩) HBD.out ?tro2
      case tyo2 => (intro w' hSw; obtain ⟨f0, f1, f2, f3, g0, g1, g2, g3⟩ := HSF.out w' hSw; (try dsimp only at hSw); go_simp; try with_reducible rfl)
      try simp only [Act.put, List.setIfInBounds_toArray, List.set_cons_zero, List.set_cons_succ]
      refine wpAnyT_one2 3 rfl (by kernel_rfl) ?_
      intro K' hK'
      rw [if_pos (by rfl)]
      have HK := Lib.hid hK'
      clear hK'
      go_wp2_with (go_at_call 26; refine (CC.out t _).mono ?_; rintro e1 w1 ⟨rfl, hb1⟩)
      have HB1 := Lib.hid (below_then HBD.out hb1)
      clear hb1
      refine HK.out _ _ ⟨HB1.out, ?_⟩
      clear HK K'
      try simp only [Act.put, List.setIfInBounds_toArray, List.set_cons_zero, List.set_cons_succ]
      refine wpAnyT_one2 4 rfl (by kernel_rfl) ?_
      intro K' hK'
      rw [if_pos (by rfl)]
      have HK := Lib.hid hK'
      clear hK'
      unfold recV
      go_simp
      have HC4 := Lib.hid (CellsAt.new w1 #[.int .u32 (w32 t.1), .int .u32 (w32 t.2.1), .int .u32 (w32 t.2.2.1), .int .u32 (w32 t.2.2.2)] 79)
      have HB4 := Lib.hid (below_alloc HB1.out (.cells #[.int .u32 (w32 t.1), .int .u32 (w32 t.2.1), .int .u32 (w32 t.2.2.1), .int .u32 (w32 t.2.2.2)] 79))
      obtain ⟨w4, hw4⟩ : ∃ W0, w1.alloc (.cells #[.int .u32 (w32 t.1), .int .u32 (w32 t.2.1), .int .u32 (w32 t.2.2.1), .int .u32 (w32 t.2.2.2)] 79) = W0 := ⟨_, rfl⟩
      rw [hw4] at HC4 HB4 ⊢
      obtain ⟨g4, hg4⟩ : ∃ x, w1.heap.size = x := ⟨_, rfl⟩
      rw [hg4] at HC4 ⊢
      clear hw4 hg4
      refine HK.out _ _ ⟨HB4.out, ?_⟩
      clear HK K'
      try simp only [Act.put, List.setIfInBounds_toArray, List.set_cons_zero, List.set_cons_succ]
      have HA4 := Lib.hid (HAt.out.kept HB4.out)
      obtain ⟨s0, s1, s2, s3⟩ := HA4.out.cell
      refine ⟨by kernel_rfl, ?_⟩
      change wpList _ _ _ [_, _, _] _ _
      refine wpList_append_own2 _ (by rfl) (.tmp 27) (.tmp 30) 38 (by rfl) B.heap.size 79 i79 _ 4 16 Try.underlying38 hi79 y0 y1 y2 rfl (by decide) v0 k (recsC (L.take k)) (by rfl) HA4.out.o0 ⟨g4, 0, none⟩ 1 1 (recc t) (by rfl) rfl (CellsAt_add HC4.out) (by intro u hu; simp only [recc, List.mem_cons, List.not_mem_nil, or_false] at hu; rcases hu with rfl | rfl | rfl | rfl <;> rfl) (by simp only [maxLen]; omega) (by omega) HA4.out.below.size ?_
      intro v5 w5 hown hgr hvb
      have hA5 := HA4.out.push0 hown hgr hvb
      obtain ⟨a5, cp5, rfl⟩ := own_slice hown
      have hx5 := blk_gr HA4.out.blk hgr HA4.out.n0
      obtain ⟨s0, s1, s2, s3⟩ := blk_cells4 hx5
      have f0 := blk_frozen hx5 0
      have HA5 := Lib.hid hA5
      clear hA5 hx5 hown hgr hvb
      go_wp2
      refine NoPanic.normal ?_
      go_wp2
      go_roundw
      case rel => exact ⟨k + 1, _, by omega, by go_num, by rw [HST.out]; exact HA5.out⟩
      case measure => simp [RowKit.intOf]; omega
    · obtain rfl : n = k := by omega
      have hPt : L.take n = L := List.take_of_length_le (by rw [HN.out]; exact Nat.le_refl _)
      have hA1 := HAc.out
      rw [hPt] at hA1
      have HA1 := Lib.hid hA1
      obtain ⟨p0, p1, p2⟩ := blk_cells3 (blk_later HC0.out hA1.below)
      clear hA1 hPt HAc
      go_wp2_with fail
      go_loopw [8, 10, 37] (fun _ _ i w3 => ∃ (k : Nat) (v1 v2 : Value), k ≤ m ∧ i = .int .i64 k ∧ Ar B gf w3 v0 v1 v2 S n (allR ((K.map Cs.R).take k)).length k (recsC L) (ru2s (allR ((K.map Cs.R).take k))) (u32s (endsR ((K.map Cs.R).take k)))) (fun _ _ i _ => m - (RowKit.intOf i).toNat)
      case atStart => exact ⟨0, _, _, Nat.zero_le _, rfl, HA1.out⟩
      clear HA1 p0 p1 p2
      case round =>
        obtain ⟨k, v1, v2, hk, rfl, hA⟩ := hrel
        have HAc := Lib.hid hA
        clear hA
        have hCK := HPB.out.cls
        by_cases hlt : k < m
        · have hkl : k < K.length := by rw [HM.out]; exact hlt
          obtain ⟨bc, offc, rfl, hbc, cc⟩ := cs_at (hCK.below HAc.out.below) k hkl
          have hrow := HPB.out.each K[k] (List.getElem_mem hkl)
          have hKk : (K.map Cs.R)[k]? = some (K[k]).R := by simp [List.getElem?_eq_getElem hkl]
          have hts := Plain.take_snoc (K.map Cs.R) k (K[k]).R hKk
          have hle := allR_take_le (K.map Cs.R) (k + 1)
          obtain ⟨⟨xA, xc, R⟩, hx⟩ : ∃ x, K[k] = x := ⟨_, rfl⟩
          rw [hx] at cc hrow hts
          unfold clV at cc
          dsimp only at cc hrow hts
          rw [hts, allR_snoc, List.length_append] at hle
          have hNL := HLE.out
          obtain ⟨X, hX⟩ : ∃ X, (K.map Cs.R).take k = X := ⟨_, rfl⟩
          rw [hX] at hle hts
          have hAX := HAc.out
          rw [hX] at hAX
          have HAX := Lib.hid hAX
          obtain ⟨r, hr⟩ : ∃ r, R.length = r := ⟨_, rfl⟩
          obtain ⟨q, hqq⟩ : ∃ q, (allR X).length = q := ⟨_, rfl⟩
          rw [hr, hqq] at hle
          have hqr : q + r ≤ 1048576 := by omega
          rw [hr] at cc
          have HTS := Lib.hid hts
          have HRO := Lib.hid hrow.1
          have HRL := Lib.hid hr
          have HQ := Lib.hid hqq
          clear hrow hKk hts hle hNL hX hx hr hqq hAX HAc
          go_wp2_with fail
          go_loopw [10, 43] (fun _ i w4 => ∃ (j : Nat) (v1' : Value), j ≤ r ∧ i = .int .i64 j ∧ Ar B gf w4 v0 v1' v2 S n (q + j) k (recsC L) (ru2s (allR X ++ R.take j)) (u32s (endsR X))) (fun _ i _ => r - (RowKit.intOf i).toNat)
          case atStart => exact ⟨0, v1, Nat.zero_le _, rfl, by have h := HAX.out; rw [HQ.out] at h; simpa using h⟩
          clear HAX v1 cc
          case round =>
            obtain ⟨j, v1, hj, rfl, hA⟩ := hrel
            have HAc := Lib.hid hA
            clear hA
            by_cases hjlt : j < r
            · have hjl : j < R.length := by rw [HRL.out]; exact hjlt
              obtain ⟨bl, offl, rfl, hbl, e0, e1⟩ := (HRO.out.below HAc.out.below).get j hjl
              have htk := Plain.take_snoc R j R[j] (List.getElem?_eq_getElem hjl)
              obtain ⟨⟨lo, hi⟩, hx⟩ : ∃ x, R[j] = x := ⟨_, rfl⟩
              rw [hx] at e0 e1 htk
              dsimp only at e0 e1
              have hst : ru2s (allR X ++ R.take (j + 1)) = ru2s (allR X ++ R.take j) ++ [.int .u32 (lo % 4294967296), .int .u32 (hi % 4294967296)] := by
                rw [htk, ← List.append_assoc, ru2s_snoc]; rfl
              have HST := Lib.hid hst
              clear hst hx htk
              go_upto_region 15 with fail
              obtain ⟨wt, hwt⟩ : ∃ W0, wr.alloc (.cells #[.int .i32 lo, .int .i32 hi] 86) = W0 := ⟨_, rfl⟩
              have hbt : Below wr.heap.size wr wt := by rw [← hwt]; exact (Below.refl _ _).alloc (Nat.le_refl _) _
              have hTt : wt.heap[wr.heap.size]? = some (.cells #[.int .i32 lo, .int .i32 hi] 86 (0, 0)) := by rw [← hwt]; exact heap_alloc_new2 _ _ _ _ rfl
              rw [hwt]
              obtain ⟨gt, hgt⟩ : ∃ x, wr.heap.size = x := ⟨_, rfl⟩
              rw [hgt] at hTt ⊢
              have HAt := Lib.hid (HAc.out.kept hbt)
              obtain ⟨t0, t1⟩ : wt.cell? ⟨gt, 0, none⟩ = some (.int .i32 lo) ∧ wt.cell? ⟨gt, 1, none⟩ = some (.int .i32 hi) := ⟨by rw [cell_of_row _ _ _ _ _ _ hTt]; rfl, by rw [cell_of_row _ _ _ _ _ _ hTt]; rfl⟩
              obtain ⟨d0, d1, d2, d3⟩ := HAt.out.cell
              clear hwt hbt hTt e0 e1 hgt HAc
              go_wp2_with (at_builtin; refine wpList_append_own2 _ rfl (.tmp 48) (.tmp 56) _ rfl B.heap.size 80 i80 _ 2 8 Try.underlying39 hi80 z0 z1 z2 rfl (by decide) v1 (q + j) (ru2s (allR X ++ R.take j)) rfl (HAt.out.o1.alloc _) ⟨wt.heap.size, 0, none⟩ 1 1 [.int .u32 (lo % 4294967296), .int .u32 (hi % 4294967296)] rfl rfl ?c1 ?c2 ?c3 ?c4 ?c5 ?_)
              case c1 => exact CellsAt_add (CellsAt.new wt _ _)
              case c2 => intro u hu; simp only [List.mem_cons, List.not_mem_nil, or_false] at hu; rcases hu with rfl | rfl <;> rfl
              case c3 => simp only [maxLen]; omega
              case c4 => omega
              case c5 => have := HAt.out.below.size; simp; omega
              intro v2' w5 hown hgr hvb
              have hAk := HAt.out.kept (below_alloc (Below.refl wt.heap.size wt) (.cells #[.int .u32 (lo % 4294967296), .int .u32 (hi % 4294967296)] 80))
              have hA5 := hAk.push1 hown hgr (by simpa using hvb)
              have hx5 := blk_gr hAk.blk hgr hAk.n1
              obtain ⟨a5, cp5, rfl⟩ := own_slice hown
              obtain ⟨s0, s1, s2, s3⟩ := blk_cells4 hx5
              have f1 := blk_frozen hx5 1
              have HA5 := Lib.hid hA5
              clear hA5 hAk hx5 hown hgr hvb d0 d1 d2 d3 t0 t1
              go_wp2
              go_roundw
              case rel => exact ⟨j + 1, _, by omega, by go_num, by rw [HST.out]; exact HA5.out⟩
              case measure => simp [RowKit.intOf]; omega
            · obtain rfl : r = j := by omega
              have hRt : R.take r = R := List.take_of_length_le (by rw [HRL.out]; exact Nat.le_refl _)
              have hA := HAc.out
              rw [hRt, ← allR_snoc, ← HTS.out] at hA
              have hq2 : (allR ((K.map Cs.R).take (k + 1))).length = q + r := by rw [HTS.out, allR_snoc, List.length_append, HQ.out, HRL.out]
              have hst : u32s (endsR ((K.map Cs.R).take (k + 1))) = u32s (endsR X) ++ [.int .u32 ((q + r : Nat) : Int)] := by
                rw [HTS.out, endsR_snoc, u32s_snoc, ← HTS.out, hq2]
              have HAq := Lib.hid hA
              have HST := Lib.hid hst
              have HQ2 := Lib.hid hq2
              obtain ⟨d0, d1, d2, d3⟩ := hA.cell
              have hwq : (((q + r : Nat) : Int)) % 4294967296 = ((q + r : Nat) : Int) := by omega
              obtain ⟨a1, cp1, rfl⟩ := own_slice hA.o1
              clear hA hst hq2 hRt HAc
              go_wp2_with (at_builtin; refine wpList_append_own2 _ rfl (.tmp 61) (.tmp 66) _ rfl B.heap.size 41 i41 _ 1 4 Try.underlying40 hi41 u0 u1 u2 rfl (by decide) v2 k (u32s (endsR X)) rfl (HAq.out.o2.alloc _) ⟨wr.heap.size, 0, none⟩ 1 1 [.int .u32 ((q + r : Nat) : Int)] rfl rfl ?c1 ?c2 ?c3 ?c4 ?c5 ?_)
              case c1 => exact CellsAt_add (CellsAt.new wr _ _)
              case c2 => intro u hu; simp only [List.mem_cons, List.not_mem_nil, or_false] at hu; subst hu; rfl
              case c3 => simp only [maxLen]; omega
              case c4 => omega
              case c5 => have := HAq.out.below.size; simp; omega
              intro v3' w5 hown hgr hvb
              have hAk := HAq.out.kept (below_alloc (Below.refl wr.heap.size wr) (.cells #[.int .u32 ((q + r : Nat) : Int)] 41))
              have hA5 := hAk.push2 hown hgr (by simpa using hvb)
              have hx5 := blk_gr hAk.blk hgr hAk.n2
              obtain ⟨a5, cp5, rfl⟩ := own_slice hown
              obtain ⟨s0, s1, s2, s3⟩ := blk_cells4 hx5
              have f2 := blk_frozen hx5 2
              have HA5 := Lib.hid hA5
              clear hA5 hAk hx5 hown hgr hvb d0 d1 d2 d3
              go_wp2
              go_roundw
              case rel => exact ⟨k + 1, _, _, by omega, by go_num, by rw [HST.out, HQ2.out]; exact HA5.out⟩
              case measure => simp [RowKit.intOf]; omega
        · obtain rfl : m = k := by omega
          have hKt : (K.map Cs.R).take m = K.map Cs.R := List.take_of_length_le (by rw [List.length_map, HM.out]; exact Nat.le_refl _)
          have hA := HAc.out
          rw [hKt] at hA
          obtain ⟨d0, d1, d2, d3⟩ := hA.cell
          have f0 := blk_frozen hA.blk 0
          obtain ⟨a0, n0, rfl⟩ := own_slice hA.o0
          obtain ⟨a1, n1, rfl⟩ := own_slice hA.o1
          obtain ⟨a2, n2, rfl⟩ := own_slice hA.o2
          have HA9 := Lib.hid hA
          clear hA hKt HAc
          go_upto_region 19 with fail
          obtain ⟨r0, r1, r2, r3⟩ := blk_cells4 (blk_later HC1.out HA9.out.below)
          have f1 := blk_frozen (blk_later HC1.out HA9.out.below) 0
          have f2 := blk_frozen (blk_later HC1.out HA9.out.below) 1
          have f3 := blk_frozen (blk_later HC1.out HA9.out.below) 2
          have f4 := blk_frozen (blk_later HC1.out HA9.out.below) 3
          obtain ⟨q, hq⟩ : ∃ q, (allR (K.map Cs.R)).length = q := ⟨_, rfl⟩
          rw [hq] at d1 HA9
          go_wp2
          rw [hq]
          have hW : ((((wr.setCell ⟨w.heap.size + 1, 0, none⟩ (.slice a0 n n0)).setCell ⟨w.heap.size + 1, 1, none⟩ (.slice a1 q n1)).setCell ⟨w.heap.size + 1, 2, none⟩ (.slice a2 m n2)).setCell ⟨w.heap.size + 1, 3, none⟩ (.int .u32 S)).heap[w.heap.size + 1]? = some (.cells #[.slice a0 n n0, .slice a1 q n1, .slice a2 m n2, .int .u32 S] 43 (0, 0)) :=
            heap_setCell_same _ _ 3 _ _ _ (heap_setCell_same _ _ 2 _ _ _ (heap_setCell_same _ _ 1 _ _ _ (heap_setCell_same _ _ 0 _ _ _ (blk_later HC1.out HA9.out.below))))
          obtain ⟨m0, m1, m2, m3⟩ := blk_cells4 hW
          have ne : ∀ {v : Value} {e : TypeId} {sz nn : Nat} {xs : List Value}, wr.ownsRow B.heap.size e sz v nn xs → v.ownBlock ≠ some (w.heap.size + 1) := fun h e => by have := (h.lt _ e).1; have := HSB.out; omega
          have ke : ∀ {v : Value} {e : TypeId} {sz nn : Nat} {xs : List Value}, wr.ownsRow B.heap.size e sz v nn xs → ((((wr.setCell ⟨w.heap.size + 1, 0, none⟩ (.slice a0 n n0)).setCell ⟨w.heap.size + 1, 1, none⟩ (.slice a1 q n1)).setCell ⟨w.heap.size + 1, 2, none⟩ (.slice a2 m n2)).setCell ⟨w.heap.size + 1, 3, none⟩ (.int .u32 S)).ownsRow w.heap.size e sz v nn xs := fun h =>
            own_base (ownsRow_setCell_other (ownsRow_setCell_other (ownsRow_setCell_other (ownsRow_setCell_other h (ne h) _) (ne h) _) (ne h) _) (ne h) _) (by have := HSB.out; omega)
          have hle : w.heap.size ≤ B.heap.size := by have := HSB.out; omega
          have hBW : Below w.heap.size w wr := HB0.out.trans (HA9.out.below.mono hle)
          exact bodyPost_ret (v := .tuple #[.agg #[.slice a0 n n0, .slice a1 q n1, .slice a2 m n2, .int .u32 S], .int .i64 0]) (by simp [results, Try.results9, go_sem, m0, m1, m2, m3]) rfl ⟨_, _, _, _, _, _, rfl, ke HA9.out.o0, ke HA9.out.o1, ke HA9.out.o2, HA9.out.a01, HA9.out.a02, HA9.out.a12, (((hBW.setCell (Nat.le_succ _) _).setCell (Nat.le_succ _) _).setCell (Nat.le_succ _) _).setCell (Nat.le_succ _) _⟩
end Go.Proofs.Ytbbcdebjkedepaa
