/- The grid; a table laid out. Conditions: what each lemma says. -/
import Derived.Test.YtgppobaoclfgcaaGreatDoorTabE
import Derived.Deep.CutBlock
import Derived.Deep.DeepCutAuto
set_option linter.unusedVariables false
set_option linter.unusedSimpArgs false
namespace Go.Proofs.YtgppobaoclfgcaaGreatDoor
open Go.RowKit Go.Lib
end Go.Proofs.YtgppobaoclfgcaaGreatDoor
namespace Go.Proofs.YtgppobaoclfgcaaGreatDoor.Plain
/-- the table of a grid by its numbers -/
def lastG (X : Nat → Int) : Nat → Int
  | 0 => 96
  | k + 1 => lastG X k + 1 + X k % 3
def partsG (X : Nat → Int) (k : Nat) : List Int := 0 :: (List.range k).map fun i => lastG X (i + 1)
def cellG (Y : Nat → Int) (n m k : Nat) : Int := if k < n then Y k % (m : Int) else 0
def rowG (Y : Nat → Int) (n m p i j : Nat) : List Int := (List.range j).map fun x => cellG Y n m (i * p + x)
def rowsG (Y : Nat → Int) (n m p k : Nat) : List (List Int) := (List.range k).map fun i => rowG Y n m p i p
def accG (Z : Nat → Bool) (n k : Nat) : List Bool := (List.range k).map fun i => decide (i < n) && Z i
theorem lastG_bd (X : Nat → Int) (k : Nat) : 96 + (k : Int) ≤ lastG X k ∧ lastG X k ≤ 96 + 3 * (k : Int) := by
  induction k with
  | zero => simp [lastG]
  | succ k ih => rw [lastG]; omega
theorem partsG_succ (X : Nat → Int) (k : Nat) : partsG X (k + 1) = partsG X k ++ [lastG X (k + 1)] := by
  unfold partsG; rw [List.range_succ, List.map_append, List.map_singleton, List.cons_append]
theorem partsG_len (X : Nat → Int) (k : Nat) : (partsG X k).length = k + 1 := by simp [partsG]
theorem partsG_get (X : Nat → Int) (k j : Nat) (h : j < k) : (partsG X k).getD (j + 1) 0 = lastG X (j + 1) := by
  unfold partsG
  rw [List.getD_cons_succ, List.getD, List.getElem?_map, List.getElem?_range h]; rfl
theorem rowG_succ (Y : Nat → Int) (n m p i j : Nat) : rowG Y n m p i (j + 1) = rowG Y n m p i j ++ [cellG Y n m (i * p + j)] := by
  unfold rowG; rw [List.range_succ, List.map_append, List.map_singleton]
theorem rowG_len (Y : Nat → Int) (n m p i j : Nat) : (rowG Y n m p i j).length = j := by simp [rowG]
theorem rowsG_succ (Y : Nat → Int) (n m p k : Nat) : rowsG Y n m p (k + 1) = rowsG Y n m p k ++ [rowG Y n m p k p] := by
  unfold rowsG; rw [List.range_succ, List.map_append, List.map_singleton]
theorem rowsG_len (Y : Nat → Int) (n m p k : Nat) : (rowsG Y n m p k).length = k := by simp [rowsG]
theorem accG_succ (Z : Nat → Bool) (n k : Nat) : accG Z n (k + 1) = accG Z n k ++ [decide (k < n) && Z k] := by
  unfold accG; rw [List.range_succ, List.map_append, List.map_singleton]
theorem accG_len (Z : Nat → Bool) (n k : Nat) : (accG Z n k).length = k := by simp [accG]
theorem cellG_bd (Y : Nat → Int) (n m k : Nat) (hm : 0 < m) : 0 ≤ cellG Y n m k ∧ cellG Y n m k < m := by
  unfold cellG
  split
  · exact ⟨Int.emod_nonneg _ (by omega), Int.emod_lt_of_pos _ (by omega)⟩
  · omega
theorem grid_right (X Y : Nat → Int) (Z : Nat → Bool) (k n m a : Nat) (hk : k ≤ 4) (hm : 0 < m) (hm6 : m ≤ 6) : tabRight (partsG X k) (rowsG Y n m (k + 1) m) (accG Z a m).length = true := by
  unfold tabRight
  rw [rowsG_len, accG_len, partsG_len]
  have hp : partsRight (partsG X k) = true := by
    unfold partsRight
    rw [partsG_len, Nat.add_sub_cancel]
    simp only [Bool.and_eq_true, List.all_eq_true, List.mem_range, decide_eq_true_eq, Bool.not_eq_true', beq_eq_false_iff_ne, beq_iff_eq]
    refine ⟨⟨⟨⟨by omega, by omega⟩, rfl⟩, ?_⟩, fun j hj => ?_⟩
    · cases k with
      | zero => show (0 : Int) ≤ _; omega
      | succ k => rw [partsG_get X (k + 1) k (by omega)]; have := lastG_bd X (k + 1); omega
    · rw [partsG_get X k j hj]
      cases j with
      | zero => have := lastG_bd X 1; show (0 : Int) < lastG X 1; omega
      | succ j => rw [partsG_get X k j (by omega)]; have : lastG X (j + 1 + 1) = lastG X (j + 1) + 1 + X (j + 1) % 3 := rfl; omega
  rw [hp]
  simp only [BEq.rfl, Bool.true_and, Bool.and_eq_true, decide_eq_true_eq, Bool.not_eq_true', List.any_eq_false]
  refine ⟨⟨hm, by omega⟩, fun r hr => ?_⟩
  unfold rowsG at hr
  obtain ⟨i, _, rfl⟩ := List.mem_map.1 hr
  unfold rowWrong
  rw [rowG_len]
  simp only [BEq.rfl, Bool.not_true, Bool.false_or, Bool.not_eq_true, List.any_eq_false, Bool.or_eq_true, decide_eq_true_eq, not_or]
  intro x hx
  unfold rowG at hx
  obtain ⟨j, _, rfl⟩ := List.mem_map.1 hx
  have := cellG_bd Y n m (i * (k + 1) + j) hm
  omega
end Go.Proofs.YtgppobaoclfgcaaGreatDoor.Plain
namespace Go
section
variable {P : Program} {ops : Array Oper} {Q : Exit → Act → World → Prop} {md : Region.Mode} {S : World → Prop} {n : Nat}
end
end Go
namespace Go.Proofs.YtgppobaoclfgcaaGreatDoor
open Go.RowKit Go.Lib
theorem Acc.init1 {B w : World} {fb g : Nat} {t e0 e1 e2 : TypeId} {x : Value} (hb : w.heap[fb]? = some (.cells #[.slice (some ⟨g, 0, none⟩) 1 1, .slice none 0 0, .slice none 0 0] t (0, 0))) (hg : w.heap[g]? = some (.cells #[x] e0 (0, 0))) (hB : Below B.heap.size B w) (hf : B.heap.size ≤ fb) (hgb : B.heap.size ≤ g) (hne : g ≠ fb) :
    Acc B fb t e0 e1 e2 w (.slice (some ⟨g, 0, none⟩) 1 1) (.slice none 0 0) (.slice none 0 0) [x] [] [] :=
  ⟨hb, own_one hg hgb, World.ownsRow_nil _ _ _ _, World.ownsRow_nil _ _ _ _, hB, hf, by simp [Value.ownBlock, hne], by simp [Value.ownBlock], by simp [Value.ownBlock], fun k h => by simp [Value.ownBlock], fun k h => by simp [Value.ownBlock], fun k h => by simp [Value.ownBlock] at h⟩
theorem OwnTab.base {base base' : Nat} {w : World} {PA NA AA : Option Addr} {P : List Int} {R : List Row} {C : List Bool} {pc nc ac : Nat} (h : OwnTab base w PA P pc NA R nc AA C ac) (hb : base' ≤ base) : OwnTab base' w PA P pc NA R nc AA C ac :=
  ⟨own_base h.o0 hb, own_base h.o1 hb, own_base h.o2 hb, fun r hr => own_base (h.rows r hr) hb⟩
theorem RowsOwn.below {B w : World} {fb : Nat} {R : List Row} {v1 v2 : Value} (h : RowsOwn B fb w R v1 v2) (o : Obj) : RowsOwn B fb (w.alloc o) R v1 v2 := h.kept ((Below.refl _ _).alloc (Nat.le_refl _) _)
/-- a row is put: to the second slice -/
theorem RowsOwn.push1 {B w w2 : World} {fb : Nat} {R : List Row} {v1 v2 v' : Value} {o : Obj} (h : RowsOwn B fb w R v1 v2) (hg : (w.alloc o).grownBy w2 v1.ownBlock) (hb : v'.ownBlock = v1.ownBlock ∨ v'.ownBlock = some (w.heap.size + 1)) : RowsOwn B fb (w2.setCell ⟨fb, 1, none⟩ v') R v' v2 := fun q hq => by
  obtain ⟨ho, hf, h1, h2⟩ := h q hq
  refine ⟨ownsRow_setCell_other (own_push ho hg h1.symm) hf _, hf, (h1.symm.push ho hb).symm, h2⟩
theorem RowsOwn.push2 {B w w2 : World} {fb : Nat} {R : List Row} {v1 v2 v' : Value} {o : Obj} (h : RowsOwn B fb w R v1 v2) (hg : (w.alloc o).grownBy w2 v2.ownBlock) (hb : v'.ownBlock = v2.ownBlock ∨ v'.ownBlock = some (w.heap.size + 1)) : RowsOwn B fb (w2.setCell ⟨fb, 2, none⟩ v') R v1 v' := fun q hq => by
  obtain ⟨ho, hf, h1, h2⟩ := h q hq
  refine ⟨ownsRow_setCell_other (own_push ho hg h2.symm) hf _, hf, h1, (h2.symm.push ho hb).symm⟩
theorem RowsOwn.snoc {B w : World} {fb : Nat} {R : List Row} {v1 v2 : Value} {r : Row} (h : RowsOwn B fb w R v1 v2) (hr : w.ownsRow B.heap.size 3 1 (rowV r) r.2.2.length (i64s r.2.2) ∧ (rowV r).ownBlock ≠ some fb ∧ apart (rowV r) v1 ∧ apart (rowV r) v2) : RowsOwn B fb w (R ++ [r]) v1 v2 := fun q hq => by
  rcases List.mem_append.1 hq with h' | h'
  · exact h q h'
  · obtain rfl : q = r := by simpa using h'
    exact hr
end Go.Proofs.YtgppobaoclfgcaaGreatDoor
namespace Go.Proofs.YtgppobaoclfgcaaGreatDoor
open Go.RowKit Go.Lib
/-- a grid's three rows of numbers in memory -/
structure GridAt (w : World) (PA : Option Addr) (PL : List Int) (NA : Option Addr) (NL : List Int) (AA : Option Addr) (AL : List Bool) : Prop where
  p : Sl w PA (u8s PL)
  n : Sl w NA (u8s NL)
  a : Sl w AA (AL.map Value.bool)
  hp : PL.length ≤ maxLen
  hn : NL.length ≤ maxLen
  ha : AL.length ≤ maxLen
  bp : ∀ k, k < PL.length → 0 ≤ PL.getD k 0 ∧ PL.getD k 0 < 256
  bn : ∀ k, k < NL.length → 0 ≤ NL.getD k 0 ∧ NL.getD k 0 < 256
theorem GridAt.below {w w' : World} {PA NA AA : Option Addr} {PL NL : List Int} {AL : List Bool} (h : GridAt w PA PL NA NL AA AL) (hb : Below w.heap.size w w') : GridAt w' PA PL NA NL AA AL :=
  ⟨h.p.below hb, h.n.below hb, h.a.below hb, h.hp, h.hn, h.ha, h.bp, h.bn⟩
/-- what grid hands back of an own one -/
def GridRes (PL NL : List Int) (AL : List Bool) (w : World) (e : Ending) (w' : World) : Prop :=
  ∃ a0 n0 a1 R n1 a2 n2, e = .returned (tabV a0 (Plain.partsG (fun i => PL.getD i 0) (min PL.length 4)) n0 a1 R n1 a2 (Plain.accG (fun i => AL.getD i false) AL.length (1 + min AL.length 5)) n2) ∧
    nums R = Plain.rowsG (fun i => NL.getD i 0) NL.length (1 + min AL.length 5) (min PL.length 4 + 1) (1 + min AL.length 5) ∧
    OwnTab w.heap.size w' a0 (Plain.partsG (fun i => PL.getD i 0) (min PL.length 4)) n0 a1 R n1 a2 (Plain.accG (fun i => AL.getD i false) AL.length (1 + min AL.length 5)) n2 ∧ Below w.heap.size w w'
set_option maxRecDepth 1000000 in
set_option maxHeartbeats 8000000 in
theorem grid_own (TP : Option Addr) (tp tpc : Nat) (TN : Option Addr) (tn tnc : Nat) (TA : Option Addr) (ta tac : Nat) (PA : Option Addr) (PL : List Int) (pc : Nat) (NA : Option Addr) (NL : List Int) (nc : Nat) (AA : Option Addr) (AL : List Bool) (ac : Nat) (w : World) (hG : GridAt w PA PL NA NL AA AL) :
    Calls Tryz.prog 5 #[.agg #[.slice TP tp tpc, .slice TN tn tnc, .slice TA ta tac, .bool true, .slice PA PL.length pc, .slice NA NL.length nc, .slice AA AL.length ac]] w (GridRes PL NL AL w) := by
  unfold GridRes
  obtain ⟨X, hX⟩ : ∃ X : Nat → Int, (fun i => PL.getD i 0) = X := ⟨_, rfl⟩
  obtain ⟨Y, hY⟩ : ∃ X : Nat → Int, (fun i => NL.getD i 0) = X := ⟨_, rfl⟩
  obtain ⟨Z, hZ⟩ : ∃ X : Nat → Bool, (fun i => AL.getD i false) = X := ⟨_, rfl⟩
  obtain ⟨np, hnp⟩ : ∃ n, PL.length = n := ⟨_, rfl⟩
  obtain ⟨nn, hnn⟩ : ∃ n, NL.length = n := ⟨_, rfl⟩
  obtain ⟨na, hna⟩ : ∃ n, AL.length = n := ⟨_, rfl⟩
  have hgX : ∀ w', Below w.heap.size w w' → ∀ k, k < np → ∃ b off, PA = some ⟨b, off, none⟩ ∧ w'.cell? ⟨b, off + k, none⟩ = some (.int .u8 (X k)) ∧ 0 ≤ X k ∧ X k < 256 := fun w' hb k hk => by
    obtain ⟨b, off, e, _, hc⟩ := ((hG.below hb).p).get k (by omega)
    exact ⟨b, off, e, by rw [← hX]; exact hc, by rw [← hX]; exact hG.bp k (by omega)⟩
  have hgY : ∀ w', Below w.heap.size w w' → ∀ k, k < nn → ∃ b off, NA = some ⟨b, off, none⟩ ∧ w'.cell? ⟨b, off + k, none⟩ = some (.int .u8 (Y k)) ∧ 0 ≤ Y k ∧ Y k < 256 := fun w' hb k hk => by
    obtain ⟨b, off, e, _, hc⟩ := ((hG.below hb).n).get k (by omega)
    exact ⟨b, off, e, by rw [← hY]; exact hc, by rw [← hY]; exact hG.bn k (by omega)⟩
  have hgZ : ∀ w', Below w.heap.size w w' → ∀ k, k < na → ∃ b off, AA = some ⟨b, off, none⟩ ∧ b < w.heap.size ∧ w'.cell? ⟨b, off + k, none⟩ = some (.bool (Z k)) := fun w' hb k hk => by
    obtain ⟨b, off, e, hbl, hc⟩ := hG.a (by rw [List.length_map]; omega)
    exact ⟨b, off, e, hbl, (hb.cell (p := ⟨b, off + k, none⟩) hbl).trans (by rw [← hZ]; exact hc k _ (by rw [List.getElem?_map, List.getElem?_eq_getElem (by omega)]; simp [List.getD, List.getElem?_eq_getElem (show k < AL.length by omega)]))⟩
  have lp := hG.hp
  have ln := hG.hn
  have la := hG.ha
  rw [hnp] at lp ⊢
  rw [hnn] at ln ⊢
  rw [hna] at la ⊢
  rw [hX, hY, hZ]
  unfold maxLen at lp ln la
  have HX := Lib.hid hgX
  have HY := Lib.hid hgY
  have HZ := Lib.hid hgZ
  clear hgX hgY hgZ hG hX hY hZ hnp hnn hna
  obtain ⟨K, hK⟩ : ∃ K, min np 4 = K := ⟨_, rfl⟩
  obtain ⟨m, hm⟩ : ∃ m, 1 + min na 5 = m := ⟨_, rfl⟩
  have hK4 : K ≤ 4 := by omega
  have hKn : K ≤ np := by omega
  have hKe : K = np ∨ K = 4 := by omega
  have hm1 : 0 < m := by omega
  have hm6 : m ≤ 6 := by omega
  have hma : min (na : Int) 5 = (m : Int) - 1 := by omega
  rw [hK, hm]
  have HM := Lib.hid hma
  clear hK hm hma
  go_enter Tryz.func5, Tryz.ntmps5
  go_upto_block 0 with fail
  generalize hBe : (w.alloc (.cells #[.slice TP tp tpc, .slice TN tn tnc, .slice TA ta tac, .bool true, .slice PA np pc, .slice NA nn nc, .slice AA na ac] 30)).alloc (.cells #[.slice none 0 0, .slice none 0 0, .slice none 0 0] 27) = B
  have hB0 : Below w.heap.size w B := by rw [← hBe]; exact ((Below.refl _ _).alloc (Nat.le_refl _) _).alloc (by simp) _
  have hsB : B.heap.size = w.heap.size + 2 := by rw [← hBe]; simp
  have hC0 : CellsAt B w.heap.size [.slice TP tp tpc, .slice TN tn tnc, .slice TA ta tac, .bool true, .slice PA np pc, .slice NA nn nc, .slice AA na ac] := by rw [← hBe]; exact (CellsAt.new w _ _).alloc _
  have hRB : B.heap[w.heap.size + 1]? = some (.cells #[.slice none 0 0, .slice none 0 0, .slice none 0 0] 27 (0, 0)) := by rw [← hBe]; exact heap_alloc_new2 _ _ _ _ (by simp)
  have hI : Acc B (w.heap.size + 3) 27 21 58 4 ((B.alloc (.cells #[.int .i32 0] 21)).alloc (.cells #[.slice (some ⟨w.heap.size + 2, 0, none⟩) 1 1, .slice none 0 0, .slice none 0 0] 27)) (.slice (some ⟨w.heap.size + 2, 0, none⟩) 1 1) (.slice none 0 0) (.slice none 0 0) [.int .i32 0] [] [] :=
    Acc.init1 (heap_alloc_new2 _ _ _ _ (by simp [hsB])) (by rw [Below.heap_alloc _ _ _ (by simp [hsB]), ← hsB]; exact heap_alloc_new _ _) (((Below.refl _ _).alloc (Nat.le_refl _) _).alloc (by simp) _) (by omega) (by omega) (by omega)
  have HI := Lib.hid hI
  have HB0 := Lib.hid hB0
  have HSB := Lib.hid hsB
  have HC0 := Lib.hid hC0
  have HRB := Lib.hid hRB
  clear hI hB0 hsB hC0 hRB hBe
  obtain ⟨i0, hi, hz0, hz1, hz2⟩ := info_parts info21
  go_cut [] (fun wx => ∃ v0 : Value, Acc B (w.heap.size + 3) 27 21 58 4 wx v0 (.slice none 0 0) (.slice none 0 0) (i32s (Plain.partsG X K)) [] [])
  case first =>
   go_wp2_with fail
   go_loopw [4, 5] (fun l i wr => ∃ (k : Nat) (v0 : Value), k ≤ K ∧ i = .int .i64 k ∧ l = .int .i32 (Plain.lastG X k) ∧ Acc B (w.heap.size + 3) 27 21 58 4 wr v0 (.slice none 0 0) (.slice none 0 0) (i32s (Plain.partsG X k)) [] []) (fun _ i _ => K - (RowKit.intOf i).toNat)
   case atStart => exact ⟨0, _, Nat.zero_le _, rfl, rfl, HI.out⟩
   clear HI
   case round =>
    obtain ⟨k, v0, hk, rfl, rfl, hA⟩ := hrel
    have hbw := HB0.out.trans (hA.below.mono (by rw [HSB.out]; omega))
    have q4 := (HC0.out.below hA.below).at_ 4 _ rfl
    have HAc := Lib.hid hA
    have HBW := Lib.hid hbw
    clear hA hbw
    obtain ⟨lb0, lb1⟩ := Plain.lastG_bd X k
    by_cases hlt : k < K
    · obtain ⟨pb, po, rfl, hcx, x0, x1⟩ := HX.out wr HBW.out k (by omega)
      have hls : Plain.lastG X (k + 1) = Plain.lastG X k + 1 + X k % 3 := rfl
      have hst : i32s (Plain.partsG X (k + 1)) = i32s (Plain.partsG X k) ++ [.int .i32 (Plain.lastG X k + 1 + X k % 3)] := by rw [Plain.partsG_succ, i32s_snoc, hls]
      have hlen : (i32s (Plain.partsG X k)).length = k + 1 := by rw [i32s, List.length_map, Plain.partsG_len]
      have htm : Int.tmod (X k) 3 = X k % 3 := Int.tmod_eq_emod_of_nonneg x0
      have x3 : 0 ≤ X k % 3 ∧ X k % 3 < 3 := by omega
      obtain ⟨x30, x31⟩ := x3
      obtain ⟨d0, d1, d2⟩ := HAc.out.cell
      have hsz := HAc.out.lt
      obtain ⟨xs, hxs⟩ : ∃ xs, i32s (Plain.partsG X k) = xs := ⟨_, rfl⟩
      have hA := HAc.out
      rw [hxs] at hA hst hlen
      generalize Plain.lastG X k = l at *
      generalize hy3 : X k % 3 = y3 at *
      generalize X k = x at *
      have HST := Lib.hid hst
      have HLS := Lib.hid hls
      have HLN := Lib.hid hlen
      have HA2 := Lib.hid hA
      have HY3 := Lib.hid hy3
      clear hst hls hlen hA hxs HAc hy3
      go_wp2_with (at_builtin; refine wpList_append_own2 _ rfl (.tmp 40) (.tmp 42) _ rfl B.heap.size 21 i0 _ 1 4 Tryz.underlying23 hi hz0 hz1 hz2 rfl (by decide) v0 _ xs rfl (HA2.out.o0.alloc _) ⟨wr.heap.size, 0, none⟩ 1 1 [.int .i32 (l + 1 + y3)] rfl rfl ?c1 ?c2 ?c3 ?c4 ?c5 ?_)
      case c1 => exact CellsAt_add (CellsAt.new wr _ _)
      case c2 => intro u hu; simp only [List.mem_cons, List.not_mem_nil, or_false] at hu; subst hu; rfl
      case c3 => rw [HLN.out]; simp only [maxLen]; omega
      case c4 => rw [HLN.out]; omega
      case c5 => have := HA2.out.below.size; simp; omega
      intro v2 w2 hown2 hg2 hb2
      obtain ⟨a2, cp2, rfl⟩ := own_slice hown2
      obtain ⟨s0, s1, s2⟩ := blk_cells3 (blk_grown HA2.out.blk hg2 HA2.out.n0)
      have f0 := blk_frozen (blk_grown HA2.out.blk hg2 HA2.out.n0) 0
      have hN := HA2.out.push0 hown2 hg2 hb2
      have HN := Lib.hid hN
      clear hN hown2 hg2 hb2
      go_wp2
      go_roundw
      case rel => exact ⟨k + 1, _, by omega, by go_num, by rw [HLS.out], by rw [HST.out]; exact HN.out⟩
      case measure => simp [RowKit.intOf]; omega
    · obtain rfl : K = k := by omega
      by_cases h4 : 4 < np
      · go_wp2_with fail
        go_meet
        exact ⟨v0, HAc.out⟩
      · obtain rfl : K = np := by omega
        go_wp2_with fail
        go_meet
        exact ⟨v0, HAc.out⟩
  case rest =>
    obtain ⟨v0, hA⟩ := hcut
    have hbw := HB0.out.trans (hA.below.mono (by rw [HSB.out]; omega))
    have q6 := (HC0.out.below hA.below).at_ 6 _ rfl
    have hp1 : (i32s (Plain.partsG X K)).length = K + 1 := by rw [i32s, List.length_map, Plain.partsG_len]
    obtain ⟨xP, hxP⟩ : ∃ x, i32s (Plain.partsG X K) = x := ⟨_, rfl⟩
    rw [hxP] at hA hp1
    obtain ⟨p, hpe⟩ : ∃ p, K + 1 = p := ⟨_, rfl⟩
    rw [hpe] at hp1
    have hp0 : 0 < p := by omega
    have hp5 : p ≤ 5 := by omega
    have HXP := Lib.hid hxP
    have HA1 := Lib.hid hA
    have HP1 := Lib.hid hp1
    have HPE := Lib.hid hpe
    have hmin := HM.out
    clear hA hxP hp1 hpe HI hbw
    clear hmin
    have hmin := HM.out
    go_wp2_with fail
    rw [show (1 : Int) + ((m : Int) - 1) = m from by omega]
    obtain ⟨iR, hiR, hr0, hr1, hr2⟩ := info_parts info49
    obtain ⟨iB, hiB, hb0, hb1, hb2⟩ := info_parts info4
    obtain ⟨i1, hi1, hy0, hy1, hy2⟩ := info_parts info3
    go_loopw [7, 8, 9, 10, 58] (fun s7 s8 _ _ _ wr => ∃ (k : Nat) (v1 v2 : Value) (R : List Row), k ≤ m ∧ s8 = .int .i64 k ∧ s7 = .int .i64 ((k * p : Nat) : Int) ∧ nums R = Plain.rowsG Y nn m p k ∧
      Acc B (w.heap.size + 3) 27 21 58 4 wr v0 v1 v2 xP (R.map rowV) ((Plain.accG Z na k).map Value.bool) ∧ RowsOwn B (w.heap.size + 3) wr R v1 v2) (fun _ s8 _ _ _ _ => m - (RowKit.intOf s8).toNat)
    case atStart => exact ⟨0, _, _, [], Nat.zero_le _, rfl, by simp, rfl, HA1.out, fun r hr => absurd hr (by simp)⟩
    case round =>
      obtain ⟨k, v1, v2, R, hk, rfl, rfl, hR, hA, hRo⟩ := hrel
      by_cases hlt : k < m
      · have o0 := hA.o0
        rw [HP1.out] at o0
        obtain ⟨a0, c0, rfl⟩ := own_slice o0
        obtain ⟨d0, d1, d2⟩ := hA.cell
        have q5 := (HC0.out.below hA.below).at_ 5 _ rfl
        have HRn := Lib.hid hR
        have HAc := Lib.hid hA
        have HRo := Lib.hid hRo
        clear hR hA hRo o0
        obtain ⟨s, hs⟩ : ∃ s, k * p = s := ⟨_, rfl⟩
        have hs30 : s ≤ 30 := by rw [← hs]; exact Nat.le_trans (Nat.mul_le_mul (show k ≤ 6 by omega) hp5) (Nat.le_refl _)
        rw [hs]
        have HS := Lib.hid hs
        clear hs
        go_wp2_with fail
        obtain ⟨w3, rfl⟩ : ∃ w3, w3 = wr := ⟨_, rfl⟩
        go_loopw [7, 9, 10, 58] (fun s7 s9 _ s58 wr => ∃ (u : Value) (j : Nat), u = s9 ∧ j ≤ p ∧ s58 = .int .i64 j ∧ s7 = .int .i64 ((s + j : Nat) : Int) ∧ Below w3.heap.size w3 wr ∧ wr.ownsRow w3.heap.size 3 1 u j (i64s (Plain.rowG Y nn m p k j))) (fun _ _ _ s58 _ => p - (RowKit.intOf s58).toNat)
        case atStart => exact ⟨_, 0, rfl, Nat.zero_le _, rfl, rfl, Below.refl _ _, by simpa [i64s, Plain.rowG] using World.ownsRow_nil _ _ _ _⟩
        case round =>
          obtain ⟨u, j, rfl, hj, rfl, rfl, hB, hU⟩ := hrel
          have HB := Lib.hid hB
          have HU := Lib.hid hU
          clear hB hU
          by_cases hjlt : j < p
          · have b5 := (HB.out.cell (p := ⟨w.heap.size, 5, none⟩) (show w.heap.size < _ by have := HAc.out.lt; omega)).trans q5
            obtain ⟨t, ht⟩ : ∃ t, s + j = t := ⟨_, rfl⟩
            have hst : i64s (Plain.rowG Y nn m p k (j + 1)) = i64s (Plain.rowG Y nn m p k j) ++ [.int .i64 (Plain.cellG Y nn m t)] := by
              rw [Plain.rowG_succ, HS.out, ht]; simp [i64s]
            obtain ⟨xs, hxs⟩ : ∃ xs, i64s (Plain.rowG Y nn m p k j) = xs := ⟨_, rfl⟩
            have hU := HU.out
            rw [hxs] at hst hU
            have hxl : xs.length ≤ 8 := by have := hU.1; omega
            have ht35 : t ≤ 40 := by omega
            have htj : s + (j + 1) = t + 1 := by omega
            rw [ht]
            have HST := Lib.hid hst
            have HU2 := Lib.hid hU
            have HTJ := Lib.hid htj
            clear hst hU hxs HU ht htj
            have hsz := HB.out.size
            have fin : ∀ y : Int, Plain.cellG Y nn m t = y → True := fun _ _ => trivial
            by_cases htn : t < nn
            · have hbY := (HB0.out.trans (HAc.out.below.mono (by rw [HSB.out]; omega))).trans (HB.out.mono (by have := HAc.out.below.size; rw [HSB.out] at this; omega))
              obtain ⟨nb, no, rfl, hcx, x0, x1⟩ := HY.out wr hbY t htn
              have hcg : Plain.cellG Y nn m t = Y t % (m : Int) := by unfold Plain.cellG; rw [if_pos htn]
              have htm : Int.tmod (Y t) (m : Int) = Y t % (m : Int) := Int.tmod_eq_emod_of_nonneg x0
              have hx2 : 0 ≤ Y t % (m : Int) := Int.emod_nonneg _ (by omega)
              have hx3 : Y t % (m : Int) < m := Int.emod_lt_of_pos _ (by omega)
              generalize Y t % (m : Int) = y at *
              generalize Y t = x at *
              have HCG := Lib.hid hcg
              clear hcg hbY fin
              go_wp2_with (at_builtin; refine wpList_append_own2 _ rfl (.tmp 73) (.tmp 75) _ rfl w3.heap.size 3 i1 _ 1 8 Tryz.underlying58 hi1 hy0 hy1 hy2 rfl (by decide) u j xs rfl (HU2.out.alloc _) ⟨wr.heap.size, 0, none⟩ 1 1 [.int .i64 y] rfl rfl ?c1 ?c2 ?c3 ?c4 ?c5 ?_)
              case c1 => exact CellsAt_add (CellsAt.new wr _ _)
              case c2 => intro u hu; simp only [List.mem_cons, List.not_mem_nil, or_false] at hu; subst hu; rfl
              case c3 => simp only [maxLen]; omega
              case c4 => omega
              case c5 => simp; omega
              intro v3 w2 hown2 hg2 _
              have hBn : Below w3.heap.size w3 w2 := (HB.out.alloc HB.out.size _).grown hg2 (by simp; omega) (fun g hg => (HU2.out.lt g hg).1)
              have HBn := Lib.hid hBn
              have HO := Lib.hid hown2
              clear hBn hg2 hown2
              go_wp2
              go_roundw
              case rel => exact ⟨_, j + 1, rfl, by omega, by go_num, by rw [HTJ.out]; go_num, HBn.out, by rw [HST.out, HCG.out]; exact HO.out⟩
              case measure => simp [RowKit.intOf]; omega
            · have hcg : Plain.cellG Y nn m t = 0 := by unfold Plain.cellG; rw [if_neg htn]
              obtain ⟨y, hy⟩ : ∃ y : Int, y = 0 := ⟨0, rfl⟩
              have HCG := Lib.hid hcg
              clear hcg fin hy y
              go_wp2_with (at_builtin; refine wpList_append_own2 _ rfl (.tmp 73) (.tmp 75) _ rfl w3.heap.size 3 i1 _ 1 8 Tryz.underlying58 hi1 hy0 hy1 hy2 rfl (by decide) u j xs rfl (HU2.out.alloc _) ⟨wr.heap.size, 0, none⟩ 1 1 [.int .i64 0] rfl rfl ?c1 ?c2 ?c3 ?c4 ?c5 ?_)
              case c1 => exact CellsAt_add (CellsAt.new wr _ _)
              case c2 => intro u hu; simp only [List.mem_cons, List.not_mem_nil, or_false] at hu; subst hu; rfl
              case c3 => simp only [maxLen]; omega
              case c4 => omega
              case c5 => simp; omega
              intro v3 w2 hown2 hg2 _
              have hBn : Below w3.heap.size w3 w2 := (HB.out.alloc HB.out.size _).grown hg2 (by simp; omega) (fun g hg => (HU2.out.lt g hg).1)
              have HBn := Lib.hid hBn
              have HO := Lib.hid hown2
              clear hBn hg2 hown2
              go_wp2
              go_roundw
              case rel => exact ⟨_, j + 1, rfl, by omega, by go_num, by rw [HTJ.out]; go_num, HBn.out, by rw [HST.out, HCG.out]; exact HO.out⟩
              case measure => simp [RowKit.intOf]; omega
          · obtain rfl : p = j := by omega
            obtain ⟨L, hL⟩ : ∃ L, Plain.rowG Y nn m p k p = L := ⟨_, rfl⟩
            have hLl : L.length = p := by rw [← hL]; exact Plain.rowG_len _ _ _ _ _ _
            have hU := HU.out
            rw [hL] at hU
            obtain ⟨ua, uc, rfl⟩ := own_slice hU
            have hAk := HAc.out.kept HB.out
            have hRk := RowsOwn.kept HRo.out HB.out
            have hrv : rowV (ua, uc, L) = .slice ua p uc := by unfold rowV; dsimp only; rw [hLl]
            have hlt0 := HAc.out.lt
            have hRU : wr.ownsRow B.heap.size 3 1 (rowV (ua, uc, L)) L.length (i64s L) := by
              have h := own_base hU HAc.out.below.size
              unfold rowV; dsimp only; rw [hLl]; exact h
            have hUF : (rowV (ua, uc, L)).ownBlock ≠ some (w.heap.size + 3) := fun e => by
              have h := hU.lt _ (hrv ▸ e)
              omega
            have hU1 : apart (rowV (ua, uc, L)) v1 := fun g hg e => by
              have h := hU.lt _ (hrv ▸ hg)
              have := (HAc.out.o1.lt g e).2
              omega
            have hU2 : apart (rowV (ua, uc, L)) v2 := fun g hg e => by
              have h := hU.lt _ (hrv ▸ hg)
              have := (HAc.out.o2.lt g e).2
              omega
            have hRS := hRk.snoc ⟨hRU, hUF, hU1, hU2⟩
            have hnr : nums (R ++ [(ua, uc, L)]) = Plain.rowsG Y nn m p (k + 1) := by
              unfold nums
              rw [List.map_append, show R.map (fun r => r.2.2) = nums R from rfl, HRn.out, Plain.rowsG_succ, hL]; rfl
            have hx1n : (R ++ [(ua, uc, L)]).map rowV = R.map rowV ++ [.slice ua p uc] := by
              rw [List.map_append, List.map_singleton, hrv]
            have hx1l : (R.map rowV).length = k := by
              have := congrArg List.length HRn.out
              rw [Plain.rowsG_len] at this
              simpa [nums] using this
            have hx2n : (Plain.accG Z na (k + 1)).map Value.bool = (Plain.accG Z na k).map Value.bool ++ [.bool (decide (k < na) && Z k)] := by
              rw [Plain.accG_succ, List.map_append]; rfl
            have hx2l : ((Plain.accG Z na k).map Value.bool).length = k := by rw [List.length_map, Plain.accG_len]
            have hkp : s + p = (k + 1) * p := by rw [← HS.out, Nat.add_mul, Nat.one_mul]
            obtain ⟨x1, hx1⟩ : ∃ x, R.map rowV = x := ⟨_, rfl⟩
            obtain ⟨x2, hx2⟩ : ∃ x, (Plain.accG Z na k).map Value.bool = x := ⟨_, rfl⟩
            rw [hx1, hx2] at hAk
            rw [hx1] at hx1l hx1n
            rw [hx2] at hx2l hx2n
            obtain ⟨e0, e1, e2⟩ := hAk.cell
            have HA3 := Lib.hid hAk
            have HRS := Lib.hid hRS
            have HX1L := Lib.hid hx1l
            have HX2L := Lib.hid hx2l
            have HX1N := Lib.hid hx1n
            have HX2N := Lib.hid hx2n
            have HNR := Lib.hid hnr
            have HKP := Lib.hid hkp
            have hBw3 : w3.heap.size ≤ wr.heap.size := HB.out.size
            clear hL hLl hU hAk hRk hrv hRU hUF hU1 hU2 hRS hnr hx1n hx1l hx2n hx2l hkp hx1 hx2 HU d0 d1 d2 q5
            go_wp2_with (at_builtin; refine wpList_append_own2 _ rfl (.tmp 81) (.tmp 83) _ rfl B.heap.size 58 iR _ 1 24 Tryz.underlying24 hiR hr0 hr1 hr2 rfl (by decide) v1 _ x1 rfl (HA3.out.o1.alloc _) ⟨wr.heap.size, 0, none⟩ 1 1 [.slice ua p uc] rfl rfl ?c1 ?c2 ?c3 ?c4 ?c5 ?_)
            case c1 => exact CellsAt_add (CellsAt.new wr _ _)
            case c2 => intro u hu; simp only [List.mem_cons, List.not_mem_nil, or_false] at hu; subst hu; rfl
            case c3 => rw [HX1L.out]; simp only [maxLen]; omega
            case c4 => rw [HX1L.out]; omega
            case c5 => have := HA3.out.below.size; simp; omega
            intro v1' w5 hown2 hg2 hb2
            obtain ⟨a2, cp2, rfl⟩ := own_slice hown2
            obtain ⟨s0, s1, s2⟩ := blk_cells3 (blk_grown HA3.out.blk hg2 HA3.out.n1)
            have f1 := blk_frozen (blk_grown HA3.out.blk hg2 HA3.out.n1) 1
            have hN := HA3.out.push1 hown2 hg2 hb2
            have hRN := HRS.out.push1 hg2 hb2
            have HN := Lib.hid hN
            have HRN := Lib.hid hRN
            clear hN hRN hown2 hg2 hb2 e0 e1 e2
            go_upto_region 25 with fail
            generalize hw6 : w5.setCell ⟨w.heap.size + 3, 1, none⟩ _ = w6 at HN HRN ⊢
            clear hw6 s0 s1 s2 f1
            have d2 := HN.out.cell.2.2
            have q6' := (HC0.out.below HN.out.below).at_ 6 _ rfl
            have hbw6 := HB0.out.trans (HN.out.below.mono (by rw [HSB.out]; omega))
            have HBW6 := Lib.hid hbw6
            clear hbw6
            have HV2W := Lib.hid (show v2.ownBlock ≠ some w.heap.size from fun e => by have := (HN.out.o2.lt _ e).1; rw [HSB.out] at this; omega)
            by_cases hkn : k < na
            · obtain ⟨zb, zo, rfl, hzb, hzc⟩ := HZ.out w6 HBW6.out k hkn
              have hbz : zb < w6.heap.size := Nat.lt_of_lt_of_le hzb HBW6.out.size
              have HV2Z := Lib.hid (show v2.ownBlock ≠ some zb from fun e => by have := (HN.out.o2.lt _ e).1; rw [HSB.out] at this; omega)
              have hk0 : (0 : Int) ≤ (k : Int) := by omega
              have hk1 : (k : Int) < (na : Int) := by omega
              have hdk : decide ((k : Int) < (na : Int)) = true := by simp; omega
              have hdk2 : decide (k < na) = true := by simp [hkn]
              have hzd : (decide (k < na) && Z k) = Z k := by simp [hkn]
              have hS0 : (fun w' => w'.cell? ⟨w.heap.size + 3, 2, none⟩ = some v2 ∧ w'.cell? ⟨w.heap.size, 6, none⟩ = some (.slice (some ⟨zb, zo, none⟩) na ac) ∧ w'.cell? ⟨zb, zo + k, none⟩ = some (.bool (Z k))) w6.drew := ⟨d2, q6', hzc⟩
              have HS0 := Lib.hid hS0
              have HZD := Lib.hid hzd
              clear hS0 hzd
              refine wp_region_noPanic ?_
              refine wp_region_T 16 (S := fun w' => w'.cell? ⟨w.heap.size + 3, 2, none⟩ = some v2 ∧ w'.cell? ⟨w.heap.size, 6, none⟩ = some (.slice (some ⟨zb, zo, none⟩) na ac) ∧ w'.cell? ⟨zb, zo + k, none⟩ = some (.bool (Z k))) (by kernel_rfl) (by decide) ?_
              refine wpAnyT_take2 0 (v := ?tv101) (by kernel_rfl) rfl (by kernel_rfl) (fun _ _ _ h => h) (Or.inl ⟨by rfl, ?ty101⟩) HS0.out ?tr101
              case ty101 => (intro w' hSw; (try dsimp only at hSw); go_simp; try with_reducible rfl)
              try simp only [Act.put, List.setIfInBounds_toArray, List.set_cons_zero, List.set_cons_succ]
              refine wpAnyT_take2 1 (v := ?tv102) (by kernel_rfl) rfl (by kernel_rfl) (fun _ _ _ h => h) (Or.inl ⟨by rfl, ?ty102⟩) HS0.out ?tr102
              case ty102 => (intro w' hSw; (try dsimp only at hSw); go_simp; try with_reducible rfl)
              try simp only [Act.put, List.setIfInBounds_toArray, List.set_cons_zero, List.set_cons_succ]
              refine wpAnyT_take2 2 (v := ?tv103) (by kernel_rfl) rfl (by kernel_rfl) (fun _ _ _ h => h) (Or.inl ⟨by rfl, ?ty103⟩) HS0.out ?tr103
              case ty103 => (intro w' hSw; (try dsimp only at hSw); go_simp; try with_reducible rfl)
              try simp only [Act.put, List.setIfInBounds_toArray, List.set_cons_zero, List.set_cons_succ]
              refine wpAnyT_take2 3 (v := ?tv104) (by kernel_rfl) rfl (by kernel_rfl) (fun _ _ _ h => h) (Or.inl ⟨by rfl, ?ty104⟩) HS0.out ?tr104
              case ty104 => (intro w' hSw; (try dsimp only at hSw); go_simp; try with_reducible rfl)
              try simp only [Act.put, List.setIfInBounds_toArray, List.set_cons_zero, List.set_cons_succ]
              refine wpAnyT_take2 4 (v := ?tv105) (by kernel_rfl) rfl (by kernel_rfl) (fun _ _ _ h => h) (Or.inl ⟨by rfl, ?ty105⟩) HS0.out ?tr105
              case ty105 => (intro w' hSw; (try dsimp only at hSw); go_simp; try with_reducible rfl)
              try simp only [Act.put, List.setIfInBounds_toArray, List.set_cons_zero, List.set_cons_succ]
              refine wpAnyT_take2 5 (v := ?tv106) (by kernel_rfl) rfl (by kernel_rfl) (fun _ _ _ h => h) (Or.inl ⟨by rfl, ?ty106⟩) HS0.out ?tr106
              case ty106 => (intro w' hSw; (try dsimp only at hSw); go_simp; try with_reducible rfl)
              try simp only [Act.put, List.setIfInBounds_toArray, List.set_cons_zero, List.set_cons_succ]
              refine wpAnyT_take2 6 (v := ?tv107) (by kernel_rfl) rfl (by kernel_rfl) (fun _ _ _ h => h) (Or.inl ⟨by rfl, ?ty107⟩) HS0.out ?tr107
              case ty107 => (intro w' hSw; (try dsimp only at hSw); go_simp; try with_reducible rfl)
              try simp only [Act.put, List.setIfInBounds_toArray, List.set_cons_zero, List.set_cons_succ]
              refine wpAnyT_take2 7 (v := ?tv108) (by kernel_rfl) rfl (by kernel_rfl) (fun _ _ _ h => h) (Or.inl ⟨by rfl, ?ty108⟩) HS0.out ?tr108
              case ty108 => (intro w' hSw; (try dsimp only at hSw); go_simp; try with_reducible rfl)
              try simp only [Act.put, List.setIfInBounds_toArray, List.set_cons_zero, List.set_cons_succ]
              refine wpAnyT_take2 8 (v := ?tv109) (by kernel_rfl) rfl (by kernel_rfl) (fun _ _ _ h => h) (Or.inl ⟨by rfl, ?ty109⟩) HS0.out ?tr109
              case ty109 => (intro w' hSw; (try dsimp only at hSw); go_simp; try with_reducible rfl)
              try simp only [Act.put, List.setIfInBounds_toArray, List.set_cons_zero, List.set_cons_succ]
              refine wpAnyT_take2 9 (v := ?tv110) (by kernel_rfl) rfl (by kernel_rfl) (fun _ _ _ h => h) (Or.inl ⟨by rfl, ?ty110⟩) HS0.out ?tr110
              case ty110 => (intro w' hSw; (try dsimp only at hSw); go_simp; try with_reducible rfl)
              try simp only [Act.put, List.setIfInBounds_toArray, List.set_cons_zero, List.set_cons_succ]
              refine wpAnyT_take2 10 (v := ?tv111) (by kernel_rfl) rfl (by kernel_rfl) (fun _ _ _ h => h) (Or.inl ⟨by rfl, ?ty111⟩) HS0.out ?tr111
              case ty111 => (intro w' hSw; (try dsimp only at hSw); go_simp; try with_reducible rfl)
              try simp only [Act.put, List.setIfInBounds_toArray, List.set_cons_zero, List.set_cons_succ]
              refine wpAnyT_take2 11 (v := ?tv112) (by kernel_rfl) rfl (by kernel_rfl) (fun _ _ _ h => h) (Or.inl ⟨by rfl, ?ty112⟩) HS0.out ?tr112
              case ty112 => (intro w' hSw; (try dsimp only at hSw); go_simp; try with_reducible rfl)
              try simp only [Act.put, List.setIfInBounds_toArray, List.set_cons_zero, List.set_cons_succ]
              refine wpAnyT_take2 12 (v := ?tv113) (by kernel_rfl) rfl (by kernel_rfl) (fun _ _ _ h => h) (Or.inl ⟨by rfl, ?ty113⟩) HS0.out ?tr113
              case ty113 => (intro w' hSw; (try dsimp only at hSw); go_simp; try with_reducible rfl)
              try simp only [Act.put, List.setIfInBounds_toArray, List.set_cons_zero, List.set_cons_succ]
              refine wpAnyT_take2 13 (v := ?tv114) (by kernel_rfl) rfl (by kernel_rfl) (fun _ _ _ h => h) (Or.inl ⟨by rfl, ?ty114⟩) HS0.out ?tr114
              case ty114 => (intro w' hSw; (try dsimp only at hSw); go_simp; try with_reducible rfl)
              try simp only [Act.put, List.setIfInBounds_toArray, List.set_cons_zero, List.set_cons_succ]
              refine wpAnyT_one2 14 rfl (by kernel_rfl) ?_
              intro K' hK'
              have HK' := Lib.hid hK'
              clear hK'
              go_simp
              refine HK'.out _ _ ⟨⟨(Two.cell (by repeat (first | refine Two.drew ?_ | refine Two.alloc ?_ _ | exact Two.refl _ _ _) : Two w6 _ v2.ownBlock none) HN.out.lt HN.out.n2 (by simp) 2).trans HS0.out.1, (Two.cell (by repeat (first | refine Two.drew ?_ | refine Two.alloc ?_ _ | exact Two.refl _ _ _) : Two w6 _ v2.ownBlock none) (show w.heap.size < _ by have := HN.out.lt; omega) HV2W.out (by simp) 6).trans HS0.out.2.1, (Two.cell (by repeat (first | refine Two.drew ?_ | refine Two.alloc ?_ _ | exact Two.refl _ _ _) : Two w6 _ v2.ownBlock none) hbz HV2Z.out (by simp) (zo + k)).trans HS0.out.2.2⟩, ?_⟩
              clear HK' K'
              try simp only [Act.put, List.setIfInBounds_toArray, List.set_cons_zero, List.set_cons_succ]
              refine wpAnyT_one2 15 rfl (by kernel_rfl) ?_
              intro K' hK'
              have HK' := Lib.hid hK'
              clear hK'
              refine step_append_lies _ (by rfl) (.tmp 87) (.tmp 100) 25 (by rfl) B.heap.size 4 iB _ 1 1 Tryz.underlying25 hiB hb0 hb1 hb2 rfl (by decide) v2 k x2 (by rfl) ?o115 _ 1 1 [.bool (Z k)] (by rfl) rfl ?n115 ?c115 (by decide) ?m115 ?b115 ?s115 _ rfl ?_
              case o115 => exact Two.own (r1 := none) (r2 := none) (by repeat (first | refine Two.drew ?_ | refine Two.alloc ?_ _ | exact Two.refl _ _ _)) (HX2L.out ▸ HN.out.o2) (by simp) (by simp)
              case n115 => exact CellsAt_add (CellsAt.new w6 _ _)
              case c115 => (intro u hu; simp only [List.mem_cons, List.not_mem_nil, or_false] at hu; subst hu; rfl)
              case m115 => (simp only [maxLen]; omega)
              case b115 => omega
              case s115 => (have := HN.out.below.size; simp; omega)
              intro gb cpb wb ownb growb atb ltb
              refine HK'.out _ _ ⟨⟨(Two.cell ((by repeat (first | refine Two.drew ?_ | refine Two.alloc ?_ _ | exact Two.refl _ _ _) : Two w6 _ v2.ownBlock none).grown growb (fun k hk _ => .inl hk.symm)) HN.out.lt HN.out.n2 (by simp) 2).trans HS0.out.1, (Two.cell ((by repeat (first | refine Two.drew ?_ | refine Two.alloc ?_ _ | exact Two.refl _ _ _) : Two w6 _ v2.ownBlock none).grown growb (fun k hk _ => .inl hk.symm)) (show w.heap.size < _ by have := HN.out.lt; omega) HV2W.out (by simp) 6).trans HS0.out.2.1, (Two.cell ((by repeat (first | refine Two.drew ?_ | refine Two.alloc ?_ _ | exact Two.refl _ _ _) : Two w6 _ v2.ownBlock none).grown growb (fun k hk _ => .inl hk.symm)) hbz HV2Z.out (by simp) (zo + k)).trans HS0.out.2.2⟩, ?_⟩
              clear HK' K'
              try simp only [Act.put, List.setIfInBounds_toArray, List.set_cons_zero, List.set_cons_succ]
              have growc : (w6.alloc (.cells #[.bool (Z k)] 4)).grownBy wb v2.ownBlock := ⟨growb.os, growb.tape, growb.output, growb.size, growb.block⟩
              have hfin := HN.out.push2 ownb growc (by rcases atb with e | e; exact .inl (by rw [e]; rfl); exact .inr (by rw [e]; simp [Value.ownBlock]))
              have hfinR := HRN.out.push2 growc (v' := .slice (some ⟨gb, 0, none⟩) (k + 1) cpb) (by rcases atb with e | e; exact .inl (by rw [e]; rfl); exact .inr (by rw [e]; simp [Value.ownBlock]))
              obtain ⟨s0, s1, s2⟩ := blk_cells3 (blk_grown HN.out.blk growc HN.out.n2)
              have f2 := blk_frozen (blk_grown HN.out.blk growc HN.out.n2) 2
              have HFIN := Lib.hid hfin
              have HFINR := Lib.hid hfinR
              clear hfin hfinR growc growb ownb atb ltb
              refine ⟨by kernel_rfl, ?_⟩
              change wpList _ _ _ [_, _] _ _
              go_wp2
              refine NoPanic.normal ?_
              go_wp2
              go_roundw
              case rel => exact ⟨k + 1, _, _, R ++ [(ua, uc, L)], by omega, by go_num, by rw [← HKP.out]; go_num, HNR.out, by rw [HX1N.out, HX2N.out, HZD.out]; exact HFIN.out, HFINR.out⟩
              case measure => simp [RowKit.intOf]; omega
            · have hdk : decide ((k : Int) < (na : Int)) = false := by simp; omega
              have hdk2 : decide (k < na) = false := by simp [hkn]
              have hzd : (decide (k < na) && Z k) = false := by simp [hkn]
              have hS0 : (fun w' => w'.cell? ⟨w.heap.size + 3, 2, none⟩ = some v2 ∧ w'.cell? ⟨w.heap.size, 6, none⟩ = some (.slice AA na ac)) w6.drew := ⟨d2, q6'⟩
              have HS0 := Lib.hid hS0
              have HZD := Lib.hid hzd
              clear hS0 hzd
              refine wp_region_noPanic ?_
              refine wp_region_T 16 (S := fun w' => w'.cell? ⟨w.heap.size + 3, 2, none⟩ = some v2 ∧ w'.cell? ⟨w.heap.size, 6, none⟩ = some (.slice AA na ac)) (by kernel_rfl) (by decide) ?_
              refine wpAnyT_take2 0 (v := ?tv116) (by kernel_rfl) rfl (by kernel_rfl) (fun _ _ _ h => h) (Or.inl ⟨by rfl, ?ty116⟩) HS0.out ?tr116
              case ty116 => (intro w' hSw; (try dsimp only at hSw); go_simp; try with_reducible rfl)
              try simp only [Act.put, List.setIfInBounds_toArray, List.set_cons_zero, List.set_cons_succ]
              refine wpAnyT_take2 1 (v := ?tv117) (by kernel_rfl) rfl (by kernel_rfl) (fun _ _ _ h => h) (Or.inl ⟨by rfl, ?ty117⟩) HS0.out ?tr117
              case ty117 => (intro w' hSw; (try dsimp only at hSw); go_simp; try with_reducible rfl)
              try simp only [Act.put, List.setIfInBounds_toArray, List.set_cons_zero, List.set_cons_succ]
              refine wpAnyT_take2 2 (v := ?tv118) (by kernel_rfl) rfl (by kernel_rfl) (fun _ _ _ h => h) (Or.inl ⟨by rfl, ?ty118⟩) HS0.out ?tr118
              case ty118 => (intro w' hSw; (try dsimp only at hSw); go_simp; try with_reducible rfl)
              try simp only [Act.put, List.setIfInBounds_toArray, List.set_cons_zero, List.set_cons_succ]
              refine wpAnyT_take2 3 (v := ?tv119) (by kernel_rfl) rfl (by kernel_rfl) (fun _ _ _ h => h) (Or.inl ⟨by rfl, ?ty119⟩) HS0.out ?tr119
              case ty119 => (intro w' hSw; (try dsimp only at hSw); go_simp; try with_reducible rfl)
              try simp only [Act.put, List.setIfInBounds_toArray, List.set_cons_zero, List.set_cons_succ]
              refine wpAnyT_take2 4 (v := ?tv120) (by kernel_rfl) rfl (by kernel_rfl) (fun _ _ _ h => h) (Or.inl ⟨by rfl, ?ty120⟩) HS0.out ?tr120
              case ty120 => (intro w' hSw; (try dsimp only at hSw); go_simp; try with_reducible rfl)
              try simp only [Act.put, List.setIfInBounds_toArray, List.set_cons_zero, List.set_cons_succ]
              refine wpAnyT_take2 5 (v := ?tv121) (by kernel_rfl) rfl (by kernel_rfl) (fun _ _ _ h => h) (Or.inl ⟨by rfl, ?ty121⟩) HS0.out ?tr121
              case ty121 => (intro w' hSw; (try dsimp only at hSw); go_simp; try with_reducible rfl)
              try simp only [Act.put, List.setIfInBounds_toArray, List.set_cons_zero, List.set_cons_succ]
              refine wpAnyT_take2 6 (v := ?tv122) (by kernel_rfl) rfl (by kernel_rfl) (fun _ _ _ h => h) (Or.inl ⟨by rfl, ?ty122⟩) HS0.out ?tr122
              case ty122 => (intro w' hSw; (try dsimp only at hSw); go_simp; try with_reducible rfl)
              try simp only [Act.put, List.setIfInBounds_toArray, List.set_cons_zero, List.set_cons_succ]
              refine wpAnyT_take2 7 (v := ?tv123) (by kernel_rfl) rfl (by kernel_rfl) (fun _ _ _ h => h) (Or.inl ⟨by rfl, ?ty123⟩) HS0.out ?tr123
              case ty123 => (intro w' hSw; (try dsimp only at hSw); go_simp; try with_reducible rfl)
              try simp only [Act.put, List.setIfInBounds_toArray, List.set_cons_zero, List.set_cons_succ]
              refine wpAnyT_take2 8 (by kernel_rfl) rfl (by kernel_rfl) (fun _ _ _ h => h) (Or.inr ⟨by rfl, rfl⟩) HS0.out ?tr124
              try simp only [Act.put, List.setIfInBounds_toArray, List.set_cons_zero, List.set_cons_succ]
              refine wpAnyT_take2 9 (by kernel_rfl) rfl (by kernel_rfl) (fun _ _ _ h => h) (Or.inr ⟨by rfl, rfl⟩) HS0.out ?tr125
              try simp only [Act.put, List.setIfInBounds_toArray, List.set_cons_zero, List.set_cons_succ]
              refine wpAnyT_take2 10 (by kernel_rfl) rfl (by kernel_rfl) (fun _ _ _ h => h) (Or.inr ⟨by rfl, rfl⟩) HS0.out ?tr126
              try simp only [Act.put, List.setIfInBounds_toArray, List.set_cons_zero, List.set_cons_succ]
              refine wpAnyT_take2 11 (by kernel_rfl) rfl (by kernel_rfl) (fun _ _ _ h => h) (Or.inr ⟨by rfl, rfl⟩) HS0.out ?tr127
              try simp only [Act.put, List.setIfInBounds_toArray, List.set_cons_zero, List.set_cons_succ]
              refine wpAnyT_take2 12 (by kernel_rfl) rfl (by kernel_rfl) (fun _ _ _ h => h) (Or.inr ⟨by rfl, rfl⟩) HS0.out ?tr128
              try simp only [Act.put, List.setIfInBounds_toArray, List.set_cons_zero, List.set_cons_succ]
              refine wpAnyT_take2 13 (v := ?tv129) (by kernel_rfl) rfl (by kernel_rfl) (fun _ _ _ h => h) (Or.inl ⟨by rfl, ?ty129⟩) HS0.out ?tr129
              case ty129 => (intro w' hSw; (try dsimp only at hSw); go_simp; try with_reducible rfl)
              try simp only [Act.put, List.setIfInBounds_toArray, List.set_cons_zero, List.set_cons_succ]
              refine wpAnyT_one2 14 rfl (by kernel_rfl) ?_
              intro K' hK'
              have HK' := Lib.hid hK'
              clear hK'
              go_simp
              refine HK'.out _ _ ⟨⟨(Two.cell (by repeat (first | refine Two.drew ?_ | refine Two.alloc ?_ _ | exact Two.refl _ _ _) : Two w6 _ v2.ownBlock none) HN.out.lt HN.out.n2 (by simp) 2).trans HS0.out.1, (Two.cell (by repeat (first | refine Two.drew ?_ | refine Two.alloc ?_ _ | exact Two.refl _ _ _) : Two w6 _ v2.ownBlock none) (show w.heap.size < _ by have := HN.out.lt; omega) HV2W.out (by simp) 6).trans HS0.out.2⟩, ?_⟩
              clear HK' K'
              try simp only [Act.put, List.setIfInBounds_toArray, List.set_cons_zero, List.set_cons_succ]
              refine wpAnyT_one2 15 rfl (by kernel_rfl) ?_
              intro K' hK'
              have HK' := Lib.hid hK'
              clear hK'
              refine step_append_lies _ (by rfl) (.tmp 87) (.tmp 100) 25 (by rfl) B.heap.size 4 iB _ 1 1 Tryz.underlying25 hiB hb0 hb1 hb2 rfl (by decide) v2 k x2 (by rfl) ?o130 _ 1 1 [.bool (false)] (by rfl) rfl ?n130 ?c130 (by decide) ?m130 ?b130 ?s130 _ rfl ?_
              case o130 => exact Two.own (r1 := none) (r2 := none) (by repeat (first | refine Two.drew ?_ | refine Two.alloc ?_ _ | exact Two.refl _ _ _)) (HX2L.out ▸ HN.out.o2) (by simp) (by simp)
              case n130 => exact CellsAt_add (CellsAt.new w6 _ _)
              case c130 => (intro u hu; simp only [List.mem_cons, List.not_mem_nil, or_false] at hu; subst hu; rfl)
              case m130 => (simp only [maxLen]; omega)
              case b130 => omega
              case s130 => (have := HN.out.below.size; simp; omega)
              intro gb cpb wb ownb growb atb ltb
              refine HK'.out _ _ ⟨⟨(Two.cell ((by repeat (first | refine Two.drew ?_ | refine Two.alloc ?_ _ | exact Two.refl _ _ _) : Two w6 _ v2.ownBlock none).grown growb (fun k hk _ => .inl hk.symm)) HN.out.lt HN.out.n2 (by simp) 2).trans HS0.out.1, (Two.cell ((by repeat (first | refine Two.drew ?_ | refine Two.alloc ?_ _ | exact Two.refl _ _ _) : Two w6 _ v2.ownBlock none).grown growb (fun k hk _ => .inl hk.symm)) (show w.heap.size < _ by have := HN.out.lt; omega) HV2W.out (by simp) 6).trans HS0.out.2⟩, ?_⟩
              clear HK' K'
              try simp only [Act.put, List.setIfInBounds_toArray, List.set_cons_zero, List.set_cons_succ]
              have growc : (w6.alloc (.cells #[.bool (false)] 4)).grownBy wb v2.ownBlock := ⟨growb.os, growb.tape, growb.output, growb.size, growb.block⟩
              have hfin := HN.out.push2 ownb growc (by rcases atb with e | e; exact .inl (by rw [e]; rfl); exact .inr (by rw [e]; simp [Value.ownBlock]))
              have hfinR := HRN.out.push2 growc (v' := .slice (some ⟨gb, 0, none⟩) (k + 1) cpb) (by rcases atb with e | e; exact .inl (by rw [e]; rfl); exact .inr (by rw [e]; simp [Value.ownBlock]))
              obtain ⟨s0, s1, s2⟩ := blk_cells3 (blk_grown HN.out.blk growc HN.out.n2)
              have f2 := blk_frozen (blk_grown HN.out.blk growc HN.out.n2) 2
              have HFIN := Lib.hid hfin
              have HFINR := Lib.hid hfinR
              clear hfin hfinR growc growb ownb atb ltb
              refine ⟨by kernel_rfl, ?_⟩
              change wpList _ _ _ [_, _] _ _
              go_wp2
              refine NoPanic.normal ?_
              go_wp2
              go_roundw
              case rel => exact ⟨k + 1, _, _, R ++ [(ua, uc, L)], by omega, by go_num, by rw [← HKP.out]; go_num, HNR.out, by rw [HX1N.out, HX2N.out, HZD.out]; exact HFIN.out, HFINR.out⟩
              case measure => simp [RowKit.intOf]; omega
      · obtain rfl : m = k := by omega
        obtain ⟨P, hPP⟩ : ∃ P, Plain.partsG X K = P := ⟨_, rfl⟩
        obtain ⟨C, hC⟩ : ∃ C, Plain.accG Z na m = C := ⟨_, rfl⟩
        have hPl : P.length = p := by rw [← hPP, Plain.partsG_len, HPE.out]
        have hCl : C.length = m := by rw [← hC, Plain.accG_len]
        have hRl : R.length = m := by
          have := congrArg List.length hR
          rw [Plain.rowsG_len] at this
          simpa [nums] using this
        rw [hC, ← HXP.out, hPP] at hA
        have h0 := hA.o0
        have h1 := hA.o1
        have h2 := hA.o2
        rw [show (i32s P).length = P.length from by simp [i32s]] at h0
        rw [show (R.map rowV).length = R.length from by simp] at h1
        rw [show (C.map Value.bool).length = C.length from by simp] at h2
        obtain ⟨a0, n0, rfl⟩ := own_slice h0
        obtain ⟨a1, n1, rfl⟩ := own_slice h1
        obtain ⟨a2, n2, rfl⟩ := own_slice h2
        have hO : OwnTab B.heap.size wr a0 P n0 a1 R n1 a2 C n2 := ⟨h0, h1, h2, fun r hr => (hRo r hr).1⟩
        obtain ⟨d0, d1, d2⟩ := hA.cell
        rw [hPl] at d0
        rw [hRl] at d1
        rw [hCl] at d2
        have hblk : wr.heap[w.heap.size + 1]? = some (.cells #[.slice none 0 0, .slice none 0 0, .slice none 0 0] 27 (0, 0)) := by
          rw [hA.below.block _ (by rw [HSB.out]; omega)]; exact HRB.out
        have hBlw := HB0.out.trans (hA.below.mono (by rw [HSB.out]; omega))
        have HO := Lib.hid hO
        have HBL := Lib.hid hBlw
        have HBK := Lib.hid hblk
        have HEQ := Lib.hid (And.intro hC (And.intro hPP (And.intro hPl (And.intro hCl (And.intro hRl hR)))))
        clear hO hBlw hblk hC hPP hPl hCl hRl hR h0 h1 h2 hA hRo
        obtain ⟨s0, s1, s2⟩ := blk_cells3 HBK.out
        have f0 := blk_frozen HBK.out 0
        have f1 := blk_frozen HBK.out 1
        have f2 := blk_frozen HBK.out 2
        go_wp2
        have hS := blk_set3 HBK.out (.slice a0 p n0) (.slice a1 m n1) (.slice a2 m n2)
        obtain ⟨m0, m1, m2⟩ := blk_cells3 hS
        obtain ⟨hC, hPP, hPl, hCl, hRl, hR⟩ := HEQ.out
        have hF := (((HO.out).set (g := w.heap.size + 1) (by rw [HSB.out]; omega) 0 (.slice a0 p n0)).set (g := w.heap.size + 1) (by rw [HSB.out]; omega) 1 (.slice a1 m n1)).set (g := w.heap.size + 1) (by rw [HSB.out]; omega) 2 (.slice a2 m n2)
        refine bodyPost_ret (v := .agg #[.slice a0 p n0, .slice a1 m n1, .slice a2 m n2]) (by simp [results, Tryz.results5, go_sem, m0, m1, m2]) rfl ⟨a0, n0, a1, R, n1, a2, n2, ?_, ?_, ?_, ((HBL.out.setCell (by simp) _).setCell (by simp) _).setCell (by simp) _⟩
        · rw [hPP, hC]; unfold tabV; rw [hPl, hRl, hCl]
        · rw [hR, HPE.out]
        · rw [hPP, hC]; exact hF.base (by rw [HSB.out]; omega)
end Go.Proofs.YtgppobaoclfgcaaGreatDoor
namespace Go.Proofs.YtgppobaoclfgcaaGreatDoor.Plain
theorem cells_bd (P : List Int) (N : List (List Int)) (a : Nat) (h : tabRight P N a = true) : ∀ k, k < (cellsOf N).length → 0 ≤ (cellsOf N).getD k 0 ∧ (cellsOf N).getD k 0 ≤ 4096 := fun k hk => by
  obtain ⟨hp, hn, hn0, hn64, hrow⟩ := tab_right _ _ _ h
  obtain ⟨⟨b0, b64, hz⟩, hb⟩ := parts_bound P hp
  rw [getD_lt _ _ _ hk]
  have hm := List.getElem_mem hk
  unfold cellsOf at hm
  obtain ⟨r, hr, hx⟩ := List.mem_flatMap.1 hm
  obtain ⟨x, hx, he⟩ := List.mem_map.1 hx
  obtain ⟨hl, hb2⟩ := hrow r hr
  have h2 := hb2 x hx
  unfold cellsOf
  rw [← he, hl]
  obtain ⟨y, rfl⟩ : ∃ y : Nat, x = y := ⟨x.toNat, by omega⟩
  have : y * P.length ≤ 64 * 64 := Nat.mul_le_mul (by omega) b64
  rw [← Int.natCast_mul]
  omega
theorem accs_bd (C : List Bool) : ∀ k, k < (accsOf C).length → 0 ≤ (accsOf C).getD k 0 ∧ (accsOf C).getD k 0 ≤ 1 := fun k hk => by
  rw [getD_lt _ _ _ hk]
  have hm := List.getElem_mem hk
  generalize (accsOf C)[k] = x at *
  unfold accsOf at hm
  obtain ⟨b, _, rfl⟩ := List.mem_map.1 hm
  cases b <;> simp
theorem accs_len (C : List Bool) : (accsOf C).length = C.length := by simp [accsOf]
theorem accs_get (C : List Bool) (k : Nat) (hk : k < C.length) : ((accsOf C).getD k 0 == 1) = C.getD k false := by
  rw [getD_lt _ _ _ (by rw [accs_len]; exact hk), getD_lt _ _ _ hk]
  unfold accsOf
  rw [List.getElem_map]
  cases C[k] <;> rfl
end Go.Proofs.YtgppobaoclfgcaaGreatDoor.Plain
namespace Go.Proofs.YtgppobaoclfgcaaGreatDoor
open Go.RowKit Go.Lib
/-- cells that were made -/
structure OwnFlat (base : Nat) (w : World) (FA : Option Addr) (F : List Int) (fc : Nat) (KA : Option Addr) (K : List Int) (kc : Nat) (AA : Option Addr) (A : List Int) (ac : Nat) : Prop where
  o0 : w.ownsRow base 38 1 (.slice FA F.length fc) F.length (u32s F)
  o1 : w.ownsRow base 38 1 (.slice KA K.length kc) K.length (u32s K)
  o2 : w.ownsRow base 38 1 (.slice AA A.length ac) A.length (u32s A)
  a01 : apart (.slice FA F.length fc) (.slice KA K.length kc)
  a02 : apart (.slice FA F.length fc) (.slice AA A.length ac)
  a12 : apart (.slice KA K.length kc) (.slice AA A.length ac)
theorem OwnFlat.flat {base : Nat} {w : World} {FA KA AA : Option Addr} {F K A : List Int} {fc kc ac : Nat} (h : OwnFlat base w FA F fc KA K kc AA A ac) : FlatAt w FA F KA K AA A :=
  ⟨own_Sl h.o0 (by simp [u32s]), own_Sl h.o1 (by simp [u32s]), own_Sl h.o2 (by simp [u32s])⟩
theorem OwnFlat.kept {base : Nat} {w w' : World} {FA KA AA : Option Addr} {F K A : List Int} {fc kc ac : Nat} (h : OwnFlat base w FA F fc KA K kc AA A ac) (hb : Below w.heap.size w w') : OwnFlat base w' FA F fc KA K kc AA A ac :=
  ⟨own_below h.o0 hb, own_below h.o1 hb, own_below h.o2 hb, h.a01, h.a02, h.a12⟩
/-- what OfTable hands back of a right table -/
def LaidRes (P : List Int) (N : List (List Int)) (C : List Bool) (w : World) (e : Ending) (w' : World) : Prop :=
  ∃ FA fc KA kc AA ac, e = .returned (.tuple #[flatV FA P fc KA (Plain.cellsOf N) kc AA (Plain.accsOf C) ac, .int .i64 0]) ∧ OwnFlat w.heap.size w' FA P fc KA (Plain.cellsOf N) kc AA (Plain.accsOf C) ac ∧ FlatNums P (Plain.cellsOf N) (Plain.accsOf C) kc ∧ Below w.heap.size w w'
theorem laid_any (PA : Option Addr) (P : List Int) (pc : Nat) (NA : Option Addr) (R : List Row) (nc : Nat) (AA : Option Addr) (C : List Bool) (ac : Nat) (w : World) (hT : TabAt w PA P NA R AA C)
    (hq : Plain.tabRight P (nums R) C.length = true) : Calls Tryz.prog 8 #[tabV PA P pc NA R nc AA C ac] w (LaidRes P (nums R) C w) := by
  obtain ⟨hp, hn, hn0, hn64, hrow⟩ := Plain.tab_right _ _ _ hq
  obtain ⟨⟨b0, b64, _⟩, hb⟩ := Plain.parts_bound P hp
  have hkl := Plain.cellsOf_len_le (nums R) P.length (fun r hr => (hrow r hr).1) b64 hn64
  refine (oftable_right PA P pc NA R nc AA C ac w hT hq).mono ?_
  rintro e w' ⟨v0, v1, v2, rfl, o0, o1, o2, a01, a02, a12, hbl⟩
  rw [← Plain.accs_len C] at o2
  obtain ⟨A0, c0, rfl⟩ := own_slice o0
  obtain ⟨A1, c1, rfl⟩ := own_slice o1
  obtain ⟨A2, c2, rfl⟩ := own_slice o2
  refine ⟨A0, c0, A1, c1, A2, c2, rfl, ⟨o0, o1, o2, a01, a02, a12⟩, ⟨by omega, by unfold maxLen; omega, by rw [Plain.accs_len, ← hn]; omega, own_le o1, fun k hk => ?_, fun k hk => ?_, fun k hk => ?_⟩, hbl⟩
  · have := hb k hk; omega
  · have := Plain.cells_bd P (nums R) C.length hq k hk; omega
  · have := Plain.accs_bd C k hk; omega
end Go.Proofs.YtgppobaoclfgcaaGreatDoor
namespace Go.Proofs.YtgppobaoclfgcaaGreatDoor
open Go.RowKit Go.Lib
end Go.Proofs.YtgppobaoclfgcaaGreatDoor
namespace Go.Proofs.YtgppobaoclfgcaaGreatDoor
open Go.RowKit Go.Lib
end Go.Proofs.YtgppobaoclfgcaaGreatDoor
namespace Go.Proofs.YtgppobaoclfgcaaGreatDoor
open Go.RowKit Go.Lib
theorem grid_not (TP : Option Addr) (tp tpc : Nat) (TN : Option Addr) (tn tnc : Nat) (TA : Option Addr) (ta tac : Nat) (PA : Option Addr) (np pc : Nat) (NA : Option Addr) (nn nc : Nat) (AA : Option Addr) (na ac : Nat) (w : World) :
    Calls Tryz.prog 5 #[.agg #[.slice TP tp tpc, .slice TN tn tnc, .slice TA ta tac, .bool false, .slice PA np pc, .slice NA nn nc, .slice AA na ac]] w fun e w' => e = .returned (.agg #[.slice TP tp tpc, .slice TN tn tnc, .slice TA ta tac]) ∧ Below w.heap.size w w' := by
  go_enter Tryz.func5, Tryz.ntmps5
  go_wp2
  have hblk : ((w.alloc (.cells #[.slice TP tp tpc, .slice TN tn tnc, .slice TA ta tac, .bool false, .slice PA np pc, .slice NA nn nc, .slice AA na ac] 30)).alloc (.cells #[.slice TP tp tpc, .slice TN tn tnc, .slice TA ta tac] 27)).heap[w.heap.size + 1]? = some (.cells #[.slice TP tp tpc, .slice TN tn tnc, .slice TA ta tac] 27 (0, 0)) := heap_alloc_new2 _ _ _ _ (by simp)
  obtain ⟨m0, m1, m2⟩ := blk_cells3 hblk
  exact bodyPost_ret (v := .agg #[.slice TP tp tpc, .slice TN tn tnc, .slice TA ta tac]) (by simp [results, Tryz.results5, go_sem, m0, m1, m2]) rfl ⟨rfl, ((Below.refl _ _).alloc (Nat.le_refl _) _).alloc (by simp) _⟩
end Go.Proofs.YtgppobaoclfgcaaGreatDoor
namespace Go.Proofs.YtgppobaoclfgcaaGreatDoor
open Go.RowKit Go.Lib
/-- what grid hands back, own or not -/
def TabRes (w : World) (e : Ending) (w' : World) : Prop :=
  ∃ PA P pc NA R nc AA C ac, e = .returned (tabV PA P pc NA R nc AA C ac) ∧ TabAt w' PA P NA R AA C ∧ P.length ≤ pc ∧ Below w.heap.size w w'
theorem grid_any (TP : Option Addr) (TL : List Int) (tpc : Nat) (TN : Option Addr) (TR : List Row) (tnc : Nat) (TA : Option Addr) (TC : List Bool) (tac : Nat) (own : Bool) (PA : Option Addr) (PL : List Int) (pc : Nat) (NA : Option Addr) (NL : List Int) (nc : Nat) (AA : Option Addr) (AL : List Bool) (ac : Nat) (w : World) (hG : GridAt w PA PL NA NL AA AL) (hT : TabAt w TP TL TN TR TA TC) (htc : TL.length ≤ tpc) :
    Calls Tryz.prog 5 #[.agg #[.slice TP TL.length tpc, .slice TN TR.length tnc, .slice TA TC.length tac, .bool own, .slice PA PL.length pc, .slice NA NL.length nc, .slice AA AL.length ac]] w (TabRes w) := by
  cases own
  · refine (grid_not TP TL.length tpc TN TR.length tnc TA TC.length tac PA PL.length pc NA NL.length nc AA AL.length ac w).mono ?_
    rintro e w' ⟨rfl, hb⟩
    exact ⟨TP, TL, tpc, TN, TR, tnc, TA, TC, tac, rfl, hT.below hb, htc, hb⟩
  · refine (grid_own TP TL.length tpc TN TR.length tnc TA TC.length tac PA PL pc NA NL nc AA AL ac w hG).mono ?_
    rintro e w' ⟨a0, n0, a1, R, n1, a2, n2, rfl, hR, hO, hb⟩
    have hq : Plain.tabRight (Plain.partsG (fun i => PL.getD i 0) (min PL.length 4)) (nums R) (Plain.accG (fun i => AL.getD i false) AL.length (1 + min AL.length 5)).length = true := by
      rw [hR]; exact Plain.grid_right _ _ _ _ _ _ _ (by omega) (by omega) (by omega)
    obtain ⟨hpr, hnl, hm0, hm64, hrows⟩ := Plain.tab_right _ _ _ hq
    obtain ⟨⟨hp0, hp64, _⟩, hpb⟩ := Plain.parts_bound _ hpr
    have hRl : (nums R).length = R.length := by simp [nums]
    refine ⟨a0, _, n0, a1, R, n1, a2, _, n2, rfl, hO.tab (by unfold maxLen; omega) (by unfold maxLen; omega) (by unfold maxLen; omega) (fun r hr => ?_), own_le hO.o0, hb⟩
    have := (hrows r.2.2 (by unfold nums; exact List.mem_map.2 ⟨r, hr, rfl⟩)).1
    unfold maxLen; omega
end Go.Proofs.YtgppobaoclfgcaaGreatDoor
