/- Drawn regions with a forced tail; tables. Conditions: what each lemma says. -/
import Derived.Test.YtmiacgkidldjmaaGreatDoorTabA
import Derived.Deep.RegionHeld3
import Derived.Deep.RegionWith
import Derived.Deep.DeepCutAuto
import Derived.Deep.CutBlock
import Derived.Deep.AppendLies
import Derived.StillTail
import Derived.OrdersHeld
set_option linter.unusedVariables false
set_option linter.unusedSimpArgs false
namespace Go.Proofs.YtmiacgkidldjmaaGreatDoor
open Go.RowKit Go.Lib
/-- a table's cells in memory -/
structure FlatAt (w : World) (FA : Option Addr) (F : List Int) (KA : Option Addr) (K : List Int) (AA : Option Addr) (A : List Int) : Prop where
  parts : Sl w FA (u32s F)
  cells : Sl w KA (u32s K)
  acc : Sl w AA (u32s A)
theorem FlatAt.below {w w' : World} {FA KA AA : Option Addr} {F K A : List Int} (h : FlatAt w FA F KA K AA A) (hb : Below w.heap.size w w') : FlatAt w' FA F KA K AA A := ⟨h.parts.below hb, h.cells.below hb, h.acc.below hb⟩
theorem Sl.get {w : World} {A : Option Addr} {L : List Int} {k : IntKind} (h : Sl w A (L.map (Value.int k))) (j : Nat) (hj : j < L.length) : ∃ b off, A = some ⟨b, off, none⟩ ∧ b < w.heap.size ∧ w.cell? ⟨b, off + j, none⟩ = some (.int k (L.getD j 0)) := by
  obtain ⟨b, off, e, hb, hc⟩ := h (by rw [List.length_map]; omega)
  exact ⟨b, off, e, hb, hc j _ (by rw [List.getElem?_map, List.getElem?_eq_getElem hj]; simp [List.getD, List.getElem?_eq_getElem hj])⟩
end Go.Proofs.YtmiacgkidldjmaaGreatDoor
namespace Go.Proofs.YtmiacgkidldjmaaGreatDoor
open Go.RowKit Go.Lib
end Go.Proofs.YtmiacgkidldjmaaGreatDoor
namespace Go.Proofs.YtmiacgkidldjmaaGreatDoor
open Go.RowKit Go.Lib
end Go.Proofs.YtmiacgkidldjmaaGreatDoor
namespace Go.Proofs.YtmiacgkidldjmaaGreatDoor
open Go.RowKit Go.Lib
theorem Acc.kept {B : World} {fb : Nat} {t e0 e1 e2 : TypeId} {w w' : World} {v0 v1 v2 : Value} {x0 x1 x2 : List Value} (h : Acc B fb t e0 e1 e2 w v0 v1 v2 x0 x1 x2) (hb : Below w.heap.size w w') : Acc B fb t e0 e1 e2 w' v0 v1 v2 x0 x1 x2 :=
  ⟨by rw [hb.block fb h.lt]; exact h.blk, own_below h.o0 hb, own_below h.o1 hb, own_below h.o2 hb, h.below.trans (hb.mono h.below.size), h.ge, h.n0, h.n1, h.n2, h.a01, h.a02, h.a12⟩
/-- nothing below is turned but two rows -/
structure Two (w w' : World) (r1 r2 : Option Nat) : Prop where
  os : w'.os = w.os
  tape : w'.tape = w.tape
  output : w'.output = w.output
  size : w.heap.size ≤ w'.heap.size
  block : ∀ k, k < w.heap.size → some k ≠ r1 → some k ≠ r2 → w'.heap[k]? = w.heap[k]?
theorem Two.refl (w : World) (r1 r2 : Option Nat) : Two w w r1 r2 := ⟨rfl, rfl, rfl, Nat.le_refl _, fun _ _ _ _ => rfl⟩
theorem Two.drew {w w' : World} {r1 r2 : Option Nat} (h : Two w w' r1 r2) : Two w w'.drew r1 r2 := ⟨h.os, h.tape, h.output, h.size, h.block⟩
theorem Two.alloc {w w' : World} {r1 r2 : Option Nat} (h : Two w w' r1 r2) (o : Obj) : Two w (w'.alloc o) r1 r2 :=
  ⟨h.os, h.tape, h.output, by have := h.size; simp; omega, fun k hk h1 h2 => by rw [Below.heap_alloc _ _ _ (Nat.lt_of_lt_of_le hk h.size)]; exact h.block k hk h1 h2⟩
/-- an append to a row that is one of both, or behind -/
theorem Two.grown {w w1 w2 : World} {r1 r2 row : Option Nat} (h : Two w w1 r1 r2) (hg : w1.grownBy w2 row) (hr : ∀ k, row = some k → k < w.heap.size → some k = r1 ∨ some k = r2) : Two w w2 r1 r2 :=
  ⟨hg.os.trans h.os, hg.tape.trans h.tape, hg.output.trans h.output, Nat.le_trans h.size hg.size, fun k hk h1 h2 => by
    rw [hg.block k (Nat.lt_of_lt_of_le hk h.size) (fun e => by rcases hr k e.symm hk with h3 | h3; exact h1 h3; exact h2 h3)]
    exact h.block k hk h1 h2⟩
theorem Two.own {w w' : World} {r1 r2 : Option Nat} (h : Two w w' r1 r2) {base : Nat} {e : TypeId} {size : Nat} {v : Value} {n : Nat} {xs : List Value} (ho : w.ownsRow base e size v n xs) (h1 : ∀ k, v.ownBlock = some k → r1 ≠ some k) (h2 : ∀ k, v.ownBlock = some k → r2 ≠ some k) : w'.ownsRow base e size v n xs :=
  own_block ho fun k hk => h.block k (ho.lt k hk).2 (fun e => h1 k hk e.symm) (fun e => h2 k hk e.symm)
theorem Two.below {w w' : World} {r1 r2 : Option Nat} (h : Two w w' r1 r2) {B : Nat} (hB : B ≤ w.heap.size) (h1 : ∀ k, r1 = some k → B ≤ k) (h2 : ∀ k, r2 = some k → B ≤ k) : Below B w w' :=
  ⟨h.os, h.tape, h.output, h.size, fun k hk => h.block k (Nat.lt_of_lt_of_le hk hB) (fun e => by have := h1 k e.symm; omega) (fun e => by have := h2 k e.symm; omega)⟩
theorem apart.push' {w1 : World} {v v' u : Value} {base : Nat} {e : TypeId} {s n : Nat} {xs : List Value} (h : apart v u) (ho : w1.ownsRow base e s u n xs) (hb : v'.ownBlock = v.ownBlock ∨ ∃ g, v'.ownBlock = some g ∧ w1.heap.size ≤ g) : apart v' u := fun k h1 h2 => by
  rcases hb with e | ⟨g, e, hg⟩
  · exact h k (e ▸ h1) h2
  · rw [e] at h1
    injection h1 with h1
    have := (ho.lt k h2).2
    omega
theorem Acc.push12 {B : World} {fb : Nat} {t e0 e1 e2 : TypeId} {w w2 : World} {v0 v1 v2 v1' v2' : Value} {x0 x1 x2 y1 y2 : List Value} {m1 m2 : Nat} (h : Acc B fb t e0 e1 e2 w v0 v1 v2 x0 x1 x2)
    (hT : Two w w2 v1.ownBlock v2.ownBlock) (ho1 : w2.ownsRow B.heap.size e1 1 v1' m1 (x1 ++ y1)) (ho2 : w2.ownsRow B.heap.size e2 1 v2' m2 (x2 ++ y2))
    (hb1 : v1'.ownBlock = v1.ownBlock ∨ ∃ g, v1'.ownBlock = some g ∧ w.heap.size ≤ g) (hb2 : v2'.ownBlock = v2.ownBlock ∨ ∃ g, v2'.ownBlock = some g ∧ w.heap.size ≤ g) (h12 : apart v1' v2') :
    Acc B fb t e0 e1 e2 ((w2.setCell ⟨fb, 1, none⟩ v1').setCell ⟨fb, 2, none⟩ v2') v0 v1' v2' x0 (x1 ++ y1) (x2 ++ y2) := by
  have hlt := h.lt
  have hn1 : v1'.ownBlock ≠ some fb := by
    rcases hb1 with e | ⟨g, e, hg⟩
    · rw [e]; exact h.n1
    · rw [e]; intro e; injection e with e; omega
  have hn2 : v2'.ownBlock ≠ some fb := by
    rcases hb2 with e | ⟨g, e, hg⟩
    · rw [e]; exact h.n2
    · rw [e]; intro e; injection e with e; omega
  have hm1 : m1 = (x1 ++ y1).length := by have := ho1.1; omega
  have hm2 : m2 = (x2 ++ y2).length := by have := ho2.1; omega
  subst hm1
  subst hm2
  have o0 := hT.own h.o0 (fun k hk e => h.a01 k hk e) (fun k hk e => h.a02 k hk e)
  refine ⟨?_, ownsRow_setCell_other (ownsRow_setCell_other o0 h.n0 _) h.n0 _, ownsRow_setCell_other (ownsRow_setCell_other ho1 hn1 _) hn1 _, ownsRow_setCell_other (ownsRow_setCell_other ho2 hn2 _) hn2 _,
    ?_, h.ge, h.n0, hn1, hn2, (h.a01.symm.push' h.o0 hb1).symm, (h.a02.symm.push' h.o0 hb2).symm, h12⟩
  · exact heap_setCell_same _ _ 2 _ _ _ (heap_setCell_same _ _ 1 _ _ _ (by rw [hT.block fb hlt (fun e => h.n1 e.symm) (fun e => h.n2 e.symm)]; exact h.blk))
  · exact ((h.below.trans (hT.below h.below.size (fun k hk => (h.o1.lt k hk).1) (fun k hk => (h.o2.lt k hk).1))).setCell h.ge _).setCell h.ge _
end Go.Proofs.YtmiacgkidldjmaaGreatDoor
namespace Go.Proofs.YtmiacgkidldjmaaGreatDoor
open Go.RowKit Go.Lib
def flatV (FA : Option Addr) (F : List Int) (fc : Nat) (KA : Option Addr) (K : List Int) (kc : Nat) (AA : Option Addr) (A : List Int) (ac : Nat) : Value :=
  .agg #[.slice FA F.length fc, .slice KA K.length kc, .slice AA A.length ac]
end Go.Proofs.YtmiacgkidldjmaaGreatDoor
namespace Go.Proofs.YtmiacgkidldjmaaGreatDoor
open Go.RowKit Go.Lib
end Go.Proofs.YtmiacgkidldjmaaGreatDoor
-- parts E2
namespace Go
section
variable {P : Program} {ops : Array Oper} {Q : Exit → Act → World → Prop} {md : Region.Mode} {S : World → Prop} {n : Nat}
/-- Whatever order the head is gone through in, and S holds behind each of its operations; then the tail. -/
def wpAnyT (P : Program) (md : Region.Mode) (ops : Array Oper) (Q : Exit → Act → World → Prop) (S : World → Prop) (n : Nat) : Nat → Array Bool → Act → World → Prop
  | 0, listed, a, w => Region.seqB md ops (ops.toList.drop n).length n listed = true ∧ wpList P ops Q (ops.toList.drop n) a w
  | f + 1, listed, a, w => Region.ready md ops listed ≠ [] ∧ ∀ i ∈ Region.ready md ops listed, i < n ∧ wpOp P ops Q i (fun a' w' => S w' ∧ wpAnyT P md ops Q S n f (listed.setIfInBounds i true) a' w') a w
theorem wpAny_of_T : ∀ (f : Nat) (listed : Array Bool) (a : Act) (w : World), wpAnyT P md ops Q S n f listed a w → wpAny P md ops Q (f + (ops.toList.drop n).length) listed a w
  | 0, listed, a, w, h => by
    rw [Nat.zero_add]
    exact wpAny_of_seq _ n listed a w (fun j => by rw [List.getElem?_drop, Array.getElem?_toList]) h.1 h.2
  | f + 1, listed, a, w, h => by
    rw [show f + 1 + (ops.toList.drop n).length = (f + (ops.toList.drop n).length) + 1 by omega]
    exact ⟨fun h0 => absurd h0 h.1, fun i hi => wpOp_mono (fun a' w' h' => wpAny_of_T f _ a' w' h'.2) (h.2 i hi).2⟩
theorem wpAnyT_first {i : Nat} {oi : Oper} {v : Value} (hi : ops[i]? = some oi) (hsel : ∀ (j : Nat) (o : Oper) cs b, ops[j]? = some o → o.op ≠ .select cs b)
    (hs : Region.sinkB md ops n = true) (hc : Region.chainB md ops n = true) (hn : n < ops.size) (hin : i < n)
    (hQ : ∀ c a w, Q (.panic c) (a.put oi.dst v) w → Q (.panic c) a w) :
    ∀ (f : Nat) (listed : Array Bool) (a : Act) (w : World), HeadInv md ops n listed →
      (∀ j oj, ops[j]? = some oj → j ≠ i → listed.getD j true = false → (∀ e ∈ oj.after, Region.binds md e = true → e.on ≠ i) → oi.apart ops oj = true) →
      i ∈ Region.ready md ops listed → YieldsIf P ops S oi v a → S w →
      wpAnyT P md ops Q S n f (listed.setIfInBounds i true) (a.put oi.dst v) w → wpAnyT P md ops Q S n (f + 1) listed a w := by
  intro f
  induction f with
  | zero =>
    intro listed a w inv _ hr hy hS H
    have hun := (mem_ready.1 hr).1
    refine ⟨fun h => (by rw [h] at hr; cases hr), fun j hj => ?_⟩
    have hjn : j < n := by
      rcases Nat.lt_or_ge j n with h | h
      · exact h
      · exact absurd hj (tail_waits hs hc hn inv _ i rfl hin hun j h)
    refine ⟨hjn, ?_⟩
    by_cases hji : j = i
    · subst hji; exact hy.wpOp hi hS ⟨hS, H⟩
    · have := seqB_ready H.1 j (ready_mono hj hji)
      omega
  | succ f ih =>
    intro listed a w inv hfree hr hy hS H
    have hun := (mem_ready.1 hr).1
    refine ⟨fun h => (by rw [h] at hr; cases hr), fun j hj => ?_⟩
    have hjn : j < n := by
      rcases Nat.lt_or_ge j n with h | h
      · exact h
      · exact absurd hj (tail_waits hs hc hn inv _ i rfl hin hun j h)
    refine ⟨hjn, ?_⟩
    by_cases hji : j = i
    · subst hji; exact hy.wpOp hi hS ⟨hS, H⟩
    · have h1 := (H.2 j (ready_mono hj hji)).2
      obtain ⟨hjun, oj, hoj, hall⟩ := mem_ready.1 hj
      have hnot : ∀ e ∈ oj.after, Region.binds md e = true → e.on ≠ i := fun e he hb heq => by
        have h1 := hall e he hb
        rw [heq, getD_both hun] at h1
        cases h1
      have h2 := wpOp_putIf hoj (hfree j oj hoj hji hjun hnot) (fun cs b => hsel i oi cs b hi) (fun cs b => hsel j oj cs b hoj) hQ hy h1
      have hfree' : ∀ k ok, ops[k]? = some ok → k ≠ i → (listed.setIfInBounds j true).getD k true = false →
          (∀ e ∈ ok.after, Region.binds md e = true → e.on ≠ i) → oi.apart ops ok = true := fun k ok hk hki hun hno => by
        refine hfree k ok hk hki ?_ hno
        by_cases hjk : j = k
        · subst hjk; exact hjun
        · rw [getD_set_ne true hjk] at hun; exact hun
      refine wpOp_mono (fun a' w' h3 => ⟨h3.2.1, ih (listed.setIfInBounds j true) a' w' (inv.set hj hjn) hfree' (ready_mono hr (Ne.symm hji)) h3.1 h3.2.1 ?_⟩) h2
      rw [Array.setIfInBounds_comm _ _ hji]
      exact h3.2.2
/-- what has come up in a head, as a Bool to be reckoned -/
def Region.headB (md : Region.Mode) (ops : Array Oper) (n : Nat) (listed : Array Bool) : Bool :=
  (listed.size == ops.size) && ((List.range ops.size).all fun j => !listed.getD j false || ((ops[j]?).map fun o => o.after.all fun e => !Region.binds md e || listed.getD e.on false).getD true) && (List.range ops.size).all fun t => decide (t < n) || !listed.getD t true
theorem Region.headB_spec {listed : Array Bool} (h : Region.headB md ops n listed = true) : HeadInv md ops n listed := by
  unfold Region.headB at h
  simp only [Bool.and_eq_true, beq_iff_eq, List.all_eq_true, List.mem_range, Bool.or_eq_true, Bool.not_eq_true', decide_eq_true_eq] at h
  obtain ⟨⟨h1, h2⟩, h3⟩ := h
  refine ⟨h1, fun j oj hj hl e he hb => ?_, fun t ht ht' => by rcases h3 t ht' with h | h; omega; exact h⟩
  have hjl : j < ops.size := (Array.getElem?_eq_some_iff.1 hj).1
  rcases h2 j hjl with h | h
  · rw [hl] at h; cases h
  · rw [hj] at h
    simp only [Option.map_some, Option.getD_some, Array.all_eq_true_iff_forall_mem, Bool.or_eq_true, Bool.not_eq_true'] at h
    rcases h e he with h | h
    · rw [hb] at h; cases h
    · exact h
def Region.tailB (md : Region.Mode) (ops : Array Oper) (n : Nat) : Bool := Region.noSelect ops && Region.sinkB md ops n && Region.chainB md ops n && decide (n < ops.size)
theorem wpAnyT_take (i : Nat) {oi : Oper} {v : Value} {f : Nat} {listed : Array Bool} {a : Act} {w : World} (ht : Region.tailB md ops n = true) (hi : ops[i]? = some oi)
    (hh : (decide (i < n) && Region.headB md ops n listed && Region.free md ops listed i && (Region.ready md ops listed).contains i) = true)
    (hQ : ∀ c a w, Q (.panic c) (a.put oi.dst v) w → Q (.panic c) a w) (hy : YieldsIf P ops S oi v a) (hS : S w)
    (h : wpAnyT P md ops Q S n f (listed.setIfInBounds i true) (a.put oi.dst v) w) : wpAnyT P md ops Q S n (f + 1) listed a w := by
  unfold Region.tailB at ht
  simp only [Bool.and_eq_true, decide_eq_true_eq] at ht hh
  exact wpAnyT_first hi (Region.noSelect_spec ht.1.1.1) ht.1.1.2 ht.1.2 ht.2 hh.1.1.1 hQ f listed a w (Region.headB_spec hh.1.1.2) (Region.free_spec hi hh.1.2) (by simpa using hh.2) hy hS h
/-- a step of the head -/
def tailStep (P : Program) (ops : Array Oper) (Q : Exit → Act → World → Prop) (S : World → Prop) (i : Nat) (K : Act → World → Prop) (a : Act) (w : World) : Prop :=
  ∃ o, ops[i]? = some o ∧ ∀ K' : Act → World → Prop, (∀ a' w', (S w' ∧ K a' w') → K' a' w') → if Region.wanted o (yielded ops a.tmps) = true then Oper.wp P o a w K' Q else K' (a.put o.dst undef) w
theorem wpAnyT_one (i : Nat) {f : Nat} {listed : Array Bool} {a : Act} {w : World} (hr : (Region.ready md ops listed == [i] && decide (i < n)) = true)
    (h : tailStep P ops Q S i (wpAnyT P md ops Q S n f (listed.setIfInBounds i true)) a w) : wpAnyT P md ops Q S n (f + 1) listed a w := by
  simp only [Bool.and_eq_true, beq_iff_eq, decide_eq_true_eq] at hr
  refine ⟨by rw [hr.1]; simp, fun j hj => ?_⟩
  rw [hr.1] at hj
  obtain rfl : j = i := by simpa using hj
  refine ⟨hr.2, ?_⟩
  obtain ⟨o, ho, hK⟩ := h
  have := hK _ (fun _ _ h => h)
  unfold wpOp
  simp only [ho]
  split
  · rename_i hw; rw [if_pos hw] at this; exact .inl this
  · rename_i hw; rw [if_neg hw] at this; exact this
theorem wpAnyT_two (i k : Nat) {f : Nat} {listed : Array Bool} {a : Act} {w : World} (hr : (Region.ready md ops listed == [i, k] && decide (i < n) && decide (k < n)) = true)
    (h : tailStep P ops Q S i (wpAnyT P md ops Q S n f (listed.setIfInBounds i true)) a w) (h' : tailStep P ops Q S k (wpAnyT P md ops Q S n f (listed.setIfInBounds k true)) a w) : wpAnyT P md ops Q S n (f + 1) listed a w := by
  simp only [Bool.and_eq_true, beq_iff_eq, decide_eq_true_eq] at hr
  refine ⟨by rw [hr.1.1]; simp, fun j hj => ?_⟩
  rw [hr.1.1] at hj
  have hjj : j = i ∨ j = k := by simpa using hj
  have main : ∀ m, m < n → tailStep P ops Q S m (wpAnyT P md ops Q S n f (listed.setIfInBounds m true)) a w → m < n ∧ wpOp P ops Q m (fun a' w' => S w' ∧ wpAnyT P md ops Q S n f (listed.setIfInBounds m true) a' w') a w := fun m hm ⟨o, ho, hK⟩ => by
    have := hK _ (fun _ _ h => h)
    refine ⟨hm, ?_⟩
    unfold wpOp
    simp only [ho]
    split
    · rename_i hw; rw [if_pos hw] at this; exact .inl this
    · rename_i hw; rw [if_neg hw] at this; exact this
  rcases hjj with rfl | rfl
  · exact main _ hr.1.2 h
  · exact main _ hr.2 h'
theorem wp_region_T (n : Nat) {id : Nat} {a : Act} {w : World} (hm : P.follows .mixedOrders = true) (hn : n ≤ ops.size)
    (h : wpAnyT P .any ops Q S n n (Array.replicate ops.size false) a w.drew) : (Code.region id ops true).wp P Q a w := by
  refine wp_region_any hm ?_
  have h2 := wpAny_of_T n _ a _ h
  rw [List.length_drop, Array.length_toList, show n + (ops.size - n) = ops.size by omega] at h2
  exact h2
end
end Go
namespace Go.Proofs.YtmiacgkidldjmaaGreatDoor
open Go.RowKit Go.Lib
theorem CellsAt.grown {w w' : World} {g : Nat} {xs : List Value} {row : Option Nat} (h : CellsAt w g xs) (hg : w.grownBy w' row) (hne : row ≠ some g) : CellsAt w' g xs :=
  ⟨Nat.lt_of_lt_of_le h.1 hg.size, fun j u hu => (hg.cell_far ⟨g, j, none⟩ h.1 (fun e => hne e.symm)).trans (h.2 j u hu)⟩
theorem CellsAt.drew {w : World} {g : Nat} {xs : List Value} (h : CellsAt w g xs) : CellsAt w.drew g xs := h
theorem CellsAt.new1 (w : World) (o : Obj) (c : Array Value) (t : TypeId) : CellsAt ((w.alloc o).alloc (.cells c t)) (w.heap.size + 1) c.toList := by
  have h := CellsAt.new (w.alloc o) c t
  rwa [show (w.alloc o).heap.size = w.heap.size + 1 from by simp] at h
theorem Two.swap {w w' : World} {r1 r2 : Option Nat} (h : Two w w' r1 r2) : Two w w' r2 r1 := ⟨h.os, h.tape, h.output, h.size, fun k hk h1 h2 => h.block k hk h2 h1⟩
theorem Two.trans {w w1 w2 : World} {r1 r2 : Option Nat} (h : Two w w1 r1 r2) (h' : Two w1 w2 none none) : Two w w2 r1 r2 :=
  ⟨h'.os.trans h.os, h'.tape.trans h.tape, h'.output.trans h.output, Nat.le_trans h.size h'.size, fun k hk h1 h2 => by rw [h'.block k (Nat.lt_of_lt_of_le hk h.size) (by simp) (by simp)]; exact h.block k hk h1 h2⟩
/-- two rows, one behind the other -/
theorem two_rows {base : Nat} {e1 e2 : TypeId} {w W1 wa W2 wb : World} {v1 v2 v1' v2' : Value} {k1 k2 n1 n2 : Nat} {x1 x2 y1 y2 : List Value}
    (o1 : w.ownsRow base e1 1 v1 k1 x1) (o2 : w.ownsRow base e2 1 v2 k2 x2) (ap : apart v1 v2)
    (t1 : Two w W1 none none) (g1 : W1.grownBy wa v1.ownBlock) (h1 : wa.ownsRow base e1 1 v1' n1 y1) (at1 : v1'.ownBlock = v1.ownBlock ∨ v1'.ownBlock = some W1.heap.size)
    (t2 : Two wa W2 none none) (g2 : W2.grownBy wb v2.ownBlock) (h2 : wb.ownsRow base e2 1 v2' n2 y2) (at2 : v2'.ownBlock = v2.ownBlock ∨ v2'.ownBlock = some W2.heap.size) :
    Two w wb v1.ownBlock v2.ownBlock ∧ wb.ownsRow base e1 1 v1' n1 y1 ∧ wb.ownsRow base e2 1 v2' n2 y2 ∧
      (v1'.ownBlock = v1.ownBlock ∨ ∃ g, v1'.ownBlock = some g ∧ w.heap.size ≤ g) ∧ (v2'.ownBlock = v2.ownBlock ∨ ∃ g, v2'.ownBlock = some g ∧ w.heap.size ≤ g) ∧ apart v1' v2' := by
  have hs1 : w.heap.size ≤ W1.heap.size := t1.size
  have hs2 : W1.heap.size ≤ wa.heap.size := g1.size
  have hs3 : wa.heap.size ≤ W2.heap.size := t2.size
  have T1 : Two w wa v1.ownBlock v2.ownBlock := (⟨t1.os, t1.tape, t1.output, t1.size, fun k hk _ _ => t1.block k hk (by simp) (by simp)⟩ : Two w W1 v1.ownBlock v2.ownBlock).grown g1 fun k hk _ => .inl hk.symm
  have T2 := (T1.trans t2).grown g2 fun k hk _ => .inr hk.symm
  have hap : ∀ k, v1'.ownBlock = some k → v2.ownBlock ≠ some k := fun k hk h => by
    rcases at1 with e | e
    · exact ap k (e ▸ hk) h
    · rw [e] at hk; injection hk with hk
      have := (o2.lt k h).2; omega
  have hw1 : wb.ownsRow base e1 1 v1' n1 y1 := own_block h1 fun k hk => by
    have hlt := (h1.lt k hk).2
    rw [g2.block k (Nat.lt_of_lt_of_le hlt t2.size) (fun e => hap k hk e.symm)]
    exact t2.block k hlt (by simp) (by simp)
  refine ⟨T2, hw1, h2, ?_, ?_, fun k hk h => ?_⟩
  · rcases at1 with e | e
    · exact .inl e
    · exact .inr ⟨_, e, hs1⟩
  · rcases at2 with e | e
    · exact .inl e
    · exact .inr ⟨_, e, by omega⟩
  · rcases at2 with e | e
    · exact hap k hk (e ▸ h)
    · rw [e] at h; injection h with h
      have := (h1.lt k hk).2; omega
theorem Two.cell {w w' : World} {r1 r2 : Option Nat} (h : Two w w' r1 r2) {g : Nat} (hg : g < w.heap.size) (h1 : r1 ≠ some g) (h2 : r2 ≠ some g) (j : Nat) : w'.cell? ⟨g, j, none⟩ = w.cell? ⟨g, j, none⟩ :=
  World.cell?_of_block (h.block g hg (fun e => h1 e.symm) (fun e => h2 e.symm))
theorem grown_at {v : Value} {g H : Nat} {n c : Nat} (h : v.ownBlock = some g ∨ g = H) : (Value.slice (some ⟨g, 0, none⟩) n c).ownBlock = v.ownBlock ∨ (Value.slice (some ⟨g, 0, none⟩) n c).ownBlock = some H := by
  rcases h with e | e
  · exact .inl (by rw [e]; rfl)
  · exact .inr (by rw [← e]; rfl)
/-- the rows made so far -/
def RowsOwn (B : World) (fb : Nat) (w : World) (R : List Row) (v1 v2 : Value) : Prop :=
  ∀ r ∈ R, w.ownsRow B.heap.size 3 1 (rowV r) r.2.2.length (i64s r.2.2) ∧ (rowV r).ownBlock ≠ some fb ∧ apart (rowV r) v1 ∧ apart (rowV r) v2
theorem RowsOwn.kept {B w w' : World} {fb : Nat} {R : List Row} {v1 v2 : Value} (h : RowsOwn B fb w R v1 v2) (hb : Below w.heap.size w w') : RowsOwn B fb w' R v1 v2 :=
  fun r hr => ⟨own_below (h r hr).1 hb, (h r hr).2⟩
theorem RowsOwn.push {B w w2 : World} {fb : Nat} {R : List Row} {v1 v2 v1' v2' : Value} {r : Row} (h : RowsOwn B fb w R v1 v2)
    (hr : w.ownsRow B.heap.size 3 1 (rowV r) r.2.2.length (i64s r.2.2)) (hrf : (rowV r).ownBlock ≠ some fb) (hr1 : apart (rowV r) v1) (hr2 : apart (rowV r) v2) (hT : Two w w2 v1.ownBlock v2.ownBlock)
    (hb1 : v1'.ownBlock = v1.ownBlock ∨ ∃ g, v1'.ownBlock = some g ∧ w.heap.size ≤ g) (hb2 : v2'.ownBlock = v2.ownBlock ∨ ∃ g, v2'.ownBlock = some g ∧ w.heap.size ≤ g) :
    RowsOwn B fb ((w2.setCell ⟨fb, 1, none⟩ v1').setCell ⟨fb, 2, none⟩ v2') (R ++ [r]) v1' v2' := fun q hq => by
  have hq : w.ownsRow B.heap.size 3 1 (rowV q) q.2.2.length (i64s q.2.2) ∧ (rowV q).ownBlock ≠ some fb ∧ apart (rowV q) v1 ∧ apart (rowV q) v2 := by
    rcases List.mem_append.1 hq with h' | h'
    · exact h q h'
    · obtain rfl : q = r := by simpa using h'
      exact ⟨hr, hrf, hr1, hr2⟩
  obtain ⟨ho, hf, h1, h2⟩ := hq
  exact ⟨ownsRow_setCell_other (ownsRow_setCell_other (hT.own ho (fun k hk e => h1 k hk e) (fun k hk e => h2 k hk e)) hf _) hf _, hf, (h1.symm.push' ho hb1).symm, (h2.symm.push' ho hb2).symm⟩
/-- a round of rows is done -/
def RowsDone (B : World) (fb : Nat) (t e0 e1 e2 : TypeId) (w : World) (v0 v1 v2 : Value) (xP x1 x2 : List Value) (R : List Row) : Prop :=
  Acc B fb t e0 e1 e2 w v0 v1 v2 xP x1 x2 ∧ RowsOwn B fb w R v1 v2
theorem rows_done {B w wb : World} {fb : Nat} {t e0 e1 e2 : TypeId} {v0 v1 v2 v1' v2' : Value} {xP x1 x2 y1 y2 : List Value} {R : List Row} {r : Row} {m1 m2 : Nat} (hA : Acc B fb t e0 e1 e2 w v0 v1 v2 xP x1 x2) (hR : RowsOwn B fb w R v1 v2)
    (hr : w.ownsRow B.heap.size 3 1 (rowV r) r.2.2.length (i64s r.2.2)) (hrf : (rowV r).ownBlock ≠ some fb) (hr1 : apart (rowV r) v1) (hr2 : apart (rowV r) v2)
    (h : Two w wb v1.ownBlock v2.ownBlock ∧ wb.ownsRow B.heap.size e1 1 v1' m1 (x1 ++ y1) ∧ wb.ownsRow B.heap.size e2 1 v2' m2 (x2 ++ y2) ∧
      (v1'.ownBlock = v1.ownBlock ∨ ∃ g, v1'.ownBlock = some g ∧ w.heap.size ≤ g) ∧ (v2'.ownBlock = v2.ownBlock ∨ ∃ g, v2'.ownBlock = some g ∧ w.heap.size ≤ g) ∧ apart v1' v2') :
    RowsDone B fb t e0 e1 e2 ((wb.setCell ⟨fb, 1, none⟩ v1').setCell ⟨fb, 2, none⟩ v2') v0 v1' v2' xP (x1 ++ y1) (x2 ++ y2) (R ++ [r]) :=
  ⟨hA.push12 h.1 h.2.1 h.2.2.1 h.2.2.2.1 h.2.2.2.2.1 h.2.2.2.2.2, hR.push hr hrf hr1 hr2 h.1 h.2.2.2.1 h.2.2.2.2.1⟩
end Go.Proofs.YtmiacgkidldjmaaGreatDoor
namespace Go.Proofs.YtmiacgkidldjmaaGreatDoor
open Go.RowKit Go.Lib
/-- a table that was made: no block below base is its -/
structure OwnTab (base : Nat) (w : World) (PA : Option Addr) (P : List Int) (pc : Nat) (NA : Option Addr) (R : List Row) (nc : Nat) (AA : Option Addr) (C : List Bool) (ac : Nat) : Prop where
  o0 : w.ownsRow base 21 1 (.slice PA P.length pc) P.length (i32s P)
  o1 : w.ownsRow base 60 1 (.slice NA R.length nc) R.length (R.map rowV)
  o2 : w.ownsRow base 4 1 (.slice AA C.length ac) C.length (C.map Value.bool)
  rows : ∀ r ∈ R, w.ownsRow base 3 1 (rowV r) r.2.2.length (i64s r.2.2)
theorem OwnTab.kept {base : Nat} {w w' : World} {PA NA AA : Option Addr} {P : List Int} {R : List Row} {C : List Bool} {pc nc ac : Nat} (h : OwnTab base w PA P pc NA R nc AA C ac) (hb : Below w.heap.size w w') : OwnTab base w' PA P pc NA R nc AA C ac :=
  ⟨own_below h.o0 hb, own_below h.o1 hb, own_below h.o2 hb, fun r hr => own_below (h.rows r hr) hb⟩
theorem OwnTab.set {base : Nat} {w : World} {PA NA AA : Option Addr} {P : List Int} {R : List Row} {C : List Bool} {pc nc ac : Nat} (h : OwnTab base w PA P pc NA R nc AA C ac) {g : Nat} (hg : g < base) (j : Nat) (u : Value) : OwnTab base (w.setCell ⟨g, j, none⟩ u) PA P pc NA R nc AA C ac :=
  ⟨own_set h.o0 hg j u, own_set h.o1 hg j u, own_set h.o2 hg j u, fun r hr => own_set (h.rows r hr) hg j u⟩
theorem OwnTab.tab {base : Nat} {w : World} {PA NA AA : Option Addr} {P : List Int} {R : List Row} {C : List Bool} {pc nc ac : Nat} (h : OwnTab base w PA P pc NA R nc AA C ac) (h0 : P.length ≤ maxLen) (h1 : R.length ≤ maxLen) (h2 : C.length ≤ maxLen) (h3 : ∀ r ∈ R, r.2.2.length ≤ maxLen) : TabAt w PA P NA R AA C :=
  ⟨own_Sl h.o0 (by simp [i32s]), own_Sl h.o1 (by simp), fun r hr => ⟨own_Sl (c := r.2.1) (A := r.1) (by have := h.rows r hr; unfold rowV at this; exact this) (by simp [i64s]), h3 r hr⟩, own_Sl h.o2 (by simp), h0, h1, h2⟩
theorem blk_set3 {w : World} {g : Nat} {x y z : Value} {t : TypeId} (h : w.heap[g]? = some (.cells #[x, y, z] t (0, 0))) (a b c : Value) :
    (((w.setCell ⟨g, 0, none⟩ a).setCell ⟨g, 1, none⟩ b).setCell ⟨g, 2, none⟩ c).heap[g]? = some (.cells #[a, b, c] t (0, 0)) :=
  heap_setCell_same _ _ 2 _ _ _ (heap_setCell_same _ _ 1 _ _ _ (heap_setCell_same _ _ 0 _ _ _ h))
/-- what BackTable hands back -/
def BackRes (F K A : List Int) (w : World) (e : Ending) (w' : World) : Prop :=
  Below w.heap.size w w' ∧
  (Plain.flatRight F K A = true → ∃ PA pc NA R nc AA ac, e = .returned (.tuple #[tabV PA (F.map fun r => r % 16777216) pc NA R nc AA (A.map fun x => x == 1) ac, .int .i64 0]) ∧ nums R = Plain.rowsOf K F.length A.length ∧ TabAt w' PA (F.map fun r => r % 16777216) NA R AA (A.map fun x => x == 1)) ∧
  (Plain.flatRight F K A = false → e = .returned (.tuple #[.agg #[.slice none 0 0, .slice none 0 0, .slice none 0 0], .int .i64 11]))
end Go.Proofs.YtmiacgkidldjmaaGreatDoor
namespace Go.Proofs.YtmiacgkidldjmaaGreatDoor
open Go.RowKit Go.Lib
theorem info21 : (Tryz.prog.info? 21).map (fun i => (i.zero, i.size, i.bytes)) = some (some (.int .i32 0), 1, 4) := by kernel_rfl
theorem info49 : (Tryz.prog.info? 60).map (fun i => (i.zero, i.size, i.bytes)) = some (some (.slice none 0 0), 1, 24) := by kernel_rfl
theorem info4 : (Tryz.prog.info? 4).map (fun i => (i.zero, i.size, i.bytes)) = some (some (.bool false), 1, 1) := by kernel_rfl
theorem info3 : (Tryz.prog.info? 3).map (fun i => (i.zero, i.size, i.bytes)) = some (some (.int .i64 0), 1, 8) := by kernel_rfl
theorem i32s_snoc (L : List Int) (x : Int) : i32s (L ++ [x]) = i32s L ++ [.int .i32 x] := by simp [i32s]
end Go.Proofs.YtmiacgkidldjmaaGreatDoor
