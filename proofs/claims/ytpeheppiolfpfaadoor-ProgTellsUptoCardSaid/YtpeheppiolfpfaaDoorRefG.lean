/- The law's refClass and refProg: copies that lie apart. Conditions: what each lemma says. -/
import Derived.Test.YtpeheppiolfpfaaDoorRefF
set_option linter.unusedVariables false
set_option linter.unusedSimpArgs false
namespace Go.Proofs.YtpeheppiolfpfaaDoor
open Go.RowKit Go.Lib
theorem gr_set (w : World) (g j : Nat) (v : Value) : w.grownBy (w.setCell ⟨g, j, none⟩ v) (some g) :=
  ⟨rfl, rfl, rfl, by simp, fun k _ hn => heap_setCell_other w ⟨g, j, none⟩ k v (fun e => hn (by rw [e]))⟩
end Go.Proofs.YtpeheppiolfpfaaDoor
namespace Go.Proofs.YtpeheppiolfpfaaDoor
open Go.RowKit Go.Lib
end Go.Proofs.YtpeheppiolfpfaaDoor
namespace Go.Proofs.YtpeheppiolfpfaaDoor
open Go.RowKit Go.Lib
end Go.Proofs.YtpeheppiolfpfaaDoor
namespace Go.Proofs.YtpeheppiolfpfaaDoor
open Go.RowKit Go.Lib
end Go.Proofs.YtpeheppiolfpfaaDoor
namespace Go.Proofs.YtpeheppiolfpfaaDoor
open Go.RowKit Go.Lib
end Go.Proofs.YtpeheppiolfpfaaDoor
namespace Go.Proofs.YtpeheppiolfpfaaDoor
open Go.RowKit Go.Lib
/-- a thing that lies in memory: a box, or a row of one's own -/
structure Th where
  kd : Bool
  k : Nat
  cs : Array Value
  t : TypeId
  size : Nat
  v : Value
  n : Nat
  xs : List Value
def boxT (k : Nat) (cs : Array Value) (t : TypeId) : Th := ⟨true, k, cs, t, 0, .bool false, 0, []⟩
def rowT (e : TypeId) (size : Nat) (v : Value) (n : Nat) (xs : List Value) : Th := ⟨false, 0, #[], e, size, v, n, xs⟩
def Th.blk (T : Th) : Option Nat := if T.kd then some T.k else T.v.ownBlock
def Th.ok (base : Nat) (w : World) (T : Th) : Prop := if T.kd = true then base ≤ T.k ∧ w.heap[T.k]? = some (.cells T.cs T.t (0, 0)) else w.ownsRow base T.t T.size T.v T.n T.xs
theorem ok_box {base : Nat} {w : World} {k : Nat} {cs : Array Value} {t : TypeId} : (boxT k cs t).ok base w ↔ base ≤ k ∧ w.heap[k]? = some (.cells cs t (0, 0)) := by unfold Th.ok boxT; simp
theorem ok_row {base : Nat} {w : World} {e : TypeId} {size : Nat} {v : Value} {n : Nat} {xs : List Value} : (rowT e size v n xs).ok base w ↔ w.ownsRow base e size v n xs := by unfold Th.ok rowT; simp
theorem blk_box (k : Nat) (cs : Array Value) (t : TypeId) : (boxT k cs t).blk = some k := rfl
theorem blk_row (e : TypeId) (size : Nat) (v : Value) (n : Nat) (xs : List Value) : (rowT e size v n xs).blk = v.ownBlock := rfl
theorem th_lt {base : Nat} {w : World} {T : Th} (h : T.ok base w) : ∀ k, T.blk = some k → base ≤ k ∧ k < w.heap.size := by
  intro k hk
  unfold Th.ok at h
  unfold Th.blk at hk
  split at h
  · rename_i hd
    rw [if_pos hd] at hk
    injection hk with hk
    subst hk
    exact ⟨h.1, lt_of_some h.2⟩
  · rename_i hd
    rw [if_neg hd] at hk
    exact h.lt k hk
theorem th_kept {base : Nat} {w w' : World} {T : Th} (h : T.ok base w) (hk : ∀ k, T.blk = some k → w'.heap[k]? = w.heap[k]?) : T.ok base w' := by
  unfold Th.ok at h ⊢
  unfold Th.blk at hk
  split at h
  · rename_i hd
    rw [if_pos hd]
    exact ⟨h.1, (hk T.k (by rw [if_pos hd])).trans h.2⟩
  · rename_i hd
    rw [if_neg hd]
    exact own_block h fun k hb => hk k (by rw [if_neg hd]; exact hb)
def Apart (A B : Th) : Prop := ∀ k, A.blk = some k → B.blk ≠ some k
theorem Apart.symm {A B : Th} (h : Apart A B) : Apart B A := fun k h1 h2 => h k h2 h1
/-- things that lie apart from one another -/
def Sep (base : Nat) (w : World) (l : List Th) : Prop := (∀ T ∈ l, T.ok base w) ∧ l.Pairwise Apart
theorem Sep.get {base : Nat} {w : World} {l : List Th} (h : Sep base w l) (i : Nat) (T : Th) (hi : l[i]? = some T) : T.ok base w := h.1 T (List.mem_of_getElem? hi)
theorem Sep.nil (base : Nat) (w : World) : Sep base w [] := ⟨fun _ h => absurd h (by simp), List.Pairwise.nil⟩
theorem Sep.perm {base : Nat} {w : World} {l m : List Th} (h : Sep base w l) (hp : l.Perm m) : Sep base w m :=
  ⟨fun T hT => h.1 T (hp.mem_iff.2 hT), (hp.pairwise_iff (fun h => h.symm)).1 h.2⟩
/-- nothing is turned but what is new -/
theorem Sep.below {base : Nat} {w w' : World} {l : List Th} (h : Sep base w l) (hb : Below w.heap.size w w') : Sep base w' l :=
  ⟨fun T hT => th_kept (h.1 T hT) fun k hk => hb.block k (th_lt (h.1 T hT) k hk).2, h.2⟩
/-- one more -/
theorem Sep.cons {base : Nat} {w w' : World} {l : List Th} (h : Sep base w l) (hb : Below w.heap.size w w') (T : Th) (hT : T.ok base w') (hn : ∀ k, T.blk = some k → w.heap.size ≤ k) : Sep base w' (T :: l) := by
  refine ⟨fun X hX => ?_, List.Pairwise.cons (fun X hX k h1 h2 => ?_) h.2⟩
  · rcases List.mem_cons.1 hX with e | hX
    · rw [e]; exact hT
    · exact (h.below hb).1 X hX
  · have := (th_lt (h.1 X hX) k h2).2
    have := hn k h1
    omega
theorem Sep.snoc {base : Nat} {w w' : World} {l : List Th} (h : Sep base w l) (hb : Below w.heap.size w w') (T : Th) (hT : T.ok base w') (hn : ∀ k, T.blk = some k → w.heap.size ≤ k) : Sep base w' (l ++ [T]) :=
  (h.cons hb T hT hn).perm (by have := (List.perm_append_comm (l₁ := [T]) (l₂ := l)); simpa using this)
/-- one of them is turned -/
theorem Sep.set {base : Nat} {w w' : World} {l : List Th} (h : Sep base w l) (i : Nat) (T T' : Th) (hi : l[i]? = some T) (hg : w.grownBy w' T.blk) (hT : T'.ok base w')
    (hn : ∀ k, T'.blk = some k → T.blk = some k ∨ w.heap.size ≤ k) : Sep base w' (l.set i T') := by
  obtain ⟨hil, hie⟩ := List.getElem?_eq_some_iff.1 hi
  have hsp : l = l.take i ++ T :: l.drop (i + 1) := by rw [← hie, List.getElem_cons_drop, List.take_append_drop]
  have hst : l.set i T' = l.take i ++ T' :: l.drop (i + 1) := by rw [List.set_eq_take_append_cons_drop, if_pos hil]
  obtain ⟨L, hL⟩ : ∃ x, l.take i = x := ⟨_, rfl⟩
  obtain ⟨R, hR⟩ : ∃ x, l.drop (i + 1) = x := ⟨_, rfl⟩
  rw [hL, hR] at hsp hst
  rw [hst]
  rw [hsp] at h
  obtain ⟨ho, hp⟩ := h
  have hp2 := ((List.perm_middle (a := T) (l₁ := L) (l₂ := R)).pairwise_iff (R := Apart) (fun h => h.symm)).1 hp
  obtain ⟨hap, hrest⟩ := List.pairwise_cons.1 hp2
  have hkeep : ∀ X ∈ L ++ R, X.ok base w' ∧ Apart T' X := fun X hX => by
    have hXo : X.ok base w := ho X (by rcases List.mem_append.1 hX with h | h <;> simp [h])
    have hXa := hap X hX
    refine ⟨th_kept hXo fun k hk => hg.block k (th_lt hXo k hk).2 (fun e => hXa k e.symm hk), fun k h1 h2 => ?_⟩
    rcases hn k h1 with e | e
    · exact hXa k e h2
    · have := (th_lt hXo k h2).2; omega
  have hfin : Sep base w' (T' :: (L ++ R)) := ⟨fun X hX => by
      rcases List.mem_cons.1 hX with e | hX
      · rw [e]; exact hT
      · exact (hkeep X hX).1, List.Pairwise.cons (fun X hX => (hkeep X hX).2) hrest⟩
  exact hfin.perm List.perm_middle.symm
/-- a box of them is written -/
theorem Sep.setBox {base : Nat} {w w' : World} {l : List Th} (h : Sep base w l) (i : Nat) (k : Nat) (cs cs' : Array Value) (t : TypeId) (hi : l[i]? = some (boxT k cs t)) (hg : w.grownBy w' (some k)) (hT : w'.heap[k]? = some (.cells cs' t (0, 0))) : Sep base w' (l.set i (boxT k cs' t)) :=
  h.set i _ _ hi hg (ok_box.2 ⟨(ok_box.1 (h.get i _ hi)).1, hT⟩) (fun j hj => .inl hj)
theorem Sep.box {base : Nat} {w : World} {l : List Th} (h : Sep base w l) (i : Nat) (k : Nat) (cs : Array Value) (t : TypeId) (hi : l[i]? = some (boxT k cs t)) : base ≤ k ∧ w.heap[k]? = some (.cells cs t (0, 0)) := ok_box.1 (h.get i _ hi)
theorem Sep.row {base : Nat} {w : World} {l : List Th} (h : Sep base w l) (i : Nat) (e : TypeId) (size : Nat) (v : Value) (n : Nat) (xs : List Value) (hi : l[i]? = some (rowT e size v n xs)) : w.ownsRow base e size v n xs := ok_row.1 (h.get i _ hi)
/-- a row of them grows -/
theorem Sep.push {base : Nat} {w w0 w' : World} {l : List Th} (h : Sep base w l) (i : Nat) (e : TypeId) (size : Nat) (v v' : Value) (n m : Nat) (xs ys : List Value) (hi : l[i]? = some (rowT e size v n xs)) (hb : Below w.heap.size w w0)
    (hg : w0.grownBy w' v.ownBlock) (ho : w'.ownsRow base e size v' m ys) (hv : v'.ownBlock = v.ownBlock ∨ v'.ownBlock = some w0.heap.size) : Sep base w' (l.set i (rowT e size v' m ys)) :=
  (h.below hb).set i _ _ hi hg (ok_row.2 ho) (fun k hk => by
    rcases hv with e | e
    · exact .inl (by rw [blk_row] at hk ⊢; rw [← e]; exact hk)
    · exact .inr (by rw [blk_row, e] at hk; injection hk with hk; omega))
theorem Sep.belowOut {W w w' : World} {l : List Th} (h : Sep W.heap.size w l) (hb : Below W.heap.size W w) (i : Nat) (T : Th) (hi : l[i]? = some T) (hg : w.grownBy w' T.blk) : Below W.heap.size W w' :=
  ⟨hg.os.trans hb.os, hg.tape.trans hb.tape, hg.output.trans hb.output, Nat.le_trans hb.size hg.size, fun k hk => (hg.block k (Nat.lt_of_lt_of_le hk hb.size) (fun e => by
    have := (th_lt (h.get i T hi) k e.symm).1; omega)).trans (hb.block k hk)⟩
end Go.Proofs.YtpeheppiolfpfaaDoor
namespace Go.Proofs.YtpeheppiolfpfaaDoor
open Go.RowKit Go.Lib
/-- things of one's own, apart; nothing below is turned -/
def SepB (W w : World) (l : List Th) : Prop := Sep W.heap.size w l ∧ Below W.heap.size W w
theorem SepB.below {W w w' : World} {l : List Th} (h : SepB W w l) (hb : Below w.heap.size w w') : SepB W w' l := ⟨h.1.below hb, h.2.trans (hb.mono h.2.size)⟩
theorem SepB.drew {W w : World} {l : List Th} (h : SepB W w l) : SepB W w.drew l := h.below (Below.drew (Below.refl _ _))
theorem SepB.alloc {W w : World} {l : List Th} (h : SepB W w l) (o : Obj) : SepB W (w.alloc o) l := h.below (below_alloc (Below.refl _ _) o)
theorem SepB.perm {W w : World} {l m : List Th} (h : SepB W w l) (hp : l.Perm m) : SepB W w m := ⟨h.1.perm hp, h.2⟩
theorem SepB.box {W w : World} {l : List Th} (h : SepB W w l) (i : Nat) (k : Nat) (cs : Array Value) (t : TypeId) (hi : l[i]? = some (boxT k cs t)) : W.heap.size ≤ k ∧ w.heap[k]? = some (.cells cs t (0, 0)) := h.1.box i k cs t hi
theorem SepB.row {W w : World} {l : List Th} (h : SepB W w l) (i : Nat) (e : TypeId) (size : Nat) (v : Value) (n : Nat) (xs : List Value) (hi : l[i]? = some (rowT e size v n xs)) : w.ownsRow W.heap.size e size v n xs := h.1.row i e size v n xs hi
theorem SepB.setBox {W w w' : World} {l : List Th} (h : SepB W w l) (i : Nat) (k : Nat) (cs cs' : Array Value) (t : TypeId) (hi : l[i]? = some (boxT k cs t)) (hg : w.grownBy w' (some k)) (hT : w'.heap[k]? = some (.cells cs' t (0, 0))) : SepB W w' (l.set i (boxT k cs' t)) :=
  ⟨h.1.setBox i k cs cs' t hi hg hT, h.1.belowOut h.2 i _ hi hg⟩
theorem SepB.push {W w w0 w' : World} {l : List Th} (h : SepB W w l) (i : Nat) (e : TypeId) (size : Nat) (v v' : Value) (n m : Nat) (xs ys : List Value) (hi : l[i]? = some (rowT e size v n xs)) (hb : Below w.heap.size w w0)
    (hg : w0.grownBy w' v.ownBlock) (ho : w'.ownsRow W.heap.size e size v' m ys) (hv : v'.ownBlock = v.ownBlock ∨ v'.ownBlock = some w0.heap.size) : SepB W w' (l.set i (rowT e size v' m ys)) :=
  ⟨h.1.push i e size v v' n m xs ys hi hb hg ho hv, (h.below hb).1.belowOut (h.below hb).2 i _ hi hg⟩
/-- a new box -/
theorem SepB.new {W w : World} {l : List Th} (h : SepB W w l) (cs : Array Value) (t : TypeId) (o : Obj) (ho : o = .cells cs t := by rfl) : SepB W (w.alloc o) (boxT w.heap.size cs t :: l) := by
  subst ho
  exact ⟨h.1.cons (below_alloc (Below.refl _ _) _) _ (ok_box.2 ⟨h.2.size, heap_alloc_new2 _ _ _ _ rfl⟩) (fun k hk => by rw [blk_box] at hk; injection hk with hk; omega), h.2.alloc h.2.size _⟩
/-- a row of none -/
theorem SepB.empty {W w : World} {l : List Th} (h : SepB W w l) (e : TypeId) (size : Nat) : SepB W w (rowT e size (.slice none 0 0) 0 [] :: l) :=
  ⟨h.1.cons (Below.refl _ _) _ (ok_row.2 (World.ownsRow_nil _ _ _ _)) (fun k hk => by rw [blk_row] at hk; cases hk), h.2⟩
/-- a cell of a box is written -/
theorem SepB.store {W w : World} {l : List Th} (h : SepB W w l) (i : Nat) (k : Nat) (cs : Array Value) (t : TypeId) (hi : l[i]? = some (boxT k cs t)) (j : Nat) (v : Value) : SepB W (w.setCell ⟨k, j, none⟩ v) (l.set i (boxT k (cs.setIfInBounds j v) t)) :=
  h.setBox i k cs _ t hi (gr_set w k j v) (heap_setCell_same _ _ j _ _ _ (h.box i k cs t hi).2)
theorem SepB.ne {W w : World} {l : List Th} (h : SepB W w l) (i j : Nat) (k k2 : Nat) (cs cs2 : Array Value) (t t2 : TypeId) (hij : i < j) (hi : l[i]? = some (boxT k cs t)) (hj : l[j]? = some (boxT k2 cs2 t2)) : k ≠ k2 := by
  intro e
  obtain ⟨hil, hie⟩ := List.getElem?_eq_some_iff.1 hi
  obtain ⟨hjl, hje⟩ := List.getElem?_eq_some_iff.1 hj
  have := List.pairwise_iff_getElem.1 h.1.2 i j hil hjl hij
  rw [hie, hje] at this
  exact this k rfl (by rw [blk_box, e])
end Go.Proofs.YtpeheppiolfpfaaDoor
namespace Go.Proofs.YtpeheppiolfpfaaDoor
open Go.RowKit Go.Lib
open Plain (Rg)
end Go.Proofs.YtpeheppiolfpfaaDoor
namespace Go.Proofs.YtpeheppiolfpfaaDoor
open Go.RowKit Go.Lib
open Plain (Rg)
theorem SepB.sub {W w : World} {l m : List Th} (h : SepB W w l) (hs : m.Sublist l) : SepB W w m := ⟨⟨fun T hT => h.1.1 T (hs.subset hT), h.1.2.sublist hs⟩, h.2⟩
theorem SepB.erase {W w : World} {l : List Th} (h : SepB W w l) (i : Nat) : SepB W w (l.eraseIdx i) := h.sub (List.eraseIdx_sublist _ _)
/-- the third one goes behind the next two -/
theorem SepB.move3 {W w : World} {a b c d e : Th} {l : List Th} (h : SepB W w (a :: b :: c :: d :: e :: l)) : SepB W w (a :: b :: d :: e :: c :: l) :=
  h.perm (.cons a (.cons b (.trans (.swap d c _) (.cons d (.swap e c _)))))
/-- the first two go behind the next two, the other way round -/
theorem SepB.move22 {W w : World} {a b c d : Th} {l : List Th} (h : SepB W w (a :: b :: c :: d :: l)) : SepB W w (c :: d :: b :: a :: l) :=
  h.perm (.trans (.cons a (.trans (.swap c b _) (.cons c (.swap d b _)))) (.trans (.swap c a _) (.cons c (.trans (.swap d a _) (.cons d (.swap b a _))))))
end Go.Proofs.YtpeheppiolfpfaaDoor
namespace Go.Proofs.YtpeheppiolfpfaaDoor
open Go.RowKit Go.Lib
open Plain (Rg)
end Go.Proofs.YtpeheppiolfpfaaDoor
namespace Go.Proofs.YtpeheppiolfpfaaDoor
open Go.RowKit Go.Lib
open Plain (Rg In4)
end Go.Proofs.YtpeheppiolfpfaaDoor
namespace Go.Proofs.YtpeheppiolfpfaaDoor
open Go.RowKit Go.Lib
open Plain (Rg In4)
end Go.Proofs.YtpeheppiolfpfaaDoor
namespace Go.Proofs.YtpeheppiolfpfaaDoor
open Go.RowKit Go.Lib
open Plain (Rg In4)
theorem SepB.nil (w : World) : SepB w w [] := ⟨Sep.nil _ _, Below.refl _ _⟩
end Go.Proofs.YtpeheppiolfpfaaDoor
namespace Go.Proofs.YtpeheppiolfpfaaDoor
open Go.RowKit Go.Lib
open Plain (Rg May mayB In Norm In4 slotsOf insB bnd riB cls cnot rightB normB)
theorem own_max {w : World} {base : Nat} {e : TypeId} {size : Nat} {v : Value} {n : Nat} {xs : List Value} (h : w.ownsRow base e size v n xs) : n ≤ maxLen := by
  rcases h.2 with ⟨_, hx⟩ | ⟨g, cap, cur, _, _, _, h1, h2, _⟩
  · rw [hx]; exact Nat.zero_le _
  · exact Nat.le_trans h1 h2
end Go.Proofs.YtpeheppiolfpfaaDoor
namespace Go.Proofs.YtpeheppiolfpfaaDoor
open Go.RowKit Go.Lib
open Plain (Rg May mayB In Norm In4 slotsOf insB bnd riB cls cnot rightB normB)
end Go.Proofs.YtpeheppiolfpfaaDoor
namespace Go.Proofs.YtpeheppiolfpfaaDoor
open Go.RowKit Go.Lib
open Plain (Rg May mayB In Norm In4 slotsOf insB bnd riB cls cnot rightB normB)
end Go.Proofs.YtpeheppiolfpfaaDoor
namespace Go.Proofs.YtpeheppiolfpfaaDoor
open Go.RowKit Go.Lib
theorem SepB.to5 {W w : World} {x a b c d e : Th} {l : List Th} (h : SepB W w (x :: a :: b :: c :: d :: e :: l)) : SepB W w (a :: b :: c :: d :: e :: x :: l) :=
  h.perm (.trans (.swap a x _) (.cons a (.trans (.swap b x _) (.cons b (.trans (.swap c x _) (.cons c (.trans (.swap d x _) (.cons d (.swap e x _)))))))))
end Go.Proofs.YtpeheppiolfpfaaDoor
namespace Go.Proofs.YtpeheppiolfpfaaDoor
open Go.RowKit Go.Lib
open Plain (Rg May mayB In Norm rightB)
end Go.Proofs.YtpeheppiolfpfaaDoor
namespace Go.Proofs.YtpeheppiolfpfaaDoor
open Go.RowKit
end Go.Proofs.YtpeheppiolfpfaaDoor
namespace Go.Proofs.YtpeheppiolfpfaaDoor
open Go.RowKit Go.Lib
end Go.Proofs.YtpeheppiolfpfaaDoor
namespace Go.Proofs.YtpeheppiolfpfaaDoor
open Go.RowKit Go.Lib
open Plain (Rg May mayB In Norm In4 slotsOf insB bnd riB)
end Go.Proofs.YtpeheppiolfpfaaDoor
namespace Go.Proofs.YtpeheppiolfpfaaDoor
open Go.RowKit Go.Lib
open Plain (Rg May mayB In Norm In4 slotsOf insB bnd riB rightB getD_lt)
end Go.Proofs.YtpeheppiolfpfaaDoor
namespace Go.Proofs.YtpeheppiolfpfaaDoor
open Go.RowKit Go.Lib
open Plain (Rg May mayB In Norm In4 slotsOf insB bnd riB rightB)
end Go.Proofs.YtpeheppiolfpfaaDoor
namespace Go.Proofs.YtpeheppiolfpfaaDoor
open Go.RowKit Go.Lib
open Plain (Rg May mayB In Norm rightB)
theorem info117 : (Tryd.prog.info? 91).map (fun i => (i.zero, i.size, i.bytes)) = some (some (.agg #[.int .i32 0, .int .i32 0]), 2, 8) := by kernel_rfl
theorem info118 : (Tryd.prog.info? 47).map (fun i => (i.zero, i.size, i.bytes)) = some (some (.agg #[.int .i64 0, .int .i64 0, .int .i64 0, .int .i64 0]), 4, 32) := by kernel_rfl
theorem info116 : (Tryd.prog.info? 64).map (fun i => (i.zero, i.size, i.bytes)) = some (some (.slice none 0 0), 1, 24) := by kernel_rfl
def RowRel (w : World) (n : Nat) (R : List Rg) (v i : Value) (wr : World) : Prop :=
  ∃ k : Nat, k ≤ n ∧ i = .int .i64 k ∧ wr.ownsRow w.heap.size 91 2 v k (rgs (R.take k)) ∧ Below w.heap.size w wr
theorem rclass_any {R : List Rg} {A : Option Addr} {n c : Nat} {w : World} (h : Rs w A R ∧ R.length = n ∧ True) (hn : n * 8 ≤ 140737488355328) : Calls Tryd.prog 27 #[.slice A n c] w fun e w' => ∃ A2 c2, e = .returned (.slice A2 n c2) ∧ w'.ownsRow w.heap.size 91 2 (.slice A2 n c2) n (rgs R) ∧ Below w.heap.size w w' := by
  obtain ⟨i117, hi117, y0, y1, y2⟩ := info_parts info117
  have HX := Lib.hid h.1
  have HR := Lib.hid h.2.1
  clear h
  go_enter Tryd.func27, Tryd.ntmps27
  go_wp2_with fail
  go_loopw [3, 4] (fun v i wr => RowRel w n R v i wr) (fun _ i _ => n - (RowKit.intOf i).toNat)
  case atStart => exact ⟨0, Nat.zero_le _, rfl, World.ownsRow_nil _ _ _ _, Below.refl _ _⟩
  case round =>
    obtain ⟨k, hk, rfl, hO, hB⟩ := hrel
    obtain ⟨ua, uc, rfl⟩ := own_slice hO
    have HO := Lib.hid hO
    have HB := Lib.hid hB
    clear hO hB
    by_cases hlt : k < n
    · have hkl : k < R.length := by rw [HR.out]; exact hlt
      obtain ⟨ba, off, rfl, hba0, d0, d1⟩ := HX.out.get k hkl
      obtain ⟨x, hx⟩ : ∃ x, R[k] = x := ⟨_, rfl⟩
      have hnext : rgs (R.take (k + 1)) = rgs (R.take k) ++ [.int .i32 x.1, .int .i32 x.2] := by
        rw [List.take_succ_eq_append_getElem hkl, hx, rgs_append]; rfl
      rw [hx] at d0 d1
      obtain ⟨lo, hi⟩ := x
      dsimp only at d0 d1 hnext
      have HNX := Lib.hid hnext
      have c0 := (HB.out.cell (p := ⟨ba, off + k * 2, none⟩) hba0).trans d0
      have c1 := (HB.out.cell (p := ⟨ba, off + k * 2 + 1, none⟩) hba0).trans d1
      have hba := Nat.lt_of_lt_of_le hba0 HB.out.size
      have HD0 := Lib.hid d0
      have HD1 := Lib.hid d1
      have HBA0 := Lib.hid hba0
      clear hnext hx d0 d1 hba0
      go_upto_region 5 with fail
      go_region_held3 (fun w' => w'.cell? ⟨ba, off + k * 2, none⟩ = some (.int .i32 lo) ∧ w'.cell? ⟨ba, off + k * 2 + 1, none⟩ = some (.int .i32 hi)) (first | go_keep | exact ⟨(hBn.cell (p := ⟨ba, off + k * 2, none⟩) HBA0.out).trans HD0.out, (hBn.cell (p := ⟨ba, off + k * 2 + 1, none⟩) HBA0.out).trans HD1.out⟩)
        ((rw [if_pos (by rfl)]; refine oper_append_own2 _ (.tmp 11) (.tmp 23) _ rfl w.heap.size 91 i117 _ 2 8 Tryd.underlying64 hi117 y0 y1 y2 rfl (by decide) (.slice ua k uc) k (rgs (R.take k)) rfl (own_below HO.out ((Below.refl _ _).drew.alloc (by simp) _)) ⟨wr.heap.size, 0, none⟩ 1 1 [.int .i32 lo, .int .i32 hi] rfl rfl (CellsAt_add (CellsAt.new wr.drew _ _)) (by intro u hu; simp only [List.mem_cons, List.not_mem_nil, or_false] at hu; rcases hu with rfl | rfl <;> rfl) (by simp only [maxLen]; omega) (by omega) (by have := HB.out.size; simp; omega) ?_; intro v3 w7 hown2 hg2 hvb; have hBn : Below w.heap.size w w7 := ((HB.out.drew).alloc HB.out.size _).grown hg2 (by have := HB.out.size; simp; omega) (fun g hg => (HO.out.lt g hg).1)))
      have HBn := Lib.hid hBn
      have HO7 := Lib.hid hown2
      clear hBn hg2 hown2 hvb c0 c1
      go_wp2
      go_roundw
      case rel =>
        refine ⟨k + 1, by omega, by go_num, ?_, HBn.out⟩
        rw [HNX.out]
        exact HO7.out
      case measure => simp [RowKit.intOf]; omega
    · obtain rfl : k = n := by omega
      have hT : R.take k = R := List.take_of_length_le (by rw [HR.out]; exact Nat.le_refl _)
      have HT := Lib.hid hT
      clear hT
      go_wp2
      go_ret
      refine ⟨ua, uc, rfl, ?_, HB.out⟩
      have h := HO.out
      rw [HT.out] at h
      exact h
end Go.Proofs.YtpeheppiolfpfaaDoor
namespace Go.Proofs.YtpeheppiolfpfaaDoor
open Go.RowKit Go.Lib
open Plain (Rg May mayB In Norm In4 slotsOf insB bnd riB rightB)
/-- a class's own row, of the document's ranges -/
def clsX (x : Cs) : Th := rowT 91 2 (clV x) x.R.length (rgs x.R)
theorem cons_own {W w w' : World} {l : List Th} (h : SepB W w l) (hb : Below w.heap.size w w') {e : TypeId} {size : Nat} {v : Value} {n : Nat} {xs : List Value} (ho : w'.ownsRow w.heap.size e size v n xs) : SepB W w' (rowT e size v n xs :: l) :=
  ⟨h.1.cons hb _ (ok_row.2 (own_base ho h.2.size)) (fun k hk => (ho.lt k (by rw [blk_row] at hk; exact hk)).1), (h.below hb).2⟩
set_option maxRecDepth 1000000 in
set_option maxHeartbeats 8000000 in
theorem rprog_copy (I C : Option Addr) (L : List In4) (K : List Cs) (c d : Nat) (g : Int) (w : World) (hP : PgAt w I L C K) (hI : L.length * 32 ≤ 140737488355328) (hK : K.length * 24 ≤ 140737488355328) (hE : ∀ x ∈ K, x.R.length * 8 ≤ 140737488355328) :
    Calls Tryd.prog 11 #[pgV I L.length c C K.length d g] w fun e w' => ∃ I2 c2 C2 d2 K2, K2.map Cs.R = K.map Cs.R ∧ e = .returned (pgV I2 L.length c2 C2 K2.length d2 g) ∧ PgAt w' I2 L C2 K2 ∧ Below w.heap.size w w' := by
  have HP := Lib.hid (fun (w' : World) (hb : Below w.heap.size w w') => hP.below hb)
  have HE := Lib.hid hE
  obtain ⟨i118, hi118, y0, y1, y2⟩ := info_parts info118
  obtain ⟨i116, hi116, z0, z1, z2⟩ := info_parts info116
  unfold pgV
  obtain ⟨n, hn⟩ : ∃ x, L.length = x := ⟨_, rfl⟩
  obtain ⟨m, hm⟩ : ∃ x, K.length = x := ⟨_, rfl⟩
  have HN := Lib.hid hn
  have HM := Lib.hid hm
  rw [hn] at hI ⊢
  rw [hm] at hK ⊢
  clear hn hm hP hE
  go_enter Tryd.func11, Tryd.ntmps11
  go_wp2_with fail
  have hq := (((SepB.nil w).new #[.slice I n c, .slice C m d, .int .i64 g] 25 (.cells #[.slice I n c, .slice C m d, .int .i64 g] 25)).new #[.slice none 0 0, .slice none 0 0, .int .i64 0] 36 (.cells #[.slice none 0 0, .slice none 0 0, .int .i64 0] 36)).new #[.slice none 0 0, .slice none 0 0, .int .i64 g] 36 (.cells #[.slice none 0 0, .slice none 0 0, .int .i64 g] 36)
  obtain ⟨wz, hwz⟩ : ∃ x, (((w.alloc (.cells #[.slice I n c, .slice C m d, .int .i64 g] 25)).alloc (.cells #[.slice none 0 0, .slice none 0 0, .int .i64 0] 36)).alloc (.cells #[.slice none 0 0, .slice none 0 0, .int .i64 g] 36)) = x := ⟨_, rfl⟩
  simp only [World.size_alloc] at hq
  rw [hwz] at hq ⊢
  obtain ⟨pb, hpb⟩ : ∃ x, w.heap.size = x := ⟨_, rfl⟩
  obtain ⟨tb, htb⟩ : ∃ x, w.heap.size + 1 = x := ⟨_, rfl⟩
  obtain ⟨rb, hrb⟩ : ∃ x, w.heap.size + 1 + 1 = x := ⟨_, rfl⟩
  rw [hrb, htb, hpb] at hq
  rw [hrb, htb, hpb]
  have hq1 := ((hq.empty 47 4).perm (List.perm_append_comm (l₁ := [_]) (l₂ := [_, _, _])))
  have HQ1 := Lib.hid (show SepB w wz [boxT rb #[.slice none 0 0, .slice none 0 0, .int .i64 g] 36, boxT tb #[.slice none 0 0, .slice none 0 0, .int .i64 0] 36, boxT pb #[.slice I n c, .slice C m d, .int .i64 g] 25, rowT 47 4 (.slice none 0 0) 0 []] from hq1)
  have HPB := Lib.hid (And.intro hpb (And.intro htb hrb))
  clear hq hq1 hwz hpb htb hrb
  go_loopw [4, 5] (fun i _ wr => ∃ (j : Nat) (A : Option Addr) (cA : Nat), j ≤ n ∧ i = .int .i64 j ∧ SepB w wr [boxT rb #[.slice A j cA, .slice none 0 0, .int .i64 g] 36, boxT tb #[.slice none 0 0, .slice none 0 0, .int .i64 0] 36, boxT pb #[.slice I n c, .slice C m d, .int .i64 g] 25, rowT 47 4 (.slice A j cA) j (i4s (L.take j))]) (fun i _ _ => n - (RowKit.intOf i).toNat)
  case atStart => exact ⟨0, none, 0, Nat.zero_le _, rfl, by rw [List.take_zero]; exact HQ1.out⟩
  clear HQ1
  case round =>
    obtain ⟨j, A, cA, hj, rfl, hq⟩ := hrel
    have HQ := Lib.hid hq
    clear hq
    obtain ⟨⟨m0, m1, m2⟩, f0, f1⟩ := (⟨blk_cells3 (HQ.out.box 0 _ _ _ rfl).2, blk_frozen (HQ.out.box 0 _ _ _ rfl).2 0, blk_frozen (HQ.out.box 0 _ _ _ rfl).2 1⟩ : _ ∧ _ ∧ _)
    obtain ⟨p0, p1, p2⟩ := blk_cells3 (HQ.out.box 2 _ _ _ rfl).2
    have hlw := lt_of_some (HQ.out.box 0 _ _ _ rfl).2
    have hlp := lt_of_some (HQ.out.box 2 _ _ _ rfl).2
    by_cases hjn : j < n
    · have hkl : j < L.length := by rw [HN.out]; exact hjn
      obtain ⟨ib, io, he, hib, c0, c1, c2, c3⟩ := i4_at ((HP.out wr HQ.out.2).insts) j hkl
      subst he
      have hnx : i4s (L.take (j + 1)) = i4s (L.take j) ++ i4c L[j] := by rw [List.take_succ_eq_append_getElem hkl, i4s_append]; unfold i4s; simp
      obtain ⟨⟨op, x, y, ar⟩, hx⟩ : ∃ x, L[j] = x := ⟨_, rfl⟩
      rw [hx] at c0 c1 c2 c3 hnx
      dsimp only at c0 c1 c2 c3
      have HNX := Lib.hid hnx
      clear hnx hx
      go_upto_region 6 with fail
      have hx5 := heap_alloc_new2 wr (.cells #[.int .i64 (op : Int), .int .i64 x, .int .i64 y, .int .i64 ar] 30) wr.heap.size _ rfl
      have hq5 := HQ.out.alloc (.cells #[.int .i64 (op : Int), .int .i64 x, .int .i64 y, .int .i64 ar] 30)
      obtain ⟨w5, hw5⟩ : ∃ z, wr.alloc (.cells #[.int .i64 (op : Int), .int .i64 x, .int .i64 y, .int .i64 ar] 30) = z := ⟨_, rfl⟩
      rw [hw5] at hx5 hq5 ⊢
      obtain ⟨xb, hxb⟩ : ∃ z, wr.heap.size = z := ⟨_, rfl⟩
      rw [hxb] at hx5 ⊢
      clear hw5 hxb c0 c1 c2 c3 m0 m1 m2 p0 p1 p2 f0 f1 hlw hlp
      have k0 := (cells_of hx5).at_ 0 _ rfl
      have k1 := (cells_of hx5).at_ 1 _ rfl
      have k2 := (cells_of hx5).at_ 2 _ rfl
      have k3 := (cells_of hx5).at_ 3 _ rfl
      have hlx := lt_of_some hx5
      have HQ5 := Lib.hid hq5
      obtain ⟨⟨m0, m1, m2⟩, f0, f1⟩ := (⟨blk_cells3 (HQ5.out.box 0 _ _ _ rfl).2, blk_frozen (HQ5.out.box 0 _ _ _ rfl).2 0, blk_frozen (HQ5.out.box 0 _ _ _ rfl).2 1⟩ : _ ∧ _ ∧ _)
      have hlw := lt_of_some (HQ5.out.box 0 _ _ _ rfl).2
      clear hx5 hq5
      go_wp2_with (at_builtin; refine wpList_append_own2 _ rfl (.tmp 23) (.tmp 33) _ rfl w.heap.size 47 i118 _ 4 32 Tryd.underlying33 hi118 y0 y1 y2 rfl (by decide) (.slice A j cA) j (i4s (L.take j)) rfl ((HQ5.out.alloc _).row 3 _ _ _ _ _ rfl) ⟨w5.heap.size, 0, none⟩ 1 1 [.int .i64 op, .int .i64 x, .int .i64 y, .int .i64 ar] rfl rfl (CellsAt_add (CellsAt.new w5 _ _)) ?c2 ?c3 ?c4 ?c5 ?_)
      case c2 => intro u hu; simp at hu; rcases hu with rfl | rfl | rfl | rfl <;> rfl
      case c3 => unfold maxLen; omega
      case c4 => omega
      case c5 => exact (HQ5.out.alloc _).2.size
      intro va w6 ho hg hv
      have hbx := below_alloc (Below.refl w5.heap.size w5) (.cells #[.int .i64 (op : Int), .int .i64 x, .int .i64 y, .int .i64 ar] 47)
      have hq2 := HQ5.out.push 3 47 4 _ _ _ _ _ _ rfl hbx hg ho (by simpa using hv)
      rw [show i4s (L.take j) ++ [.int .i64 op, .int .i64 x, .int .i64 y, .int .i64 ar] = i4s (L.take (j + 1)) from HNX.out.symm] at hq2 ho
      obtain ⟨gA, cA2, rfl, _⟩ := own_at ho (by omega)
      simp only [List.set_cons_succ, List.set_cons_zero] at hq2
      obtain ⟨⟨m0, m1, m2⟩, f0, f1⟩ := (⟨blk_cells3 (hq2.box 0 _ _ _ rfl).2, blk_frozen (hq2.box 0 _ _ _ rfl).2 0, blk_frozen (hq2.box 0 _ _ _ rfl).2 1⟩ : _ ∧ _ ∧ _)
      have hlw := lt_of_some (hq2.box 0 _ _ _ rfl).2
      have HST := Lib.hid (hq2.store 0 _ _ _ rfl 0 (.slice (some ⟨gA, 0, none⟩) (j + 1) cA2))
      clear hbx ho hg hv hq2 HQ5 k0 k1 k2 k3 hlx
      go_wp2_with fail
      go_roundw
      case rel => exact ⟨j + 1, some ⟨gA, 0, none⟩, cA2, by omega, by go_num, HST.out⟩
      case measure => simp [RowKit.intOf]; omega
    · obtain rfl : n = j := by omega
      have hTL : L.take n = L := List.take_of_length_le (by rw [HN.out]; exact Nat.le_refl _)
      have hq := HQ.out
      rw [hTL] at hq
      have hq3 := (hq.empty 64 1).perm (List.perm_append_comm (l₁ := [_]) (l₂ := [_, _, _, _]))
      have HQ3 := Lib.hid (show SepB w wr [boxT rb #[.slice A n cA, .slice none 0 0, .int .i64 g] 36, boxT tb #[.slice none 0 0, .slice none 0 0, .int .i64 0] 36, boxT pb #[.slice I n c, .slice C m d, .int .i64 g] 25, rowT 47 4 (.slice A n cA) n (i4s L), rowT 64 1 (.slice none 0 0) 0 []] from hq3)
      clear hTL hq hq3 HQ
      go_wp2_with fail
      clear m0 m1 m2 p0 p1 p2 f0 f1 hlw hlp
      go_loopw [6] (fun i wr => ∃ (k : Nat) (B : Option Addr) (dB : Nat) (K2 : List Cs), k ≤ m ∧ i = .int .i64 k ∧ K2.map Cs.R = (K.take k).map Cs.R ∧ K2.length = k ∧ SepB w wr (boxT rb #[.slice A n cA, .slice B k dB, .int .i64 g] 36 :: boxT tb #[.slice none 0 0, .slice none 0 0, .int .i64 0] 36 :: boxT pb #[.slice I n c, .slice C m d, .int .i64 g] 25 :: rowT 47 4 (.slice A n cA) n (i4s L) :: rowT 64 1 (.slice B k dB) k (K2.map clV) :: K2.reverse.map clsX)) (fun i _ => m - (RowKit.intOf i).toNat)
      case atStart => exact ⟨0, none, 0, [], Nat.zero_le _, rfl, rfl, rfl, HQ3.out⟩
      clear HQ3
      case round =>
        obtain ⟨k, B, dB, K2, hk, rfl, hKR, hKl, hq⟩ := hrel
        have HQ := Lib.hid hq
        have HK2 := Lib.hid (And.intro hKl hKR)
        clear hq hKR hKl
        obtain ⟨⟨m0, m1, m2⟩, f0, f1⟩ := (⟨blk_cells3 (HQ.out.box 0 _ _ _ rfl).2, blk_frozen (HQ.out.box 0 _ _ _ rfl).2 0, blk_frozen (HQ.out.box 0 _ _ _ rfl).2 1⟩ : _ ∧ _ ∧ _)
        obtain ⟨p0, p1, p2⟩ := blk_cells3 (HQ.out.box 2 _ _ _ rfl).2
        have hlw := lt_of_some (HQ.out.box 0 _ _ _ rfl).2
        have hlp := lt_of_some (HQ.out.box 2 _ _ _ rfl).2
        by_cases hkm : k < m
        · have hkl : k < K.length := by rw [HM.out]; exact hkm
          obtain ⟨gc, oc, he, hgc, hcc⟩ := (HP.out w (Below.refl _ _)).cls (by rw [List.length_map]; omega)
          subst he
          have hcc2 := hcc k (clV K[k]) (by rw [List.getElem?_map, List.getElem?_eq_getElem hkl]; rfl)
          have hex := (HP.out w (Below.refl _ _)).each K[k] (List.getElem_mem _)
          have hrb8 := HE.out K[k] (List.getElem_mem _)
          have htk : (K.take (k + 1)).map Cs.R = (K.take k).map Cs.R ++ [K[k].R] := by rw [List.take_succ_eq_append_getElem hkl, List.map_append]; rfl
          obtain ⟨⟨RA, xc, R⟩, hx⟩ : ∃ x, K[k] = x := ⟨_, rfl⟩
          rw [hx] at hcc2 hex hrb8 htk
          unfold clV at hcc2
          dsimp only at hcc2 hex hrb8 htk
          obtain ⟨rn, hrn⟩ : ∃ z, R.length = z := ⟨_, rfl⟩
          have HRN := Lib.hid hrn
          rw [hrn] at hcc2 hrb8
          have HTK := Lib.hid htk.symm
          have HGC := Lib.hid hgc
          have HCC := Lib.hid hcc2
          have CK := Lib.hid (fun (W : World) (hb : Below w.heap.size w W) => rclass_any (w := W) (c := xc) (n := rn) ⟨hex.1.below hb, hrn, trivial⟩ hrb8)
          clear hcc hcc2 hex hrb8 htk hx hrn
          go_upto_region 10 with fail
          have hsd := HQ.out.drew
          obtain ⟨wd, hwd⟩ : ∃ z, wr.drew = z := ⟨_, rfl⟩
          rw [hwd] at hsd
          have HSD := Lib.hid hsd
          have HZD := Lib.hid (⟨(cells_of (HSD.out.box 0 _ _ _ rfl).2).at_ 1 _ rfl, (cells_of (HSD.out.box 2 _ _ _ rfl).2).at_ 1 _ rfl, (HSD.out.2.cell (p := ⟨gc, oc + k, none⟩) HGC.out).trans HCC.out⟩ : wd.cell? ⟨rb, 1, none⟩ = some (.slice B k dB) ∧ wd.cell? ⟨pb, 1, none⟩ = some (.slice (some ⟨gc, oc, none⟩) m d) ∧ wd.cell? ⟨gc, oc + k, none⟩ = some (.slice RA rn xc))
          have HF := Lib.hid (fun (w' : World) (h : w'.cell? ⟨rb, 1, none⟩ = some (.slice B k dB) ∧ w'.cell? ⟨pb, 1, none⟩ = some (.slice (some ⟨gc, oc, none⟩) m d) ∧ w'.cell? ⟨gc, oc + k, none⟩ = some (.slice RA rn xc)) => h)
          clear hsd m0 m1 m2 f0 f1 p0 p1 p2 hlw hlp
          refine wp_region_noPanic ?_
          refine wp_region_T 10 (S := fun w' : World => w'.cell? ⟨rb, 1, none⟩ = some (.slice B k dB) ∧ w'.cell? ⟨pb, 1, none⟩ = some (.slice (some ⟨gc, oc, none⟩) m d) ∧ w'.cell? ⟨gc, oc + k, none⟩ = some (.slice RA rn xc)) (by kernel_rfl) (by decide) ?_
          rw [hwd]
          clear hwd
          refine wpAnyT_take2 0 (v := ?tvq1) (by kernel_rfl) rfl (by kernel_rfl) (fun _ _ _ h => h) (Or.inl ⟨by rfl, ?tyq1⟩) HZD.out ?trq1
          case tyq1 => (intro w' hSw; (try dsimp only at hSw); go_simp; try with_reducible rfl)
          try simp only [Act.put, List.setIfInBounds_toArray, List.set_cons_zero, List.set_cons_succ]
          refine wpAnyT_take2 1 (v := ?tvq2) (by kernel_rfl) rfl (by kernel_rfl) (fun _ _ _ h => h) (Or.inl ⟨by rfl, ?tyq2⟩) HZD.out ?trq2
          case tyq2 => (intro w' hSw; obtain ⟨p0, p1, p2⟩ := HF.out w' hSw; (try dsimp only at hSw); go_simp; try with_reducible rfl)
          try simp only [Act.put, List.setIfInBounds_toArray, List.set_cons_zero, List.set_cons_succ]
          refine wpAnyT_take2 2 (v := ?tvq3) (by kernel_rfl) rfl (by kernel_rfl) (fun _ _ _ h => h) (Or.inl ⟨by rfl, ?tyq3⟩) HZD.out ?trq3
          case tyq3 => (intro w' hSw; (try dsimp only at hSw); go_simp; try with_reducible rfl)
          try simp only [Act.put, List.setIfInBounds_toArray, List.set_cons_zero, List.set_cons_succ]
          refine wpAnyT_take2 3 (v := ?tvq4) (by kernel_rfl) rfl (by kernel_rfl) (fun _ _ _ h => h) (Or.inl ⟨by rfl, ?tyq4⟩) HZD.out ?trq4
          case tyq4 => (intro w' hSw; obtain ⟨p0, p1, p2⟩ := HF.out w' hSw; (try dsimp only at hSw); go_simp; try with_reducible rfl)
          try simp only [Act.put, List.setIfInBounds_toArray, List.set_cons_zero, List.set_cons_succ]
          refine wpAnyT_take2 4 (v := ?tvq5) (by kernel_rfl) rfl (by kernel_rfl) (fun _ _ _ h => h) (Or.inl ⟨by rfl, ?tyq5⟩) HZD.out ?trq5
          case tyq5 => (intro w' hSw; (try dsimp only at hSw); go_simp; try with_reducible rfl)
          try simp only [Act.put, List.setIfInBounds_toArray, List.set_cons_zero, List.set_cons_succ]
          refine wpAnyT_take2 5 (v := ?tvq6) (by kernel_rfl) rfl (by kernel_rfl) (fun _ _ _ h => h) (Or.inl ⟨by rfl, ?tyq6⟩) HZD.out ?trq6
          case tyq6 => (intro w' hSw; (try dsimp only at hSw); go_simp; try with_reducible rfl)
          try simp only [Act.put, List.setIfInBounds_toArray, List.set_cons_zero, List.set_cons_succ]
          refine wpAnyT_take2 6 (v := ?tvq7) (by kernel_rfl) rfl (by kernel_rfl) (fun _ _ _ h => h) (Or.inl ⟨by rfl, ?tyq7⟩) HZD.out ?trq7
          case tyq7 => (intro w' hSw; obtain ⟨p0, p1, p2⟩ := HF.out w' hSw; (try dsimp only at hSw); go_simp; try with_reducible rfl)
          try simp only [Act.put, List.setIfInBounds_toArray, List.set_cons_zero, List.set_cons_succ]
          refine wpAnyT_one2 7 rfl (by kernel_rfl) ?_
          intro K' hK'
          rw [if_pos (by rfl)]
          have HK := Lib.hid hK'
          clear hK'
          go_wp2_with (go_at_call 27; refine (CK.out _ HSD.out.2).mono ?_; rintro eq8 wq8 ⟨A2, c2, rfl, ho, hb⟩)
          have HSq8 := Lib.hid (cons_own HSD.out hb ho)
          clear hb ho
          have HZq8 := Lib.hid (⟨(cells_of (HSq8.out.box 1 _ _ _ rfl).2).at_ 1 _ rfl, (cells_of (HSq8.out.box 3 _ _ _ rfl).2).at_ 1 _ rfl, (HSq8.out.2.cell (p := ⟨gc, oc + k, none⟩) HGC.out).trans HCC.out⟩ : _ ∧ _ ∧ _)
          refine HK.out _ _ ⟨HZq8.out, ?_⟩
          clear HK K'
          try simp only [Act.put, List.setIfInBounds_toArray, List.set_cons_zero, List.set_cons_succ]
          refine wpAnyT_one2 8 rfl (by kernel_rfl) ?_
          intro K' hK'
          rw [if_pos (by rfl)]
          have HK := Lib.hid hK'
          clear hK'
          go_simp
          have HSq9 := Lib.hid (HSq8.out.alloc (.cells #[.slice A2 rn c2] 64))
          have HZq9 := Lib.hid (⟨(cells_of (HSq9.out.box 1 _ _ _ rfl).2).at_ 1 _ rfl, (cells_of (HSq9.out.box 3 _ _ _ rfl).2).at_ 1 _ rfl, (HSq9.out.2.cell (p := ⟨gc, oc + k, none⟩) HGC.out).trans HCC.out⟩ : _ ∧ _ ∧ _)
          refine HK.out _ _ ⟨HZq9.out, ?_⟩
          clear HK K'
          try simp only [Act.put, List.setIfInBounds_toArray, List.set_cons_zero, List.set_cons_succ]
          refine wpAnyT_one2 9 rfl (by kernel_rfl) ?_
          intro K' hK'
          rw [if_pos (by rfl)]
          have HK := Lib.hid hK'
          clear hK'
          refine oper_append_own2 _ (.tmp 44) (.tmp 51) _ rfl w.heap.size 64 i116 _ 1 24 Tryd.underlying34 hi116 z0 z1 z2 rfl (by decide) (.slice B k dB) k (K2.map clV) rfl (HSq9.out.row 5 _ _ _ _ _ rfl) ⟨wq8.heap.size, 0, none⟩ 1 1 [.slice A2 rn c2] rfl rfl (CellsAt_add (CellsAt.new wq8 _ _)) (by intro u hu; simp at hu; rcases hu with rfl; rfl) (by unfold maxLen; omega) (by omega) HSq9.out.2.size ?_
          intro va wq10 ho hg hv
          have hq2 := HSq9.out.push 5 64 1 _ _ _ _ _ _ rfl (Below.refl _ _) hg ho hv
          obtain ⟨gB, cB2, rfl, _⟩ := own_at ho (by omega)
          simp only [List.set_cons_succ, List.set_cons_zero] at hq2
          have HSq10 := Lib.hid hq2
          clear ho hg hv hq2
          have HZq10 := Lib.hid (⟨(cells_of (HSq10.out.box 1 _ _ _ rfl).2).at_ 1 _ rfl, (cells_of (HSq10.out.box 3 _ _ _ rfl).2).at_ 1 _ rfl, (HSq10.out.2.cell (p := ⟨gc, oc + k, none⟩) HGC.out).trans HCC.out⟩ : _ ∧ _ ∧ _)
          refine HK.out _ _ ⟨HZq10.out, ?_⟩
          clear HK K'
          try simp only [Act.put, List.setIfInBounds_toArray, List.set_cons_zero, List.set_cons_succ]
          obtain ⟨⟨m0, m1, m2⟩, f1⟩ := (⟨blk_cells3 (HSq10.out.box 1 _ _ _ rfl).2, blk_frozen (HSq10.out.box 1 _ _ _ rfl).2 1⟩ : _ ∧ _)
          have hlw := lt_of_some (HSq10.out.box 1 _ _ _ rfl).2
          have hst := HSq10.out.store 1 rb _ _ rfl 1 (.slice (some ⟨gB, 0, none⟩) (k + 1) cB2)
          have HST := Lib.hid hst
          clear hst
          refine ⟨by kernel_rfl, ?_⟩
          change wpList _ _ _ [_, _] _ _
          go_wp2
          refine NoPanic.normal ?_
          go_wp2_with fail
          go_roundw
          case rel =>
            refine ⟨k + 1, some ⟨gB, 0, none⟩, cB2, K2 ++ [⟨A2, c2, R⟩], by omega, by go_num, by rw [List.map_append, HK2.out.2]; exact HTK.out, by rw [List.length_append, HK2.out.1]; rfl, ?_⟩
            rw [List.map_append, List.reverse_append, List.map_append]
            have hfin : SepB w _ (boxT rb #[.slice A n cA, .slice (some ⟨gB, 0, none⟩) (k + 1) cB2, .int .i64 g] 36 :: boxT tb #[.slice none 0 0, .slice none 0 0, .int .i64 0] 36 :: boxT pb #[.slice I n c, .slice (some ⟨gc, oc, none⟩) m d, .int .i64 g] 25 :: rowT 47 4 (.slice A n cA) n (i4s L) :: rowT 64 1 (.slice (some ⟨gB, 0, none⟩) (k + 1) cB2) (k + 1) (K2.map clV ++ [.slice A2 rn c2]) :: rowT 91 2 (.slice A2 rn c2) rn (rgs R) :: K2.reverse.map clsX) := HST.out.to5
            rw [← HRN.out] at hfin
            exact hfin
          case measure => simp [RowKit.intOf]; omega
        · obtain rfl : m = k := by omega
          have hTK : K.take m = K := List.take_of_length_le (by rw [HM.out]; exact Nat.le_refl _)
          have hkr := HK2.out.2
          rw [hTK] at hkr
          have hPg : ∀ w' T0 T1 T2, SepB w w' (T0 :: T1 :: T2 :: rowT 47 4 (.slice A n cA) n (i4s L) :: rowT 64 1 (.slice B m dB) m (K2.map clV) :: K2.reverse.map clsX) → PgAt w' A L B K2 := fun w' T0 T1 T2 hq => by
            refine ⟨own_SlN (hq.row 3 _ _ _ _ _ rfl) (fun h => by rw [i4s_len, HN.out] at h; omega), own_SlN (hq.row 4 _ _ _ _ _ rfl) (fun h => by rw [List.length_map, HK2.out.1] at h; exact h), fun x hx => ?_, by rw [HN.out]; unfold maxLen; omega, by rw [HK2.out.1]; unfold maxLen; omega⟩
            have ho := hq.1.1 (clsX x) (by simp only [List.mem_cons]; exact .inr (.inr (.inr (.inr (.inr (List.mem_map.2 ⟨x, List.mem_reverse.2 hx, rfl⟩))))))
            unfold clsX clV at ho
            rw [ok_row] at ho
            exact ⟨Rs.of_own ho rfl, own_max ho⟩
          have HPG := Lib.hid hPg
          have HKR := Lib.hid hkr
          obtain ⟨⟨n0, n1, n2⟩, e0, e1⟩ := (⟨blk_cells3 (HQ.out.box 1 _ _ _ rfl).2, blk_frozen (HQ.out.box 1 _ _ _ rfl).2 0, blk_frozen (HQ.out.box 1 _ _ _ rfl).2 1⟩ : _ ∧ _ ∧ _)
          have e2 := blk_frozen (HQ.out.box 1 _ _ _ rfl).2 2
          have hlt := lt_of_some (HQ.out.box 1 _ _ _ rfl).2
          clear hTK hkr hPg
          have hss := ((HQ.out.store 1 tb _ _ rfl 0 (.slice A n cA)).store 1 tb _ _ rfl 1 (.slice B m dB)).store 1 tb _ _ rfl 2 (.int .i64 g)
          have HSS := Lib.hid hss
          obtain ⟨r0, r1, r2⟩ := blk_cells3 (hss.box 1 _ _ _ rfl).2
          clear hss
          go_wp2
          refine bodyPost_ret (v := .agg #[.slice A n cA, .slice B m dB, .int .i64 g]) (by simp [results, Tryd.results11, go_sem, r0, r1, r2]) rfl ⟨A, cA, B, dB, K2, HKR.out, by rw [HK2.out.1], HPG.out _ _ _ _ HSS.out, HSS.out.2⟩
end Go.Proofs.YtpeheppiolfpfaaDoor
namespace Go.Proofs.YtpeheppiolfpfaaDoor
open Go.RowKit Go.Lib
end Go.Proofs.YtpeheppiolfpfaaDoor
namespace Go.Proofs.YtpeheppiolfpfaaDoor
open Go.RowKit Go.Lib
end Go.Proofs.YtpeheppiolfpfaaDoor
namespace Go.Proofs.YtpeheppiolfpfaaDoor
open Go.RowKit Go.Lib
end Go.Proofs.YtpeheppiolfpfaaDoor
