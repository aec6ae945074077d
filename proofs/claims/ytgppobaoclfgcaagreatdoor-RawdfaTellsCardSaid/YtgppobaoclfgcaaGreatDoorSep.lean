/- Things that lie apart. Conditions: what each lemma says. -/
import Derived.Test.YtgppobaoclfgcaaGreatDoorKit
import Derived.Test.YtgppobaoclfgcaaGreatDoorPgA
set_option linter.unusedVariables false
set_option linter.unusedSimpArgs false
namespace Go.Proofs.YtgppobaoclfgcaaGreatDoor
open Go.RowKit Go.Lib
theorem gr_set (w : World) (g j : Nat) (v : Value) : w.grownBy (w.setCell ⟨g, j, none⟩ v) (some g) :=
  ⟨rfl, rfl, rfl, by simp, fun k _ hn => heap_setCell_other w ⟨g, j, none⟩ k v (fun e => hn (by rw [e]))⟩
end Go.Proofs.YtgppobaoclfgcaaGreatDoor
namespace Go.Proofs.YtgppobaoclfgcaaGreatDoor
open Go.RowKit Go.Lib
end Go.Proofs.YtgppobaoclfgcaaGreatDoor
namespace Go.Proofs.YtgppobaoclfgcaaGreatDoor
open Go.RowKit Go.Lib
end Go.Proofs.YtgppobaoclfgcaaGreatDoor
namespace Go.Proofs.YtgppobaoclfgcaaGreatDoor
open Go.RowKit Go.Lib
end Go.Proofs.YtgppobaoclfgcaaGreatDoor
namespace Go.Proofs.YtgppobaoclfgcaaGreatDoor
open Go.RowKit Go.Lib
end Go.Proofs.YtgppobaoclfgcaaGreatDoor
namespace Go.Proofs.YtgppobaoclfgcaaGreatDoor
open Go.RowKit Go.Lib
/-- a thing that lies in memory: a box, or a row of one's own -/
structure Th where
  kd : Bool
  k : Nat
  cs : Array Value
  t : TypeId
  size : Nat
  v : Value
  n : Nat
  xs : List Value
def boxT (k : Nat) (cs : Array Value) (t : TypeId) : Th := ⟨true, k, cs, t, 0, .bool false, 0, []⟩
def rowT (e : TypeId) (size : Nat) (v : Value) (n : Nat) (xs : List Value) : Th := ⟨false, 0, #[], e, size, v, n, xs⟩
def Th.blk (T : Th) : Option Nat := if T.kd then some T.k else T.v.ownBlock
def Th.ok (base : Nat) (w : World) (T : Th) : Prop := if T.kd = true then base ≤ T.k ∧ w.heap[T.k]? = some (.cells T.cs T.t (0, 0)) else w.ownsRow base T.t T.size T.v T.n T.xs
theorem ok_box {base : Nat} {w : World} {k : Nat} {cs : Array Value} {t : TypeId} : (boxT k cs t).ok base w ↔ base ≤ k ∧ w.heap[k]? = some (.cells cs t (0, 0)) := by unfold Th.ok boxT; simp
theorem ok_row {base : Nat} {w : World} {e : TypeId} {size : Nat} {v : Value} {n : Nat} {xs : List Value} : (rowT e size v n xs).ok base w ↔ w.ownsRow base e size v n xs := by unfold Th.ok rowT; simp
theorem blk_box (k : Nat) (cs : Array Value) (t : TypeId) : (boxT k cs t).blk = some k := rfl
theorem blk_row (e : TypeId) (size : Nat) (v : Value) (n : Nat) (xs : List Value) : (rowT e size v n xs).blk = v.ownBlock := rfl
theorem th_lt {base : Nat} {w : World} {T : Th} (h : T.ok base w) : ∀ k, T.blk = some k → base ≤ k ∧ k < w.heap.size := by
  intro k hk
  unfold Th.ok at h
  unfold Th.blk at hk
  split at h
  · rename_i hd
    rw [if_pos hd] at hk
    injection hk with hk
    subst hk
    exact ⟨h.1, lt_of_some h.2⟩
  · rename_i hd
    rw [if_neg hd] at hk
    exact h.lt k hk
theorem th_kept {base : Nat} {w w' : World} {T : Th} (h : T.ok base w) (hk : ∀ k, T.blk = some k → w'.heap[k]? = w.heap[k]?) : T.ok base w' := by
  unfold Th.ok at h ⊢
  unfold Th.blk at hk
  split at h
  · rename_i hd
    rw [if_pos hd]
    exact ⟨h.1, (hk T.k (by rw [if_pos hd])).trans h.2⟩
  · rename_i hd
    rw [if_neg hd]
    exact own_block h fun k hb => hk k (by rw [if_neg hd]; exact hb)
def Apart (A B : Th) : Prop := ∀ k, A.blk = some k → B.blk ≠ some k
theorem Apart.symm {A B : Th} (h : Apart A B) : Apart B A := fun k h1 h2 => h k h2 h1
/-- things that lie apart from one another -/
def Sep (base : Nat) (w : World) (l : List Th) : Prop := (∀ T ∈ l, T.ok base w) ∧ l.Pairwise Apart
theorem Sep.get {base : Nat} {w : World} {l : List Th} (h : Sep base w l) (i : Nat) (T : Th) (hi : l[i]? = some T) : T.ok base w := h.1 T (List.mem_of_getElem? hi)
theorem Sep.nil (base : Nat) (w : World) : Sep base w [] := ⟨fun _ h => absurd h (by simp), List.Pairwise.nil⟩
theorem Sep.perm {base : Nat} {w : World} {l m : List Th} (h : Sep base w l) (hp : l.Perm m) : Sep base w m :=
  ⟨fun T hT => h.1 T (hp.mem_iff.2 hT), (hp.pairwise_iff (fun h => h.symm)).1 h.2⟩
/-- nothing is turned but what is new -/
theorem Sep.below {base : Nat} {w w' : World} {l : List Th} (h : Sep base w l) (hb : Below w.heap.size w w') : Sep base w' l :=
  ⟨fun T hT => th_kept (h.1 T hT) fun k hk => hb.block k (th_lt (h.1 T hT) k hk).2, h.2⟩
/-- one more -/
theorem Sep.cons {base : Nat} {w w' : World} {l : List Th} (h : Sep base w l) (hb : Below w.heap.size w w') (T : Th) (hT : T.ok base w') (hn : ∀ k, T.blk = some k → w.heap.size ≤ k) : Sep base w' (T :: l) := by
  refine ⟨fun X hX => ?_, List.Pairwise.cons (fun X hX k h1 h2 => ?_) h.2⟩
  · rcases List.mem_cons.1 hX with e | hX
    · rw [e]; exact hT
    · exact (h.below hb).1 X hX
  · have := (th_lt (h.1 X hX) k h2).2
    have := hn k h1
    omega
theorem Sep.snoc {base : Nat} {w w' : World} {l : List Th} (h : Sep base w l) (hb : Below w.heap.size w w') (T : Th) (hT : T.ok base w') (hn : ∀ k, T.blk = some k → w.heap.size ≤ k) : Sep base w' (l ++ [T]) :=
  (h.cons hb T hT hn).perm (by have := (List.perm_append_comm (l₁ := [T]) (l₂ := l)); simpa using this)
/-- one of them is turned -/
theorem Sep.set {base : Nat} {w w' : World} {l : List Th} (h : Sep base w l) (i : Nat) (T T' : Th) (hi : l[i]? = some T) (hg : w.grownBy w' T.blk) (hT : T'.ok base w')
    (hn : ∀ k, T'.blk = some k → T.blk = some k ∨ w.heap.size ≤ k) : Sep base w' (l.set i T') := by
  obtain ⟨hil, hie⟩ := List.getElem?_eq_some_iff.1 hi
  have hsp : l = l.take i ++ T :: l.drop (i + 1) := by rw [← hie, List.getElem_cons_drop, List.take_append_drop]
  have hst : l.set i T' = l.take i ++ T' :: l.drop (i + 1) := by rw [List.set_eq_take_append_cons_drop, if_pos hil]
  obtain ⟨L, hL⟩ : ∃ x, l.take i = x := ⟨_, rfl⟩
  obtain ⟨R, hR⟩ : ∃ x, l.drop (i + 1) = x := ⟨_, rfl⟩
  rw [hL, hR] at hsp hst
  rw [hst]
  rw [hsp] at h
  obtain ⟨ho, hp⟩ := h
  have hp2 := ((List.perm_middle (a := T) (l₁ := L) (l₂ := R)).pairwise_iff (R := Apart) (fun h => h.symm)).1 hp
  obtain ⟨hap, hrest⟩ := List.pairwise_cons.1 hp2
  have hkeep : ∀ X ∈ L ++ R, X.ok base w' ∧ Apart T' X := fun X hX => by
    have hXo : X.ok base w := ho X (by rcases List.mem_append.1 hX with h | h <;> simp [h])
    have hXa := hap X hX
    refine ⟨th_kept hXo fun k hk => hg.block k (th_lt hXo k hk).2 (fun e => hXa k e.symm hk), fun k h1 h2 => ?_⟩
    rcases hn k h1 with e | e
    · exact hXa k e h2
    · have := (th_lt hXo k h2).2; omega
  have hfin : Sep base w' (T' :: (L ++ R)) := ⟨fun X hX => by
      rcases List.mem_cons.1 hX with e | hX
      · rw [e]; exact hT
      · exact (hkeep X hX).1, List.Pairwise.cons (fun X hX => (hkeep X hX).2) hrest⟩
  exact hfin.perm List.perm_middle.symm
/-- a box of them is written -/
theorem Sep.setBox {base : Nat} {w w' : World} {l : List Th} (h : Sep base w l) (i : Nat) (k : Nat) (cs cs' : Array Value) (t : TypeId) (hi : l[i]? = some (boxT k cs t)) (hg : w.grownBy w' (some k)) (hT : w'.heap[k]? = some (.cells cs' t (0, 0))) : Sep base w' (l.set i (boxT k cs' t)) :=
  h.set i _ _ hi hg (ok_box.2 ⟨(ok_box.1 (h.get i _ hi)).1, hT⟩) (fun j hj => .inl hj)
theorem Sep.box {base : Nat} {w : World} {l : List Th} (h : Sep base w l) (i : Nat) (k : Nat) (cs : Array Value) (t : TypeId) (hi : l[i]? = some (boxT k cs t)) : base ≤ k ∧ w.heap[k]? = some (.cells cs t (0, 0)) := ok_box.1 (h.get i _ hi)
theorem Sep.row {base : Nat} {w : World} {l : List Th} (h : Sep base w l) (i : Nat) (e : TypeId) (size : Nat) (v : Value) (n : Nat) (xs : List Value) (hi : l[i]? = some (rowT e size v n xs)) : w.ownsRow base e size v n xs := ok_row.1 (h.get i _ hi)
/-- a row of them grows -/
theorem Sep.push {base : Nat} {w w0 w' : World} {l : List Th} (h : Sep base w l) (i : Nat) (e : TypeId) (size : Nat) (v v' : Value) (n m : Nat) (xs ys : List Value) (hi : l[i]? = some (rowT e size v n xs)) (hb : Below w.heap.size w w0)
    (hg : w0.grownBy w' v.ownBlock) (ho : w'.ownsRow base e size v' m ys) (hv : v'.ownBlock = v.ownBlock ∨ v'.ownBlock = some w0.heap.size) : Sep base w' (l.set i (rowT e size v' m ys)) :=
  (h.below hb).set i _ _ hi hg (ok_row.2 ho) (fun k hk => by
    rcases hv with e | e
    · exact .inl (by rw [blk_row] at hk ⊢; rw [← e]; exact hk)
    · exact .inr (by rw [blk_row, e] at hk; injection hk with hk; omega))
theorem Sep.belowOut {W w w' : World} {l : List Th} (h : Sep W.heap.size w l) (hb : Below W.heap.size W w) (i : Nat) (T : Th) (hi : l[i]? = some T) (hg : w.grownBy w' T.blk) : Below W.heap.size W w' :=
  ⟨hg.os.trans hb.os, hg.tape.trans hb.tape, hg.output.trans hb.output, Nat.le_trans hb.size hg.size, fun k hk => (hg.block k (Nat.lt_of_lt_of_le hk hb.size) (fun e => by
    have := (th_lt (h.get i T hi) k e.symm).1; omega)).trans (hb.block k hk)⟩
end Go.Proofs.YtgppobaoclfgcaaGreatDoor
namespace Go.Proofs.YtgppobaoclfgcaaGreatDoor
open Go.RowKit Go.Lib
/-- things of one's own, apart; nothing below is turned -/
def SepB (W w : World) (l : List Th) : Prop := Sep W.heap.size w l ∧ Below W.heap.size W w
theorem SepB.below {W w w' : World} {l : List Th} (h : SepB W w l) (hb : Below w.heap.size w w') : SepB W w' l := ⟨h.1.below hb, h.2.trans (hb.mono h.2.size)⟩
theorem SepB.drew {W w : World} {l : List Th} (h : SepB W w l) : SepB W w.drew l := h.below (Below.drew (Below.refl _ _))
theorem SepB.alloc {W w : World} {l : List Th} (h : SepB W w l) (o : Obj) : SepB W (w.alloc o) l := h.below (below_alloc (Below.refl _ _) o)
theorem SepB.perm {W w : World} {l m : List Th} (h : SepB W w l) (hp : l.Perm m) : SepB W w m := ⟨h.1.perm hp, h.2⟩
theorem SepB.box {W w : World} {l : List Th} (h : SepB W w l) (i : Nat) (k : Nat) (cs : Array Value) (t : TypeId) (hi : l[i]? = some (boxT k cs t)) : W.heap.size ≤ k ∧ w.heap[k]? = some (.cells cs t (0, 0)) := h.1.box i k cs t hi
theorem SepB.row {W w : World} {l : List Th} (h : SepB W w l) (i : Nat) (e : TypeId) (size : Nat) (v : Value) (n : Nat) (xs : List Value) (hi : l[i]? = some (rowT e size v n xs)) : w.ownsRow W.heap.size e size v n xs := h.1.row i e size v n xs hi
theorem SepB.setBox {W w w' : World} {l : List Th} (h : SepB W w l) (i : Nat) (k : Nat) (cs cs' : Array Value) (t : TypeId) (hi : l[i]? = some (boxT k cs t)) (hg : w.grownBy w' (some k)) (hT : w'.heap[k]? = some (.cells cs' t (0, 0))) : SepB W w' (l.set i (boxT k cs' t)) :=
  ⟨h.1.setBox i k cs cs' t hi hg hT, h.1.belowOut h.2 i _ hi hg⟩
theorem SepB.push {W w w0 w' : World} {l : List Th} (h : SepB W w l) (i : Nat) (e : TypeId) (size : Nat) (v v' : Value) (n m : Nat) (xs ys : List Value) (hi : l[i]? = some (rowT e size v n xs)) (hb : Below w.heap.size w w0)
    (hg : w0.grownBy w' v.ownBlock) (ho : w'.ownsRow W.heap.size e size v' m ys) (hv : v'.ownBlock = v.ownBlock ∨ v'.ownBlock = some w0.heap.size) : SepB W w' (l.set i (rowT e size v' m ys)) :=
  ⟨h.1.push i e size v v' n m xs ys hi hb hg ho hv, (h.below hb).1.belowOut (h.below hb).2 i _ hi hg⟩
/-- a new box -/
theorem SepB.new {W w : World} {l : List Th} (h : SepB W w l) (cs : Array Value) (t : TypeId) (o : Obj) (ho : o = .cells cs t := by rfl) : SepB W (w.alloc o) (boxT w.heap.size cs t :: l) := by
  subst ho
  exact ⟨h.1.cons (below_alloc (Below.refl _ _) _) _ (ok_box.2 ⟨h.2.size, heap_alloc_new2 _ _ _ _ rfl⟩) (fun k hk => by rw [blk_box] at hk; injection hk with hk; omega), h.2.alloc h.2.size _⟩
/-- a row of none -/
theorem SepB.empty {W w : World} {l : List Th} (h : SepB W w l) (e : TypeId) (size : Nat) : SepB W w (rowT e size (.slice none 0 0) 0 [] :: l) :=
  ⟨h.1.cons (Below.refl _ _) _ (ok_row.2 (World.ownsRow_nil _ _ _ _)) (fun k hk => by rw [blk_row] at hk; cases hk), h.2⟩
/-- a cell of a box is written -/
theorem SepB.store {W w : World} {l : List Th} (h : SepB W w l) (i : Nat) (k : Nat) (cs : Array Value) (t : TypeId) (hi : l[i]? = some (boxT k cs t)) (j : Nat) (v : Value) : SepB W (w.setCell ⟨k, j, none⟩ v) (l.set i (boxT k (cs.setIfInBounds j v) t)) :=
  h.setBox i k cs _ t hi (gr_set w k j v) (heap_setCell_same _ _ j _ _ _ (h.box i k cs t hi).2)
theorem SepB.ne {W w : World} {l : List Th} (h : SepB W w l) (i j : Nat) (k k2 : Nat) (cs cs2 : Array Value) (t t2 : TypeId) (hij : i < j) (hi : l[i]? = some (boxT k cs t)) (hj : l[j]? = some (boxT k2 cs2 t2)) : k ≠ k2 := by
  intro e
  obtain ⟨hil, hie⟩ := List.getElem?_eq_some_iff.1 hi
  obtain ⟨hjl, hje⟩ := List.getElem?_eq_some_iff.1 hj
  have := List.pairwise_iff_getElem.1 h.1.2 i j hil hjl hij
  rw [hie, hje] at this
  exact this k rfl (by rw [blk_box, e])
end Go.Proofs.YtgppobaoclfgcaaGreatDoor
namespace Go.Proofs.YtgppobaoclfgcaaGreatDoor
open Go.RowKit Go.Lib
end Go.Proofs.YtgppobaoclfgcaaGreatDoor
namespace Go.Proofs.YtgppobaoclfgcaaGreatDoor
open Go.RowKit Go.Lib
theorem SepB.sub {W w : World} {l m : List Th} (h : SepB W w l) (hs : m.Sublist l) : SepB W w m := ⟨⟨fun T hT => h.1.1 T (hs.subset hT), h.1.2.sublist hs⟩, h.2⟩
theorem SepB.erase {W w : World} {l : List Th} (h : SepB W w l) (i : Nat) : SepB W w (l.eraseIdx i) := h.sub (List.eraseIdx_sublist _ _)
end Go.Proofs.YtgppobaoclfgcaaGreatDoor
namespace Go.Proofs.YtgppobaoclfgcaaGreatDoor
open Go.RowKit Go.Lib
end Go.Proofs.YtgppobaoclfgcaaGreatDoor
namespace Go.Proofs.YtgppobaoclfgcaaGreatDoor
open Go.RowKit Go.Lib
end Go.Proofs.YtgppobaoclfgcaaGreatDoor
namespace Go.Proofs.YtgppobaoclfgcaaGreatDoor
open Go.RowKit Go.Lib
end Go.Proofs.YtgppobaoclfgcaaGreatDoor
namespace Go.Proofs.YtgppobaoclfgcaaGreatDoor
open Go.RowKit Go.Lib
theorem SepB.nil (w : World) : SepB w w [] := ⟨Sep.nil _ _, Below.refl _ _⟩
end Go.Proofs.YtgppobaoclfgcaaGreatDoor
namespace Go.Proofs.YtgppobaoclfgcaaGreatDoor
open Go.RowKit Go.Lib
theorem own_max {w : World} {base : Nat} {e : TypeId} {size : Nat} {v : Value} {n : Nat} {xs : List Value} (h : w.ownsRow base e size v n xs) : n ≤ maxLen := by
  rcases h.2 with ⟨_, hx⟩ | ⟨g, cap, cur, _, _, _, h1, h2, _⟩
  · rw [hx]; exact Nat.zero_le _
  · exact Nat.le_trans h1 h2
end Go.Proofs.YtgppobaoclfgcaaGreatDoor
namespace Go.Proofs.YtgppobaoclfgcaaGreatDoor
open Go.RowKit Go.Lib
end Go.Proofs.YtgppobaoclfgcaaGreatDoor
namespace Go.Proofs.YtgppobaoclfgcaaGreatDoor
open Go.RowKit Go.Lib
end Go.Proofs.YtgppobaoclfgcaaGreatDoor
namespace Go.Proofs.YtgppobaoclfgcaaGreatDoor
open Go.RowKit Go.Lib
theorem SepB.to5 {W w : World} {x a b c d e : Th} {l : List Th} (h : SepB W w (x :: a :: b :: c :: d :: e :: l)) : SepB W w (a :: b :: c :: d :: e :: x :: l) :=
  h.perm (.trans (.swap a x _) (.cons a (.trans (.swap b x _) (.cons b (.trans (.swap c x _) (.cons c (.trans (.swap d x _) (.cons d (.swap e x _)))))))))
end Go.Proofs.YtgppobaoclfgcaaGreatDoor
namespace Go.Proofs.YtgppobaoclfgcaaGreatDoor
open Go.RowKit Go.Lib
end Go.Proofs.YtgppobaoclfgcaaGreatDoor
namespace Go.Proofs.YtgppobaoclfgcaaGreatDoor
open Go.RowKit
end Go.Proofs.YtgppobaoclfgcaaGreatDoor
namespace Go.Proofs.YtgppobaoclfgcaaGreatDoor
open Go.RowKit Go.Lib
end Go.Proofs.YtgppobaoclfgcaaGreatDoor
namespace Go.Proofs.YtgppobaoclfgcaaGreatDoor
open Go.RowKit Go.Lib
end Go.Proofs.YtgppobaoclfgcaaGreatDoor
namespace Go.Proofs.YtgppobaoclfgcaaGreatDoor
open Go.RowKit Go.Lib
end Go.Proofs.YtgppobaoclfgcaaGreatDoor
namespace Go.Proofs.YtgppobaoclfgcaaGreatDoor
open Go.RowKit Go.Lib
end Go.Proofs.YtgppobaoclfgcaaGreatDoor
namespace Go.Proofs.YtgppobaoclfgcaaGreatDoor
open Go.RowKit Go.Lib
end Go.Proofs.YtgppobaoclfgcaaGreatDoor
namespace Go.Proofs.YtgppobaoclfgcaaGreatDoor
open Go.RowKit Go.Lib
theorem cons_own {W w w' : World} {l : List Th} (h : SepB W w l) (hb : Below w.heap.size w w') {e : TypeId} {size : Nat} {v : Value} {n : Nat} {xs : List Value} (ho : w'.ownsRow w.heap.size e size v n xs) : SepB W w' (rowT e size v n xs :: l) :=
  ⟨h.1.cons hb _ (ok_row.2 (own_base ho h.2.size)) (fun k hk => (ho.lt k (by rw [blk_row] at hk; exact hk)).1), (h.below hb).2⟩
end Go.Proofs.YtgppobaoclfgcaaGreatDoor
namespace Go.Proofs.YtgppobaoclfgcaaGreatDoor
open Go.RowKit Go.Lib
end Go.Proofs.YtgppobaoclfgcaaGreatDoor
namespace Go.Proofs.YtgppobaoclfgcaaGreatDoor
open Go.RowKit Go.Lib
end Go.Proofs.YtgppobaoclfgcaaGreatDoor
namespace Go.Proofs.YtgppobaoclfgcaaGreatDoor
open Go.RowKit Go.Lib
end Go.Proofs.YtgppobaoclfgcaaGreatDoor
