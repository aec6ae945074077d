/- dfa: the builder's rows. Conditions: what each lemma says. -/
import Derived.Test.YtgppobaoclfgcaaGreatDoorDfaC
import Derived.Test.YtgppobaoclfgcaaGreatDoorDfaD
set_option linter.unusedVariables false
set_option linter.unusedSimpArgs false
namespace Go.Proofs.YtgppobaoclfgcaaGreatDoor
open Go.RowKit Go.Lib Go.Maps
open Plain (In4)
theorem SepB.to4 {W w : World} {x a b c d : Th} {l : List Th} (h : SepB W w (x :: a :: b :: c :: d :: l)) : SepB W w (a :: b :: c :: d :: x :: l) :=
  h.perm (List.perm_middle (a := x) (l₁ := [a, b, c, d]) (l₂ := l)).symm
theorem SepB.rowSet {W w : World} {l : List Th} (h : SepB W w l) (i : Nat) {e : TypeId} {g n c : Nat} {xs : List Value} (hi : l[i]? = some (rowT e 1 (.slice (some ⟨g, 0, none⟩) n c) n xs)) (j : Nat) (u : Value) :
    SepB W (w.setCell ⟨g, j, none⟩ u) (l.set i (rowT e 1 (.slice (some ⟨g, 0, none⟩) n c) n (xs.set j u))) := by
  have ho := h.row i _ _ _ _ _ hi
  have hs := ho.stored j u
  exact h.push i e 1 _ _ n n xs _ hi (Below.refl _ _) hs.2 hs.1 (.inl rfl)
theorem i64s_set (X : List Int) (q : Nat) (z : Int) : (i64s X).set q (.int .i64 z) = i64s (X.set q z) := by unfold i64s; rw [List.map_set]
section
variable {W w : World} {b mb m : Nat} {lv nv av sv : Value} {I C : Option Addr} {n c kn d : Nat} {g : Int} {N : List Row} {A : List Bool} {S : List Row} {R : List Th}
/-- one more box -/
theorem Bd.box (h : Bd W w b mb m lv nv av sv I C n c kn d g N A S R) (cs : Array Value) (t : TypeId) : Bd W (w.alloc (.cells cs t)) b mb m lv nv av sv I C n c kn d g N A S (boxT w.heap.size cs t :: R) := by
  have h2 := h.below (below_alloc (Below.refl w.heap.size w) (.cells cs t))
  exact ⟨(h.sep.new cs t _).to4, h2.map, h2.mge, h2.lines, h2.nexts⟩
/-- one more row -/
theorem Bd.row {w' : World} (h : Bd W w b mb m lv nv av sv I C n c kn d g N A S R) (hb : Below w.heap.size w w') {e : TypeId} {size : Nat} {v : Value} {k : Nat} {xs : List Value} (ho : w'.ownsRow w.heap.size e size v k xs) : Bd W w' b mb m lv nv av sv I C n c kn d g N A S (rowT e size v k xs :: R) := by
  have h2 := h.below hb
  exact ⟨(cons_own h.sep hb ho).to4, h2.map, h2.mge, h2.lines, h2.nexts⟩
/-- the last thing is let go -/
theorem Bd.drop {T : Th} (h : Bd W w b mb m lv nv av sv I C n c kn d g N A S (T :: R)) : Bd W w b mb m lv nv av sv I C n c kn d g N A S R :=
  ⟨h.sep.erase 4, h.map, h.mge, h.lines, h.nexts⟩
theorem Bd.next {gx pl pc : Nat} {X : List Int} (h : Bd W w b mb m lv nv av sv I C n c kn d g N A S (rowT 3 1 (.slice (some ⟨gx, 0, none⟩) pl pc) pl (i64s X) :: R)) (q : Nat) (z : Int) (hS : ∀ r ∈ S, far r gx) (hN : ∀ r ∈ N, far r gx) :
    Bd W (w.setCell ⟨gx, q, none⟩ (.int .i64 z)) b mb m lv nv av sv I C n c kn d g N A S (rowT 3 1 (.slice (some ⟨gx, 0, none⟩) pl pc) pl (i64s (X.set q z)) :: R) := by
  have hs := h.sep.rowSet 4 (e := 3) (g := gx) (n := pl) (c := pc) (xs := i64s X) rfl q (.int .i64 z)
  have hr := h.sep.row 4 3 1 (.slice (some ⟨gx, 0, none⟩) pl pc) pl (i64s X) rfl
  rw [i64s_set] at hs
  refine ⟨hs, h.map.kept (gr_set w gx q _) ?_, h.mge, fun r hr => ⟨(h.lines r hr).1.gr (gr_set _ _ _ _) (hS r hr), (h.lines r hr).2⟩, fun r hr => (h.nexts r hr).gr (gr_set _ _ _ _) (hN r hr)⟩
  have := h.map.ne_row hr
  simpa [Value.ownBlock] using this
theorem Bd.pushN {w7 : World} {v' : Value} {rn : Row} (h : Bd W w b mb m lv nv av sv I C n c kn d g N A S R) (hown : w7.ownsRow W.heap.size 58 1 v' (N.length + 1) (N.map rowV ++ [rowV rn])) (hgr : (w.alloc (.cells #[rowV rn] 58)).grownBy w7 nv.ownBlock)
    (hvb : v'.ownBlock = nv.ownBlock ∨ v'.ownBlock = some (w.alloc (.cells #[rowV rn] 58)).heap.size) (hln : Ln w rn) : w7.heap[b]? = some (.cells #[lv, nv, av, .slice I n c, .slice C kn d, .int .i64 g, sv, .map (some mb)] 66 (0, 0)) ∧ Bd W (w7.setCell ⟨b, 1, none⟩ v') b mb m lv v' av sv I C n c kn d g (N ++ [rn]) A S R ∧ Ki w (w7.setCell ⟨b, 1, none⟩ v') := by
  have ka := Ki.below (below_alloc (Below.refl w.heap.size w) (.cells #[rowV rn] 58))
  have ha := h.below (below_alloc (Below.refl w.heap.size w) (.cells #[rowV rn] 58))
  have hrow := ha.sep.row 1 _ _ _ _ _ rfl
  have kb : Ki (w.alloc (.cells #[rowV rn] 58)) w7 := Ki.gr hgr (fun k hk => not3_row hrow (by decide) k hk)
  have hm7 : MapAt w7 mb m := ha.map.kept hgr (ha.map.ne_row hrow)
  have hS7 := h.sep.push 1 58 1 _ v' N.length (N.length + 1) _ _ rfl (below_alloc (Below.refl w.heap.size w) (.cells #[rowV rn] 58)) hgr hown hvb
  have hb7 := hS7.box 0 _ _ _ rfl
  have s8 := hS7.store 0 b _ 66 rfl 1 v'
  have kc : Ki w7 (w7.setCell ⟨b, 1, none⟩ v') := Ki.gr (gr_set _ _ _ _) (not3_box hb7.2 (by decide))
  have hm8 : MapAt (w7.setCell ⟨b, 1, none⟩ v') mb m := hm7.kept (gr_set _ _ _ _) (fun e => hm7.ne hb7.2 (Option.some.inj e))
  have k28 := (ka.trans kb).trans kc
  refine ⟨hb7.2, ⟨?_, hm8, h.mge, fun x hx => ⟨(h.lines x hx).1.ki k28, (h.lines x hx).2⟩, fun x hx => ?_⟩, k28⟩
  · have el : N.length + 1 = (N ++ [rn]).length := by rw [List.length_append]; rfl
    have em : N.map rowV ++ [rowV rn] = (N ++ [rn]).map rowV := by rw [List.map_append, List.map_cons, List.map_nil]
    unfold BL
    rw [← em, ← el]
    exact s8
  · rcases List.mem_append.1 hx with hx | hx
    · exact (h.nexts x hx).ki k28
    · rw [List.mem_singleton.1 hx]; exact hln.ki k28
theorem Bd.pushA {w7 : World} {v' : Value} {q : Bool} (h : Bd W w b mb m lv nv av sv I C n c kn d g N A S R) (hown : w7.ownsRow W.heap.size 4 1 v' (A.length + 1) (A.map Value.bool ++ [.bool q])) (hgr : (w.alloc (.cells #[.bool q] 4)).grownBy w7 av.ownBlock)
    (hvb : v'.ownBlock = av.ownBlock ∨ v'.ownBlock = some (w.alloc (.cells #[.bool q] 4)).heap.size) : w7.heap[b]? = some (.cells #[lv, nv, av, .slice I n c, .slice C kn d, .int .i64 g, sv, .map (some mb)] 66 (0, 0)) ∧ Bd W (w7.setCell ⟨b, 2, none⟩ v') b mb m lv nv v' sv I C n c kn d g N (A ++ [q]) S R ∧ Ki w (w7.setCell ⟨b, 2, none⟩ v') := by
  have ka := Ki.below (below_alloc (Below.refl w.heap.size w) (.cells #[.bool q] 4))
  have ha := h.below (below_alloc (Below.refl w.heap.size w) (.cells #[.bool q] 4))
  have hrow := ha.sep.row 2 _ _ _ _ _ rfl
  have kb : Ki (w.alloc (.cells #[.bool q] 4)) w7 := Ki.gr hgr (fun k hk => not3_row hrow (by decide) k hk)
  have hm7 : MapAt w7 mb m := ha.map.kept hgr (ha.map.ne_row hrow)
  have hS7 := h.sep.push 2 4 1 _ v' A.length (A.length + 1) _ _ rfl (below_alloc (Below.refl w.heap.size w) (.cells #[.bool q] 4)) hgr hown hvb
  have hb7 := hS7.box 0 _ _ _ rfl
  have s8 := hS7.store 0 b _ 66 rfl 2 v'
  have kc : Ki w7 (w7.setCell ⟨b, 2, none⟩ v') := Ki.gr (gr_set _ _ _ _) (not3_box hb7.2 (by decide))
  have hm8 : MapAt (w7.setCell ⟨b, 2, none⟩ v') mb m := hm7.kept (gr_set _ _ _ _) (fun e => hm7.ne hb7.2 (Option.some.inj e))
  have k28 := (ka.trans kb).trans kc
  refine ⟨hb7.2, ⟨?_, hm8, h.mge, fun x hx => ⟨(h.lines x hx).1.ki k28, (h.lines x hx).2⟩, fun x hx => (h.nexts x hx).ki k28⟩, k28⟩
  have el : A.length + 1 = (A ++ [q]).length := by rw [List.length_append]; rfl
  have em : A.map Value.bool ++ [.bool q] = (A ++ [q]).map Value.bool := by rw [List.map_append, List.map_cons, List.map_nil]
  unfold BL
  rw [← em, ← el]
  exact s8
end
end Go.Proofs.YtgppobaoclfgcaaGreatDoor
