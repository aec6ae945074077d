/- Chapter 12: a class's ranges, as they are got. Conditions: what each lemma says. -/
import Derived.Test.YtmiacgkidldjmaaGreatDoorWireD
import Derived.Test.YtmiacgkidldjmaaGreatDoorTabE
import Derived.Test.YtmiacgkidldjmaaGreatDoorWireA
import Derived.Deep.RegionHeld3
set_option linter.unusedVariables false
set_option linter.unusedSimpArgs false
namespace Go.Proofs.YtmiacgkidldjmaaGreatDoor
open Go.RowKit Go.Lib
/-- things of one's own, apart; nothing below is turned -/
def SepB (W w : World) (l : List Th) : Prop := Sep W.heap.size w l ∧ Below W.heap.size W w
theorem SepB.below {W w w' : World} {l : List Th} (h : SepB W w l) (hb : Below w.heap.size w w') : SepB W w' l := ⟨h.1.below hb, h.2.trans (hb.mono h.2.size)⟩
theorem SepB.drew {W w : World} {l : List Th} (h : SepB W w l) : SepB W w.drew l := h.below (Below.drew (Below.refl _ _))
theorem SepB.alloc {W w : World} {l : List Th} (h : SepB W w l) (o : Obj) : SepB W (w.alloc o) l := h.below (below_alloc (Below.refl _ _) o)
theorem SepB.perm {W w : World} {l m : List Th} (h : SepB W w l) (hp : l.Perm m) : SepB W w m := ⟨h.1.perm hp, h.2⟩
theorem SepB.box {W w : World} {l : List Th} (h : SepB W w l) (i : Nat) (k : Nat) (cs : Array Value) (t : TypeId) (hi : l[i]? = some (boxT k cs t)) : W.heap.size ≤ k ∧ w.heap[k]? = some (.cells cs t (0, 0)) := h.1.box i k cs t hi
theorem SepB.row {W w : World} {l : List Th} (h : SepB W w l) (i : Nat) (e : TypeId) (size : Nat) (v : Value) (n : Nat) (xs : List Value) (hi : l[i]? = some (rowT e size v n xs)) : w.ownsRow W.heap.size e size v n xs := h.1.row i e size v n xs hi
theorem SepB.setBox {W w w' : World} {l : List Th} (h : SepB W w l) (i : Nat) (k : Nat) (cs cs' : Array Value) (t : TypeId) (hi : l[i]? = some (boxT k cs t)) (hg : w.grownBy w' (some k)) (hT : w'.heap[k]? = some (.cells cs' t (0, 0))) : SepB W w' (l.set i (boxT k cs' t)) :=
  ⟨h.1.setBox i k cs cs' t hi hg hT, h.1.belowOut h.2 i _ hi hg⟩
theorem SepB.push {W w w0 w' : World} {l : List Th} (h : SepB W w l) (i : Nat) (e : TypeId) (size : Nat) (v v' : Value) (n m : Nat) (xs ys : List Value) (hi : l[i]? = some (rowT e size v n xs)) (hb : Below w.heap.size w w0)
    (hg : w0.grownBy w' v.ownBlock) (ho : w'.ownsRow W.heap.size e size v' m ys) (hv : v'.ownBlock = v.ownBlock ∨ v'.ownBlock = some w0.heap.size) : SepB W w' (l.set i (rowT e size v' m ys)) :=
  ⟨h.1.push i e size v v' n m xs ys hi hb hg ho hv, (h.below hb).1.belowOut (h.below hb).2 i _ hi hg⟩
/-- a new box -/
theorem SepB.new {W w : World} {l : List Th} (h : SepB W w l) (cs : Array Value) (t : TypeId) (o : Obj) (ho : o = .cells cs t := by rfl) : SepB W (w.alloc o) (boxT w.heap.size cs t :: l) := by
  subst ho
  exact ⟨h.1.cons (below_alloc (Below.refl _ _) _) _ (ok_box.2 ⟨h.2.size, heap_alloc_new2 _ _ _ _ rfl⟩) (fun k hk => by rw [blk_box] at hk; injection hk with hk; omega), h.2.alloc h.2.size _⟩
/-- a row of none -/
theorem SepB.empty {W w : World} {l : List Th} (h : SepB W w l) (e : TypeId) (size : Nat) : SepB W w (rowT e size (.slice none 0 0) 0 [] :: l) :=
  ⟨h.1.cons (Below.refl _ _) _ (ok_row.2 (World.ownsRow_nil _ _ _ _)) (fun k hk => by rw [blk_row] at hk; cases hk), h.2⟩
/-- a cell of a box is written -/
theorem SepB.store {W w : World} {l : List Th} (h : SepB W w l) (i : Nat) (k : Nat) (cs : Array Value) (t : TypeId) (hi : l[i]? = some (boxT k cs t)) (j : Nat) (v : Value) : SepB W (w.setCell ⟨k, j, none⟩ v) (l.set i (boxT k (cs.setIfInBounds j v) t)) :=
  h.setBox i k cs _ t hi (gr_set w k j v) (heap_setCell_same _ _ j _ _ _ (h.box i k cs t hi).2)
theorem SepB.ne {W w : World} {l : List Th} (h : SepB W w l) (i j : Nat) (k k2 : Nat) (cs cs2 : Array Value) (t t2 : TypeId) (hij : i < j) (hi : l[i]? = some (boxT k cs t)) (hj : l[j]? = some (boxT k2 cs2 t2)) : k ≠ k2 := by
  intro e
  obtain ⟨hil, hie⟩ := List.getElem?_eq_some_iff.1 hi
  obtain ⟨hjl, hje⟩ := List.getElem?_eq_some_iff.1 hj
  have := List.pairwise_iff_getElem.1 h.1.2 i j hil hjl hij
  rw [hie, hje] at this
  exact this k rfl (by rw [blk_box, e])
def rdCs (t : Plain.St) : Array Value := #[.string (str t.al.rest), .int .i64 t.al.e, .string (str t.inn.rest), .int .i64 t.inn.e, .int .i64 t.bad]
theorem number_sep {W w : World} {l : List Th} (i : Nat) (g : Nat) (t : Plain.St) (most : Nat) (h : SepB W w l) (hi : l[i]? = some (boxT g (rdCs t) 173)) (hsm : t.small) (hm : most ≤ 9223372036854775807) :
    Calls Tryz.prog 62 #[.pointer (some ⟨g, 0, none⟩), .int .u64 (most : Int)] w fun en w' => en = .returned (.int .i64 ((t.number most).1 : Int)) ∧ SepB W w' (l.set i (boxT g (rdCs (t.number most).2) 173)) ∧ w.grownBy w' (some g) := by
  refine (rnumber_any g t most w (h.box i _ _ _ hi).2 hsm hm).mono ?_
  rintro e w' ⟨rfl, hR, hg⟩
  exact ⟨rfl, h.setBox i g _ _ 173 hi hg hR, hg⟩
theorem section_sep {W w : World} {l : List Th} (i : Nat) (g : Nat) (t : Plain.St) (tag : Nat) (h : SepB W w l) (hi : l[i]? = some (boxT g (rdCs t) 173)) (hsm : t.small) (ht : tag < 256) :
    Calls Tryz.prog 61 #[.pointer (some ⟨g, 0, none⟩), .int .i64 (tag : Int)] w fun en w' => en = .returned (.tuple #[]) ∧ SepB W w' (l.set i (boxT g (rdCs (t.section tag)) 173)) ∧ w.grownBy w' (some g) := by
  refine (rsection_any g t tag w (h.box i _ _ _ hi).2 hsm ht).mono ?_
  rintro e w' ⟨rfl, hR, hg⟩
  exact ⟨rfl, h.setBox i g _ _ 173 hi hg hR, hg⟩
end Go.Proofs.YtmiacgkidldjmaaGreatDoor
namespace Go.Proofs.YtmiacgkidldjmaaGreatDoor
open Go.RowKit Go.Lib
open Plain (Rg)
theorem blk1 {w : World} {g : Nat} {x : Value} {t : TypeId} (h : w.heap[g]? = some (.cells #[x] t (0, 0))) : w.cell? ⟨g, 0, none⟩ = some x := by rw [cell_of_row _ _ _ _ _ _ h]; rfl
theorem number_at {W w : World} {l : List Th} (i : Nat) (g : Nat) (t : Plain.St) (most : Nat) (m : Int) (a : Nat) (t' : Plain.St) (h : SepB W w l) (hi : l[i]? = some (boxT g (rdCs t) 173)) (hsm : t.small) (hm : most ≤ 9223372036854775807) (hmm : m = (most : Int)) (hx : t.number most = (a, t')) :
    Calls Tryz.prog 62 #[.pointer (some ⟨g, 0, none⟩), .int .u64 m] w fun en w' => en = .returned (.int .i64 (a : Int)) ∧ SepB W w' (l.set i (boxT g (rdCs t') 173)) ∧ w.grownBy w' (some g) := by
  subst hmm
  have h2 := number_sep i g t most h hi hsm hm
  rw [hx] at h2
  exact h2
theorem rgs_snoc1 (R : List Rg) (x : Rg) : rgs (R ++ [x]) = rgs R ++ [.int .i32 x.1, .int .i32 x.2] := by unfold rgs; rw [List.flatMap_append]; rfl
/-- behind a range that was read -/
def Post65 (W : World) (g rc cb : Nat) (more : List Th) (t : Plain.St) (R : List Rg) (w' : World) : Prop :=
  ∃ v', SepB W w' (boxT g (rdCs t) 173 :: boxT rc #[.pointer (some ⟨g, 0, none⟩)] 127 :: boxT cb #[v'] 102 :: rowT 104 2 v' R.length (rgs R) :: more)
set_option maxRecDepth 1000000 in
set_option maxHeartbeats 4000000 in
theorem cl65_any {W w : World} (t : Plain.St) (R : List Rg) (v : Value) (g rc cb : Nat) (more : List Th)
    (h : SepB W w (boxT g (rdCs t) 173 :: boxT rc #[.pointer (some ⟨g, 0, none⟩)] 127 :: boxT cb #[v] 102 :: rowT 104 2 v R.length (rgs R) :: more)) (hsm : t.small) (hl : R.length ≤ 1000) :
    Calls Tryz.prog 65 #[.pointer (some ⟨rc, 0, none⟩), .pointer (some ⟨cb, 0, none⟩)] w fun e w' => e = .returned (.tuple #[]) ∧ Post65 W g rc cb more (Plain.gRange (t, R)).1 (Plain.gRange (t, R)).2 w' := by
  have hn := Plain.number_most t Plain.mw
  have hs1 := Plain.small_number t Plain.mw hsm
  obtain ⟨a, t1, hx⟩ : ∃ a t1, t.number Plain.mw = (a, t1) := ⟨_, _, rfl⟩
  rw [hx] at hn hs1
  dsimp only at hn hs1
  have hn2 := Plain.number_most t1 Plain.mw
  obtain ⟨b, t2, hy⟩ : ∃ b t2, t1.number Plain.mw = (b, t2) := ⟨_, _, rfl⟩
  rw [hy] at hn2
  dsimp only at hn2
  have hg : Plain.gRange (t, R) = (t2, R ++ [((a : Int), (a : Int) + (b : Int))]) := by unfold Plain.gRange; dsimp only; rw [hx]; dsimp only; rw [hy]
  rw [hg]
  unfold Plain.mw at hn hn2
  dsimp only
  obtain ⟨i82, hi82, y0, y1, y2⟩ := info_parts info82
  have hw1 : IntKind.i64.wrap ((a : Int) + (b : Int)) = (a : Int) + (b : Int) := by rw [IntKind.wrap_i64]; omega
  have hw2 : IntKind.i32.wrap (a : Int) = (a : Int) := by rw [IntKind.wrap_i32]; omega
  have hw3 : IntKind.i32.wrap ((a : Int) + (b : Int)) = (a : Int) + (b : Int) := by rw [IntKind.wrap_i32]; omega
  have hr0 := (h.box 1 _ _ _ rfl).2
  have x0 := blk1 hr0
  have H := Lib.hid h
  have C1 := Lib.hid (fun W' (h' : SepB W W' (boxT g (rdCs t) 173 :: boxT rc #[.pointer (some ⟨g, 0, none⟩)] 127 :: boxT cb #[v] 102 :: rowT 104 2 v R.length (rgs R) :: more)) => number_at (w := W') 0 g t Plain.mw 16777215 a t1 h' rfl hsm (by decide) (by decide) hx)
  have C2 := Lib.hid (fun W' (h' : SepB W W' (boxT g (rdCs t1) 173 :: boxT rc #[.pointer (some ⟨g, 0, none⟩)] 127 :: boxT cb #[v] 102 :: rowT 104 2 v R.length (rgs R) :: more)) => number_at (w := W') 0 g t1 Plain.mw 16777215 b t2 h' rfl hs1 (by decide) (by decide) hy)
  clear h hx hy hg hsm hs1 hr0
  go_enter Tryz.func65, Tryz.ntmps65
  go_wp2_with fail
  clear x0
  refine (C1.out _ H.out).mono ?_
  rintro _ w1 ⟨rfl, hS, hg⟩
  go_wp2_with fail
  obtain ⟨wd, hwd⟩ : ∃ x, w1.drew = x := ⟨_, rfl⟩
  have hS' := hS.drew
  rw [hwd] at hS'
  have HD := Lib.hid (show SepB W wd (boxT g (rdCs t1) 173 :: boxT rc #[.pointer (some ⟨g, 0, none⟩)] 127 :: boxT cb #[v] 102 :: rowT 104 2 v R.length (rgs R) :: more) from hS')
  have HF := Lib.hid (fun (w' : World) (h : wd.grownBy w' (some g)) => (⟨blk1 (gr_blk h (HD.out.box 1 _ _ _ rfl).2 (HD.out.ne 0 1 _ _ _ _ _ _ (by decide) rfl rfl).symm), blk1 (gr_blk h (HD.out.box 2 _ _ _ rfl).2 (HD.out.ne 0 2 _ _ _ _ _ _ (by decide) rfl rfl).symm)⟩ : _ ∧ _))
  have HG0 := Lib.hid (gr_refl wd (some g))
  clear hS hS' hg
  refine wp_region_noPanic ?_
  refine wp_region_T 10 (S := fun w' : World => wd.grownBy w' (some g)) (by kernel_rfl) (by decide) ?_
  rw [hwd]
  clear hwd
  refine wpAnyT_take2 0 (v := ?tvq0) (by kernel_rfl) rfl (by kernel_rfl) (fun _ _ _ h => h) (Or.inl ⟨by rfl, ?tyq0⟩) HG0.out ?trq0
  case tyq0 => (intro w' hSw; obtain ⟨x0, z0⟩ := HF.out w' hSw; (try dsimp only at hSw); go_simp; try with_reducible rfl)
  try simp only [Act.put, List.setIfInBounds_toArray, List.set_cons_zero, List.set_cons_succ]
  refine wpAnyT_take2 1 (v := ?tvq1) (by kernel_rfl) rfl (by kernel_rfl) (fun _ _ _ h => h) (Or.inl ⟨by rfl, ?tyq1⟩) HG0.out ?trq1
  case tyq1 => (intro w' hSw; (try dsimp only at hSw); go_simp; try with_reducible rfl)
  try simp only [Act.put, List.setIfInBounds_toArray, List.set_cons_zero, List.set_cons_succ]
  refine wpAnyT_take2 2 (v := ?tvq2) (by kernel_rfl) rfl (by kernel_rfl) (fun _ _ _ h => h) (Or.inl ⟨by rfl, ?tyq2⟩) HG0.out ?trq2
  case tyq2 => (intro w' hSw; (try dsimp only at hSw); go_simp; try with_reducible rfl)
  try simp only [Act.put, List.setIfInBounds_toArray, List.set_cons_zero, List.set_cons_succ]
  refine wpAnyT_take2 3 (v := ?tvq3) (by kernel_rfl) rfl (by kernel_rfl) (fun _ _ _ h => h) (Or.inl ⟨by rfl, ?tyq3⟩) HG0.out ?trq3
  case tyq3 => (intro w' hSw; (try dsimp only at hSw); go_simp; try with_reducible rfl)
  try simp only [Act.put, List.setIfInBounds_toArray, List.set_cons_zero, List.set_cons_succ]
  refine wpAnyT_take2 4 (v := ?tvq4) (by kernel_rfl) rfl (by kernel_rfl) (fun _ _ _ h => h) (Or.inl ⟨by rfl, ?tyq4⟩) HG0.out ?trq4
  case tyq4 => (intro w' hSw; obtain ⟨x0, z0⟩ := HF.out w' hSw; (try dsimp only at hSw); go_simp; try with_reducible rfl)
  try simp only [Act.put, List.setIfInBounds_toArray, List.set_cons_zero, List.set_cons_succ]
  refine wpAnyT_one2 5 rfl (by kernel_rfl) ?_
  intro K' hK'
  rw [if_pos (by rfl)]
  have HK := Lib.hid hK'
  clear hK'
  go_wp2_with (go_at_call 62; refine (C2.out _ HD.out).mono ?_; rintro _ w5 ⟨rfl, hS5, hg5⟩)
  have HS5 := Lib.hid hS5
  have HG5 := Lib.hid hg5
  clear hS5 hg5
  refine HK.out _ _ ⟨HG5.out, ?_⟩
  clear HK K'
  try simp only [Act.put, List.setIfInBounds_toArray, List.set_cons_zero, List.set_cons_succ]
  refine wpAnyT_take2 6 (v := ?tvq6) (by kernel_rfl) rfl (by kernel_rfl) (fun _ _ _ h => h) (Or.inl ⟨by rfl, ?tyq6⟩) HG5.out ?trq6
  case tyq6 => (intro w' hSw; (try dsimp only at hSw); go_simp; try with_reducible rfl)
  try simp only [Act.put, List.setIfInBounds_toArray, List.set_cons_zero, List.set_cons_succ]
  refine wpAnyT_take2 7 (v := ?tvq7) (by kernel_rfl) rfl (by kernel_rfl) (fun _ _ _ h => h) (Or.inl ⟨by rfl, ?tyq7⟩) HG5.out ?trq7
  case tyq7 => (intro w' hSw; (try dsimp only at hSw); go_simp; try with_reducible rfl)
  try simp only [Act.put, List.setIfInBounds_toArray, List.set_cons_zero, List.set_cons_succ]
  refine wpAnyT_take2 8 (v := ?tvq8) (by kernel_rfl) rfl (by kernel_rfl) (fun _ _ _ h => h) (Or.inl ⟨by rfl, ?tyq8⟩) HG5.out ?trq8
  case tyq8 => (intro w' hSw; (try dsimp only at hSw); go_simp; try with_reducible rfl)
  try simp only [Act.put, List.setIfInBounds_toArray, List.set_cons_zero, List.set_cons_succ]
  refine wpAnyT_one2 9 rfl (by kernel_rfl) ?_
  intro K' hK'
  rw [if_pos (by rfl)]
  have HK := Lib.hid hK'
  clear hK'
  go_simp
  have HG6 := Lib.hid (gr_trans HG5.out (World.grownBy_alloc w5 (.cells #[.int .i32 (a : Int), .int .i32 ((a : Int) + (b : Int))] 104) (some g)))
  refine HK.out _ _ ⟨HG6.out, ?_⟩
  clear HK K'
  try simp only [Act.put, List.setIfInBounds_toArray, List.set_cons_zero, List.set_cons_succ]
  refine ⟨by kernel_rfl, ?_⟩
  change wpList _ _ _ [_, _] _ _
  have HS6 := Lib.hid (show SepB W w5 (boxT g (rdCs t2) 173 :: boxT rc #[.pointer (some ⟨g, 0, none⟩)] 127 :: boxT cb #[v] 102 :: rowT 104 2 v R.length (rgs R) :: more) from HS5.out)
  go_wp2_with (at_builtin; refine wpList_append_own2 _ rfl (.tmp 5) (.tmp 14) _ rfl W.heap.size 104 i82 _ 2 8 Tryz.underlying102 hi82 y0 y1 y2 rfl (by decide) v R.length (rgs R) rfl (HS6.out.row 3 _ _ _ _ _ rfl |>.alloc _) ⟨w5.heap.size, 0, none⟩ 1 1 [.int .i32 (a : Int), .int .i32 ((a : Int) + (b : Int))] rfl rfl ?c1 ?c2 ?c3 ?c4 ?c5 ?_)
  case c1 => exact CellsAt_add (CellsAt.new w5 _ _)
  case c2 => intro u hu; simp only [List.mem_cons, List.not_mem_nil, or_false] at hu; rcases hu with rfl | rfl <;> rfl
  case c3 => simp only [maxLen]; omega
  case c4 => omega
  case c5 => have := HS6.out.2.size; simp; omega
  intro v2 w2 hown2 hg2 hb2
  obtain ⟨a2, cp2, rfl⟩ := own_slice hown2
  have hP := HS6.out.push 3 104 2 v (.slice a2 (R.length + 1) cp2) R.length (R.length + 1) (rgs R) _ rfl (below_alloc (Below.refl _ _) (.cells #[.int .i32 (a : Int), .int .i32 ((a : Int) + (b : Int))] 104)) hg2 hown2 (by rw [show (w5.alloc (.cells #[.int .i32 (a : Int), .int .i32 ((a : Int) + (b : Int))] 104)).heap.size = w5.heap.size + 1 by simp]; exact hb2)
  have hB : w2.heap[cb]? = some (.cells #[v] 102 (0, 0)) := (SepB.box hP 2 cb #[v] 102 rfl).2
  have f0 := blk_frozen hB 0
  have z0 := blk1 hB
  have hQ := hP.store 2 cb #[v] 102 rfl 0 (.slice a2 (R.length + 1) cp2)
  have hfin : Post65 W g rc cb more t2 (R ++ [((a : Int), (a : Int) + (b : Int))]) (w2.setCell ⟨cb, 0, none⟩ (.slice a2 (R.length + 1) cp2)) := by
    refine ⟨.slice a2 (R.length + 1) cp2, ?_⟩
    rw [rgs_snoc1, List.length_append]
    exact hQ
  have HFIN := Lib.hid hfin
  clear hP hB hQ hfin hown2 hg2 hb2
  go_wp2
  refine NoPanic.normal ?_
  go_wp2
  go_end0
  exact ⟨rfl, HFIN.out⟩
end Go.Proofs.YtmiacgkidldjmaaGreatDoor
namespace Go.Proofs.YtmiacgkidldjmaaGreatDoor
open Go.RowKit Go.Lib
open Plain (Rg)
theorem SepB.sub {W w : World} {l m : List Th} (h : SepB W w l) (hs : m.Sublist l) : SepB W w m := ⟨⟨fun T hT => h.1.1 T (hs.subset hT), h.1.2.sublist hs⟩, h.2⟩
theorem SepB.erase {W w : World} {l : List Th} (h : SepB W w l) (i : Nat) : SepB W w (l.eraseIdx i) := h.sub (List.eraseIdx_sublist _ _)
/-- the third one goes behind the next two -/
theorem SepB.move3 {W w : World} {a b c d e : Th} {l : List Th} (h : SepB W w (a :: b :: c :: d :: e :: l)) : SepB W w (a :: b :: d :: e :: c :: l) :=
  h.perm (.cons a (.cons b (.trans (.swap d c _) (.cons d (.swap e c _)))))
/-- the first two go behind the next two, the other way round -/
theorem SepB.move22 {W w : World} {a b c d : Th} {l : List Th} (h : SepB W w (a :: b :: c :: d :: l)) : SepB W w (c :: d :: b :: a :: l) :=
  h.perm (.trans (.cons a (.trans (.swap c b _) (.cons c (.swap d b _)))) (.trans (.swap c a _) (.cons c (.trans (.swap d a _) (.cons d (.swap b a _))))))
theorem gRange_small (t : Plain.St) (R : List Rg) (h : t.small) : (Plain.gRange (t, R)).1.small := Plain.small_number _ _ (Plain.small_number _ _ h)
theorem gRange_len (t : Plain.St) (R : List Rg) : (Plain.gRange (t, R)).2.length = R.length + 1 := by unfold Plain.gRange; simp
def clsT (x : Cs) : Th := rowT 104 2 (clV x) x.R.length (rgs x.R)
/-- a program's classes, as they come -/
def LK (g rc pb : Nat) (t : Plain.St) (K : List Cs) (v0 v1 : Value) (gn : Int) (mo : List Th) : List Th :=
  boxT g (rdCs t) 173 :: boxT rc #[.pointer (some ⟨g, 0, none⟩)] 127 :: boxT pb #[v0, v1, .int .i64 gn] 25 :: rowT 102 1 v1 K.length (K.map clV) :: (K.reverse.map clsT ++ mo)
def Post64 (W : World) (g rc pb : Nat) (v0 : Value) (gn : Int) (mo : List Th) (t : Plain.St) (KR : List (List Rg)) (w' : World) : Prop :=
  ∃ K v1, K.map Cs.R = KR ∧ SepB W w' (LK g rc pb t K v0 v1 gn mo)
theorem info102 : (Tryz.prog.info? 102).map (fun i => (i.zero, i.size, i.bytes)) = some (some (.slice none 0 0), 1, 24) := by kernel_rfl
set_option maxRecDepth 1000000 in
theorem enter64 (caps : Array Value) (W : World) : (callFunc 64 caps).run Tryz.prog W = .ok (.enter 64 caps) W := by kernel_rfl
set_option maxRecDepth 1000000 in
theorem enter65 (caps : Array Value) (W : World) : (callFunc 65 caps).run Tryz.prog W = .ok (.enter 65 caps) W := by kernel_rfl
set_option maxRecDepth 1000000 in
theorem enter66 (caps : Array Value) (W : World) : (callFunc 66 caps).run Tryz.prog W = .ok (.enter 66 caps) W := by kernel_rfl
set_option maxRecDepth 1000000 in
theorem enter68 (caps : Array Value) (W : World) : (callFunc 68 caps).run Tryz.prog W = .ok (.enter 68 caps) W := by kernel_rfl
set_option maxRecDepth 1000000 in
theorem enter69 (caps : Array Value) (W : World) : (callFunc 69 caps).run Tryz.prog W = .ok (.enter 69 caps) W := by kernel_rfl
set_option maxRecDepth 1000000 in
theorem enter70 (caps : Array Value) (W : World) : (callFunc 70 caps).run Tryz.prog W = .ok (.enter 70 caps) W := by kernel_rfl
set_option maxRecDepth 1000000 in
theorem enter71 (caps : Array Value) (W : World) : (callFunc 71 caps).run Tryz.prog W = .ok (.enter 71 caps) W := by kernel_rfl
set_option maxRecDepth 1000000 in
theorem enter72 (caps : Array Value) (W : World) : (callFunc 72 caps).run Tryz.prog W = .ok (.enter 72 caps) W := by kernel_rfl
set_option maxRecDepth 1000000 in
theorem enter73 (caps : Array Value) (W : World) : (callFunc 73 caps).run Tryz.prog W = .ok (.enter 73 caps) W := by kernel_rfl
end Go.Proofs.YtmiacgkidldjmaaGreatDoor
