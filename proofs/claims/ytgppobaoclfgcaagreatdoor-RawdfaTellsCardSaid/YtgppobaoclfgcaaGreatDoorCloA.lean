/- dfa.closure's walk; slices.Sort of numbers. Conditions: what each lemma says. -/
import Derived.Test.YtgppobaoclfgcaaGreatDoorSep
import Derived.Test.YtgppobaoclfgcaaGreatDoorI4
import Derived.Test.YtgppobaoclfgcaaGreatDoorShelfN
import Derived.Deep.CutBlock
import Derived.Deep.DeepCutAuto
set_option linter.unusedVariables false
set_option linter.unusedSimpArgs false
namespace Go.Proofs.YtgppobaoclfgcaaGreatDoor
open Go.RowKit Go.Lib
open Plain (In4)
def bls (O : List Bool) : Array Value := (O.map Value.bool).toArray
theorem i64s_one (T : List Int) : ∀ u ∈ i64s T, u.oneCell' = true := by
  intro u hu; unfold i64s at hu; obtain ⟨t, _, rfl⟩ := List.mem_map.1 hu; rfl
theorem bls_set (O : List Bool) (j : Nat) : (bls O).setIfInBounds j (.bool true) = bls (O.set j true) := by
  unfold bls
  rw [List.setIfInBounds_toArray, List.map_set]
theorem bls_cell {w : World} {g i : Nat} {O : List Bool} (h : w.heap[g]? = some (.cells (bls O) 4 (0, 0))) (hi : i < O.length) : w.cell? ⟨g, i, none⟩ = some (.bool (O.getD i false)) := by
  rw [cell_of_row _ _ _ _ _ _ h]
  simp [bls, hi, List.getD_eq_getElem?_getD, List.getElem?_eq_getElem hi]
theorem cnt_set : ∀ (O : List Bool) (k : Nat), k < O.length → O.getD k false = false → (O.set k true).count false + 1 = O.count false := by
  intro O
  induction O with
  | nil => intro k h; simp at h
  | cons b O ih =>
    intro k h hk
    cases k with
    | zero =>
      simp at hk
      subst hk
      simp
    | succ k =>
      have := ih k (by simpa using h) (by simpa using hk)
      simp only [List.set_cons_succ, List.count_cons]
      omega
theorem SepB.to6 {W w : World} {x a b c d e f : Th} {l : List Th} (h : SepB W w (x :: a :: b :: c :: d :: e :: f :: l)) : SepB W w (a :: b :: c :: d :: e :: f :: x :: l) :=
  h.perm (List.perm_middle (a := x) (l₁ := [a, b, c, d, e, f]) (l₂ := l)).symm
theorem SepB.drop6 {W w : World} {x a b c d e f : Th} {l : List Th} (h : SepB W w (a :: b :: c :: d :: e :: f :: x :: l)) : SepB W w (a :: b :: c :: d :: e :: f :: l) := h.erase 6
theorem info3 : (Tryz.prog.info? 3).map (fun i => (i.zero, i.size, i.bytes)) = some (some (.int .i64 0), 1, 8) := by kernel_rfl
/-- what a closure's walk lies in -/
abbrev VL (I C : Option Addr) (n c kn d : Nat) (g : Int) (mg mb pb ob vb : Nat) (O : List Bool) (v : Value) (T : List Int) (R : List Th) : List Th :=
  boxT mg (bls O) 4 :: boxT mb #[.slice (some ⟨mg, 0, none⟩) n n] 25 :: boxT pb #[.slice I n c, .slice C kn d, .int .i64 g] 34 ::
  boxT vb #[.func (Fn.func 37) #[] #[.pointer (some ⟨mb, 0, none⟩), .pointer (some ⟨pb, 0, none⟩), .pointer (some ⟨ob, 0, none⟩), .pointer (some ⟨vb, 0, none⟩)]] 69 ::
  boxT ob #[v] 58 :: rowT 3 1 v T.length (i64s T) :: R
def InN (n : Nat) (T : List Int) : Prop := ∀ t ∈ T, 0 ≤ t ∧ t < (n : Int)
def VPost (I C : Option Addr) (n c kn d : Nat) (g : Int) (mg mb pb ob vb : Nat) (R : List Th) (W : World) (z : Nat) (e : Ending) (w' : World) : Prop :=
  e = .returned (.tuple #[]) ∧ ∃ (O : List Bool) (T : List Int) (v : Value), O.length = n ∧ O.count false ≤ z ∧ T.length + O.count false ≤ n ∧ InN n T ∧ SepB W w' (VL I C n c kn d g mg mb pb ob vb O v T R)
set_option maxRecDepth 1000000 in
set_option maxHeartbeats 8000000 in
theorem visit_any (W : World) (I C : Option Addr) (L : List In4) (n c kn d : Nat) (g : Int) (mg mb pb ob vb : Nat) (hI : Sl W I (i4s L)) (hn : L.length = n) (hn2 : n ≤ 1048576) :
    ∀ (z : Nat) (O : List Bool) (T : List Int) (v : Value) (R : List Th) (k : Int) (w : World), O.count false ≤ z → O.length = n → InN n T → T.length + O.count false ≤ n → SepB W w (VL I C n c kn d g mg mb pb ob vb O v T R) →
      Calls Tryz.prog 37 #[.int .i64 k, .pointer (some ⟨mb, 0, none⟩), .pointer (some ⟨pb, 0, none⟩), .pointer (some ⟨ob, 0, none⟩), .pointer (some ⟨vb, 0, none⟩)] w
        (VPost I C n c kn d g mg mb pb ob vb R W (O.count false)) := by
  intro z
  induction z with
  | zero => ?_
  | succ z ih => ?_
  all_goals
    intro O T v R k w hz hO hT hTl hS
    have HS := Lib.hid hS
    have HO := Lib.hid hO
    have HT := Lib.hid hT
    have HTL := Lib.hid hTl
    have hb1 := hS.box 1 _ _ _ rfl
    have l1 := lt_of_some hb1.2
    have x1 : w.cell? ⟨mb, 0, none⟩ = some (.slice (some ⟨mg, 0, none⟩) n n) := by rw [cell_of_row _ _ _ _ _ _ hb1.2]; rfl
    clear hb1
    by_cases h0 : k < 0
    · have d0 : decide (k < 0) = true := decide_eq_true h0
      go_enter Tryz.func37, Tryz.ntmps37
      go_wp2_with fail
      go_end0
      exact ⟨rfl, O, T, v, HO.out, Nat.le_refl _, HTL.out, HT.out, HS.out⟩
    have d0 : decide (k < 0) = false := decide_eq_false h0
    obtain ⟨j, rfl⟩ := Int.eq_ofNat_of_zero_le (show 0 ≤ k by omega)
    by_cases h1 : n ≤ j
    · have d1 : decide ((n : Int) ≤ (j : Int)) = true := decide_eq_true (by omega)
      go_enter Tryz.func37, Tryz.ntmps37
      go_wp2_with fail
      go_end0
      exact ⟨rfl, O, T, v, HO.out, Nat.le_refl _, HTL.out, HT.out, HS.out⟩
    have d1 : decide ((n : Int) ≤ (j : Int)) = false := decide_eq_false (by omega)
    have hjn : j < n := by omega
    have hb0 := hS.box 0 _ _ _ rfl
    have l0 := lt_of_some hb0.2
    have x0 := bls_cell hb0.2 (i := j) (by omega)
    clear hb0
    have g0 : (0 : Int) ≤ (j : Int) := by omega
    have g1 : (j : Int) < (n : Int) := by omega
    by_cases h2 : O.getD j false = true
    · rw [h2] at x0
      go_enter Tryz.func37, Tryz.ntmps37
      go_wp2_with fail
      go_end0
      exact ⟨rfl, O, T, v, HO.out, Nat.le_refl _, HTL.out, HT.out, HS.out⟩
    have hc := cnt_set O j (by omega) (by simpa using h2)
    rw [show O.getD j false = false by simpa using h2] at x0
  · omega
  have CV := Lib.hid ih
  have fm : w.frozen? ⟨mg, j, none⟩ = false := blk_frozen (hS.box 0 _ _ _ rfl).2 j
  have hSm := hS.store 0 mg _ 4 rfl j (.bool true)
  rw [bls_set] at hSm
  have HSm := Lib.hid hSm
  have HC := Lib.hid hc
  clear hS hSm ih
  go_enter Tryz.func37, Tryz.ntmps37
  go_upto_region 2 with fail
  obtain ⟨wm, hwm⟩ : ∃ x, w.setCell ⟨mg, j, none⟩ (.bool true) = x := ⟨_, rfl⟩
  rw [hwm] at HSm ⊢
  have hSm : SepB W wm (VL I C n c kn d g mg mb pb ob vb (O.set j true) v T R) := HSm.out
  clear hwm x0 x1 l0 l1 fm
  obtain ⟨ba, off, rfl, hba, c0, c1, c2, c3⟩ := i4_at (hI.below hSm.2) j (by omega)
  obtain ⟨t, ht⟩ : ∃ t, L[j] = t := ⟨_, rfl⟩
  rw [ht] at c0 c1 c2 c3
  obtain ⟨op, x, y, a⟩ := t
  dsimp only at c0 c1 c2 c3
  have hbp := hSm.box 2 _ _ _ rfl
  have lp := lt_of_some hbp.2
  have xp : wm.cell? ⟨pb, 0, none⟩ = some (.slice (some ⟨ba, off, none⟩) n c) := by rw [cell_of_row _ _ _ _ _ _ hbp.2]; rfl
  have hSt := (hSm.new #[.int .i64 op, .int .i64 x, .int .i64 y, .int .i64 a] 77 _).to6
  have HSt := Lib.hid hSt
  clear hbp hSm hSt
  go_upto_region 3 with fail
  obtain ⟨wt, hwt⟩ : ∃ z, wm.alloc (.cells #[.int .i64 op, .int .i64 x, .int .i64 y, .int .i64 a] 77) = z := ⟨_, rfl⟩
  rw [hwt] at HSt ⊢
  obtain ⟨tb, htb⟩ : ∃ z, wm.heap.size = z := ⟨_, rfl⟩
  rw [htb] at HSt ⊢
  have hbt := HSt.out.box 6 _ _ _ rfl
  have lt := lt_of_some hbt.2
  have y0 : wt.cell? ⟨tb, 0, none⟩ = some (.int .i64 op) := by rw [cell_of_row _ _ _ _ _ _ hbt.2]; rfl
  have y1 : wt.cell? ⟨tb, 1, none⟩ = some (.int .i64 x) := by rw [cell_of_row _ _ _ _ _ _ hbt.2]; rfl
  have y2 : wt.cell? ⟨tb, 2, none⟩ = some (.int .i64 y) := by rw [cell_of_row _ _ _ _ _ _ hbt.2]; rfl
  have hbv := HSt.out.box 3 _ _ _ rfl
  have lv := lt_of_some hbv.2
  have xv : wt.cell? ⟨vb, 0, none⟩ = some (.func (Fn.func 37) #[] #[.pointer (some ⟨mb, 0, none⟩), .pointer (some ⟨pb, 0, none⟩), .pointer (some ⟨ob, 0, none⟩), .pointer (some ⟨vb, 0, none⟩)]) := by rw [cell_of_row _ _ _ _ _ _ hbv.2]; rfl
  clear hwt htb c0 c1 c2 c3 lp xp hbt hbv ht hba
  have hOl : (O.set j true).length = n := by rw [List.length_set]; exact HO.out
  obtain ⟨P, hP⟩ : ∃ P, O.set j true = P := ⟨_, rfl⟩
  rw [hP] at HSt HC hOl
  have HPL := Lib.hid hOl
  clear hP hOl HSm HS
  by_cases hop : op = 0 ∨ op = 1
  · have hbo := HSt.out.box 4 _ _ _ rfl
    have lo := lt_of_some hbo.2
    have xo : wt.cell? ⟨ob, 0, none⟩ = some v := by rw [cell_of_row _ _ _ _ _ _ hbo.2]; rfl
    have fo : wt.frozen? ⟨ob, 0, none⟩ = false := blk_frozen hbo.2 0
    obtain ⟨i3, hi3, z0, z1, z2⟩ := info_parts info3
    clear hbo
    have hT2 : T.length < n := by have := HTL.out; have := HC.out; omega
    have HW := Lib.hid hn2
    have HROW := Lib.hid ((HSt.out.alloc (.cells #[.int .i64 (j : Int)] 3)).row 5 _ _ _ _ _ rfl)
    have fin : ∀ (v' : Value) (w' : World), SepB W w' (VL (some ⟨ba, off, none⟩) C n c kn d g mg mb pb ob vb P v' (T ++ [(j : Int)]) R) → VPost (some ⟨ba, off, none⟩) C n c kn d g mg mb pb ob vb R W (O.count false) (.returned (.tuple #[])) w' := fun v' w' h =>
      ⟨rfl, P, T ++ [(j : Int)], v', HPL.out, by have := HC.out; omega, by have := HC.out; have := HTL.out; simp; omega, fun t ht => by
        rcases List.mem_append.1 ht with h | h
        · exact HT.out t h
        · rw [List.mem_singleton.1 h]; omega, h⟩
    have FIN := Lib.hid fin
    clear fin
    have e01 : (op == 0) = true ∨ ((op == 0) = false ∧ (op == 1) = true) := by
      rcases hop with rfl | rfl
      · exact .inl rfl
      · exact .inr ⟨rfl, rfl⟩
    clear hop
    rcases e01 with e0 | ⟨e0, e1⟩ <;>
    · go_wp2_with (at_builtin; refine wpList_append_own2 _ rfl (.tmp 38) (.tmp 40) _ rfl W.heap.size 3 i3 _ 1 8 Tryz.underlying58 hi3 z0 z1 z2 rfl (by decide) v T.length (i64s T) rfl HROW.out ⟨wt.heap.size, 0, none⟩ 1 1 [.int .i64 (j : Int)] rfl rfl (CellsAt_add (CellsAt.new wt _ _)) ?c2 ?c3 ?c4 ?c5 ?_)
      case c2 => first | exact rfl | (intro u hu; simp only [List.mem_cons, List.not_mem_nil, or_false] at hu; rw [hu]; rfl)
      case c3 => have := HW.out; simp only [maxLen]; omega
      case c4 => have := HW.out; omega
      case c5 => have := HSt.out.2.size; simp; omega
      intro v3 w7 hown2 hg2 hvb
      obtain ⟨gv, uc, rfl, _, _, _⟩ := own_at hown2 (by omega)
      have hS7 := (HSt.out.erase 6).push 5 3 1 v _ T.length (T.length + 1) (i64s T) _ rfl (below_alloc (Below.refl wt.heap.size wt) _) hg2 hown2 (by simpa using hvb)
      have hs8 := hS7.store 4 ob _ 58 rfl 0 (.slice (some ⟨gv, 0, none⟩) (T.length + 1) uc)
      have hb7 := hS7.box 4 _ _ _ rfl
      have f7 : w7.frozen? ⟨ob, 0, none⟩ = false := blk_frozen hb7.2 0
      have l7 := lt_of_some hb7.2
      have x7 : w7.cell? ⟨ob, 0, none⟩ = some v := by rw [cell_of_row _ _ _ _ _ _ hb7.2]; rfl
      have HS8 := Lib.hid hs8
      clear hS7 hs8 hb7 hown2 hg2 hvb xo fo lo
      go_wp2_with fail
      go_end0
      refine FIN.out (.slice (some ⟨gv, 0, none⟩) (T.length + 1) uc) _ ?_
      have h8 := HS8.out
      have el : T.length + 1 = (T ++ [(j : Int)]).length := by simp
      have ei : i64s T ++ [.int .i64 (j : Int)] = i64s (T ++ [(j : Int)]) := by unfold i64s; rw [List.map_append]; rfl
      unfold VL
      rw [← ei, ← el]
      exact h8
  · have e0 : (op == 0) = false := beq_eq_false_iff_ne.2 (fun h => hop (.inl h))
    have e1 : (op == 1) = false := beq_eq_false_iff_ne.2 (fun h => hop (.inr h))
    clear hop
    have c1 := CV.out P T v (boxT tb #[.int .i64 op, .int .i64 x, .int .i64 y, .int .i64 a] 77 :: R) x wt (by have := HC.out; omega) HPL.out HT.out (by have := HC.out; have := HTL.out; omega) HSt.out
    have C1 := Lib.hid c1
    clear c1
    by_cases h2 : op = 2
    · have e2 : (op == 2) = true := by rw [h2]; rfl
      clear h2
      go_wp2_with fail
      refine C1.out.mono ?_
      rintro e w1 ⟨rfl, O1, T1, v1, h1, h2, h3, h4, hS1⟩
      have c2 := CV.out O1 T1 v1 (boxT tb #[.int .i64 op, .int .i64 x, .int .i64 y, .int .i64 a] 77 :: R) y w1 (by have := HC.out; omega) h1 h4 h3 hS1
      have C2 := Lib.hid c2
      have hbt := hS1.box 6 _ _ _ rfl
      clear lt y0 y1 y2 lv xv
      have lt := lt_of_some hbt.2
      have y2 : w1.cell? ⟨tb, 2, none⟩ = some (.int .i64 y) := by rw [cell_of_row _ _ _ _ _ _ hbt.2]; rfl
      have hbv := hS1.box 3 _ _ _ rfl
      have lv := lt_of_some hbv.2
      have xv : w1.cell? ⟨vb, 0, none⟩ = some (.func (Fn.func 37) #[] #[.pointer (some ⟨mb, 0, none⟩), .pointer (some ⟨pb, 0, none⟩), .pointer (some ⟨ob, 0, none⟩), .pointer (some ⟨vb, 0, none⟩)]) := by rw [cell_of_row _ _ _ _ _ _ hbv.2]; rfl
      have H2 := Lib.hid h2
      clear c2 hbt hbv hS1 h1 h2 h3 h4
      go_wp2_with fail
      refine C2.out.mono ?_
      rintro e w2 ⟨rfl, O2, T2, v2, h1, h2, h3, h4, hS2⟩
      have HH := Lib.hid (show VPost (some ⟨ba, off, none⟩) C n c kn d g mg mb pb ob vb R W (O.count false) (.returned (.tuple #[])) w2 from ⟨rfl, O2, T2, v2, h1, by have := HC.out; have := H2.out; omega, h3, h4, hS2.erase 6⟩)
      clear h1 h2 h3 h4 hS2 lt y2 lv xv
      go_wp2_with fail
      go_end0
      exact HH.out
    · have e2 : (op == 2) = false := beq_eq_false_iff_ne.2 h2
      clear h2
      go_wp2_with fail
      refine C1.out.mono ?_
      rintro e w1 ⟨rfl, O1, T1, v1, h1, h2, h3, h4, hS1⟩
      have HH := Lib.hid (show VPost (some ⟨ba, off, none⟩) C n c kn d g mg mb pb ob vb R W (O.count false) (.returned (.tuple #[])) w1 from ⟨rfl, O1, T1, v1, h1, by have := HC.out; omega, h3, h4, hS1.erase 6⟩)
      clear h1 h2 h3 h4 hS1 lt y0 y1 y2 lv xv
      go_wp2_with fail
      go_end0
      exact HH.out
end Go.Proofs.YtgppobaoclfgcaaGreatDoor
namespace Go.Proofs.YtgppobaoclfgcaaGreatDoor
open Go.RowKit Go.Lib Go.Sort
theorem i64s_len (T : List Int) : (i64s T).length = T.length := by unfold i64s; rw [List.length_map]
theorem i64s_get (T : List Int) (j : Nat) (hj : j < T.length) : (i64s T)[j]? = some (.int .i64 T[j]) := by unfold i64s; rw [List.getElem?_map, List.getElem?_eq_getElem hj]; rfl
theorem iholds_own {w : World} {base g n c : Nat} {T : List Int} (h : w.ownsRow base 3 1 (.slice (some ⟨g, 0, none⟩) n c) n (i64s T)) (hT : T.length = n) (h1 : 1 ≤ n) : Holds (Value.int .i64) w g 0 T.toArray := by
  intro j hj
  simp at hj
  obtain ⟨_, _, hv, _, _, hcl⟩ := own_at h (by omega)
  injection hv with hv1
  injection hv1 with hv1
  injection hv1 with hv1
  subst hv1
  rw [Nat.zero_add, getElem!_pos T.toArray j (by simpa using hj)]
  exact ⟨hcl.2 j _ (i64s_get T j hj), h.frozenAt j⟩
theorem iown_sorted {w : World} {base g n c m : Nat} {T : List Int} (h : w.ownsRow base 3 1 (.slice (some ⟨g, 0, none⟩) n c) n (i64s T)) (d : Array Int) (hd : d.size = n) (os : Array Obj) :
    (grow (putRow (Value.int .i64) (Go.Sort.ahead w m) g 0 d) os).ownsRow base 3 1 (.slice (some ⟨g, 0, none⟩) n c) n (i64s d.toList) ∧ w.grownBy (grow (putRow (Value.int .i64) (Go.Sort.ahead w m) g 0 d) os) (some g) := by
  rcases h.2 with ⟨hv, _⟩ | ⟨g', cap', cur, hv, hbg, hg, hnc, hcm, hcs, htake⟩
  · cases hv
  · injection hv with hv1 hv2 hv3
    injection hv1 with hv1
    injection hv1 with hv1
    subst hv1 hv3
    have hlt := lt_of_some hg
    have hheap : (grow (putRow (Value.int .i64) (Go.Sort.ahead w m) g 0 d) os).heap[g]? = some (.cells (putCells (Value.int .i64) 0 d cur) 3 (0, 0)) := by
      unfold grow putRow mapBlock Go.Sort.ahead
      dsimp only
      rw [Array.getElem?_append_left (by simpa using hlt), Array.getElem?_modify, if_pos rfl, hg]
      rfl
    refine ⟨⟨by rw [i64s_len, Array.length_toList, hd]; omega, .inr ⟨g, c, _, rfl, hbg, hheap, hnc, hcm, by simp [putCells, hcs], ?_⟩⟩, ⟨rfl, rfl, rfl, ?_, ?_⟩⟩
    · apply List.ext_getElem
      · rw [List.length_take, i64s_len]; simp [putCells, hd]; omega
      · intro j h1 h2
        rw [i64s_len] at h2
        have hj : j < d.size := by simpa using h2
        have hj2 : j < cur.size := by rw [hcs]; omega
        rw [List.getElem_take]
        simp only [putCells, Array.getElem_toList, Array.getElem_mapIdx]
        rw [if_pos ⟨Nat.zero_le _, by omega⟩, Nat.sub_zero, getElem!_pos d j hj]
        simp [i64s]
    · unfold grow putRow mapBlock Go.Sort.ahead
      simp
    · intro k hk hne
      unfold grow putRow mapBlock Go.Sort.ahead
      dsimp only
      rw [Array.getElem?_append_left (by simp; omega), Array.getElem?_modify, if_neg (fun e => hne (by rw [e]))]
theorem isort_any (T : List Int) (v : Value) (base : Nat) (w : World) (hown : w.ownsRow base 3 1 v T.length (i64s T)) (hn : T.length ≤ 1048576) :
    Calls Tryz.prog 38 #[v] w fun e w' => e = .returned (.tuple #[]) ∧ ∃ S : List Int, S.Perm T ∧ S.length = T.length ∧ w'.ownsRow base 3 1 v S.length (i64s S) ∧ w.grownBy w' v.ownBlock := by
  rcases Nat.eq_zero_or_pos T.length with h0 | h0
  · have hv : ∃ p c, v = .slice p 0 c := by
      rcases hown.2 with ⟨hv, _⟩ | ⟨g, c, _, hv, _⟩
      · exact ⟨_, _, hv⟩
      · rw [h0] at hv; exact ⟨_, _, hv⟩
    obtain ⟨p, c, rfl⟩ := hv
    refine (Tryz.slices_Sort_int_none p c w).mono ?_
    rintro e w' ⟨rfl, rfl⟩
    exact ⟨rfl, T, List.Perm.refl _, rfl, hown, ⟨rfl, rfl, rfl, Nat.le_refl _, fun _ _ _ => rfl⟩⟩
  · obtain ⟨g, c, rfl, hcc, hbg, hcl⟩ := own_at hown h0
    refine (Tryz.slices_Sort_int g 0 c T w (iholds_own hown rfl h0) hcl.1 (by omega)).mono ?_
    rintro e w' ⟨rfl, m, os, rfl⟩
    have hl : (T.mergeSort fun x y => decide (x ≤ y)).length = T.length := List.length_mergeSort _
    have ho := iown_sorted hown (m := m) (T.mergeSort fun x y => decide (x ≤ y)).toArray (by simp) os
    refine ⟨rfl, _, List.mergeSort_perm T _, hl, ?_, ho.2⟩
    rw [hl]
    exact ho.1
end Go.Proofs.YtgppobaoclfgcaaGreatDoor
namespace Go.Proofs.YtgppobaoclfgcaaGreatDoor
open Go.RowKit Go.Lib
open Plain (In4)
theorem info4b : (Tryz.prog.info? 4).map (fun i => (i.zero, i.size, i.bytes)) = some (some (.bool false), 1, 1) := by kernel_rfl
theorem made_one (v : Value) (n : Nat) : madeCells #[v] n = (List.replicate n v).toArray := by
  rw [← toList_madeCells_one]
theorem make_bools (W : World) (n : Nat) (hn : n ≤ 1048576) : (Instr.makeSlice 25 (.int .i64 (n : Int)) (.int .i64 (n : Int))).run Tryz.prog W = .ok (.slice (some ⟨W.heap.size, 0, none⟩) n n) (W.alloc (.cells (bls (List.replicate n false)) 4)) := by
  obtain ⟨i4, hi4, b0, b1, b2⟩ := info_parts info4b
  have := run_make (P := Tryz.prog) W 25 4 i4 (.bool false) Tryz.underlying25 hi4 b0 .i64 .i64 n n (by omega) (Int.le_refl _) (by rw [b2]; omega) (by omega)
  rw [this, b1, Nat.mul_one, Int.toNat_natCast]
  rw [show (Value.bool false).cells = #[.bool false] from rfl, made_one]
  simp [bls]
theorem i64_at {w : World} {A : Option Addr} {X : List Int} (h : Sl w A (i64s X)) (k : Nat) (hk : k < X.length) : ∃ b off, A = some ⟨b, off, none⟩ ∧ b < w.heap.size ∧ w.cell? ⟨b, off + k, none⟩ = some (.int .i64 X[k]) := by
  obtain ⟨b, off, e, hb, hc⟩ := h (by rw [i64s_len]; omega)
  exact ⟨b, off, e, hb, hc _ _ (i64s_get X k hk)⟩
theorem perm6 {α : Type} (a b c d e f : α) : [a, b, c, d, e, f].Perm [e, d, f, b, c, a] := by
  refine (List.perm_middle (l₁ := [a, b, c, d]) (a := e) (l₂ := [f])).trans (List.Perm.cons e ?_)
  refine (List.perm_middle (l₁ := [a, b, c]) (a := d) (l₂ := [f])).trans (.cons d ?_)
  refine (List.perm_middle (l₁ := [a, b, c]) (a := f) (l₂ := [])).trans (.cons f ?_)
  refine (List.perm_middle (l₁ := [a]) (a := b) (l₂ := [c])).trans (.cons b ?_)
  exact .swap c a []
theorem store_func {w : World} {a : Addr} {v u : Value} (hv : v.oneCell' = true) (hc : w.cell? a = some u) (hf : w.frozen? a = false) (h : (store a v).run Tryz.prog w = stored Tryz.prog w a v .plain) : (store a v).run Tryz.prog w = .ok () (w.setCell a v) := by
  rw [h]; unfold stored; rw [hc, hf]; simp
def CloPost (n : Nat) (w : World) (e : Ending) (w' : World) : Prop :=
  ∃ (v : Value) (T : List Int), e = .returned v ∧ InN n T ∧ T.length ≤ n ∧ w'.ownsRow w.heap.size 3 1 v T.length (i64s T) ∧ Below w.heap.size w w'
set_option maxRecDepth 1000000 in
set_option maxHeartbeats 8000000 in
theorem closure_any (I C : Option Addr) (L : List In4) (c kn d : Nat) (g : Int) (B : Option Addr) (X : List Int) (xc : Nat) (w : World) (hI : Sl w I (i4s L)) (hl : L.length ≤ 1048576) (hX : Sl w B (i64s X)) (hxl : X.length ≤ 1048576) :
    Calls Tryz.prog 18 #[.agg #[.slice I L.length c, .slice C kn d, .int .i64 g], .slice B X.length xc] w (CloPost L.length w) := by
  obtain ⟨n, hN⟩ : ∃ n, L.length = n := ⟨_, rfl⟩
  obtain ⟨m, hM⟩ : ∃ n, X.length = n := ⟨_, rfl⟩
  have CV := Lib.hid (fun mg mb pb ob vb => visit_any w I C L n c kn d g mg mb pb ob vb hI hN (by omega))
  rw [hN] at hl ⊢
  rw [hM] at hxl ⊢
  have HX := Lib.hid hX
  have HM := Lib.hid hM
  have HMK := Lib.hid (fun (W : World) => make_bools W n hl)
  have hmk := fun (W : World) => HMK.out W
  clear hI hX hN hM HMK
  go_enter Tryz.func18, Tryz.ntmps18
  have h0 := (((((SepB.nil w).new #[.slice I n c, .slice C kn d, .int .i64 g] 34 _).new (bls (List.replicate n false)) 4 _).new #[.slice (some ⟨w.heap.size + 1, 0, none⟩) n n] 25 _).new #[.slice none 0 0] 58 _).new #[.nilFunc] 69 _
  have h1 := (h0.empty 3 1).perm (show List.Perm _ _ from .refl _)
  simp only [World.size_alloc] at h1
  have HS0 := Lib.hid h1
  clear h0 h1
  go_upto_region 4 with fail
  obtain ⟨wa, hwa⟩ : ∃ x, ((((w.alloc (Obj.cells #[Value.slice I n c, Value.slice C kn d, Value.int IntKind.i64 g] 34)).alloc (Obj.cells (bls (List.replicate n false)) 4)).alloc (Obj.cells #[Value.slice (some { block := w.heap.size + 1, off := 0 }) n n] 25)).alloc (Obj.cells #[Value.slice none 0 0] 58)).alloc (Obj.cells #[Value.nilFunc] 69) = x := ⟨_, rfl⟩
  rw [hwa] at HS0 ⊢
  obtain ⟨vb, h4⟩ : ∃ x, w.heap.size + 1 + 1 + 1 + 1 = x := ⟨_, rfl⟩
  rw [h4] at HS0 ⊢
  obtain ⟨ob, h3⟩ : ∃ x, w.heap.size + 1 + 1 + 1 = x := ⟨_, rfl⟩
  rw [h3] at HS0 ⊢
  obtain ⟨mb, h2⟩ : ∃ x, w.heap.size + 1 + 1 = x := ⟨_, rfl⟩
  rw [h2] at HS0 ⊢
  obtain ⟨mg, h1⟩ : ∃ x, w.heap.size + 1 = x := ⟨_, rfl⟩
  rw [h1] at HS0 ⊢
  obtain ⟨pb, hp⟩ : ∃ x, w.heap.size = x := ⟨_, rfl⟩
  have HS1 := Lib.hid (HS0.out.perm (perm6 _ _ _ _ _ _))
  rw [show w.heap.size = pb from hp] at HS1 ⊢
  have hbv := HS1.out.box 3 _ _ _ rfl
  have lv := lt_of_some hbv.2
  have xv : wa.cell? ⟨vb, 0, none⟩ = some .nilFunc := by rw [cell_of_row _ _ _ _ _ _ hbv.2]; rfl
  have fv : wa.frozen? ⟨vb, 0, none⟩ = false := blk_frozen hbv.2 0
  have hst := store_func (v := .func (Fn.func 37) #[] #[.pointer (some ⟨mb, 0, none⟩), .pointer (some ⟨pb, 0, none⟩), .pointer (some ⟨ob, 0, none⟩), .pointer (some ⟨vb, 0, none⟩)]) rfl xv fv (run_store _ _ _ _ _ rfl)
  have hs2 := HS1.out.store 3 vb _ 69 rfl 0 (.func (Fn.func 37) #[] #[.pointer (some ⟨mb, 0, none⟩), .pointer (some ⟨pb, 0, none⟩), .pointer (some ⟨ob, 0, none⟩), .pointer (some ⟨vb, 0, none⟩)])
  have HS2 := Lib.hid (show SepB w (wa.setCell ⟨vb, 0, none⟩ (.func (Fn.func 37) #[] #[.pointer (some ⟨mb, 0, none⟩), .pointer (some ⟨pb, 0, none⟩), .pointer (some ⟨ob, 0, none⟩), .pointer (some ⟨vb, 0, none⟩)])) (VL I C n c kn d g mg mb pb ob vb (List.replicate n false) (.slice none 0 0) [] []) from hs2)
  clear hbv hs2 hwa h4 h3 h2 h1 hp HS0 HS1
  go_upto_region 5 with fail
  clear lv xv fv hmk hst
  obtain ⟨wb, hwb⟩ : ∃ x, wa.setCell ⟨vb, 0, none⟩ (.func (Fn.func 37) #[] #[.pointer (some ⟨mb, 0, none⟩), .pointer (some ⟨pb, 0, none⟩), .pointer (some ⟨ob, 0, none⟩), .pointer (some ⟨vb, 0, none⟩)]) = x := ⟨_, rfl⟩
  rw [hwb] at HS2 ⊢
  clear hwb
  go_wp2_with fail
  go_loopw [9, 17] (fun _ i wr => ∃ (q : Nat) (O : List Bool) (T : List Int) (v : Value), q ≤ m ∧ i = .int .i64 q ∧ O.length = n ∧ InN n T ∧ T.length + O.count false ≤ n ∧ SepB w wr (VL I C n c kn d g mg mb pb ob vb O v T [])) (fun _ i _ => m - (RowKit.intOf i).toNat)
  case atStart => exact ⟨0, List.replicate n false, [], .slice none 0 0, Nat.zero_le _, rfl, List.length_replicate, fun t ht => absurd ht (by simp), by simp, HS2.out⟩
  case round =>
    obtain ⟨q, O, T, v, hq, rfl, hO, hT, hTl, hS⟩ := hrel
    have HS := Lib.hid hS
    have HO := Lib.hid hO
    have HT := Lib.hid hT
    have HTL := Lib.hid hTl
    clear hS hO hT hTl
    by_cases hlt : q < m
    · obtain ⟨ba, off, rfl, hba, c0⟩ := i64_at (HX.out.below HS.out.2) q (by rw [HM.out]; exact hlt)
      obtain ⟨x, hx⟩ : ∃ x, X[q]'(by rw [HM.out]; exact hlt) = x := ⟨_, rfl⟩
      rw [hx] at c0
      have cc := CV.out mg mb pb ob vb (O.count false) O T v [] x wr (Nat.le_refl _) HO.out HT.out HTL.out HS.out
      have HC := Lib.hid cc
      have hbv := HS.out.box 3 _ _ _ rfl
      have lv := lt_of_some hbv.2
      have xv : wr.cell? ⟨vb, 0, none⟩ = some (.func (Fn.func 37) #[] #[.pointer (some ⟨mb, 0, none⟩), .pointer (some ⟨pb, 0, none⟩), .pointer (some ⟨ob, 0, none⟩), .pointer (some ⟨vb, 0, none⟩)]) := by rw [cell_of_row _ _ _ _ _ _ hbv.2]; rfl
      have d0 : decide ((q : Int) < (m : Int)) = true := decide_eq_true (by omega)
      have d1 : decide (q < m) = true := decide_eq_true hlt
      have g0 : (0 : Int) ≤ (q : Int) := by omega
      have g1 : (q : Int) < (m : Int) := by omega
      clear hx cc hbv
      go_wp2_with fail
      refine HC.out.mono ?_
      rintro e w1 ⟨rfl, O1, T1, v1, h1, h2, h3, h4, hS1⟩
      have HS1 := Lib.hid hS1
      have HF := Lib.hid (And.intro h1 (And.intro h3 h4))
      clear h1 h2 h3 h4 hS1 lv xv c0
      go_wp2_with fail
      go_roundw
      case rel => exact ⟨q + 1, O1, T1, v1, by omega, by go_num, HF.out.1, HF.out.2.2, HF.out.2.1, HS1.out⟩
      case measure => simp [RowKit.intOf]; omega
    · have d0 : decide ((q : Int) < (m : Int)) = false := decide_eq_false (by omega)
      have d1 : decide (q < m) = false := decide_eq_false hlt
      have hbo := HS.out.box 4 _ _ _ rfl
      have lo := lt_of_some hbo.2
      have xo : wr.cell? ⟨ob, 0, none⟩ = some v := by rw [cell_of_row _ _ _ _ _ _ hbo.2]; rfl
      have cc := isort_any T v w.heap.size wr (HS.out.row 5 _ _ _ _ _ rfl) (by have := HTL.out; omega)
      have HC := Lib.hid cc
      clear hbo cc
      go_wp2_with fail
      refine HC.out.mono ?_
      rintro e w1 ⟨rfl, S, hp, hl, ho, hg⟩
      have hS1 := HS.out.push 5 3 1 v v T.length S.length (i64s T) (i64s S) rfl (Below.refl _ _) hg ho (.inl rfl)
      have HS1 := Lib.hid hS1
      have HF := Lib.hid (show CloPost n w (.returned v) w1 from ⟨v, S, rfl, fun t ht => HT.out t (hp.mem_iff.1 ht), by have := HTL.out; omega, ho, hS1.2⟩)
      have hbo := hS1.box 4 _ _ _ rfl
      clear lo xo
      have lo := lt_of_some hbo.2
      have xo : w1.cell? ⟨ob, 0, none⟩ = some v := by rw [cell_of_row _ _ _ _ _ _ hbo.2]; rfl
      clear hbo hp hl ho hg hS1
      go_wp2_with fail
      go_ret
      exact HF.out
end Go.Proofs.YtgppobaoclfgcaaGreatDoor
