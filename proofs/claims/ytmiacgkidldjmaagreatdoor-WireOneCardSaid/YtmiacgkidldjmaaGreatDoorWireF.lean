/- Chapter 12: Get's closures, end, open: what the code computes. Conditions: what each lemma says. -/
import Derived.Test.YtmiacgkidldjmaaGreatDoorWireE
import Derived.Test.YtmiacgkidldjmaaGreatDoorWireC
set_option linter.unusedVariables false
set_option linter.unusedSimpArgs false
namespace Go.Proofs.YtmiacgkidldjmaaGreatDoor
open Go.RowKit Go.Lib
open Plain (Rg)
set_option maxRecDepth 1000000 in
set_option maxHeartbeats 4000000 in
theorem cl64_any {W w : World} (t : Plain.St) (K : List Cs) (v0 v1 : Value) (gn : Int) (g rc pb : Nat) (mo : List Th) (h : SepB W w (LK g rc pb t K v0 v1 gn mo)) (hsm : t.small) (hl : K.length ≤ 1000) :
    Calls Tryz.prog 64 #[.pointer (some ⟨rc, 0, none⟩), .pointer (some ⟨pb, 0, none⟩)] w fun e w' => e = .returned (.tuple #[]) ∧ Post64 W g rc pb v0 gn mo (Plain.gClass (t, K.map Cs.R)).1 (Plain.gClass (t, K.map Cs.R)).2 w' := by
  have hn := Plain.number_most t 64
  have hs1 := Plain.small_number t 64 hsm
  obtain ⟨a, t1, hx⟩ : ∃ a t1, t.number 64 = (a, t1) := ⟨_, _, rfl⟩
  rw [hx] at hn hs1
  dsimp only at hn hs1
  obtain ⟨t2, R, hy⟩ : ∃ t2 R, Plain.many (fun s : Plain.SR => s.1.bad) Plain.gRange a (t1, []) = (t2, R) := ⟨_, _, rfl⟩
  have hg : Plain.gClass (t, K.map Cs.R) = (t2, K.map Cs.R ++ [R]) := by unfold Plain.gClass; dsimp only; rw [hx]; dsimp only; rw [hy]
  rw [hg]
  dsimp only
  unfold LK at h
  obtain ⟨i102, hi102, y0, y1, y2⟩ := info_parts info102
  have hal := h.alloc (.cells #[.slice none 0 0] 102)
  have hnew := (h.new #[.slice none 0 0] 102 (.cells #[.slice none 0 0] 102)).empty 104 2
  obtain ⟨cb, hcb⟩ : ∃ x, w.heap.size = x := ⟨_, rfl⟩
  rw [hcb] at hnew
  have H0 := Lib.hid (show SepB W (w.alloc (.cells #[.slice none 0 0] 102)) (boxT g (rdCs t) 173 :: boxT rc #[.pointer (some ⟨g, 0, none⟩)] 127 :: boxT cb #[.slice none 0 0] 102 :: rowT 104 2 (.slice none 0 0) 0 (rgs []) :: boxT pb #[v0, v1, .int .i64 gn] 25 :: rowT 102 1 v1 K.length (K.map clV) :: (K.reverse.map clsT ++ mo)) from hnew.move22)
  have HCB := Lib.hid hcb
  obtain ⟨more, hmore⟩ : ∃ x, boxT pb #[v0, v1, .int .i64 gn] 25 :: rowT 102 1 v1 K.length (K.map clV) :: (K.reverse.map clsT ++ mo) = x := ⟨_, rfl⟩
  have HM := Lib.hid hmore
  rw [hmore] at H0
  have C1 := Lib.hid (fun W' (h' : SepB W W' (boxT g (rdCs t) 173 :: boxT rc #[.pointer (some ⟨g, 0, none⟩)] 127 :: boxT cb #[.slice none 0 0] 102 :: rowT 104 2 (.slice none 0 0) 0 (rgs []) :: more)) => number_at (w := W') 0 g t 64 64 a t1 h' rfl hsm (by decide) (by decide) hx)
  have CM := Lib.hid (fun (W' : World) (h' : SepB W W' (boxT g (rdCs t1) 173 :: boxT rc #[.pointer (some ⟨g, 0, none⟩)] 127 :: boxT cb #[.slice none 0 0] 102 :: rowT 104 2 (.slice none 0 0) 0 (rgs []) :: more)) =>
    many_any (fun k (s : Plain.SR) W' => s.1.small ∧ s.2.length ≤ k ∧ Post65 W g rc cb more s.1 s.2 W') (fun s => s.1.bad) Plain.gRange g 65 a #[.pointer (some ⟨rc, 0, none⟩), .pointer (some ⟨cb, 0, none⟩)] (t1, []) W' (by omega) (fun W => enter65 _ W)
      (fun k s W' hI => by
        obtain ⟨_, _, v', hS⟩ := hI
        exact (blk_cells5 (hS.box 0 _ _ _ rfl).2).2.2.2.2)
      (fun k s W' hk hI _ => by
        obtain ⟨hsm, hle, v', hS⟩ := hI
        obtain ⟨ts, Rs⟩ := s
        refine (cl65_any ts Rs v' g rc cb more hS hsm (by dsimp only at hle; omega)).mono ?_
        rintro e w' ⟨rfl, hP⟩
        refine ⟨rfl, gRange_small ts Rs hsm, ?_, hP⟩
        rw [gRange_len]; dsimp only at hle; omega)
      ⟨hs1, by simp, _, h'⟩)
  rw [hy] at CM
  clear h hx hy hg hsm hs1 hal hnew hmore hcb
  go_enter Tryz.func64, Tryz.ntmps64
  go_wp2_with fail
  rw [HCB.out]
  obtain ⟨wd, hwd⟩ : ∃ x, (w.alloc (.cells #[.slice none 0 0] 102)).drew = x := ⟨_, rfl⟩
  have hS' := H0.out.drew
  rw [hwd] at hS'
  have HD := Lib.hid hS'
  have HF := Lib.hid (fun (w' : World) (h : wd.grownBy w' (some g)) => blk1 (gr_blk h (HD.out.box 1 _ _ _ rfl).2 (HD.out.ne 0 1 _ _ _ _ _ _ (by decide) rfl rfl).symm))
  have HG0 := Lib.hid (gr_refl wd (some g))
  clear hS'
  refine wp_region_noPanic ?_
  refine wp_region_T 4 (S := fun w' : World => wd.grownBy w' (some g)) (by kernel_rfl) (by decide) ?_
  rw [hwd]
  clear hwd
  refine wpAnyT_take2 0 (v := ?tvq0) (by kernel_rfl) rfl (by kernel_rfl) (fun _ _ _ h => h) (Or.inl ⟨by rfl, ?tyq0⟩) HG0.out ?trq0
  case tyq0 => (intro w' hSw; have x0 := HF.out w' hSw; (try dsimp only at hSw); go_simp; try with_reducible rfl)
  try simp only [Act.put, List.setIfInBounds_toArray, List.set_cons_zero, List.set_cons_succ]
  refine wpAnyT_take2 1 (v := ?tvq1) (by kernel_rfl) rfl (by kernel_rfl) (fun _ _ _ h => h) (Or.inl ⟨by rfl, ?tyq1⟩) HG0.out ?trq1
  case tyq1 => (intro w' hSw; have x0 := HF.out w' hSw; (try dsimp only at hSw); go_simp; try with_reducible rfl)
  try simp only [Act.put, List.setIfInBounds_toArray, List.set_cons_zero, List.set_cons_succ]
  refine wpAnyT_take2 3 (v := ?tvq3) (by kernel_rfl) rfl (by kernel_rfl) (fun _ _ _ h => h) (Or.inl ⟨by rfl, ?tyq3⟩) HG0.out ?trq3
  case tyq3 => (intro w' hSw; (try dsimp only at hSw); go_simp; try with_reducible rfl)
  try simp only [Act.put, List.setIfInBounds_toArray, List.set_cons_zero, List.set_cons_succ]
  refine wpAnyT_one2 2 rfl (by kernel_rfl) ?_
  intro K' hK'
  rw [if_pos (by rfl)]
  have HK := Lib.hid hK'
  clear hK'
  go_wp2_with (go_at_call 62; refine (C1.out _ HD.out).mono ?_; rintro _ w5 ⟨rfl, hS5, hg5⟩)
  have HS5 := Lib.hid hS5
  have HG5 := Lib.hid hg5
  clear hS5 hg5
  refine HK.out _ _ ⟨HG5.out, ?_⟩
  clear HK K'
  try simp only [Act.put, List.setIfInBounds_toArray, List.set_cons_zero, List.set_cons_succ]
  refine ⟨by kernel_rfl, ?_⟩
  change wpList _ _ _ [_] _ _
  go_wp2_with fail
  refine (CM.out _ HS5.out).mono ?_
  rintro _ w6 ⟨rfl, k, hk, _, hR, v, hS6⟩
  have hown := hS6.row 3 _ _ _ _ _ rfl
  obtain ⟨A, c, rfl⟩ := own_slice hown
  rw [← HM.out] at hS6
  try dsimp only at hS6
  try dsimp only at hR
  have HS6 := Lib.hid hS6
  have hB := (hS6.box 2 _ _ _ rfl).2
  have hP := (hS6.box 4 _ _ _ rfl).2
  have z0 := blk1 hB
  obtain ⟨p0, p1, p2⟩ := blk_cells3 hP
  obtain ⟨A1, c1, hv1⟩ := own_slice (hS6.row 5 _ _ _ _ _ rfl)
  subst hv1
  clear hS6 hown hB hP
  go_wp2
  refine NoPanic.normal ?_
  go_wp2_with (at_builtin; refine wpList_append_own2 _ rfl (.tmp 9) (.tmp 11) _ rfl W.heap.size 102 i102 _ 1 24 Tryz.underlying23 hi102 y0 y1 y2 rfl (by decide) (.slice A1 K.length c1) K.length (K.map clV) rfl (HS6.out.row 5 _ _ _ _ _ rfl |>.alloc _) ⟨w6.heap.size, 0, none⟩ 1 1 [.slice A R.length c] rfl rfl ?c1 ?c2 ?c3 ?c4 ?c5 ?_)
  case c1 => exact CellsAt_add (CellsAt.new w6 _ _)
  case c2 => intro u hu; simp only [List.mem_cons, List.not_mem_nil, or_false] at hu; rcases hu with rfl; rfl
  case c3 => simp only [maxLen]; omega
  case c4 => omega
  case c5 => have := HS6.out.2.size; simp; omega
  intro v2 w2 hown2 hg2 hb2
  obtain ⟨a2, cp2, rfl⟩ := own_slice hown2
  have hP := HS6.out.push 5 102 1 (.slice A1 K.length c1) (.slice a2 (K.length + 1) cp2) K.length (K.length + 1) (K.map clV) _ rfl (below_alloc (Below.refl _ _) (.cells #[.slice A R.length c] 102)) hg2 hown2 (by rw [show (w6.alloc (.cells #[.slice A R.length c] 102)).heap.size = w6.heap.size + 1 by simp]; exact hb2)
  have hB : w2.heap[pb]? = some (.cells #[v0, .slice A1 K.length c1, .int .i64 gn] 25 (0, 0)) := (SepB.box hP 4 pb _ 25 rfl).2
  have f1 := blk_frozen hB 1
  clear p0 p1 p2
  obtain ⟨p0, p1, p2⟩ := blk_cells3 hB
  have hQ := hP.store 4 pb #[v0, .slice A1 K.length c1, .int .i64 gn] 25 rfl 1 (.slice a2 (K.length + 1) cp2)
  have hfin : Post64 W g rc pb v0 gn mo t2 (K.map Cs.R ++ [R]) (w2.setCell ⟨pb, 1, none⟩ (.slice a2 (K.length + 1) cp2)) := by
    refine ⟨K ++ [⟨A, c, R⟩], .slice a2 (K.length + 1) cp2, by simp, ?_⟩
    unfold LK
    rw [List.length_append, List.map_append, List.reverse_append]
    exact (hQ.erase 2).move3
  have HFIN := Lib.hid hfin
  clear hP hB hQ hfin hown2 hg2 hb2
  go_wp2
  go_end0
  exact ⟨rfl, HFIN.out⟩
end Go.Proofs.YtmiacgkidldjmaaGreatDoor
namespace Go.Proofs.YtmiacgkidldjmaaGreatDoor
open Go.RowKit Go.Lib
open Plain (Rg In4)
def tS (t : Plain.St) : Nat → Plain.St
  | 0 => t
  | k + 1 => ((tS t k).number Plain.mw).2
def tV (t : Plain.St) (k : Nat) : Nat := ((tS t k).number Plain.mw).1
def cV (t : Plain.St) (k : Nat) : Array Value := #[.int .i64 (if 0 < k then (tV t 0 : Int) else 0), .int .i64 (if 1 < k then (tV t 1 : Int) else 0), .int .i64 (if 2 < k then (tV t 2 : Int) else 0), .int .i64 (if 3 < k then (tV t 3 : Int) else 0)]
theorem tS_small (t : Plain.St) (h : t.small) : ∀ k, (tS t k).small := by
  intro k
  induction k with
  | zero => exact h
  | succ k ih => exact Plain.small_number _ _ ih
theorem cV_succ (t : Plain.St) (k : Nat) (h : k < 4) : (cV t k).setIfInBounds k (.int .i64 (tV t k : Int)) = cV t (k + 1) := by
  rcases (show k = 0 ∨ k = 1 ∨ k = 2 ∨ k = 3 by omega) with rfl | rfl | rfl | rfl <;> simp [cV]
theorem gInst_eq (t : Plain.St) (L : List In4) : Plain.gInst (t, L) = (tS t 4, L ++ [((tV t 0 : Int), (tV t 1 : Int), (tV t 2 : Int), (tV t 3 : Int))]) := rfl
def ptrs (ib : Nat) : Array Value := #[.pointer (some ⟨ib, 0, none⟩), .pointer (some ⟨ib, 1, none⟩), .pointer (some ⟨ib, 2, none⟩), .pointer (some ⟨ib, 3, none⟩)]
theorem blk4 {w : World} {g : Nat} {x y z u : Value} {t : TypeId} (h : w.heap[g]? = some (.cells #[x, y, z, u] t (0, 0))) :
    w.cell? ⟨g, 0, none⟩ = some x ∧ w.cell? ⟨g, 1, none⟩ = some y ∧ w.cell? ⟨g, 2, none⟩ = some z ∧ w.cell? ⟨g, 3, none⟩ = some u :=
  ⟨by rw [cell_of_row _ _ _ _ _ _ h]; rfl, by rw [cell_of_row _ _ _ _ _ _ h]; rfl, by rw [cell_of_row _ _ _ _ _ _ h]; rfl, by rw [cell_of_row _ _ _ _ _ _ h]; rfl⟩
/-- behind an instruction that was read -/
def Post66 (W : World) (g rc pb : Nat) (v1 : Value) (gn : Int) (more : List Th) (t : Plain.St) (L : List In4) (w' : World) : Prop :=
  ∃ v0, SepB W w' (boxT g (rdCs t) 173 :: boxT rc #[.pointer (some ⟨g, 0, none⟩)] 127 :: boxT pb #[v0, v1, .int .i64 gn] 25 :: rowT 94 4 v0 L.length (i4s L) :: more)
theorem i4s_snoc (L : List In4) (t : In4) : i4s (L ++ [t]) = i4s L ++ [.int .i64 t.1, .int .i64 t.2.1, .int .i64 t.2.2.1, .int .i64 t.2.2.2] := by rw [i4s_append]; rfl
theorem SepB.move6 {W w : World} {x y a b c : Th} {l : List Th} (h : SepB W w (x :: y :: a :: b :: c :: l)) : SepB W w (a :: b :: c :: x :: y :: l) :=
  h.perm (.trans (.cons x (.trans (.swap a y _) (.cons a (.trans (.swap b y _) (.cons b (.swap c y _)))))) (.trans (.swap a x _) (.cons a (.trans (.swap b x _) (.cons b (.swap c x _))))))
set_option maxRecDepth 1000000 in
set_option maxHeartbeats 4000000 in
theorem cl66_any {W w : World} (t : Plain.St) (L : List In4) (v0 v1 : Value) (gn : Int) (g rc pb : Nat) (more : List Th)
    (h : SepB W w (boxT g (rdCs t) 173 :: boxT rc #[.pointer (some ⟨g, 0, none⟩)] 127 :: boxT pb #[v0, v1, .int .i64 gn] 25 :: rowT 94 4 v0 L.length (i4s L) :: more)) (hsm : t.small) (hl : L.length ≤ 1000) :
    Calls Tryz.prog 66 #[.pointer (some ⟨rc, 0, none⟩), .pointer (some ⟨pb, 0, none⟩)] w fun e w' => e = .returned (.tuple #[]) ∧ Post66 W g rc pb v1 gn more (Plain.gInst (t, L)).1 (Plain.gInst (t, L)).2 w' := by
  rw [gInst_eq]
  dsimp only
  obtain ⟨i94, hi94, y0, y1, y2⟩ := info_parts info84
  have hnew := (h.new #[.int .i64 0, .int .i64 0, .int .i64 0, .int .i64 0] 94 (.cells #[.int .i64 0, .int .i64 0, .int .i64 0, .int .i64 0] 94)).new (ptrs w.heap.size) 133 (.cells (ptrs w.heap.size) 133)
  rw [show (w.alloc (.cells #[.int .i64 0, .int .i64 0, .int .i64 0, .int .i64 0] 94)).heap.size = w.heap.size + 1 by simp] at hnew
  obtain ⟨ib, hib⟩ : ∃ x, w.heap.size = x := ⟨_, rfl⟩
  rw [hib] at hnew
  have hnew := hnew.move6
  have C1 := Lib.hid (fun (k : Nat) (W' : World) (h' : SepB W W' (boxT g (rdCs (tS t k)) 173 :: boxT rc #[.pointer (some ⟨g, 0, none⟩)] 127 :: boxT pb #[v0, v1, .int .i64 gn] 25 :: boxT (ib + 1) (ptrs ib) 133 :: boxT ib (cV t k) 94 :: rowT 94 4 v0 L.length (i4s L) :: more)) =>
    number_at (w := W') 0 g (tS t k) Plain.mw 16777215 (tV t k) (tS t (k + 1)) h' rfl (tS_small t hsm k) (by decide) (by decide) rfl)
  have H0 := Lib.hid (show SepB W _ (boxT g (rdCs (tS t 0)) 173 :: boxT rc #[.pointer (some ⟨g, 0, none⟩)] 127 :: boxT pb #[v0, v1, .int .i64 gn] 25 :: boxT (ib + 1) (ptrs ib) 133 :: boxT ib (cV t 0) 94 :: rowT 94 4 v0 L.length (i4s L) :: more) from hnew)
  have HIB := Lib.hid hib
  unfold ptrs at hnew
  clear h hsm hnew hib
  go_enter Tryz.func66, Tryz.ntmps66
  go_wp2_with fail
  rw [HIB.out]
  go_loopw [11] (fun i wr => ∃ k : Nat, k ≤ 4 ∧ i = .int .i64 k ∧ SepB W wr (boxT g (rdCs (tS t k)) 173 :: boxT rc #[.pointer (some ⟨g, 0, none⟩)] 127 :: boxT pb #[v0, v1, .int .i64 gn] 25 :: boxT (ib + 1) (ptrs ib) 133 :: boxT ib (cV t k) 94 :: rowT 94 4 v0 L.length (i4s L) :: more)) (fun i _ => 4 - (RowKit.intOf i).toNat)
  case atStart => exact ⟨0, Nat.zero_le _, rfl, H0.out⟩
  case round =>
    obtain ⟨w0, rfl⟩ : ∃ x, x = wr := ⟨_, rfl⟩
    obtain ⟨k, hk, rfl, hS⟩ := hrel
    have HS := Lib.hid hS
    have hR := (hS.box 1 _ _ _ rfl).2
    have hP := (hS.box 3 _ _ _ rfl).2
    have hI := (hS.box 4 _ _ _ rfl).2
    have x0 := blk1 hR
    clear hS
    by_cases hlt : k < 4
    · have z0 : w0.cell? ⟨ib + 1, k, none⟩ = some (.pointer (some ⟨ib, k, none⟩)) := by
        obtain ⟨p0, p1, p2, p3⟩ := blk4 hP
        rcases (show k = 0 ∨ k = 1 ∨ k = 2 ∨ k = 3 by omega) with rfl | rfl | rfl | rfl
        · exact p0
        · exact p1
        · exact p2
        · exact p3
      clear hR hP hI
      go_wp2_with fail
      clear x0 z0
      refine (C1.out k _ HS.out).mono ?_
      rintro _ w1 ⟨rfl, hS, hg⟩
      have hS1 : SepB W w1 (boxT g (rdCs (tS t (k + 1))) 173 :: boxT rc #[.pointer (some ⟨g, 0, none⟩)] 127 :: boxT pb #[v0, v1, .int .i64 gn] 25 :: boxT (ib + 1) (ptrs ib) 133 :: boxT ib (cV t k) 94 :: rowT 94 4 v0 L.length (i4s L) :: more) := hS
      have hI := (hS1.box 4 _ _ _ rfl).2
      have fk := blk_frozen hI k
      have zk : w1.cell? ⟨ib, k, none⟩ = some ((cV t k).getD k undef) := by
        obtain ⟨p0, p1, p2, p3⟩ := blk4 hI
        rcases (show k = 0 ∨ k = 1 ∨ k = 2 ∨ k = 3 by omega) with rfl | rfl | rfl | rfl
        · exact p0
        · exact p1
        · exact p2
        · exact p3
      obtain ⟨uk, huk⟩ : ∃ x, (cV t k).getD k undef = x := ⟨_, rfl⟩
      rw [huk] at zk
      have hS2 := hS1.store 4 ib (cV t k) 94 rfl k (.int .i64 (tV t k : Int))
      rw [cV_succ t k hlt] at hS2
      have HS2 := Lib.hid hS2
      clear hS hS1 hg hI hS2 huk
      go_wp2
      go_roundw
      case rel => exact ⟨k + 1, by omega, by go_num, HS2.out⟩
      case measure => simp [RowKit.intOf]; omega
    · obtain rfl : k = 4 := by omega
      obtain ⟨q0, q1, q2, q3⟩ := blk4 hI
      obtain ⟨p0, p1, p2⟩ := blk_cells3 (HS.out.box 2 _ _ _ rfl).2
      obtain ⟨A0, c0, hv0⟩ := own_slice (HS.out.row 5 _ _ _ _ _ rfl)
      subst hv0
      obtain ⟨a0, ha0⟩ : ∃ x, (tV t 0 : Int) = x := ⟨_, rfl⟩
      obtain ⟨a1, ha1⟩ : ∃ x, (tV t 1 : Int) = x := ⟨_, rfl⟩
      obtain ⟨a2, ha2⟩ : ∃ x, (tV t 2 : Int) = x := ⟨_, rfl⟩
      obtain ⟨a3, ha3⟩ : ∃ x, (tV t 3 : Int) = x := ⟨_, rfl⟩
      simp only [Nat.zero_lt_succ, Nat.reduceLT, if_true] at q0 q1 q2 q3
      rw [ha0] at q0
      rw [ha1] at q1
      rw [ha2] at q2
      rw [ha3] at q3
      have HA := Lib.hid (show (tV t 0 : Int) = a0 ∧ (tV t 1 : Int) = a1 ∧ (tV t 2 : Int) = a2 ∧ (tV t 3 : Int) = a3 from ⟨ha0, ha1, ha2, ha3⟩)
      clear hR hP hI x0 ha0 ha1 ha2 ha3
      go_wp2_with (at_builtin; refine wpList_append_own2 _ rfl (.tmp 21) (.tmp 23) _ rfl W.heap.size 94 i94 _ 4 32 Tryz.underlying22 hi94 y0 y1 y2 rfl (by decide) (.slice A0 L.length c0) L.length (i4s L) rfl (HS.out.row 5 _ _ _ _ _ rfl |>.alloc _) ⟨w0.heap.size, 0, none⟩ 1 1 [.int .i64 a0, .int .i64 a1, .int .i64 a2, .int .i64 a3] rfl rfl ?c1 ?c2 ?c3 ?c4 ?c5 ?_)
      case c1 => exact CellsAt_add (CellsAt.new w0 _ _)
      case c2 => intro u hu; simp only [List.mem_cons, List.not_mem_nil, or_false] at hu; rcases hu with rfl | rfl | rfl | rfl <;> rfl
      case c3 => simp only [maxLen]; omega
      case c4 => omega
      case c5 => have := HS.out.2.size; simp; omega
      intro v2 w2 hown2 hg2 hb2
      obtain ⟨b2, cp2, rfl⟩ := own_slice hown2
      have hP := HS.out.push 5 94 4 (.slice A0 L.length c0) (.slice b2 (L.length + 1) cp2) L.length (L.length + 1) (i4s L) _ rfl (below_alloc (Below.refl _ _) (.cells #[.int .i64 a0, .int .i64 a1, .int .i64 a2, .int .i64 a3] 94)) hg2 hown2 (by rw [show (w0.alloc (.cells #[.int .i64 a0, .int .i64 a1, .int .i64 a2, .int .i64 a3] 94)).heap.size = w0.heap.size + 1 by simp]; exact hb2)
      have hB : w2.heap[pb]? = some (.cells #[.slice A0 L.length c0, v1, .int .i64 gn] 25 (0, 0)) := (SepB.box hP 2 pb _ 25 rfl).2
      have f0 := blk_frozen hB 0
      clear p0 p1 p2 q0 q1 q2 q3
      obtain ⟨p0, p1, p2⟩ := blk_cells3 hB
      have hQ := hP.store 2 pb #[.slice A0 L.length c0, v1, .int .i64 gn] 25 rfl 0 (.slice b2 (L.length + 1) cp2)
      have hfin : Post66 W g rc pb v1 gn more (tS t 4) (L ++ [((tV t 0 : Int), (tV t 1 : Int), (tV t 2 : Int), (tV t 3 : Int))]) (w2.setCell ⟨pb, 0, none⟩ (.slice b2 (L.length + 1) cp2)) := by
        obtain ⟨ha0, ha1, ha2, ha3⟩ := HA.out
        refine ⟨.slice b2 (L.length + 1) cp2, ?_⟩
        rw [i4s_snoc, List.length_append, ha0, ha1, ha2, ha3]
        exact (hQ.erase 4).erase 3
      have HFIN := Lib.hid hfin
      clear hP hB hQ hfin hown2 hg2 hb2
      go_wp2
      go_end0
      exact ⟨rfl, HFIN.out⟩
end Go.Proofs.YtmiacgkidldjmaaGreatDoor
namespace Go.Proofs.YtmiacgkidldjmaaGreatDoor
open Go.RowKit Go.Lib
open Plain (Rg In4)
def endR (b : Int) (R : Bool) : Int := if b = 0 ∧ R = false then 11 else b
set_option maxRecDepth 1000000 in
set_option maxHeartbeats 4000000 in
theorem rend_any (g : Nat) (t : Plain.St) (n q : Nat) (caps : Array Value) (R : Bool) (w : World) (h : RdAt w g t) (hsm : t.small) (hn : n ≤ 1000000)
    (hent : ∀ W, (callFunc q caps).run Tryz.prog W = .ok (.enter q caps) W)
    (hcall : ∀ W, w.grownBy W (some g) → Calls Tryz.prog q caps W fun e w' => e = .returned (.bool R) ∧ Below W.heap.size W w') :
    Calls Tryz.prog 67 #[.pointer (some ⟨g, 0, none⟩), .int .i64 (n : Int), .func (Fn.func q) #[] caps] w fun en w' => en = .returned (.int .i64 (endR (t.fin n).bad R)) ∧ w.grownBy w' (some g) := by
  obtain ⟨⟨la, ea⟩, ⟨li, ei⟩, bad⟩ := t
  obtain ⟨sm1, sm2⟩ := hsm
  dsimp only at sm1 sm2
  have hfin : (Plain.St.fin ⟨⟨la, ea⟩, ⟨li, ei⟩, bad⟩ n).bad = fb (fb bad (Plain.Rd.endE ⟨li, ei⟩)) (Plain.Rd.endE (Plain.Rd.pad ⟨la, ea⟩ (Plain.padI ((n : Int) - 4 - la.length)))) := rfl
  rw [hfin]
  have cE := fun W => end_any ⟨li, ei⟩ W
  have cP := fun W => pad_any ⟨la, ea⟩ (Plain.padI ((n : Int) - 4 - la.length)) W (by dsimp only; omega)
  have cF := fun W => end_any (Plain.Rd.pad ⟨la, ea⟩ (Plain.padI ((n : Int) - 4 - la.length))) W
  have cD := fun W => padding_any ((n : Int) - 4 - la.length) W
  have hR0 : RB w g (str la) ea (str li) ei bad := h
  obtain ⟨l2, e2⟩ : ∃ x, Plain.Rd.pad ⟨la, ea⟩ (Plain.padI ((n : Int) - 4 - la.length)) = x := ⟨_, rfl⟩
  rw [e2] at cP cF ⊢
  obtain ⟨l2, ep⟩ := l2
  unfold rdOf rdV at cE cP cF
  dsimp only at cE cP cF
  obtain ⟨e1, he1⟩ : ∃ x, Plain.Rd.endE ⟨li, ei⟩ = x := ⟨_, rfl⟩
  obtain ⟨e3, he3⟩ : ∃ x, Plain.Rd.endE ⟨l2, ep⟩ = x := ⟨_, rfl⟩
  rw [he1] at cE ⊢
  rw [he3] at cF ⊢
  have hsz := str_size la
  obtain ⟨sa, hsa⟩ : ∃ x, str la = x := ⟨_, rfl⟩
  obtain ⟨si, hsi⟩ : ∃ x, str li = x := ⟨_, rfl⟩
  obtain ⟨s2, hs2⟩ : ∃ x, str l2 = x := ⟨_, rfl⟩
  rw [hsa] at cP hR0 hsz
  rw [hsi] at cE hR0
  rw [hs2] at cP cF
  rw [← hsz] at cP cD
  obtain ⟨pd, hpd⟩ : ∃ x, Plain.padI ((n : Int) - 4 - sa.size) = x := ⟨_, rfl⟩
  rw [hpd] at cP cD
  have hsb : sa.size ≤ 65536 := by omega
  have CE := Lib.hid cE
  have CP := Lib.hid cP
  have CF := Lib.hid cF
  have CD := Lib.hid cD
  have HE := Lib.hid hent
  have HC := Lib.hid hcall
  have HR := Lib.hid hR0
  obtain ⟨⟨x0, x1, x2, x3, x4⟩, _, _, _, _⟩ := hR0.cells
  obtain ⟨b1, hb1⟩ : ∃ x, fb bad e1 = x := ⟨_, rfl⟩
  obtain ⟨b2, hb2⟩ : ∃ x, fb b1 e3 = x := ⟨_, rfl⟩
  rw [hb1, hb2]
  have HB1 := Lib.hid hb1
  have HB2 := Lib.hid hb2
  have CFA := Lib.hid (fun s0 e0 s1 e1 b e W h => rfailB g s0 e0 s1 e1 b e W h)
  have hw1 : IntKind.i64.wrap ((n : Int) - 4) = (n : Int) - 4 := by rw [IntKind.wrap_i64]; omega
  have hw2 : IntKind.i64.wrap ((n : Int) - 4 - (sa.size : Int)) = (n : Int) - 4 - (sa.size : Int) := by rw [IntKind.wrap_i64]; omega
  clear cE cP cF cD h hR0 hfin hsa hsi hs2 he1 he3 e2 sm1 sm2 hent hcall hpd hb1 hb2 hsz
  go_enter Tryz.func67, Tryz.ntmps67
  go_wp2_with fail
  refine (CE.out _).mono ?_
  rintro _ w1 ⟨rfl, hb⟩
  have HR1 := Lib.hid (HR.out.below hb)
  have HG1 := Lib.hid (gr_below (some g) hb)
  clear hb x0 x1 x2 x3 x4
  go_wp2_with fail
  refine (CFA.out _ _ _ _ _ _ _ HR1.out).mono ?_
  rintro _ w2 ⟨rfl, hR, hg⟩
  rw [HB1.out] at hR
  have HR2 := Lib.hid hR
  have HG2 := Lib.hid (gr_trans HG1.out hg)
  obtain ⟨⟨x0, x1, x2, x3, x4⟩, _, _, _, _⟩ := hR.cells
  clear hR hg
  go_wp2_with fail
  clear x0 x1 x2 x3 x4
  have HRD := Lib.hid (HR2.out.below (Below.drew (Below.refl w2.heap.size w2)))
  have HGD := Lib.hid (gr_trans HG2.out (gr_below (some g) (Below.drew (Below.refl w2.heap.size w2))))
  obtain ⟨wd, hwd⟩ : ∃ x, w2.drew = x := ⟨_, rfl⟩
  rw [hwd] at HRD HGD
  have HF := Lib.hid (fun (w' : World) (h : Below wd.heap.size wd w') => (HRD.out.below h).cells.1)
  have HQ0 := Lib.hid (Below.refl wd.heap.size wd)
  refine wp_region_noPanic ?_
  refine wp_region_T 9 (S := fun w' : World => Below wd.heap.size wd w') (by kernel_rfl) (by decide) ?_
  rw [hwd]
  clear hwd
  refine wpAnyT_take2 0 (v := ?tvq0) (by kernel_rfl) rfl (by kernel_rfl) (fun _ _ _ h => h) (Or.inl ⟨by rfl, ?tyq0⟩) HQ0.out ?trq0
  case tyq0 => (intro w' hSw; (try dsimp only at hSw); go_simp; try with_reducible rfl)
  try simp only [Act.put, List.setIfInBounds_toArray, List.set_cons_zero, List.set_cons_succ]
  refine wpAnyT_take2 1 (v := ?tvq1) (by kernel_rfl) rfl (by kernel_rfl) (fun _ _ _ h => h) (Or.inl ⟨by rfl, ?tyq1⟩) HQ0.out ?trq1
  case tyq1 => (intro w' hSw; (try dsimp only at hSw); go_simp; try with_reducible rfl)
  try simp only [Act.put, List.setIfInBounds_toArray, List.set_cons_zero, List.set_cons_succ]
  refine wpAnyT_take2 2 (v := ?tvq2) (by kernel_rfl) rfl (by kernel_rfl) (fun _ _ _ h => h) (Or.inl ⟨by rfl, ?tyq2⟩) HQ0.out ?trq2
  case tyq2 => (intro w' hSw; (try dsimp only at hSw); go_simp; try with_reducible rfl)
  try simp only [Act.put, List.setIfInBounds_toArray, List.set_cons_zero, List.set_cons_succ]
  refine wpAnyT_take2 3 (v := ?tvq3) (by kernel_rfl) rfl (by kernel_rfl) (fun _ _ _ h => h) (Or.inl ⟨by rfl, ?tyq3⟩) HQ0.out ?trq3
  case tyq3 => (intro w' hSw; (try dsimp only at hSw); go_simp; try with_reducible rfl)
  try simp only [Act.put, List.setIfInBounds_toArray, List.set_cons_zero, List.set_cons_succ]
  refine wpAnyT_take2 4 (v := ?tvq4) (by kernel_rfl) rfl (by kernel_rfl) (fun _ _ _ h => h) (Or.inl ⟨by rfl, ?tyq4⟩) HQ0.out ?trq4
  case tyq4 => (intro w' hSw; obtain ⟨x0, x1, x2, x3, x4⟩ := HF.out w' hSw; (try dsimp only at hSw); go_simp; try with_reducible rfl)
  try simp only [Act.put, List.setIfInBounds_toArray, List.set_cons_zero, List.set_cons_succ]
  refine wpAnyT_take2 5 (v := ?tvq5) (by kernel_rfl) rfl (by kernel_rfl) (fun _ _ _ h => h) (Or.inl ⟨by rfl, ?tyq5⟩) HQ0.out ?trq5
  case tyq5 => (intro w' hSw; (try dsimp only at hSw); go_simp; try with_reducible rfl)
  try simp only [Act.put, List.setIfInBounds_toArray, List.set_cons_zero, List.set_cons_succ]
  refine wpAnyT_one2 6 rfl (by kernel_rfl) ?_
  intro K' hK'
  rw [if_pos (by rfl)]
  have HK := Lib.hid hK'
  clear hK'
  go_wp2_with (go_at_call 56; refine (CD.out _).mono ?_; rintro _ w6 ⟨rfl, hw6⟩; subst hw6)
  refine HK.out _ _ ⟨HQ0.out, ?_⟩
  clear HK K'
  try simp only [Act.put, List.setIfInBounds_toArray, List.set_cons_zero, List.set_cons_succ]
  refine wpAnyT_one2 7 rfl (by kernel_rfl) ?_
  intro K' hK'
  rw [if_pos (by rfl)]
  have HK := Lib.hid hK'
  clear hK'
  go_wp2_with (go_at_call 112; refine (CP.out _).mono ?_; rintro _ w7 ⟨rfl, hb7⟩)
  have HQ7 := Lib.hid (below_then HQ0.out hb7)
  clear hb7
  refine HK.out _ _ ⟨HQ7.out, ?_⟩
  clear HK K'
  try simp only [Act.put, List.setIfInBounds_toArray, List.set_cons_zero, List.set_cons_succ]
  refine wpAnyT_one2 8 rfl (by kernel_rfl) ?_
  intro K' hK'
  rw [if_pos (by rfl)]
  have HK := Lib.hid hK'
  clear hK'
  go_wp2_with (go_at_call 111; refine (CF.out _).mono ?_; rintro _ w8 ⟨rfl, hb8⟩)
  have HQ8 := Lib.hid (below_then HQ7.out hb8)
  clear hb8
  refine HK.out _ _ ⟨HQ8.out, ?_⟩
  clear HK K'
  try simp only [Act.put, List.setIfInBounds_toArray, List.set_cons_zero, List.set_cons_succ]
  refine ⟨by kernel_rfl, ?_⟩
  change wpList _ _ _ [_] _ _
  have HR8 := Lib.hid (HRD.out.below HQ8.out)
  have HG8 := Lib.hid (gr_trans HGD.out (gr_below (some g) HQ8.out))
  go_wp2_with fail
  refine (CFA.out _ _ _ _ _ _ _ HR8.out).mono ?_
  rintro _ w9 ⟨rfl, hR, hg⟩
  rw [HB2.out] at hR
  have HR9 := Lib.hid hR
  have HG9 := Lib.hid (gr_trans HG8.out hg)
  obtain ⟨⟨x0, x1, x2, x3, x4⟩, _, _, _, _⟩ := hR.cells
  clear hR hg
  by_cases hz : b2 = 0
  · subst hz
    have hc := HC.out w9 HG9.out
    have HCC := Lib.hid hc
    clear hc
    go_wp2_with (fail)
    refine NoPanic.normal ?_
    go_wp2_with fail
    rw [HE.out w9]
    go_wp2_with fail
    refine HCC.out.mono ?_
    rintro _ w10 ⟨rfl, hb⟩
    have HG10 := Lib.hid (gr_trans HG9.out (gr_below (some g) hb))
    cases R
    · clear hb x0 x1 x2 x3 x4
      go_wp2
      go_ret
      exact ⟨ret_int (by simp [endR]), HG10.out⟩
    · have x4' := (blk_cells5 ((show RB w9 g _ _ _ _ _ from HR9.out).below hb)).2.2.2.2
      clear hb x0 x1 x2 x3 x4
      go_wp2
      go_ret
      exact ⟨ret_int (by simp [endR]), HG10.out⟩
  · have hd : endR b2 R = b2 := by unfold endR; rw [if_neg (fun h => hz h.1)]
    have HD := Lib.hid hd
    have d : (b2 == 0) = false := by simp [hz]
    clear hd hz
    go_wp2_with fail
    refine NoPanic.normal ?_
    go_wp2
    go_ret
    exact ⟨ret_int HD.out.symm, HG9.out⟩
end Go.Proofs.YtmiacgkidldjmaaGreatDoor
namespace Go.Proofs.YtmiacgkidldjmaaGreatDoor
open Go.RowKit Go.Lib
open Plain (Rg In4)
/-- what open hands back -/
def OpenRes (l : List UInt8) (kind : Int) (w : World) (e : Ending) (w' : World) : Prop :=
  (Plain.openE l kind ≠ 0 → e = .returned (.tuple #[.pointer none, .int .i64 (Plain.openE l kind)]) ∧ Below w.heap.size w w') ∧
  (Plain.openE l kind = 0 → ∃ g, e = .returned (.tuple #[.pointer (some ⟨g, 0, none⟩), .int .i64 0]) ∧ SepB w w' [boxT g (rdCs (Plain.rd0 l)) 173])
theorem SepB.nil (w : World) : SepB w w [] := ⟨Sep.nil _ _, Below.refl _ _⟩
theorem kindE_len (l : List UInt8) (h : (Plain.kindE l).2 = 0) : 8 ≤ l.length ∧ l.length ≤ 65536 := by
  unfold Plain.kindE at h
  by_cases h1 : 65536 < l.length
  · rw [if_pos h1] at h; simp at h
  · rw [if_neg h1] at h
    by_cases h2 : l.length < 8
    · rw [if_pos h2] at h; simp at h
    · omega
set_option maxRecDepth 1000000 in
set_option maxHeartbeats 4000000 in
theorem open_any (s : ByteArray) (kind : Int) (w : World) (hs : s.size ≤ 1152921504606846976) : Calls Tryz.prog 60 #[.string s, .int .i64 kind] w (OpenRes s.data.toList kind w) := by
  have hl : s.data.toList.length = s.size := by simp
  have cK := fun W => kind_any s W hs
  unfold kindV at cK
  obtain ⟨l, hll⟩ : ∃ x, s.data.toList = x := ⟨_, rfl⟩
  have hsl : s = str l := by rw [← hll]; exact (str_of s).symm
  rw [hll] at cK hl ⊢
  obtain ⟨⟨kd, ke⟩, hk⟩ : ∃ x, Plain.kindE l = x := ⟨_, rfl⟩
  rw [hk] at cK
  dsimp only at cK
  have CK := Lib.hid cK
  have hlen := kindE_len l
  rw [hk] at hlen
  dsimp only at hlen
  clear cK
  by_cases h1 : ke = 0
  case neg =>
    have ho : Plain.openE l kind = ke := by unfold Plain.openE; rw [hk, if_pos h1]
    have HO := Lib.hid ho
    have d : (ke != 0) = true := by simp [h1]
    have d' : (ke == 0) = false := by simp [h1]
    have H1 := Lib.hid h1
    clear ho hlen hk h1 hll hl hsl
    go_enter Tryz.func60, Tryz.ntmps60
    go_wp2_with fail
    refine (CK.out _).mono ?_
    rintro _ w1 ⟨rfl, hw⟩
    subst hw
    go_wp2_with fail
    go_ret2
    unfold OpenRes
    rw [HO.out]
    exact ⟨fun _ => ⟨rfl, Below.refl _ _⟩, fun h => absurd h H1.out⟩
  subst h1
  obtain ⟨h8, h16⟩ := hlen rfl
  by_cases h2 : kd = kind
  case neg =>
    have ho : Plain.openE l kind = 12 := by unfold Plain.openE; rw [hk, if_neg (by simp), if_pos h2]
    have HO := Lib.hid ho
    have d : (kd != kind) = true := by simp [h2]
    have d' : (kd == kind) = false := by simp [h2]
    clear ho hlen hk h2 hll hl hsl
    go_enter Tryz.func60, Tryz.ntmps60
    go_wp2_with fail
    refine (CK.out _).mono ?_
    rintro _ w1 ⟨rfl, hw⟩
    subst hw
    go_wp2_with fail
    go_ret2
    unfold OpenRes
    rw [HO.out]
    exact ⟨fun _ => ⟨rfl, Below.refl _ _⟩, fun h => absurd h (by decide)⟩
  subst h2
  have ho : Plain.openE l kd = if Plain.sealed (l.take (l.length - 4)) ≠ l.drop (l.length - 4) then 10 else 0 := by unfold Plain.openE; rw [hk, if_neg (by simp), if_neg (by simp)]
  have he1 : s.extract 0 (s.size - 4) = str (l.take (l.length - 4)) := by rw [hsl, str_take, str_size]
  have he2 : s.extract (s.size - 4) s.size = str (l.drop (l.length - 4)) := by rw [hsl, str_drop, str_size]
  have cS := fun W => sealed_any (str (l.take (l.length - 4))) W (by rw [str_size, List.length_take]; unfold maxLen; omega)
  rw [str_list] at cS
  have hz : (str (l.take (l.length - 4))).size = s.size - 4 := by rw [str_size, List.length_take]; omega
  have he3 : (str (l.take (l.length - 4))).extract 3 (str (l.take (l.length - 4))).size = str ((l.take (l.length - 4)).drop 3) := str_drop (l.take (l.length - 4)) 3
  have hne : (str (Plain.sealed (l.take (l.length - 4))) = str (l.drop (l.length - 4))) ↔ Plain.sealed (l.take (l.length - 4)) = l.drop (l.length - 4) :=
    ⟨fun h => by have := congrArg (fun b : ByteArray => b.data.toList) h; simpa [str] using this, fun h => by rw [h]⟩
  have hrd : Plain.rd0 l = ⟨⟨(l.take (l.length - 4)).drop 3, 0⟩, ⟨[], 0⟩, 0⟩ := rfl
  have hcs : rdCs (Plain.rd0 l) = #[.string (str ((l.take (l.length - 4)).drop 3)), .int .i64 0, .string ⟨#[]⟩, .int .i64 0, .int .i64 0] := by rw [hrd]; rfl
  obtain ⟨sa, hsa⟩ : ∃ x, str (l.take (l.length - 4)) = x := ⟨_, rfl⟩
  obtain ⟨sb, hsb⟩ : ∃ x, str (l.drop (l.length - 4)) = x := ⟨_, rfl⟩
  obtain ⟨sc, hsc⟩ : ∃ x, str ((l.take (l.length - 4)).drop 3) = x := ⟨_, rfl⟩
  obtain ⟨sd, hsd⟩ : ∃ x, str (Plain.sealed (l.take (l.length - 4))) = x := ⟨_, rfl⟩
  rw [hsa] at he1 hz he3 cS
  rw [hsb] at he2 hne
  rw [hsc] at he3
  rw [hsd] at cS hne
  rw [hsc] at hcs
  rw [hl] at h8 h16
  have CS := Lib.hid cS
  have dn : ((s.size : Int) - 4).toNat = s.size - 4 := by omega
  have dz : (sa.size : Int) = (s.size : Int) - 4 := by omega
  have d4 : (4 : Int) ≤ (s.size : Int) := by omega
  have d5 : (s.size : Int) - 4 ≤ (s.size : Int) := by omega
  have hw4 : IntKind.i64.wrap ((s.size : Int) - 4) = (s.size : Int) - 4 := by rw [IntKind.wrap_i64]; omega
  by_cases hq : Plain.sealed (l.take (l.length - 4)) = l.drop (l.length - 4)
  · have hsd' : sd = sb := hne.2 hq
    subst hsd'
    rw [if_neg (by simp [hq])] at ho
    have HO := Lib.hid ho
    have HCS := Lib.hid hcs
    clear ho hlen hk hll hl hsl cS hne hrd hcs hsa hsb hsc hsd hq hz
    go_enter Tryz.func60, Tryz.ntmps60
    go_wp2_with fail
    refine (CK.out _).mono ?_
    rintro _ w1 ⟨rfl, hw⟩
    subst hw
    go_wp2_with fail
    obtain ⟨wd, hwd⟩ : ∃ x, w1.drew = x := ⟨_, rfl⟩
    have hB0 : Below w1.heap.size w1 wd := by rw [← hwd]; exact Below.drew (Below.refl w1.heap.size w1)
    have hB0' := Lib.hid hB0
    have HQ0 := Lib.hid (Below.refl wd.heap.size wd)
    refine wp_region_noPanic ?_
    refine wp_region_T 6 (S := fun w' : World => Below wd.heap.size wd w') (by kernel_rfl) (by decide) ?_
    rw [hwd]
    clear hwd hB0
    refine wpAnyT_take2 0 (v := ?tvq0) (by kernel_rfl) rfl (by kernel_rfl) (fun _ _ _ h => h) (Or.inl ⟨by rfl, ?tyq0⟩) HQ0.out ?trq0
    case tyq0 => (intro w' hSw; (try dsimp only at hSw); go_simp; try with_reducible rfl)
    try simp only [Act.put, List.setIfInBounds_toArray, List.set_cons_zero, List.set_cons_succ]
    refine wpAnyT_take2 2 (v := ?tvq2) (by kernel_rfl) rfl (by kernel_rfl) (fun _ _ _ h => h) (Or.inl ⟨by rfl, ?tyq2⟩) HQ0.out ?trq2
    case tyq2 => (intro w' hSw; (try dsimp only at hSw); go_simp; try with_reducible rfl)
    try simp only [Act.put, List.setIfInBounds_toArray, List.set_cons_zero, List.set_cons_succ]
    refine wpAnyT_take2 3 (v := ?tvq3) (by kernel_rfl) rfl (by kernel_rfl) (fun _ _ _ h => h) (Or.inl ⟨by rfl, ?tyq3⟩) HQ0.out ?trq3
    case tyq3 => (intro w' hSw; (try dsimp only at hSw); go_simp; try with_reducible rfl)
    try simp only [Act.put, List.setIfInBounds_toArray, List.set_cons_zero, List.set_cons_succ]
    refine wpAnyT_take2 4 (v := ?tvq4) (by kernel_rfl) rfl (by kernel_rfl) (fun _ _ _ h => h) (Or.inl ⟨by rfl, ?tyq4⟩) HQ0.out ?trq4
    case tyq4 => (intro w' hSw; (try dsimp only at hSw); go_simp; try with_reducible rfl)
    try simp only [Act.put, List.setIfInBounds_toArray, List.set_cons_zero, List.set_cons_succ]
    refine wpAnyT_take2 5 (v := ?tvq5) (by kernel_rfl) rfl (by kernel_rfl) (fun _ _ _ h => h) (Or.inl ⟨by rfl, ?tyq5⟩) HQ0.out ?trq5
    case tyq5 => (intro w' hSw; (try dsimp only at hSw); go_simp; try with_reducible rfl)
    try simp only [Act.put, List.setIfInBounds_toArray, List.set_cons_zero, List.set_cons_succ]
    refine wpAnyT_one2 1 rfl (by kernel_rfl) ?_
    intro K' hK'
    rw [if_pos (by rfl)]
    have HK := Lib.hid hK'
    clear hK'
    go_wp2_with (go_at_call 57; refine (CS.out _).mono ?_; rintro _ w6 ⟨rfl, hb6⟩)
    have HQ6 := Lib.hid hb6
    clear hb6
    refine HK.out _ _ ⟨HQ6.out, ?_⟩
    clear HK K'
    try simp only [Act.put, List.setIfInBounds_toArray, List.set_cons_zero, List.set_cons_succ]
    refine ⟨by kernel_rfl, ?_⟩
    change wpList _ _ _ [_] _ _
    go_wp2_with fail
    refine NoPanic.normal ?_
    go_wp2_with fail
    have hS := ((SepB.nil w1).below (hB0'.out.trans (HQ6.out.mono hB0'.out.size))).new (rdCs (Plain.rd0 l)) 173 (.cells (rdCs (Plain.rd0 l)) 173)
    rw [HCS.out] at hS
    have HS := Lib.hid hS
    clear hS
    go_wp2
    go_ret2
    unfold OpenRes
    rw [HO.out, HCS.out]
    exact ⟨fun h => absurd rfl h, fun _ => ⟨_, rfl, HS.out⟩⟩
  · have hsd' : ¬ sd = sb := fun h => hq (hne.1 h)
    have hsl2 : ¬ sd.toList = sb.toList := fun h => hsd' (str_ext (by simpa [ByteArray.toList_eq] using h))
    have d6 : (sd.toList == sb.toList) = false := by simp [hsl2]
    rw [if_pos (by simp [hq])] at ho
    have HO := Lib.hid ho
    clear ho hlen hk hll hl hsl cS hne hrd hcs hsa hsb hsc hsd hq hz hsd' hsl2
    go_enter Tryz.func60, Tryz.ntmps60
    go_wp2_with fail
    refine (CK.out _).mono ?_
    rintro _ w1 ⟨rfl, hw⟩
    subst hw
    go_wp2_with fail
    obtain ⟨wd, hwd⟩ : ∃ x, w1.drew = x := ⟨_, rfl⟩
    have hB0 : Below w1.heap.size w1 wd := by rw [← hwd]; exact Below.drew (Below.refl w1.heap.size w1)
    have hB0' := Lib.hid hB0
    have HQ0 := Lib.hid (Below.refl wd.heap.size wd)
    refine wp_region_noPanic ?_
    refine wp_region_T 6 (S := fun w' : World => Below wd.heap.size wd w') (by kernel_rfl) (by decide) ?_
    rw [hwd]
    clear hwd hB0
    refine wpAnyT_take2 0 (v := ?tvp0) (by kernel_rfl) rfl (by kernel_rfl) (fun _ _ _ h => h) (Or.inl ⟨by rfl, ?typ0⟩) HQ0.out ?trp0
    case typ0 => (intro w' hSw; (try dsimp only at hSw); go_simp; try with_reducible rfl)
    try simp only [Act.put, List.setIfInBounds_toArray, List.set_cons_zero, List.set_cons_succ]
    refine wpAnyT_take2 2 (v := ?tvp2) (by kernel_rfl) rfl (by kernel_rfl) (fun _ _ _ h => h) (Or.inl ⟨by rfl, ?typ2⟩) HQ0.out ?trp2
    case typ2 => (intro w' hSw; (try dsimp only at hSw); go_simp; try with_reducible rfl)
    try simp only [Act.put, List.setIfInBounds_toArray, List.set_cons_zero, List.set_cons_succ]
    refine wpAnyT_take2 3 (v := ?tvp3) (by kernel_rfl) rfl (by kernel_rfl) (fun _ _ _ h => h) (Or.inl ⟨by rfl, ?typ3⟩) HQ0.out ?trp3
    case typ3 => (intro w' hSw; (try dsimp only at hSw); go_simp; try with_reducible rfl)
    try simp only [Act.put, List.setIfInBounds_toArray, List.set_cons_zero, List.set_cons_succ]
    refine wpAnyT_take2 4 (v := ?tvp4) (by kernel_rfl) rfl (by kernel_rfl) (fun _ _ _ h => h) (Or.inl ⟨by rfl, ?typ4⟩) HQ0.out ?trp4
    case typ4 => (intro w' hSw; (try dsimp only at hSw); go_simp; try with_reducible rfl)
    try simp only [Act.put, List.setIfInBounds_toArray, List.set_cons_zero, List.set_cons_succ]
    refine wpAnyT_take2 5 (v := ?tvp5) (by kernel_rfl) rfl (by kernel_rfl) (fun _ _ _ h => h) (Or.inl ⟨by rfl, ?typ5⟩) HQ0.out ?trp5
    case typ5 => (intro w' hSw; (try dsimp only at hSw); go_simp; try with_reducible rfl)
    try simp only [Act.put, List.setIfInBounds_toArray, List.set_cons_zero, List.set_cons_succ]
    refine wpAnyT_one2 1 rfl (by kernel_rfl) ?_
    intro K' hK'
    rw [if_pos (by rfl)]
    have HK := Lib.hid hK'
    clear hK'
    go_wp2_with (go_at_call 57; refine (CS.out _).mono ?_; rintro _ w6 ⟨rfl, hb6⟩)
    have HQ6 := Lib.hid hb6
    clear hb6
    refine HK.out _ _ ⟨HQ6.out, ?_⟩
    clear HK K'
    try simp only [Act.put, List.setIfInBounds_toArray, List.set_cons_zero, List.set_cons_succ]
    refine ⟨by kernel_rfl, ?_⟩
    change wpList _ _ _ [_] _ _
    go_wp2_with fail
    refine NoPanic.normal ?_
    go_wp2_with fail
    go_ret2
    unfold OpenRes
    rw [HO.out]
    exact ⟨fun _ => ⟨rfl, hB0'.out.trans (HQ6.out.mono hB0'.out.size)⟩, fun h => absurd h (by decide)⟩
end Go.Proofs.YtmiacgkidldjmaaGreatDoor
