/- Chapter 13: what is known of a table: what the code computes. Conditions: what each lemma says. -/
import Derived.Test.YtmiacgkidldjmaaGreatDoorSealB
import Derived.Deep.LoopGhost
import Derived.Deep.QuietTactic
import Derived.BigQuiet
set_option linter.unusedVariables false
set_option linter.unusedSimpArgs false
namespace Go.Proofs.YtmiacgkidldjmaaGreatDoor.Plain
theorem pushes_snoc : ∀ (r : List Int) (s : List Bool) (T : List Nat) (z : Int), pushes s T (r ++ [z]) = if (pushes s T r).1.getD z.toNat false = true then pushes s T r else ((pushes s T r).1.set z.toNat true, (pushes s T r).2 ++ [z.toNat]) := by
  intro r
  induction r with
  | nil => intro s T z; rfl
  | cons y r ih =>
    intro s T z
    rw [List.cons_append]
    unfold pushes
    by_cases h : s.getD y.toNat false = true
    · rw [if_pos h, if_pos h]; exact ih s T z
    · rw [if_neg h, if_neg h]; exact ih _ _ z
def sF (s : List Bool) : Nat → Nat := fun j => if s.getD j false = true then 1 else 0
theorem sF_le (s : List Bool) (j : Nat) : sF s j ≤ 2 := by unfold sF; split <;> omega
theorem sF_set (s : List Bool) (z : Nat) (hz : z < s.length) : upd (sF s) z 1 = sF (s.set z true) := by
  funext j
  unfold sF
  rw [getD_setB s z j hz]
  by_cases e : j = z
  · subst e; rw [upd_same, if_pos rfl]; rfl
  · rw [upd_other _ z 1 j e, if_neg e]
end Go.Proofs.YtmiacgkidldjmaaGreatDoor.Plain
namespace Go.Proofs.YtmiacgkidldjmaaGreatDoor
open Go.RowKit Go.Lib Go.Maps
theorem SepB.foreign {W w w' : World} {l : List Th} {b : Nat} (h : SepB W w l) (hg : w.grownBy w' (some b)) (hb : W.heap.size ≤ b) (hne : ∀ T ∈ l, T.blk ≠ some b) : SepB W w' l :=
  ⟨⟨fun T hT => th_kept (h.1.1 T hT) fun k hk => hg.block k (th_lt (h.1.1 T hT) k hk).2 (fun e => hne T hT (by rw [hk, e])), h.1.2⟩,
    ⟨hg.os.trans h.2.os, hg.tape.trans h.2.tape, hg.output.trans h.2.output, Nat.le_trans h.2.size hg.size, fun k hk => (hg.block k (Nat.lt_of_lt_of_le hk h.2.size) (fun e => by injection e with e; omega)).trans (h.2.block k hk)⟩⟩
theorem gr_kp {w w' : World} {g : Nat} (h : Kp g w w') : w.grownBy w' (some g) := ⟨h.os, h.tape, h.output, h.size, fun k hk hn => h.block k hk (fun e => hn (by rw [e]))⟩
theorem SepB.store5 {W w : World} {l : List Th} {k : Nat} {x0 x1 x2 x3 x4 : Value} {t : TypeId} (h : SepB W w (boxT k #[x0, x1, x2, x3, x4] t :: l)) (a0 a1 a2 a3 a4 : Value) :
    SepB W (((((w.setCell ⟨k, 0, none⟩ a0).setCell ⟨k, 1, none⟩ a1).setCell ⟨k, 2, none⟩ a2).setCell ⟨k, 3, none⟩ a3).setCell ⟨k, 4, none⟩ a4) (boxT k #[a0, a1, a2, a3, a4] t :: l) := by
  have h0 : SepB W (w.setCell ⟨k, 0, none⟩ a0) (boxT k #[a0, x1, x2, x3, x4] t :: l) := h.store 0 k #[x0, x1, x2, x3, x4] t rfl 0 a0
  have h1 : SepB W ((w.setCell ⟨k, 0, none⟩ a0).setCell ⟨k, 1, none⟩ a1) (boxT k #[a0, a1, x2, x3, x4] t :: l) := h0.store 0 k #[a0, x1, x2, x3, x4] t rfl 1 a1
  have h2 : SepB W (((w.setCell ⟨k, 0, none⟩ a0).setCell ⟨k, 1, none⟩ a1).setCell ⟨k, 2, none⟩ a2) (boxT k #[a0, a1, a2, x3, x4] t :: l) := h1.store 0 k #[a0, a1, x2, x3, x4] t rfl 2 a2
  have h3 : SepB W ((((w.setCell ⟨k, 0, none⟩ a0).setCell ⟨k, 1, none⟩ a1).setCell ⟨k, 2, none⟩ a2).setCell ⟨k, 3, none⟩ a3) (boxT k #[a0, a1, a2, a3, x4] t :: l) := h2.store 0 k #[a0, a1, a2, x3, x4] t rfl 3 a3
  exact h3.store 0 k #[a0, a1, a2, a3, x4] t rfl 4 a4
theorem wpList_ins {ops : Array Oper} {rest : List Oper} {o : Oper} {a : Act} {w : World} {Q : Exit → Act → World → Prop} (hg : o.guard = none) (m x v : Operand) (hop : o.op = Op.insert 113 m x v)
    (b : Nat) (hm : a.eval m = .map (some b)) (hS : SeenAt w b (fun _ => 0)) (hx : a.eval x = .int .i64 0) (hv : a.eval v = .int .i64 1)
    (hK : ∀ w', SeenAt w' b (Plain.upd (fun _ => 0) 0 1) → w.grownBy w' (some b) → wpList Tryz.prog ops Q rest (a.put o.dst undef) w') : wpList Tryz.prog ops Q (o :: rest) a w := by
  obtain ⟨D, ho, hD⟩ := hS
  have hw : (Lit.int .i64 1).wf = true := wfn 1 (by omega)
  refine wpList_plain hg fun K' hK' => ?_
  have hlt : Plain.totS (fun _ => 0) < maxLen := by have := Plain.totS_le (fun _ => 0) (fun j => by decide); unfold maxLen; omega
  obtain ⟨w', hrun, r1, r2⟩ := ho.update keyed3 Tryz.underlying113 hlt (keyOf_int_mk Tryz.underlying3 (wfn 0 (by omega))) (plainElem_int Tryz.underlying3 hw)
  unfold Oper.wp
  have hrun' : (Instr.mapUpdate 113 (.map (some b)) (.int .i64 0) (.int .i64 1)).run Tryz.prog w = .ok () w' := hrun
  simp [execOp, hop, hm, hx, hv, hrun', Result.andThen]
  refine hK' _ _ (hK w' ⟨_, by rw [Plain.totS_inc (fun _ => 0) 0 1 (by omega) rfl]; exact r1, fun j => ?_⟩ r2)
  by_cases e : j = 0
  · subst e
    have h := atKey_put_same (D := D) (k := .int .i64 ((0 : Nat) : Int)) (by obtain ⟨es, cl, _, _, _, rfl⟩ := ho; exact ⟨_, rfl⟩) (by simp [WideAt.IsKeyLit]) (.lit (.int .i64 1)) (.lit (.int .i64 0))
    rw [h, Plain.upd_same]; rfl
  · have h := atKey_put_other (D := D) (k := .int .i64 ((0 : Nat) : Int)) (k' := .int .i64 (j : Int)) (by intro h; injection h with _ h; omega) (.lit (.int .i64 1)) (.lit (.int .i64 0))
    rw [h, hD j, Plain.upd_other _ 0 1 j e]
def tinfoV (m p acc c : Nat) (st : Bool) : Value := .agg #[.int .i64 (m : Int), .int .i64 (p : Int), .int .i64 (acc : Int), .int .i64 (c : Int), .bool st]
def tinfo0 : Value := .agg #[.int .i64 0, .int .i64 0, .int .i64 0, .int .i64 0, .bool false]
set_option maxRecDepth 1000000 in
set_option maxHeartbeats 8000000 in
theorem table_not (PA : Option Addr) (P : List Int) (pc : Nat) (NA : Option Addr) (R : List Row) (nc : Nat) (AA : Option Addr) (C : List Bool) (ac : Nat) (w : World) (hT : TabAt w PA P NA R AA C) (h : Plain.tabRight P (nums R) C.length = false) :
    Calls Tryz.prog 22 #[tabV PA P pc NA R nc AA C ac] w fun e w' => e = .returned (.tuple #[tinfo0, .int .i64 11]) ∧ Below w.heap.size w w' := by
  have hb0 : Below w.heap.size w ((w.alloc (.cells #[.slice PA P.length pc, .slice NA R.length nc, .slice AA C.length ac] 34)).alloc (.cells #[.int .i64 0, .int .i64 0, .int .i64 0, .int .i64 0, .bool false] 57)) := below_alloc (below_alloc (Below.refl _ _) _) _
  have cR := tright_any PA P pc NA R nc AA C ac _ (hT.below hb0)
  rw [h] at cR
  have hq := ((SepB.nil w).alloc (.cells #[.slice PA P.length pc, .slice NA R.length nc, .slice AA C.length ac] 34)).new #[.int .i64 0, .int .i64 0, .int .i64 0, .int .i64 0, .bool false] 57 (.cells #[.int .i64 0, .int .i64 0, .int .i64 0, .int .i64 0, .bool false] 57)
  rw [show (w.alloc (.cells #[.slice PA P.length pc, .slice NA R.length nc, .slice AA C.length ac] 34)).heap.size = w.heap.size + 1 by simp] at hq
  unfold tabV at cR ⊢
  have CR := Lib.hid cR
  have HQ := Lib.hid hq
  clear cR hT h hb0 hq
  go_enter Tryz.func22, Tryz.ntmps22
  go_wp2_with fail
  refine CR.out.mono ?_
  rintro _ w1 ⟨rfl, hb⟩
  have hq := HQ.out.below hb
  obtain ⟨x0, x1, x2, x3, x4⟩ := blk_cells5 (hq.box 0 _ _ _ rfl).2
  have f0 := blk_frozen (hq.box 0 _ _ _ rfl).2 0
  have f1 := blk_frozen (hq.box 0 _ _ _ rfl).2 1
  have f2 := blk_frozen (hq.box 0 _ _ _ rfl).2 2
  have f3 := blk_frozen (hq.box 0 _ _ _ rfl).2 3
  have f4 := blk_frozen (hq.box 0 _ _ _ rfl).2 4
  have HS := Lib.hid (hq.store5 (.int .i64 0) (.int .i64 0) (.int .i64 0) (.int .i64 0) (.bool false))
  clear hq hb
  go_wp2
  obtain ⟨k0, k1, k2, k3, k4⟩ := blk_cells5 (HS.out.box 0 _ _ _ rfl).2
  exact bodyPost_ret (v := .tuple #[tinfo0, .int .i64 11]) (by simp [results, Tryz.results22, go_sem, k0, k1, k2, k3, k4, tinfo0]) rfl ⟨rfl, HS.out.2⟩
def TRel (w : World) (mb ib tb : Nat) (LS : Nat → List Th) (N : List (List Int)) (RT m : Nat) (gk : Nat) (td : Value) (wr : World) : Prop :=
  ∃ (s : List Bool) (T : List Nat) (c F g : Nat), gk = T.length + s.count false ∧ SepB w wr (LS c) ∧ SeenAt wr mb (Plain.sF s) ∧ Qu wr g td (T.map fun (n : Nat) => (n : Int)) ∧ g ≠ ib ∧ g ≠ tb ∧ g ≠ tb + 1 ∧ g ≠ mb ∧ w.heap.size ≤ g ∧ s.length = m ∧ (∀ z ∈ T, z < m) ∧ Plain.bfs N F s T c = RT ∧ gk ≤ F ∧ c + gk ≤ m
def CutT (w : World) (tb : Nat) (p i z : Array Value) (y : Value) (wx : World) : Prop := ∃ ib, y = .pointer (some ⟨ib, 0, none⟩) ∧ SepB w wx [boxT ib i 57, boxT tb p 34, boxT (tb + 1) z 57]
set_option maxRecDepth 1000000 in
set_option maxHeartbeats 16000000 in
theorem table_yes (PA : Option Addr) (P : List Int) (pc : Nat) (NA : Option Addr) (R : List Row) (nc : Nat) (AA : Option Addr) (C : List Bool) (ac : Nat) (w : World) (hT : TabAt w PA P NA R AA C) (h : Plain.tabRight P (nums R) C.length = true) :
    Calls Tryz.prog 22 #[tabV PA P pc NA R nc AA C ac] w fun e w' => e = .returned (.tuple #[tinfoV R.length P.length (C.count true) (Plain.reachedT (nums R)) (C.getD 0 false), .int .i64 0]) ∧ Below w.heap.size w w' := by
  obtain ⟨hpr, hna, hn0, hn64, hrow⟩ := Plain.tab_right _ _ _ h
  have hp64 := (Plain.parts_bound P hpr).1.2.1
  clear hpr
  have hb0 : Below w.heap.size w ((w.alloc (.cells #[.slice PA P.length pc, .slice NA R.length nc, .slice AA C.length ac] 34)).alloc (.cells #[.int .i64 0, .int .i64 0, .int .i64 0, .int .i64 0, .bool false] 57)) := below_alloc (below_alloc (Below.refl _ _) _) _
  have cR := tright_any PA P pc NA R nc AA C ac _ (hT.below hb0)
  rw [h] at cR
  have hq := ((SepB.nil w).new #[.slice PA P.length pc, .slice NA R.length nc, .slice AA C.length ac] 34 (.cells #[.slice PA P.length pc, .slice NA R.length nc, .slice AA C.length ac] 34)).new #[.int .i64 0, .int .i64 0, .int .i64 0, .int .i64 0, .bool false] 57 (.cells #[.int .i64 0, .int .i64 0, .int .i64 0, .int .i64 0, .bool false] 57)
  rw [show (w.alloc (.cells #[.slice PA P.length pc, .slice NA R.length nc, .slice AA C.length ac] 34)).heap.size = w.heap.size + 1 by simp] at hq
  unfold tabV at cR ⊢
  have hRl : (nums R).length = R.length := by unfold nums; simp
  rw [hRl] at hna hn0 hn64
  have hCl : C.length = R.length := hna.symm
  rw [hCl] at cR hq ⊢
  have HT := Lib.hid (fun (W : World) (hb : Below w.heap.size w W) => hT.below hb)
  obtain ⟨p, hp⟩ : ∃ x, P.length = x := ⟨_, rfl⟩
  obtain ⟨m, hm⟩ : ∃ x, R.length = x := ⟨_, rfl⟩
  obtain ⟨N, hN⟩ : ∃ x, nums R = x := ⟨_, rfl⟩
  obtain ⟨st, hst⟩ : ∃ x, C.getD 0 false = x := ⟨_, rfl⟩
  obtain ⟨RT, hRT⟩ : ∃ x, Plain.reachedT N = x := ⟨_, rfl⟩
  rw [hN] at hrow hRl ⊢
  rw [hRT, hst]
  rw [hp] at hrow hp64
  rw [hp, hm] at cR hq ⊢
  rw [hm] at hn0 hn64 hCl
  have HCL := Lib.hid hCl
  have HM := Lib.hid hm
  have HNN := Lib.hid hN
  have HNL := Lib.hid (hRl.trans hm)
  have HST := Lib.hid hst
  have HRT := Lib.hid hRT
  have HROW := Lib.hid hrow
  have CR := Lib.hid cR
  have HQ := Lib.hid hq
  obtain ⟨tb, htb⟩ : ∃ x, w.heap.size = x := ⟨_, rfl⟩
  rw [htb] at HQ
  have HTB := Lib.hid htb
  clear cR hT h hb0 hq hm hp hna hRl hCl hrow hN hst hRT htb
  go_enter Tryz.func22, Tryz.ntmps22
  go_wp2_with fail
  rw [HTB.out]
  refine CR.out.mono ?_
  rintro _ w2 ⟨rfl, hb⟩
  have HS := Lib.hid (HQ.out.below hb)
  clear hb
  go_upto_region 3 with fail
  go_cut [4] (fun y wx => CutT w tb #[.slice PA p pc, .slice NA m nc, .slice AA m ac] #[.int .i64 (m : Int), .int .i64 (p : Int), .int .i64 (0), .int .i64 (0), .bool st] #[.int .i64 0, .int .i64 0, .int .i64 0, .int .i64 0, .bool false] y wx)
  case first =>
    obtain ⟨wd, hwd⟩ : ∃ W0, w2.drew = W0 := ⟨_, rfl⟩
    have hs := HS.out.drew
    rw [hwd] at hs
    have HSD := Lib.hid hs
    have HBD := Lib.hid (Below.refl wd.heap.size wd)
    obtain ⟨ab, ao, hAA, hab, hac⟩ := (HT.out wd hs.2).acc (by rw [List.length_map, HCL.out]; omega)
    have hac0 := hac 0 (.bool st) (by rw [List.getElem?_map, List.getElem?_eq_getElem (by rw [HCL.out]; omega), ← HST.out, Plain.getD_lt C false 0 (by rw [HCL.out]; omega)]; rfl)
    rw [Nat.add_zero] at hac0
    subst hAA
    have HF := Lib.hid (fun (w' : World) (h : Below wd.heap.size wd w') => (⟨blk_cells3 (blk_later (hs.box 1 _ _ _ rfl).2 h), (h.cell (p := ⟨ab, ao, none⟩) hab).trans hac0⟩ : _ ∧ _))
    clear hs HS hac hac0
    refine wp_region_noPanic ?_
    refine wp_region_T 12 (S := fun w' : World => Below wd.heap.size wd w') (by kernel_rfl) (by decide) ?_
    rw [hwd]
    clear hwd
    refine wpAnyT_take2 0 (v := ?tvt1) (by kernel_rfl) rfl (by kernel_rfl) (fun _ _ _ h => h) (Or.inl ⟨by rfl, ?tyt1⟩) HBD.out ?trt1
    case tyt1 => (intro w' hSw; (try dsimp only at hSw); go_simp; try with_reducible rfl)
    try simp only [Act.put, List.setIfInBounds_toArray, List.set_cons_zero, List.set_cons_succ]
    refine wpAnyT_take2 1 (v := ?tvt2) (by kernel_rfl) rfl (by kernel_rfl) (fun _ _ _ h => h) (Or.inl ⟨by rfl, ?tyt2⟩) HBD.out ?trt2
    case tyt2 => (intro w' hSw; obtain ⟨⟨t0, t1, t2⟩, z0⟩ := HF.out w' hSw; (try dsimp only at hSw); go_simp; try with_reducible rfl)
    try simp only [Act.put, List.setIfInBounds_toArray, List.set_cons_zero, List.set_cons_succ]
    refine wpAnyT_take2 2 (v := ?tvt3) (by kernel_rfl) rfl (by kernel_rfl) (fun _ _ _ h => h) (Or.inl ⟨by rfl, ?tyt3⟩) HBD.out ?trt3
    case tyt3 => (intro w' hSw; (try dsimp only at hSw); go_simp; try with_reducible rfl)
    try simp only [Act.put, List.setIfInBounds_toArray, List.set_cons_zero, List.set_cons_succ]
    refine wpAnyT_take2 3 (v := ?tvt4) (by kernel_rfl) rfl (by kernel_rfl) (fun _ _ _ h => h) (Or.inl ⟨by rfl, ?tyt4⟩) HBD.out ?trt4
    case tyt4 => (intro w' hSw; (try dsimp only at hSw); go_simp; try with_reducible rfl)
    try simp only [Act.put, List.setIfInBounds_toArray, List.set_cons_zero, List.set_cons_succ]
    refine wpAnyT_take2 4 (v := ?tvt5) (by kernel_rfl) rfl (by kernel_rfl) (fun _ _ _ h => h) (Or.inl ⟨by rfl, ?tyt5⟩) HBD.out ?trt5
    case tyt5 => (intro w' hSw; obtain ⟨⟨t0, t1, t2⟩, z0⟩ := HF.out w' hSw; (try dsimp only at hSw); go_simp; try with_reducible rfl)
    try simp only [Act.put, List.setIfInBounds_toArray, List.set_cons_zero, List.set_cons_succ]
    refine wpAnyT_take2 5 (v := ?tvt6) (by kernel_rfl) rfl (by kernel_rfl) (fun _ _ _ h => h) (Or.inl ⟨by rfl, ?tyt6⟩) HBD.out ?trt6
    case tyt6 => (intro w' hSw; (try dsimp only at hSw); go_simp; try with_reducible rfl)
    try simp only [Act.put, List.setIfInBounds_toArray, List.set_cons_zero, List.set_cons_succ]
    refine wpAnyT_take2 6 (v := ?tvt7) (by kernel_rfl) rfl (by kernel_rfl) (fun _ _ _ h => h) (Or.inl ⟨by rfl, ?tyt7⟩) HBD.out ?trt7
    case tyt7 => (intro w' hSw; (try dsimp only at hSw); go_simp; try with_reducible rfl)
    try simp only [Act.put, List.setIfInBounds_toArray, List.set_cons_zero, List.set_cons_succ]
    refine wpAnyT_take2 7 (v := ?tvt8) (by kernel_rfl) rfl (by kernel_rfl) (fun _ _ _ h => h) (Or.inl ⟨by rfl, ?tyt8⟩) HBD.out ?trt8
    case tyt8 => (intro w' hSw; obtain ⟨⟨t0, t1, t2⟩, z0⟩ := HF.out w' hSw; (try dsimp only at hSw); go_simp; try with_reducible rfl)
    try simp only [Act.put, List.setIfInBounds_toArray, List.set_cons_zero, List.set_cons_succ]
    refine wpAnyT_take2 8 (v := ?tvt9) (by kernel_rfl) rfl (by kernel_rfl) (fun _ _ _ h => h) (Or.inl ⟨by rfl, ?tyt9⟩) HBD.out ?trt9
    case tyt9 => (intro w' hSw; (try dsimp only at hSw); go_simp; try with_reducible rfl)
    try simp only [Act.put, List.setIfInBounds_toArray, List.set_cons_zero, List.set_cons_succ]
    refine wpAnyT_take2 9 (v := ?tvt10) (by kernel_rfl) rfl (by kernel_rfl) (fun _ _ _ h => h) (Or.inl ⟨by rfl, ?tyt10⟩) HBD.out ?trt10
    case tyt10 => (intro w' hSw; obtain ⟨⟨t0, t1, t2⟩, z0⟩ := HF.out w' hSw; (try dsimp only at hSw); go_simp; try with_reducible rfl)
    try simp only [Act.put, List.setIfInBounds_toArray, List.set_cons_zero, List.set_cons_succ]
    refine wpAnyT_take2 10 (v := ?tvt11) (by kernel_rfl) rfl (by kernel_rfl) (fun _ _ _ h => h) (Or.inl ⟨by rfl, ?tyt11⟩) HBD.out ?trt11
    case tyt11 => (intro w' hSw; (try dsimp only at hSw); go_simp; try with_reducible rfl)
    try simp only [Act.put, List.setIfInBounds_toArray, List.set_cons_zero, List.set_cons_succ]
    refine wpAnyT_one2 11 rfl (by kernel_rfl) ?_
    intro K' hK'
    rw [if_pos (by rfl)]
    have HK := Lib.hid hK'
    clear hK'
    have hnew := heap_alloc_new2 wd (.cells #[.int .i64 0, .int .i64 0, .int .i64 0, .int .i64 0, .bool false] 57) wd.heap.size _ rfl
    go_simp
    have HBt12 := Lib.hid (below_alloc HBD.out (.cells #[.int .i64 0, .int .i64 0, .int .i64 0, .int .i64 0, .bool false] 57))
    refine HK.out _ _ ⟨HBt12.out, ?_⟩
    clear HK K'
    try simp only [Act.put, List.setIfInBounds_toArray, List.set_cons_zero, List.set_cons_succ]
    obtain ⟨wt12, hwt12⟩ : ∃ W0, wd.alloc (.cells #[.int .i64 0, .int .i64 0, .int .i64 0, .int .i64 0, .bool false] 57) = W0 := ⟨_, rfl⟩
    rw [hwt12] at hnew HBt12 ⊢
    have Hibt12 := Lib.hid hnew
    clear hnew hwt12
    refine ⟨by kernel_rfl, ?_⟩
    change wpList _ _ _ [_] _ _
    have hs := HSD.out.below HBt12.out
    have hs2 : SepB w wt12 [boxT wd.heap.size #[.int .i64 0, .int .i64 0, .int .i64 0, .int .i64 0, .bool false] 57, boxT (tb + 1) #[.int .i64 0, .int .i64 0, .int .i64 0, .int .i64 0, .bool false] 57, boxT tb #[.slice PA p pc, .slice NA m nc, .slice (some ⟨ab, ao, none⟩) m ac] 34] := ⟨HSD.out.1.cons HBt12.out (boxT wd.heap.size #[.int .i64 0, .int .i64 0, .int .i64 0, .int .i64 0, .bool false] 57) (ok_box.2 ⟨HSD.out.2.size, Hibt12.out⟩) (fun k hk => by rw [blk_box] at hk; injection hk with hk; rw [← hk]; exact Nat.le_refl _), hs.2⟩
    obtain ⟨x0, x1, x2, x3, x4⟩ := blk_cells5 (hs2.box 0 _ _ _ rfl).2
    have f0 := blk_frozen (hs2.box 0 _ _ _ rfl).2 0
    have f1 := blk_frozen (hs2.box 0 _ _ _ rfl).2 1
    have f2 := blk_frozen (hs2.box 0 _ _ _ rfl).2 2
    have f3 := blk_frozen (hs2.box 0 _ _ _ rfl).2 3
    have f4 := blk_frozen (hs2.box 0 _ _ _ rfl).2 4
    have hs3 := hs2.store5 (.int .i64 (m : Int)) (.int .i64 (p : Int)) (.int .i64 0) (.int .i64 0) (.bool st)
    have HS3 := Lib.hid (hs3.perm (.cons _ (.swap _ _ _)))
    clear hs hs2 hs3
    go_wp2
    refine NoPanic.normal ?_
    go_wp2
    go_meet
    case rel => exact ⟨_, rfl, HS3.out⟩
  case rest =>
    obtain ⟨ib, rfl, hS⟩ := hcut
    obtain ⟨w3, rfl⟩ : ∃ W0, W0 = wc := ⟨_, rfl⟩
    have HS := Lib.hid hS
    clear hS
    obtain ⟨t0, t1, t2⟩ := blk_cells3 (HS.out.box 1 _ _ _ rfl).2
    go_wp2_with fail
    go_loopw [29] (fun i wr => ∃ k : Nat, k ≤ m ∧ i = .int .i64 k ∧ SepB w wr [boxT ib #[.int .i64 (m : Int), .int .i64 (p : Int), .int .i64 (((C.take k).count true : Nat)), .int .i64 (0), .bool st] 57, boxT tb #[.slice PA p pc, .slice NA m nc, .slice AA m ac] 34, boxT (tb + 1) #[.int .i64 0, .int .i64 0, .int .i64 0, .int .i64 0, .bool false] 57]) (fun i _ => m - (RowKit.intOf i).toNat)
    case atStart => exact ⟨0, Nat.zero_le _, rfl, HS.out⟩
    clear t0 t1 t2
    case round =>
      obtain ⟨w4, rfl⟩ : ∃ W0, W0 = wr := ⟨_, rfl⟩
      obtain ⟨k, hk, rfl, hS⟩ := hrel
      have HS4 := Lib.hid hS
      clear hS
      obtain ⟨y0, y1, y2, y3, y4⟩ := blk_cells5 (HS4.out.box 0 _ _ _ rfl).2
      have f2 := blk_frozen (HS4.out.box 0 _ _ _ rfl).2 2
      by_cases hlt : k < m
      · have hkC : k < C.length := by rw [HCL.out]; exact hlt
        obtain ⟨ab, ao, hAA, hab, hac⟩ := (HT.out w4 HS4.out.2).acc (by rw [List.length_map]; omega)
        have c0 := hac k (.bool C[k]) (by rw [List.getElem?_map, List.getElem?_eq_getElem hkC]; rfl)
        have hcl : (C.take k).count true ≤ k := Nat.le_trans List.count_le_length (List.length_take_le _ _)
        have hsu : (C.take (k + 1)).count true = (C.take k).count true + if C[k] = true then 1 else 0 := by
          rw [List.take_succ_eq_append_getElem hkC, List.count_append]
          cases C[k] <;> simp
        subst hAA
        obtain ⟨a, ha⟩ : ∃ x, (C.take k).count true = x := ⟨_, rfl⟩
        rw [ha] at hcl hsu y2 HS4
        obtain ⟨q, hq⟩ : ∃ x, C[k] = x := ⟨_, rfl⟩
        rw [hq] at c0 hsu
        have HSU := Lib.hid hsu
        have hs5 := HS4.out.store 0 ib _ 57 rfl 2 (.int .i64 ((a : Int) + 1))
        have HS5 := Lib.hid hs5
        clear hac hsu ha hq hs5
        cases q
        · go_wp2
          go_roundw
          case rel => exact ⟨k + 1, by omega, by go_num, by rw [HSU.out]; exact HS4.out⟩
          case measure => simp [RowKit.intOf]; omega
        · go_wp2
          go_roundw
          case rel => exact ⟨k + 1, by omega, by go_num, by rw [HSU.out]; exact HS5.out⟩
          case measure => simp [RowKit.intOf]; omega
      · obtain rfl : m = k := by omega
        rw [List.take_of_length_le (by rw [HCL.out]; exact Nat.le_refl _)] at HS4 y2
        obtain ⟨acc, hacc⟩ : ∃ x, C.count true = x := ⟨_, rfl⟩
        rw [hacc] at HS4 y2
        have HACC := Lib.hid hacc
        clear hacc
        have hmm := @run_makeMap Tryz.prog
        have hS0 := SeenAt.new w4
        have hb5 : Below w4.heap.size w4 (w4.alloc (.map #[] 0)) := below_alloc (Below.refl _ _) _
        clear y0 y1 y2 y3 y4 f2
        go_wp2_with (refine wpList_ins rfl _ _ _ rfl w4.heap.size rfl hS0 rfl rfl ?_)
        intro w5 hS5 hg5
        have hs5 := (HS4.out.below hb5).map hS0 hg5 HS4.out.2.size
        obtain ⟨mb, hmb⟩ : ∃ x, w4.heap.size = x := ⟨_, rfl⟩
        rw [hmb] at hS5 ⊢
        have hMB : w.heap.size ≤ mb := by rw [← hmb]; exact HS4.out.2.size
        have h0 : Plain.upd (fun _ => 0) 0 1 = Plain.sF (true :: List.replicate (m - 1) false) := by
          funext j
          unfold Plain.sF
          cases j with
          | zero => rfl
          | succ j =>
            rw [Plain.upd_other _ 0 1 (j + 1) (by omega), List.getD_cons_succ, List.getD_eq_getElem?_getD, List.getElem?_replicate]
            split <;> rfl
        rw [h0] at hS5
        have HS5 := Lib.hid hs5
        have HM5 := Lib.hid hS5
        have HMB := Lib.hid hMB
        clear hmm hS0 hb5 hg5 hs5 hmb hMB h0 hS5 HS4
        go_wp2_with fail
        have hb6 : Below w5.heap.size w5 (w5.alloc (.cells #[.int .i64 0] 3)) := below_alloc (Below.refl _ _) _
        have hx6 : (w5.alloc (.cells #[.int .i64 0] 3)).heap[w5.heap.size]? = some (.cells #[.int .i64 0] 3 (0, 0)) := heap_alloc_new2 _ _ _ _ rfl
        have hlt5 := fun i k cs t hi => lt_of_some (HS5.out.box i k cs t hi).2
        obtain ⟨w6, hw6⟩ : ∃ W0, w5.alloc (.cells #[.int .i64 0] 3) = W0 := ⟨_, rfl⟩
        obtain ⟨g0, hg0⟩ : ∃ x, w5.heap.size = x := ⟨_, rfl⟩
        have hg0w : w.heap.size ≤ g0 := by rw [← hg0]; exact HS5.out.2.size
        have hn1 : g0 ≠ ib := by have := hlt5 0 ib _ 57 rfl; omega
        have hn2 : g0 ≠ tb := by have := hlt5 1 tb _ 34 rfl; omega
        have hn3 : g0 ≠ tb + 1 := by have := hlt5 2 (tb + 1) _ 57 rfl; omega
        have hn4 : g0 ≠ mb := by have := HM5.out.lt; omega
        rw [hw6] at hb6 hx6 ⊢
        rw [hg0] at hx6 ⊢
        have HS6 := Lib.hid (HS5.out.below hb6)
        have HM6 := Lib.hid (HM5.out.below hb6)
        have HX6 := Lib.hid hx6
        have HRC := Lib.hid (show 1 + (true :: List.replicate (m - 1) false).count false = m by simp; omega)
        clear hb6 hx6 hlt5 hw6 hg0
        go_loopg [8] m (fun gk td wr => TRel w mb ib tb (fun c => [boxT ib #[.int .i64 (m : Int), .int .i64 (p : Int), .int .i64 (acc : Int), .int .i64 (c : Int), .bool st] 57, boxT tb #[.slice PA p pc, .slice NA m nc, .slice AA m ac] 34, boxT (tb + 1) #[.int .i64 0, .int .i64 0, .int .i64 0, .int .i64 0, .bool false] 57]) N RT m gk td wr)
        case atStart =>
          have hc := HRC.out
          refine ⟨true :: List.replicate (m - 1) false, [0], 0, 1000, g0, by simp; omega, HS6.out, HM6.out, ⟨lt_of_some HX6.out, 0, 1, rfl, Nat.le_refl _, by simp [maxLen], fun j u hu => ?_, fun j hj => ?_⟩, hn1, hn2, hn3, hn4, hg0w, by simp; omega, by intro z hz; simp at hz; omega, ?_, by omega, by omega⟩
          · rw [Nat.zero_add, cell_of_row _ _ _ _ _ _ HX6.out]
            simpa [i64s] using hu
          · obtain rfl : j = 0 := by omega
            exact ⟨by rw [cell_of_row _ _ _ _ _ _ HX6.out]; rfl, blk_frozen HX6.out _⟩
          · rw [← HRT.out]; unfold Plain.reachedT; rw [HNL.out]
        case round =>
          obtain ⟨s, T, c, F, g, hgk, hS, hM, hQ, hn1, hn2, hn3, hn4, hgw, hsl, hTm, hbf, hF, hcm⟩ := hrel
          obtain ⟨w7, rfl⟩ : ∃ W0, W0 = wr := ⟨_, rfl⟩
          have HS7 := Lib.hid hS
          have HM7 := Lib.hid hM
          have HQ7 := Lib.hid hQ
          have HGK := Lib.hid hgk
          have HF := Lib.hid hF
          have HCM := Lib.hid hcm
          have HBF := Lib.hid hbf
          have HSL := Lib.hid hsl
          have HTM := Lib.hid hTm
          have hlen : c ≤ 64 := by omega
          clear hS hM hQ hgk hF hcm hbf hsl hTm HS6 HM6 HX6 HRC HS5 HM5
          cases T with
          | nil =>
            obtain ⟨_, off, cap, hv, hle, hcm, hc1, hsp⟩ := HQ7.out
            rw [List.map_nil, List.length_nil] at hv
            subst hv
            have hcR : c = RT := by rw [← HBF.out]; cases F <;> rfl
            have hq := HS7.out.perm (List.Perm.trans (.cons _ (.swap _ _ _)) (.swap _ _ _))
            obtain ⟨x0, x1, x2, x3, x4⟩ := blk_cells5 (hq.box 0 _ _ _ rfl).2
            obtain ⟨y0, y1, y2, y3, y4⟩ := blk_cells5 (hq.box 1 _ _ _ rfl).2
            have g0' := blk_frozen (hq.box 0 _ _ _ rfl).2 0
            have g1' := blk_frozen (hq.box 0 _ _ _ rfl).2 1
            have g2' := blk_frozen (hq.box 0 _ _ _ rfl).2 2
            have g3' := blk_frozen (hq.box 0 _ _ _ rfl).2 3
            have g4' := blk_frozen (hq.box 0 _ _ _ rfl).2 4
            have HS9 := Lib.hid (hq.store5 (.int .i64 (m : Int)) (.int .i64 (p : Int)) (.int .i64 (acc : Int)) (.int .i64 (c : Int)) (.bool st))
            have HCR := Lib.hid hcR
            clear hq hcR hc1 hsp hle hcm
            go_wp2
            obtain ⟨k0, k1, k2, k3, k4⟩ := blk_cells5 (HS9.out.box 0 _ _ _ rfl).2
            refine bodyPost_ret (v := .tuple #[tinfoV m p acc c st, .int .i64 0]) (by simp [results, Tryz.results22, go_sem, k0, k1, k2, k3, k4, tinfoV]) rfl ?_
            have h9 := HS9.out.2
            rw [HCR.out] at h9 ⊢
            rw [HACC.out]
            exact ⟨rfl, h9⟩
          | cons z T =>
            obtain ⟨hlg, off, cap, hv, hle, hcm2, hc1, hsp⟩ := HQ7.out
            have hzm : z < m := HTM.out z (by simp)
            have hzR : z < R.length := by rw [HM.out]; exact hzm
            have d0 := hc1 0 (.int .i64 (z : Int)) rfl
            rw [Nat.add_zero] at d0
            rw [List.length_map] at hle hv
            obtain ⟨row, hrw⟩ : ∃ x, N.getD z [] = x := ⟨_, rfl⟩
            have hrowN : row ∈ N := by rw [← hrw, Plain.getD_lt N [] z (by rw [HNL.out]; exact hzm)]; exact List.getElem_mem _
            obtain ⟨hrl, hrx⟩ := HROW.out row hrowN
            have hnr : R[z].2.2 = row := by
              rw [← hrw, ← HNN.out]
              unfold nums
              rw [Plain.getD_lt _ [] z (by rw [List.length_map]; exact hzR), List.getElem_map]
            obtain ⟨f, rfl⟩ : ∃ f, F = f + 1 := ⟨F - 1, by have h1 := HF.out; have h2 := HGK.out; simp only [List.length_cons] at h2; omega⟩
            have hbf2 : Plain.bfs N f (Plain.pushes s T row).1 (Plain.pushes s T row).2 (c + 1) = RT := by
              have h1 := HBF.out
              unfold Plain.bfs at h1
              rw [hrw] at h1
              exact h1
            have hpf := Plain.pushes_fine
            have HPF := Lib.hid (fun (r : List Int) (hr : ∀ x ∈ r, x ∈ row) => Plain.pushes_fine r s T (fun x hx => by rw [HSL.out]; have := hrx x (hr x hx); rw [HNL.out] at this; exact this) (fun y hy => by rw [HSL.out]; exact HTM.out y (by simp [hy])))
            have HBF2 := Lib.hid hbf2
            have HTAB := Lib.hid (fun (W : World) (hb : Below w.heap.size w W) => (HT.out W hb))
            obtain ⟨nb, no, hNA, hnb, hnc⟩ := (HT.out w7 HS7.out.2).rows (by rw [List.length_map]; omega)
            subst hNA
            have c1 := hnc z (rowV R[z]) (by rw [List.getElem?_map, List.getElem?_eq_getElem hzR]; rfl)
            obtain ⟨⟨RA, rcc, row2⟩, hRz⟩ : ∃ x, R[z] = x := ⟨_, rfl⟩
            have HRZ := Lib.hid hRz
            rw [hRz] at hnr c1
            dsimp only at hnr
            subst hnr
            unfold rowV at c1
            dsimp only at c1
            rw [hrl] at c1
            obtain ⟨y0, y1, y2, y3, y4⟩ := blk_cells5 (HS7.out.box 0 _ _ _ rfl).2
            have f3 := blk_frozen (HS7.out.box 0 _ _ _ rfl).2 3
            have hs8 := HS7.out.store 0 ib _ 57 rfl 3 (.int .i64 ((c : Int) + 1))
            have hg8 := gr_set w7 ib 3 (.int .i64 ((c : Int) + 1))
            have hm8 := HM7.out.box (HS7.out.box 0 _ _ _ rfl).2 hg8
            have hq8 := HQ7.out.keep (hg8.block g hlg (fun e => hn1 (Option.some.inj e)))
            have hibw := (HS7.out.box 0 _ _ _ rfl).1
            have hnbw : nb ≠ ib := by
              obtain ⟨b2, o2, he2, hb2, _⟩ := (HT.out w (Below.refl _ _)).rows (by rw [List.length_map]; omega)
              injection he2 with he2
              injection he2 with he2 _
              omega
            have c1' := (World.cell?_of_block (a := ⟨nb, no + z, none⟩) (heap_setCell_other w7 ⟨ib, 3, none⟩ nb (.int .i64 ((c : Int) + 1)) hnbw)).trans c1
            have d0' := (World.cell?_of_block (a := ⟨g, off, none⟩) (heap_setCell_other w7 ⟨ib, 3, none⟩ g (.int .i64 ((c : Int) + 1)) hn1)).trans d0
            subst hv
            go_upto_region 15 with fail
            clear y0 y1 y2 y3 y4 f3 c1 d0 hc1 hsp
            obtain ⟨w8, hw8⟩ : ∃ W0, w7.setCell ⟨ib, 3, none⟩ (.int .i64 ((c : Int) + 1)) = W0 := ⟨_, rfl⟩
            rw [hw8] at hs8 hm8 hq8 c1' d0' ⊢
            have HS8 := Lib.hid (show SepB w w8 [boxT ib #[.int .i64 (m : Int), .int .i64 (p : Int), .int .i64 (acc : Int), .int .i64 ((c : Int) + 1), .bool st] 57, boxT tb #[.slice PA p pc, .slice (some ⟨nb, no, none⟩) m nc, .slice AA m ac] 34, boxT (tb + 1) #[.int .i64 0, .int .i64 0, .int .i64 0, .int .i64 0, .bool false] 57] from hs8)
            have HM8 := Lib.hid hm8
            have HQ8 := Lib.hid hq8
            obtain ⟨t0, t1, t2⟩ := blk_cells3 (HS8.out.box 1 _ _ _ rfl).2
            clear hs8 hg8 hm8 hq8 hw8 hnc hnb HS7 HM7 HQ7 hpf hbf2
            obtain ⟨tl, htl⟩ : ∃ x, T.length = x := ⟨_, rfl⟩
            rw [List.length_cons, htl] at hle ⊢
            have HTLN := Lib.hid htl
            have hz1 : (0 : Int) ≤ (z : Int) := by omega
            have hz2 : (z : Int) < (m : Int) := by omega
            have hz3 : (z : Int).toNat = z := by omega
            clear htl
            go_quiet (fail)
            clear t0 t1 t2 c1' d0'
            have hbd : Below w8.heap.size w8 (w8.drewN nq) := ⟨rfl, rfl, rfl, Nat.le_refl _, fun _ _ => rfl⟩
            have HS9 := Lib.hid (HS8.out.below hbd)
            have HM9 := Lib.hid (HM8.out.below hbd)
            have HQ9 := Lib.hid (HQ8.out.below hbd)
            obtain ⟨w9, hw9⟩ : ∃ W0, w8.drewN nq = W0 := ⟨_, rfl⟩
            rw [hw9] at HS9 HM9 HQ9 ⊢
            clear hbd hw9 HS8 HM8 HQ8
            go_wp2_with fail
            go_loopw [8, 59] (fun td i wr => ∃ (j gq : Nat), j ≤ p ∧ i = .int .i64 j ∧ SepB w wr [boxT ib #[.int .i64 (m : Int), .int .i64 (p : Int), .int .i64 (acc : Int), .int .i64 ((c : Int) + 1), .bool st] 57, boxT tb #[.slice PA p pc, .slice (some ⟨nb, no, none⟩) m nc, .slice AA m ac] 34, boxT (tb + 1) #[.int .i64 0, .int .i64 0, .int .i64 0, .int .i64 0, .bool false] 57] ∧ SeenAt wr mb (Plain.sF (Plain.pushes s T (row2.take j)).1) ∧ Qu wr gq td ((z :: (Plain.pushes s T (row2.take j)).2).map fun (n : Nat) => (n : Int)) ∧ gq ≠ ib ∧ gq ≠ tb ∧ gq ≠ tb + 1 ∧ gq ≠ mb ∧ w.heap.size ≤ gq) (fun _ i _ => p - (RowKit.intOf i).toNat)
            case atStart => exact ⟨0, g, Nat.zero_le _, rfl, HS9.out, HM9.out, by rw [HTLN.out.symm] at *; exact HQ9.out, hn1, hn2, hn3, hn4, hgw⟩
            case round =>
              obtain ⟨j, gq, hj, rfl, hS, hM, hQ, hm1, hm2, hm3, hm4, hmw⟩ := hrel
              obtain ⟨w10, rfl⟩ : ∃ W0, W0 = wr := ⟨_, rfl⟩
              obtain ⟨hpl, hpc, hpt⟩ := HPF.out (row2.take j) (fun x hx => List.mem_of_mem_take hx)
              by_cases hjl : j < p
              · have hjr : j < row2.length := by omega
                obtain ⟨rb, ro, hRA, hrb, hrc⟩ := (((HT.out w10 hS.2).row R[z] (List.getElem_mem hzR)).1) (by rw [HRZ.out]; unfold i64s; rw [List.length_map]; dsimp only; omega)
                rw [HRZ.out] at hRA hrc
                dsimp only at hRA hrc
                have c5 := hrc j (.int .i64 row2[j]) (by unfold i64s; rw [List.getElem?_map, List.getElem?_eq_getElem hjr]; rfl)
                obtain ⟨hx0, hxm⟩ := hrx row2[j] (List.getElem_mem hjr)
                rw [HNL.out] at hxm
                have hsn := Plain.pushes_snoc (row2.take j) s T row2[j]
                rw [← List.take_succ_eq_append_getElem hjr] at hsn
                obtain ⟨xn, hxn⟩ : ∃ x : Nat, row2[j] = (x : Int) := ⟨row2[j].toNat, by omega⟩
                rw [hxn] at c5 hxm hsn
                rw [Int.toNat_natCast] at hsn
                obtain ⟨⟨sj, Tj⟩, hpj⟩ : ∃ X, Plain.pushes s T (row2.take j) = X := ⟨_, rfl⟩
                rw [hpj] at hM hQ hpl hsn hpt
                dsimp only at hM hQ hpl hsn hpt
                have hxm2 : xn < m := by omega
                have hlk := hM.look xn (by omega)
                have HS10 := Lib.hid hS
                have HM10 := Lib.hid hM
                have HQ10 := Lib.hid hQ
                have HSN := Lib.hid hsn
                have hsjm : sj.length = m := by rw [hpl]; exact HSL.out
                have HSJ := Lib.hid hsjm
                have htjl : Tj.length ≤ 100000 := by
                  have h1 := hpc
                  have h2 := HGK.out
                  have h3 := HCM.out
                  rw [hpj] at h1
                  dsimp only at h1
                  simp only [List.length_cons] at h2
                  omega
                subst hRA
                clear hS hM hQ hsn hrc hpl hpc hpt hpj hxn hx0 hxm hsjm
                obtain ⟨q, hq⟩ : ∃ x, sj.getD xn false = x := ⟨_, rfl⟩
                have HQQ := Lib.hid hq
                cases q
                · have hs0 : Plain.sF sj xn = 0 := by unfold Plain.sF; rw [hq]; rfl
                  rw [hs0] at hlk
                  have hst2 := HSN.out
                  rw [if_neg (by rw [hq]; decide)] at hst2
                  have HST2 := Lib.hid hst2
                  have HS00 := Lib.hid hs0
                  clear hst2 hq hs0
                  go_wp2_with (at_mapUpdate; refine wpList_seen rfl _ _ _ rfl mb (Plain.sF sj) xn 1 rfl HM10.out rfl rfl (by omega) (by rw [HS00.out]) (Plain.sF_le sj) ?_)
                  intro w11 hM11 hg11
                  rw [Plain.sF_set sj xn (by rw [HSJ.out]; exact hxm2)] at hM11
                  have hs11 := HS10.out.map HM10.out hg11 HMB.out
                  have hq11 := HQ10.out.keep (hg11.block gq HQ10.out.1 (fun e => hm4 (Option.some.inj e)))
                  have hb12 : Below w11.heap.size w11 (w11.alloc (.cells #[.int .i64 (xn : Int)] 3)) := below_alloc (Below.refl _ _) _
                  have HS12 := Lib.hid (hs11.below hb12)
                  have HM12 := Lib.hid (hM11.below hb12)
                  have HQ12 := Lib.hid (hq11.below hb12)
                  have hcl12 : ∀ j u, (i64s [(xn : Int)])[j]? = some u → (w11.alloc (.cells #[.int .i64 (xn : Int)] 3)).cell? ((⟨w11.heap.size, 0, none⟩ : Addr).add j) = some u := CellsAt_add (CellsAt.new w11 #[.int .i64 (xn : Int)] 3)
                  have HCL12 := Lib.hid hcl12
                  have HLEN := Lib.hid (show ((z :: Tj).map fun (n : Nat) => (n : Int)).length + [(xn : Int)].length ≤ 1000000000 by simp; omega)
                  clear hM11 hg11 hs11 hq11 hb12 hcl12 hlk c5
                  go_wp2_with (at_builtin; refine wpList_append_qu _ rfl (.tmp 69) (.tmp 71) rfl gq _ ((z :: Tj).map fun (n : Nat) => (n : Int)) rfl HQ12.out ⟨w11.heap.size, 0, none⟩ 1 1 [(xn : Int)] rfl rfl HCL12.out Nat.zero_lt_one HLEN.out ?_)
                  intro v5 w13 g5 hQ5 hg5 hK5
                  have hgk5 := gr_kp hK5
                  have hs13 := HS12.out.foreign hgk5 hmw (fun T hT => by
                    simp only [List.mem_cons, List.not_mem_nil, or_false] at hT
                    rcases hT with rfl | rfl | rfl
                    · rw [blk_box]; exact fun e => hm1 (Option.some.inj e).symm
                    · rw [blk_box]; exact fun e => hm2 (Option.some.inj e).symm
                    · rw [blk_box]; exact fun e => hm3 (Option.some.inj e).symm)
                  have hm13 := HM12.out.gr hgk5 (Ne.symm hm4)
                  have hsz12 : (w11.alloc (.cells #[.int .i64 (xn : Int)] 3)).heap.size = w11.heap.size + 1 := by simp
                  have hge : ∀ k, k < (w11.alloc (.cells #[.int .i64 (xn : Int)] 3)).heap.size → gq ≠ k → g5 ≠ k := fun k hk hne e => by
                    rw [hsz12] at hk
                    rcases hg5 with h | h
                    · exact hne (h ▸ e)
                    · omega
                  have hr1 := hge ib (lt_of_some (HS12.out.box 0 _ _ _ rfl).2) hm1
                  have hr2 := hge tb (lt_of_some (HS12.out.box 1 _ _ _ rfl).2) hm2
                  have hr3 := hge (tb + 1) (lt_of_some (HS12.out.box 2 _ _ _ rfl).2) hm3
                  have hr4 := hge mb HM12.out.lt hm4
                  have hr5 : w.heap.size ≤ g5 := by
                    rcases hg5 with h | h
                    · rw [h]; exact hmw
                    · have := HS12.out.2.size; omega
                  have hq13 : Qu w13 g5 v5 ((z :: (Tj ++ [xn])).map fun (n : Nat) => (n : Int)) := by
                    have : (z :: (Tj ++ [xn])).map (fun (n : Nat) => (n : Int)) = ((z :: Tj).map fun (n : Nat) => (n : Int)) ++ [(xn : Int)] := by simp
                    rw [this]; exact hQ5
                  have HR13 := Lib.hid (show SepB w w13 [boxT ib #[.int .i64 (m : Int), .int .i64 (p : Int), .int .i64 (acc : Int), .int .i64 ((c : Int) + 1), .bool st] 57, boxT tb #[.slice PA p pc, .slice (some ⟨nb, no, none⟩) m nc, .slice AA m ac] 34, boxT (tb + 1) #[.int .i64 0, .int .i64 0, .int .i64 0, .int .i64 0, .bool false] 57] ∧ SeenAt w13 mb (Plain.sF (sj.set xn true)) ∧ Qu w13 g5 v5 ((z :: (Tj ++ [xn])).map fun (n : Nat) => (n : Int)) from ⟨hs13, hm13, hq13⟩)
                  clear hQ5 hg5 hK5 hgk5 hs13 hm13 hge hq13 hsz12
                  go_wp2
                  go_roundw
                  case rel => exact ⟨j + 1, g5, by omega, by go_num, HR13.out.1, by rw [HST2.out]; exact HR13.out.2.1, by rw [HST2.out]; exact HR13.out.2.2, hr1, hr2, hr3, hr4, hr5⟩
                  case measure => simp [RowKit.intOf]; omega
                · have hs1 : Plain.sF sj xn = 1 := by unfold Plain.sF; rw [hq]; rfl
                  rw [hs1] at hlk
                  have hst2 := HSN.out
                  rw [if_pos hq] at hst2
                  have HST2 := Lib.hid hst2
                  clear hst2 hq hs1
                  go_wp2
                  go_roundw
                  case rel => exact ⟨j + 1, gq, by omega, by go_num, HS10.out, by rw [HST2.out]; exact HM10.out, by rw [HST2.out]; exact HQ10.out, hm1, hm2, hm3, hm4, hmw⟩
                  case measure => simp [RowKit.intOf]; omega
              · obtain rfl : p = j := by omega
                rw [List.take_of_length_le (by omega)] at hM hQ hpl hpc hpt
                obtain ⟨⟨s2, T2⟩, hp2⟩ : ∃ X, Plain.pushes s T row2 = X := ⟨_, rfl⟩
                have hbf3 := HBF2.out
                rw [hp2] at hM hQ hpl hpc hpt hbf3
                dsimp only at hM hQ hpl hpc hpt hbf3
                obtain ⟨hlg2, of2, cap2, hv2, hle2, hcm3, hcc, hsp2⟩ := hQ
                rw [List.length_map, List.length_cons] at hle2 hv2
                subst hv2
                obtain ⟨pc2, rfl⟩ : ∃ p', cap2 = p' + 1 := ⟨cap2 - 1, by omega⟩
                have HS11 := Lib.hid hS
                have HM11 := Lib.hid hM
                have HCC := Lib.hid hcc
                have HSP := Lib.hid hsp2
                have HBF3 := Lib.hid hbf3
                have HPL := Lib.hid hpl
                have HPC := Lib.hid hpc
                have HPT := Lib.hid hpt
                obtain ⟨tl2, htl2⟩ : ∃ x, T2.length = x := ⟨_, rfl⟩
                rw [htl2] at hle2 HPC ⊢
                have HTL2 := Lib.hid htl2
                unfold maxLen at hcm3
                clear hS hM hcc hsp2 hbf3 hpl hpc hpt htl2
                have hQb : ¬ pc2 = 0 → Qu w10 gq (.slice (some ⟨gq, of2 + 1, none⟩) tl2 pc2) (T2.map fun (n : Nat) => (n : Int)) := fun hp => by
                  refine ⟨hlg2, of2 + 1, pc2, by rw [List.length_map, HTL2.out], by rw [List.length_map, HTL2.out]; omega, by unfold maxLen; omega, fun j u hu => ?_, fun j hj => ?_⟩
                  · rw [show of2 + 1 + j = of2 + (j + 1) by omega]
                    exact HCC.out (j + 1) u (by simpa [i64s] using hu)
                  · rw [show of2 + 1 + j = of2 + (j + 1) by omega]
                    exact HSP.out (j + 1) (by omega)
                have hQa : pc2 = 0 → Qu w10 gq (.slice (some ⟨gq, of2, none⟩) tl2 pc2) (T2.map fun (n : Nat) => (n : Int)) := fun hp => by
                  have h0 : T2 = [] := List.eq_nil_of_length_eq_zero (by rw [HTL2.out]; omega)
                  refine ⟨hlg2, of2, pc2, by rw [List.length_map, HTL2.out], by rw [List.length_map, HTL2.out]; omega, by unfold maxLen; omega, fun j u hu => ?_, fun j hj => ?_⟩
                  · rw [h0] at hu; simp [i64s] at hu
                  · omega
                have HQA := Lib.hid hQa
                have HQB := Lib.hid hQb
                have HMU := Lib.hid (show T2.length + s2.count false + 1 = gk by have h1 := HPC.out; have h2 := HGK.out; have h3 := HTLN.out; simp only [List.length_cons] at h2; rw [HTL2.out]; omega)
                have HREL := Lib.hid (fun (v : Value) (hv : Qu w10 gq v (T2.map fun (n : Nat) => (n : Int))) => (show TRel w mb ib tb (fun c => [boxT ib #[.int .i64 (m : Int), .int .i64 (p : Int), .int .i64 (acc : Int), .int .i64 (c : Int), .bool st] 57, boxT tb #[.slice PA p pc, .slice (some ⟨nb, no, none⟩) m nc, .slice AA m ac] 34, boxT (tb + 1) #[.int .i64 0, .int .i64 0, .int .i64 0, .int .i64 0, .bool false] 57]) N RT m (T2.length + s2.count false) v w10 from
                  ⟨s2, T2, c + 1, f, gq, rfl, HS11.out, HM11.out, hv, hm1, hm2, hm3, hm4, hmw, by rw [HPL.out]; exact HSL.out, fun y hy => by have h := HPT.out y hy; rw [HSL.out] at h; exact h, HBF3.out, by have h1 := HMU.out; have h2 := HF.out; omega, by have h1 := HMU.out; have h2 := HCM.out; omega⟩))
                clear hQa hQb
                by_cases hp0 : pc2 = 0
                · have HQ0 := Lib.hid (HREL.out _ (HQA.out hp0))
                  subst hp0
                  obtain rfl : tl2 = 0 := by omega
                  go_wp2
                  all_goals
                    go_roundg (T2.length + s2.count false)
                    case measure => have := HMU.out; omega
                    case rel => exact HQ0.out
                · have HQ0 := Lib.hid (HREL.out _ (HQB.out hp0))
                  go_wp2
                  all_goals
                    go_roundg (T2.length + s2.count false)
                    case measure => have := HMU.out; omega
                    case rel => exact HQ0.out
end Go.Proofs.YtmiacgkidldjmaaGreatDoor
