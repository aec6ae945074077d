/- Chapter 13: what is known of a program: what the code computes. Conditions: what each lemma says. -/
import Derived.Test.YtmiacgkidldjmaaGreatDoorSealA
import Derived.Test.YtmiacgkidldjmaaGreatDoorLawA
set_option linter.unusedVariables false
set_option linter.unusedSimpArgs false
namespace Go.Proofs.YtmiacgkidldjmaaGreatDoor
open Go.RowKit Go.Lib Go.Maps
open Plain (Rg May mayB In Norm In4 slotsOf insB bnd riB cls cnot rightB normB goesL Rch cntA RInv small next_in)
theorem inR_of {L : List In4} {K : List Cs} {g : Int} (h : pgR L K g = true) : InR L := by
  obtain ⟨_, _, hr, _⟩ := pgR_facts h
  intro j hj hne
  have hm : L.getD j z4 ∈ L := by rw [Plain.getD_lt L z4 j hj]; exact List.getElem_mem hj
  obtain ⟨h1, h2, h3, _⟩ := next_in (hr _ hm)
  rw [not_or] at hne
  refine ⟨?_, fun e => ?_⟩
  · have := h1 _ (h2 hne.1); omega
  · have := h1 _ (h3 e); omega
def iC (n m : Nat) (sl : Int) (ca : Nat) (P : Plain.PI) : Array Value := #[.int .i64 (n : Int), .int .i64 (m : Int), .int .i64 sl, .int .i64 (ca : Int), .int .i64 (P.reached : Int), .bool P.loops, .bool P.hits, .int .i64 (P.queue : Int)]
def infoV (n m : Nat) (sl : Int) (ca : Nat) (P : Plain.PI) : Value := .agg (iC n m sl ca P)
def info0 : Value := .agg #[.int .i64 0, .int .i64 0, .int .i64 0, .int .i64 0, .int .i64 0, .bool false, .bool false, .int .i64 0]
theorem blk8 {w : World} {g : Nat} {a0 a1 a2 a3 a4 a5 a6 a7 : Value} {t : TypeId} (h : w.heap[g]? = some (.cells #[a0, a1, a2, a3, a4, a5, a6, a7] t (0, 0))) :
    (w.cell? ⟨g, 0, none⟩ = some a0 ∧ w.cell? ⟨g, 1, none⟩ = some a1 ∧ w.cell? ⟨g, 2, none⟩ = some a2 ∧ w.cell? ⟨g, 3, none⟩ = some a3 ∧ w.cell? ⟨g, 4, none⟩ = some a4 ∧ w.cell? ⟨g, 5, none⟩ = some a5 ∧ w.cell? ⟨g, 6, none⟩ = some a6 ∧ w.cell? ⟨g, 7, none⟩ = some a7) ∧
    (w.frozen? ⟨g, 0, none⟩ = false ∧ w.frozen? ⟨g, 1, none⟩ = false ∧ w.frozen? ⟨g, 2, none⟩ = false ∧ w.frozen? ⟨g, 3, none⟩ = false ∧ w.frozen? ⟨g, 4, none⟩ = false ∧ w.frozen? ⟨g, 5, none⟩ = false ∧ w.frozen? ⟨g, 6, none⟩ = false ∧ w.frozen? ⟨g, 7, none⟩ = false) :=
  ⟨⟨by rw [cell_of_row _ _ _ _ _ _ h]; rfl, by rw [cell_of_row _ _ _ _ _ _ h]; rfl, by rw [cell_of_row _ _ _ _ _ _ h]; rfl, by rw [cell_of_row _ _ _ _ _ _ h]; rfl, by rw [cell_of_row _ _ _ _ _ _ h]; rfl, by rw [cell_of_row _ _ _ _ _ _ h]; rfl, by rw [cell_of_row _ _ _ _ _ _ h]; rfl, by rw [cell_of_row _ _ _ _ _ _ h]; rfl⟩,
    blk_frozen h 0, blk_frozen h 1, blk_frozen h 2, blk_frozen h 3, blk_frozen h 4, blk_frozen h 5, blk_frozen h 6, blk_frozen h 7⟩
theorem SepB.store8 {W w : World} {l : List Th} {k : Nat} {x0 x1 x2 x3 x4 x5 x6 x7 : Value} {t : TypeId} (h : SepB W w (boxT k #[x0, x1, x2, x3, x4, x5, x6, x7] t :: l)) (a0 a1 a2 a3 a4 a5 a6 a7 : Value) :
    SepB W ((((((((w.setCell ⟨k, 0, none⟩ a0).setCell ⟨k, 1, none⟩ a1).setCell ⟨k, 2, none⟩ a2).setCell ⟨k, 3, none⟩ a3).setCell ⟨k, 4, none⟩ a4).setCell ⟨k, 5, none⟩ a5).setCell ⟨k, 6, none⟩ a6).setCell ⟨k, 7, none⟩ a7) (boxT k #[a0, a1, a2, a3, a4, a5, a6, a7] t :: l) := by
  have h0 : SepB W (w.setCell ⟨k, 0, none⟩ a0) (boxT k #[a0, x1, x2, x3, x4, x5, x6, x7] t :: l) := h.store 0 k #[x0, x1, x2, x3, x4, x5, x6, x7] t rfl 0 a0
  have h1 : SepB W ((w.setCell ⟨k, 0, none⟩ a0).setCell ⟨k, 1, none⟩ a1) (boxT k #[a0, a1, x2, x3, x4, x5, x6, x7] t :: l) := h0.store 0 k #[a0, x1, x2, x3, x4, x5, x6, x7] t rfl 1 a1
  have h2 : SepB W (((w.setCell ⟨k, 0, none⟩ a0).setCell ⟨k, 1, none⟩ a1).setCell ⟨k, 2, none⟩ a2) (boxT k #[a0, a1, a2, x3, x4, x5, x6, x7] t :: l) := h1.store 0 k #[a0, a1, x2, x3, x4, x5, x6, x7] t rfl 2 a2
  have h3 : SepB W ((((w.setCell ⟨k, 0, none⟩ a0).setCell ⟨k, 1, none⟩ a1).setCell ⟨k, 2, none⟩ a2).setCell ⟨k, 3, none⟩ a3) (boxT k #[a0, a1, a2, a3, x4, x5, x6, x7] t :: l) := h2.store 0 k #[a0, a1, a2, x3, x4, x5, x6, x7] t rfl 3 a3
  have h4 : SepB W (((((w.setCell ⟨k, 0, none⟩ a0).setCell ⟨k, 1, none⟩ a1).setCell ⟨k, 2, none⟩ a2).setCell ⟨k, 3, none⟩ a3).setCell ⟨k, 4, none⟩ a4) (boxT k #[a0, a1, a2, a3, a4, x5, x6, x7] t :: l) := h3.store 0 k #[a0, a1, a2, a3, x4, x5, x6, x7] t rfl 4 a4
  have h5 : SepB W ((((((w.setCell ⟨k, 0, none⟩ a0).setCell ⟨k, 1, none⟩ a1).setCell ⟨k, 2, none⟩ a2).setCell ⟨k, 3, none⟩ a3).setCell ⟨k, 4, none⟩ a4).setCell ⟨k, 5, none⟩ a5) (boxT k #[a0, a1, a2, a3, a4, a5, x6, x7] t :: l) := h4.store 0 k #[a0, a1, a2, a3, a4, x5, x6, x7] t rfl 5 a5
  have h6 : SepB W (((((((w.setCell ⟨k, 0, none⟩ a0).setCell ⟨k, 1, none⟩ a1).setCell ⟨k, 2, none⟩ a2).setCell ⟨k, 3, none⟩ a3).setCell ⟨k, 4, none⟩ a4).setCell ⟨k, 5, none⟩ a5).setCell ⟨k, 6, none⟩ a6) (boxT k #[a0, a1, a2, a3, a4, a5, a6, x7] t :: l) := h5.store 0 k #[a0, a1, a2, a3, a4, a5, x6, x7] t rfl 6 a6
  have h7 : SepB W ((((((((w.setCell ⟨k, 0, none⟩ a0).setCell ⟨k, 1, none⟩ a1).setCell ⟨k, 2, none⟩ a2).setCell ⟨k, 3, none⟩ a3).setCell ⟨k, 4, none⟩ a4).setCell ⟨k, 5, none⟩ a5).setCell ⟨k, 6, none⟩ a6).setCell ⟨k, 7, none⟩ a7) (boxT k #[a0, a1, a2, a3, a4, a5, a6, a7] t :: l) := h6.store 0 k #[a0, a1, a2, a3, a4, a5, a6, x7] t rfl 7 a7
  exact h7
/-- what lies apart stays where a map is turned -/
theorem SepB.map {W w w' : World} {l : List Th} {b : Nat} {s : Nat → Nat} (h : SepB W w l) (hS : SeenAt w b s) (hg : w.grownBy w' (some b)) (hb : W.heap.size ≤ b) : SepB W w' l := by
  have hne : ∀ T ∈ l, T.blk ≠ some b := fun T hT e => by
    have ho := h.1.1 T hT
    obtain ⟨D, ⟨es, cl, hm, _⟩, _⟩ := hS
    unfold Th.ok at ho
    unfold Th.blk at e
    split at ho
    · rename_i hd
      rw [if_pos hd] at e
      injection e with e
      rw [e, hm] at ho
      exact absurd ho.2 (by simp)
    · rename_i hd
      rw [if_neg hd] at e
      rcases ho.2 with ⟨hv, _⟩ | ⟨g, cap, cur, hv, _, hh, _⟩
      · rw [hv] at e; cases e
      · rw [hv] at e
        injection e with e
        have e : g = b := e
        rw [e, hm] at hh
        cases hh
  exact ⟨⟨fun T hT => th_kept (h.1.1 T hT) fun k hk => hg.block k (th_lt (h.1.1 T hT) k hk).2 (fun e => hne T hT (by rw [hk, e])), h.1.2⟩,
    ⟨hg.os.trans h.2.os, hg.tape.trans h.2.tape, hg.output.trans h.2.output, Nat.le_trans h.2.size hg.size, fun k hk => (hg.block k (Nat.lt_of_lt_of_le hk h.2.size) (fun e => by injection e with e; omega)).trans (h.2.block k hk)⟩⟩
/-- a box that is written is no map -/
theorem SeenAt.box {w w' : World} {b k : Nat} {s : Nat → Nat} {cs : Array Value} {t : TypeId} (h : SeenAt w b s) (hk : w.heap[k]? = some (.cells cs t (0, 0))) (hg : w.grownBy w' (some k)) : SeenAt w' b s := by
  refine h.gr hg ?_
  rintro rfl
  obtain ⟨D, ⟨es, cl, hm, _⟩, _⟩ := h
  rw [hk] at hm; cases hm
def CutP (w : World) (pb qb : Nat) (p i z : Array Value) (y : Value) (wx : World) : Prop := ∃ ib, y = .pointer (some ⟨ib, 0, none⟩) ∧ SepB w wx [boxT ib i 54, boxT pb p 25, boxT qb z 54]
def ProgRes (L : List In4) (m : Nat) (g : Int) (w : World) (e : Ending) (w' : World) : Prop :=
  ∃ O : Nat → Bool, (∀ k, k < L.length → (O k = true ↔ Rch L k)) ∧ (∀ k, L.length ≤ k → O k = false) ∧ e = .returned (.tuple #[infoV L.length m (slotsOf g) (cntA L) (Plain.piOf L O L.length), .int .i64 0]) ∧ Below w.heap.size w w'
set_option maxRecDepth 1000000 in
set_option maxHeartbeats 8000000 in
theorem program_not (I C : Option Addr) (L : List In4) (K : List Cs) (c d : Nat) (g : Int) (w : World) (hP : PgAt w I L C K) (h : pgR L K g = false) :
    Calls Tryz.prog 38 #[pgV I L.length c C K.length d g] w fun e w' => e = .returned (.tuple #[info0, .int .i64 11]) ∧ Below w.heap.size w w' := by
  have hb0 : Below w.heap.size w ((w.alloc (.cells #[.slice I L.length c, .slice C K.length d, .int .i64 g] 25)).alloc (.cells #[.int .i64 0, .int .i64 0, .int .i64 0, .int .i64 0, .int .i64 0, .bool false, .bool false, .int .i64 0] 54)) := below_alloc (below_alloc (Below.refl _ _) _) _
  have cR := prright_any I C L K c d g _ (hP.below hb0)
  rw [h] at cR
  have hq := ((SepB.nil w).alloc (.cells #[.slice I L.length c, .slice C K.length d, .int .i64 g] 25)).new #[.int .i64 0, .int .i64 0, .int .i64 0, .int .i64 0, .int .i64 0, .bool false, .bool false, .int .i64 0] 54 (.cells #[.int .i64 0, .int .i64 0, .int .i64 0, .int .i64 0, .int .i64 0, .bool false, .bool false, .int .i64 0] 54)
  rw [show (w.alloc (.cells #[.slice I L.length c, .slice C K.length d, .int .i64 g] 25)).heap.size = w.heap.size + 1 by simp] at hq
  unfold pgV at cR ⊢
  have CR := Lib.hid cR
  have HQ := Lib.hid hq
  clear cR hP h hb0 hq
  go_enter Tryz.func38, Tryz.ntmps38
  go_wp2_with fail
  refine CR.out.mono ?_
  rintro _ w1 ⟨rfl, hb⟩
  have hq := HQ.out.below hb
  obtain ⟨⟨x0, x1, x2, x3, x4, x5, x6, x7⟩, f0, f1, f2, f3, f4, f5, f6, f7⟩ := blk8 (hq.box 0 _ _ _ rfl).2
  have HS := Lib.hid (hq.store8 (.int .i64 0) (.int .i64 0) (.int .i64 0) (.int .i64 0) (.int .i64 0) (.bool false) (.bool false) (.int .i64 0))
  clear hq hb
  go_wp2
  obtain ⟨⟨k0, k1, k2, k3, k4, k5, k6, k7⟩, _⟩ := blk8 (HS.out.box 0 _ _ _ rfl).2
  exact bodyPost_ret (v := .tuple #[info0, .int .i64 11]) (by simp [results, Tryz.results38, go_sem, k0, k1, k2, k3, k4, k5, k6, k7, info0]) rfl ⟨rfl, HS.out.2⟩
set_option maxRecDepth 1000000 in
set_option maxHeartbeats 16000000 in
theorem program_yes (I C : Option Addr) (L : List In4) (K : List Cs) (c d : Nat) (g : Int) (w : World) (hP : PgAt w I L C K) (h : pgR L K g = true) :
    Calls Tryz.prog 38 #[pgV I L.length c C K.length d g] w (ProgRes L K.length g w) := by
  obtain ⟨hn0, hn512, _, _⟩ := pgR_facts h
  have hin := inR_of h
  have hb0 : Below w.heap.size w ((w.alloc (.cells #[.slice I L.length c, .slice C K.length d, .int .i64 g] 25)).alloc (.cells #[.int .i64 0, .int .i64 0, .int .i64 0, .int .i64 0, .int .i64 0, .bool false, .bool false, .int .i64 0] 54)) := below_alloc (below_alloc (Below.refl _ _) _) _
  have cR := prright_any I C L K c d g _ (hP.below hb0)
  rw [h] at cR
  have CL := Lib.hid (fun b s k W hI hS h2 hk => loops_any I C L c K.length d g b hn512 hin 600 s k W hI hS h2 hk (by have := Plain.uns_le L.length s; omega))
  have CS := Lib.hid (fun W => slots_any I C L.length c K.length d g W)
  have CA := Lib.hid (fun W (hb : Below w.heap.size w W) => asserts_any I C L K c d g W (hP.below hb))
  have CH := Lib.hid (fun W (hb : Below w.heap.size w W) => reach_any I C L K c d g W (hP.below hb) (by omega))
  have HI := Lib.hid (fun W (hb : Below w.heap.size w W) => (hP.below hb).insts)
  have hq := ((SepB.nil w).new #[.slice I L.length c, .slice C K.length d, .int .i64 g] 25 (.cells #[.slice I L.length c, .slice C K.length d, .int .i64 g] 25)).new #[.int .i64 0, .int .i64 0, .int .i64 0, .int .i64 0, .int .i64 0, .bool false, .bool false, .int .i64 0] 54 (.cells #[.int .i64 0, .int .i64 0, .int .i64 0, .int .i64 0, .int .i64 0, .bool false, .bool false, .int .i64 0] 54)
  rw [show (w.alloc (.cells #[.slice I L.length c, .slice C K.length d, .int .i64 g] 25)).heap.size = w.heap.size + 1 by simp] at hq
  unfold pgV at cR CL CS CA CH ⊢
  obtain ⟨sl, hsl⟩ : ∃ x, slotsOf g = x := ⟨_, rfl⟩
  obtain ⟨ca, hca⟩ : ∃ x, cntA L = x := ⟨_, rfl⟩
  rw [hsl] at CS
  rw [hca] at CA
  unfold ReachRes at CH
  obtain ⟨m, hm⟩ : ∃ x, K.length = x := ⟨_, rfl⟩
  obtain ⟨n, hn⟩ : ∃ x, L.length = x := ⟨_, rfl⟩
  rw [hn] at hn0 hn512
  rw [hm, hn] at cR CL CS CA CH hq ⊢
  have HN := Lib.hid hn
  have HSL := Lib.hid hsl
  have HCA := Lib.hid hca
  have CR := Lib.hid cR
  have HQ := Lib.hid hq
  obtain ⟨pb, hpb⟩ : ∃ x, w.heap.size = x := ⟨_, rfl⟩
  rw [hpb] at HQ
  have HPB := Lib.hid hpb
  clear cR hP h hb0 hq hm hn hsl hca hin hpb
  go_enter Tryz.func38, Tryz.ntmps38
  go_wp2_with fail
  rw [HPB.out]
  refine CR.out.mono ?_
  rintro _ w2 ⟨rfl, hb⟩
  have HS := Lib.hid (HQ.out.below hb)
  clear hb
  go_upto_region 3 with fail
  go_cut [4] (fun y wx => CutP w pb (pb + 1) #[.slice I n c, .slice C m d, .int .i64 g] #[.int .i64 (n : Int), .int .i64 (m : Int), .int .i64 sl, .int .i64 (ca : Int), .int .i64 0, .bool false, .bool false, .int .i64 0] #[.int .i64 0, .int .i64 0, .int .i64 0, .int .i64 0, .int .i64 0, .bool false, .bool false, .int .i64 0] y wx)
  case first =>
    obtain ⟨wd, hwd⟩ : ∃ W0, w2.drew = W0 := ⟨_, rfl⟩
    have hs := HS.out.drew
    rw [hwd] at hs
    have HSD := Lib.hid hs
    have HBD := Lib.hid (Below.refl wd.heap.size wd)
    have HF := Lib.hid (fun (w' : World) (h : Below wd.heap.size wd w') => blk_cells3 (blk_later (hs.box 1 _ _ _ rfl).2 h))
    have HBW := Lib.hid (fun (w' : World) (h : Below wd.heap.size wd w') => (hs.below h).2)
    clear hs HS
    refine wp_region_noPanic ?_
    refine wp_region_T 12 (S := fun w' : World => Below wd.heap.size wd w') (by kernel_rfl) (by decide) ?_
    rw [hwd]
    clear hwd
    refine wpAnyT_take2 0 (v := ?tvt1) (by kernel_rfl) rfl (by kernel_rfl) (fun _ _ _ h => h) (Or.inl ⟨by rfl, ?tyt1⟩) HBD.out ?trt1
    case tyt1 => (intro w' hSw; (try dsimp only at hSw); go_simp; try with_reducible rfl)
    try simp only [Act.put, List.setIfInBounds_toArray, List.set_cons_zero, List.set_cons_succ]
    refine wpAnyT_take2 1 (v := ?tvt2) (by kernel_rfl) rfl (by kernel_rfl) (fun _ _ _ h => h) (Or.inl ⟨by rfl, ?tyt2⟩) HBD.out ?trt2
    case tyt2 => (intro w' hSw; obtain ⟨p0, p1, p2⟩ := HF.out w' hSw; (try dsimp only at hSw); go_simp; try with_reducible rfl)
    try simp only [Act.put, List.setIfInBounds_toArray, List.set_cons_zero, List.set_cons_succ]
    refine wpAnyT_take2 2 (v := ?tvt3) (by kernel_rfl) rfl (by kernel_rfl) (fun _ _ _ h => h) (Or.inl ⟨by rfl, ?tyt3⟩) HBD.out ?trt3
    case tyt3 => (intro w' hSw; (try dsimp only at hSw); go_simp; try with_reducible rfl)
    try simp only [Act.put, List.setIfInBounds_toArray, List.set_cons_zero, List.set_cons_succ]
    refine wpAnyT_take2 3 (v := ?tvt4) (by kernel_rfl) rfl (by kernel_rfl) (fun _ _ _ h => h) (Or.inl ⟨by rfl, ?tyt4⟩) HBD.out ?trt4
    case tyt4 => (intro w' hSw; (try dsimp only at hSw); go_simp; try with_reducible rfl)
    try simp only [Act.put, List.setIfInBounds_toArray, List.set_cons_zero, List.set_cons_succ]
    refine wpAnyT_take2 4 (v := ?tvt5) (by kernel_rfl) rfl (by kernel_rfl) (fun _ _ _ h => h) (Or.inl ⟨by rfl, ?tyt5⟩) HBD.out ?trt5
    case tyt5 => (intro w' hSw; obtain ⟨p0, p1, p2⟩ := HF.out w' hSw; (try dsimp only at hSw); go_simp; try with_reducible rfl)
    try simp only [Act.put, List.setIfInBounds_toArray, List.set_cons_zero, List.set_cons_succ]
    refine wpAnyT_take2 5 (v := ?tvt6) (by kernel_rfl) rfl (by kernel_rfl) (fun _ _ _ h => h) (Or.inl ⟨by rfl, ?tyt6⟩) HBD.out ?trt6
    case tyt6 => (intro w' hSw; (try dsimp only at hSw); go_simp; try with_reducible rfl)
    try simp only [Act.put, List.setIfInBounds_toArray, List.set_cons_zero, List.set_cons_succ]
    refine wpAnyT_take2 6 (v := ?tvt7) (by kernel_rfl) rfl (by kernel_rfl) (fun _ _ _ h => h) (Or.inl ⟨by rfl, ?tyt7⟩) HBD.out ?trt7
    case tyt7 => (intro w' hSw; obtain ⟨p0, p1, p2⟩ := HF.out w' hSw; (try dsimp only at hSw); go_simp; try with_reducible rfl)
    try simp only [Act.put, List.setIfInBounds_toArray, List.set_cons_zero, List.set_cons_succ]
    refine wpAnyT_take2 8 (v := ?tvt8) (by kernel_rfl) rfl (by kernel_rfl) (fun _ _ _ h => h) (Or.inl ⟨by rfl, ?tyt8⟩) HBD.out ?trt8
    case tyt8 => (intro w' hSw; obtain ⟨p0, p1, p2⟩ := HF.out w' hSw; (try dsimp only at hSw); go_simp; try with_reducible rfl)
    try simp only [Act.put, List.setIfInBounds_toArray, List.set_cons_zero, List.set_cons_succ]
    refine wpAnyT_all [7, 11] (by kernel_rfl) (by decide) (fun i hi => ?_)
    simp only [List.mem_cons, List.not_mem_nil, or_false] at hi
    rcases hi with rfl | rfl
    · refine ⟨_, (by rfl), fun K' hK' => ?_⟩
      rw [if_pos (by rfl)]
      have HK := Lib.hid hK'
      clear hK'
      go_wp2_with (go_at_call 76; refine (CS.out _).mono ?_; rintro et9 wt9 ⟨rfl, hb⟩)
      have HBt9 := Lib.hid (below_then HBD.out hb)
      clear hb
      refine HK.out _ _ ⟨HBt9.out, ?_⟩
      clear HK K'
      try simp only [Act.put, List.setIfInBounds_toArray, List.set_cons_zero, List.set_cons_succ]
      refine wpAnyT_all [9, 11] (by kernel_rfl) (by decide) (fun i hi => ?_)
      simp only [List.mem_cons, List.not_mem_nil, or_false] at hi
      rcases hi with rfl | rfl
      · refine ⟨_, (by rfl), fun K' hK' => ?_⟩
        rw [if_pos (by rfl)]
        have HK := Lib.hid hK'
        clear hK'
        go_wp2_with (go_at_call 77; refine (CA.out _ (HBW.out _ HBt9.out)).mono ?_; rintro et10 wt10 ⟨rfl, hb⟩)
        have HBt10 := Lib.hid (below_then HBt9.out hb)
        clear hb
        refine HK.out _ _ ⟨HBt10.out, ?_⟩
        clear HK K'
        try simp only [Act.put, List.setIfInBounds_toArray, List.set_cons_zero, List.set_cons_succ]
        refine wpAnyT_take2 10 (v := ?tvt11) (by kernel_rfl) rfl (by kernel_rfl) (fun _ _ _ h => h) (Or.inl ⟨by rfl, ?tyt11⟩) HBt10.out ?trt11
        case tyt11 => (intro w' hSw; (try dsimp only at hSw); go_simp; try with_reducible rfl)
        try simp only [Act.put, List.setIfInBounds_toArray, List.set_cons_zero, List.set_cons_succ]
        refine wpAnyT_one2 11 rfl (by kernel_rfl) ?_
        intro K' hK'
        rw [if_pos (by rfl)]
        have HK := Lib.hid hK'
        clear hK'
        have hnew := heap_alloc_new2 wt10 (.cells #[.int .i64 0, .int .i64 0, .int .i64 0, .int .i64 0, .int .i64 0, .bool false, .bool false, .int .i64 0] 54) wt10.heap.size _ rfl
        go_simp
        have HBt12 := Lib.hid (below_alloc HBt10.out (.cells #[.int .i64 0, .int .i64 0, .int .i64 0, .int .i64 0, .int .i64 0, .bool false, .bool false, .int .i64 0] 54))
        have hle := HBt10.out.size
        refine HK.out _ _ ⟨HBt12.out, ?_⟩
        clear HK K'
        try simp only [Act.put, List.setIfInBounds_toArray, List.set_cons_zero, List.set_cons_succ]
        obtain ⟨wt12, hwt12⟩ : ∃ W0, wt10.alloc (.cells #[.int .i64 0, .int .i64 0, .int .i64 0, .int .i64 0, .int .i64 0, .bool false, .bool false, .int .i64 0] 54) = W0 := ⟨_, rfl⟩
        obtain ⟨ib, hib⟩ : ∃ x, wt10.heap.size = x := ⟨_, rfl⟩
        rw [hwt12] at hnew HBt12 ⊢
        rw [hib] at hnew hle ⊢
        have Hibt12 := Lib.hid hnew
        have HLE := Lib.hid hle
        clear hnew hwt12 hib hle
        refine ⟨by kernel_rfl, ?_⟩
        change wpList _ _ _ [_] _ _
        have hs := HSD.out.below HBt12.out
        have hs2 : SepB w wt12 [boxT ib #[.int .i64 0, .int .i64 0, .int .i64 0, .int .i64 0, .int .i64 0, .bool false, .bool false, .int .i64 0] 54, boxT (pb + 1) #[.int .i64 0, .int .i64 0, .int .i64 0, .int .i64 0, .int .i64 0, .bool false, .bool false, .int .i64 0] 54, boxT pb #[.slice I n c, .slice C m d, .int .i64 g] 25] := ⟨HSD.out.1.cons HBt12.out (boxT ib #[.int .i64 0, .int .i64 0, .int .i64 0, .int .i64 0, .int .i64 0, .bool false, .bool false, .int .i64 0] 54) (ok_box.2 ⟨Nat.le_trans HSD.out.2.size HLE.out, Hibt12.out⟩) (fun k hk => by rw [blk_box] at hk; injection hk with hk; rw [← hk]; exact HLE.out), hs.2⟩
        obtain ⟨⟨x0, x1, x2, x3, x4, x5, x6, x7⟩, f0, f1, f2, f3, f4, f5, f6, f7⟩ := blk8 (hs2.box 0 _ _ _ rfl).2
        have hs3 := hs2.store8 (.int .i64 (n : Int)) (.int .i64 (m : Int)) (.int .i64 sl) (.int .i64 (ca : Int)) (.int .i64 0) (.bool false) (.bool false) (.int .i64 0)
        have HS3 := Lib.hid (hs3.perm (.cons _ (.swap _ _ _)))
        clear hs hs2 hs3
        go_wp2
        refine NoPanic.normal ?_
        go_wp2
        go_meet
        case rel => exact ⟨_, rfl, HS3.out⟩
      · refine ⟨_, (by rfl), fun K' hK' => ?_⟩
        rw [if_pos (by rfl)]
        have HK := Lib.hid hK'
        clear hK'
        have hnew := heap_alloc_new2 wt9 (.cells #[.int .i64 0, .int .i64 0, .int .i64 0, .int .i64 0, .int .i64 0, .bool false, .bool false, .int .i64 0] 54) wt9.heap.size _ rfl
        go_simp
        have HBt13 := Lib.hid (below_alloc HBt9.out (.cells #[.int .i64 0, .int .i64 0, .int .i64 0, .int .i64 0, .int .i64 0, .bool false, .bool false, .int .i64 0] 54))
        have hle := HBt9.out.size
        refine HK.out _ _ ⟨HBt13.out, ?_⟩
        clear HK K'
        try simp only [Act.put, List.setIfInBounds_toArray, List.set_cons_zero, List.set_cons_succ]
        obtain ⟨wt13, hwt13⟩ : ∃ W0, wt9.alloc (.cells #[.int .i64 0, .int .i64 0, .int .i64 0, .int .i64 0, .int .i64 0, .bool false, .bool false, .int .i64 0] 54) = W0 := ⟨_, rfl⟩
        obtain ⟨ib, hib⟩ : ∃ x, wt9.heap.size = x := ⟨_, rfl⟩
        rw [hwt13] at hnew HBt13 ⊢
        rw [hib] at hnew hle ⊢
        have Hibt13 := Lib.hid hnew
        have HLE := Lib.hid hle
        clear hnew hwt13 hib hle
        refine wpAnyT_one2 9 rfl (by kernel_rfl) ?_
        intro K' hK'
        rw [if_pos (by rfl)]
        have HK := Lib.hid hK'
        clear hK'
        go_wp2_with (go_at_call 77; refine (CA.out _ (HBW.out _ HBt13.out)).mono ?_; rintro et14 wt14 ⟨rfl, hb⟩)
        have HBt14 := Lib.hid (below_then HBt13.out hb)
        have Hibt14 := Lib.hid (blk_later Hibt13.out hb)
        clear hb
        refine HK.out _ _ ⟨HBt14.out, ?_⟩
        clear HK K'
        try simp only [Act.put, List.setIfInBounds_toArray, List.set_cons_zero, List.set_cons_succ]
        refine wpAnyT_take2 10 (v := ?tvt15) (by kernel_rfl) rfl (by kernel_rfl) (fun _ _ _ h => h) (Or.inl ⟨by rfl, ?tyt15⟩) HBt14.out ?trt15
        case tyt15 => (intro w' hSw; (try dsimp only at hSw); go_simp; try with_reducible rfl)
        try simp only [Act.put, List.setIfInBounds_toArray, List.set_cons_zero, List.set_cons_succ]
        refine ⟨by kernel_rfl, ?_⟩
        change wpList _ _ _ [_] _ _
        have hs := HSD.out.below HBt14.out
        have hs2 : SepB w wt14 [boxT ib #[.int .i64 0, .int .i64 0, .int .i64 0, .int .i64 0, .int .i64 0, .bool false, .bool false, .int .i64 0] 54, boxT (pb + 1) #[.int .i64 0, .int .i64 0, .int .i64 0, .int .i64 0, .int .i64 0, .bool false, .bool false, .int .i64 0] 54, boxT pb #[.slice I n c, .slice C m d, .int .i64 g] 25] := ⟨HSD.out.1.cons HBt14.out (boxT ib #[.int .i64 0, .int .i64 0, .int .i64 0, .int .i64 0, .int .i64 0, .bool false, .bool false, .int .i64 0] 54) (ok_box.2 ⟨Nat.le_trans HSD.out.2.size HLE.out, Hibt14.out⟩) (fun k hk => by rw [blk_box] at hk; injection hk with hk; rw [← hk]; exact HLE.out), hs.2⟩
        obtain ⟨⟨x0, x1, x2, x3, x4, x5, x6, x7⟩, f0, f1, f2, f3, f4, f5, f6, f7⟩ := blk8 (hs2.box 0 _ _ _ rfl).2
        have hs3 := hs2.store8 (.int .i64 (n : Int)) (.int .i64 (m : Int)) (.int .i64 sl) (.int .i64 (ca : Int)) (.int .i64 0) (.bool false) (.bool false) (.int .i64 0)
        have HS3 := Lib.hid (hs3.perm (.cons _ (.swap _ _ _)))
        clear hs hs2 hs3
        go_wp2
        refine NoPanic.normal ?_
        go_wp2
        go_meet
        case rel => exact ⟨_, rfl, HS3.out⟩
    · refine ⟨_, (by rfl), fun K' hK' => ?_⟩
      rw [if_pos (by rfl)]
      have HK := Lib.hid hK'
      clear hK'
      have hnew := heap_alloc_new2 wd (.cells #[.int .i64 0, .int .i64 0, .int .i64 0, .int .i64 0, .int .i64 0, .bool false, .bool false, .int .i64 0] 54) wd.heap.size _ rfl
      go_simp
      have HBt16 := Lib.hid (below_alloc HBD.out (.cells #[.int .i64 0, .int .i64 0, .int .i64 0, .int .i64 0, .int .i64 0, .bool false, .bool false, .int .i64 0] 54))
      have hle := HBD.out.size
      refine HK.out _ _ ⟨HBt16.out, ?_⟩
      clear HK K'
      try simp only [Act.put, List.setIfInBounds_toArray, List.set_cons_zero, List.set_cons_succ]
      obtain ⟨wt16, hwt16⟩ : ∃ W0, wd.alloc (.cells #[.int .i64 0, .int .i64 0, .int .i64 0, .int .i64 0, .int .i64 0, .bool false, .bool false, .int .i64 0] 54) = W0 := ⟨_, rfl⟩
      rw [hwt16] at hnew HBt16 ⊢
      have Hibt16 := Lib.hid hnew
      have HLE := Lib.hid (Nat.le_refl wd.heap.size)
      clear hnew hwt16 hle
      refine wpAnyT_one2 7 rfl (by kernel_rfl) ?_
      intro K' hK'
      rw [if_pos (by rfl)]
      have HK := Lib.hid hK'
      clear hK'
      go_wp2_with (go_at_call 76; refine (CS.out _).mono ?_; rintro et17 wt17 ⟨rfl, hb⟩)
      have HBt17 := Lib.hid (below_then HBt16.out hb)
      have Hibt17 := Lib.hid (blk_later Hibt16.out hb)
      clear hb
      refine HK.out _ _ ⟨HBt17.out, ?_⟩
      clear HK K'
      try simp only [Act.put, List.setIfInBounds_toArray, List.set_cons_zero, List.set_cons_succ]
      refine wpAnyT_one2 9 rfl (by kernel_rfl) ?_
      intro K' hK'
      rw [if_pos (by rfl)]
      have HK := Lib.hid hK'
      clear hK'
      go_wp2_with (go_at_call 77; refine (CA.out _ (HBW.out _ HBt17.out)).mono ?_; rintro et18 wt18 ⟨rfl, hb⟩)
      have HBt18 := Lib.hid (below_then HBt17.out hb)
      have Hibt18 := Lib.hid (blk_later Hibt17.out hb)
      clear hb
      refine HK.out _ _ ⟨HBt18.out, ?_⟩
      clear HK K'
      try simp only [Act.put, List.setIfInBounds_toArray, List.set_cons_zero, List.set_cons_succ]
      refine wpAnyT_take2 10 (v := ?tvt19) (by kernel_rfl) rfl (by kernel_rfl) (fun _ _ _ h => h) (Or.inl ⟨by rfl, ?tyt19⟩) HBt18.out ?trt19
      case tyt19 => (intro w' hSw; (try dsimp only at hSw); go_simp; try with_reducible rfl)
      try simp only [Act.put, List.setIfInBounds_toArray, List.set_cons_zero, List.set_cons_succ]
      refine ⟨by kernel_rfl, ?_⟩
      change wpList _ _ _ [_] _ _
      have hs := HSD.out.below HBt18.out
      have hs2 : SepB w wt18 [boxT wd.heap.size #[.int .i64 0, .int .i64 0, .int .i64 0, .int .i64 0, .int .i64 0, .bool false, .bool false, .int .i64 0] 54, boxT (pb + 1) #[.int .i64 0, .int .i64 0, .int .i64 0, .int .i64 0, .int .i64 0, .bool false, .bool false, .int .i64 0] 54, boxT pb #[.slice I n c, .slice C m d, .int .i64 g] 25] := ⟨HSD.out.1.cons HBt18.out (boxT wd.heap.size #[.int .i64 0, .int .i64 0, .int .i64 0, .int .i64 0, .int .i64 0, .bool false, .bool false, .int .i64 0] 54) (ok_box.2 ⟨Nat.le_trans HSD.out.2.size HLE.out, Hibt18.out⟩) (fun k hk => by rw [blk_box] at hk; injection hk with hk; rw [← hk]; exact HLE.out), hs.2⟩
      obtain ⟨⟨x0, x1, x2, x3, x4, x5, x6, x7⟩, f0, f1, f2, f3, f4, f5, f6, f7⟩ := blk8 (hs2.box 0 _ _ _ rfl).2
      have hs3 := hs2.store8 (.int .i64 (n : Int)) (.int .i64 (m : Int)) (.int .i64 sl) (.int .i64 (ca : Int)) (.int .i64 0) (.bool false) (.bool false) (.int .i64 0)
      have HS3 := Lib.hid (hs3.perm (.cons _ (.swap _ _ _)))
      clear hs hs2 hs3
      go_wp2
      refine NoPanic.normal ?_
      go_wp2
      go_meet
      case rel => exact ⟨_, rfl, HS3.out⟩
  case rest =>
    obtain ⟨ib, rfl, hS⟩ := hcut
    obtain ⟨w3, rfl⟩ : ∃ W0, W0 = wc := ⟨_, rfl⟩
    have HS := Lib.hid hS
    clear hS
    have hmm := @run_makeMap Tryz.prog
    go_upto_region 5 with fail
    clear hmm
    have hb4 : Below w3.heap.size w3 (w3.alloc (.map #[] 0)) := below_alloc (Below.refl _ _) _
    have hs4 := SeenAt.new w3
    obtain ⟨w4, hw4⟩ : ∃ W0, w3.alloc (.map #[] 0) = W0 := ⟨_, rfl⟩
    have HMB := Lib.hid HS.out.2.size
    obtain ⟨mb, hmb⟩ : ∃ x, w3.heap.size = x := ⟨_, rfl⟩
    rw [hw4] at hb4 hs4 ⊢
    have HS4 := Lib.hid (HS.out.below hb4)
    rw [hmb] at hs4 HMB ⊢
    have HM4 := Lib.hid hs4
    clear hw4 hb4 hs4 hmb HS
    obtain ⟨p0, p1, p2⟩ := blk_cells3 (HS4.out.box 1 _ _ _ rfl).2
    go_wp2_with fail
    refine (CH.out _ HS4.out.2).mono ?_
    rintro _ w5 ⟨gO, O, rfl, hOl, hO, hR, hb⟩
    have HS5 := Lib.hid (HS4.out.below hb)
    have HM5 := Lib.hid (HM4.out.below hb)
    have HO := Lib.hid hO
    have HR := Lib.hid hR
    have HOL := Lib.hid hOl
    clear hb hO hR hOl p0 p1 p2 HS4 HM4
    go_wp2_with fail
    obtain ⟨Of, hOf⟩ : ∃ F : Nat → Bool, (fun k => O.getD k false) = F := ⟨_, rfl⟩
    have HOF := Lib.hid hOf
    clear hOf
    go_loopw [27] (fun i wr => ∃ k : Nat, k ≤ n ∧ i = .int .i64 k ∧ SepB w wr [boxT ib (iC n m sl ca (Plain.piOf L Of k)) 54, boxT pb #[.slice I n c, .slice C m d, .int .i64 g] 25, boxT (pb + 1) #[.int .i64 0, .int .i64 0, .int .i64 0, .int .i64 0, .int .i64 0, .bool false, .bool false, .int .i64 0] 54] ∧ SeenAt wr mb (Plain.piOf L Of k).seen ∧ wr.heap[gO]? = some (.cells (bls O) 4 (0, 0))) (fun i _ => n - (RowKit.intOf i).toNat)
    case atStart => exact ⟨0, Nat.zero_le _, rfl, HS5.out, HM5.out, HO.out⟩
    case round =>
      obtain ⟨w6, rfl⟩ : ∃ W0, W0 = wr := ⟨_, rfl⟩
      obtain ⟨k, hk, rfl, hS, hM, hO⟩ := hrel
      have hfine := Plain.piOf_fine L Of k
      have hsu := Plain.piOf_succ L Of k
      obtain ⟨⟨r, lo, hi, qu, se⟩, hP⟩ : ∃ P, Plain.piOf L Of k = P := ⟨_, rfl⟩
      rw [hP] at hS hM hfine hsu
      unfold iC at hS
      dsimp only at hS hM hfine
      obtain ⟨hr, hqr, _, hse⟩ := hfine
      have HS6 := Lib.hid hS
      have HM6 := Lib.hid hM
      have HO6 := Lib.hid hO
      by_cases hlt : k < n
      · have hkL : k < L.length := by rw [HN.out]; exact hlt
        have hz := hO
        obtain ⟨oz, hoz⟩ : ∃ x, O.getD k false = x := ⟨_, rfl⟩
        have z0 : w6.cell? ⟨gO, k, none⟩ = some (.bool oz) := by
          rw [cell_of_row _ _ _ _ _ _ hO, ← hoz]
          have hkO : k < O.length := by rw [HOL.out]; exact hlt
          simp [bls, List.getD, List.getElem?_eq_getElem hkO]
        have hofk : Of k = oz := by rw [← HOF.out]; exact hoz
        have HSU := Lib.hid hsu
        clear hS hM hO hsu hz hoz hP
        obtain ⟨⟨y0, y1, y2, y3, y4, y5, y6, y7⟩, f0, f1, f2, f3, f4, f5, f6, f7⟩ := blk8 (HS6.out.box 0 _ _ _ rfl).2
        cases oz
        · have hst : Plain.piOf L Of (k + 1) = ⟨r, lo, hi, qu, se⟩ := by rw [HSU.out]; unfold Plain.piStep; rw [if_neg (by rw [hofk]; decide)]
          have HST := Lib.hid hst
          clear hst hofk
          go_wp2
          go_roundw
          case rel => exact ⟨k + 1, by omega, by go_num, by rw [HST.out]; exact HS6.out, by rw [HST.out]; exact HM6.out, HO6.out⟩
          case measure => simp [RowKit.intOf]; omega
        · obtain ⟨ibk, off, hIe, hib, c0, _⟩ := i4_at (HI.out w6 HS6.out.2) k hkL
          rw [← Plain.getD_lt L (0, 0, 0, 0) k hkL] at c0
          obtain ⟨⟨op, x, yy, ar⟩, ht⟩ : ∃ t, L.getD k (0, 0, 0, 0) = t := ⟨_, rfl⟩
          have hstp : Plain.piOf L Of (k + 1) = if op = 0 then ⟨r + 1, lo, true, qu + 1, se⟩ else if op = 1 then ⟨r + 1, lo, hi, qu + 1, se⟩ else if lo = true then ⟨r + 1, true, hi, qu, se⟩ else ⟨r + 1, (Plain.lp L 600 se k).1, hi, qu, (Plain.lp L 600 se k).2⟩ := by
            rw [HSU.out]; unfold Plain.piStep; rw [if_pos hofk, ht]
          have HSTP := Lib.hid hstp
          rw [ht] at c0
          dsimp only at c0
          have HIE := Lib.hid hIe
          have HC0 := Lib.hid c0
          have HHIB := Lib.hid hib
          have hneO : gO ≠ ib := by
            rintro rfl
            have h1 := HO6.out
            rw [(HS6.out.box 0 _ _ _ rfl).2] at h1
            simp at h1
          have hneI : ibk ≠ ib := by
            have := (HS6.out.box 0 _ _ _ rfl).1
            have h2 := HI.out w (Below.refl _ _)
            obtain ⟨b2, o2, he2, hb2, _⟩ := i4_at h2 k hkL
            rw [hIe] at he2
            injection he2 with he2
            injection he2 with he2 _
            omega
          have hs7 := HS6.out.store 0 ib _ 54 rfl 4 (.int .i64 ((r : Int) + 1))
          have hm7 := HM6.out.box (HS6.out.box 0 _ _ _ rfl).2 (gr_set w6 ib 4 (.int .i64 ((r : Int) + 1)))
          have ho7 := gr_blk (gr_set w6 ib 4 (.int .i64 ((r : Int) + 1))) HO6.out hneO
          clear hstp hIe hofk ht c0 hib
          go_upto_region 10 with fail
          clear y0 y1 y2 y3 y4 y5 y6 y7 f0 f1 f2 f3 f4 f5 f6 f7 z0
          obtain ⟨w7, hw7⟩ : ∃ W0, w6.setCell ⟨ib, 4, none⟩ (.int .i64 ((r : Int) + 1)) = W0 := ⟨_, rfl⟩
          rw [hw7] at hs7 hm7 ho7 ⊢
          have HS7 := Lib.hid (show SepB w w7 [boxT ib #[.int .i64 (n : Int), .int .i64 (m : Int), .int .i64 sl, .int .i64 (ca : Int), .int .i64 ((r : Int) + 1), .bool lo, .bool hi, .int .i64 (qu : Int)] 54, boxT pb #[.slice I n c, .slice C m d, .int .i64 g] 25, boxT (pb + 1) #[.int .i64 0, .int .i64 0, .int .i64 0, .int .i64 0, .int .i64 0, .bool false, .bool false, .int .i64 0] 54] from hs7)
          have HM7 := Lib.hid hm7
          have HO7 := Lib.hid ho7
          have c0 : w7.cell? ⟨ibk, off + k * 4, none⟩ = some (.int .i64 op) := by
            obtain ⟨b2, o2, he2, hb2, cc, _⟩ := i4_at (HI.out w7 HS7.out.2) k hkL
            rw [HIE.out] at he2
            injection he2 with he2
            injection he2 with e1 e2
            subst e1 e2
            have h3 := HC0.out
            have h4 := (HS6.out.2.cell (p := ⟨ibk, off + k * 4, none⟩))
            rw [← hw7, World.cell?_of_block (heap_setCell_other w6 ⟨ib, 4, none⟩ ibk _ hneI)]
            exact h3
          clear hs7 hm7 ho7 hw7
          obtain ⟨⟨y0, y1, y2, y3, y4, y5, y6, y7⟩, f0, f1, f2, f3, f4, f5, f6, f7⟩ := blk8 (HS7.out.box 0 _ _ _ rfl).2
          obtain ⟨p0, p1, p2⟩ := blk_cells3 (HS7.out.box 1 _ _ _ rfl).2
          rw [HIE.out] at p0
          by_cases e0 : op = 0
          · subst e0
            have hst := HSTP.out
            rw [if_pos rfl] at hst
            have hs8 := (HS7.out.store 0 ib _ 54 rfl 6 (.bool true)).store 0 ib _ 54 rfl 7 (.int .i64 ((qu : Int) + 1))
            have hg8 : w7.grownBy ((w7.setCell ⟨ib, 6, none⟩ (.bool true)).setCell ⟨ib, 7, none⟩ (.int .i64 ((qu : Int) + 1))) (some ib) := gr_trans (gr_set _ _ _ _) (gr_set _ _ _ _)
            have hm8 := HM7.out.box (HS7.out.box 0 _ _ _ rfl).2 hg8
            have ho8 := gr_blk hg8 HO7.out hneO
            have hrel : SepB w ((w7.setCell ⟨ib, 6, none⟩ (.bool true)).setCell ⟨ib, 7, none⟩ (.int .i64 ((qu : Int) + 1))) [boxT ib (iC n m sl ca (Plain.piOf L Of (k + 1))) 54, boxT pb #[.slice I n c, .slice C m d, .int .i64 g] 25, boxT (pb + 1) #[.int .i64 0, .int .i64 0, .int .i64 0, .int .i64 0, .int .i64 0, .bool false, .bool false, .int .i64 0] 54] ∧ SeenAt ((w7.setCell ⟨ib, 6, none⟩ (.bool true)).setCell ⟨ib, 7, none⟩ (.int .i64 ((qu : Int) + 1))) mb (Plain.piOf L Of (k + 1)).seen ∧ ((w7.setCell ⟨ib, 6, none⟩ (.bool true)).setCell ⟨ib, 7, none⟩ (.int .i64 ((qu : Int) + 1))).heap[gO]? = some (.cells (bls O) 4 (0, 0)) := by
              rw [hst]; exact ⟨hs8, hm8, ho8⟩
            have HREL := Lib.hid hrel
            clear hst hs8 hg8 hm8 ho8 hrel hneO hneI
            go_wp2
            go_roundw
            case rel => exact ⟨k + 1, by omega, by go_num, HREL.out⟩
            case measure => simp [RowKit.intOf]; omega
          have d0 : (op == 0) = false := by simp [e0]
          by_cases e1 : op = 1
          · subst e1
            have hst := HSTP.out
            rw [if_neg (by decide), if_pos rfl] at hst
            have hs8 := (HS7.out.store 0 ib _ 54 rfl 7 (.int .i64 ((qu : Int) + 1)))
            have hg8 : w7.grownBy (w7.setCell ⟨ib, 7, none⟩ (.int .i64 ((qu : Int) + 1))) (some ib) := gr_set _ _ _ _
            have hm8 := HM7.out.box (HS7.out.box 0 _ _ _ rfl).2 hg8
            have ho8 := gr_blk hg8 HO7.out hneO
            have hrel : SepB w (w7.setCell ⟨ib, 7, none⟩ (.int .i64 ((qu : Int) + 1))) [boxT ib (iC n m sl ca (Plain.piOf L Of (k + 1))) 54, boxT pb #[.slice I n c, .slice C m d, .int .i64 g] 25, boxT (pb + 1) #[.int .i64 0, .int .i64 0, .int .i64 0, .int .i64 0, .int .i64 0, .bool false, .bool false, .int .i64 0] 54] ∧ SeenAt (w7.setCell ⟨ib, 7, none⟩ (.int .i64 ((qu : Int) + 1))) mb (Plain.piOf L Of (k + 1)).seen ∧ ((w7.setCell ⟨ib, 7, none⟩ (.int .i64 ((qu : Int) + 1)))).heap[gO]? = some (.cells (bls O) 4 (0, 0)) := by
              rw [hst]; exact ⟨hs8, hm8, ho8⟩
            have HREL := Lib.hid hrel
            clear hst hs8 hg8 hm8 ho8 hrel hneO hneI
            go_wp2
            go_roundw
            case rel => exact ⟨k + 1, by omega, by go_num, HREL.out⟩
            case measure => simp [RowKit.intOf]; omega
          have d1 : (op == 1) = false := by simp [e1]
          have hst0 := HSTP.out
          rw [if_neg e0, if_neg e1] at hst0
          have HST0 := Lib.hid hst0
          clear hst0 e0 e1
          cases lo
          case true =>
            have hst := HST0.out
            rw [if_pos rfl] at hst
            have hs8 := (HS7.out.store 0 ib _ 54 rfl 5 (.bool true))
            have hg8 : w7.grownBy (w7.setCell ⟨ib, 5, none⟩ (.bool true)) (some ib) := gr_set _ _ _ _
            have hm8 := HM7.out.box (HS7.out.box 0 _ _ _ rfl).2 hg8
            have ho8 := gr_blk hg8 HO7.out hneO
            have hrel : SepB w (w7.setCell ⟨ib, 5, none⟩ (.bool true)) [boxT ib (iC n m sl ca (Plain.piOf L Of (k + 1))) 54, boxT pb #[.slice I n c, .slice C m d, .int .i64 g] 25, boxT (pb + 1) #[.int .i64 0, .int .i64 0, .int .i64 0, .int .i64 0, .int .i64 0, .bool false, .bool false, .int .i64 0] 54] ∧ SeenAt (w7.setCell ⟨ib, 5, none⟩ (.bool true)) mb (Plain.piOf L Of (k + 1)).seen ∧ ((w7.setCell ⟨ib, 5, none⟩ (.bool true))).heap[gO]? = some (.cells (bls O) 4 (0, 0)) := by
              rw [hst]; exact ⟨hs8, hm8, ho8⟩
            have HREL := Lib.hid hrel
            clear hst hs8 hg8 hm8 ho8 hrel hneO hneI
            go_wp2
            go_roundw
            case rel => exact ⟨k + 1, by omega, by go_num, HREL.out⟩
            case measure => simp [RowKit.intOf]; omega
          case false =>
            obtain ⟨⟨r1, rs⟩, hra⟩ : ∃ R, Plain.lp L 600 se k = R := ⟨_, rfl⟩
            have hst := HST0.out
            rw [if_neg (by decide), hra] at hst
            dsimp only at hst
            have hse2 : ∀ j, se j ≤ 2 := fun j => by rcases hse j with e | e <;> omega
            have cl := CL.out mb se k w7 (HI.out w7 HS7.out.2) HM7.out hse2 hlt
            rw [hra] at cl
            rw [HIE.out] at cl
            have HCL := Lib.hid cl
            have HST := Lib.hid hst
            clear cl hst hse2 hra
            go_wp2_with fail
            refine HCL.out.mono ?_
            rintro _ w8 ⟨rfl, hm8, hg8⟩
            have hs8 := HS7.out.map HM7.out hg8 (Nat.le_trans HMB.out (Nat.le_refl _))
            have hneM : gO ≠ mb := by
              rintro rfl
              obtain ⟨D, ⟨es, cl, hmm, _⟩, _⟩ := HM7.out
              rw [HO7.out] at hmm; cases hmm
            have ho8 := gr_blk hg8 HO7.out hneM
            have HS8 := Lib.hid hs8
            have HM8 := Lib.hid hm8
            have HO8 := Lib.hid ho8
            clear hs8 hm8 ho8 hg8 y0 y1 y2 y3 y4 y5 y6 y7 f0 f1 f2 f3 f4 f5 f6 f7 p0 p1 p2 c0 hneM
            dsimp only at HM8
            obtain ⟨⟨y0, y1, y2, y3, y4, y5, y6, y7⟩, f0, f1, f2, f3, f4, f5, f6, f7⟩ := blk8 (HS8.out.box 0 _ _ _ rfl).2
            have hst := HST.out
            have hs8 := (HS8.out.store 0 ib _ 54 rfl 5 (.bool r1))
            have hg8 : w8.grownBy (w8.setCell ⟨ib, 5, none⟩ (.bool r1)) (some ib) := gr_set _ _ _ _
            have hm8 := HM8.out.box (HS8.out.box 0 _ _ _ rfl).2 hg8
            have ho8 := gr_blk hg8 HO8.out hneO
            have hrel : SepB w (w8.setCell ⟨ib, 5, none⟩ (.bool r1)) [boxT ib (iC n m sl ca (Plain.piOf L Of (k + 1))) 54, boxT pb #[.slice I n c, .slice C m d, .int .i64 g] 25, boxT (pb + 1) #[.int .i64 0, .int .i64 0, .int .i64 0, .int .i64 0, .int .i64 0, .bool false, .bool false, .int .i64 0] 54] ∧ SeenAt (w8.setCell ⟨ib, 5, none⟩ (.bool r1)) mb (Plain.piOf L Of (k + 1)).seen ∧ ((w8.setCell ⟨ib, 5, none⟩ (.bool r1))).heap[gO]? = some (.cells (bls O) 4 (0, 0)) := by
              rw [hst]; exact ⟨hs8, hm8, ho8⟩
            have HREL := Lib.hid hrel
            clear hst hs8 hg8 hm8 ho8 hrel hneO hneI
            go_wp2
            go_roundw
            case rel => exact ⟨k + 1, by omega, by go_num, HREL.out⟩
            case measure => simp [RowKit.intOf]; omega
      · obtain rfl : n = k := by omega
        have hf : (∀ k, k < L.length → (Of k = true ↔ Rch L k)) ∧ (∀ k, L.length ≤ k → Of k = false) := by
          refine ⟨fun k hk => ?_, fun k hk => ?_⟩
          · rw [← HOF.out]; exact HR.out k (by rw [← HN.out]; exact hk)
          · rw [← HOF.out]
            show O.getD k false = false
            rw [List.getD_eq_getElem?_getD, List.getElem?_eq_none (by rw [HOL.out, ← HN.out]; exact hk)]; rfl
        have hq := hS.perm (List.Perm.trans (.cons _ (.swap _ _ _)) (.swap _ _ _))
        obtain ⟨⟨x0, x1, x2, x3, x4, x5, x6, x7⟩, g0, g1, g2, g3, g4, g5, g6, g7⟩ := blk8 (hq.box 0 _ _ _ rfl).2
        obtain ⟨⟨y0, y1, y2, y3, y4, y5, y6, y7⟩, _⟩ := blk8 (hq.box 1 _ _ _ rfl).2
        have HS9 := Lib.hid (hq.store8 (.int .i64 (n : Int)) (.int .i64 (m : Int)) (.int .i64 sl) (.int .i64 (ca : Int)) (.int .i64 (r : Int)) (.bool lo) (.bool hi) (.int .i64 (qu : Int)))
        have HFF := Lib.hid hf
        have HPP := Lib.hid hP
        clear hS hM hO hsu hP hq hf
        go_wp2
        obtain ⟨⟨k0, k1, k2, k3, k4, k5, k6, k7⟩, _⟩ := blk8 (HS9.out.box 0 _ _ _ rfl).2
        refine bodyPost_ret (v := .tuple #[infoV n m sl ca ⟨r, lo, hi, qu, se⟩, .int .i64 0]) (by simp [results, Tryz.results38, go_sem, k0, k1, k2, k3, k4, k5, k6, k7, infoV, iC]) rfl ?_
        refine ⟨Of, HFF.out.1, HFF.out.2, ?_, HS9.out.2⟩
        rw [HN.out, HSL.out, HCA.out, HPP.out]
end Go.Proofs.YtmiacgkidldjmaaGreatDoor
