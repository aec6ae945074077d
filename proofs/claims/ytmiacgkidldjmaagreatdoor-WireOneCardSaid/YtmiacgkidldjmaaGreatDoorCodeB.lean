/- The sources of chapter 12's statements: as those of chapter 13. Conditions: what each lemma says. -/
import Derived.Test.YtmiacgkidldjmaaGreatDoorLawA
import Derived.Test.YtmiacgkidldjmaaGreatDoorOpenG
import Derived.Test.YtmiacgkidldjmaaGreatDoorTabH
set_option linter.unusedVariables false
set_option linter.unusedSimpArgs false
namespace Go.Proofs.YtmiacgkidldjmaaGreatDoor
open Go.RowKit Go.Lib
open Plain (Rg May mayB In Norm In4 slotsOf insB bnd riB cls cnot rightB normB)
set_option maxRecDepth 1000000 in
set_option maxHeartbeats 8000000 in
theorem code_own_w (PI PC LA : Option Addr) (pi pic pc pcc lc : Nat) (pg g : Int) (L : List Int) (w : World) (hg0 : 0 ≤ g) (hg1 : g < 256) (hL : Sl w LA (L.map (Value.int .u16))) (hn : L.length ≤ maxLen) (hX : ∀ k, k < L.length → 0 ≤ L.getD k 0 ∧ L.getD k 0 < 65536) :
    Calls Tryz.prog 23 #[.agg #[.slice PI pi pic, .slice PC pc pcc, .int .i64 pg, .bool true, .slice LA L.length lc, .int .u8 g]] w (CodeRes L g w) := by
  obtain ⟨n, hN⟩ : ∃ n, L.length = n := ⟨_, rfl⟩
  rw [hN] at hn hX ⊢
  unfold maxLen at hn
  have HXB := Lib.hid hX
  have HL := Lib.hid hL
  have HLN := Lib.hid hN
  clear hX hL hN
  have CN := Lib.hid (fun (W : World) A n c (h : Cl W A n c kAB) => not_cl h (by unfold kAB; decide))
  rw [kAB_not] at CN
  obtain ⟨i84, hi84, y0, y1, y2⟩ := info_parts info84
  go_enter Tryz.func23, Tryz.ntmps23
  go_upto_region 3 with fail
  obtain ⟨w2, hw2⟩ : ∃ x, ((w.alloc (.cells #[.slice PI pi pic, .slice PC pc pcc, .int .i64 pg, .bool true, .slice LA n lc, .int .u8 g] 62)).alloc (.cells #[.slice none 0 0, .slice none 0 0, .int .i64 0] 25)) = x := ⟨_, rfl⟩
  have h5 : w2.cell? ⟨w.heap.size, 5, none⟩ = some (.int .u8 g) := by rw [← hw2]; exact ((CellsAt.new w _ _).alloc _).at_ 5 _ rfl
  have hs2 : w2.heap.size = w.heap.size + 2 := by rw [← hw2]; simp
  have hlt : w.heap.size < w2.heap.size := by omega
  have hbox : CellsAt w2 w.heap.size [.slice PI pi pic, .slice PC pc pcc, .int .i64 pg, .bool true, .slice LA n lc, .int .u8 g] := by rw [← hw2]; exact (CellsAt.new w _ _).alloc _
  have hres : w2.heap[w.heap.size + 1]? = some (.cells #[.slice none 0 0, .slice none 0 0, .int .i64 0] 25 (0, 0)) := by rw [← hw2]; exact heap_alloc_new2 _ _ _ _ (by simp)
  have hbw : Below w.heap.size w w2 := by rw [← hw2]; exact below_alloc (below_alloc (Below.refl _ _) _) _
  have HBOX := Lib.hid hbox
  have HRSB := Lib.hid hres
  have HBW := Lib.hid hbw
  rw [hw2]
  have H5 := Lib.hid h5
  have HS2 := Lib.hid hs2
  have HLT := Lib.hid hlt
  clear h5 hbox hres hbw hw2
  go_cut [3] (fun y wx => CdMid w2 (g % 3) y wx)
  case first =>
    clear hs2 hlt
    have h5 := H5.out
    have HS0 := Lib.hid (show (fun w' : World => w'.cell? ⟨w.heap.size, 5, none⟩ = some (.int .u8 g)) w2.drew from h5)
    refine wp_region_noPanic ?_
    refine wp_region_T 14 (S := fun w' => w'.cell? ⟨w.heap.size, 5, none⟩ = some (.int .u8 g)) (by kernel_rfl) (by decide) ?_
    refine wpAnyT_take2 0 (v := ?tv0) (by kernel_rfl) rfl (by kernel_rfl) (fun _ _ _ h => h) (Or.inl ⟨by rfl, ?ty0⟩) HS0.out ?tr0
    case ty0 => (intro w' hSw; (try dsimp only at hSw); go_simp; try with_reducible rfl)
    try simp only [Act.put, List.setIfInBounds_toArray, List.set_cons_zero, List.set_cons_succ]
    refine wpAnyT_take2 1 (v := ?tv1) (by kernel_rfl) rfl (by kernel_rfl) (fun _ _ _ h => h) (Or.inl ⟨by rfl, ?ty1⟩) HS0.out ?tr1
    case ty1 => (intro w' hSw; (try dsimp only at hSw); go_simp; try with_reducible rfl)
    try simp only [Act.put, List.setIfInBounds_toArray, List.set_cons_zero, List.set_cons_succ]
    refine wpAnyT_take2 2 (v := ?tv2) (by kernel_rfl) rfl (by kernel_rfl) (fun _ _ _ h => h) (Or.inl ⟨by rfl, ?ty2⟩) HS0.out ?tr2
    case ty2 => (intro w' hSw; (try dsimp only at hSw); go_simp; try with_reducible rfl)
    try simp only [Act.put, List.setIfInBounds_toArray, List.set_cons_zero, List.set_cons_succ]
    refine wpAnyT_take2 3 (v := ?tv3) (by kernel_rfl) rfl (by kernel_rfl) (fun _ _ _ h => h) (Or.inl ⟨by rfl, ?ty3⟩) HS0.out ?tr3
    case ty3 => (intro w' hSw; (try dsimp only at hSw); go_simp; try with_reducible rfl)
    try simp only [Act.put, List.setIfInBounds_toArray, List.set_cons_zero, List.set_cons_succ]
    refine wpAnyT_take2 4 (v := ?tv4) (by kernel_rfl) rfl (by kernel_rfl) (fun _ _ _ h => h) (Or.inl ⟨by rfl, ?ty4⟩) HS0.out ?tr4
    case ty4 => (intro w' hSw; (try dsimp only at hSw); go_simp; try with_reducible rfl)
    try simp only [Act.put, List.setIfInBounds_toArray, List.set_cons_zero, List.set_cons_succ]
    refine wpAnyT_take2 6 (v := ?tv6) (by kernel_rfl) rfl (by kernel_rfl) (fun _ _ _ h => h) (Or.inl ⟨by rfl, ?ty6⟩) HS0.out ?tr6
    case ty6 => (intro w' hSw; (try dsimp only at hSw); go_simp; try with_reducible rfl)
    try simp only [Act.put, List.setIfInBounds_toArray, List.set_cons_zero, List.set_cons_succ]
    refine wpAnyT_take2 8 (v := ?tv8) (by kernel_rfl) rfl (by kernel_rfl) (fun _ _ _ h => h) (Or.inl ⟨by rfl, ?ty8⟩) HS0.out ?tr8
    case ty8 => (intro w' hSw; (try dsimp only at hSw); go_simp; try with_reducible rfl)
    try simp only [Act.put, List.setIfInBounds_toArray, List.set_cons_zero, List.set_cons_succ]
    generalize (Value.int IntKind.u8 (g.tmod 3)) = q18
    obtain ⟨gq, hq⟩ : ∃ x, IntKind.i64.wrap (g.tmod 3) = x := ⟨_, rfl⟩
    rw [hq]
    have hgq : gq = g % 3 := by rw [← hq, Int.tmod_eq_emod_of_nonneg hg0, IntKind.wrap_i64]; omega
    have HGQ := Lib.hid hgq
    clear hq hgq
    refine wpAnyT_dag (fun OPS QQ SS hO hQ hS => ?_)
    have hrdy : ∀ b5 b7 b9 b10 b11 b12 b13 : Bool, cdVal b5 b7 b9 b10 b11 b12 = true → Region.ready .any OPS #[true, true, true, true, true, b5, true, b7, true, b9, b10, b11, b12, b13, false] = cdReady b5 b7 b9 b10 b11 b12 b13 := by
      subst hO
      intro b5 b7 b9 b10 b11 b12 b13 hv
      cases b5 <;> cases b7 <;> cases b9 <;> cases b10 <;> cases b11 <;> cases b12 <;> first | (cases hv; done) | (cases b13 <;> kernel_rfl)
    have claim : ∀ (f : Nat) (b5 b7 b9 b10 b11 b12 b13 : Bool) (v21 v23 v25 v26 v27 v28 v3 : Value) (W : World), cdLeft b5 b7 b9 b10 b11 b12 b13 = f → cdVal b5 b7 b9 b10 b11 b12 = true → CdF w2 gq b5 b7 b9 b10 b11 b12 b13 v21 v23 v25 v26 v27 v28 v3 W →
        wpAnyT Tryz.prog .any OPS QQ SS 14 f #[true, true, true, true, true, b5, true, b7, true, b9, b10, b11, b12, b13, false] ⟨#[(.agg #[.slice PI pi pic, .slice PC pc pcc, .int .i64 pg, .bool true, .slice LA n lc, .int .u8 g]), (.pointer (some ⟨w.heap.size, 0, none⟩)), (.pointer (some ⟨w.heap.size + 1, 0, none⟩)), v3, undef, undef, undef, undef, undef, undef, undef, (.pointer (some ⟨w.heap.size, 3, none⟩)), (.bool true), (.bool false), undef, undef, (.pointer (some ⟨w.heap.size, 5, none⟩)), (.int .u8 g), q18, (.int .i64 gq), (.agg #[.int .i32 97, .int .i32 97]), v21, (.agg #[.int .i32 98, .int .i32 99]), v23, (.agg #[.int .i32 97, .int .i32 98]), v25, v26, v27, v28, undef, undef, undef, undef, undef, undef, undef, undef, undef, undef, undef, undef, undef, undef, undef, undef, undef, undef, undef, undef, undef, undef, undef, undef, undef, undef, undef, undef, undef, undef, undef, undef, undef, undef, undef, undef, undef, undef, undef, undef, undef, undef, undef, undef, undef, undef, undef, undef, undef, undef, undef, undef, undef, undef, undef, undef, undef, undef, undef, undef, undef, undef, undef, undef, undef, undef, undef, undef, undef, undef, undef, undef, undef, undef, undef, undef, undef, undef, undef, undef, undef, undef], []⟩ W := by
      intro f
      induction f with
      | zero =>
        intro b5 b7 b9 b10 b11 b12 b13 v21 v23 v25 v26 v27 v28 v3 W hl hv hF
        subst hO hQ hS
        obtain ⟨rfl, rfl, rfl, rfl, rfl, rfl, rfl⟩ : b5 = true ∧ b7 = true ∧ b9 = true ∧ b10 = true ∧ b11 = true ∧ b12 = true ∧ b13 = true := by
          exact cd_all _ _ _ _ _ _ _ hl
        obtain ⟨gc, ga, gb, A, c, rfl, hc, ha, hb, hA⟩ := hF.c11 rfl
        obtain rfl := hF.c12 rfl
        obtain ⟨gp, rfl, hp, hge⟩ := hF.c13 rfl
        have hbel := hF.bel
        obtain ⟨m0, m1, m2⟩ := blk_cells3 hp
        have f0 := blk_frozen hp 0
        have f1 := blk_frozen hp 1
        have f2 := blk_frozen hp 2
        have HP := Lib.hid hp
        have HBL := Lib.hid hbel
        have HCC := Lib.hid hc
        have HA1 := Lib.hid ha
        have HB1 := Lib.hid hb
        have HAA := Lib.hid hA
        clear hF hp hbel hc ha hb hA
        refine ⟨by kernel_rfl, ?_⟩
        change wpList _ _ _ [_] _ _
        go_wp2
        refine NoPanic.normal ?_
        go_wp2
        go_meet
        case rel =>
          have hgc : gc ≠ gp := fun e => by have h1 := HCC.out; rw [e, HP.out] at h1; cases h1
          have hga : ga ≠ gp := fun e => by have h1 := HA1.out; rw [e, HP.out] at h1; cases h1
          have hgb : gb ≠ gp := fun e => by have h1 := HB1.out; rw [e, HP.out] at h1; cases h1
          have hne := HAA.out.not_box (by unfold kN; decide) HP.out
          rw [HGQ.out]
          exact ⟨gp, gc, ga, gb, A, c, rfl, blk_set3 HP.out _ _ _, set_blk (set_blk (set_blk HCC.out hgc.symm) hgc.symm) hgc.symm, set_blk (set_blk (set_blk HA1.out hga.symm) hga.symm) hga.symm, set_blk (set_blk (set_blk HB1.out hgb.symm) hgb.symm) hgb.symm,
            ((HAA.out.set hne).set hne).set hne, ((HBL.out.setCell (p := ⟨gp, 0, none⟩) hge _).setCell (p := ⟨gp, 1, none⟩) hge _).setCell (p := ⟨gp, 2, none⟩) hge _, hge⟩
      | succ f ih =>
        intro b5 b7 b9 b10 b11 b12 b13 v21 v23 v25 v26 v27 v28 v3 W hl hv hF
        refine wpAnyT_all _ (hrdy b5 b7 b9 b10 b11 b12 b13 hv) (by cases b5 <;> cases b7 <;> cases b9 <;> cases b10 <;> cases b11 <;> cases b12 <;> first | (cases hv; done) | (cases b13 <;> first | rfl | cases hl)) (fun i hi => ?_)
        subst hO hQ hS
        simp only [cdReady, List.mem_append] at hi
        rcases hi with ((((((hi | hi) | hi) | hi) | hi) | hi) | hi) | hi
        · cases b5 <;> simp at hi
          subst hi
          refine ⟨_, (by rfl), fun K' hK' => ?_⟩
          rw [if_pos (by rfl)]
          have HK := Lib.hid hK'
          clear hK'
          have hF1 := hF.below ((Below.refl _ _).alloc (Nat.le_refl _) (.cells #[.int .i32 97, .int .i32 97] 104))
          go_simp
          have hN := (⟨fun _ => ⟨_, rfl, heap_alloc_new2 _ _ _ _ rfl⟩, hF1.c7, hF1.c9, hF1.c10, hF1.c11, hF1.c12, hF1.c13, hF1.bel⟩ : CdF w2 gq true b7 b9 b10 b11 b12 b13 (.slice (some ⟨W.heap.size, 0, none⟩) 1 1) v23 v25 v26 v27 v28 v3 _)
          refine HK.out _ _ ⟨((hN).bel.cell (p := ⟨w.heap.size, 5, none⟩) HLT.out).trans H5.out, ih true b7 b9 b10 b11 b12 b13 (.slice (some ⟨W.heap.size, 0, none⟩) 1 1) v23 v25 v26 v27 v28 v3 _ (by have := hl; simp only [cdLeft, Bool.not_true, Bool.not_false, Bool.toNat_true, Bool.toNat_false] at this ⊢; omega) (cdv5 _ _ _ _ _ hv) hN⟩
        · cases b7 <;> simp at hi
          subst hi
          refine ⟨_, (by rfl), fun K' hK' => ?_⟩
          rw [if_pos (by rfl)]
          have HK := Lib.hid hK'
          clear hK'
          have hF1 := hF.below ((Below.refl _ _).alloc (Nat.le_refl _) (.cells #[.int .i32 98, .int .i32 99] 104))
          go_simp
          have hN := (⟨hF1.c5, fun _ => ⟨_, rfl, heap_alloc_new2 _ _ _ _ rfl⟩, hF1.c9, hF1.c10, hF1.c11, hF1.c12, hF1.c13, hF1.bel⟩ : CdF w2 gq b5 true b9 b10 b11 b12 b13 v21 (.slice (some ⟨W.heap.size, 0, none⟩) 1 1) v25 v26 v27 v28 v3 _)
          refine HK.out _ _ ⟨((hN).bel.cell (p := ⟨w.heap.size, 5, none⟩) HLT.out).trans H5.out, ih b5 true b9 b10 b11 b12 b13 v21 (.slice (some ⟨W.heap.size, 0, none⟩) 1 1) v25 v26 v27 v28 v3 _ (by have := hl; simp only [cdLeft, Bool.not_true, Bool.not_false, Bool.toNat_true, Bool.toNat_false] at this ⊢; omega) (cdv7 _ _ _ _ _ hv) hN⟩
        · cases b9 <;> simp at hi
          subst hi
          refine ⟨_, (by rfl), fun K' hK' => ?_⟩
          rw [if_pos (by rfl)]
          have HK := Lib.hid hK'
          clear hK'
          have hF1 := hF.below ((Below.refl _ _).alloc (Nat.le_refl _) (.cells #[.int .i32 97, .int .i32 98] 104))
          go_simp
          have hN := (⟨hF1.c5, hF1.c7, fun _ => ⟨_, rfl, heap_alloc_new2 _ _ _ _ rfl⟩, hF1.c10, hF1.c11, hF1.c12, hF1.c13, hF1.bel⟩ : CdF w2 gq b5 b7 true b10 b11 b12 b13 v21 v23 (.slice (some ⟨W.heap.size, 0, none⟩) 1 1) v26 v27 v28 v3 _)
          refine HK.out _ _ ⟨((hN).bel.cell (p := ⟨w.heap.size, 5, none⟩) HLT.out).trans H5.out, ih b5 b7 true b10 b11 b12 b13 v21 v23 (.slice (some ⟨W.heap.size, 0, none⟩) 1 1) v26 v27 v28 v3 _ (by have := hl; simp only [cdLeft, Bool.not_true, Bool.not_false, Bool.toNat_true, Bool.toNat_false] at this ⊢; omega) (cdv9 _ _ _ _ _ hv) hN⟩
        · cases b9 <;> cases b10 <;> simp at hi
          subst hi
          obtain ⟨gx, rfl, hx⟩ := hF.c9 rfl
          refine ⟨_, (by rfl), fun K' hK' => ?_⟩
          rw [if_pos (by rfl)]
          have HK := Lib.hid hK'
          clear hK'
          go_wp2_with (go_at_call 43; (with_reducible refine (CN.out _ _ _ _ (Cl.of_blk hx)).mono ?_); rintro e w9 ⟨A9, n9, c9, rfl, h9, hb9⟩)
          have hF1 := hF.below hb9
          obtain rfl : kN.length = n9 := h9.2.1
          have hN := (⟨hF1.c5, hF1.c7, hF1.c9, fun _ => ⟨_, _, rfl, h9.1⟩, hF1.c11, hF1.c12, hF1.c13, hF1.bel⟩ : CdF w2 gq b5 b7 true true b11 b12 b13 v21 v23 (.slice (some ⟨gx, 0, none⟩) 1 1) (.slice A9 kN.length c9) v27 v28 v3 _)
          refine HK.out _ _ ⟨((hN).bel.cell (p := ⟨w.heap.size, 5, none⟩) HLT.out).trans H5.out, ih b5 b7 true true b11 b12 b13 v21 v23 _ (.slice A9 kN.length c9) v27 v28 v3 _ (by have := hl; simp only [cdLeft, Bool.not_true, Bool.not_false, Bool.toNat_true, Bool.toNat_false] at this ⊢; omega) (cdv10 _ _ _ _ hv) hN⟩
        · cases b5 <;> cases b7 <;> cases b10 <;> cases b11 <;> simp at hi
          subst hi
          obtain ⟨ga, rfl, ha⟩ := hF.c5 rfl
          obtain ⟨gb, rfl, hb⟩ := hF.c7 rfl
          obtain ⟨A, c, rfl, hA⟩ := hF.c10 rfl
          refine ⟨_, (by rfl), fun K' hK' => ?_⟩
          rw [if_pos (by rfl)]
          have HK := Lib.hid hK'
          clear hK'
          have hBa := (Below.refl W.heap.size W).alloc (Nat.le_refl _) (.cells #[.slice (some ⟨ga, 0, none⟩) 1 1, .slice (some ⟨gb, 0, none⟩) 1 1, .slice A 2 c] 102)
          have hF1 := hF.below hBa
          go_simp
          have hN := (⟨hF1.c5, hF1.c7, hF1.c9, hF1.c10, fun _ => ⟨_, _, _, _, _, rfl, heap_alloc_new2 _ _ _ _ rfl, blk_later ha hBa, blk_later hb hBa, hA.below hBa⟩, (fun e => by rw [cd12 _ _ hv] at e; cases e), hF1.c13, hF1.bel⟩ : CdF w2 gq true true b9 true true b12 b13 (.slice (some ⟨ga, 0, none⟩) 1 1) (.slice (some ⟨gb, 0, none⟩) 1 1) v25 (.slice A 2 c) (.slice (some ⟨W.heap.size, 0, none⟩) 3 3) v28 v3 _)
          refine HK.out _ _ ⟨((hN).bel.cell (p := ⟨w.heap.size, 5, none⟩) HLT.out).trans H5.out, ih true true b9 true true b12 b13 _ _ v25 _ (.slice (some ⟨W.heap.size, 0, none⟩) 3 3) v28 v3 _ (by have := hl; simp only [cdLeft, Bool.not_true, Bool.not_false, Bool.toNat_true, Bool.toNat_false] at this ⊢; omega) (cdv11 _ _ hv) hN⟩
        · cases b11 <;> cases b12 <;> simp at hi
          subst hi
          obtain ⟨gc, ga, gb, A, c, rfl, _⟩ := hF.c11 rfl
          refine ⟨_, (by rfl), fun K' hK' => ?_⟩
          rw [if_pos (by rfl)]
          have HK := Lib.hid hK'
          clear hK'
          have hF1 := hF
          go_wp2_with fail
          have hN := (⟨hF1.c5, hF1.c7, hF1.c9, hF1.c10, hF1.c11, fun _ => rfl, hF1.c13, hF1.bel⟩ : CdF w2 gq b5 b7 b9 b10 true true b13 v21 v23 v25 v26 (.slice (some ⟨gc, 0, none⟩) 3 3) (.agg #[.slice none 0 0, .slice (some ⟨gc, 0, none⟩) 3 3, .int .i64 gq]) v3 W)
          refine HK.out _ _ ⟨((hN).bel.cell (p := ⟨w.heap.size, 5, none⟩) HLT.out).trans H5.out, ih b5 b7 b9 b10 true true b13 v21 v23 v25 v26 (.slice (some ⟨gc, 0, none⟩) 3 3) (.agg #[.slice none 0 0, .slice (some ⟨gc, 0, none⟩) 3 3, .int .i64 gq]) v3 _ (by have := hl; simp only [cdLeft, Bool.not_true, Bool.not_false, Bool.toNat_true, Bool.toNat_false] at this ⊢; omega) (cdv12 _ _ _ _ hv) hN⟩
        · cases b13 <;> simp at hi
          subst hi
          refine ⟨_, (by rfl), fun K' hK' => ?_⟩
          rw [if_pos (by rfl)]
          have HK := Lib.hid hK'
          clear hK'
          have hF1 := hF.below ((Below.refl _ _).alloc (Nat.le_refl _) (.cells #[.slice none 0 0, .slice none 0 0, .int .i64 0] 25))
          go_simp
          have hN := (⟨hF1.c5, hF1.c7, hF1.c9, hF1.c10, hF1.c11, hF1.c12, fun _ => ⟨_, rfl, heap_alloc_new2 _ _ _ _ rfl, hF.bel.size⟩, hF1.bel⟩ : CdF w2 gq b5 b7 b9 b10 b11 b12 true v21 v23 v25 v26 v27 v28 (.pointer (some ⟨W.heap.size, 0, none⟩)) _)
          refine HK.out _ _ ⟨((hN).bel.cell (p := ⟨w.heap.size, 5, none⟩) HLT.out).trans H5.out, ih b5 b7 b9 b10 b11 b12 true v21 v23 v25 v26 v27 v28 (.pointer (some ⟨W.heap.size, 0, none⟩)) _ (by have := hl; simp only [cdLeft, Bool.not_true, Bool.not_false, Bool.toNat_true, Bool.toNat_false] at this ⊢; omega) (cdv13 _ _ _ _ _ _ hv) hN⟩
        · exfalso
          cases b5 <;> cases b7 <;> cases b9 <;> cases b10 <;> cases b11 <;> cases b12 <;> cases b13 <;> simp at hi <;> cases hl
    refine claim 7 false false false false false false false undef undef undef undef undef undef undef _ rfl rfl ⟨(fun e => by cases e), (fun e => by cases e), (fun e => by cases e), (fun e => by cases e), (fun e => by cases e), (fun e => by cases e), (fun e => by cases e), Below.drew (Below.refl _ _)⟩
  case rest =>
    obtain ⟨gp, gc, ga, gb, A, cA, rfl, hP, hC, hA1, hB1, hAA, hBL, hge⟩ := hcut
    have q4 := (HBOX.out.below hBL).at_ 4 _ rfl
    have HP := Lib.hid hP
    have HC := Lib.hid hC
    have HA1 := Lib.hid hA1
    have HB1 := Lib.hid hB1
    have HAA := Lib.hid hAA
    have HBL := Lib.hid hBL
    have HGE := Lib.hid hge
    clear hP hC hA1 hB1 hAA hBL hge hs2 hlt
    go_upto_region 4 with fail
    go_cut [4] (fun y wx => wx = wc ∧ y = .int .i64 ((min n 14 : Nat) : Int))
    case first =>
      go_wp2
      all_goals
        go_meet
        case rel => exact ⟨rfl, by congr 1; omega⟩
    case rest =>
      obtain ⟨rfl, rfl⟩ := hcut
      obtain ⟨wx, rfl⟩ : ∃ v, v = wc := ⟨_, rfl⟩
      obtain ⟨m, hm⟩ : ∃ m, min n 14 = m := ⟨_, rfl⟩
      obtain ⟨gq, hgq⟩ : ∃ gq, g % 3 = gq := ⟨_, rfl⟩
      obtain ⟨X, hX⟩ : ∃ X : Nat → Int, (fun k => L.getD k 0) = X := ⟨_, rfl⟩
      have hgq0 : 0 ≤ gq ∧ gq ≤ 2 := by omega
      have hm14 : m ≤ 14 := by omega
      have HM := Lib.hid hm
      have HGQ := Lib.hid hgq
      have HXD := Lib.hid hX
      rw [hm]
      rw [hgq] at HP
      have HQ4 := Lib.hid q4
      clear hm hgq hX q4
      go_wp2
      go_loopw [5] (fun i wr => ∃ (k : Nat) (v0 : Value), k ≤ m ∧ i = .int .i64 k ∧ wr.heap[gp]? = some (.cells #[v0, .slice (some ⟨gc, 0, none⟩) 3 3, .int .i64 gq] 25 (0, 0)) ∧ wr.ownsRow wx.heap.size 94 4 v0 k (i4s (Plain.codeG X m gq k)) ∧ Kp gp wx wr) (fun i _ => m - (RowKit.intOf i).toNat)
      case atStart =>
        exact ⟨0, _, Nat.zero_le _, rfl, HP.out, ⟨rfl, .inl ⟨rfl, rfl⟩⟩, Kp.refl _ _⟩
      case round =>
        obtain ⟨k, v0, hk, rfl, hP, hO, hK⟩ := hrel
        obtain ⟨ua, uc, rfl⟩ := own_slice hO
        have HPr := Lib.hid hP
        have HOr := Lib.hid hO
        have HKr := Lib.hid hK
        clear hP hO hK
        by_cases hlt : k < m
        · have hkn : k < n := by have := HM.out; omega
          have hk1 : k < L.length := by rw [HLN.out]; exact hkn
          obtain ⟨bL, oL, rfl, hbL, hcL⟩ := HL.out (by rw [List.length_map]; omega)
          obtain ⟨x, hx⟩ : ∃ x, X k = x := ⟨_, rfl⟩
          have hxb := HXB.out k hkn
          have hx2 : L.getD k 0 = x := by rw [← hx, ← HXD.out]
          rw [hx2] at hxb
          obtain ⟨hx0, hx1⟩ := hxb
          have hbgp : bL ≠ gp := by have := HGE.out; have := HS2.out; omega
          have hsz : w.heap.size ≤ wx.heap.size := Nat.le_trans (by have := HS2.out; omega) HBL.out.size
          have hcx : wr.cell? ⟨bL, oL + k, none⟩ = some (.int .u16 x) := by
            rw [HKr.out.cell (p := ⟨bL, oL + k, none⟩) (Nat.lt_of_lt_of_le hbL hsz) hbgp, HBL.out.cell (p := ⟨bL, oL + k, none⟩) (by have := HS2.out; simp; omega), HBW.out.cell (p := ⟨bL, oL + k, none⟩) hbL]
            exact hcL k _ (by rw [List.getElem?_map, List.getElem?_eq_getElem hk1]; simp [← hx2, List.getD_eq_getElem?_getD, List.getElem?_eq_getElem hk1])
          have hq4 : wr.cell? ⟨w.heap.size, 4, none⟩ = some (.slice (some ⟨bL, oL, none⟩) n lc) := (HKr.out.cell (p := ⟨w.heap.size, 4, none⟩) (Nat.lt_of_lt_of_le HBOX.out.1 HBL.out.size) (by have := HGE.out; have := HS2.out; simp; omega)).trans HQ4.out
          have hop : (wr.alloc (.cells #[.int .i64 1, .int .i64 1, .int .i64 1, .int .i64 2, .int .i64 2, .int .i64 3, .int .i64 4, .int .i64 5, .int .i64 0] 3)).cell? ⟨wr.heap.size, (x % 9).toNat, none⟩ = some (.int .i64 (Plain.opG x)) := (CellsAt.new wr _ _).2 _ _ (Plain.opG_get x hx0)
          have g0 : (0 : Int) ≤ (k : Int) := by omega
          have g1 : (k : Int) < (n : Int) := by omega
          have g2 : (k : Int) < (m : Int) := by omega
          have HX := Lib.hid hx
          clear hx hx2 hcL
          go_upto_region 12 with fail
          obtain ⟨o, ho⟩ : ∃ o, Plain.opG x = o := ⟨_, rfl⟩
          obtain ⟨xA, hxA⟩ : ∃ a, x / 16 % ((m : Int) + 1) = a := ⟨_, rfl⟩
          obtain ⟨yA, hyA⟩ : ∃ a, x / 256 % ((m : Int) + 1) = a := ⟨_, rfl⟩
          obtain ⟨kA, hkA⟩ : ∃ a, x / 8 % 8 = a := ⟨_, rfl⟩
          have hk0 : 0 ≤ kA ∧ kA < 8 := by omega
          rw [ho] at hop
          rw [hxA, hyA, hkA]
          have HO := Lib.hid ho
          have HXA := Lib.hid hxA
          have HYA := Lib.hid hyA
          have HKA := Lib.hid hkA
          clear ho hxA hyA hkA
          go_upto_if 66 with fail
          clear hop hcx hq4
          have HB0 := Lib.hid (below_alloc (below_alloc (Below.refl wr.heap.size wr) (.cells #[.int .i64 1, .int .i64 1, .int .i64 1, .int .i64 2, .int .i64 2, .int .i64 3, .int .i64 4, .int .i64 5, .int .i64 0] 3)) (.cells #[.int .i64 o, .int .i64 xA, .int .i64 0, .int .i64 0] 94))
          have hT : ((wr.alloc (.cells #[.int .i64 1, .int .i64 1, .int .i64 1, .int .i64 2, .int .i64 2, .int .i64 3, .int .i64 4, .int .i64 5, .int .i64 0] 3)).alloc (.cells #[.int .i64 o, .int .i64 xA, .int .i64 0, .int .i64 0] 94)).heap[wr.heap.size + 1]? = some (.cells #[.int .i64 o, .int .i64 xA, .int .i64 0, .int .i64 0] 94 (0, 0)) := heap_alloc_new2 _ _ _ _ (by simp)
          go_cut [] (fun wy => Below wr.heap.size wr wy ∧ wy.heap[wr.heap.size + 1]? = some (.cells #[.int .i64 o, .int .i64 (if x % 3 > 0 then (k : Int) + 1 else xA), .int .i64 0, .int .i64 0] 94 (0, 0)))
          case first =>
            have HT := Lib.hid hT
            clear hT
            by_cases h3 : x % 3 > 0
            · have f1 := blk_frozen HT.out 1
              go_wp2
              go_meet
              case rel => rw [if_pos h3]; exact ⟨below_alloc (below_alloc (Below.refl _ _) _) _, heap_alloc_new2 _ _ _ _ (by simp)⟩
            · go_wp2
              go_meet
              case rel => rw [if_neg (by omega)]; exact ⟨below_alloc (below_alloc (Below.refl _ _) _) _, heap_alloc_new2 _ _ _ _ (by simp)⟩
          case rest =>
            obtain ⟨wy, rfl⟩ : ∃ v, v = wc := ⟨_, rfl⟩
            obtain ⟨hbw, hT⟩ := hcut
            obtain ⟨xB, hxB⟩ : ∃ a, (if x % 3 > 0 then (k : Int) + 1 else xA) = a := ⟨_, rfl⟩
            rw [hxB] at hT
            have HXB := Lib.hid hxB
            have HBW := Lib.hid hbw
            have HT := Lib.hid hT
            clear hbw hT hxB
            have hPy := (HBW.out.block gp (lt_of_some HPr.out)).trans HPr.out
            obtain ⟨r0, r1, r2⟩ := blk_cells3 hPy
            have HPy := Lib.hid hPy
            have ho6 := Plain.opG_cases x hx0
            rw [HO.out] at ho6
            obtain ⟨t0, t1, t2, t3⟩ := blk_cells4 HT.out
            have f1 := blk_frozen HT.out 1
            have f2 := blk_frozen HT.out 2
            have f3 := blk_frozen HT.out 3
            have HT4 := Lib.hid (fun j u => heap_setCell_same wy (wr.heap.size + 1) j _ _ u HT.out)
            have HBS := Lib.hid (fun j u => HBW.out.setCell (p := ⟨wr.heap.size + 1, j, none⟩) (by simp) u)
            clear hPy
            go_upto_block 2 with fail
            clear r0 r1
            go_cut [] (fun wz => Below wr.heap.size wr wz ∧ wz.heap[wr.heap.size + 1]? = some (.cells #[.int .i64 o, .int .i64 (if o = 0 then 0 else xB), .int .i64 (if o = 2 then yA else 0), .int .i64 (if o = 1 then kA % 3 else if o = 4 then kA % (2 * gq + 2) else if o = 5 then kA % 4 else 0)] 94 (0, 0)))
            case first =>
              rcases ho6 with rfl | rfl | rfl | rfl | rfl | rfl
              · go_wp2
                go_meet
                case rel => exact ⟨HBS.out _ _, HT4.out 1 _⟩
              · go_wp2
                go_meet
                case rel => exact ⟨HBS.out _ _, HT4.out 3 _⟩
              · go_wp2
                go_meet
                case rel => exact ⟨HBS.out _ _, HT4.out 2 _⟩
              · go_wp2
                go_meet
                case rel => exact ⟨HBW.out, HT.out⟩
              · go_wp2
                go_meet
                case rel => exact ⟨HBS.out _ _, HT4.out 3 _⟩
              · go_wp2
                go_meet
                case rel => exact ⟨HBS.out _ _, HT4.out 3 _⟩
            case rest =>
              obtain ⟨wz, rfl⟩ : ∃ v, v = wc := ⟨_, rfl⟩
              obtain ⟨hbz, hTz⟩ := hcut
              have hin : (if o = 0 then 0 else xB) = Plain.xO m k x ∧ (if o = 2 then yA else 0) = Plain.yG m x ∧ (if o = 1 then kA % 3 else if o = 4 then kA % (2 * gq + 2) else if o = 5 then kA % 4 else 0) = Plain.aG gq x := by
                rw [← HXB.out, ← HXA.out, ← HYA.out, ← HKA.out, ← HO.out]
                exact ⟨rfl, rfl, rfl⟩
              rw [hin.1, hin.2.1, hin.2.2, ← HO.out] at hTz
              obtain ⟨i1, hi1⟩ : ∃ a, Plain.opG x = a := ⟨_, rfl⟩
              obtain ⟨i2, hi2⟩ : ∃ a, Plain.xO m k x = a := ⟨_, rfl⟩
              obtain ⟨i3, hi3⟩ : ∃ a, Plain.yG m x = a := ⟨_, rfl⟩
              obtain ⟨i4, hi4⟩ : ∃ a, Plain.aG gq x = a := ⟨_, rfl⟩
              rw [hi1, hi2, hi3, hi4] at hTz
              have HIN := Lib.hid (show Plain.instG m k gq x = (i1, i2, i3, i4) by unfold Plain.instG; rw [hi1, hi2, hi3, hi4])
              have hPz := (hbz.block gp (lt_of_some HPr.out)).trans HPr.out
              have HOz := Lib.hid (own_below HOr.out hbz)
              have HKz := Lib.hid (HKr.out.then hbz)
              obtain ⟨r0, r1, r2⟩ := blk_cells3 hPz
              have fr0 := blk_frozen hPz 0
              have HPz := Lib.hid hPz
              obtain ⟨s0, s1, s2, s3⟩ := blk_cells4 hTz
              have hgw : gp < wz.heap.size := lt_of_some hPz
              clear hin hi1 hi2 hi3 hi4 hbz hPz hTz t0 t1 t2 t3 f1 f2 f3 ho6
              go_wp2_with (at_builtin; refine wpList_append_own2 _ rfl (.tmp 99) (.tmp 101) _ rfl wx.heap.size 94 i84 _ 4 32 Tryz.underlying22 hi84 y0 y1 y2 rfl (by decide) (.slice ua k uc) k (i4s (Plain.codeG X m gq k)) rfl (HOz.out.alloc _) ⟨wz.heap.size, 0, none⟩ 1 1 [.int .i64 i1, .int .i64 i2, .int .i64 i3, .int .i64 i4] rfl rfl (CellsAt_add (CellsAt.new wz _ _)) ?c2 ?c3 ?c4 ?c5 ?_)
              case c2 => (intro u hu; simp only [List.mem_cons, List.not_mem_nil, or_false] at hu; rcases hu with rfl | rfl | rfl | rfl <;> rfl)
              case c3 => simp only [maxLen]; omega
              case c4 => omega
              case c5 => have := HKz.out.size; simp; omega
              intro v3 w7 hown2 hg2 hvb
              obtain ⟨wa, wc3, rfl⟩ := own_slice hown2
              have hgx : ∀ g', (Value.slice ua k uc).ownBlock = some g' → wx.heap.size ≤ g' := fun g' hg' => (HOz.out.lt g' hg').1
              have hK7 : Kp gp wx w7 := (HKz.out.alloc _).grown hg2 (fun g' hg' => .inl (hgx g' hg'))
              have hgpx : gp < wx.heap.size := lt_of_some HP.out
              have hP7 := blk_grown HPz.out hg2 (fun e => by have := hgx gp e; omega)
              have hOw : ∀ u, (w7.setCell ⟨gp, 0, none⟩ u).ownsRow wx.heap.size 94 4 (.slice wa (k + 1) wc3) (k + 1) (i4s (Plain.codeG X m gq (k + 1))) := fun u => by
                refine own_far ?_ hgpx u
                rw [Plain.codeG_succ, i4s_append, HX.out, HIN.out]
                exact hown2
              have HK7 := Lib.hid hK7
              have HO7 := Lib.hid hOw
              obtain ⟨z0, z1, z2⟩ := blk_cells3 hP7
              have fz0 := blk_frozen hP7 0
              have HP7 := Lib.hid hP7
              clear hgx hK7 hOw hP7 hown2 hg2 hvb
              go_wp2
              go_roundw
              case rel => exact ⟨k + 1, _, by omega, by go_num, heap_setCell_same w7 gp 0 _ _ _ HP7.out, HO7.out _, HK7.out.set 0 _⟩
              case measure => simp [RowKit.intOf]; omega
        · obtain rfl : m = k := by omega
          obtain ⟨r0, r1, r2⟩ := blk_cells3 HPr.out
          have fr0 := blk_frozen HPr.out 0
          have hgw : gp < wr.heap.size := lt_of_some HPr.out
          go_wp2_with (at_builtin; refine wpList_append_own2 _ rfl (.tmp 105) (.tmp 107) _ rfl wx.heap.size 94 i84 _ 4 32 Tryz.underlying22 hi84 y0 y1 y2 rfl (by decide) (.slice ua m uc) m (i4s (Plain.codeG X m gq m)) rfl (HOr.out.alloc _) ⟨wr.heap.size, 0, none⟩ 1 1 [.int .i64 0, .int .i64 0, .int .i64 0, .int .i64 0] rfl rfl (CellsAt_add (CellsAt.new wr _ _)) ?d2 ?d3 ?d4 ?d5 ?_)
          case d2 => (intro u hu; simp only [List.mem_cons, List.not_mem_nil, or_false] at hu; rcases hu with rfl | rfl | rfl | rfl <;> rfl)
          case d3 => simp only [maxLen]; omega
          case d4 => omega
          case d5 => have := HKr.out.size; simp; omega
          intro v3 w7 hown2 hg2 hvb
          obtain ⟨wa, wc3, rfl⟩ := own_slice hown2
          have hgx : ∀ g', (Value.slice ua m uc).ownBlock = some g' → wx.heap.size ≤ g' := fun g' hg' => (HOr.out.lt g' hg').1
          have hK7 : Kp gp wx w7 := (HKr.out.alloc _).grown hg2 (fun g' hg' => .inl (hgx g' hg'))
          have hgpx : gp < wx.heap.size := lt_of_some HP.out
          have hP7 := blk_grown HPr.out hg2 (fun e => by have := hgx gp e; omega)
          have hR7 := hK7.blk ((HBL.out.block (w.heap.size + 1) (by have := HS2.out; omega)).trans HRSB.out) (by have := HGE.out; have := HS2.out; omega)
          have HK7 := Lib.hid hK7
          have HO7 := Lib.hid hown2
          obtain ⟨z0, z1, z2⟩ := blk_cells3 hP7
          have fz0 := blk_frozen hP7 0
          obtain ⟨v0, v1, v2⟩ := blk_cells3 hR7
          have fv0 := blk_frozen hR7 0
          have fv1 := blk_frozen hR7 1
          have fv2 := blk_frozen hR7 2
          have HP7 := Lib.hid hP7
          have HR7 := Lib.hid hR7
          have hge2 := HGE.out
          have hs2' := HS2.out
          have hne1 : ¬ (gp = w.heap.size + 1) := by omega
          have hne2 : ¬ (w.heap.size + 1 = gp) := by omega
          have hlr := lt_of_some hR7
          clear hgx hK7 hP7 hown2 hg2 hvb hR7 r0 r1 r2 fr0 hge2 hs2'
          have HNE2 := Lib.hid hne2
          go_wp2
          have hP8 := heap_setCell_same w7 gp 0 _ _ (Value.slice wa (m + 1) wc3) HP7.out
          have hK8 := HK7.out.set 0 (.slice wa (m + 1) wc3)
          have hR8 : (w7.setCell ⟨gp, 0, none⟩ (.slice wa (m + 1) wc3)).heap[w.heap.size + 1]? = some (.cells #[.slice none 0 0, .slice none 0 0, .int .i64 0] 25 (0, 0)) := set_blk HR7.out (fun e => HNE2.out e.symm)
          have hrx : wx.heap[w.heap.size + 1]? = some (.cells #[.slice none 0 0, .slice none 0 0, .int .i64 0] 25 (0, 0)) := (HBL.out.block (w.heap.size + 1) (by have := HS2.out; omega)).trans HRSB.out
          have hgc : gc ≠ gp := fun e => by have h1 := HC.out; rw [e, HP.out] at h1; cases h1
          have hga : ga ≠ gp := fun e => by have h1 := HA1.out; rw [e, HP.out] at h1; cases h1
          have hgb : gb ≠ gp := fun e => by have h1 := HB1.out; rw [e, HP.out] at h1; cases h1
          have hgc2 : gc ≠ w.heap.size + 1 := fun e => by have h1 := HC.out; rw [e, hrx] at h1; cases h1
          have hga2 : ga ≠ w.heap.size + 1 := fun e => by have h1 := HA1.out; rw [e, hrx] at h1; cases h1
          have hgb2 : gb ≠ w.heap.size + 1 := fun e => by have h1 := HB1.out; rw [e, hrx] at h1; cases h1
          have hnA := HAA.out.not_box (by unfold kN; decide) HP.out
          have hnA2 := HAA.out.not_box (by unfold kN; decide) hrx
          have hK9 := (((Kp.refl (w.heap.size + 1) (w7.setCell ⟨gp, 0, none⟩ (.slice wa (m + 1) wc3))).set 0 (.slice wa (m + 1) wc3)).set 1 (.slice (some ⟨gc, 0, none⟩) 3 3)).set 2 (.int .i64 gq)
          have hF := blk_set3 hR8 (.slice wa (m + 1) wc3) (.slice (some ⟨gc, 0, none⟩) 3 3) (.int .i64 gq)
          obtain ⟨m0, m1, m2⟩ := blk_cells3 hF
          have hbx : Below w.heap.size w wx := HBW.out.trans (HBL.out.mono (by have := HS2.out; omega))
          have hb8 : Below w.heap.size w (w7.setCell ⟨gp, 0, none⟩ (.slice wa (m + 1) wc3)) := hK8.below hbx (by have := HGE.out; have := HS2.out; omega) hbx.size
          have hb9 := hK9.below hb8 (by omega) hb8.size
          have hgpx : gp < wx.heap.size := lt_of_some HP.out
          have hrpx : w.heap.size + 1 < wx.heap.size := lt_of_some hrx
          have hlen : (Plain.codeL X m gq).length = m + 1 := Plain.codeL_len X m gq
          have ho9 := own_far (own_far (own_far (own_far HO7.out hgpx (j := 0) (.slice wa (m + 1) wc3)) hrpx (j := 0) (.slice wa (m + 1) wc3)) hrpx (j := 1) (.slice (some ⟨gc, 0, none⟩) 3 3)) hrpx (j := 2) (.int .i64 gq)
          rw [show i4s (Plain.codeG X m gq m) ++ [.int .i64 0, .int .i64 0, .int .i64 0, .int .i64 0] = i4s (Plain.codeL X m gq) by unfold Plain.codeL; rw [i4s_append]; rfl] at ho9
          have hc9 := hK9.blk (hK8.blk HC.out hgc) hgc2
          have ha9 := hK9.blk (hK8.blk HA1.out hga) hga2
          have hb1 := hK9.blk (hK8.blk HB1.out hgb) hgb2
          have hr9 := hK9.rs (hK8.rs HAA.out hnA) hnA2
          have hfin : codeLn L g = Plain.codeL X m gq := by unfold codeLn; rw [← HXD.out, ← HGQ.out, HLN.out, HM.out]
          refine bodyPost_ret (v := .agg #[.slice wa (m + 1) wc3, .slice (some ⟨gc, 0, none⟩) 3 3, .int .i64 gq]) (by simp [results, Tryz.results23, go_sem, m0, m1, m2]) rfl ⟨wa, wc3, gc, [⟨some ⟨ga, 0, none⟩, 1, kA⟩, ⟨some ⟨gb, 0, none⟩, 1, kB⟩, ⟨A, cA, kN⟩], ?_, ?_, ?_, rfl, hb9⟩
          · rw [hfin, hlen, HGQ.out]; rfl
          · rw [hfin, hlen]; exact own_base ho9 hbx.size
          · rw [hfin]
            refine ⟨own_SlN ho9 (fun _ => by omega), Sl.of_cells ⟨lt_of_some hc9, fun j u hu => ?_⟩, ?_, by rw [hlen]; unfold maxLen; omega, by simp [maxLen]⟩
            · rw [cell_of_row _ _ _ _ _ _ hc9, ← Array.getElem?_toList]; exact hu
            · intro x hx
              simp only [List.mem_cons, List.not_mem_nil, or_false] at hx
              rcases hx with rfl | rfl | rfl
              · exact ⟨(Rs.of_two ha9 (lo := 97) (hi := 97)), by simp [kA, maxLen]⟩
              · exact ⟨(Rs.of_two hb1 (lo := 98) (hi := 99)), by simp [kB, maxLen]⟩
              · exact ⟨hr9, by simp [kN, maxLen]⟩
end Go.Proofs.YtmiacgkidldjmaaGreatDoor
namespace Go.Proofs.YtmiacgkidldjmaaGreatDoor
open Go.RowKit Go.Lib
open Plain (Rg May mayB In Norm In4 slotsOf insB bnd riB cls cnot rightB normB goesL Rch cntA RInv small jmp)
set_option maxRecDepth 100000 in
set_option maxHeartbeats 2000000 in
theorem code_not_w (PI PC LA : Option Addr) (pi pic pc pcc n lc : Nat) (pg g : Int) (w : World) :
    Calls Tryz.prog 23 #[.agg #[.slice PI pi pic, .slice PC pc pcc, .int .i64 pg, .bool false, .slice LA n lc, .int .u8 g]] w fun e w' => e = .returned (.agg #[.slice PI pi pic, .slice PC pc pcc, .int .i64 pg]) ∧ Below w.heap.size w w' := by
  go_enter Tryz.func23, Tryz.ntmps23
  go_wp2_with fail
  obtain ⟨m0, m1, m2⟩ := blk_cells3 (heap_alloc_new2 (w.alloc (.cells #[.slice PI pi pic, .slice PC pc pcc, .int .i64 pg, .bool false, .slice LA n lc, .int .u8 g] 62)) (.cells #[.slice PI pi pic, .slice PC pc pcc, .int .i64 pg] 25) (w.heap.size + 1) _ (by simp))
  exact bodyPost_ret (v := .agg #[.slice PI pi pic, .slice PC pc pcc, .int .i64 pg]) (by simp [results, Tryz.results23, go_sem, m0, m1, m2]) rfl ⟨rfl, ((Below.refl _ _).alloc (Nat.le_refl _) _).alloc (by simp) _⟩
end Go.Proofs.YtmiacgkidldjmaaGreatDoor
namespace Go.Proofs.YtmiacgkidldjmaaGreatDoor
open Go.RowKit Go.Lib
open Plain (Rg May mayB In Norm In4 slotsOf insB bnd riB cls cnot rightB normB goesL Rch cntA RInv small jmp)
theorem code_any_w (PI PC LA : Option Addr) (PL : List In4) (PK : List Cs) (pic pcc lc : Nat) (pg : Int) (own : Bool) (L : List Int) (g : Int) (W w : World) (hC : CodeAt W PI PL PC PK pg LA L g) (hb : Below W.heap.size W w) :
    Calls Tryz.prog 23 #[.agg #[.slice PI PL.length pic, .slice PC PK.length pcc, .int .i64 pg, .bool own, .slice LA L.length lc, .int .u8 g]] w (CodeAny PL PK pg w) := by
  cases own
  · refine (code_not_w PI PC LA PL.length pic PK.length pcc L.length lc pg g w).mono ?_
    rintro e w' ⟨rfl, hbb⟩
    exact ⟨PI, PC, PL, PK, pic, pcc, pg, rfl, (hC.p.below hb).below hbb, hbb, hC.wide, hC.gw, .inl rfl⟩
  · refine (code_own_w PI PC LA PL.length pic PK.length pcc lc pg g L w hC.g0 hC.g1 (hC.l.below hb) hC.ll hC.lb).mono ?_
    rintro e w' ⟨I, c, gc, K, rfl, hO, hP, hK, hbb⟩
    have hk := (codeK_ok K hK).1
    refine ⟨I, some ⟨gc, 0, none⟩, codeLn L g, K, c, 3, g % 3, by rw [hk], hP, hbb, fun t ht => small_in64 (codeLn_mem L g hC.g0 hC.lb t ht).1, ?_, .inr (by rw [codeLn_len]; omega)⟩
    have := hC.g0
    have := hC.g1
    exact ⟨by omega, by omega⟩
end Go.Proofs.YtmiacgkidldjmaaGreatDoor
namespace Go.Proofs.YtmiacgkidldjmaaGreatDoor
open Go.ChangeShapes Go.WideShapes Go.RowKit Go.Lib Go.Deep
open Plain (Rg In4)
section
variable {H : Type} {enc : TypeId × Value → H} {W : World}
set_option maxRecDepth 100000 in
theorem open_code_w {base : Nat} {v : Value} {d : DataW H} {p : List MemPlace} (hv : Value.okWide Tryz.prog W .any base 62 v) (h : DataW.Trod enc Tryz.prog W 0 (fun _ => true) true 62 v d p) :
    ∃ PI PL pic PC PK pcc pg own LA L lc g, v = .agg #[.slice PI PL.length pic, .slice PC PK.length pcc, .int .i64 pg, .bool own, .slice LA L.length lc, .int .u8 g] ∧ CodeAt W PI PL PC PK pg LA L g := by
  obtain ⟨cs, rfl, hsz⟩ := okWide_struct Tryz.underlying62 hv
  have h6 : Tryz.prog.cellsOf 62 = 6 := by kernel_rfl
  have h3 : Tryz.prog.cellsOf 25 = 3 := by kernel_rfl
  have s4 : Tryz.prog.cellsOf 4 = 1 := by kernel_rfl
  have s26 : Tryz.prog.cellsOf 26 = 1 := by kernel_rfl
  have s5 : Tryz.prog.cellsOf 5 = 1 := by kernel_rfl
  have s22 : Tryz.prog.cellsOf 22 = 1 := by kernel_rfl
  have s23 : Tryz.prog.cellsOf 23 = 1 := by kernel_rfl
  have s3 : Tryz.prog.cellsOf 3 = 1 := by kernel_rfl
  obtain ⟨l⟩ := cs
  match l, hsz.trans h6 with
  | [c0, c1, c2, c3, c4, c5], _ =>
    obtain ⟨fuel, hf⟩ := h
    obtain ⟨xs, n, _, hx, _, hlen, hg⟩ := DataW.trod_struct Tryz.underlying62 hf
    match xs, hlen with
    | [y0, y1, y2, y3], _ =>
      have g0 : DataW.trod enc Tryz.prog W 0 (fun _ => true) true n 25 [c0, c1, c2] = some y0 := by simpa [Value.cells, h3] using hg 0 _ rfl
      have g1 : DataW.trod enc Tryz.prog W 0 (fun _ => true) true n 4 [c3] = some y1 := by simpa [Value.cells, s4] using hg 1 _ rfl
      have g2 : DataW.trod enc Tryz.prog W 0 (fun _ => true) true n 26 [c4] = some y2 := by simpa [Value.cells, s26] using hg 2 _ rfl
      have g3 : DataW.trod enc Tryz.prog W 0 (fun _ => true) true n 5 [c5] = some y3 := by simpa [Value.cells, s5] using hg 3 _ rfl
      obtain ⟨ts, m, _, _, _, htl, hgt⟩ := DataW.trod_struct Tryz.underlying25 g0
      match ts, htl with
      | [z0, z1, z2], _ =>
        have t0 : DataW.trod enc Tryz.prog W 0 (fun _ => true) true m 22 [c0] = some z0 := by simpa [s22] using hgt 0 _ rfl
        have t1 : DataW.trod enc Tryz.prog W 0 (fun _ => true) true m 23 [c1] = some z1 := by simpa [s23] using hgt 1 _ rfl
        have t2 : DataW.trod enc Tryz.prog W 0 (fun _ => true) true m 3 [c2] = some z2 := by simpa [s3] using hgt 2 _ rfl
        obtain ⟨PI, PL, pic, e0, hI, i1, i2, i3⟩ := sl_of_elems (w := W) ((0, 0, 0, 0) : In4) i4c 4 (by decide) (fun _ => rfl) In64 Tryz.underlying22 (by kernel_rfl) (fun _ _ _ ht hl => inst_el ht hl) t0
        obtain ⟨PC, PK, pcc, e1, hC, k1, k2, k3⟩ := sl_of_elems (w := W) csD (fun x => [clV x]) 1 (by decide) (fun _ => rfl) (fun r => Rs W r.A r.R ∧ r.R.length ≤ maxLen) Tryz.underlying23 (by kernel_rfl) (fun _ _ _ ht _ => class_el ht) t1
        obtain ⟨pg, e2, _, wpg⟩ := DataW.trod_int Tryz.underlying3 t2
        obtain ⟨own, e3, _⟩ := DataW.trod_bool Tryz.underlying4 g1
        obtain ⟨LA, L, lc, e4, hL, l1, l2, lw⟩ := sl_of_ints Tryz.underlying26 Tryz.underlying48 (by kernel_rfl) g2
        obtain ⟨g, e5, _, wg⟩ := DataW.trod_int Tryz.underlying5 g3
        injection e0 with e0
        injection e1 with e1
        injection e2 with e2
        injection e3 with e3
        injection e4 with e4
        injection e5 with e5
        subst e0 e1 e2 e3 e4 e5
        have hC' : Sl W PC (PK.map clV) := by
          rw [map_flat]
          exact hC
        have hgb := wf_u8b wg
        exact ⟨PI, PL, pic, PC, PK, pcc, pg, own, LA, L, lc, g, rfl, ⟨⟨hI, hC', k3, Nat.le_trans i1 i2, Nat.le_trans k1 k2⟩, i3, wf_i64b wpg, hL, Nat.le_trans l1 l2, u16_bd lw, hgb.1, hgb.2⟩⟩
end
end Go.Proofs.YtmiacgkidldjmaaGreatDoor
namespace Go.Proofs.YtmiacgkidldjmaaGreatDoor
open Go.RowKit Go.Lib
set_option maxRecDepth 1000000 in
set_option maxHeartbeats 8000000 in
theorem grid_own2_w (TP : Option Addr) (tp tpc : Nat) (TN : Option Addr) (tn tnc : Nat) (TA : Option Addr) (ta tac : Nat) (PA : Option Addr) (PL : List Int) (pc : Nat) (NA : Option Addr) (NL : List Int) (nc : Nat) (AA : Option Addr) (AL : List Bool) (ac : Nat) (w : World) (hG : GridAt w PA PL NA NL AA AL) :
    Calls Tryz.prog 24 #[.agg #[.slice TP tp tpc, .slice TN tn tnc, .slice TA ta tac, .bool true, .slice PA PL.length pc, .slice NA NL.length nc, .slice AA AL.length ac]] w (GridRes2 PL NL AL w) := by
  unfold GridRes2
  obtain ⟨X, hX⟩ : ∃ X : Nat → Int, (fun i => PL.getD i 0) = X := ⟨_, rfl⟩
  obtain ⟨Y, hY⟩ : ∃ X : Nat → Int, (fun i => NL.getD i 0) = X := ⟨_, rfl⟩
  obtain ⟨Z, hZ⟩ : ∃ X : Nat → Bool, (fun i => AL.getD i false) = X := ⟨_, rfl⟩
  obtain ⟨np, hnp⟩ : ∃ n, PL.length = n := ⟨_, rfl⟩
  obtain ⟨nn, hnn⟩ : ∃ n, NL.length = n := ⟨_, rfl⟩
  obtain ⟨na, hna⟩ : ∃ n, AL.length = n := ⟨_, rfl⟩
  have hgX : ∀ w', Below w.heap.size w w' → ∀ k, k < np → ∃ b off, PA = some ⟨b, off, none⟩ ∧ w'.cell? ⟨b, off + k, none⟩ = some (.int .u8 (X k)) ∧ 0 ≤ X k ∧ X k < 256 := fun w' hb k hk => by
    obtain ⟨b, off, e, _, hc⟩ := ((hG.below hb).p).get k (by omega)
    exact ⟨b, off, e, by rw [← hX]; exact hc, by rw [← hX]; exact hG.bp k (by omega)⟩
  have hgY : ∀ w', Below w.heap.size w w' → ∀ k, k < nn → ∃ b off, NA = some ⟨b, off, none⟩ ∧ w'.cell? ⟨b, off + k, none⟩ = some (.int .u8 (Y k)) ∧ 0 ≤ Y k ∧ Y k < 256 := fun w' hb k hk => by
    obtain ⟨b, off, e, _, hc⟩ := ((hG.below hb).n).get k (by omega)
    exact ⟨b, off, e, by rw [← hY]; exact hc, by rw [← hY]; exact hG.bn k (by omega)⟩
  have hgZ : ∀ w', Below w.heap.size w w' → ∀ k, k < na → ∃ b off, AA = some ⟨b, off, none⟩ ∧ b < w.heap.size ∧ w'.cell? ⟨b, off + k, none⟩ = some (.bool (Z k)) := fun w' hb k hk => by
    obtain ⟨b, off, e, hbl, hc⟩ := hG.a (by rw [List.length_map]; omega)
    exact ⟨b, off, e, hbl, (hb.cell (p := ⟨b, off + k, none⟩) hbl).trans (by rw [← hZ]; exact hc k _ (by rw [List.getElem?_map, List.getElem?_eq_getElem (by omega)]; simp [List.getD, List.getElem?_eq_getElem (show k < AL.length by omega)]))⟩
  have lp := hG.hp
  have ln := hG.hn
  have la := hG.ha
  rw [hnp] at lp ⊢
  rw [hnn] at ln ⊢
  rw [hna] at la ⊢
  rw [hX, hY, hZ]
  unfold maxLen at lp ln la
  have HX := Lib.hid hgX
  have HY := Lib.hid hgY
  have HZ := Lib.hid hgZ
  clear hgX hgY hgZ hG hX hY hZ hnp hnn hna
  obtain ⟨K, hK⟩ : ∃ K, min np 4 = K := ⟨_, rfl⟩
  obtain ⟨m, hm⟩ : ∃ m, 1 + min na 5 = m := ⟨_, rfl⟩
  have hK4 : K ≤ 4 := by omega
  have hKn : K ≤ np := by omega
  have hKe : K = np ∨ K = 4 := by omega
  have hm1 : 0 < m := by omega
  have hm6 : m ≤ 6 := by omega
  have hma : min (na : Int) 5 = (m : Int) - 1 := by omega
  rw [hK, hm]
  have HM := Lib.hid hma
  clear hK hm hma
  go_enter Tryz.func24, Tryz.ntmps24
  go_upto_block 0 with fail
  generalize hBe : (w.alloc (.cells #[.slice TP tp tpc, .slice TN tn tnc, .slice TA ta tac, .bool true, .slice PA np pc, .slice NA nn nc, .slice AA na ac] 63)).alloc (.cells #[.slice none 0 0, .slice none 0 0, .slice none 0 0] 34) = B
  have hB0 : Below w.heap.size w B := by rw [← hBe]; exact ((Below.refl _ _).alloc (Nat.le_refl _) _).alloc (by simp) _
  have hsB : B.heap.size = w.heap.size + 2 := by rw [← hBe]; simp
  have hC0 : CellsAt B w.heap.size [.slice TP tp tpc, .slice TN tn tnc, .slice TA ta tac, .bool true, .slice PA np pc, .slice NA nn nc, .slice AA na ac] := by rw [← hBe]; exact (CellsAt.new w _ _).alloc _
  have hRB : B.heap[w.heap.size + 1]? = some (.cells #[.slice none 0 0, .slice none 0 0, .slice none 0 0] 34 (0, 0)) := by rw [← hBe]; exact heap_alloc_new2 _ _ _ _ (by simp)
  have hI : Acc B (w.heap.size + 3) 34 21 60 4 ((B.alloc (.cells #[.int .i32 0] 21)).alloc (.cells #[.slice (some ⟨w.heap.size + 2, 0, none⟩) 1 1, .slice none 0 0, .slice none 0 0] 34)) (.slice (some ⟨w.heap.size + 2, 0, none⟩) 1 1) (.slice none 0 0) (.slice none 0 0) [.int .i32 0] [] [] :=
    Acc.init1 (heap_alloc_new2 _ _ _ _ (by simp [hsB])) (by rw [Below.heap_alloc _ _ _ (by simp [hsB]), ← hsB]; exact heap_alloc_new _ _) (((Below.refl _ _).alloc (Nat.le_refl _) _).alloc (by simp) _) (by omega) (by omega) (by omega)
  have HI := Lib.hid hI
  have HB0 := Lib.hid hB0
  have HSB := Lib.hid hsB
  have HC0 := Lib.hid hC0
  have HRB := Lib.hid hRB
  clear hI hB0 hsB hC0 hRB hBe
  obtain ⟨i0, hi, hz0, hz1, hz2⟩ := info_parts info21
  go_cut [] (fun wx => ∃ v0 : Value, Acc B (w.heap.size + 3) 34 21 60 4 wx v0 (.slice none 0 0) (.slice none 0 0) (i32s (Plain.partsG X K)) [] [])
  case first =>
   go_wp2_with fail
   go_loopw [4, 5] (fun l i wr => ∃ (k : Nat) (v0 : Value), k ≤ K ∧ i = .int .i64 k ∧ l = .int .i32 (Plain.lastG X k) ∧ Acc B (w.heap.size + 3) 34 21 60 4 wr v0 (.slice none 0 0) (.slice none 0 0) (i32s (Plain.partsG X k)) [] []) (fun _ i _ => K - (RowKit.intOf i).toNat)
   case atStart => exact ⟨0, _, Nat.zero_le _, rfl, rfl, HI.out⟩
   clear HI
   case round =>
    obtain ⟨k, v0, hk, rfl, rfl, hA⟩ := hrel
    have hbw := HB0.out.trans (hA.below.mono (by rw [HSB.out]; omega))
    have q4 := (HC0.out.below hA.below).at_ 4 _ rfl
    have HAc := Lib.hid hA
    have HBW := Lib.hid hbw
    clear hA hbw
    obtain ⟨lb0, lb1⟩ := Plain.lastG_bd X k
    by_cases hlt : k < K
    · obtain ⟨pb, po, rfl, hcx, x0, x1⟩ := HX.out wr HBW.out k (by omega)
      have hls : Plain.lastG X (k + 1) = Plain.lastG X k + 1 + X k % 3 := rfl
      have hst : i32s (Plain.partsG X (k + 1)) = i32s (Plain.partsG X k) ++ [.int .i32 (Plain.lastG X k + 1 + X k % 3)] := by rw [Plain.partsG_succ, i32s_snoc, hls]
      have hlen : (i32s (Plain.partsG X k)).length = k + 1 := by rw [i32s, List.length_map, Plain.partsG_len]
      have htm : Int.tmod (X k) 3 = X k % 3 := Int.tmod_eq_emod_of_nonneg x0
      have x3 : 0 ≤ X k % 3 ∧ X k % 3 < 3 := by omega
      obtain ⟨x30, x31⟩ := x3
      obtain ⟨d0, d1, d2⟩ := HAc.out.cell
      have hsz := HAc.out.lt
      obtain ⟨xs, hxs⟩ : ∃ xs, i32s (Plain.partsG X k) = xs := ⟨_, rfl⟩
      have hA := HAc.out
      rw [hxs] at hA hst hlen
      generalize Plain.lastG X k = l at *
      generalize hy3 : X k % 3 = y3 at *
      generalize X k = x at *
      have HST := Lib.hid hst
      have HLS := Lib.hid hls
      have HLN := Lib.hid hlen
      have HA2 := Lib.hid hA
      have HY3 := Lib.hid hy3
      clear hst hls hlen hA hxs HAc hy3
      go_wp2_with (at_builtin; refine wpList_append_own2 _ rfl (.tmp 40) (.tmp 42) _ rfl B.heap.size 21 i0 _ 1 4 Tryz.underlying30 hi hz0 hz1 hz2 rfl (by decide) v0 _ xs rfl (HA2.out.o0.alloc _) ⟨wr.heap.size, 0, none⟩ 1 1 [.int .i32 (l + 1 + y3)] rfl rfl ?c1 ?c2 ?c3 ?c4 ?c5 ?_)
      case c1 => exact CellsAt_add (CellsAt.new wr _ _)
      case c2 => intro u hu; simp only [List.mem_cons, List.not_mem_nil, or_false] at hu; subst hu; rfl
      case c3 => rw [HLN.out]; simp only [maxLen]; omega
      case c4 => rw [HLN.out]; omega
      case c5 => have := HA2.out.below.size; simp; omega
      intro v2 w2 hown2 hg2 hb2
      obtain ⟨a2, cp2, rfl⟩ := own_slice hown2
      obtain ⟨s0, s1, s2⟩ := blk_cells3 (blk_grown HA2.out.blk hg2 HA2.out.n0)
      have f0 := blk_frozen (blk_grown HA2.out.blk hg2 HA2.out.n0) 0
      have hN := HA2.out.push0 hown2 hg2 hb2
      have HN := Lib.hid hN
      clear hN hown2 hg2 hb2
      go_wp2
      go_roundw
      case rel => exact ⟨k + 1, _, by omega, by go_num, by rw [HLS.out], by rw [HST.out]; exact HN.out⟩
      case measure => simp [RowKit.intOf]; omega
    · obtain rfl : K = k := by omega
      by_cases h4 : 4 < np
      · go_wp2_with fail
        go_meet
        exact ⟨v0, HAc.out⟩
      · obtain rfl : K = np := by omega
        go_wp2_with fail
        go_meet
        exact ⟨v0, HAc.out⟩
  case rest =>
    obtain ⟨v0, hA⟩ := hcut
    have hbw := HB0.out.trans (hA.below.mono (by rw [HSB.out]; omega))
    have q6 := (HC0.out.below hA.below).at_ 6 _ rfl
    have hp1 : (i32s (Plain.partsG X K)).length = K + 1 := by rw [i32s, List.length_map, Plain.partsG_len]
    obtain ⟨xP, hxP⟩ : ∃ x, i32s (Plain.partsG X K) = x := ⟨_, rfl⟩
    rw [hxP] at hA hp1
    obtain ⟨p, hpe⟩ : ∃ p, K + 1 = p := ⟨_, rfl⟩
    rw [hpe] at hp1
    have hp0 : 0 < p := by omega
    have hp5 : p ≤ 5 := by omega
    have HXP := Lib.hid hxP
    have HA1 := Lib.hid hA
    have HP1 := Lib.hid hp1
    have HPE := Lib.hid hpe
    have hmin := HM.out
    clear hA hxP hp1 hpe HI hbw
    clear hmin
    have hmin := HM.out
    go_wp2_with fail
    rw [show (1 : Int) + ((m : Int) - 1) = m from by omega]
    obtain ⟨iR, hiR, hr0, hr1, hr2⟩ := info_parts info49
    obtain ⟨iB, hiB, hb0, hb1, hb2⟩ := info_parts info4
    obtain ⟨i1, hi1, hy0, hy1, hy2⟩ := info_parts info3
    go_loopw [7, 8, 9, 10, 58] (fun s7 s8 _ _ _ wr => ∃ (k : Nat) (v1 v2 : Value) (R : List Row), k ≤ m ∧ s8 = .int .i64 k ∧ s7 = .int .i64 ((k * p : Nat) : Int) ∧ nums R = Plain.rowsG Y nn m p k ∧
      Acc B (w.heap.size + 3) 34 21 60 4 wr v0 v1 v2 xP (R.map rowV) ((Plain.accG Z na k).map Value.bool) ∧ RowsOwn B (w.heap.size + 3) wr R v1 v2) (fun _ s8 _ _ _ _ => m - (RowKit.intOf s8).toNat)
    case atStart => exact ⟨0, _, _, [], Nat.zero_le _, rfl, by simp, rfl, HA1.out, fun r hr => absurd hr (by simp)⟩
    case round =>
      obtain ⟨k, v1, v2, R, hk, rfl, rfl, hR, hA, hRo⟩ := hrel
      by_cases hlt : k < m
      · have o0 := hA.o0
        rw [HP1.out] at o0
        obtain ⟨a0, c0, rfl⟩ := own_slice o0
        obtain ⟨d0, d1, d2⟩ := hA.cell
        have q5 := (HC0.out.below hA.below).at_ 5 _ rfl
        have HRn := Lib.hid hR
        have HAc := Lib.hid hA
        have HRo := Lib.hid hRo
        clear hR hA hRo o0
        obtain ⟨s, hs⟩ : ∃ s, k * p = s := ⟨_, rfl⟩
        have hs30 : s ≤ 30 := by rw [← hs]; exact Nat.le_trans (Nat.mul_le_mul (show k ≤ 6 by omega) hp5) (Nat.le_refl _)
        rw [hs]
        have HS := Lib.hid hs
        clear hs
        go_wp2_with fail
        obtain ⟨w3, rfl⟩ : ∃ w3, w3 = wr := ⟨_, rfl⟩
        go_loopw [7, 9, 10, 58] (fun s7 s9 _ s58 wr => ∃ (u : Value) (j : Nat), u = s9 ∧ j ≤ p ∧ s58 = .int .i64 j ∧ s7 = .int .i64 ((s + j : Nat) : Int) ∧ Below w3.heap.size w3 wr ∧ wr.ownsRow w3.heap.size 3 1 u j (i64s (Plain.rowG Y nn m p k j))) (fun _ _ _ s58 _ => p - (RowKit.intOf s58).toNat)
        case atStart => exact ⟨_, 0, rfl, Nat.zero_le _, rfl, rfl, Below.refl _ _, by simpa [i64s, Plain.rowG] using World.ownsRow_nil _ _ _ _⟩
        case round =>
          obtain ⟨u, j, rfl, hj, rfl, rfl, hB, hU⟩ := hrel
          have HB := Lib.hid hB
          have HU := Lib.hid hU
          clear hB hU
          by_cases hjlt : j < p
          · have b5 := (HB.out.cell (p := ⟨w.heap.size, 5, none⟩) (show w.heap.size < _ by have := HAc.out.lt; omega)).trans q5
            obtain ⟨t, ht⟩ : ∃ t, s + j = t := ⟨_, rfl⟩
            have hst : i64s (Plain.rowG Y nn m p k (j + 1)) = i64s (Plain.rowG Y nn m p k j) ++ [.int .i64 (Plain.cellG Y nn m t)] := by
              rw [Plain.rowG_succ, HS.out, ht]; simp [i64s]
            obtain ⟨xs, hxs⟩ : ∃ xs, i64s (Plain.rowG Y nn m p k j) = xs := ⟨_, rfl⟩
            have hU := HU.out
            rw [hxs] at hst hU
            have hxl : xs.length ≤ 8 := by have := hU.1; omega
            have ht35 : t ≤ 40 := by omega
            have htj : s + (j + 1) = t + 1 := by omega
            rw [ht]
            have HST := Lib.hid hst
            have HU2 := Lib.hid hU
            have HTJ := Lib.hid htj
            clear hst hU hxs HU ht htj
            have hsz := HB.out.size
            have fin : ∀ y : Int, Plain.cellG Y nn m t = y → True := fun _ _ => trivial
            by_cases htn : t < nn
            · have hbY := (HB0.out.trans (HAc.out.below.mono (by rw [HSB.out]; omega))).trans (HB.out.mono (by have := HAc.out.below.size; rw [HSB.out] at this; omega))
              obtain ⟨nb, no, rfl, hcx, x0, x1⟩ := HY.out wr hbY t htn
              have hcg : Plain.cellG Y nn m t = Y t % (m : Int) := by unfold Plain.cellG; rw [if_pos htn]
              have htm : Int.tmod (Y t) (m : Int) = Y t % (m : Int) := Int.tmod_eq_emod_of_nonneg x0
              have hx2 : 0 ≤ Y t % (m : Int) := Int.emod_nonneg _ (by omega)
              have hx3 : Y t % (m : Int) < m := Int.emod_lt_of_pos _ (by omega)
              generalize Y t % (m : Int) = y at *
              generalize Y t = x at *
              have HCG := Lib.hid hcg
              clear hcg hbY fin
              go_wp2_with (at_builtin; refine wpList_append_own2 _ rfl (.tmp 73) (.tmp 75) _ rfl w3.heap.size 3 i1 _ 1 8 Tryz.underlying60 hi1 hy0 hy1 hy2 rfl (by decide) u j xs rfl (HU2.out.alloc _) ⟨wr.heap.size, 0, none⟩ 1 1 [.int .i64 y] rfl rfl ?c1 ?c2 ?c3 ?c4 ?c5 ?_)
              case c1 => exact CellsAt_add (CellsAt.new wr _ _)
              case c2 => intro u hu; simp only [List.mem_cons, List.not_mem_nil, or_false] at hu; subst hu; rfl
              case c3 => simp only [maxLen]; omega
              case c4 => omega
              case c5 => simp; omega
              intro v3 w2 hown2 hg2 _
              have hBn : Below w3.heap.size w3 w2 := (HB.out.alloc HB.out.size _).grown hg2 (by simp; omega) (fun g hg => (HU2.out.lt g hg).1)
              have HBn := Lib.hid hBn
              have HO := Lib.hid hown2
              clear hBn hg2 hown2
              go_wp2
              go_roundw
              case rel => exact ⟨_, j + 1, rfl, by omega, by go_num, by rw [HTJ.out]; go_num, HBn.out, by rw [HST.out, HCG.out]; exact HO.out⟩
              case measure => simp [RowKit.intOf]; omega
            · have hcg : Plain.cellG Y nn m t = 0 := by unfold Plain.cellG; rw [if_neg htn]
              obtain ⟨y, hy⟩ : ∃ y : Int, y = 0 := ⟨0, rfl⟩
              have HCG := Lib.hid hcg
              clear hcg fin hy y
              go_wp2_with (at_builtin; refine wpList_append_own2 _ rfl (.tmp 73) (.tmp 75) _ rfl w3.heap.size 3 i1 _ 1 8 Tryz.underlying60 hi1 hy0 hy1 hy2 rfl (by decide) u j xs rfl (HU2.out.alloc _) ⟨wr.heap.size, 0, none⟩ 1 1 [.int .i64 0] rfl rfl ?c1 ?c2 ?c3 ?c4 ?c5 ?_)
              case c1 => exact CellsAt_add (CellsAt.new wr _ _)
              case c2 => intro u hu; simp only [List.mem_cons, List.not_mem_nil, or_false] at hu; subst hu; rfl
              case c3 => simp only [maxLen]; omega
              case c4 => omega
              case c5 => simp; omega
              intro v3 w2 hown2 hg2 _
              have hBn : Below w3.heap.size w3 w2 := (HB.out.alloc HB.out.size _).grown hg2 (by simp; omega) (fun g hg => (HU2.out.lt g hg).1)
              have HBn := Lib.hid hBn
              have HO := Lib.hid hown2
              clear hBn hg2 hown2
              go_wp2
              go_roundw
              case rel => exact ⟨_, j + 1, rfl, by omega, by go_num, by rw [HTJ.out]; go_num, HBn.out, by rw [HST.out, HCG.out]; exact HO.out⟩
              case measure => simp [RowKit.intOf]; omega
          · obtain rfl : p = j := by omega
            obtain ⟨L, hL⟩ : ∃ L, Plain.rowG Y nn m p k p = L := ⟨_, rfl⟩
            have hLl : L.length = p := by rw [← hL]; exact Plain.rowG_len _ _ _ _ _ _
            have hU := HU.out
            rw [hL] at hU
            obtain ⟨ua, uc, rfl⟩ := own_slice hU
            have hAk := HAc.out.kept HB.out
            have hRk := RowsOwn.kept HRo.out HB.out
            have hrv : rowV (ua, uc, L) = .slice ua p uc := by unfold rowV; dsimp only; rw [hLl]
            have hlt0 := HAc.out.lt
            have hRU : wr.ownsRow B.heap.size 3 1 (rowV (ua, uc, L)) L.length (i64s L) := by
              have h := own_base hU HAc.out.below.size
              unfold rowV; dsimp only; rw [hLl]; exact h
            have hUF : (rowV (ua, uc, L)).ownBlock ≠ some (w.heap.size + 3) := fun e => by
              have h := hU.lt _ (hrv ▸ e)
              omega
            have hU1 : apart (rowV (ua, uc, L)) v1 := fun g hg e => by
              have h := hU.lt _ (hrv ▸ hg)
              have := (HAc.out.o1.lt g e).2
              omega
            have hU2 : apart (rowV (ua, uc, L)) v2 := fun g hg e => by
              have h := hU.lt _ (hrv ▸ hg)
              have := (HAc.out.o2.lt g e).2
              omega
            have hRS := hRk.snoc ⟨hRU, hUF, hU1, hU2⟩
            have hnr : nums (R ++ [(ua, uc, L)]) = Plain.rowsG Y nn m p (k + 1) := by
              unfold nums
              rw [List.map_append, show R.map (fun r => r.2.2) = nums R from rfl, HRn.out, Plain.rowsG_succ, hL]; rfl
            have hx1n : (R ++ [(ua, uc, L)]).map rowV = R.map rowV ++ [.slice ua p uc] := by
              rw [List.map_append, List.map_singleton, hrv]
            have hx1l : (R.map rowV).length = k := by
              have := congrArg List.length HRn.out
              rw [Plain.rowsG_len] at this
              simpa [nums] using this
            have hx2n : (Plain.accG Z na (k + 1)).map Value.bool = (Plain.accG Z na k).map Value.bool ++ [.bool (decide (k < na) && Z k)] := by
              rw [Plain.accG_succ, List.map_append]; rfl
            have hx2l : ((Plain.accG Z na k).map Value.bool).length = k := by rw [List.length_map, Plain.accG_len]
            have hkp : s + p = (k + 1) * p := by rw [← HS.out, Nat.add_mul, Nat.one_mul]
            obtain ⟨x1, hx1⟩ : ∃ x, R.map rowV = x := ⟨_, rfl⟩
            obtain ⟨x2, hx2⟩ : ∃ x, (Plain.accG Z na k).map Value.bool = x := ⟨_, rfl⟩
            rw [hx1, hx2] at hAk
            rw [hx1] at hx1l hx1n
            rw [hx2] at hx2l hx2n
            obtain ⟨e0, e1, e2⟩ := hAk.cell
            have HA3 := Lib.hid hAk
            have HRS := Lib.hid hRS
            have HX1L := Lib.hid hx1l
            have HX2L := Lib.hid hx2l
            have HX1N := Lib.hid hx1n
            have HX2N := Lib.hid hx2n
            have HNR := Lib.hid hnr
            have HKP := Lib.hid hkp
            have hBw3 : w3.heap.size ≤ wr.heap.size := HB.out.size
            clear hL hLl hU hAk hRk hrv hRU hUF hU1 hU2 hRS hnr hx1n hx1l hx2n hx2l hkp hx1 hx2 HU d0 d1 d2 q5
            go_wp2_with (at_builtin; refine wpList_append_own2 _ rfl (.tmp 81) (.tmp 83) _ rfl B.heap.size 60 iR _ 1 24 Tryz.underlying31 hiR hr0 hr1 hr2 rfl (by decide) v1 _ x1 rfl (HA3.out.o1.alloc _) ⟨wr.heap.size, 0, none⟩ 1 1 [.slice ua p uc] rfl rfl ?c1 ?c2 ?c3 ?c4 ?c5 ?_)
            case c1 => exact CellsAt_add (CellsAt.new wr _ _)
            case c2 => intro u hu; simp only [List.mem_cons, List.not_mem_nil, or_false] at hu; subst hu; rfl
            case c3 => rw [HX1L.out]; simp only [maxLen]; omega
            case c4 => rw [HX1L.out]; omega
            case c5 => have := HA3.out.below.size; simp; omega
            intro v1' w5 hown2 hg2 hb2
            obtain ⟨a2, cp2, rfl⟩ := own_slice hown2
            obtain ⟨s0, s1, s2⟩ := blk_cells3 (blk_grown HA3.out.blk hg2 HA3.out.n1)
            have f1 := blk_frozen (blk_grown HA3.out.blk hg2 HA3.out.n1) 1
            have hN := HA3.out.push1 hown2 hg2 hb2
            have hRN := HRS.out.push1 hg2 hb2
            have HN := Lib.hid hN
            have HRN := Lib.hid hRN
            clear hN hRN hown2 hg2 hb2 e0 e1 e2
            go_upto_region 25 with fail
            generalize hw6 : w5.setCell ⟨w.heap.size + 3, 1, none⟩ _ = w6 at HN HRN ⊢
            clear hw6 s0 s1 s2 f1
            have d2 := HN.out.cell.2.2
            have q6' := (HC0.out.below HN.out.below).at_ 6 _ rfl
            have hbw6 := HB0.out.trans (HN.out.below.mono (by rw [HSB.out]; omega))
            have HBW6 := Lib.hid hbw6
            clear hbw6
            have HV2W := Lib.hid (show v2.ownBlock ≠ some w.heap.size from fun e => by have := (HN.out.o2.lt _ e).1; rw [HSB.out] at this; omega)
            by_cases hkn : k < na
            · obtain ⟨zb, zo, rfl, hzb, hzc⟩ := HZ.out w6 HBW6.out k hkn
              have hbz : zb < w6.heap.size := Nat.lt_of_lt_of_le hzb HBW6.out.size
              have HV2Z := Lib.hid (show v2.ownBlock ≠ some zb from fun e => by have := (HN.out.o2.lt _ e).1; rw [HSB.out] at this; omega)
              have hk0 : (0 : Int) ≤ (k : Int) := by omega
              have hk1 : (k : Int) < (na : Int) := by omega
              have hdk : decide ((k : Int) < (na : Int)) = true := by simp; omega
              have hdk2 : decide (k < na) = true := by simp [hkn]
              have hzd : (decide (k < na) && Z k) = Z k := by simp [hkn]
              have hS0 : (fun w' => w'.cell? ⟨w.heap.size + 3, 2, none⟩ = some v2 ∧ w'.cell? ⟨w.heap.size, 6, none⟩ = some (.slice (some ⟨zb, zo, none⟩) na ac) ∧ w'.cell? ⟨zb, zo + k, none⟩ = some (.bool (Z k))) w6.drew := ⟨d2, q6', hzc⟩
              have HS0 := Lib.hid hS0
              have HZD := Lib.hid hzd
              clear hS0 hzd
              refine wp_region_noPanic ?_
              refine wp_region_T 16 (S := fun w' => w'.cell? ⟨w.heap.size + 3, 2, none⟩ = some v2 ∧ w'.cell? ⟨w.heap.size, 6, none⟩ = some (.slice (some ⟨zb, zo, none⟩) na ac) ∧ w'.cell? ⟨zb, zo + k, none⟩ = some (.bool (Z k))) (by kernel_rfl) (by decide) ?_
              refine wpAnyT_take2 0 (v := ?tv101) (by kernel_rfl) rfl (by kernel_rfl) (fun _ _ _ h => h) (Or.inl ⟨by rfl, ?ty101⟩) HS0.out ?tr101
              case ty101 => (intro w' hSw; (try dsimp only at hSw); go_simp; try with_reducible rfl)
              try simp only [Act.put, List.setIfInBounds_toArray, List.set_cons_zero, List.set_cons_succ]
              refine wpAnyT_take2 1 (v := ?tv102) (by kernel_rfl) rfl (by kernel_rfl) (fun _ _ _ h => h) (Or.inl ⟨by rfl, ?ty102⟩) HS0.out ?tr102
              case ty102 => (intro w' hSw; (try dsimp only at hSw); go_simp; try with_reducible rfl)
              try simp only [Act.put, List.setIfInBounds_toArray, List.set_cons_zero, List.set_cons_succ]
              refine wpAnyT_take2 2 (v := ?tv103) (by kernel_rfl) rfl (by kernel_rfl) (fun _ _ _ h => h) (Or.inl ⟨by rfl, ?ty103⟩) HS0.out ?tr103
              case ty103 => (intro w' hSw; (try dsimp only at hSw); go_simp; try with_reducible rfl)
              try simp only [Act.put, List.setIfInBounds_toArray, List.set_cons_zero, List.set_cons_succ]
              refine wpAnyT_take2 3 (v := ?tv104) (by kernel_rfl) rfl (by kernel_rfl) (fun _ _ _ h => h) (Or.inl ⟨by rfl, ?ty104⟩) HS0.out ?tr104
              case ty104 => (intro w' hSw; (try dsimp only at hSw); go_simp; try with_reducible rfl)
              try simp only [Act.put, List.setIfInBounds_toArray, List.set_cons_zero, List.set_cons_succ]
              refine wpAnyT_take2 4 (v := ?tv105) (by kernel_rfl) rfl (by kernel_rfl) (fun _ _ _ h => h) (Or.inl ⟨by rfl, ?ty105⟩) HS0.out ?tr105
              case ty105 => (intro w' hSw; (try dsimp only at hSw); go_simp; try with_reducible rfl)
              try simp only [Act.put, List.setIfInBounds_toArray, List.set_cons_zero, List.set_cons_succ]
              refine wpAnyT_take2 5 (v := ?tv106) (by kernel_rfl) rfl (by kernel_rfl) (fun _ _ _ h => h) (Or.inl ⟨by rfl, ?ty106⟩) HS0.out ?tr106
              case ty106 => (intro w' hSw; (try dsimp only at hSw); go_simp; try with_reducible rfl)
              try simp only [Act.put, List.setIfInBounds_toArray, List.set_cons_zero, List.set_cons_succ]
              refine wpAnyT_take2 6 (v := ?tv107) (by kernel_rfl) rfl (by kernel_rfl) (fun _ _ _ h => h) (Or.inl ⟨by rfl, ?ty107⟩) HS0.out ?tr107
              case ty107 => (intro w' hSw; (try dsimp only at hSw); go_simp; try with_reducible rfl)
              try simp only [Act.put, List.setIfInBounds_toArray, List.set_cons_zero, List.set_cons_succ]
              refine wpAnyT_take2 7 (v := ?tv108) (by kernel_rfl) rfl (by kernel_rfl) (fun _ _ _ h => h) (Or.inl ⟨by rfl, ?ty108⟩) HS0.out ?tr108
              case ty108 => (intro w' hSw; (try dsimp only at hSw); go_simp; try with_reducible rfl)
              try simp only [Act.put, List.setIfInBounds_toArray, List.set_cons_zero, List.set_cons_succ]
              refine wpAnyT_take2 8 (v := ?tv109) (by kernel_rfl) rfl (by kernel_rfl) (fun _ _ _ h => h) (Or.inl ⟨by rfl, ?ty109⟩) HS0.out ?tr109
              case ty109 => (intro w' hSw; (try dsimp only at hSw); go_simp; try with_reducible rfl)
              try simp only [Act.put, List.setIfInBounds_toArray, List.set_cons_zero, List.set_cons_succ]
              refine wpAnyT_take2 9 (v := ?tv110) (by kernel_rfl) rfl (by kernel_rfl) (fun _ _ _ h => h) (Or.inl ⟨by rfl, ?ty110⟩) HS0.out ?tr110
              case ty110 => (intro w' hSw; (try dsimp only at hSw); go_simp; try with_reducible rfl)
              try simp only [Act.put, List.setIfInBounds_toArray, List.set_cons_zero, List.set_cons_succ]
              refine wpAnyT_take2 10 (v := ?tv111) (by kernel_rfl) rfl (by kernel_rfl) (fun _ _ _ h => h) (Or.inl ⟨by rfl, ?ty111⟩) HS0.out ?tr111
              case ty111 => (intro w' hSw; (try dsimp only at hSw); go_simp; try with_reducible rfl)
              try simp only [Act.put, List.setIfInBounds_toArray, List.set_cons_zero, List.set_cons_succ]
              refine wpAnyT_take2 11 (v := ?tv112) (by kernel_rfl) rfl (by kernel_rfl) (fun _ _ _ h => h) (Or.inl ⟨by rfl, ?ty112⟩) HS0.out ?tr112
              case ty112 => (intro w' hSw; (try dsimp only at hSw); go_simp; try with_reducible rfl)
              try simp only [Act.put, List.setIfInBounds_toArray, List.set_cons_zero, List.set_cons_succ]
              refine wpAnyT_take2 12 (v := ?tv113) (by kernel_rfl) rfl (by kernel_rfl) (fun _ _ _ h => h) (Or.inl ⟨by rfl, ?ty113⟩) HS0.out ?tr113
              case ty113 => (intro w' hSw; (try dsimp only at hSw); go_simp; try with_reducible rfl)
              try simp only [Act.put, List.setIfInBounds_toArray, List.set_cons_zero, List.set_cons_succ]
              refine wpAnyT_take2 13 (v := ?tv114) (by kernel_rfl) rfl (by kernel_rfl) (fun _ _ _ h => h) (Or.inl ⟨by rfl, ?ty114⟩) HS0.out ?tr114
              case ty114 => (intro w' hSw; (try dsimp only at hSw); go_simp; try with_reducible rfl)
              try simp only [Act.put, List.setIfInBounds_toArray, List.set_cons_zero, List.set_cons_succ]
              refine wpAnyT_one2 14 rfl (by kernel_rfl) ?_
              intro K' hK'
              have HK' := Lib.hid hK'
              clear hK'
              go_simp
              refine HK'.out _ _ ⟨⟨(Two.cell (by repeat (first | refine Two.drew ?_ | refine Two.alloc ?_ _ | exact Two.refl _ _ _) : Two w6 _ v2.ownBlock none) HN.out.lt HN.out.n2 (by simp) 2).trans HS0.out.1, (Two.cell (by repeat (first | refine Two.drew ?_ | refine Two.alloc ?_ _ | exact Two.refl _ _ _) : Two w6 _ v2.ownBlock none) (show w.heap.size < _ by have := HN.out.lt; omega) HV2W.out (by simp) 6).trans HS0.out.2.1, (Two.cell (by repeat (first | refine Two.drew ?_ | refine Two.alloc ?_ _ | exact Two.refl _ _ _) : Two w6 _ v2.ownBlock none) hbz HV2Z.out (by simp) (zo + k)).trans HS0.out.2.2⟩, ?_⟩
              clear HK' K'
              try simp only [Act.put, List.setIfInBounds_toArray, List.set_cons_zero, List.set_cons_succ]
              refine wpAnyT_one2 15 rfl (by kernel_rfl) ?_
              intro K' hK'
              have HK' := Lib.hid hK'
              clear hK'
              refine step_append_lies _ (by rfl) (.tmp 87) (.tmp 100) 32 (by rfl) B.heap.size 4 iB _ 1 1 Tryz.underlying32 hiB hb0 hb1 hb2 rfl (by decide) v2 k x2 (by rfl) ?o115 _ 1 1 [.bool (Z k)] (by rfl) rfl ?n115 ?c115 (by decide) ?m115 ?b115 ?s115 _ rfl ?_
              case o115 => exact Two.own (r1 := none) (r2 := none) (by repeat (first | refine Two.drew ?_ | refine Two.alloc ?_ _ | exact Two.refl _ _ _)) (HX2L.out ▸ HN.out.o2) (by simp) (by simp)
              case n115 => exact CellsAt_add (CellsAt.new w6 _ _)
              case c115 => (intro u hu; simp only [List.mem_cons, List.not_mem_nil, or_false] at hu; subst hu; rfl)
              case m115 => (simp only [maxLen]; omega)
              case b115 => omega
              case s115 => (have := HN.out.below.size; simp; omega)
              intro gb cpb wb ownb growb atb ltb
              refine HK'.out _ _ ⟨⟨(Two.cell ((by repeat (first | refine Two.drew ?_ | refine Two.alloc ?_ _ | exact Two.refl _ _ _) : Two w6 _ v2.ownBlock none).grown growb (fun k hk _ => .inl hk.symm)) HN.out.lt HN.out.n2 (by simp) 2).trans HS0.out.1, (Two.cell ((by repeat (first | refine Two.drew ?_ | refine Two.alloc ?_ _ | exact Two.refl _ _ _) : Two w6 _ v2.ownBlock none).grown growb (fun k hk _ => .inl hk.symm)) (show w.heap.size < _ by have := HN.out.lt; omega) HV2W.out (by simp) 6).trans HS0.out.2.1, (Two.cell ((by repeat (first | refine Two.drew ?_ | refine Two.alloc ?_ _ | exact Two.refl _ _ _) : Two w6 _ v2.ownBlock none).grown growb (fun k hk _ => .inl hk.symm)) hbz HV2Z.out (by simp) (zo + k)).trans HS0.out.2.2⟩, ?_⟩
              clear HK' K'
              try simp only [Act.put, List.setIfInBounds_toArray, List.set_cons_zero, List.set_cons_succ]
              have growc : (w6.alloc (.cells #[.bool (Z k)] 4)).grownBy wb v2.ownBlock := ⟨growb.os, growb.tape, growb.output, growb.size, growb.block⟩
              have hfin := HN.out.push2 ownb growc (by rcases atb with e | e; exact .inl (by rw [e]; rfl); exact .inr (by rw [e]; simp [Value.ownBlock]))
              have hfinR := HRN.out.push2 growc (v' := .slice (some ⟨gb, 0, none⟩) (k + 1) cpb) (by rcases atb with e | e; exact .inl (by rw [e]; rfl); exact .inr (by rw [e]; simp [Value.ownBlock]))
              obtain ⟨s0, s1, s2⟩ := blk_cells3 (blk_grown HN.out.blk growc HN.out.n2)
              have f2 := blk_frozen (blk_grown HN.out.blk growc HN.out.n2) 2
              have HFIN := Lib.hid hfin
              have HFINR := Lib.hid hfinR
              clear hfin hfinR growc growb ownb atb ltb
              refine ⟨by kernel_rfl, ?_⟩
              change wpList _ _ _ [_, _] _ _
              go_wp2
              refine NoPanic.normal ?_
              go_wp2
              go_roundw
              case rel => exact ⟨k + 1, _, _, R ++ [(ua, uc, L)], by omega, by go_num, by rw [← HKP.out]; go_num, HNR.out, by rw [HX1N.out, HX2N.out, HZD.out]; exact HFIN.out, HFINR.out⟩
              case measure => simp [RowKit.intOf]; omega
            · have hdk : decide ((k : Int) < (na : Int)) = false := by simp; omega
              have hdk2 : decide (k < na) = false := by simp [hkn]
              have hzd : (decide (k < na) && Z k) = false := by simp [hkn]
              have hS0 : (fun w' => w'.cell? ⟨w.heap.size + 3, 2, none⟩ = some v2 ∧ w'.cell? ⟨w.heap.size, 6, none⟩ = some (.slice AA na ac)) w6.drew := ⟨d2, q6'⟩
              have HS0 := Lib.hid hS0
              have HZD := Lib.hid hzd
              clear hS0 hzd
              refine wp_region_noPanic ?_
              refine wp_region_T 16 (S := fun w' => w'.cell? ⟨w.heap.size + 3, 2, none⟩ = some v2 ∧ w'.cell? ⟨w.heap.size, 6, none⟩ = some (.slice AA na ac)) (by kernel_rfl) (by decide) ?_
              refine wpAnyT_take2 0 (v := ?tv116) (by kernel_rfl) rfl (by kernel_rfl) (fun _ _ _ h => h) (Or.inl ⟨by rfl, ?ty116⟩) HS0.out ?tr116
              case ty116 => (intro w' hSw; (try dsimp only at hSw); go_simp; try with_reducible rfl)
              try simp only [Act.put, List.setIfInBounds_toArray, List.set_cons_zero, List.set_cons_succ]
              refine wpAnyT_take2 1 (v := ?tv117) (by kernel_rfl) rfl (by kernel_rfl) (fun _ _ _ h => h) (Or.inl ⟨by rfl, ?ty117⟩) HS0.out ?tr117
              case ty117 => (intro w' hSw; (try dsimp only at hSw); go_simp; try with_reducible rfl)
              try simp only [Act.put, List.setIfInBounds_toArray, List.set_cons_zero, List.set_cons_succ]
              refine wpAnyT_take2 2 (v := ?tv118) (by kernel_rfl) rfl (by kernel_rfl) (fun _ _ _ h => h) (Or.inl ⟨by rfl, ?ty118⟩) HS0.out ?tr118
              case ty118 => (intro w' hSw; (try dsimp only at hSw); go_simp; try with_reducible rfl)
              try simp only [Act.put, List.setIfInBounds_toArray, List.set_cons_zero, List.set_cons_succ]
              refine wpAnyT_take2 3 (v := ?tv119) (by kernel_rfl) rfl (by kernel_rfl) (fun _ _ _ h => h) (Or.inl ⟨by rfl, ?ty119⟩) HS0.out ?tr119
              case ty119 => (intro w' hSw; (try dsimp only at hSw); go_simp; try with_reducible rfl)
              try simp only [Act.put, List.setIfInBounds_toArray, List.set_cons_zero, List.set_cons_succ]
              refine wpAnyT_take2 4 (v := ?tv120) (by kernel_rfl) rfl (by kernel_rfl) (fun _ _ _ h => h) (Or.inl ⟨by rfl, ?ty120⟩) HS0.out ?tr120
              case ty120 => (intro w' hSw; (try dsimp only at hSw); go_simp; try with_reducible rfl)
              try simp only [Act.put, List.setIfInBounds_toArray, List.set_cons_zero, List.set_cons_succ]
              refine wpAnyT_take2 5 (v := ?tv121) (by kernel_rfl) rfl (by kernel_rfl) (fun _ _ _ h => h) (Or.inl ⟨by rfl, ?ty121⟩) HS0.out ?tr121
              case ty121 => (intro w' hSw; (try dsimp only at hSw); go_simp; try with_reducible rfl)
              try simp only [Act.put, List.setIfInBounds_toArray, List.set_cons_zero, List.set_cons_succ]
              refine wpAnyT_take2 6 (v := ?tv122) (by kernel_rfl) rfl (by kernel_rfl) (fun _ _ _ h => h) (Or.inl ⟨by rfl, ?ty122⟩) HS0.out ?tr122
              case ty122 => (intro w' hSw; (try dsimp only at hSw); go_simp; try with_reducible rfl)
              try simp only [Act.put, List.setIfInBounds_toArray, List.set_cons_zero, List.set_cons_succ]
              refine wpAnyT_take2 7 (v := ?tv123) (by kernel_rfl) rfl (by kernel_rfl) (fun _ _ _ h => h) (Or.inl ⟨by rfl, ?ty123⟩) HS0.out ?tr123
              case ty123 => (intro w' hSw; (try dsimp only at hSw); go_simp; try with_reducible rfl)
              try simp only [Act.put, List.setIfInBounds_toArray, List.set_cons_zero, List.set_cons_succ]
              refine wpAnyT_take2 8 (by kernel_rfl) rfl (by kernel_rfl) (fun _ _ _ h => h) (Or.inr ⟨by rfl, rfl⟩) HS0.out ?tr124
              try simp only [Act.put, List.setIfInBounds_toArray, List.set_cons_zero, List.set_cons_succ]
              refine wpAnyT_take2 9 (by kernel_rfl) rfl (by kernel_rfl) (fun _ _ _ h => h) (Or.inr ⟨by rfl, rfl⟩) HS0.out ?tr125
              try simp only [Act.put, List.setIfInBounds_toArray, List.set_cons_zero, List.set_cons_succ]
              refine wpAnyT_take2 10 (by kernel_rfl) rfl (by kernel_rfl) (fun _ _ _ h => h) (Or.inr ⟨by rfl, rfl⟩) HS0.out ?tr126
              try simp only [Act.put, List.setIfInBounds_toArray, List.set_cons_zero, List.set_cons_succ]
              refine wpAnyT_take2 11 (by kernel_rfl) rfl (by kernel_rfl) (fun _ _ _ h => h) (Or.inr ⟨by rfl, rfl⟩) HS0.out ?tr127
              try simp only [Act.put, List.setIfInBounds_toArray, List.set_cons_zero, List.set_cons_succ]
              refine wpAnyT_take2 12 (by kernel_rfl) rfl (by kernel_rfl) (fun _ _ _ h => h) (Or.inr ⟨by rfl, rfl⟩) HS0.out ?tr128
              try simp only [Act.put, List.setIfInBounds_toArray, List.set_cons_zero, List.set_cons_succ]
              refine wpAnyT_take2 13 (v := ?tv129) (by kernel_rfl) rfl (by kernel_rfl) (fun _ _ _ h => h) (Or.inl ⟨by rfl, ?ty129⟩) HS0.out ?tr129
              case ty129 => (intro w' hSw; (try dsimp only at hSw); go_simp; try with_reducible rfl)
              try simp only [Act.put, List.setIfInBounds_toArray, List.set_cons_zero, List.set_cons_succ]
              refine wpAnyT_one2 14 rfl (by kernel_rfl) ?_
              intro K' hK'
              have HK' := Lib.hid hK'
              clear hK'
              go_simp
              refine HK'.out _ _ ⟨⟨(Two.cell (by repeat (first | refine Two.drew ?_ | refine Two.alloc ?_ _ | exact Two.refl _ _ _) : Two w6 _ v2.ownBlock none) HN.out.lt HN.out.n2 (by simp) 2).trans HS0.out.1, (Two.cell (by repeat (first | refine Two.drew ?_ | refine Two.alloc ?_ _ | exact Two.refl _ _ _) : Two w6 _ v2.ownBlock none) (show w.heap.size < _ by have := HN.out.lt; omega) HV2W.out (by simp) 6).trans HS0.out.2⟩, ?_⟩
              clear HK' K'
              try simp only [Act.put, List.setIfInBounds_toArray, List.set_cons_zero, List.set_cons_succ]
              refine wpAnyT_one2 15 rfl (by kernel_rfl) ?_
              intro K' hK'
              have HK' := Lib.hid hK'
              clear hK'
              refine step_append_lies _ (by rfl) (.tmp 87) (.tmp 100) 32 (by rfl) B.heap.size 4 iB _ 1 1 Tryz.underlying32 hiB hb0 hb1 hb2 rfl (by decide) v2 k x2 (by rfl) ?o130 _ 1 1 [.bool (false)] (by rfl) rfl ?n130 ?c130 (by decide) ?m130 ?b130 ?s130 _ rfl ?_
              case o130 => exact Two.own (r1 := none) (r2 := none) (by repeat (first | refine Two.drew ?_ | refine Two.alloc ?_ _ | exact Two.refl _ _ _)) (HX2L.out ▸ HN.out.o2) (by simp) (by simp)
              case n130 => exact CellsAt_add (CellsAt.new w6 _ _)
              case c130 => (intro u hu; simp only [List.mem_cons, List.not_mem_nil, or_false] at hu; subst hu; rfl)
              case m130 => (simp only [maxLen]; omega)
              case b130 => omega
              case s130 => (have := HN.out.below.size; simp; omega)
              intro gb cpb wb ownb growb atb ltb
              refine HK'.out _ _ ⟨⟨(Two.cell ((by repeat (first | refine Two.drew ?_ | refine Two.alloc ?_ _ | exact Two.refl _ _ _) : Two w6 _ v2.ownBlock none).grown growb (fun k hk _ => .inl hk.symm)) HN.out.lt HN.out.n2 (by simp) 2).trans HS0.out.1, (Two.cell ((by repeat (first | refine Two.drew ?_ | refine Two.alloc ?_ _ | exact Two.refl _ _ _) : Two w6 _ v2.ownBlock none).grown growb (fun k hk _ => .inl hk.symm)) (show w.heap.size < _ by have := HN.out.lt; omega) HV2W.out (by simp) 6).trans HS0.out.2⟩, ?_⟩
              clear HK' K'
              try simp only [Act.put, List.setIfInBounds_toArray, List.set_cons_zero, List.set_cons_succ]
              have growc : (w6.alloc (.cells #[.bool (false)] 4)).grownBy wb v2.ownBlock := ⟨growb.os, growb.tape, growb.output, growb.size, growb.block⟩
              have hfin := HN.out.push2 ownb growc (by rcases atb with e | e; exact .inl (by rw [e]; rfl); exact .inr (by rw [e]; simp [Value.ownBlock]))
              have hfinR := HRN.out.push2 growc (v' := .slice (some ⟨gb, 0, none⟩) (k + 1) cpb) (by rcases atb with e | e; exact .inl (by rw [e]; rfl); exact .inr (by rw [e]; simp [Value.ownBlock]))
              obtain ⟨s0, s1, s2⟩ := blk_cells3 (blk_grown HN.out.blk growc HN.out.n2)
              have f2 := blk_frozen (blk_grown HN.out.blk growc HN.out.n2) 2
              have HFIN := Lib.hid hfin
              have HFINR := Lib.hid hfinR
              clear hfin hfinR growc growb ownb atb ltb
              refine ⟨by kernel_rfl, ?_⟩
              change wpList _ _ _ [_, _] _ _
              go_wp2
              refine NoPanic.normal ?_
              go_wp2
              go_roundw
              case rel => exact ⟨k + 1, _, _, R ++ [(ua, uc, L)], by omega, by go_num, by rw [← HKP.out]; go_num, HNR.out, by rw [HX1N.out, HX2N.out, HZD.out]; exact HFIN.out, HFINR.out⟩
              case measure => simp [RowKit.intOf]; omega
      · obtain rfl : m = k := by omega
        obtain ⟨P, hPP⟩ : ∃ P, Plain.partsG X K = P := ⟨_, rfl⟩
        obtain ⟨C, hC⟩ : ∃ C, Plain.accG Z na m = C := ⟨_, rfl⟩
        have hPl : P.length = p := by rw [← hPP, Plain.partsG_len, HPE.out]
        have hCl : C.length = m := by rw [← hC, Plain.accG_len]
        have hRl : R.length = m := by
          have := congrArg List.length hR
          rw [Plain.rowsG_len] at this
          simpa [nums] using this
        rw [hC, ← HXP.out, hPP] at hA
        have h0 := hA.o0
        have h1 := hA.o1
        have h2 := hA.o2
        rw [show (i32s P).length = P.length from by simp [i32s]] at h0
        rw [show (R.map rowV).length = R.length from by simp] at h1
        rw [show (C.map Value.bool).length = C.length from by simp] at h2
        obtain ⟨a0, n0, rfl⟩ := own_slice h0
        obtain ⟨a1, n1, rfl⟩ := own_slice h1
        obtain ⟨a2, n2, rfl⟩ := own_slice h2
        have HAP := Lib.hid (fun (n m k : Nat) => (⟨apart_len hA.a01, apart_len hA.a02, apart_len hA.a12, fun r hr => ⟨apart_len1 (hRo r hr).2.2.1, apart_len1 (hRo r hr).2.2.2⟩⟩ : apart (.slice a0 n n0) (.slice a1 m n1) ∧ apart (.slice a0 n n0) (.slice a2 k n2) ∧ apart (.slice a1 m n1) (.slice a2 k n2) ∧ ∀ r ∈ R, apart (rowV r) (.slice a1 m n1) ∧ apart (rowV r) (.slice a2 k n2)))
        have hO : OwnTab B.heap.size wr a0 P n0 a1 R n1 a2 C n2 := ⟨h0, h1, h2, fun r hr => (hRo r hr).1⟩
        obtain ⟨d0, d1, d2⟩ := hA.cell
        rw [hPl] at d0
        rw [hRl] at d1
        rw [hCl] at d2
        have hblk : wr.heap[w.heap.size + 1]? = some (.cells #[.slice none 0 0, .slice none 0 0, .slice none 0 0] 34 (0, 0)) := by
          rw [hA.below.block _ (by rw [HSB.out]; omega)]; exact HRB.out
        have hBlw := HB0.out.trans (hA.below.mono (by rw [HSB.out]; omega))
        have HO := Lib.hid hO
        have HBL := Lib.hid hBlw
        have HBK := Lib.hid hblk
        have HEQ := Lib.hid (And.intro hC (And.intro hPP (And.intro hPl (And.intro hCl (And.intro hRl hR)))))
        clear hO hBlw hblk hC hPP hPl hCl hRl hR h0 h1 h2 hA hRo
        obtain ⟨s0, s1, s2⟩ := blk_cells3 HBK.out
        have f0 := blk_frozen HBK.out 0
        have f1 := blk_frozen HBK.out 1
        have f2 := blk_frozen HBK.out 2
        go_wp2
        have hS := blk_set3 HBK.out (.slice a0 p n0) (.slice a1 m n1) (.slice a2 m n2)
        obtain ⟨m0, m1, m2⟩ := blk_cells3 hS
        obtain ⟨hC, hPP, hPl, hCl, hRl, hR⟩ := HEQ.out
        have hF := (((HO.out).set (g := w.heap.size + 1) (by rw [HSB.out]; omega) 0 (.slice a0 p n0)).set (g := w.heap.size + 1) (by rw [HSB.out]; omega) 1 (.slice a1 m n1)).set (g := w.heap.size + 1) (by rw [HSB.out]; omega) 2 (.slice a2 m n2)
        refine bodyPost_ret (v := .agg #[.slice a0 p n0, .slice a1 m n1, .slice a2 m n2]) (by simp [results, Tryz.results24, go_sem, m0, m1, m2]) rfl ⟨a0, n0, a1, R, n1, a2, n2, ?_, ?_, ?_, ((HBL.out.setCell (by simp) _).setCell (by simp) _).setCell (by simp) _, HAP.out⟩
        · rw [hPP, hC]; unfold tabV; rw [hPl, hRl, hCl]
        · rw [hR, HPE.out]
        · rw [hPP, hC]; exact hF.base (by rw [HSB.out]; omega)
end Go.Proofs.YtmiacgkidldjmaaGreatDoor
namespace Go.Proofs.YtmiacgkidldjmaaGreatDoor
open Go.RowKit Go.Lib
theorem grid_own_w (TP : Option Addr) (tp tpc : Nat) (TN : Option Addr) (tn tnc : Nat) (TA : Option Addr) (ta tac : Nat) (PA : Option Addr) (PL : List Int) (pc : Nat) (NA : Option Addr) (NL : List Int) (nc : Nat) (AA : Option Addr) (AL : List Bool) (ac : Nat) (w : World) (hG : GridAt w PA PL NA NL AA AL) :
    Calls Tryz.prog 24 #[.agg #[.slice TP tp tpc, .slice TN tn tnc, .slice TA ta tac, .bool true, .slice PA PL.length pc, .slice NA NL.length nc, .slice AA AL.length ac]] w (GridRes PL NL AL w) := by
  refine (grid_own2_w TP tp tpc TN tn tnc TA ta tac PA PL pc NA NL nc AA AL ac w hG).mono ?_
  rintro e w' ⟨a0, n0, a1, R, n1, a2, n2, he, hR, hO, hb, _⟩
  exact ⟨a0, n0, a1, R, n1, a2, n2, he, hR, hO, hb⟩
end Go.Proofs.YtmiacgkidldjmaaGreatDoor
namespace Go.Proofs.YtmiacgkidldjmaaGreatDoor
open Go.RowKit Go.Lib
theorem grid_not_w (TP : Option Addr) (tp tpc : Nat) (TN : Option Addr) (tn tnc : Nat) (TA : Option Addr) (ta tac : Nat) (PA : Option Addr) (np pc : Nat) (NA : Option Addr) (nn nc : Nat) (AA : Option Addr) (na ac : Nat) (w : World) :
    Calls Tryz.prog 24 #[.agg #[.slice TP tp tpc, .slice TN tn tnc, .slice TA ta tac, .bool false, .slice PA np pc, .slice NA nn nc, .slice AA na ac]] w fun e w' => e = .returned (.agg #[.slice TP tp tpc, .slice TN tn tnc, .slice TA ta tac]) ∧ Below w.heap.size w w' := by
  go_enter Tryz.func24, Tryz.ntmps24
  go_wp2
  have hblk : ((w.alloc (.cells #[.slice TP tp tpc, .slice TN tn tnc, .slice TA ta tac, .bool false, .slice PA np pc, .slice NA nn nc, .slice AA na ac] 63)).alloc (.cells #[.slice TP tp tpc, .slice TN tn tnc, .slice TA ta tac] 34)).heap[w.heap.size + 1]? = some (.cells #[.slice TP tp tpc, .slice TN tn tnc, .slice TA ta tac] 34 (0, 0)) := heap_alloc_new2 _ _ _ _ (by simp)
  obtain ⟨m0, m1, m2⟩ := blk_cells3 hblk
  exact bodyPost_ret (v := .agg #[.slice TP tp tpc, .slice TN tn tnc, .slice TA ta tac]) (by simp [results, Tryz.results24, go_sem, m0, m1, m2]) rfl ⟨rfl, ((Below.refl _ _).alloc (Nat.le_refl _) _).alloc (by simp) _⟩
end Go.Proofs.YtmiacgkidldjmaaGreatDoor
namespace Go.Proofs.YtmiacgkidldjmaaGreatDoor
open Go.RowKit Go.Lib
theorem grid_any_w (TP : Option Addr) (TL : List Int) (tpc : Nat) (TN : Option Addr) (TR : List Row) (tnc : Nat) (TA : Option Addr) (TC : List Bool) (tac : Nat) (own : Bool) (PA : Option Addr) (PL : List Int) (pc : Nat) (NA : Option Addr) (NL : List Int) (nc : Nat) (AA : Option Addr) (AL : List Bool) (ac : Nat) (w : World) (hG : GridAt w PA PL NA NL AA AL) (hT : TabAt w TP TL TN TR TA TC) (htc : TL.length ≤ tpc) :
    Calls Tryz.prog 24 #[.agg #[.slice TP TL.length tpc, .slice TN TR.length tnc, .slice TA TC.length tac, .bool own, .slice PA PL.length pc, .slice NA NL.length nc, .slice AA AL.length ac]] w (TabRes w) := by
  cases own
  · refine (grid_not_w TP TL.length tpc TN TR.length tnc TA TC.length tac PA PL.length pc NA NL.length nc AA AL.length ac w).mono ?_
    rintro e w' ⟨rfl, hb⟩
    exact ⟨TP, TL, tpc, TN, TR, tnc, TA, TC, tac, rfl, hT.below hb, htc, hb⟩
  · refine (grid_own_w TP TL.length tpc TN TR.length tnc TA TC.length tac PA PL pc NA NL nc AA AL ac w hG).mono ?_
    rintro e w' ⟨a0, n0, a1, R, n1, a2, n2, rfl, hR, hO, hb⟩
    have hq : Plain.tabRight (Plain.partsG (fun i => PL.getD i 0) (min PL.length 4)) (nums R) (Plain.accG (fun i => AL.getD i false) AL.length (1 + min AL.length 5)).length = true := by
      rw [hR]; exact Plain.grid_right _ _ _ _ _ _ _ (by omega) (by omega) (by omega)
    obtain ⟨hpr, hnl, hm0, hm64, hrows⟩ := Plain.tab_right _ _ _ hq
    obtain ⟨⟨hp0, hp64, _⟩, hpb⟩ := Plain.parts_bound _ hpr
    have hRl : (nums R).length = R.length := by simp [nums]
    refine ⟨a0, _, n0, a1, R, n1, a2, _, n2, rfl, hO.tab (by unfold maxLen; omega) (by unfold maxLen; omega) (by unfold maxLen; omega) (fun r hr => ?_), own_le hO.o0, hb⟩
    have := (hrows r.2.2 (by unfold nums; exact List.mem_map.2 ⟨r, hr, rfl⟩)).1
    unfold maxLen; omega
end Go.Proofs.YtmiacgkidldjmaaGreatDoor
namespace Go.Proofs.YtmiacgkidldjmaaGreatDoor
open Go.ChangeShapes Go.WideShapes Go.RowKit Go.Lib Go.Deep
section
variable {H : Type} {enc : TypeId × Value → H} {W : World}
set_option maxRecDepth 100000 in
theorem open_grid2_w {base : Nat} {v : Value} {d : DataW H} {p : List MemPlace} (hv : Value.okWide Tryz.prog W .any base 63 v) (h : DataW.Trod enc Tryz.prog W 0 (fun _ => true) true 63 v d p) :
    ∃ TP TL tpc TN TR tnc TA TC tac own PA PL pc NA NL nc AA AL ac, v = .agg #[.slice TP TL.length tpc, .slice TN TR.length tnc, .slice TA TC.length tac, .bool own, .slice PA PL.length pc, .slice NA NL.length nc, .slice AA AL.length ac] ∧ GridAt W PA PL NA NL AA AL ∧ TabAt W TP TL TN TR TA TC ∧ TL.length ≤ tpc := by
  obtain ⟨cs, rfl, hsz⟩ := okWide_struct Tryz.underlying63 hv
  have h7 : Tryz.prog.cellsOf 63 = 7 := by kernel_rfl
  have h3 : Tryz.prog.cellsOf 34 = 3 := by kernel_rfl
  have s4 : Tryz.prog.cellsOf 4 = 1 := by kernel_rfl
  have s28 : Tryz.prog.cellsOf 35 = 1 := by kernel_rfl
  have s25 : Tryz.prog.cellsOf 32 = 1 := by kernel_rfl
  have s23 : Tryz.prog.cellsOf 30 = 1 := by kernel_rfl
  have s24 : Tryz.prog.cellsOf 31 = 1 := by kernel_rfl
  obtain ⟨l⟩ := cs
  match l, hsz.trans h7 with
  | [c0, c1, c2, c3, c4, c5, c6], _ =>
    obtain ⟨fuel, hf⟩ := h
    obtain ⟨xs, n, _, hx, _, hlen, hg⟩ := DataW.trod_struct Tryz.underlying63 hf
    match xs, hlen with
    | [y0, y1, y2, y3, y4], _ =>
      have g0 : DataW.trod enc Tryz.prog W 0 (fun _ => true) true n 34 [c0, c1, c2] = some y0 := by simpa [Value.cells, h3] using hg 0 _ rfl
      have g1 : DataW.trod enc Tryz.prog W 0 (fun _ => true) true n 4 [c3] = some y1 := by simpa [Value.cells, s4] using hg 1 _ rfl
      have g2 : DataW.trod enc Tryz.prog W 0 (fun _ => true) true n 35 [c4] = some y2 := by simpa [Value.cells, s28] using hg 2 _ rfl
      have g3 : DataW.trod enc Tryz.prog W 0 (fun _ => true) true n 35 [c5] = some y3 := by simpa [Value.cells, s28] using hg 3 _ rfl
      have g4 : DataW.trod enc Tryz.prog W 0 (fun _ => true) true n 32 [c6] = some y4 := by simpa [Value.cells, s25] using hg 4 _ rfl
      obtain ⟨ts, m, _, _, _, htl, hgt⟩ := DataW.trod_struct Tryz.underlying34 g0
      match ts, htl with
      | [z0, z1, z2], _ =>
        have t0 : DataW.trod enc Tryz.prog W 0 (fun _ => true) true m 30 [c0] = some z0 := by simpa [s23] using hgt 0 _ rfl
        have t1 : DataW.trod enc Tryz.prog W 0 (fun _ => true) true m 31 [c1] = some z1 := by simpa [s24] using hgt 1 _ rfl
        have t2 : DataW.trod enc Tryz.prog W 0 (fun _ => true) true m 32 [c2] = some z2 := by simpa [s25] using hgt 2 _ rfl
        obtain ⟨TP, TL, tpc, e0, hT0, u1, u2, _⟩ := sl_of_ints Tryz.underlying30 Tryz.underlying21 (by kernel_rfl) t0
        obtain ⟨TN, TR, tnc, e1, hT1, u3, u4, hTR⟩ := sl_of_rows Tryz.underlying31 Tryz.underlying60 (by kernel_rfl) Tryz.underlying3 (by kernel_rfl) t1
        obtain ⟨TA, TC, tac, e2, hT2, u5, u6⟩ := sl_of_bools Tryz.underlying32 Tryz.underlying4 (by kernel_rfl) t2
        obtain ⟨own, e3, _⟩ := DataW.trod_bool Tryz.underlying4 g1
        obtain ⟨PA, PL, pc, e4, hP, p1, p2, pw⟩ := sl_of_ints Tryz.underlying35 Tryz.underlying5 (by kernel_rfl) g2
        obtain ⟨NA, NL, nc, e5, hN, n1, n2, nw⟩ := sl_of_ints Tryz.underlying35 Tryz.underlying5 (by kernel_rfl) g3
        obtain ⟨AA, AL, ac, e6, hA, a1, a2⟩ := sl_of_bools Tryz.underlying32 Tryz.underlying4 (by kernel_rfl) g4
        injection e0 with e0
        injection e1 with e1
        injection e2 with e2
        injection e3 with e3
        injection e4 with e4
        injection e5 with e5
        injection e6 with e6
        subst e0 e1 e2 e3 e4 e5 e6
        exact ⟨TP, TL, tpc, TN, TR, tnc, TA, TC, tac, own, PA, PL, pc, NA, NL, nc, AA, AL, ac, rfl, ⟨hP, hN, hA, by omega, by omega, by omega, u8_bd pw, u8_bd nw⟩, ⟨hT0, hT1, hTR, hT2, by omega, by omega, by omega⟩, u1⟩
end
end Go.Proofs.YtmiacgkidldjmaaGreatDoor
