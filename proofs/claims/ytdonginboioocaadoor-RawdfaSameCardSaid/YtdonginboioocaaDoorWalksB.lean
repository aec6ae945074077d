/- The walk of layout.OfTable: what cells a table has. Conditions: what each lemma says. -/
import Derived.Test.YtdonginboioocaaDoorPlain2
import Derived.Deep.CutBlock
import Derived.Deep.DeepCutAuto
import Derived.Test.YtdonginboioocaaDoorWalksA
set_option linter.unusedVariables false
namespace Go.Proofs.YtdonginboioocaaDoor
open Go.RowKit Go.Lib
def u32s (P : List Int) : List Value := P.map (Value.int .u32)
theorem info42 : (Tryd.prog.info? 42).map (fun i => (i.zero, i.size, i.bytes)) = some (some (.int .u32 0), 1, 4) := by kernel_rfl
theorem CellsAt_add {w : World} {g : Nat} {xs : List Value} (h : CellsAt w g xs) : ∀ j u, xs[j]? = some u → w.cell? ((⟨g, 0, none⟩ : Addr).add j) = some u := fun j u hu => by
  have e : (⟨g, 0, none⟩ : Addr).add j = ⟨g, j, none⟩ := by unfold Addr.add; split <;> simp_all
  rw [e]; exact h.2 j u hu
theorem below_cellsAt {B w : World} (hb : Below B.heap.size B w) {g : Nat} {xs : List Value} (h : CellsAt B g xs) : CellsAt w g xs := h.below hb
theorem heap_alloc_new2 (w : World) (o : Obj) (k : Nat) (c : Obj) (h : k = w.heap.size) (ho : o = c := by rfl) : (w.alloc o).heap[k]? = some c := by subst h; subst ho; exact heap_alloc_new _ _
theorem blk_cells3 {w : World} {fb : Nat} {v0 v1 v2 : Value} {t : TypeId} (h : w.heap[fb]? = some (.cells #[v0, v1, v2] t (0, 0))) :
    w.cell? ⟨fb, 0, none⟩ = some v0 ∧ w.cell? ⟨fb, 1, none⟩ = some v1 ∧ w.cell? ⟨fb, 2, none⟩ = some v2 :=
  ⟨by rw [cell_of_row _ _ _ _ _ _ h]; rfl, by rw [cell_of_row _ _ _ _ _ _ h]; rfl, by rw [cell_of_row _ _ _ _ _ _ h]; rfl⟩
set_option maxRecDepth 100000 in
set_option maxHeartbeats 1000000 in
theorem oftable_wrong (PA : Option Addr) (P : List Int) (pc : Nat) (NA : Option Addr) (R : List Row) (nc : Nat) (AA : Option Addr) (C : List Bool) (ac : Nat) (w : World) (hT : TabAt w PA P NA R AA C)
    (hq : Plain.tabRight P (nums R) C.length = false) :
    Calls Tryd.prog 10 #[tabV PA P pc NA R nc AA C ac] w fun e w' => e = .returned (.tuple #[.agg #[.slice none 0 0, .slice none 0 0, .slice none 0 0], .int .i64 11]) ∧ Below w.heap.size w w' := by
  have cR := fun (W : World) (h : TabAt W PA P NA R AA C) => tright_any PA P pc NA R nc AA C ac W h
  rw [hq] at cR
  unfold tabV at cR ⊢
  have HT := Lib.hid hT
  have HR := Lib.hid cR
  clear hT cR hq
  go_enter Tryd.func10, Tryd.ntmps10
  go_wp2_with fail
  refine (HR.out _ (HT.out.below (((Below.refl _ _).alloc (Nat.le_refl _) _).alloc (by simp) _))).mono ?_
  rintro e w1 ⟨rfl, hb1⟩
  have hbk : w1.heap[w.heap.size + 1]? = some (.cells #[.slice none 0 0, .slice none 0 0, .slice none 0 0] 36 (0, 0)) := by
    rw [hb1.block (w.heap.size + 1) (by simp)]
    exact heap_alloc_new2 _ _ _ _ (by simp)
  obtain ⟨c0, c1, c2⟩ := blk_cells3 hbk
  have f0 := blk_frozen hbk 0
  have f1 := blk_frozen hbk 1
  have f2 := blk_frozen hbk 2
  have HB := Lib.hid hbk
  have HB1 := Lib.hid hb1
  clear hbk hb1
  go_wp2
  have hW : (((w1.setCell ⟨w.heap.size + 1, 0, none⟩ (.slice none 0 0)).setCell ⟨w.heap.size + 1, 1, none⟩ (.slice none 0 0)).setCell ⟨w.heap.size + 1, 2, none⟩ (.slice none 0 0)).heap[w.heap.size + 1]? = some (.cells #[.slice none 0 0, .slice none 0 0, .slice none 0 0] 36 (0, 0)) :=
    heap_setCell_same _ _ 2 _ _ _ (heap_setCell_same _ _ 1 _ _ _ (heap_setCell_same _ _ 0 _ _ _ HB.out))
  obtain ⟨m0, m1, m2⟩ := blk_cells3 hW
  have hBB : Below w.heap.size w w1 := (((Below.refl _ _).alloc (Nat.le_refl _) _).alloc (by simp) _).trans (HB1.out.mono (by simp; omega))
  exact bodyPost_ret (v := .tuple #[.agg #[.slice none 0 0, .slice none 0 0, .slice none 0 0], .int .i64 11]) (by simp [results, Tryd.results10, go_sem, m0, m1, m2]) rfl ⟨rfl, ((hBB.setCell (by simp) _).setCell (by simp) _).setCell (by simp) _⟩
end Go.Proofs.YtdonginboioocaaDoor
namespace Go.Proofs.YtdonginboioocaaDoor
open Go.RowKit Go.Lib
theorem Acc.init {B w : World} {fb : Nat} {t e0 e1 e2 : TypeId} (hb : w.heap[fb]? = some (.cells #[.slice none 0 0, .slice none 0 0, .slice none 0 0] t (0, 0))) (hB : Below B.heap.size B w) (hf : B.heap.size ≤ fb) :
    Acc B fb t e0 e1 e2 w (.slice none 0 0) (.slice none 0 0) (.slice none 0 0) [] [] [] :=
  ⟨hb, World.ownsRow_nil _ _ _ _, World.ownsRow_nil _ _ _ _, World.ownsRow_nil _ _ _ _, hB, hf, by simp [Value.ownBlock], by simp [Value.ownBlock], by simp [Value.ownBlock], fun k h => by simp [Value.ownBlock] at h, fun k h => by simp [Value.ownBlock] at h, fun k h => by simp [Value.ownBlock] at h⟩
theorem Acc.set2 {B : World} {fb : Nat} {t e0 e1 e2 : TypeId} {w : World} {v0 v1 : Value} {g n c : Nat} {x0 x1 x2 : List Value} (h : Acc B fb t e0 e1 e2 w v0 v1 (.slice (some ⟨g, 0, none⟩) n c) x0 x1 x2) (j : Nat) (u : Value) :
    Acc B fb t e0 e1 e2 (w.setCell ⟨g, j, none⟩ u) v0 v1 (.slice (some ⟨g, 0, none⟩) n c) x0 x1 (x2.set j u) := by
  have hn : n = x2.length := by
    rcases h.o2.2 with ⟨h', _⟩ | ⟨g', cap', cur, h', _⟩
    · cases h'
    · simp only [Value.slice.injEq] at h'; exact h'.2.1
  subst hn
  have hs := h.o2.stored j u
  have hg : g ≠ fb := fun e => h.n2 (by rw [← e]; rfl)
  have hlt := h.lt
  refine ⟨?_, ownsRow_setCell_other h.o0 (fun e => h.a02 g e rfl) _, ownsRow_setCell_other h.o1 (fun e => h.a12 g e rfl) _, by simpa using hs.1, h.below.setCell (h.o2.lt g rfl).1 _, h.ge, h.n0, h.n1, h.n2, h.a01, h.a02, h.a12⟩
  rw [heap_setCell_other _ _ _ _ (fun e => hg e.symm), h.blk]
theorem Acc.same {B : World} {fb : Nat} {t e0 e1 e2 : TypeId} {w : World} {v0 v1 v2 : Value} {x0 x1 x2 : List Value} (h : Acc B fb t e0 e1 e2 w v0 v1 v2 x0 x1 x2) :
    Acc B fb t e0 e1 e2 (((w.setCell ⟨fb, 0, none⟩ v0).setCell ⟨fb, 1, none⟩ v1).setCell ⟨fb, 2, none⟩ v2) v0 v1 v2 x0 x1 x2 := by
  refine ⟨?_, ?_, ?_, ?_, ((h.below.setCell h.ge _).setCell h.ge _).setCell h.ge _, h.ge, h.n0, h.n1, h.n2, h.a01, h.a02, h.a12⟩
  · exact heap_setCell_same _ _ 2 _ _ _ (heap_setCell_same _ _ 1 _ _ _ (heap_setCell_same _ _ 0 _ _ _ h.blk))
  · exact ownsRow_setCell_other (ownsRow_setCell_other (ownsRow_setCell_other h.o0 h.n0 _) h.n0 _) h.n0 _
  · exact ownsRow_setCell_other (ownsRow_setCell_other (ownsRow_setCell_other h.o1 h.n1 _) h.n1 _) h.n1 _
  · exact ownsRow_setCell_other (ownsRow_setCell_other (ownsRow_setCell_other h.o2 h.n2 _) h.n2 _) h.n2 _
theorem own_base {w : World} {base base' : Nat} {e : TypeId} {size : Nat} {v : Value} {n : Nat} {xs : List Value} (h : w.ownsRow base e size v n xs) (hb : base' ≤ base) : w.ownsRow base' e size v n xs :=
  ⟨h.1, h.2.imp_right fun ⟨g, cap, cur, h1, h2, h3⟩ => ⟨g, cap, cur, h1, Nat.le_trans hb h2, h3⟩⟩
theorem own_slice {w : World} {base : Nat} {e : TypeId} {size n : Nat} {v : Value} {xs : List Value} (h : w.ownsRow base e size v n xs) : ∃ a c, v = .slice a n c := by
  rcases h.2 with ⟨rfl, rfl⟩ | ⟨g, c, _, rfl, _⟩
  · exact ⟨_, _, rfl⟩
  · exact ⟨_, _, rfl⟩
theorem own_at {w : World} {base : Nat} {e : TypeId} {size n : Nat} {v : Value} {xs : List Value} (h : w.ownsRow base e size v n xs) (hn : 0 < n) :
    ∃ g cap, v = .slice (some ⟨g, 0, none⟩) n cap ∧ n ≤ cap ∧ base ≤ g ∧ CellsAt w g xs := by
  obtain ⟨hl, hv | ⟨g, cap, cur, rfl, hg, hh, hnc, hcm, hsz, htk⟩⟩ := h
  · omega
  · refine ⟨g, cap, rfl, hnc, hg, ?_, fun j u hu => ?_⟩
    · rcases Nat.lt_or_ge g w.heap.size with h' | h'
      · exact h'
      · rw [Array.getElem?_eq_none h'] at hh; cases hh
    · rw [cell_of_row _ _ _ _ _ _ hh]
      rw [← htk, List.getElem?_take] at hu
      split at hu
      · simpa using hu
      · cases hu
theorem u32s_snoc (L : List Int) (x : Int) : u32s (L ++ [x]) = u32s L ++ [.int .u32 x] := by simp [u32s]
set_option maxRecDepth 100000 in
set_option maxHeartbeats 4000000 in
theorem oftable_right (PA : Option Addr) (P : List Int) (pc : Nat) (NA : Option Addr) (R : List Row) (nc : Nat) (AA : Option Addr) (C : List Bool) (ac : Nat) (w : World) (hT : TabAt w PA P NA R AA C)
    (hq : Plain.tabRight P (nums R) C.length = true) :
    Calls Tryd.prog 10 #[tabV PA P pc NA R nc AA C ac] w fun e w' => ∃ v0 v1 v2, e = .returned (.tuple #[.agg #[v0, v1, v2], .int .i64 0]) ∧
      w'.ownsRow w.heap.size 42 1 v0 P.length (u32s P) ∧ w'.ownsRow w.heap.size 42 1 v1 (Plain.cellsOf (nums R)).length (u32s (Plain.cellsOf (nums R))) ∧ w'.ownsRow w.heap.size 42 1 v2 C.length (u32s (Plain.accsOf C)) ∧
      apart v0 v1 ∧ apart v0 v2 ∧ apart v1 v2 ∧ Below w.heap.size w w' := by
  have cR := fun (W : World) (h : TabAt W PA P NA R AA C) => tright_any PA P pc NA R nc AA C ac W h
  rw [hq] at cR
  obtain ⟨hpr, hlen, hm0, hm64, hrows⟩ := Plain.tab_right _ _ _ hq
  obtain ⟨⟨hp0, hp64, _⟩, hpb⟩ := Plain.parts_bound P hpr
  rw [show (nums R).length = R.length from by simp [nums]] at hlen hm0 hm64 hrows
  obtain ⟨i0, hi, hz0, hz1, hz2⟩ := info_parts info42
  unfold tabV at cR ⊢
  have hP := hT.parts; have hRR := hT.rows; have hRo := hT.row; have hAc := hT.acc
  obtain ⟨p, hp⟩ : ∃ p, P.length = p := ⟨_, rfl⟩
  obtain ⟨m, hm⟩ : ∃ m, R.length = m := ⟨_, rfl⟩
  have ha : C.length = m := by omega
  simp only [hp, hm, ha] at cR hp0 hp64 hm0 hm64 hpb hrows ⊢
  have HT := Lib.hid hT
  have HR := Lib.hid cR
  have HPB := Lib.hid hpb
  have HRW := Lib.hid hrows
  have HP := Lib.hid hp
  have HM := Lib.hid hm
  have HA := Lib.hid ha
  clear hT cR hq hpb hrows hp hm ha hpr hlen hP hRR hRo hAc
  go_enter Tryd.func10, Tryd.ntmps10
  go_wp2_with fail
  refine (HR.out _ (HT.out.below (((Below.refl _ _).alloc (Nat.le_refl _) _).alloc (by simp) _))).mono ?_
  rintro e w1 ⟨rfl, hb1⟩
  have hB0 : Below w.heap.size w (w.alloc (.cells #[.slice PA p pc, .slice NA m nc, .slice AA m ac] 27)) := (Below.refl _ _).alloc (Nat.le_refl _) _
  have hC0 := CellsAt.new w #[.slice PA p pc, .slice NA m nc, .slice AA m ac] 27
  have hsB : (w.alloc (.cells #[.slice PA p pc, .slice NA m nc, .slice AA m ac] 27)).heap.size = w.heap.size + 1 := by simp
  have hblk : w1.heap[w.heap.size + 1]? = some (.cells #[.slice none 0 0, .slice none 0 0, .slice none 0 0] 36 (0, 0)) := by
    rw [hb1.block (w.heap.size + 1) (by simp)]
    exact heap_alloc_new2 _ _ _ _ (by simp)
  have hBB : Below (w.alloc (.cells #[.slice PA p pc, .slice NA m nc, .slice AA m ac] 27)).heap.size (w.alloc (.cells #[.slice PA p pc, .slice NA m nc, .slice AA m ac] 27)) w1 :=
    ((Below.refl _ _).alloc (Nat.le_refl _) _).trans (hb1.mono (by simp))
  clear hb1
  generalize hBe : w.alloc (.cells #[.slice PA p pc, .slice NA m nc, .slice AA m ac] 27) = B at *
  have hI := Acc.init (e0 := 42) (e1 := 42) (e2 := 42) hblk hBB (by omega)
  have HTB := Lib.hid (HT.out.below hB0)
  have HC0 := Lib.hid hC0
  have HI := Lib.hid hI
  have HB0 := Lib.hid hB0
  have HSB := Lib.hid hsB
  clear hI hblk hBB hC0 hBe HR hB0 hsB
  have hsw1 : w.heap.size + 1 < w1.heap.size := HI.out.lt
  have k0 := (HC0.out.below HI.out.below).at_ 0 _ rfl
  have k1 := (HC0.out.below HI.out.below).at_ 1 _ rfl
  go_wp2_with fail
  go_loopw [5, 17] (fun _ i wr => ∃ (k : Nat) (v0 : Value), k ≤ p ∧ i = .int .i64 k ∧ Acc B (w.heap.size + 1) 36 42 42 42 wr v0 (.slice none 0 0) (.slice none 0 0) (u32s (P.take k)) [] []) (fun _ i _ => p - (RowKit.intOf i).toNat)
  case atStart => exact ⟨0, _, Nat.zero_le _, rfl, HI.out⟩
  case round =>
    obtain ⟨k, v0, hk, rfl, hA⟩ := hrel
    have HAc := Lib.hid hA
    clear hA
    by_cases hlt : k < p
    · have hkl : k < P.length := by rw [HP.out]; exact hlt
      obtain ⟨ba, off, rfl, hba, hcells⟩ := (HTB.out.parts.below HAc.out.below) (by rw [i32s, List.length_map]; omega)
      have c0 := hcells k (.int .i32 (P.getD k 0)) (by rw [i32s, List.getElem?_map, List.getElem?_eq_getElem hkl]; simp [List.getD, List.getElem?_eq_getElem hkl])
      obtain ⟨x0, x1⟩ := HPB.out k hlt
      have hst : u32s (P.take (k + 1)) = u32s (P.take k) ++ [.int .u32 (P.getD k 0)] := by
        rw [Plain.take_snoc P k (P.getD k 0) (by simp [List.getD, List.getElem?_eq_getElem hkl]), u32s_snoc]
      have hlen : (u32s (P.take k)).length = k := by simp [u32s]; omega
      generalize P.getD k 0 = x at *
      obtain ⟨d0, d1, d2⟩ := HAc.out.cell
      have hsz := HAc.out.lt
      have HST := Lib.hid hst
      have HLN := Lib.hid hlen
      clear hst hcells hlen
      go_wp2_with (at_builtin; refine wpList_append_own2 _ rfl (.tmp 22) (.tmp 25) _ rfl B.heap.size 42 i0 _ 1 4 Tryd.underlying34 hi hz0 hz1 hz2 rfl (by decide) v0 _ (u32s (P.take k)) rfl (HAc.out.o0.alloc _) ⟨wr.heap.size, 0, none⟩ 1 1 [.int .u32 x] rfl rfl ?c1 ?c2 ?c3 ?c4 ?c5 ?_)
      case c1 => exact CellsAt_add (CellsAt.new wr _ _)
      case c2 => intro u hu; simp only [List.mem_cons, List.not_mem_nil, or_false] at hu; subst hu; rfl
      case c3 => rw [HLN.out]; simp only [maxLen]; omega
      case c4 => rw [HLN.out]; omega
      case c5 => have := HAc.out.below.size; simp; omega
      intro v2 w2 hown2 hg2 hb2
      obtain ⟨a2, cp2, rfl⟩ := own_slice hown2
      have s0 := blk_cells3 (blk_grown HAc.out.blk hg2 HAc.out.n0)
      obtain ⟨s0, s1, s2⟩ := s0
      have f0 := blk_frozen (blk_grown HAc.out.blk hg2 HAc.out.n0) 0
      have hN := HAc.out.push0 hown2 hg2 hb2
      have HN := Lib.hid hN
      clear hN hown2 hg2 hb2
      go_wp2
      go_roundw
      case rel => exact ⟨k + 1, _, by omega, by go_num, by rw [HST.out]; exact HN.out⟩
      case measure => simp [RowKit.intOf]; omega
    · obtain rfl : p = k := by omega
      have hPt : P.take p = P := List.take_of_length_le (by rw [HP.out]; exact Nat.le_refl _)
      have hA1 := HAc.out
      rw [hPt] at hA1
      have q1 := (HC0.out.below hA1.below).at_ 1 _ rfl
      have HA1 := Lib.hid hA1
      clear hA1 hPt HAc
      go_wp2_with fail
      go_loopw [6, 7, 9, 32] (fun _ _ _ i w3 => ∃ (k : Nat) (v0 v1 v2 : Value), k ≤ m ∧ i = .int .i64 k ∧ Acc B (w.heap.size + 1) 36 42 42 42 w3 v0 v1 v2 (u32s P) (u32s (Plain.cellsOf ((nums R).take k))) (u32s (Plain.accsOf (C.take k)))) (fun _ _ _ i _ => m - (RowKit.intOf i).toNat)
      case atStart => exact ⟨0, v0, _, _, Nat.zero_le _, rfl, HA1.out⟩
      clear HA1 v0
      case round =>
        obtain ⟨k, v0, v1, v2, hk, rfl, hA⟩ := hrel
        have HAc := Lib.hid hA
        clear hA
        by_cases hlt : k < m
        · have hkl : k < R.length := by rw [HM.out]; exact hlt
          have hkc : k < C.length := by rw [HA.out]; exact hlt
          obtain ⟨ban, offn, rfl, hban, hcells⟩ := (HTB.out.rows.below HAc.out.below) (by rw [List.length_map]; omega)
          have c0 := hcells k (rowV R[k]) (by rw [List.getElem?_map, List.getElem?_eq_getElem hkl]; rfl)
          have hrow := HTB.out.row R[k] (List.getElem_mem hkl)
          have hrw := HRW.out (R[k]).2.2 (by unfold nums; exact List.mem_map.2 ⟨R[k], List.getElem_mem hkl, rfl⟩)
          have hnk : (nums R)[k]? = some (R[k]).2.2 := by simp [nums, List.getElem?_eq_getElem hkl]
          obtain ⟨⟨rA, rc, L⟩, hr⟩ : ∃ r, R[k] = r := ⟨_, rfl⟩
          rw [hr] at c0 hrow hrw hnk
          unfold rowV at c0
          dsimp only at c0 hrow hrw hnk
          obtain ⟨hL, hxs⟩ := hrw
          rw [hL] at c0
          have HL := Lib.hid hL
          have HXS := Lib.hid hxs
          have HRO := Lib.hid hrow.1
          have HNK := Lib.hid hnk
          clear hL hxs hrow hnk hcells hr
          go_wp2_with fail
          go_loopw [9, 39] (fun _ i w4 => ∃ (j : Nat) (v1' : Value), j ≤ p ∧ i = .int .i64 j ∧ Acc B (w.heap.size + 1) 36 42 42 42 w4 v0 v1' v2 (u32s P) (u32s (Plain.cellsOf ((nums R).take k) ++ (L.take j).map fun x => x * (p : Int))) (u32s (Plain.accsOf (C.take k)))) (fun _ i _ => p - (RowKit.intOf i).toNat)
          case atStart => exact ⟨0, v1, Nat.zero_le _, rfl, by simpa using HAc.out⟩
          clear HAc v1
          case round =>
            obtain ⟨j, v1, hj, rfl, hA⟩ := hrel
            have HAc := Lib.hid hA
            clear hA
            by_cases hjlt : j < p
            · have hjl : j < L.length := by rw [HL.out]; exact hjlt
              obtain ⟨bl, offl, rfl, hbl, hcl⟩ := ((HRO.out.below HAc.out.below)) (by rw [i64s, List.length_map]; omega)
              have cj := hcl j (.int .i64 L[j]) (by rw [i64s, List.getElem?_map, List.getElem?_eq_getElem hjl]; rfl)
              have hxr := HXS.out L[j] (List.getElem_mem hjl)
              have htk := Plain.take_snoc L j L[j] (List.getElem?_eq_getElem hjl)
              obtain ⟨x, hx⟩ : ∃ x, L[j] = x := ⟨_, rfl⟩
              rw [hx] at cj hxr htk
              obtain ⟨y, hy⟩ : ∃ y, x * (p : Int) = y := ⟨_, rfl⟩
              have hy0 : 0 ≤ y := by rw [← hy]; exact Int.mul_nonneg hxr.1 (by omega)
              have hy1 : y ≤ 4096 := by
                rw [← hy]
                calc x * (p : Int) ≤ 64 * 64 := Int.mul_le_mul (by omega) (by omega) (by omega) (by omega)
                  _ = 4096 := by rfl
              have hw : IntKind.i64.wrap (x * (p : Int)) = y := by
                rw [hy]; simp [IntKind.wrap, IntKind.bits, IntKind.signed]; omega
              have hst : u32s (Plain.cellsOf ((nums R).take k) ++ (L.take (j + 1)).map fun x => x * (p : Int)) = u32s (Plain.cellsOf ((nums R).take k) ++ (L.take j).map fun x => x * (p : Int)) ++ [.int .u32 y] := by
                rw [htk, List.map_append, ← List.append_assoc, List.map_singleton, hy, u32s_snoc]
              have hlen : (u32s (Plain.cellsOf ((nums R).take k) ++ (L.take j).map fun x => x * (p : Int))).length ≤ 8192 := by
                have := Plain.cellsOf_len_le ((nums R).take k) p (fun r hr => (HRW.out r (List.mem_of_mem_take hr)).1) (by omega) (by rw [List.length_take]; omega)
                simp only [u32s, List.length_map, List.length_append, List.length_take]
                omega
              obtain ⟨xs, hxs⟩ : ∃ xs, u32s (Plain.cellsOf ((nums R).take k) ++ (L.take j).map fun x => x * (p : Int)) = xs := ⟨_, rfl⟩
              rw [hxs] at hst hlen
              have hA := HAc.out
              rw [hxs] at hA
              obtain ⟨d0, d1, d2⟩ := hA.cell
              have hsz := hA.lt
              have HST := Lib.hid hst
              have HA2 := Lib.hid hA
              clear hst hcl hx hxs hA htk hy
              go_wp2_with (at_builtin; refine wpList_append_own2 _ rfl (.tmp 44) (.tmp 50) _ rfl B.heap.size 42 i0 _ 1 4 Tryd.underlying34 hi hz0 hz1 hz2 rfl (by decide) v1 _ xs rfl (HA2.out.o1.alloc _) ⟨wr.heap.size, 0, none⟩ 1 1 [.int .u32 y] rfl rfl ?c1 ?c2 ?c3 ?c4 ?c5 ?_)
              case c1 => exact CellsAt_add (CellsAt.new wr _ _)
              case c2 => intro u hu; simp only [List.mem_cons, List.not_mem_nil, or_false] at hu; subst hu; rfl
              case c3 => simp only [maxLen]; omega
              case c4 => omega
              case c5 => have := HA2.out.below.size; simp; omega
              intro v3 w5 hown2 hg2 hb2
              obtain ⟨a2, cp2, rfl⟩ := own_slice hown2
              obtain ⟨s0, s1, s2⟩ := blk_cells3 (blk_grown HA2.out.blk hg2 HA2.out.n1)
              have f1 := blk_frozen (blk_grown HA2.out.blk hg2 HA2.out.n1) 1
              have hN := HA2.out.push1 hown2 hg2 hb2
              have HN := Lib.hid hN
              clear hN hown2 hg2 hb2
              go_wp2
              go_roundw
              case rel => exact ⟨j + 1, _, by omega, by go_num, by rw [HST.out]; exact HN.out⟩
              case measure => simp [RowKit.intOf]; omega
            · obtain rfl : p = j := by omega
              have hcs : Plain.cellsOf ((nums R).take k) ++ ((L.take p).map fun x => x * (p : Int)) = Plain.cellsOf ((nums R).take (k + 1)) := by
                rw [Plain.take_snoc _ k L HNK.out, Plain.cellsOf_snoc, HL.out, show L.take p = L from List.take_of_length_le (by rw [HL.out]; exact Nat.le_refl _)]
              have hA := HAc.out
              rw [hcs] at hA
              obtain ⟨ba3, off3, rfl, hb3, hc3⟩ := HTB.out.acc (by rw [List.length_map]; omega)
              have ck := hc3 k (.bool C[k]) (by rw [List.getElem?_map, List.getElem?_eq_getElem hkc]; rfl)
              have hst : u32s (Plain.accsOf (C.take (k + 1))) = u32s (Plain.accsOf (C.take k)) ++ [.int .u32 (if C[k] then 1 else 0)] := by
                rw [Plain.take_snoc C k C[k] (List.getElem?_eq_getElem hkc), Plain.accsOf_snoc, u32s_snoc]
              have hlen : (u32s (Plain.accsOf (C.take k))).length = k := by simp [u32s, Plain.accsOf]; omega
              obtain ⟨bk, hbk⟩ : ∃ b, C[k] = b := ⟨_, rfl⟩
              rw [hbk] at ck hst
              obtain ⟨d0, d1, d2⟩ := hA.cell
              have hsz := hA.lt
              obtain ⟨xs, hxs⟩ : ∃ xs, u32s (Plain.accsOf (C.take k)) = xs := ⟨_, rfl⟩
              rw [hxs] at hA hst hlen
              have HST := Lib.hid hst
              have HA2 := Lib.hid hA
              have HLN := Lib.hid hlen
              clear hst hA hcs hxs hbk hlen hc3 HAc
              go_wp2_with (at_builtin; refine wpList_append_own2 _ rfl (.tmp 55) (.tmp 56) _ rfl B.heap.size 42 i0 _ 1 4 Tryd.underlying34 hi hz0 hz1 hz2 rfl (by decide) v2 _ xs rfl (HA2.out.o2.alloc _) ⟨wr.heap.size, 0, none⟩ 1 1 [.int .u32 0] rfl rfl ?c1 ?c2 ?c3 ?c4 ?c5 ?_)
              case c1 => exact CellsAt_add (CellsAt.new wr _ _)
              case c2 => intro u hu; simp only [List.mem_cons, List.not_mem_nil, or_false] at hu; subst hu; rfl
              case c3 => rw [HLN.out]; simp only [maxLen]; omega
              case c4 => rw [HLN.out]; omega
              case c5 => have := HA2.out.below.size; simp; omega
              intro v3 w5 hown2 hg2 hb2
              rw [HLN.out] at hown2
              obtain ⟨g, cp2, rfl, hcp, hgB, hcel⟩ := own_at hown2 (by omega)
              obtain ⟨s0, s1, s2⟩ := blk_cells3 (blk_grown HA2.out.blk hg2 HA2.out.n2)
              have f2 := blk_frozen (blk_grown HA2.out.blk hg2 HA2.out.n2) 2
              have hN := HA2.out.push2 hown2 hg2 hb2
              have HN := Lib.hid hN
              clear hN hown2 hg2 hb2 hcel
              go_upto_region 17 with fail
              generalize hw6 : w5.setCell ⟨w.heap.size + 1, 2, none⟩ (.slice (some ⟨g, 0, none⟩) (k + 1) cp2) = w6 at HN ⊢
              clear hw6 s0 s1 s2 f2 d0 d1 d2 hsz
              obtain ⟨e0, e1, e2⟩ := HN.out.cell
              have b2 := (HC0.out.below HN.out.below).at_ 2 _ rfl
              have ck6 := (HN.out.below.cell (p := ⟨ba3, off3 + k, none⟩) hb3).trans ck
              have hlx : (xs ++ [Value.int .u32 0]).length = k + 1 := by rw [List.length_append, HLN.out]; rfl
              have x6 : w6.cell? ⟨g, k, none⟩ = some (.int .u32 0) := by
                have h := HN.out.o2
                rw [hlx] at h
                rw [h.cellAt k (by omega), List.getElem?_append_right (by rw [HLN.out]; exact Nat.le_refl _), HLN.out, Nat.sub_self]
                rfl
              have f6 : w6.frozen? ⟨g, k, none⟩ = false := by
                have h := HN.out.o2
                rw [hlx] at h
                exact h.frozenAt k
              clear ck hlx
              cases bk
              · go_wp2
                go_roundw
                case rel => exact ⟨k + 1, v0, v1, _, by omega, by go_num, by rw [HST.out]; exact HN.out⟩
                case measure => simp [RowKit.intOf]; omega
              · have hN2 := HN.out.set2 k (.int .u32 1)
                have hset : (xs ++ [Value.int .u32 0]).set k (.int .u32 1) = xs ++ [.int .u32 1] := by
                  rw [List.set_append_right _ _ (by rw [HLN.out]; exact Nat.le_refl _), HLN.out, Nat.sub_self]; rfl
                rw [hset] at hN2
                have HN2 := Lib.hid hN2
                clear hN2 hset
                go_wp2
                go_roundw
                case rel => exact ⟨k + 1, v0, v1, _, by omega, by go_num, by rw [HST.out]; exact HN2.out⟩
                case measure => simp [RowKit.intOf]; omega
        · obtain rfl : m = k := by omega
          have hNt : (nums R).take m = nums R := List.take_of_length_le (by simp [nums]; rw [HM.out]; exact Nat.le_refl _)
          have hCt : C.take m = C := List.take_of_length_le (by rw [HA.out]; exact Nat.le_refl _)
          have hA := HAc.out
          rw [hNt, hCt] at hA
          obtain ⟨d0, d1, d2⟩ := hA.cell
          have f0 := blk_frozen hA.blk 0
          have f1 := blk_frozen hA.blk 1
          have f2 := blk_frozen hA.blk 2
          obtain ⟨a0, n0, rfl⟩ := own_slice hA.o0
          obtain ⟨a1, n1, rfl⟩ := own_slice hA.o1
          obtain ⟨a2, n2, rfl⟩ := own_slice hA.o2
          have HA9 := Lib.hid hA
          clear hA hNt hCt HAc
          go_wp2
          have hS := HA9.out.same
          obtain ⟨m0, m1, m2⟩ := hS.cell
          have hle : w.heap.size ≤ B.heap.size := by have := HSB.out; omega
          have l0 : (u32s P).length = p := by rw [← HP.out]; simp [u32s]
          have l1 : (u32s (Plain.cellsOf (nums R))).length = (Plain.cellsOf (nums R)).length := by simp [u32s]
          have l2 : (u32s (Plain.accsOf C)).length = m := by rw [← HA.out]; simp [u32s, Plain.accsOf]
          refine bodyPost_ret (v := .tuple #[.agg #[.slice a0 (u32s P).length n0, .slice a1 (u32s (Plain.cellsOf (nums R))).length n1, .slice a2 (u32s (Plain.accsOf C)).length n2], .int .i64 0]) (by simp [results, Tryd.results10, go_sem, m0, m1, m2]) rfl ⟨_, _, _, rfl, ?_, ?_, ?_, hS.a01, hS.a02, hS.a12, HB0.out.trans (hS.below.mono hle)⟩
          · have := own_base hS.o0 hle; rwa [l0] at this ⊢
          · have := own_base hS.o1 hle; rwa [l1] at this ⊢
          · have := own_base hS.o2 hle; rwa [l2] at this ⊢
end Go.Proofs.YtdonginboioocaaDoor
