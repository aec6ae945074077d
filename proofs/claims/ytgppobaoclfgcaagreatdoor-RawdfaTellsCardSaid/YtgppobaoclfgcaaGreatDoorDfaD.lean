/- slices.Repeat. Conditions: what each lemma says. -/
import Derived.Test.YtgppobaoclfgcaaGreatDoorDfaA
import Derived.Test.YtgppobaoclfgcaaGreatDoorShelfN
import Derived.Test.YtgppobaoclfgcaaGreatDoorRegT
import Derived.Laws.CopyOwn
import Derived.Deep.CutBlock
import Derived.Deep.DeepCutAuto
set_option linter.unusedVariables false
set_option linter.unusedSimpArgs false
namespace Go.Proofs.YtgppobaoclfgcaaGreatDoor
open Go.RowKit Go.Lib Go.Maps
theorem make_ints (W : World) (n : Nat) (hn : n ≤ 1048576) : (Instr.makeSlice 58 (.int .i64 (n : Int)) (.int .i64 (n : Int))).run Tryz.prog W = .ok (.slice (some ⟨W.heap.size, 0, none⟩) n n) (W.alloc (.cells (i64s (List.replicate n 0)).toArray 3)) := by
  obtain ⟨i3, hi3, b0, b1, b2⟩ := info_parts info3
  have := run_make (P := Tryz.prog) W 58 3 i3 (.int .i64 0) Tryz.underlying58 hi3 b0 .i64 .i64 n n (by omega) (Int.le_refl _) (by rw [b2]; omega) (by omega)
  rw [this, b1, Nat.mul_one, Int.toNat_natCast]
  rw [show (Value.int .i64 0).cells = #[.int .i64 0] from rfl, made_one]
  simp [i64s]
theorem splice_ints (X : List Int) (off : Nat) (Y : List Int) : splice (i64s X) off (i64s Y) = i64s (splice X off Y) := by
  unfold splice i64s
  rw [List.length_map, List.map_append, List.map_append, List.map_take, List.map_drop]
theorem size3 : (Tryz.prog.info? 3).map (·.size) = some 1 := by kernel_rfl
theorem row_cells {w : World} {g : Nat} {X : List Int} (h : w.heap[g]? = some (.cells (i64s X).toArray 3 (0, 0))) (j : Nat) (u : Value) (hu : (i64s X)[j]? = some u) : w.cell? ⟨g, j, none⟩ = some u := by
  rw [cell_of_row _ _ _ _ _ _ h]; simpa using hu
theorem oper_copy_splice {P : Program} {o : Oper} {a : Act} {w : World} {K : Act → World → Prop} {Q : Exit → Act → World → Prop} (d s : Operand) (dT sT : TypeId)
    (ho : o.op = .call { callee := .builtin .copy, args := #[d, s], argTypes := #[dT, sT] }) (elem : TypeId) (hu : P.underlying dT = some (.slice elem)) (hsz : (P.info? elem).map (·.size) = some 1)
    (dp sp : Option Addr) (dLen dCap sLen sCap : Nat) (hd : a.eval d = .slice dp dLen dCap) (hs : a.eval s = .slice sp sLen sCap)
    (g off : Nat) (cur : List Value) (t : TypeId) (hg : w.heap[g]? = some (.cells cur.toArray t (0, 0))) (cs : List Value) (hn : cs.length = Nat.min sLen dLen)
    (hpos : 0 < cs.length → dp = some ⟨g, off, none⟩ ∧ ∃ ad, sp = some ad ∧ ∀ j v, cs[j]? = some v → w.cell? (ad.add j) = some v)
    (hfit : off + cs.length ≤ cur.length) (h1 : ∀ v ∈ cs, v.oneCell' = true) (B : Nat) (w0 : World) (hb : RowKit.Below B w0 w) (hBg : B ≤ g)
    (h : ∀ w', RowKit.Hid (w'.heap[g]? = some (.cells (splice cur off cs).toArray t (0, 0))) → RowKit.Below B w0 w' → K (a.put o.dst (goInt cs.length)) w') : Oper.wp P o a w K Q := by
  by_cases h0 : cs.length = 0
  · obtain rfl : cs = [] := List.eq_nil_of_length_eq_zero h0
    have hrun := run_copy_none (P := P) w dT sT o.type elem dp sp dLen dCap sLen sCap hu hsz (by simpa using hn.symm)
    unfold Oper.wp
    simp [execOp, ho, resolve, invoke, builtin, hd, hs, hrun, Result.andThen]
    exact h w (show _ = _ by simpa [splice] using hg) hb
  · obtain ⟨rfl, ad, rfl, hsrc⟩ := hpos (by omega)
    have hrun := run_copy_row (P := P) w dT sT o.type elem g off dLen dCap ad sLen sCap cur.toArray t cs hu hsz hg hn hsrc (by simpa using hfit) h1
    unfold Oper.wp
    simp [execOp, ho, resolve, invoke, builtin, hd, hs, hrun, Result.andThen]
    exact h _ (show _ = _ by simpa [splice] using setRow_heap w g _ _ t _ hg) (below_setRow hb hBg _)
set_option maxRecDepth 100000 in
set_option maxHeartbeats 4000000 in
theorem repeat_any (xg : Nat) (s : Int) (pl : Nat) (w : World) (hx : w.heap[xg]? = some (.cells #[.int .i64 s] 3 (0, 0))) (h1 : 1 ≤ pl) (hl : pl ≤ 1048576) :
    Calls Tryz.prog 41 #[.slice (some ⟨xg, 0, none⟩) 1 1, .int .i64 (pl : Int)] w fun e w' => ∃ g X, e = .returned (.slice (some ⟨g, 0, none⟩) pl pl) ∧ X.length = pl ∧ w'.heap[g]? = some (.cells (i64s X).toArray 3 (0, 0)) ∧ w.heap.size ≤ g ∧ Below w.heap.size w w' := by
  have HMU := Lib.hid (Tryz.bits_Mul 1 pl (by omega) (by omega) w)
  have e1 : ((1 * pl / 18446744073709551616 : Nat) : Int) = 0 := by omega
  have e2 : ((1 * pl % 18446744073709551616 : Nat) : Int) = (pl : Int) := by omega
  rw [e1, e2] at HMU
  have HX := Lib.hid hx
  have HMK := Lib.hid (fun (W : World) => make_ints W pl hl)
  have hmk := fun (W : World) => HMK.out W
  have c0 : decide ((pl : Int) < 0) = false := decide_eq_false (by omega)
  have c1 : IntKind.u64.wrap (pl : Int) = (pl : Int) := by rw [IntKind.wrap_u64]; omega
  have c2 : decide ((pl : Int) > 9223372036854775807) = false := decide_eq_false (by omega)
  have c2' : decide ((9223372036854775807 : Int) < (pl : Int)) = false := decide_eq_false (by omega)
  have c3 : IntKind.i64.wrap (pl : Int) = (pl : Int) := by rw [IntKind.wrap_i64]; omega
  clear hx HMK e1 e2
  go_enter Tryz.func41, Tryz.ntmps41
  go_wp2_with fail
  refine HMU.out.mono ?_
  rintro e w1 ⟨rfl, rfl⟩
  have hal := heap_alloc_new2 w1 (.cells (i64s (List.replicate pl 0)).toArray 3) w1.heap.size _ rfl
  have hxa := blk_later HX.out (below_alloc (Below.refl w1.heap.size w1) (.cells (i64s (List.replicate pl 0)).toArray 3))
  have HAL := Lib.hid hal
  have HXA := Lib.hid hxa
  have hmin : Nat.min 1 pl = 1 := Nat.min_eq_left h1
  have HMI := Lib.hid hmin
  clear hal hxa hmin
  obtain ⟨wa, hwa⟩ : ∃ x, w1.alloc (.cells (i64s (List.replicate pl 0)).toArray 3) = x := ⟨_, rfl⟩
  have hba : Below w1.heap.size w1 wa := by rw [← hwa]; exact below_alloc (Below.refl _ _) _
  rw [hwa] at HAL HXA
  have hmk2 : (Instr.makeSlice 58 (.int .i64 (pl : Int)) (.int .i64 (pl : Int))).run Tryz.prog w1 = .ok (.slice (some ⟨w1.heap.size, 0, none⟩) pl pl) wa := by rw [hmk w1, hwa]
  have HBA := Lib.hid hba
  clear hmk hwa hba
  go_wp2_with (refine wpList_copy_splice rfl (.tmp 31) (.tmp 32) 58 58 rfl 3 Tryz.underlying58 size3 (some ⟨w1.heap.size, 0, none⟩) (some ⟨xg, 0, none⟩) pl pl 1 1 rfl rfl w1.heap.size 0 (i64s (List.replicate pl 0)) 3 HAL.out [.int .i64 s] HMI.out.symm ?c1 ?c2 ?c3 w1.heap.size w1 HBA.out (Nat.le_refl _) ?_)
  case c1 =>
    intro j u hu
    have hj : j = 0 := by have := (List.getElem?_eq_some_iff.1 hu).1; simp at this; omega
    subst hj
    rw [cell_of_row _ _ _ _ _ _ HXA.out]
    simpa using hu
  case c2 => rw [i64s_len, List.length_replicate]; simpa using h1
  case c3 => intro u hu; simp only [List.mem_cons, List.not_mem_nil, or_false] at hu; rw [hu]; rfl
  intro w2 hg2 hb2
  have hX2 : w2.heap[w1.heap.size]? = some (.cells (i64s (splice (List.replicate pl 0) 0 [s])).toArray 3 (0, 0)) := by
    have := hg2.out
    rw [← splice_ints]
    exact this
  have hl2 : (splice (List.replicate pl 0) 0 [s]).length = pl := by rw [length_splice _ _ _ (by simpa using h1), List.length_replicate]
  obtain ⟨X2, hx2⟩ : ∃ X, splice (List.replicate pl (0 : Int)) 0 [s] = X := ⟨_, rfl⟩
  rw [hx2] at hX2 hl2
  have HX2 := Lib.hid (And.intro hX2 hl2)
  have HB2 := Lib.hid hb2
  clear hg2 hb2 hX2 hl2 hx2 hmk2
  go_wp2_with fail
  go_loopw [8] (fun i wr => ∃ (q : Nat) (X : List Int), 1 ≤ q ∧ q ≤ pl ∧ i = .int .i64 q ∧ X.length = pl ∧ wr.heap[w1.heap.size]? = some (.cells (i64s X).toArray 3 (0, 0)) ∧ Below w1.heap.size w1 wr) (fun i _ => pl - (RowKit.intOf i).toNat)
  case atStart => exact ⟨1, X2, Nat.le_refl _, h1, rfl, HX2.out.2, HX2.out.1, HB2.out⟩
  case round =>
    obtain ⟨q, X, hq1, hq, rfl, hXl, hXc, hB⟩ := hrel
    have HXC := Lib.hid (And.intro hXl hXc)
    have HB := Lib.hid hB
    clear hXl hXc hB
    by_cases hlt : q < pl
    · have d0 : decide ((q : Int) < (pl : Int)) = true := decide_eq_true (by omega)
      have d1 : decide (q < pl) = true := decide_eq_true hlt
      have g0 : (0 : Int) ≤ (q : Int) := by omega
      have g1 : (q : Int) ≤ (pl : Int) := by omega
      have g2 : ¬ ((q : Int) < 0) := by omega
      have g3 : ¬ ((pl : Int) < (q : Int)) := by omega
      have hpq : ¬ pl = q := by omega
      obtain ⟨Y, hY⟩ : ∃ Y, X.take (Nat.min q (pl - q)) = Y := ⟨_, rfl⟩
      have hyl : (i64s Y).length = Nat.min q (pl - q) := by rw [i64s_len, ← hY, List.length_take, HXC.out.1]; exact Nat.min_eq_left (Nat.le_trans (Nat.min_le_left _ _) hq)
      obtain ⟨y, hy⟩ : ∃ y, (i64s Y).length = y := ⟨_, rfl⟩
      have hyb : 1 ≤ y ∧ q + y ≤ pl := by
        rw [hy] at hyl
        have h2 : Nat.min q (pl - q) ≤ pl - q := Nat.min_le_right _ _
        have h3 : 1 ≤ Nat.min q (pl - q) := Nat.le_min.2 ⟨hq1, by omega⟩
        omega
      have hw : IntKind.i64.wrap ((q : Int) + ((i64s Y).length : Int)) = ((q + y : Nat) : Int) := by rw [hy, IntKind.wrap_i64]; omega
      have HSRC := Lib.hid (fun (j : Nat) (u : Value) (hu : (i64s Y)[j]? = some u) => (show wr.cell? ⟨w1.heap.size, j, none⟩ = some u from by
        refine row_cells HXC.out.2 j u ?_
        rw [← hY] at hu
        unfold i64s at hu ⊢
        rw [List.map_take, List.getElem?_take] at hu
        split at hu
        · exact hu
        · cases hu))
      have HY := Lib.hid (And.intro hyl (And.intro hy hyb))
      have HFIT := Lib.hid (show q + (i64s Y).length ≤ (i64s X).length by rw [hy, i64s_len, HXC.out.1]; exact hyb.2)
      clear hY hyl hy hyb
      have hgd : wr.drew.heap[w1.heap.size]? = some (.cells (i64s X).toArray 3 (0, 0)) := HXC.out.2
      have hsd : 0 < (i64s Y).length → some (⟨w1.heap.size, q, none⟩ : Addr) = some ⟨w1.heap.size, q, none⟩ ∧ ∃ ad, some (⟨w1.heap.size, 0, none⟩ : Addr) = some ad ∧ ∀ (j : Nat) (u : Value), (i64s Y)[j]? = some u → wr.drew.cell? (ad.add j) = some u := fun _ => ⟨rfl, _, rfl, fun j u hu => by
        rw [Addr.add_lit, Nat.zero_add]
        exact HSRC.out j u hu⟩
      have HGD := Lib.hid hgd
      have HSD := Lib.hid hsd
      have HBD := Lib.hid (HB.out.drew)
      clear hgd hsd
      go_upto_region 9 with fail
      refine wp_region_noPanic ?_
      refine wp_region_T 8 (S := fun w' : World => True) (by kernel_rfl) (by decide) ?_
      refine wpAnyT_take2 0 (v := ?tvx0) (by kernel_rfl) rfl (by kernel_rfl) (fun _ _ _ h => h) (Or.inl ⟨by rfl, ?tyx0⟩) True.intro ?trx0
      case tyx0 => (intro w' hSw; (try dsimp only at hSw); go_simp; try with_reducible rfl)
      try simp only [Act.put, List.setIfInBounds_toArray, List.set_cons_zero, List.set_cons_succ]
      refine wpAnyT_take2 1 (v := ?tvx1) (by kernel_rfl) rfl (by kernel_rfl) (fun _ _ _ h => h) (Or.inl ⟨by rfl, ?tyx1⟩) True.intro ?trx1
      case tyx1 => (intro w' hSw; (try dsimp only at hSw); go_simp; try with_reducible rfl)
      try simp only [Act.put, List.setIfInBounds_toArray, List.set_cons_zero, List.set_cons_succ]
      refine wpAnyT_take2 2 (v := ?tvx2) (by kernel_rfl) rfl (by kernel_rfl) (fun _ _ _ h => h) (Or.inl ⟨by rfl, ?tyx2⟩) True.intro ?trx2
      case tyx2 => (intro w' hSw; (try dsimp only at hSw); go_simp; try with_reducible rfl)
      try simp only [Act.put, List.setIfInBounds_toArray, List.set_cons_zero, List.set_cons_succ]
      refine wpAnyT_take2 3 (v := ?tvx3) (by kernel_rfl) rfl (by kernel_rfl) (fun _ _ _ h => h) (Or.inl ⟨by rfl, ?tyx3⟩) True.intro ?trx3
      case tyx3 => (intro w' hSw; (try dsimp only at hSw); go_simp; try with_reducible rfl)
      try simp only [Act.put, List.setIfInBounds_toArray, List.set_cons_zero, List.set_cons_succ]
      refine wpAnyT_take2 4 (v := ?tvx4) (by kernel_rfl) rfl (by kernel_rfl) (fun _ _ _ h => h) (Or.inl ⟨by rfl, ?tyx4⟩) True.intro ?trx4
      case tyx4 => (intro w' hSw; (try dsimp only at hSw); go_simp; try with_reducible rfl)
      try simp only [Act.put, List.setIfInBounds_toArray, List.set_cons_zero, List.set_cons_succ]
      refine wpAnyT_take2 5 (v := ?tvx5) (by kernel_rfl) rfl (by kernel_rfl) (fun _ _ _ h => h) (Or.inl ⟨by rfl, ?tyx5⟩) True.intro ?trx5
      case tyx5 => (intro w' hSw; (try dsimp only at hSw); go_simp; try with_reducible rfl)
      try simp only [Act.put, List.setIfInBounds_toArray, List.set_cons_zero, List.set_cons_succ]
      refine wpAnyT_take2 6 (v := ?tvx6) (by kernel_rfl) rfl (by kernel_rfl) (fun _ _ _ h => h) (Or.inl ⟨by rfl, ?tyx6⟩) True.intro ?trx6
      case tyx6 => (intro w' hSw; (try dsimp only at hSw); go_simp; try with_reducible rfl)
      try simp only [Act.put, List.setIfInBounds_toArray, List.set_cons_zero, List.set_cons_succ]
      refine wpAnyT_one2 7 rfl (by kernel_rfl) ?_
      intro K' hK'
      rw [if_pos (by rfl)]
      have HK := Lib.hid hK'
      clear hK'
      refine oper_copy_splice (.tmp 41) (.tmp 44) 58 58 (by rfl) 3 Tryz.underlying58 size3 (some ⟨w1.heap.size, q, none⟩) (some ⟨w1.heap.size, 0, none⟩) (pl - q) (pl - q) q pl (by rfl) (by rfl) w1.heap.size q (i64s X) 3 HGD.out (i64s Y) HY.out.1 HSD.out HFIT.out (i64s_one Y) w1.heap.size w1 HBD.out (Nat.le_refl _) ?_
      intro w4 hg4 hb4
      refine HK.out _ _ ⟨True.intro, ?_⟩
      clear HK K'
      try simp only [Act.put, List.setIfInBounds_toArray, List.set_cons_zero, List.set_cons_succ]
      refine ⟨by kernel_rfl, ?_⟩
      change wpList _ _ _ [_, _] _ _
      have hX4 : w4.heap[w1.heap.size]? = some (.cells (i64s (splice X q Y)).toArray 3 (0, 0)) := by rw [← splice_ints]; exact hg4.out
      have hl4 : (splice X q Y).length = pl := by rw [length_splice _ _ _ (by have := HFIT.out; rw [i64s_len, i64s_len] at this; exact this)]; exact HXC.out.1
      have HX4 := Lib.hid (And.intro hl4 hX4)
      have HB4 := Lib.hid hb4
      clear hg4 hb4 hX4 hl4
      go_wp2
      refine NoPanic.normal ?_
      go_wp2
      go_roundw
      case rel => exact ⟨q + y, splice X q Y, by omega, HY.out.2.2.2, by go_num, HX4.out.1, HX4.out.2, HB4.out⟩
      case measure => have := HY.out.2.2.1; simp [RowKit.intOf]; omega
    · have d0 : decide ((q : Int) < (pl : Int)) = false := decide_eq_false (by omega)
      have d1 : decide (q < pl) = false := decide_eq_false hlt
      go_wp2_with fail
      go_ret
      exact ⟨_, X, rfl, HXC.out.1, HXC.out.2, Nat.le_refl _, HB.out⟩
end Go.Proofs.YtgppobaoclfgcaaGreatDoor
