/- dfa: where a part goes to; whether a state is accepted. Conditions: what each lemma says. -/
import Derived.Test.YtgppobaoclfgcaaGreatDoorDfaB
import Derived.Test.YtgppobaoclfgcaaGreatDoorHas
import Derived.Test.YtgppobaoclfgcaaGreatDoorCodeA
import Derived.Laws.StructEq
import Derived.Deep.RegionHeld3
import Derived.Deep.QuietTactic
import Derived.Deep.Cut
import Derived.Deep.CutBlock
import Derived.Deep.DeepCutAuto
set_option linter.unusedVariables false
set_option linter.unusedSimpArgs false
namespace Go.Proofs.YtgppobaoclfgcaaGreatDoor
open Go.RowKit Go.Lib Go.Maps
open Plain (In4 insB bnd riB Rg May)
def Keeps (w0 w : World) : Prop := Below w0.heap.size w0 w
theorem one_arg {n m : Nat} {g : Int} {t : In4} (h : riB n m g t = true) (h1 : t.1 = 1) : 0 ≤ t.2.2.2 ∧ t.2.2.2 < (m : Int) := by
  unfold Plain.riB at h
  simp only [Bool.and_eq_true, decide_eq_true_eq] at h
  obtain ⟨_, h5⟩ := h
  unfold Plain.bnd at h5
  rw [if_neg (by omega), if_pos h1] at h5
  unfold Plain.insB at h5
  simpa using h5
set_option maxRecDepth 1000000 in
set_option maxHeartbeats 8000000 in
theorem goes_any (W w : World) (b mb m : Nat) (lv nv av sv : Value) (I C : Option Addr) (L : List In4) (K : List Cs) (n c kn d : Nat) (g : Int) (N : List Row) (A : List Bool) (S : List Row) (R : List Th) (r : Row) (z : Int)
    (hB : Bd W w b mb m lv nv av sv I C n c kn d g N A S R) (hT : Tp W) (hP : PgAt W I L C K) (hLn : L.length = n) (hK : K.length = kn) (hRi : ∀ t ∈ L, riB n kn g t = true) (hn : n ≤ 512) (hr : Ln w r) (hi : InN n r.2.2) (hl : r.2.2.length ≤ n) (hm : m ≤ 999999) (hS : S.length ≤ 999999) :
    Calls Tryz.prog 42 #[.pointer (some ⟨b, 0, none⟩), rowV r, .int .i32 z] w (StPost W w b mb m lv nv av I C n c kn d g N A S R (fun x => frm x w.heap.size)) := by
  have HB := Lib.hid hB
  have HT := Lib.hid hT
  have HP := Lib.hid hP
  have HLN := Lib.hid hLn
  have HKN := Lib.hid hK
  have HRI := Lib.hid hRi
  have HR := Lib.hid (And.intro hr hi)
  obtain ⟨l, hll⟩ : ∃ l, r.2.2.length = l := ⟨_, rfl⟩
  obtain ⟨A1, hA1⟩ : ∃ l, r.1 = l := ⟨_, rfl⟩
  obtain ⟨c1, hc1⟩ : ∃ l, r.2.1 = l := ⟨_, rfl⟩
  have HRV := Lib.hid (show rowV r = .slice A1 l c1 by unfold rowV; rw [hA1, hll, hc1])
  have HA1 := Lib.hid (And.intro hA1 hll)
  rw [HRV.out]
  rw [hll] at hl
  have hto := World.ownsRow_lit (base := w.heap.size) (e := 3) (size := 1) w #[.int .i64 0] 1 (Nat.le_refl _) (by decide) rfl
  have HTO := Lib.hid hto
  obtain ⟨i3, hi3, z0, z1, z2⟩ := info_parts info3
  clear hB hT hP hLn hK hRi hr hi hll hA1 hc1 hto
  go_enter Tryz.func42, Tryz.ntmps42
  go_wp2_with fail
  go_loopw [7, 9, 10, 14] (fun s7 _ _ i wr => ∃ (q : Nat) (T : List Int), q ≤ l ∧ i = .int .i64 q ∧ 1 ≤ T.length ∧ T.length ≤ q + 1 ∧ wr.ownsRow w.heap.size 3 1 s7 T.length (i64s T) ∧ Below w.heap.size w wr) (fun _ _ _ i _ => l - (RowKit.intOf i).toNat)
  case atStart => exact ⟨0, [0], Nat.zero_le _, rfl, Nat.le_refl _, Nat.le_refl _, HTO.out, below_alloc (Below.refl _ _) _⟩
  case round =>
    obtain ⟨q, T, hq, rfl, hT1, hTl, hO, hBl⟩ := hrel
    have HO := Lib.hid hO
    have HBl := Lib.hid hBl
    have HTL := Lib.hid (And.intro hT1 hTl)
    have HBr := Lib.hid (HB.out.below hBl)
    clear hO hBl hT1 hTl
    by_cases hlt : q < l
    · have hq2 : q < r.2.2.length := by rw [HA1.out.2]; exact hlt
      obtain ⟨ba, off, hae, hba, c0⟩ := i64_at ((HR.out.1.ki (.below HBl.out)).sl) q hq2
      rw [HA1.out.1] at hae
      subst hae
      have hin := HR.out.2 _ (List.getElem_mem hq2)
      obtain ⟨k, hk⟩ : ∃ k, r.2.2[q] = k := ⟨_, rfl⟩
      rw [hk] at c0 hin
      obtain ⟨j, rfl⟩ := Int.eq_ofNat_of_zero_le hin.1
      have hjn : j < n := by omega
      have hjL : j < L.length := by rw [HLN.out]; exact hjn
      obtain ⟨ib, io, hIe, hib, t0, t1, t2, t3⟩ := i4_at (HP.out.insts.below HBr.out.sep.2) j hjL
      have hri := HRI.out _ (List.getElem_mem hjL)
      obtain ⟨t, ht⟩ : ∃ t, L[j] = t := ⟨_, rfl⟩
      rw [ht] at t0 t1 t2 t3 hri
      obtain ⟨op, x, y, a⟩ := t
      dsimp only at t0 t1 t2 t3
      have HRJ := Lib.hid hri
      have hbx := HBr.out.sep.box 0 _ _ _ rfl
      have lb := lt_of_some hbx.2
      have x3 : wr.cell? ⟨b, 3, none⟩ = some (.slice (some ⟨ib, io, none⟩) n c) := by rw [cell_of_row _ _ _ _ _ _ hbx.2, ← hIe]; rfl
      have x4 : wr.cell? ⟨b, 4, none⟩ = some (.slice C kn d) := by rw [cell_of_row _ _ _ _ _ _ hbx.2]; rfl
      have d0 : decide ((q : Int) < (l : Int)) = true := decide_eq_true (by omega)
      have d1 : decide (q < l) = true := decide_eq_true hlt
      have g0 : (0 : Int) ≤ (q : Int) := by omega
      have g1 : (q : Int) < (l : Int) := by omega
      have g2 : (0 : Int) ≤ (j : Int) := by omega
      have g3 : (j : Int) < (n : Int) := by omega
      clear hbx hri ht hk hin hIe
      go_upto_region 6 with fail
      have hta := heap_alloc_new2 wr (.cells #[.int .i64 op, .int .i64 x, .int .i64 y, .int .i64 a] 77) wr.heap.size _ rfl
      have hbt := below_alloc (Below.refl wr.heap.size wr) (.cells #[.int .i64 op, .int .i64 x, .int .i64 y, .int .i64 a] 77)
      obtain ⟨wt, hwt⟩ : ∃ v, wr.alloc (.cells #[.int .i64 op, .int .i64 x, .int .i64 y, .int .i64 a] 77) = v := ⟨_, rfl⟩
      rw [hwt] at hta hbt ⊢
      obtain ⟨tb, htb⟩ : ∃ v, wr.heap.size = v := ⟨_, rfl⟩
      have HBT := Lib.hid (below_then HBl.out hbt)
      rw [htb] at hta ⊢
      have HTA := Lib.hid hta
      have HX4 := Lib.hid ((hbt.cell (p := ⟨b, 4, none⟩) lb).trans x4)
      have lbt := Nat.lt_of_lt_of_le lb hbt.size
      have HOt := Lib.hid (own_below HO.out hbt)
      have HBdt := Lib.hid (HBr.out.below hbt)
      clear hta hbt hwt htb c0 t0 t1 t2 t3 x3 x4 hba hib lb d0 d1 g0 g1 g2 g3
      have hpush : ∀ (w9 : World), Keeps wt w9 → w9.cell? ⟨tb, 1, none⟩ = some (.int .i64 x) := fun w9 hk => by rw [cell_of_row _ _ _ _ _ _ (blk_later HTA.out hk)]; rfl
      have HPU := Lib.hid hpush
      clear hpush
      by_cases h1 : op = 1
      · subst h1
        have ha := one_arg HRJ.out rfl
        dsimp only at ha
        obtain ⟨ak, rfl⟩ := Int.eq_ofNat_of_zero_le ha.1
        have hak : ak < K.length := by rw [HKN.out]; omega
        obtain ⟨cb, co, rfl, hcb, k0⟩ := cs_at (HP.out.cls.below HBdt.out.sep.2) ak hak
        have hcl := HP.out.each _ (List.getElem_mem hak)
        obtain ⟨kx, hkx⟩ : ∃ k, K[ak] = k := ⟨_, rfl⟩
        rw [hkx] at k0 hcl
        unfold clV at k0
        have cH := fun (w' : World) (hk : Keeps wt w') => has_any kx.R kx.A kx.R.length kx.c z w' ((hcl.1.below HBdt.out.sep.2).below hk) rfl hcl.2
        obtain ⟨hv, hhv⟩ : ∃ x, hasB kx.R z = x := ⟨_, rfl⟩
        obtain ⟨kl, hkl⟩ : ∃ x, kx.R.length = x := ⟨_, rfl⟩
        rw [hhv, hkl] at cH
        rw [hkl] at k0
        have CELL := fun (w' : World) (hk : Keeps wt w') => (by
          have h0 := blk_later HTA.out hk
          exact ⟨by rw [cell_of_row _ _ _ _ _ _ h0]; rfl, by rw [cell_of_row _ _ _ _ _ _ h0]; rfl, (hk.cell (p := ⟨b, 4, none⟩) lbt).trans HX4.out, (hk.cell (p := ⟨cb, co + ak, none⟩) hcb).trans k0, hk⟩ : w'.cell? ⟨tb, 0, none⟩ = some (.int .i64 1) ∧ w'.cell? ⟨tb, 3, none⟩ = some (.int .i64 (ak : Int)) ∧ w'.cell? ⟨b, 4, none⟩ = some (.slice (some ⟨cb, co, none⟩) kn d) ∧ w'.cell? ⟨cb, co + ak, none⟩ = some (.slice kx.A kl kx.c) ∧ Keeps wt w')
        have HCE := Lib.hid CELL
        have HCH := Lib.hid (fun (w' : World) (hk : Keeps wt w') => (cH w' hk).mono (R' := fun e w2 => e = .returned (.bool hv) ∧ (w2.cell? ⟨tb, 0, none⟩ = some (.int .i64 1) ∧ w2.cell? ⟨tb, 3, none⟩ = some (.int .i64 (ak : Int)) ∧ w2.cell? ⟨b, 4, none⟩ = some (.slice (some ⟨cb, co, none⟩) kn d) ∧ w2.cell? ⟨cb, co + ak, none⟩ = some (.slice kx.A kl kx.c) ∧ Keeps wt w2)) (fun e w2 h => ⟨h.1, CELL w2 (below_then hk h.2)⟩))
        have i0 : (0 : Int) ≤ (ak : Int) := by omega
        have i1 : (ak : Int) < (kn : Int) := ha.2
        have e1 : ((1 : Int) == 1) = true := rfl
        clear CELL cH hcl hkx hhv hkl k0 ha
        have hSd : wt.drew.cell? ⟨tb, 0, none⟩ = some (.int .i64 1) ∧ wt.drew.cell? ⟨tb, 3, none⟩ = some (.int .i64 (ak : Int)) ∧ wt.drew.cell? ⟨b, 4, none⟩ = some (.slice (some ⟨cb, co, none⟩) kn d) ∧ wt.drew.cell? ⟨cb, co + ak, none⟩ = some (.slice kx.A kl kx.c) ∧ Keeps wt wt.drew := HCE.out _ (Below.drew (Below.refl _ _))
        obtain ⟨a0, a1, a2, a3, _⟩ := HCE.out wt (Below.refl _ _)
        go_region_held3 (fun w' => w'.cell? ⟨tb, 0, none⟩ = some (.int .i64 1) ∧ w'.cell? ⟨tb, 3, none⟩ = some (.int .i64 (ak : Int)) ∧ w'.cell? ⟨b, 4, none⟩ = some (.slice (some ⟨cb, co, none⟩) kn d) ∧ w'.cell? ⟨cb, co + ak, none⟩ = some (.slice kx.A kl kx.c) ∧ Keeps wt w') (first | assumption | go_keep) (first
          | (go_at_call 68; (with_reducible refine (HCH.out _ (by first | assumption | exact hSd.2.2.2.2)).mono ?_); rintro e w9 ⟨rfl, hS9⟩))
        have hk9 : Keeps wt w9 := hS9.2.2.2.2
        have HB9 := Lib.hid (below_then HBT.out hk9)
        have y1 := HPU.out w9 hk9
        have lt9 : tb < w9.heap.size := lt_of_some (blk_later HTA.out hk9)
        have hO9 := own_below HOt.out hk9
        have HO9 := Lib.hid hO9
        clear hS9 hk9 hO9 hSd a0 a1 a2 a3 e1 i0 i1
        cases hv
        · clear y1 lt9
          go_wp2_with fail
          go_roundw
          case rel => exact ⟨q + 1, T, by omega, by go_num, HTL.out.1, by have := HTL.out; omega, HO9.out, HB9.out⟩
          case measure => simp [RowKit.intOf]; omega
        · have HROW := Lib.hid (HO9.out.alloc (.cells #[.int .i64 x] 3))
          go_wp2_with (at_builtin; refine wpList_append_own2 _ rfl (.tmp 42) (.tmp 45) _ rfl w.heap.size 3 i3 _ 1 8 Tryz.underlying58 hi3 z0 z1 z2 rfl (by decide) _ T.length (i64s T) rfl HROW.out ⟨w9.heap.size, 0, none⟩ 1 1 [.int .i64 x] rfl rfl (CellsAt_add (CellsAt.new w9 _ _)) ?c2 ?c3 ?c4 ?c5 ?_)
          case c2 => first | exact rfl | (intro u hu; simp only [List.mem_cons, List.not_mem_nil, or_false] at hu; rw [hu]; rfl)
          case c3 => have := HTL.out; simp only [maxLen]; omega
          case c4 => have := HTL.out; omega
          case c5 => have := HB9.out.size; simp; omega
          intro v3 w7 hown2 hg2 hvb
          have hb7 : Below w.heap.size w w7 := (HB9.out.alloc HB9.out.size _).grown hg2 (by have := HB9.out.size; simp; omega) (fun g hg => (HROW.out.lt g hg).1)
          have HO7 := Lib.hid hown2
          have HB7 := Lib.hid hb7
          clear hown2 hg2 hvb hb7 y1 lt9
          go_wp2_with fail
          go_roundw
          case rel =>
            refine ⟨q + 1, T ++ [x], by omega, by go_num, by simp, by have := HTL.out; simp; omega, ?_, HB7.out⟩
            have e1 : T.length + 1 = (T ++ [x]).length := by simp
            have e2 : i64s T ++ [.int .i64 x] = i64s (T ++ [x]) := by unfold i64s; rw [List.map_append]; rfl
            rw [← e1, ← e2]
            exact HO7.out
          case measure => simp [RowKit.intOf]; omega
      · have e1 : (op == 1) = false := beq_eq_false_iff_ne.2 h1
        have y0 : wt.cell? ⟨tb, 0, none⟩ = some (.int .i64 op) := by rw [cell_of_row _ _ _ _ _ _ HTA.out]; rfl
        have lt0 := lt_of_some HTA.out
        clear h1
        go_quiet (fail)
        have hBd := Lib.hid (below_then HBT.out (⟨rfl, rfl, rfl, Nat.le_refl _, fun _ _ => rfl⟩ : RowKit.Below wt.heap.size wt (wt.drewN nq)))
        have hOd := Lib.hid (own_below HOt.out (⟨rfl, rfl, rfl, Nat.le_refl _, fun _ _ => rfl⟩ : RowKit.Below wt.heap.size wt (wt.drewN nq)))
        clear y0 lt0
        go_wp2_with fail
        go_roundw
        case rel => exact ⟨q + 1, T, by omega, by go_num, HTL.out.1, by have := HTL.out; omega, hOd.out, hBd.out⟩
        case measure => simp [RowKit.intOf]; omega
    · have d0 : decide ((q : Int) < (l : Int)) = false := decide_eq_false (by omega)
      have d1 : decide (q < l) = false := decide_eq_false hlt
      obtain ⟨r2, hv2, ht2, hln2, _⟩ := Ln.of_own HO.out
      obtain ⟨p2, c2, t2⟩ := r2
      dsimp only at ht2
      subst ht2
      unfold rowV at hv2
      dsimp only at hv2
      subst hv2
      have cc := closure_any I C L c kn d g p2 t2 c2 wr (HP.out.insts.below HBr.out.sep.2) (by rw [HLN.out]; omega) hln2.sl (by have := HTL.out; omega)
      rw [HLN.out] at cc
      have HC := Lib.hid cc
      obtain ⟨tn, htn⟩ : ∃ x, t2.length = x := ⟨_, rfl⟩
      rw [htn] at HC ⊢
      have hbx := HBr.out.sep.box 0 _ _ _ rfl
      have lb := lt_of_some hbx.2
      have x3 : wr.cell? ⟨b, 3, none⟩ = some (.slice I n c) := by rw [cell_of_row _ _ _ _ _ _ hbx.2]; rfl
      have x4 : wr.cell? ⟨b, 4, none⟩ = some (.slice C kn d) := by rw [cell_of_row _ _ _ _ _ _ hbx.2]; rfl
      have x5 : wr.cell? ⟨b, 5, none⟩ = some (.int .i64 g) := by rw [cell_of_row _ _ _ _ _ _ hbx.2]; rfl
      clear cc hbx htn hln2
      go_wp2_with fail
      refine HC.out.mono ?_
      rintro e w1 ⟨v, T2, rfl, hin, hlen, hown, hb⟩
      obtain ⟨r3, hv3, ht3, hln3, hfr3⟩ := Ln.of_own hown
      subst hv3
      subst ht3
      have cs := state_any W w1 b mb m lv nv av sv I C n c kn d g N A S R r3 (HBr.out.below hb) HT.out hln3 hin hlen (by omega) (by omega) (by omega)
      have HCS := Lib.hid cs
      have HK := Lib.hid ((Ki.below HBl.out).trans (Ki.below hb))
      have HF := Lib.hid (show frm r3 w.heap.size by
        rcases hfr3 with h | ⟨k, e, hk⟩
        · exact .inl h
        · exact .inr ⟨k, e, Nat.le_trans HBl.out.size hk⟩)
      clear cs hin hlen hown hb hln3 hfr3 lb x3 x4 x5
      go_wp2_with fail
      refine HCS.out.mono ?_
      rintro e w2 ⟨zz, sv2, S2, m2, rfl, hB2, hm2, hS2, hk2⟩
      have HFIN := Lib.hid (show StPost W w b mb m lv nv av I C n c kn d g N A S R (fun x => frm x w.heap.size) (.returned (.int .i64 zz)) w2 from ⟨zz, sv2, S2, m2, rfl, hB2, hm2, by
        rcases hS2 with h | ⟨r, rfl, h⟩
        · exact .inl h
        · exact .inr ⟨_, HF.out, h⟩, HK.out.trans hk2⟩)
      clear hB2 hm2 hS2 hk2
      go_wp2_with fail
      go_ret
      exact HFIN.out
end Go.Proofs.YtgppobaoclfgcaaGreatDoor
namespace Go.Proofs.YtgppobaoclfgcaaGreatDoor
open Go.RowKit Go.Lib Go.Maps
open Plain (In4)
/-- the closure in row: whether a place is accepted -/
theorem acc_any (j : Nat) (rb b : Nat) (I : Option Addr) (L : List In4) (n c : Nat) (w : World) (hb : b < w.heap.size) (hrb : rb < w.heap.size) (h0 : w.cell? ⟨rb, 0, none⟩ = some (.pointer (some ⟨b, 0, none⟩))) (h3 : w.cell? ⟨b, 3, none⟩ = some (.slice I n c)) (hI : Sl w I (i4s L)) (hn : L.length = n) (hj : j < n) (hn2 : n ≤ 100000) :
    Calls Tryz.prog 40 #[.int .i64 (j : Int), .pointer (some ⟨rb, 0, none⟩)] w fun e w' => ∃ q, e = .returned (.bool q) ∧ Below w.heap.size w w' := by
  obtain ⟨ib, io, rfl, hib, t0, t1, t2, t3⟩ := i4_at hI j (by omega)
  obtain ⟨t, ht⟩ : ∃ t, L[j] = t := ⟨_, rfl⟩
  rw [ht] at t0
  obtain ⟨op, x, y, a⟩ := t
  dsimp only at t0
  have g0 : (0 : Int) ≤ (j : Int) := by omega
  have g1 : (j : Int) < (n : Int) := by omega
  clear t1 t2 t3 ht hI
  go_enter Tryz.func40, Tryz.ntmps40
  go_wp2_with fail
  go_ret
  exact ⟨_, rfl, Below.refl _ _⟩
set_option maxRecDepth 100000 in
set_option maxHeartbeats 1000000 in
theorem idx66_any (X : List Int) (A : Option Addr) (cap rb b : Nat) (I : Option Addr) (L : List In4) (n c : Nat) (w : World) (hX : Sl w A (i64s X)) (hx : InN n X) (hl : X.length ≤ 100000) (hb : b < w.heap.size) (hrb : rb < w.heap.size) (h0 : w.cell? ⟨rb, 0, none⟩ = some (.pointer (some ⟨b, 0, none⟩))) (h3 : w.cell? ⟨b, 3, none⟩ = some (.slice I n c)) (hI : Sl w I (i4s L)) (hn : L.length = n) (hn2 : n ≤ 100000) :
    Calls Tryz.prog 66 #[.slice A X.length cap, .func (Fn.func 40) #[] #[.pointer (some ⟨rb, 0, none⟩)]] w fun e w' => ∃ z : Int, e = .returned (.int .i64 z) ∧ Below w.heap.size w w' := by
  obtain ⟨z, hN⟩ : ∃ n, X.length = n := ⟨_, rfl⟩
  have HX := Lib.hid hX
  have HNN := Lib.hid hN
  have HXI := Lib.hid hx
  have HC := Lib.hid (fun (j : Nat) (hj : j < n) (w' : World) (hk : Below w.heap.size w w') => acc_any j rb b I L n c w' (Nat.lt_of_lt_of_le hb hk.size) (Nat.lt_of_lt_of_le hrb hk.size) ((hk.cell (p := ⟨rb, 0, none⟩) hrb).trans h0) ((hk.cell (p := ⟨b, 3, none⟩) hb).trans h3) (hI.below hk) hn hj hn2)
  rw [hN] at hl ⊢
  clear hX hN hx h0 h3 hI hb hrb
  go_enter Tryz.func66, Tryz.ntmps66
  go_wp2
  go_loopw [5, 8] (fun _ i wr => ∃ k : Nat, k ≤ z ∧ i = .int .i64 k ∧ Below w.heap.size w wr) (fun _ i _ => z - (RowKit.intOf i).toNat)
  case atStart => exact ⟨0, Nat.zero_le _, rfl, Below.refl _ _⟩
  case round =>
    obtain ⟨k, hk, rfl, hB⟩ := hrel
    have HB := Lib.hid hB
    by_cases hlt : k < z
    · have hkl : k < X.length := by rw [HNN.out]; exact hlt
      obtain ⟨ba, off, rfl, hba, c0⟩ := i64_at (HX.out.below hB) k hkl
      have hin := HXI.out _ (List.getElem_mem hkl)
      obtain ⟨t, ht⟩ : ∃ t, X[k] = t := ⟨_, rfl⟩
      rw [ht] at c0 hin
      obtain ⟨j, rfl⟩ := Int.eq_ofNat_of_zero_le hin.1
      have HS := Lib.hid (HC.out j (by omega) wr HB.out)
      have d0 : decide ((k : Int) < (z : Int)) = true := decide_eq_true (by omega)
      have d1 : decide (k < z) = true := decide_eq_true hlt
      have g0 : (0 : Int) ≤ (k : Int) := by omega
      have g1 : (k : Int) < (z : Int) := by omega
      clear ht hin hB
      go_upto_region 4 with fail
      go_wp2_with fail
      refine HS.out.mono ?_
      rintro e w' ⟨q, rfl, hb1⟩
      have HB1 := Lib.hid (below_then HB.out hb1)
      clear hb1 c0
      cases q
      · go_wp2_with fail
        go_roundw
        case rel => exact ⟨k + 1, by omega, by go_num, HB1.out⟩
        case measure => simp [RowKit.intOf]; omega
      · go_wp2_with fail
        go_ret
        exact ⟨_, rfl, HB1.out⟩
    · have d0 : decide ((k : Int) < (z : Int)) = false := decide_eq_false (by omega)
      have d1 : decide (k < z) = false := decide_eq_false hlt
      clear hB
      go_wp2_with fail
      go_ret
      exact ⟨_, rfl, HB.out⟩
theorem has39_any (X : List Int) (A : Option Addr) (cap rb b : Nat) (I : Option Addr) (L : List In4) (n c : Nat) (w : World) (hX : Sl w A (i64s X)) (hx : InN n X) (hl : X.length ≤ 100000) (hb : b < w.heap.size) (hrb : rb < w.heap.size) (h0 : w.cell? ⟨rb, 0, none⟩ = some (.pointer (some ⟨b, 0, none⟩))) (h3 : w.cell? ⟨b, 3, none⟩ = some (.slice I n c)) (hI : Sl w I (i4s L)) (hn : L.length = n) (hn2 : n ≤ 100000) :
    Calls Tryz.prog 39 #[.slice A X.length cap, .func (Fn.func 40) #[] #[.pointer (some ⟨rb, 0, none⟩)]] w fun e w' => ∃ q, e = .returned (.bool q) ∧ Below w.heap.size w w' := by
  have HS := Lib.hid (idx66_any X A cap rb b I L n c w hX hx hl hb hrb h0 h3 hI hn hn2)
  clear hX hx h0 h3 hI hb hrb
  go_enter Tryz.func39, Tryz.ntmps39
  go_wp2_with fail
  refine HS.out.mono ?_
  rintro e w' ⟨z, rfl, hb1⟩
  have HB1 := Lib.hid hb1
  clear hb1
  go_wp2_with fail
  go_ret
  exact ⟨_, rfl, HB1.out⟩
end Go.Proofs.YtgppobaoclfgcaaGreatDoor
