/- dfa.Of of any program: some table, or none, and nothing falls. Conditions: the table of powers lies as laid. -/
import Derived.Test.YtgppobaoclfgcaaGreatDoorDfaF
import Derived.Test.YtgppobaoclfgcaaGreatDoorOfG
import Derived.Test.YtgppobaoclfgcaaGreatDoorTabH
import Derived.Test.YtgppobaoclfgcaaGreatDoorAsA
import Derived.Test.YtgppobaoclfgcaaGreatDoorPgC
import Derived.Carry
import Derived.Deep.CutBlock
import Derived.Deep.DeepCutAuto
set_option linter.unusedVariables false
set_option linter.unusedSimpArgs false
namespace Go.Proofs.YtgppobaoclfgcaaGreatDoor
open Go.RowKit Go.Lib Go.Maps
open Plain (In4 insB bnd riB Rg May Norm normB rightB cntA)
/-- a box of three slices that stood before may be written: the table stays -/
def FarTab (w w' : World) (PA : Option Addr) (P : List Int) (NA : Option Addr) (R : List Row) (AA : Option Addr) (C : List Bool) : Prop :=
  ∀ (k : Nat) (w'' : World) (a0 a1 a2 : Option Addr) (n0 n1 n2 c0 c1 c2 : Nat), k < w.heap.size → w'.heap[k]? = some (.cells #[.slice a0 n0 c0, .slice a1 n1 c1, .slice a2 n2 c2] 27 (0, 0)) → Kp k w' w'' → TabAt w'' PA P NA R AA C
theorem i32_ne {w : World} {A : Option Addr} {P : List Int} {k : Nat} {a0 a1 a2 : Option Addr} {n0 n1 n2 c0 c1 c2 : Nat} {t : TypeId} (hs : Sl w A (i32s P)) (hp : 0 < P.length) (hk : w.heap[k]? = some (.cells #[.slice a0 n0 c0, .slice a1 n1 c1, .slice a2 n2 c2] t (0, 0))) : ∀ bb oo, A = some ⟨bb, oo, none⟩ → bb ≠ k := by
  rintro bb oo e rfl
  obtain ⟨gg, off, e2, _, hc⟩ := hs (by rw [i32s, List.length_map]; exact hp)
  rw [e] at e2
  injection e2 with e2; injection e2 with e2 e3
  subst e2
  have h0 := hc 0 (.int .i32 (P[0]'hp)) (by unfold i32s; rw [List.getElem?_map, List.getElem?_eq_getElem hp]; rfl)
  rw [cell_of_row _ _ _ _ _ _ hk] at h0
  match off, h0 with
  | 0, h0 => simp at h0
  | 1, h0 => simp at h0
  | 2, h0 => simp at h0
  | k + 3, h0 => simp at h0
/-- some table, or none: each of its slices lies in memory -/
def DfaPost (w : World) (e : Ending) (w' : World) : Prop :=
  ∃ (PA : Option Addr) (P : List Int) (pc : Nat) (NA : Option Addr) (R : List Row) (nc : Nat) (AA : Option Addr) (C : List Bool) (ac : Nat) (er : Int), e = .returned (.tuple #[tabV PA P pc NA R nc AA C ac, .int .i64 er]) ∧ TabAt w' PA P NA R AA C ∧ P.length ≤ pc ∧ Below w.heap.size w w' ∧ FarTab w w' PA P NA R AA C
theorem tab_none (w : World) : TabAt w none [] none [] none [] :=
  ⟨Sl.nil _ _, Sl.nil _ _, fun r hr => absurd hr (by simp), Sl.nil _ _, Nat.zero_le _, Nat.zero_le _, Nat.zero_le _⟩
theorem pgR_facts {L : List In4} {K : List Cs} {g : Int} (h : pgR L K g = true) : 0 < L.length ∧ L.length ≤ 512 ∧ (∀ t ∈ L, riB L.length K.length g t = true) ∧ K.length ≤ 64 ∧ ∀ x ∈ K, Norm x.R ∧ x.R.length ≤ 64 := by
  unfold pgR at h
  simp only [Bool.and_eq_true, decide_eq_true_eq, Bool.not_eq_true', List.any_eq_false] at h
  obtain ⟨⟨⟨⟨⟨⟨h1, h2⟩, h3⟩, h4⟩, h5⟩, h6⟩, h7⟩ := h
  refine ⟨h1, h2, fun t ht => by simpa using h6 t ht, h3, fun x hx => ?_⟩
  have := h7 x hx
  unfold badB at this
  simp only [Bool.or_eq_true, not_or, Bool.not_eq_true', Bool.not_eq_false'] at this
  exact (Plain.rightB_iff x.R).1 (by simpa using this.2)
set_option maxRecDepth 1000000 in
set_option maxHeartbeats 8000000 in
theorem dfaof_any (I C : Option Addr) (L : List In4) (K : List Cs) (c d : Nat) (g : Int) (w : World) (hP : PgAt w I L C K) (hT : Tp w) :
    Calls Tryz.prog 6 #[pgV I L.length c C K.length d g] w (DfaPost w) := by
  obtain ⟨n, hN⟩ : ∃ n, L.length = n := ⟨_, rfl⟩
  obtain ⟨kn, hM⟩ : ∃ n, K.length = n := ⟨_, rfl⟩
  have HP := Lib.hid hP
  have HT := Lib.hid hT
  have HN := Lib.hid hN
  have HM := Lib.hid hM
  have CR := Lib.hid (fun (w' : World) (hb : Below w.heap.size w w') => prright_any I C L K c d g w' (hP.below hb))
  have CA := Lib.hid (fun (w' : World) (hb : Below w.heap.size w w') => asserts_any I C L K c d g w' (hP.below hb))
  rw [hN, hM] at CR CA ⊢
  unfold pgV at CR CA ⊢
  clear hP hT hN hM
  have hbx0 := heap_alloc_new2 w (.cells #[.slice I n c, .slice C kn d, .int .i64 g] 34) w.heap.size _ rfl
  have hb0 : Below w.heap.size w ((w.alloc (.cells #[.slice I n c, .slice C kn d, .int .i64 g] 34)).alloc (.cells #[.slice none 0 0, .slice none 0 0, .slice none 0 0] 27)) := below_alloc (below_alloc (Below.refl _ _) _) _
  have hp0 : ((w.alloc (.cells #[.slice I n c, .slice C kn d, .int .i64 g] 34)).alloc (.cells #[.slice none 0 0, .slice none 0 0, .slice none 0 0] 27)).heap[w.heap.size]? = some (.cells #[.slice I n c, .slice C kn d, .int .i64 g] 34 (0, 0)) := (Below.heap_alloc _ _ _ (by simp)).trans hbx0
  have ht0 : ((w.alloc (.cells #[.slice I n c, .slice C kn d, .int .i64 g] 34)).alloc (.cells #[.slice none 0 0, .slice none 0 0, .slice none 0 0] 27)).heap[w.heap.size + 1]? = some (.cells #[.slice none 0 0, .slice none 0 0, .slice none 0 0] 27 (0, 0)) := heap_alloc_new2 _ _ _ _ (by simp)
  obtain ⟨w0, hw0⟩ : ∃ v, (w.alloc (.cells #[.slice I n c, .slice C kn d, .int .i64 g] 34)).alloc (.cells #[.slice none 0 0, .slice none 0 0, .slice none 0 0] 27) = v := ⟨_, rfl⟩
  obtain ⟨tb, htb⟩ : ∃ v, w.heap.size + 1 = v := ⟨_, rfl⟩
  obtain ⟨pb, hpb⟩ : ∃ v, w.heap.size = v := ⟨_, rfl⟩
  rw [hw0] at hb0 hp0 ht0
  rw [htb] at ht0
  have HTB := Lib.hid (show w.heap.size ≤ tb ∧ pb ≠ tb by omega)
  rw [show w.heap.size = pb from hpb] at hp0
  have HW0 := Lib.hid hw0
  have HTBE := Lib.hid htb
  have HPBE := Lib.hid hpb
  have HB0 := Lib.hid hb0
  have HP0 := Lib.hid hp0
  have HT0 := Lib.hid ht0
  clear hbx0 hb0 hp0 ht0 hw0 htb hpb
  go_enter Tryz.func6, Tryz.ntmps6
  go_upto_region 1 with fail
  rw [HW0.out, HTBE.out, show w.heap.size = pb from HPBE.out]
  clear HW0 HTBE HPBE
  obtain ⟨x0, x1, x2⟩ := blk_cells3 HP0.out
  obtain ⟨rq, hrq⟩ : ∃ q, pgR L K g = q := ⟨_, rfl⟩
  have c1 := CR.out w0 HB0.out
  rw [hrq] at c1
  have HC1 := Lib.hid c1
  have HRQ := Lib.hid hrq
  clear c1 hrq
  go_wp2_with fail
  refine HC1.out.mono ?_
  rintro e w1 ⟨rfl, hb⟩
  have HB1 := Lib.hid (below_then HB0.out hb)
  have HP1 := Lib.hid (blk_later HP0.out hb)
  have HT1 := Lib.hid (blk_later HT0.out hb)
  clear hb x0 x1 x2
  cases rq
  case false =>
    obtain ⟨k0, k1, k2⟩ := blk_cells3 HT1.out
    have f0 := blk_frozen HT1.out 0
    have f1 := blk_frozen HT1.out 1
    have f2 := blk_frozen HT1.out 2
    go_wp2_with fail
    obtain ⟨m0, m1, m2⟩ := blk_cells3 (heap_setCell_same _ _ 2 _ _ (.slice none 0 0) (heap_setCell_same _ _ 1 _ _ (.slice none 0 0) (heap_setCell_same _ _ 0 _ _ (.slice none 0 0) HT1.out)))
    exact bodyPost_ret (v := .tuple #[.agg #[.slice none 0 0, .slice none 0 0, .slice none 0 0], .int .i64 1]) (by simp [results, Tryz.results6, go_sem, m0, m1, m2]) rfl ⟨none, [], 0, none, [], 0, none, [], 0, 1, rfl, tab_none _, Nat.le_refl _, ((HB1.out.setCell HTB.out.1 _).setCell HTB.out.1 _).setCell HTB.out.1 _, fun _ _ _ _ _ _ _ _ _ _ _ _ _ _ => tab_none _⟩
  obtain ⟨hl0, hl5, hri, hk64, hkn⟩ := pgR_facts HRQ.out
  have HRI := Lib.hid hri
  have HKN := Lib.hid hkn
  have hn5 : n ≤ 512 := by rw [← HN.out]; exact hl5
  have hk6 : kn ≤ 64 := by rw [← HM.out]; exact hk64
  clear hl0 hl5 hri hk64 hkn
  obtain ⟨x0, x1, x2⟩ := blk_cells3 HP1.out
  obtain ⟨cv, hcv⟩ : ∃ q : Int, (cntA L : Int) = q := ⟨_, rfl⟩
  have c1 := CA.out w1 HB1.out
  rw [hcv] at c1
  have HC2 := Lib.hid c1
  clear c1 hcv HC1
  go_wp2_with fail
  refine HC2.out.mono ?_
  rintro e w2 ⟨rfl, hb⟩
  have HB2 := Lib.hid (below_then HB1.out hb)
  have HP2 := Lib.hid (blk_later HP1.out hb)
  have HT2 := Lib.hid (blk_later HT1.out hb)
  clear hb x0 x1 x2
  by_cases hc0 : 0 < cv
  case pos =>
    have d0 : decide (cv > 0) = true := decide_eq_true hc0
    have d0' : decide (0 < cv) = true := decide_eq_true hc0
    obtain ⟨k0, k1, k2⟩ := blk_cells3 HT2.out
    have f0 := blk_frozen HT2.out 0
    have f1 := blk_frozen HT2.out 1
    have f2 := blk_frozen HT2.out 2
    go_wp2_with fail
    obtain ⟨m0, m1, m2⟩ := blk_cells3 (heap_setCell_same _ _ 2 _ _ (.slice none 0 0) (heap_setCell_same _ _ 1 _ _ (.slice none 0 0) (heap_setCell_same _ _ 0 _ _ (.slice none 0 0) HT2.out)))
    exact bodyPost_ret (v := .tuple #[.agg #[.slice none 0 0, .slice none 0 0, .slice none 0 0], .int .i64 12]) (by simp [results, Tryz.results6, go_sem, m0, m1, m2]) rfl ⟨none, [], 0, none, [], 0, none, [], 0, 12, rfl, tab_none _, Nat.le_refl _, ((HB2.out.setCell HTB.out.1 _).setCell HTB.out.1 _).setCell HTB.out.1 _, fun _ _ _ _ _ _ _ _ _ _ _ _ _ _ => tab_none _⟩
  have d0 : decide (cv > 0) = false := decide_eq_false hc0
  have d0' : decide (0 < cv) = false := decide_eq_false hc0
  obtain ⟨x0, x1, x2⟩ := blk_cells3 HP2.out
  have c3 := ofg_any K C d w2 (HP.out.cls.below HB2.out) (fun x hx => (HP.out.each x hx).1.below HB2.out) HKN.out (by rw [HM.out]; exact hk6)
  rw [HM.out] at c3
  have HC3 := Lib.hid c3
  clear c3 HC2
  go_wp2_with fail
  refine HC3.out.mono ?_
  rintro e wp ⟨P, hinc, hmem, hb, hres⟩
  have HB3 := Lib.hid (below_then HB2.out hb)
  have HP3 := Lib.hid (blk_later HP2.out hb)
  have HT3 := Lib.hid (blk_later HT2.out hb)
  have hp1 : 1 ≤ P.length := by
    have h0 := (hmem 0).2 (by simp)
    exact List.length_pos_of_mem h0
  clear hb x0 x1 x2 d0 d0' hc0 hinc hmem HC3
  rcases hres with ⟨hp64, pA, pc, rfl, hPs, hpc⟩ | ⟨_, rfl⟩
  case inr =>
    obtain ⟨k0, k1, k2⟩ := blk_cells3 HT3.out
    have f0 := blk_frozen HT3.out 0
    have f1 := blk_frozen HT3.out 1
    have f2 := blk_frozen HT3.out 2
    go_wp2_with fail
    obtain ⟨m0, m1, m2⟩ := blk_cells3 (heap_setCell_same _ _ 2 _ _ (.slice none 0 0) (heap_setCell_same _ _ 1 _ _ (.slice none 0 0) (heap_setCell_same _ _ 0 _ _ (.slice none 0 0) HT3.out)))
    exact bodyPost_ret (v := .tuple #[.agg #[.slice none 0 0, .slice none 0 0, .slice none 0 0], .int .i64 3]) (by simp [results, Tryz.results6, go_sem, m0, m1, m2]) rfl ⟨none, [], 0, none, [], 0, none, [], 0, 3, rfl, tab_none _, Nat.le_refl _, ((HB3.out.setCell HTB.out.1 _).setCell HTB.out.1 _).setCell HTB.out.1 _, fun _ _ _ _ _ _ _ _ _ _ _ _ _ _ => tab_none _⟩
  obtain ⟨pl, hpl⟩ : ∃ x, P.length = x := ⟨_, rfl⟩
  rw [hpl] at hp1 hp64 hpc ⊢
  have HPL := Lib.hid hpl
  have HPS := Lib.hid hPs
  have HPC := Lib.hid hpc
  have HTp := Lib.hid (HT.out.below HB3.out)
  have HPg := Lib.hid (HP.out.below HB3.out)
  clear hpl hPs hpc
  obtain ⟨x0, x1, x2⟩ := blk_cells3 HP3.out
  have hmmk := @run_makeMap Tryz.prog
  go_upto_region 9 with fail
  clear x0 x1 x2 hmmk
  have hsm := (((((SepB.nil wp).alloc (.map #[] 0)).empty 58 1).empty 4 1).empty 58 1).new #[.slice pA pl pc, .slice none 0 0, .slice none 0 0, .slice I n c, .slice C kn d, .int .i64 g, .slice none 0 0, .map (some wp.heap.size)] 66 _
  have hmm : MapAt ((wp.alloc (.map #[] 0)).alloc (.cells #[.slice pA pl pc, .slice none 0 0, .slice none 0 0, .slice I n c, .slice C kn d, .int .i64 g, .slice none 0 0, .map (some wp.heap.size)] 66)) wp.heap.size 0 := (MapAt.new wp).below (below_alloc (Below.refl _ _) _)
  have hbm : Below wp.heap.size wp ((wp.alloc (.map #[] 0)).alloc (.cells #[.slice pA pl pc, .slice none 0 0, .slice none 0 0, .slice I n c, .slice C kn d, .int .i64 g, .slice none 0 0, .map (some wp.heap.size)] 66)) := below_alloc (below_alloc (Below.refl _ _) _) _
  have e1 : (wp.alloc (.map #[] 0)).heap.size = wp.heap.size + 1 := by simp
  rw [e1] at hsm
  obtain ⟨wb, hwb⟩ : ∃ v, (wp.alloc (.map #[] 0)).alloc (.cells #[.slice pA pl pc, .slice none 0 0, .slice none 0 0, .slice I n c, .slice C kn d, .int .i64 g, .slice none 0 0, .map (some wp.heap.size)] 66) = v := ⟨_, rfl⟩
  obtain ⟨b, hb⟩ : ∃ v, wp.heap.size + 1 = v := ⟨_, rfl⟩
  obtain ⟨mb, hmb⟩ : ∃ v, wp.heap.size = v := ⟨_, rfl⟩
  rw [hwb] at hsm hmm hbm ⊢
  rw [hb] at hsm ⊢
  have hB0 : Bd wp wb b wp.heap.size 0 (.slice pA pl pc) (.slice none 0 0) (.slice none 0 0) (.slice none 0 0) I C n c kn d g [] [] [] [] := ⟨hsm, hmm, Nat.le_refl _, fun r hr => absurd hr (by simp), fun r hr => absurd hr (by simp)⟩
  rw [hmb] at hB0 ⊢
  have HBb := Lib.hid hB0
  have HBp := Lib.hid hbm
  have HPb := Lib.hid (blk_later HP3.out hbm)
  clear hsm hmm hbm e1 hwb hb hB0
  have hxa := heap_alloc_new2 wb (.cells #[.int .i64 0] 3) wb.heap.size _ rfl
  have hba := below_alloc (Below.refl wb.heap.size wb) (.cells #[.int .i64 0] 3)
  have hX0 : Sl (wb.alloc (.cells #[.int .i64 0] 3)) (some ⟨wb.heap.size, 0, none⟩) (i64s [0]) := fun _ => ⟨_, 0, rfl, by simp, fun i u hu => by
    rw [Nat.zero_add, cell_of_row _ _ _ _ _ _ hxa]
    simpa [i64s] using hu⟩
  have cc := closure_any I C L c kn d g (some ⟨wb.heap.size, 0, none⟩) [0] 1 (wb.alloc (.cells #[.int .i64 0] 3)) (((HPg.out.insts.below HBp.out)).below hba) (by rw [HN.out]; omega) hX0 (by simp)
  rw [HN.out] at cc
  have HCC := Lib.hid cc
  have HBA := Lib.hid hba
  obtain ⟨x0, x1, x2⟩ := blk_cells3 HPb.out
  have lpb := lt_of_some HPb.out
  clear hxa hba hX0 cc hmb
  go_wp2_with fail
  refine HCC.out.mono ?_
  rintro e w5 ⟨v, T, rfl, hin, hlen, hown, hb⟩
  obtain ⟨r, hv, ht, hln, _⟩ := Ln.of_own hown
  subst hv
  subst ht
  have hb5 : Below wb.heap.size wb w5 := HBA.out.trans (hb.mono (by simp))
  have cs := state_any wp w5 b mb 0 (.slice pA pl pc) (.slice none 0 0) (.slice none 0 0) (.slice none 0 0) I C n c kn d g [] [] [] [] r (HBb.out.below hb5) HTp.out hln hin hlen (by omega) (by omega) (by simp)
  have HCS := Lib.hid cs
  clear x0 x1 x2 lpb hin hlen hown hb hln hb5 cs
  go_wp2_with fail
  refine HCS.out.mono ?_
  rintro e w6 ⟨z, sv, S, m, rfl, hB6, hm6, hS6, _⟩
  have HB6 := Lib.hid hB6
  have hs6 : S.length ≤ 1 := by
    rcases hS6 with rfl | ⟨r', _, rfl⟩
    · simp
    · simp
  have HS6 := Lib.hid (And.intro hm6 hs6)
  clear hB6 hm6 hS6 hs6
  go_wp2_with fail
  go_loopw [7] (fun i wr => ∃ (q m : Nat) (nv av sv : Value) (N : List Row) (A : List Bool) (S : List Row), i = .int .i64 q ∧ Bd wp wr b mb m (.slice pA pl pc) nv av sv I C n c kn d g N A S [] ∧ N.length = q ∧ A.length = q ∧ q ≤ S.length ∧ S.length ≤ 64 ∧ m ≤ 1 + 64 * q ∧ (∀ r ∈ N, r.2.2.length ≤ 64)) (fun i _ => 100 - (RowKit.intOf i).toNat)
  case atStart => exact ⟨0, m, _, _, sv, [], [], S, rfl, HB6.out, rfl, rfl, Nat.zero_le _, by have := HS6.out; omega, by have := HS6.out; omega, fun r hr => absurd hr (by simp)⟩
  case round =>
    obtain ⟨q, m, nv, av, sv, N, A, S, rfl, hB, hN, hA, hq, hS, hm, hnl⟩ := hrel
    have HNL := Lib.hid hnl
    have HBr := Lib.hid hB
    have HQ := Lib.hid (And.intro hN (And.intro hA (And.intro hq (And.intro hS hm))))
    obtain ⟨sp, sc, hsv⟩ := own_form (hB.sep.row 3 _ _ _ _ _ rfl)
    subst hsv
    obtain ⟨sn, hsn⟩ : ∃ x, S.length = x := ⟨_, rfl⟩
    have hbx := hB.sep.box 0 _ _ _ rfl
    have lb := lt_of_some hbx.2
    have x6 : wr.cell? ⟨b, 6, none⟩ = some (.slice sp sn sc) := by rw [cell_of_row _ _ _ _ _ _ hbx.2, ← hsn]; rfl
    have HSN := Lib.hid hsn
    have HBX := Lib.hid hbx.2
    clear hB hN hA hq hS hm hsn hbx hnl
    by_cases hlt : q < sn
    · have cr := brow_any wp wr b mb m nv av (.slice sp S.length sc) I C L K n c kn d g N A S [] pA P pc q (by rw [HPL.out]; exact HBr.out) HTp.out HPg.out HN.out HM.out (by rw [← HN.out, ← HM.out]; exact HRI.out) hn5 HPS.out (by rw [HPL.out]; exact hp1) (by rw [HPL.out]; exact hp64) (by rw [HSN.out]; exact hlt) (by have := HQ.out; omega) (by have := HQ.out; omega) (by have := HQ.out; omega) (by have := HQ.out; omega)
      rw [HPL.out] at cr
      have HCR := Lib.hid cr
      have d0 : decide ((q : Int) < (sn : Int)) = true := decide_eq_true (by omega)
      have d1 : decide (q < sn) = true := decide_eq_true hlt
      clear cr
      go_wp2_with fail
      refine HCR.out.mono ?_
      rintro e w7 ⟨rfl, nv2, av2, sv2, N2, A2, S2, m2, hB7, ⟨rn, hN2, hrl⟩, hA2, hSl, hSu, hm2⟩
      have HRL := Lib.hid (show ∀ r ∈ N2, r.2.2.length ≤ 64 from fun r hr => by
        rw [hN2] at hr
        rcases List.mem_append.1 hr with h | h
        · exact HNL.out r h
        · rw [List.mem_singleton.1 h]; exact hrl)
      have hN2 : N2.length = N.length + 1 := by rw [hN2]; simp
      have HB7 := Lib.hid hB7
      have HQ7 := Lib.hid (And.intro hN2 (And.intro hA2 (And.intro hSl (And.intro hSu hm2))))
      obtain ⟨sp2, sc2, hsv⟩ := own_form (hB7.sep.row 3 _ _ _ _ _ rfl)
      subst hsv
      obtain ⟨s2, hs2⟩ : ∃ x, S2.length = x := ⟨_, rfl⟩
      have hbx := hB7.sep.box 0 _ _ _ rfl
      clear lb x6 HBX d0 d1
      have lb := lt_of_some hbx.2
      have x6 : w7.cell? ⟨b, 6, none⟩ = some (.slice sp2 s2 sc2) := by rw [cell_of_row _ _ _ _ _ _ hbx.2, ← hs2]; rfl
      have HT7 := Lib.hid (blk_later (blk_later HT3.out (Below.refl _ _)) hB7.sep.2)
      have HB77 := Lib.hid (below_then HB3.out hB7.sep.2)
      have HS2 := Lib.hid hs2
      clear hB7 hN2 hA2 hSl hSu hm2 hs2 hbx
      by_cases h64 : 64 < s2
      · have d0 : decide ((s2 : Int) > 64) = true := decide_eq_true (by omega)
        have d0' : decide ((64 : Int) < (s2 : Int)) = true := decide_eq_true (by omega)
        have d1 : decide (64 < s2) = true := decide_eq_true h64
        obtain ⟨k0, k1, k2⟩ := blk_cells3 HT7.out
        have f0 := blk_frozen HT7.out 0
        have f1 := blk_frozen HT7.out 1
        have f2 := blk_frozen HT7.out 2
        go_wp2_with fail
        obtain ⟨m0, m1, m2⟩ := blk_cells3 (heap_setCell_same _ _ 2 _ _ (.slice none 0 0) (heap_setCell_same _ _ 1 _ _ (.slice none 0 0) (heap_setCell_same _ _ 0 _ _ (.slice none 0 0) HT7.out)))
        exact bodyPost_ret (v := .tuple #[.agg #[.slice none 0 0, .slice none 0 0, .slice none 0 0], .int .i64 14]) (by simp [results, Tryz.results6, go_sem, m0, m1, m2]) rfl ⟨none, [], 0, none, [], 0, none, [], 0, 14, rfl, tab_none _, Nat.le_refl _, ((HB77.out.setCell HTB.out.1 _).setCell HTB.out.1 _).setCell HTB.out.1 _, fun _ _ _ _ _ _ _ _ _ _ _ _ _ _ => tab_none _⟩
      · have d0 : decide ((s2 : Int) > 64) = false := decide_eq_false (by omega)
        have d0' : decide ((64 : Int) < (s2 : Int)) = false := decide_eq_false (by omega)
        have d1 : decide (64 < s2) = false := decide_eq_false h64
        have w1 : IntKind.i64.wrap ((q : Int) + 1) = ((q + 1 : Nat) : Int) := by rw [IntKind.wrap_i64]; have := HQ.out; omega
        go_wp2_with fail
        go_roundw
        case rel => exact ⟨q + 1, m2, nv2, av2, _, N2, A2, S2, by go_num, HB7.out, by have := HQ7.out; have := HQ.out; omega, by have := HQ7.out; have := HQ.out; omega, by have := HQ7.out; have := HS2.out; have := HSN.out; omega, by rw [HS2.out]; omega, by have := HQ7.out; have := HQ.out; omega, HRL.out⟩
        case measure => have := HQ.out; simp [RowKit.intOf]; omega
    · have d0 : decide ((q : Int) < (sn : Int)) = false := decide_eq_false (by omega)
      have d1 : decide (q < sn) = false := decide_eq_false hlt
      have y0 : wr.cell? ⟨b, 0, none⟩ = some (.slice pA pl pc) := by rw [cell_of_row _ _ _ _ _ _ HBX.out]; rfl
      obtain ⟨np, nc, hnv⟩ := own_form (HBr.out.sep.row 1 _ _ _ _ _ rfl)
      obtain ⟨ap, ac, hav⟩ := own_form (HBr.out.sep.row 2 _ _ _ _ _ rfl)
      subst hnv
      subst hav
      have y1 : wr.cell? ⟨b, 1, none⟩ = some (.slice np N.length nc) := by rw [cell_of_row _ _ _ _ _ _ HBX.out]; rfl
      have y2 : wr.cell? ⟨b, 2, none⟩ = some (.slice ap A.length ac) := by rw [cell_of_row _ _ _ _ _ _ HBX.out]; rfl
      have htr := blk_later HT3.out HBr.out.sep.2
      have HTR := Lib.hid htr
      obtain ⟨k0, k1, k2⟩ := blk_cells3 htr
      have f0 := blk_frozen htr 0
      have f1 := blk_frozen htr 1
      have f2 := blk_frozen htr 2
      have ltb := lt_of_some htr
      clear htr
      go_wp2_with fail
      obtain ⟨m0, m1, m2⟩ := blk_cells3 (heap_setCell_same _ _ 2 _ _ (.slice ap A.length ac) (heap_setCell_same _ _ 1 _ _ (.slice np N.length nc) (heap_setCell_same _ _ 0 _ _ (.slice pA pl pc) HTR.out)))
      have hltp : tb < wp.heap.size := lt_of_some HT3.out
      have hK : Kp tb wr (((wr.setCell ⟨tb, 0, none⟩ (.slice pA pl pc)).setCell ⟨tb, 1, none⟩ (.slice np N.length nc)).setCell ⟨tb, 2, none⟩ (.slice ap A.length ac)) := (((Kp.refl tb wr).set 0 _).set 1 _).set 2 _
      have hki : Ki wr (((wr.setCell ⟨tb, 0, none⟩ (.slice pA pl pc)).setCell ⟨tb, 1, none⟩ (.slice np N.length nc)).setCell ⟨tb, 2, none⟩ (.slice ap A.length ac)) := ⟨hK.size, fun gg cs hgg => hK.block gg (lt_of_some hgg) (fun e => by
        subst e
        rw [HTR.out] at hgg
        injection hgg with h1
        injection h1 with _ h2
        exact absurd h2 (by decide))⟩
      have hsl := HPS.out.below HBr.out.sep.2
      have hne : ∀ bb oo, pA = some ⟨bb, oo, none⟩ → bb ≠ tb := by
        rintro bb oo e rfl
        obtain ⟨gg, off, e2, _, hc⟩ := hsl (by rw [i32s, List.length_map, HPL.out]; exact hp1)
        rw [e] at e2
        injection e2 with e2; injection e2 with e2 e3
        subst e2
        have h0 := hc 0 (.int .i32 (P[0]'(by rw [HPL.out]; exact hp1))) (by unfold i32s; rw [List.getElem?_map, List.getElem?_eq_getElem (by rw [HPL.out]; exact hp1)]; rfl)
        rw [cell_of_row _ _ _ _ _ _ HTR.out] at h0
        match off, h0 with
        | 0, h0 => simp at h0
        | 1, h0 => simp at h0
        | 2, h0 => simp at h0
        | k + 3, h0 => simp at h0
      have hrN := HBr.out.sep.row 1 _ _ _ _ _ rfl
      have hrA := HBr.out.sep.row 2 _ _ _ _ _ rfl
      have hT9 : TabAt (((wr.setCell ⟨tb, 0, none⟩ (.slice pA pl pc)).setCell ⟨tb, 1, none⟩ (.slice np N.length nc)).setCell ⟨tb, 2, none⟩ (.slice ap A.length ac)) pA P np N ap A :=
        ⟨hK.sl hsl hne, hK.sl (own_Sl hrN (by simp)) (fun bb oo e => by
            have := hrN.lt bb (by rw [e]; rfl)
            omega), fun r hr => ⟨((HBr.out.nexts r hr).ki hki).sl, by have := HNL.out r hr; simp only [maxLen]; omega⟩, hK.sl (own_Sl hrA (by simp)) (fun bb oo e => by
            have := hrA.lt bb (by rw [e]; rfl)
            omega), by rw [HPL.out]; simp only [maxLen]; omega, by have := HQ.out; simp only [maxLen]; omega, by have := HQ.out; simp only [maxLen]; omega⟩
      have hbf := below_then HB3.out HBr.out.sep.2
      have hfar : FarTab w (((wr.setCell ⟨tb, 0, none⟩ (.slice pA pl pc)).setCell ⟨tb, 1, none⟩ (.slice np N.length nc)).setCell ⟨tb, 2, none⟩ (.slice ap A.length ac)) pA P np N ap A := fun k w'' a0 a1 a2 n0 n1 n2 c0 c1 c2 hk hkb hkp => by
        have hki2 : Ki (((wr.setCell ⟨tb, 0, none⟩ (.slice pA pl pc)).setCell ⟨tb, 1, none⟩ (.slice np N.length nc)).setCell ⟨tb, 2, none⟩ (.slice ap A.length ac)) w'' := ⟨hkp.size, fun gg cs hgg => hkp.block gg (lt_of_some hgg) (fun e => by
          subst e
          rw [hkb] at hgg
          injection hgg with h1
          injection h1 with _ h2
          exact absurd h2 (by decide))⟩
        have hkw : k < wp.heap.size := by have := HTB.out.1; omega
        exact ⟨hkp.sl hT9.parts (i32_ne hT9.parts (by rw [HPL.out]; exact hp1) hkb), hkp.sl hT9.rows (fun bb oo e => by
            have := hrN.lt bb (by rw [e]; rfl)
            omega), fun r hr => ⟨(((HBr.out.nexts r hr).ki hki).ki hki2).sl, (hT9.row r hr).2⟩, hkp.sl hT9.acc (fun bb oo e => by
            have := hrA.lt bb (by rw [e]; rfl)
            omega), hT9.lp, hT9.lr, hT9.la⟩
      exact bodyPost_ret (v := .tuple #[.agg #[.slice pA pl pc, .slice np N.length nc, .slice ap A.length ac], .int .i64 0]) (by simp [results, Tryz.results6, go_sem, m0, m1, m2]) rfl ⟨pA, P, pc, np, N, nc, ap, A, ac, 0, by unfold tabV; rw [HPL.out], hT9, by rw [HPL.out]; exact HPC.out, ((hbf.setCell HTB.out.1 _).setCell HTB.out.1 _).setCell HTB.out.1 _, hfar⟩
end Go.Proofs.YtgppobaoclfgcaaGreatDoor
