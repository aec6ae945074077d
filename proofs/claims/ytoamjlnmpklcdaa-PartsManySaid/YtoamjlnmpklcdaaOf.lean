/- Chapter 10: parts.Of at classes whose parts are at most twelve, at one that is not right: what the code computes. Conditions: what each lemma says. -/
import Derived.Test.YtoamjlnmpklcdaaSort
import Derived.Deep.RegionHeld3
import Derived.Deep.QuietTactic
import Derived.Deep.Cut
import Derived.Deep.DeepCutAuto
set_option linter.unusedVariables false
set_option linter.unusedSimpArgs false
namespace Go.Proofs.Ytoamjlnmpklcdaa.Plain
/-- where a range's parts begin -/
def end1 (r : Rg) : List Int := if r.2 < 1114111 then [r.1, r.2 + 1] else [r.1]
def ends (R : List Rg) : List Int := R.flatMap end1
theorem end1_len (r : Rg) : 1 ≤ (end1 r).length ∧ (end1 r).length ≤ 2 := by unfold end1; split <;> simp
theorem ends_take (R : List Rg) (k : Nat) : (ends (R.take k)).length ≤ (ends R).length := by
  have h : ends R = ends (R.take k) ++ ends (R.drop k) := by unfold ends; rw [← List.flatMap_append, List.take_append_drop]
  rw [h, List.length_append]; omega
end Go.Proofs.Ytoamjlnmpklcdaa.Plain
namespace Go.Proofs.Ytoamjlnmpklcdaa
open Go.RowKit Go.Lib
open Plain (Rg May mayB In Norm end1 ends Sor)
structure Cs where
  A : Option Addr
  c : Nat
  R : List Rg
def clV (x : Cs) : Value := .slice x.A x.R.length x.c
def allR (L : List Cs) : List Rg := L.flatMap Cs.R
theorem allR_take (L : List Cs) (k : Nat) : (ends (allR (L.take k))).length ≤ (ends (allR L)).length := by
  have h : ends (allR L) = ends (allR (L.take k)) ++ ends (allR (L.drop k)) := by unfold ends allR; rw [← List.flatMap_append, ← List.flatMap_append, List.take_append_drop]
  rw [h, List.length_append]; omega
theorem allR_snoc (L : List Cs) (k : Nat) (hk : k < L.length) : ends (allR (L.take (k + 1))) = ends (allR (L.take k)) ++ ends L[k].R := by
  unfold ends allR; rw [List.take_succ_eq_append_getElem hk, List.flatMap_append, List.flatMap_append]; simp
theorem ends_snoc (R : List Rg) (k : Nat) (hk : k < R.length) : ends (R.take (k + 1)) = ends (R.take k) ++ end1 R[k] := by
  unfold ends; rw [List.take_succ_eq_append_getElem hk, List.flatMap_append]; simp
theorem info21 : (Try.prog.info? 21).map (fun i => (i.zero, i.size, i.bytes)) = some (some (.int .i32 0), 1, 4) := by kernel_rfl
def OuRel (w : World) (L : List Cs) (v i : Value) (wr : World) : Prop :=
  ∃ (k n : Nat) (E : List Int), k ≤ L.length ∧ i = .int .i64 k ∧ E = 0 :: ends (allR (L.take k)) ∧ E.length = n ∧ n ≤ 12 ∧ wr.ownsRow w.heap.size 21 1 v n (i32s E) ∧ Below w.heap.size w wr
def InRel (w : World) (E : List Int) (R : List Rg) (v i : Value) (wr : World) : Prop :=
  ∃ (q n : Nat) (G : List Int), q ≤ R.length ∧ i = .int .i64 q ∧ G = E ++ ends (R.take q) ∧ G.length = n ∧ n ≤ 12 ∧ wr.ownsRow w.heap.size 21 1 v n (i32s G) ∧ Below w.heap.size w wr
def OfPost (w : World) (T0 : List Int) (en : Ending) (w' : World) : Prop :=
  ∃ A c, en = .returned (.tuple #[.slice A T0.length c, .int .i64 0]) ∧ Sl w' A (i32s T0) ∧ T0.length ≤ c ∧ Below w.heap.size w w'
set_option maxRecDepth 100000 in
set_option maxHeartbeats 8000000 in
theorem of_right (L : List Cs) (A0 : Option Addr) (c0 : Nat) (T0 : List Int) (w : World) (hX : Sl w A0 (L.map clV)) (hRs : ∀ x ∈ L, Rs w x.A x.R) (hrt : ∀ x ∈ L, Norm x.R ∧ x.R.length ≤ 64) (hl : L.length ≤ 12)
    (h12 : (ends (allR L)).length ≤ 11) (hT0 : ∀ T, T.Perm (0 :: ends (allR L)) → Sor T (1 + (ends (allR L)).length) → T = T0) (hs : ∀ j, j + 1 < T0.length → T0.getD j 0 ≠ T0.getD (j + 1) 0) :
    Calls Try.prog 11 #[.slice A0 L.length c0] w (OfPost w T0) := by
  obtain ⟨i21, hi21, y0, y1, y2⟩ := info_parts info21
  have hbw : Below w.heap.size w (w.alloc (.cells #[.int .i32 0] 21)) := (Below.refl _ _).alloc (Nat.le_refl _) _
  have hO0 : (w.alloc (.cells #[.int .i32 0] 21)).ownsRow w.heap.size 21 1 (.slice (some ⟨w.heap.size, 0, none⟩) 1 1) 1 (i32s [0]) := ⟨rfl, .inr ⟨w.heap.size, 1, #[.int .i32 0], rfl, Nat.le_refl _, heap_alloc_new2 _ _ _ _ rfl, Nat.le_refl _, by unfold maxLen; omega, rfl, rfl⟩⟩
  have HO0 := Lib.hid hO0
  have HBW := Lib.hid hbw
  have HX := Lib.hid hX
  have HRS := Lib.hid hRs
  have HRT := Lib.hid hrt
  have H12 := Lib.hid h12
  have HT0 := Lib.hid hT0
  have HS := Lib.hid hs
  obtain ⟨m, hm⟩ : ∃ m, L.length = m := ⟨_, rfl⟩
  rw [hm] at hl ⊢
  have HM := Lib.hid hm
  clear hO0 hbw hX hRs hrt h12 hT0 hs hm
  go_enter Try.func11, Try.ntmps11
  go_wp2_with fail
  go_loopw [4, 12] (fun v i wr => OuRel w L v i wr) (fun _ i _ => m - (RowKit.intOf i).toNat)
  case atStart => exact ⟨0, 1, [0], Nat.zero_le _, rfl, rfl, rfl, by omega, HO0.out, HBW.out⟩
  case round =>
    obtain ⟨k, n, E, hk, rfl, hE, hn, hn12, hO, hB⟩ := hrel
    rw [HM.out] at hk
    obtain ⟨ua, uc, rfl⟩ := own_slice hO
    have HO := Lib.hid hO
    have HB := Lib.hid hB
    have HE := Lib.hid hE
    have HN := Lib.hid hn
    clear hO hB hE hn
    by_cases hlt : k < m
    · have hkl : k < L.length := by rw [HM.out]; exact hlt
      obtain ⟨x, hx⟩ : ∃ x, L[k] = x := ⟨_, rfl⟩
      have hxm : x ∈ L := by rw [← hx]; exact List.getElem_mem hkl
      obtain ⟨ba, off, rfl, hba, hcs⟩ := (HX.out.below HB.out) (by rw [List.length_map]; omega)
      have c0 := hcs k (clV x) (by rw [List.getElem?_map, List.getElem?_eq_getElem hkl, hx]; rfl)
      have hrs0 := HRS.out x hxm
      have hrs := (HRS.out x hxm).below HB.out
      have hrt := HRT.out x hxm
      have hsn := allR_snoc L k hkl
      rw [hx] at hsn
      have h11 := allR_take L (k + 1)
      have H11 := Lib.hid h11
      obtain ⟨XA, xc, R⟩ := x
      unfold clV at c0
      dsimp only at c0 hrs hrs0 hrt hsn
      have hRl : R.length ≤ 64 := hrt.2
      obtain ⟨rl, hrl⟩ : ∃ rl, R.length = rl := ⟨_, rfl⟩
      rw [hrl] at c0 hRl
      have CR := Lib.hid (right_any R XA rl xc wr hrs hrl (by unfold maxLen; omega))
      have HRS0 := Lib.hid hrs0
      have HRSx := Lib.hid hrs
      have HRTx := Lib.hid hrt
      have HSN := Lib.hid hsn
      have HRL := Lib.hid hrl
      clear hrs hrs0 hrt hsn hcs hx hxm hrl h11
      go_wp2_with fail
      refine CR.out.mono ?_
      rintro e w2 ⟨b, rfl, hb, hb2⟩
      have hbt : b = true := hb.2 HRTx.out
      subst hbt
      have HB2 := Lib.hid (below_then HB.out hb2)
      have HO2 := Lib.hid (own_below HO.out hb2)
      have HRS2 := Lib.hid (HRSx.out.below hb2)
      clear hb hb2 c0 hba
      go_wp2_with fail
      obtain ⟨w3, rfl⟩ : ∃ w3, w3 = w2 := ⟨_, rfl⟩
      go_loopw [4, 21] (fun v i wr => InRel w E R v i wr) (fun _ i _ => rl - (RowKit.intOf i).toNat)
      case atStart => exact ⟨0, n, E, Nat.zero_le _, rfl, by simp [ends], HN.out, hn12, HO2.out, HB2.out⟩
      case round =>
        obtain ⟨q, n2, G, hq, rfl, hG, hn2, hn212, hO, hB⟩ := hrel
        rw [HRL.out] at hq
        obtain ⟨va, vc, rfl⟩ := own_slice hO
        have HOr := Lib.hid hO
        have HBr := Lib.hid hB
        have HG := Lib.hid hG
        have HN2 := Lib.hid hn2
        clear hO hB hG hn2
        by_cases hlq : q < rl
        · have hql : q < R.length := by rw [HRL.out]; exact hlq
          obtain ⟨bb, of, rfl, hbb, c0, c1⟩ := (HRS0.out.below HBr.out).get q hql
          obtain ⟨r, hr⟩ : ∃ r, R[q] = r := ⟨_, rfl⟩
          have hrm := Plain.Norm_may HRTx.out.1 r (by rw [← hr]; exact List.getElem_mem hql)
          have hes := ends_snoc R q hql
          rw [hr] at c0 c1 hes
          have h11 : (ends (allR (L.take (k + 1)))).length ≤ 11 := Nat.le_trans H11.out H12.out
          have hlen : G.length + (end1 r).length ≤ 12 := by
            have h1 := Plain.ends_take R (q + 1)
            rw [hes, List.length_append] at h1
            rw [HSN.out, List.length_append] at h11
            have h2 : E.length = 1 + (ends (allR (L.take k))).length := by rw [HE.out]; simp; omega
            have h3 : G.length = E.length + (ends (R.take q)).length := by rw [HG.out, List.length_append]
            omega
          rw [HN2.out] at hlen
          obtain ⟨lo, hi⟩ := r
          obtain ⟨b1, b2, b3⟩ := hrm
          dsimp only at c0 c1 b1 b2 b3
          have HES := Lib.hid hes
          have HLEN := Lib.hid hlen
          clear hes hr h11 hlen
          go_upto_region 10 with fail
          obtain ⟨wb, hwa⟩ : ∃ x, wr.alloc (.cells #[.int .i32 lo, .int .i32 hi] 46) = x := ⟨_, rfl⟩
          have hba2 : Below wr.heap.size wr wb := by rw [← hwa]; exact (Below.refl _ _).alloc (Nat.le_refl _) _
          have hxa : wb.heap[wr.heap.size]? = some (.cells #[.int .i32 lo, .int .i32 hi] 46 (0, 0)) := by rw [← hwa]; exact heap_alloc_new2 _ _ _ _ rfl
          rw [hwa]
          obtain ⟨x0, x1, x2, x3⟩ := box2 hxa
          have lx := lt_of_some hxa
          have HXA := Lib.hid hxa
          have HBb := Lib.hid (below_then HBr.out hba2)
          have HOb := Lib.hid (own_below HOr.out hba2)
          clear hwa hba2 hxa c0 c1 hbb
          go_wp2_with (at_builtin; refine wpList_append_own2 _ rfl (.tmp 25) (.tmp 28) _ rfl w.heap.size 21 i21 _ 1 4 Try.underlying26 hi21 y0 y1 y2 rfl (by decide) (.slice va n2 vc) n2 (i32s G) rfl (HOb.out.alloc _) ⟨wb.heap.size, 0, none⟩ 1 1 [.int .i32 lo] rfl rfl (CellsAt_add (CellsAt.new wb _ _)) (fun u hu => by simp only [List.mem_cons, List.not_mem_nil, or_false] at hu; subst hu; rfl) (by simp only [maxLen]; omega) (by omega) (by have := HBb.out.size; simp; omega) ?_)
          intro v7 w7 hown7 hg7 hvb7
          obtain ⟨a7, d7, rfl⟩ := own_slice hown7
          have hB7 : Below w.heap.size w w7 := (HBb.out.alloc HBb.out.size _).grown hg7 (by have := HBb.out.size; simp; omega) (fun g hg => (HOb.out.lt g hg).1)
          have hx7 : w7.heap[wr.heap.size]? = some (.cells #[.int .i32 lo, .int .i32 hi] 46 (0, 0)) := blk_grown HXA.out hg7 (fun e => by have := (HOr.out.lt _ e).2; omega)
          have HB7 := Lib.hid hB7
          have HO7 := Lib.hid hown7
          have HX7 := Lib.hid hx7
          clear hB7 hg7 hown7 hvb7 hx7 x0 x1 x2 x3 lx
          obtain ⟨x0, x1, x2, x3⟩ := box2 HX7.out
          have lx := lt_of_some HX7.out
          have hown7 := HO7.out
          by_cases hm : hi < 1114111
          · have d1 : decide (hi < 1114111) = true := by simp [hm]
            have e1 : IntKind.i32.wrap (hi + 1) = hi + 1 := by rw [IntKind.wrap_i32]; omega
            have hend : end1 (lo, hi) = [lo, hi + 1] := by unfold end1; rw [if_pos hm]
            have hl12 : n2 + 2 ≤ 12 := by have := HLEN.out; rw [hend] at this; exact this
            have HEND := Lib.hid hend
            have HOs := Lib.hid (show w7.ownsRow w.heap.size 21 1 (.slice a7 (n2 + 1) d7) (n2 + 1) (i32s (G ++ [lo])) by have h := HO7.out; unfold i32s at h ⊢; rw [List.map_append]; exact h)
            have HOr0 := HOr
            clear hown7 hend
            go_wp2_with (at_builtin; refine wpList_append_own2 _ rfl (.tmp 33) (.tmp 37) _ rfl w.heap.size 21 i21 _ 1 4 Try.underlying26 hi21 y0 y1 y2 rfl (by decide) (.slice a7 (n2 + 1) d7) (n2 + 1) (i32s (G ++ [lo])) rfl (HOs.out.alloc _) ⟨w7.heap.size, 0, none⟩ 1 1 [.int .i32 (hi + 1)] rfl rfl (CellsAt_add (CellsAt.new w7 _ _)) (fun u hu => by simp only [List.mem_cons, List.not_mem_nil, or_false] at hu; subst hu; rfl) (by simp only [maxLen]; omega) (by omega) (by have := HB7.out.size; simp; omega) ?_)
            intro v8 w8 hown8 hg8 hvb8
            have hB8 : Below w.heap.size w w8 := (HB7.out.alloc HB7.out.size _).grown hg8 (by have := HB7.out.size; simp; omega) (fun g hg => (HOs.out.lt g hg).1)
            have HB8 := Lib.hid hB8
            have HO8 := Lib.hid hown8
            clear hB8 hg8 hown8 hvb8 x0 x1 x2 x3 lx
            go_wp2
            go_roundw
            case rel =>
              refine ⟨q + 1, n2 + 1 + 1, G ++ [lo, hi + 1], by rw [HRL.out]; omega, by go_num, ?_, ?_, by omega, ?_, HB8.out⟩
              · rw [HES.out, HEND.out, HG.out, List.append_assoc]
              · rw [List.length_append, HN2.out]; rfl
              · have h := HO8.out
                have e : i32s (G ++ [lo, hi + 1]) = i32s (G ++ [lo]) ++ [.int .i32 (hi + 1)] := by unfold i32s; simp
                rw [e]; exact h
            case measure => simp [RowKit.intOf]; omega
          · have d1 : decide (hi < 1114111) = false := by simp; omega
            have hend : end1 (lo, hi) = [lo] := by unfold end1; rw [if_neg hm]
            have hl12 : n2 + 1 ≤ 12 := by have := HLEN.out; rw [hend] at this; exact this
            have HEND := Lib.hid hend
            clear hown7 hend
            go_wp2_with fail
            go_roundw
            case rel =>
              refine ⟨q + 1, n2 + 1, G ++ [lo], by rw [HRL.out]; omega, by go_num, ?_, ?_, by omega, ?_, HB7.out⟩
              · rw [HES.out, HEND.out, HG.out, List.append_assoc]
              · rw [List.length_append, HN2.out]; rfl
              · have h := HO7.out
                have e : i32s (G ++ [lo]) = i32s G ++ [.int .i32 lo] := by unfold i32s; simp
                rw [e]; exact h
            case measure => simp [RowKit.intOf]; omega
        · obtain rfl : q = rl := by omega
          have hT : R.take q = R := List.take_of_length_le (by rw [HRL.out]; exact Nat.le_refl _)
          have hG := HG.out
          rw [hT] at hG
          have HGE := Lib.hid hG
          clear hT hG
          go_wp2_with fail
          go_roundw
          case rel =>
            refine ⟨k + 1, n2, G, by omega, by go_num, ?_, HN2.out, hn212, HOr.out, HBr.out⟩
            rw [HGE.out, HE.out, HSN.out]; rfl
          case measure => simp [RowKit.intOf]; omega
    · obtain rfl : k = m := by omega
      have hT : L.take k = L := List.take_of_length_le (by rw [HM.out]; exact Nat.le_refl _)
      have hE := HE.out
      rw [hT] at hE
      have hnE : n = 1 + (ends (allR L)).length := by rw [← HN.out, hE]; simp; omega
      obtain ⟨g, cap, hv, hnc, hbg, _⟩ := own_at HO.out (by omega)
      injection hv with hv1 hv2 hv3
      subst hv1 hv3
      clear hv2
      have CS := Lib.hid (sort_any E w.heap.size g uc n wr HO.out HN.out (by omega) hn12)
      have HEE := Lib.hid hE
      have HNE := Lib.hid hnE
      clear hT hE hnE
      go_wp2_with fail
      refine CS.out.mono ?_
      rintro e w2 ⟨rfl, T, hp, hsor, hO2, hb2⟩
      have hTT : T = T0 := HT0.out T (by rw [← HEE.out]; exact hp) (by rw [← HNE.out]; exact hsor)
      subst hTT
      have hTl : T.length = n := by rw [hp.length_eq]; exact HN.out
      have HO2 := Lib.hid hO2
      have HB2 := Lib.hid (HB.out.trans hb2)
      have CC := Lib.hid (compact_any T w.heap.size g uc n w2 hO2 hTl (by omega) (fun j hj => HS.out j (by rw [hTl]; exact hj)))
      have HTL := Lib.hid hTl
      clear hp hsor hO2 hb2 hTl
      go_wp2_with fail
      refine CC.out.mono ?_
      rintro e w4 ⟨rfl, hb4⟩
      have HB4 := Lib.hid (below_then HB2.out hb4)
      have HO4 := Lib.hid (own_below HO2.out hb4)
      have d1 : decide ((n : Int) > 64) = false := by simp; omega
      have d2 : decide (64 < n) = false := by simp; omega
      clear hb4
      go_wp2_with fail
      go_ret2
      refine ⟨some ⟨g, 0, none⟩, uc, by rw [HTL.out]; rfl, fun hn => ?_, by rw [HTL.out]; exact hnc, HB4.out⟩
      exact ⟨g, 0, rfl, lt_of_some (own_blk HO4.out).choose_spec, fun i u hu => by rw [Nat.zero_add]; exact own_cell HO4.out i u hu⟩
end Go.Proofs.Ytoamjlnmpklcdaa
namespace Go.Proofs.Ytoamjlnmpklcdaa
open Go.RowKit Go.Lib
open Plain (Rg May mayB In Norm end1 ends Sor)
set_option maxRecDepth 100000 in
set_option maxHeartbeats 4000000 in
theorem of_wrong (x : Cs) (A0 : Option Addr) (c0 : Nat) (w : World) (hX : Sl w A0 [clV x]) (hRs : Rs w x.A x.R) (hl : x.R.length ≤ 100) (hw : ¬ (Norm x.R ∧ x.R.length ≤ 64)) :
    Calls Try.prog 11 #[.slice A0 1 c0] w fun e w' => e = .returned (.tuple #[.slice none 0 0, .int .i64 1]) ∧ Below w.heap.size w w' := by
  have hbw : Below w.heap.size w (w.alloc (.cells #[.int .i32 0] 21)) := (Below.refl _ _).alloc (Nat.le_refl _) _
  have hXb := hX.below hbw
  have hRb := hRs.below hbw
  obtain ⟨ba, off, rfl, hba, hcs⟩ := hXb (by simp)
  have c1 := hcs 0 (clV x) rfl
  obtain ⟨XA, xc, R⟩ := x
  unfold clV at c1
  dsimp only at c1 hRb hl hw
  obtain ⟨rl, hrl⟩ : ∃ rl, R.length = rl := ⟨_, rfl⟩
  rw [hrl] at c1
  have CR := Lib.hid (right_any R XA rl xc _ hRb hrl (by unfold maxLen; omega))
  have HW := Lib.hid hw
  have HBW := Lib.hid hbw
  have c0' := c1
  rw [Nat.add_zero] at c0'
  clear hX hRs hXb hRb hcs hw hrl hl hbw c1
  go_enter Try.func11, Try.ntmps11
  go_wp2_with fail
  go_loopw [4, 12] (fun v i wr => v = .slice (some ⟨w.heap.size, 0, none⟩) 1 1 ∧ i = .int .i64 0 ∧ wr = w.alloc (.cells #[.int .i32 0] 21)) (fun _ _ _ => 0)
  case atStart => exact ⟨rfl, rfl, by first | rfl | trivial⟩
  case round =>
    obtain ⟨rfl, rfl, rfl⟩ := hrel
    go_wp2_with fail
    refine CR.out.mono ?_
    rintro e w2 ⟨b, rfl, hb, hb2⟩
    have hbt : b = false := Bool.eq_false_iff.2 (fun h => HW.out (hb.1 h))
    subst hbt
    have HB2 := Lib.hid (below_then HBW.out hb2)
    clear hb hb2
    go_wp2_with fail
    go_ret2
    exact ⟨rfl, HB2.out⟩
theorem Rs.of_cells {w : World} {g : Nat} {R : List Rg} (h : CellsAt w g (rgs R)) : Rs w (some ⟨g, 0, none⟩) R := fun _ => ⟨g, 0, rfl, h.1, fun i r hi => by
  rw [Nat.zero_add]
  have := rgs_get R i r hi
  exact ⟨h.2 _ _ this.1, h.2 _ _ this.2⟩⟩
theorem Sl.of_blk {w : World} {g : Nat} {xs : List Value} (h : CellsAt w g xs) : Sl w (some ⟨g, 0, none⟩) xs := fun _ => ⟨g, 0, rfl, h.1, fun i u hu => by rw [Nat.zero_add]; exact h.2 i u hu⟩
theorem sor_unique {T T0 : List Int} {n : Nat} (hp : T.Perm T0) (hs : Sor T n) (hn : T0.length = n) (h0 : T0.Pairwise (· ≤ ·)) : T = T0 := by
  have hl : T.length = n := by rw [hp.length_eq, hn]
  refine hp.eq_of_pairwise (fun a b _ _ h3 h4 => Int.le_antisymm h3 h4) ?_ h0
  rw [List.pairwise_iff_getElem]
  intro i j hi hj hij
  have := hs i j hij (by omega)
  rw [List.getD_eq_getElem?_getD, List.getD_eq_getElem?_getD, List.getElem?_eq_getElem hi, List.getElem?_eq_getElem hj] at this
  exact this
theorem neigh (zs : List Int) (h : (List.range zs.length).all (fun j => !decide (j + 1 < zs.length) || decide (zs.getD j 0 ≠ zs.getD (j + 1) 0)) = true) : ∀ j, j + 1 < zs.length → zs.getD j 0 ≠ zs.getD (j + 1) 0 := fun j hj => by
  have := List.all_eq_true.1 h j (List.mem_range.2 (by omega))
  simpa [hj] using this
def exP : List Int := [0, 98, 99, 100, 101, 120]
def w3 (W : World) : World := ((W.alloc (.cells #[.int .i32 98, .int .i32 100] 46)).alloc (.cells #[.int .i32 99, .int .i32 99, .int .i32 120, .int .i32 1114111] 46)).alloc (.cells #[.slice (some ⟨W.heap.size, 0, none⟩) 1 1, .slice (some ⟨W.heap.size + 1, 0, none⟩) 2 2] 40)
theorem px1 (W : World) : Calls Try.prog 11 #[.slice (some ⟨W.heap.size + 2, 0, none⟩) 2 2] (w3 W) (OfPost (w3 W) exP) := by
  have s1 : (W.alloc (.cells #[.int .i32 98, .int .i32 100] 46)).heap.size = W.heap.size + 1 := by simp
  have s2 : ((W.alloc (.cells #[.int .i32 98, .int .i32 100] 46)).alloc (.cells #[.int .i32 99, .int .i32 99, .int .i32 120, .int .i32 1114111] 46)).heap.size = W.heap.size + 2 := by simp
  have k1 : CellsAt (w3 W) W.heap.size (rgs [(98, 100)]) := ((CellsAt.new W #[.int .i32 98, .int .i32 100] 46).alloc _).alloc _
  have k2 : CellsAt (w3 W) (W.heap.size + 1) (rgs [(99, 99), (120, 1114111)]) := by
    have h := (CellsAt.new (W.alloc (.cells #[.int .i32 98, .int .i32 100] 46)) #[.int .i32 99, .int .i32 99, .int .i32 120, .int .i32 1114111] 46).alloc (.cells #[.slice (some ⟨W.heap.size, 0, none⟩) 1 1, .slice (some ⟨W.heap.size + 1, 0, none⟩) 2 2] 40)
    rw [s1] at h; exact h
  have k3 : CellsAt (w3 W) (W.heap.size + 2) [.slice (some ⟨W.heap.size, 0, none⟩) 1 1, .slice (some ⟨W.heap.size + 1, 0, none⟩) 2 2] := by
    have h := CellsAt.new ((W.alloc (.cells #[.int .i32 98, .int .i32 100] 46)).alloc (.cells #[.int .i32 99, .int .i32 99, .int .i32 120, .int .i32 1114111] 46)) #[.slice (some ⟨W.heap.size, 0, none⟩) 1 1, .slice (some ⟨W.heap.size + 1, 0, none⟩) 2 2] 40
    rw [s2] at h; exact h
  have c := of_right [⟨some ⟨W.heap.size, 0, none⟩, 1, [(98, 100)]⟩, ⟨some ⟨W.heap.size + 1, 0, none⟩, 2, [(99, 99), (120, 1114111)]⟩] (some ⟨W.heap.size + 2, 0, none⟩) 2 exP (w3 W) (Sl.of_blk k3)
    (fun x hx => by simp only [List.mem_cons, List.not_mem_nil, or_false] at hx; rcases hx with rfl | rfl; exact Rs.of_cells k1; exact Rs.of_cells k2)
    (fun x hx => by
      simp only [List.mem_cons, List.not_mem_nil, or_false] at hx
      rcases hx with rfl | rfl
      · exact ⟨(Plain.Norm_one _).2 ⟨by decide, by decide, by decide⟩, by simp⟩
      · refine ⟨⟨⟨by decide, by decide, by decide⟩, fun s hs => ?_, (Plain.Norm_one _).2 ⟨by decide, by decide, by decide⟩⟩, by simp⟩
        simp only [List.mem_cons, List.not_mem_nil, or_false] at hs
        subst hs; decide)
    (by simp) (by show (5 : Nat) ≤ 11; decide) (fun T hp hs => sor_unique ((show T.Perm [0, 98, 101, 99, 100, 120] from hp).trans (by decide)) hs rfl (by decide)) (neigh exP (by decide))
  exact c
theorem px2 (W : World) : Calls Try.prog 11 #[.slice (some ⟨W.heap.size + 1, 0, none⟩) 1 1] ((W.alloc (.cells #[.int .i32 5, .int .i32 1] 46)).alloc (.cells #[.slice (some ⟨W.heap.size, 0, none⟩) 1 1] 40)) fun e w' => e = .returned (.tuple #[.slice none 0 0, .int .i64 1]) ∧ Below ((W.alloc (.cells #[.int .i32 5, .int .i32 1] 46)).alloc (.cells #[.slice (some ⟨W.heap.size, 0, none⟩) 1 1] 40)).heap.size ((W.alloc (.cells #[.int .i32 5, .int .i32 1] 46)).alloc (.cells #[.slice (some ⟨W.heap.size, 0, none⟩) 1 1] 40)) w' := by
  have s1 : (W.alloc (.cells #[.int .i32 5, .int .i32 1] 46)).heap.size = W.heap.size + 1 := by simp
  have k1 := ((CellsAt.new W #[.int .i32 5, .int .i32 1] 46).alloc (.cells #[.slice (some ⟨W.heap.size, 0, none⟩) 1 1] 40))
  have k3 := CellsAt.new (W.alloc (.cells #[.int .i32 5, .int .i32 1] 46)) #[.slice (some ⟨W.heap.size, 0, none⟩) 1 1] 40
  rw [s1] at k3
  exact of_wrong ⟨some ⟨W.heap.size, 0, none⟩, 1, [(5, 1)]⟩ _ 1 _ (Sl.of_blk k3) (Rs.of_cells k1) (by simp) (fun h => by have := ((Plain.Norm_one _).1 h.1).2.2; revert this; decide)
theorem px3 (W : World) : Calls Try.prog 11 #[.slice none 0 0] W (OfPost W [0]) := by
  exact of_right [] none 0 [0] W (Sl.nil _ _) (fun x hx => by cases hx) (fun x hx => by cases hx) (by simp) (by simp [allR, ends]) (fun T hp hs => sor_unique hp hs rfl (by decide)) (neigh [0] (by decide))
end Go.Proofs.Ytoamjlnmpklcdaa
