/- Chapter 4: Not, Same, Has, Many: what the code computes. Conditions: what each lemma says. -/
import Derived.Test.YtbbcdebjkedepaaClassC
import Derived.Laws.StructEq
set_option linter.unusedVariables false
set_option linter.unusedSimpArgs false
namespace Go.Proofs.Ytbbcdebjkedepaa
open Go.RowKit Go.Lib
open Plain (Rg May mayB In Norm put1 mergeL gapF gaps)
theorem gapF_snoc (C : List Rg) (r : Rg) (st : List Rg × Int) : (C ++ [r]).foldl gapF st = gapF (C.foldl gapF st) r := by rw [List.foldl_append]; rfl
theorem gapF_len : ∀ (C : List Rg) (st : List Rg × Int), (C.foldl gapF st).1.length = st.1.length + C.length := by
  intro C
  induction C with
  | nil => intro st; rfl
  | cons r C ih => intro st; rw [List.foldl_cons, ih]; unfold gapF; simp; omega
def NotRel (w : World) (u : Value) (m : Nat) (D : List Rg) (v lo i : Value) (wr : World) : Prop :=
  ∃ k : Nat, i = .int .i64 k ∧ k ≤ m ∧ lo = .int .i32 ((D.take k).foldl gapF ([], 0)).2 ∧ wr.ownsRow w.heap.size 86 2 v k (rgs ((D.take k).foldl gapF ([], 0)).1) ∧ wr.ownsRow w.heap.size 86 2 u m (rgs D) ∧ apart v u ∧ RowKit.Below w.heap.size w wr
def NotPost (R : List Rg) (w : World) (en : Ending) (w' : World) : Prop :=
  ∃ (C : List Rg) (A' : Option Addr) (c' : Nat), en = .returned (.slice A' C.length c') ∧ Norm C ∧ (∀ x, In C x ↔ 0 ≤ x ∧ x ≤ 1114111 ∧ ¬ In (R.filter mayB) x) ∧ C.length ≤ R.length + 1 ∧ w'.ownsRow w.heap.size 86 2 (.slice A' C.length c') C.length (rgs C) ∧ RowKit.Below w.heap.size w w'
set_option maxRecDepth 100000 in
set_option maxHeartbeats 4000000 in
theorem not_any (R : List Rg) (A : Option Addr) (n c : Nat) (w : World) (hX : Rs w A R) (hR : R.length = n) (hn : n ≤ 10000) :
    Calls Try.prog 25 #[.slice A n c] w (NotPost R w) := by
  have CO := Lib.hid (of_any R A n c w hX hR (by omega))
  have HR := Lib.hid hR
  clear hX hR
  obtain ⟨i82, hi82, y0, y1, y2⟩ := info_parts info82
  go_enter Try.func25, Try.ntmps25
  go_wp2_with fail
  refine CO.out.mono ?_
  rintro e w1 ⟨D, A1, c1, rfl, hND, hID, hDl, hO1, hB1⟩
  obtain ⟨m, hm⟩ : ∃ m, D.length = m := ⟨_, rfl⟩
  rw [hm] at hO1 hDl ⊢
  have hmn : m ≤ n := by rw [HR.out] at hDl; exact hDl
  have HB1 := Lib.hid hB1
  have HO1 := Lib.hid hO1
  have HM := Lib.hid hm
  have HND := Lib.hid hND
  have HID := Lib.hid hID
  clear hO1 hB1 hm hND hID hDl
  go_wp2_with fail
  go_loopw [3, 4, 10] (fun v lo i wr => NotRel w (.slice A1 m c1) m D v lo i wr) (fun _ _ i _ => m - (RowKit.intOf i).toNat)
  case atStart => exact ⟨0, rfl, Nat.zero_le _, rfl, World.ownsRow_nil _ _ _ _, HO1.out, (fun k h => by cases h), HB1.out⟩
  case round =>
    obtain ⟨k, rfl, hk, rfl, hO, hS, hap, hB⟩ := hrel
    obtain ⟨st, hst⟩ : ∃ st, (D.take k).foldl gapF ([], 0) = st := ⟨_, rfl⟩
    rw [hst] at hO ⊢
    obtain ⟨Out, low⟩ := st
    dsimp only at hO ⊢
    have hol : Out.length = k := by
      have := gapF_len (D.take k) ([], 0)
      rw [hst, List.length_take, HM.out] at this
      simp at this; omega
    have HOL := Lib.hid hol
    have HST := Lib.hid hst
    have HB := Lib.hid hB
    have HO := Lib.hid hO
    have HS := Lib.hid hS
    have HAP := Lib.hid hap
    clear hol hst
    by_cases hlt : k < m
    · have hkS : k < D.length := by rw [HM.out]; exact hlt
      obtain ⟨r, hr⟩ : ∃ r, D[k] = r := ⟨_, rfl⟩
      have hrm : May r := by rw [← hr]; exact Plain.Norm_may HND.out _ (List.getElem_mem hkS)
      have hnext : (D.take (k + 1)).foldl gapF ([], 0) = (Out ++ [(low, r.1 - 1)], r.2 + 1) := by rw [List.take_succ_eq_append_getElem hkS, gapF_snoc, HST.out, hr]; rfl
      have hgk := rgs_get D k r (by rw [List.getElem?_eq_getElem hkS, hr])
      obtain ⟨gs, cs, hv, hmc, _, hcl⟩ := own_at hS (by omega)
      injection hv with hv1 hv2 hv3
      subst hv1
      clear hv2 hv3
      have c0 := hcl.2 _ _ hgk.1
      have c1 := hcl.2 _ _ hgk.2
      have lgs := hcl.1
      obtain ⟨lo, hi⟩ := r
      obtain ⟨b1, b2, b3⟩ := hrm
      dsimp only at c0 c1 b1 b2 b3 hnext
      have HNX := Lib.hid hnext
      clear hgk hcl hr hnext
      obtain ⟨ua, uc, rfl⟩ := own_slice hO
      clear hO hS hap hB
      go_upto_region 6 with fail
      obtain ⟨wb, hwa⟩ : ∃ x, wr.alloc (.cells #[.int .i32 lo, .int .i32 hi] 86) = x := ⟨_, rfl⟩
      have hba : RowKit.Below wr.heap.size wr wb := by rw [← hwa]; exact (RowKit.Below.refl _ _).alloc (Nat.le_refl _) _
      have hxa : wb.heap[wr.heap.size]? = some (.cells #[.int .i32 lo, .int .i32 hi] 86 (0, 0)) := by rw [← hwa]; exact heap_alloc_new2 _ _ _ _ rfl
      rw [hwa]
      obtain ⟨x0, x1, x2, x3⟩ := box2 hxa
      have lx := lt_of_some hxa
      have HXA := Lib.hid hxa
      have HOb := Lib.hid (own_below HO.out hba)
      have HSb := Lib.hid (own_below HS.out hba)
      have HBb := Lib.hid (below_then HB.out hba)
      clear hwa hba hxa c0 c1
      go_wp2_with (at_builtin; refine wpList_append_own2 _ rfl (.tmp 14) (.tmp 20) _ rfl w.heap.size 86 i82 _ 2 8 Try.underlying73 hi82 y0 y1 y2 rfl (by decide) (.slice ua k uc) k (rgs Out) rfl (HOb.out.alloc _) ⟨wb.heap.size, 0, none⟩ 1 1 [.int .i32 low, .int .i32 (lo - 1)] rfl rfl (CellsAt_add (CellsAt.new wb _ _)) ?c2 ?c3 ?c4 ?c5 ?_)
      case c2 => first | exact ⟨rfl, rfl⟩ | (intro u hu; simp only [List.mem_cons, List.not_mem_nil, or_false] at hu; rcases hu with rfl | rfl <;> rfl)
      case c3 => simp only [maxLen]; omega
      case c4 => omega
      case c5 => have := HBb.out.size; simp; omega
      intro v3 w7 hown2 hg2 hvb
      have hBn : RowKit.Below w.heap.size w w7 := (HBb.out.alloc HBb.out.size _).grown hg2 (by have := HBb.out.size; simp; omega) (fun g hg => (HOb.out.lt g hg).1)
      have hx7 : w7.heap[wr.heap.size]? = some (.cells #[.int .i32 lo, .int .i32 hi] 86 (0, 0)) := blk_grown HXA.out hg2 (fun e => by have := (HO.out.lt _ e).2; omega)
      obtain ⟨z0, z1, z2, z3⟩ := box2 hx7
      have hap3 : apart v3 (.slice (some ⟨gs, 0, none⟩) m c1) := HAP.out.push HSb.out (by simpa using hvb)
      have hS7 := own_push HSb.out hg2 HAP.out
      have HBn := Lib.hid hBn
      have HO7 := Lib.hid hown2
      have HS7 := Lib.hid hS7
      have HAP7 := Lib.hid hap3
      clear hBn hg2 hown2 hvb hS7 hap3 x0 x1 x2 x3 lx hx7
      go_wp2
      go_roundw
      case rel =>
        refine ⟨k + 1, by go_num, by omega, ?_, ?_, HS7.out, HAP7.out, HBn.out⟩
        · rw [HNX.out]
        · rw [HNX.out, rgs_append]; exact HO7.out
      case measure => simp [RowKit.intOf]; omega
    · obtain rfl : k = m := by omega
      have hT : D.take k = D := List.take_of_length_le (by rw [HM.out]; exact Nat.le_refl _)
      have hga := Plain.gapF_all D [] 0
      rw [← hT, HST.out, hT] at hga
      dsimp only at hga
      rw [List.nil_append] at hga
      obtain ⟨ua, uc, rfl⟩ := own_slice hO
      have HGA := Lib.hid hga
      clear hO hS hap hB hT hga
      go_wp2_with (at_builtin; refine wpList_append_own2 _ rfl (.tmp 26) (.tmp 29) _ rfl w.heap.size 86 i82 _ 2 8 Try.underlying73 hi82 y0 y1 y2 rfl (by decide) (.slice ua k uc) k (rgs Out) rfl (HO.out.alloc _) ⟨wr.heap.size, 0, none⟩ 1 1 [.int .i32 low, .int .i32 1114111] rfl rfl (CellsAt_add (CellsAt.new wr _ _)) ?d2 ?d3 ?d4 ?d5 ?_)
      case d2 => first | exact ⟨rfl, rfl⟩ | (intro u hu; simp only [List.mem_cons, List.not_mem_nil, or_false] at hu; rcases hu with rfl | rfl <;> rfl)
      case d3 => simp only [maxLen]; omega
      case d4 => omega
      case d5 => have := HB.out.size; simp; omega
      intro v3 w7 hown2 hg2 hvb
      have hBn : RowKit.Below w.heap.size w w7 := (HB.out.alloc HB.out.size _).grown hg2 (by have := HB.out.size; simp; omega) (fun g hg => (HO.out.lt g hg).1)
      have hrg : rgs Out ++ [.int .i32 low, .int .i32 1114111] = rgs (gaps 0 D) := by rw [← HGA.out, rgs_append]; rfl
      rw [hrg] at hown2
      obtain ⟨va, vc, rfl⟩ := own_slice hown2
      have hgl : (gaps 0 D).length = k + 1 := by rw [Plain.gaps_len, HM.out]
      have CO2 := Lib.hid (of_any (gaps 0 D) va (k + 1) vc w7 (Rs.of_own hown2 hgl) hgl (by omega))
      have HBn := Lib.hid hBn
      clear hBn hown2 hg2 hvb hrg hgl
      go_wp2_with fail
      refine CO2.out.mono ?_
      rintro e w8 ⟨C, A8, c8, rfl, h1, h2, h3, h4, h5⟩
      have HP : Hid (NotPost R w (.returned (.slice A8 C.length c8)) w8) := Lib.hid ⟨C, A8, c8, rfl, h1, fun x => by
        rw [h2 x, Plain.gaps_in D 0 (Int.le_refl _) HND.out (fun r hr => (Plain.Norm_may HND.out r hr).1) x, HID.out x], by rw [Plain.gaps_len, HM.out] at h3; rw [HR.out]; omega, own_base h4 HBn.out.size, HBn.out.trans (h5.mono HBn.out.size)⟩
      clear h1 h2 h3 h4 h5
      go_wp2
      go_ret
      exact HP.out
end Go.Proofs.Ytbbcdebjkedepaa
namespace Go.Proofs.Ytbbcdebjkedepaa
open Go.RowKit Go.Lib
open Plain (Rg May mayB In Norm put1 mergeL gapF gaps)
theorem neq82 (a b c d : Int) (w : World) : (binOp .neq 86 (.agg #[.int .i32 a, .int .i32 b]) (.agg #[.int .i32 c, .int .i32 d])).run Try.prog w = .ok (.bool (!decide ((a, b) = (c, d)))) w := by
  have hm : Try.prog.fieldsOf 86 = #[{ name := "Low", type := 21, offset := 0, embedded := false, tag := "", pkgPath := "", byteOffset := 0 }, { name := "High", type := 21, offset := 1, embedded := false, tag := "", pkgPath := "", byteOffset := 4 }] := by kernel_rfl
  rw [run_neq_struct, run_equalIn_agg (d := 9999) w 86 _ _ (by rw [hm]; exact Try.underlying86) (by kernel_rfl), hm]
  by_cases h1 : a = c
  · by_cases h2 : b = d
    · simp [Op.eqFields, part, go_sem, Try.sizeOf21, Try.isAgg21, h1, h2]
    · simp [Op.eqFields, part, go_sem, Try.sizeOf21, Try.isAgg21, h1, h2]
  · simp [Op.eqFields, part, go_sem, Try.sizeOf21, Try.isAgg21, h1]
set_option maxRecDepth 100000 in
set_option maxHeartbeats 2000000 in
theorem equal_any (R S : List Rg) (A B : Option Addr) (c d : Nat) (w : World) (hX : Rs w A R) (hY : Rs w B S) (hn : R.length ≤ maxLen) (hn2 : S.length ≤ maxLen) :
    Calls Try.prog 56 #[.slice A R.length c, .slice B S.length d] w fun e w' => e = .returned (.bool (decide (R = S))) ∧ Below w.heap.size w w' := by
  unfold maxLen at hn hn2
  obtain ⟨n, hN⟩ : ∃ n, R.length = n := ⟨_, rfl⟩
  obtain ⟨m, hM⟩ : ∃ m, S.length = m := ⟨_, rfl⟩
  obtain ⟨q, hq⟩ : ∃ q, decide (R = S) = q := ⟨_, rfl⟩
  rw [hN] at hn ⊢
  rw [hM] at hn2 ⊢
  rw [hq]
  have HX := Lib.hid hX
  have HY := Lib.hid hY
  have HN := Lib.hid hN
  have HM := Lib.hid hM
  have HQ := Lib.hid hq
  clear hX hY hN hM hq
  by_cases hnm : n = m
  · have e1 : ((n : Int) != (m : Int)) = false := by rw [hnm]; simp
    have HNM := Lib.hid hnm
    clear hnm
    go_enter Try.func56, Try.ntmps56
    go_wp2
    go_loopw [5, 13] (fun _ i wr => ∃ k : Nat, k ≤ n ∧ i = .int .i64 k ∧ Hid (∀ j (hj : j < R.length) (hj2 : j < S.length), j < k → R[j] = S[j]) ∧ RowKit.Below w.heap.size w wr) (fun _ i _ => n - (RowKit.intOf i).toNat)
    case atStart => exact ⟨0, Nat.zero_le _, rfl, Lib.hid (fun j _ _ h => absurd h (by omega)), RowKit.Below.refl _ _⟩
    case round =>
      obtain ⟨k, hk, rfl, HA, hB⟩ := hrel
      have HB := Lib.hid hB
      by_cases hlt : k < n
      · have hk1 : k < R.length := by rw [HN.out]; exact hlt
        have hk2 : k < S.length := by rw [HM.out, ← HNM.out]; exact hlt
        have hltm : k < m := by rw [← HNM.out]; exact hlt
        obtain ⟨ba, off, rfl, hba, c0, c1⟩ := (HX.out.below hB).get k hk1
        obtain ⟨bb, off2, rfl, hbb, d0, d1⟩ := (HY.out.below hB).get k hk2
        obtain ⟨r, hr⟩ : ∃ r, R[k] = r := ⟨_, rfl⟩
        obtain ⟨s, hs⟩ : ∃ s, S[k] = s := ⟨_, rfl⟩
        rw [hr] at c0 c1
        rw [hs] at d0 d1
        obtain ⟨a1, a2⟩ := r
        obtain ⟨s1, s2⟩ := s
        dsimp only at c0 c1 d0 d1
        have HR := Lib.hid hr
        have HS := Lib.hid hs
        have hne := neq82 a1 a2 s1 s2
        obtain ⟨p, hp⟩ : ∃ p, decide ((a1, a2) = (s1, s2)) = p := ⟨_, rfl⟩
        rw [hp] at hne
        have HP := Lib.hid hp
        have g0 : (0 : Int) ≤ (k : Int) := by omega
        have g1 : (k : Int) < (n : Int) := by omega
        have g2 : (k : Int) < (m : Int) := by omega
        clear hr hs hp hB
        go_upto_region 6 with fail
        cases p
        · go_quiet (fail)
          have hBd := Lib.hid (below_then HB.out (⟨rfl, rfl, rfl, Nat.le_refl _, fun _ _ => rfl⟩ : RowKit.Below wr.heap.size wr (wr.drewN nq)))
          have hqv : q = false := by
            rw [← HQ.out]
            have h1 := HP.out
            simp only [decide_eq_false_iff_not] at h1 ⊢
            intro h; subst h
            exact h1 (HR.out.symm.trans HS.out)
          subst hqv
          go_wp2
          go_ret
          exact ⟨rfl, hBd.out⟩
        · go_quiet (fail)
          have hBd := Lib.hid (below_then HB.out (⟨rfl, rfl, rfl, Nat.le_refl _, fun _ _ => rfl⟩ : RowKit.Below wr.heap.size wr (wr.drewN nq)))
          go_wp2
          go_roundw
          case rel =>
            refine ⟨k + 1, by omega, by go_num, Lib.hid (fun j hj hj2 hjk => ?_), hBd.out⟩
            by_cases e : j = k
            · subst e; rw [HR.out, HS.out]; exact of_decide_eq_true HP.out
            · exact HA.out j hj hj2 (by omega)
          case measure => simp [RowKit.intOf]; omega
      · have hqv : q = true := by
          rw [← HQ.out]
          refine decide_eq_true (List.ext_getElem (by rw [HN.out, HM.out, HNM.out]) fun j h1 h2 => HA.out j h1 h2 (by rw [HN.out] at h1; omega))
        subst hqv
        clear hB
        go_wp2
        go_ret
        exact ⟨rfl, HB.out⟩
  · have e1 : ((n : Int) != (m : Int)) = true := by simp; omega
    have hqv : q = false := by
      rw [← HQ.out]
      simp only [decide_eq_false_iff_not]
      intro h; subst h
      exact hnm (HN.out.symm.trans HM.out)
    subst hqv
    go_enter Try.func56, Try.ntmps56
    go_wp2
    go_ret
    exact ⟨rfl, RowKit.Below.refl _ _⟩
theorem same_any (R S : List Rg) (A B : Option Addr) (c d : Nat) (w : World) (hX : Rs w A R) (hY : Rs w B S) (hn : R.length ≤ maxLen) (hn2 : S.length ≤ maxLen) :
    Calls Try.prog 42 #[.slice A R.length c, .slice B S.length d] w fun e w' => e = .returned (.bool (decide (R = S))) ∧ Below w.heap.size w w' := by
  have HE := Lib.hid (equal_any R S A B c d w hX hY hn hn2)
  obtain ⟨q, hq⟩ : ∃ q, decide (R = S) = q := ⟨_, rfl⟩
  rw [hq] at HE ⊢
  clear hX hY hq
  go_enter Try.func42, Try.ntmps42
  go_wp2_with fail
  refine HE.out.mono ?_
  rintro e w1 ⟨rfl, hb⟩
  have HB := Lib.hid hb
  clear hb
  go_wp2
  go_ret
  exact ⟨rfl, HB.out⟩
end Go.Proofs.Ytbbcdebjkedepaa
namespace Go.Proofs.Ytbbcdebjkedepaa
open Go.RowKit Go.Lib
open Plain (Rg May mayB In Norm put1 mergeL gapF gaps)
end Go.Proofs.Ytbbcdebjkedepaa
