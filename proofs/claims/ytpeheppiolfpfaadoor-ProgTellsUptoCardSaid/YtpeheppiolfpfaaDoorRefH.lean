/- The document's Same, on classes and on programs. Conditions: what each lemma says. -/
import Derived.Test.YtpeheppiolfpfaaDoorRefE
import Derived.Test.YtpeheppiolfpfaaDoorPgC
import Derived.Laws.StructEq
import Derived.Deep.QuietTactic
import Derived.Deep.RegionHeld3
set_option linter.unusedVariables false
set_option linter.unusedSimpArgs false
namespace Go.Proofs.YtpeheppiolfpfaaDoor
open Go.RowKit Go.Lib
open Plain (Rg May mayB In Norm put1 mergeL gapF gaps)
theorem neq91 (a b c d : Int) (w : World) : (binOp .neq 91 (.agg #[.int .i32 a, .int .i32 b]) (.agg #[.int .i32 c, .int .i32 d])).run Tryd.prog w = .ok (.bool (!decide ((a, b) = (c, d)))) w := by
  have hm : Tryd.prog.fieldsOf 91 = #[{ name := "Low", type := 21, offset := 0, embedded := false, tag := "", pkgPath := "", byteOffset := 0 }, { name := "High", type := 21, offset := 1, embedded := false, tag := "", pkgPath := "", byteOffset := 4 }] := by kernel_rfl
  rw [run_neq_struct, run_equalIn_agg (d := 9999) w 91 _ _ (by rw [hm]; exact Tryd.underlying91) (by kernel_rfl), hm]
  by_cases h1 : a = c
  · by_cases h2 : b = d
    · simp [Op.eqFields, part, go_sem, Tryd.sizeOf21, Tryd.isAgg21, h1, h2]
    · simp [Op.eqFields, part, go_sem, Tryd.sizeOf21, Tryd.isAgg21, h1, h2]
  · simp [Op.eqFields, part, go_sem, Tryd.sizeOf21, Tryd.isAgg21, h1]
set_option maxRecDepth 100000 in
set_option maxHeartbeats 2000000 in
theorem rsame_any (R S : List Rg) (A B : Option Addr) (c d : Nat) (w : World) (hX : Rs w A R) (hY : Rs w B S) (hn : R.length ≤ maxLen) (hn2 : S.length ≤ maxLen) :
    Calls Tryd.prog 34 #[.slice A R.length c, .slice B S.length d] w fun e w' => e = .returned (.bool (decide (R = S))) ∧ Below w.heap.size w w' := by
  unfold maxLen at hn hn2
  obtain ⟨n, hN⟩ : ∃ n, R.length = n := ⟨_, rfl⟩
  obtain ⟨m, hM⟩ : ∃ m, S.length = m := ⟨_, rfl⟩
  obtain ⟨q, hq⟩ : ∃ q, decide (R = S) = q := ⟨_, rfl⟩
  rw [hN] at hn ⊢
  rw [hM] at hn2 ⊢
  rw [hq]
  have HX := Lib.hid hX
  have HY := Lib.hid hY
  have HN := Lib.hid hN
  have HM := Lib.hid hM
  have HQ := Lib.hid hq
  clear hX hY hN hM hq
  by_cases hnm : n = m
  · have e1 : ((n : Int) != (m : Int)) = false := by rw [hnm]; simp
    have HNM := Lib.hid hnm
    clear hnm
    go_enter Tryd.func34, Tryd.ntmps34
    go_wp2
    go_loopw [5] (fun i wr => ∃ k : Nat, k ≤ n ∧ i = .int .i64 k ∧ Hid (∀ j (hj : j < R.length) (hj2 : j < S.length), j < k → R[j] = S[j]) ∧ RowKit.Below w.heap.size w wr) (fun i _ => n - (RowKit.intOf i).toNat)
    case atStart => exact ⟨0, Nat.zero_le _, rfl, Lib.hid (fun j _ _ h => absurd h (by omega)), RowKit.Below.refl _ _⟩
    case round =>
      obtain ⟨k, hk, rfl, HA, hB⟩ := hrel
      have HB := Lib.hid hB
      by_cases hlt : k < n
      · have hk1 : k < R.length := by rw [HN.out]; exact hlt
        have hk2 : k < S.length := by rw [HM.out, ← HNM.out]; exact hlt
        have hltm : k < m := by rw [← HNM.out]; exact hlt
        obtain ⟨ba, off, rfl, hba, c0, c1⟩ := (HX.out.below hB).get k hk1
        obtain ⟨bb, off2, rfl, hbb, d0, d1⟩ := (HY.out.below hB).get k hk2
        obtain ⟨r, hr⟩ : ∃ r, R[k] = r := ⟨_, rfl⟩
        obtain ⟨s, hs⟩ : ∃ s, S[k] = s := ⟨_, rfl⟩
        rw [hr] at c0 c1
        rw [hs] at d0 d1
        obtain ⟨a1, a2⟩ := r
        obtain ⟨s1, s2⟩ := s
        dsimp only at c0 c1 d0 d1
        have HR := Lib.hid hr
        have HS := Lib.hid hs
        have hne := neq91 a1 a2 s1 s2
        obtain ⟨p, hp⟩ : ∃ p, decide ((a1, a2) = (s1, s2)) = p := ⟨_, rfl⟩
        rw [hp] at hne
        have HP := Lib.hid hp
        have g0 : (0 : Int) ≤ (k : Int) := by omega
        have g1 : (k : Int) < (n : Int) := by omega
        have g2 : (k : Int) < (m : Int) := by omega
        clear hr hs hp hB
        go_upto_region 6 with fail
        cases p
        · go_quiet (fail)
          have hBd := Lib.hid (below_then HB.out (⟨rfl, rfl, rfl, Nat.le_refl _, fun _ _ => rfl⟩ : RowKit.Below wr.heap.size wr (wr.drewN nq)))
          have hqv : q = false := by
            rw [← HQ.out]
            have h1 := HP.out
            simp only [decide_eq_false_iff_not] at h1 ⊢
            intro h; subst h
            exact h1 (HR.out.symm.trans HS.out)
          subst hqv
          go_wp2
          go_ret
          exact ⟨rfl, hBd.out⟩
        · go_quiet (fail)
          have hBd := Lib.hid (below_then HB.out (⟨rfl, rfl, rfl, Nat.le_refl _, fun _ _ => rfl⟩ : RowKit.Below wr.heap.size wr (wr.drewN nq)))
          go_wp2
          go_roundw
          case rel =>
            refine ⟨k + 1, by omega, by go_num, Lib.hid (fun j hj hj2 hjk => ?_), hBd.out⟩
            by_cases e : j = k
            · subst e; rw [HR.out, HS.out]; exact of_decide_eq_true HP.out
            · exact HA.out j hj hj2 (by omega)
          case measure => simp [RowKit.intOf]; omega
      · have hqv : q = true := by
          rw [← HQ.out]
          refine decide_eq_true (List.ext_getElem (by rw [HN.out, HM.out, HNM.out]) fun j h1 h2 => HA.out j h1 h2 (by rw [HN.out] at h1; omega))
        subst hqv
        clear hB
        go_wp2
        go_ret
        exact ⟨rfl, HB.out⟩
  · have e1 : ((n : Int) != (m : Int)) = true := by simp; omega
    have hqv : q = false := by
      rw [← HQ.out]
      simp only [decide_eq_false_iff_not]
      intro h; subst h
      exact hnm (HN.out.symm.trans HM.out)
    subst hqv
    go_enter Tryd.func34, Tryd.ntmps34
    go_wp2
    go_ret
    exact ⟨rfl, RowKit.Below.refl _ _⟩
end Go.Proofs.YtpeheppiolfpfaaDoor
namespace Go.Proofs.YtpeheppiolfpfaaDoor
open Go.RowKit Go.Lib
open Plain (Rg May mayB In Norm In4 slotsOf insB bnd riB cls cnot rightB normB)
theorem neq47 (a b c d a' b' c' d' : Int) (w : World) : (binOp .neq 47 (.agg #[.int .i64 a, .int .i64 b, .int .i64 c, .int .i64 d]) (.agg #[.int .i64 a', .int .i64 b', .int .i64 c', .int .i64 d'])).run Tryd.prog w = .ok (.bool (!decide ((a, b, c, d) = (a', b', c', d')))) w := by
  have hm : Tryd.prog.fieldsOf 47 = #[{ name := "Op", type := 3, offset := 0, embedded := false, tag := "", pkgPath := "", byteOffset := 0 }, { name := "X", type := 3, offset := 1, embedded := false, tag := "", pkgPath := "", byteOffset := 8 }, { name := "Y", type := 3, offset := 2, embedded := false, tag := "", pkgPath := "", byteOffset := 16 }, { name := "Arg", type := 3, offset := 3, embedded := false, tag := "", pkgPath := "", byteOffset := 24 }] := by kernel_rfl
  rw [run_neq_struct, run_equalIn_agg (d := 9999) w 47 _ _ (by rw [hm]; exact Tryd.underlying47) (by kernel_rfl), hm]
  by_cases h1 : a = a'
  · by_cases h2 : b = b'
    · by_cases h3 : c = c'
      · by_cases h4 : d = d'
        · simp [Op.eqFields, part, go_sem, Tryd.sizeOf3, Tryd.isAgg3, h1, h2, h3, h4]
        · simp [Op.eqFields, part, go_sem, Tryd.sizeOf3, Tryd.isAgg3, h1, h2, h3, h4]
      · simp [Op.eqFields, part, go_sem, Tryd.sizeOf3, Tryd.isAgg3, h1, h2, h3]
    · simp [Op.eqFields, part, go_sem, Tryd.sizeOf3, Tryd.isAgg3, h1, h2]
  · simp [Op.eqFields, part, go_sem, Tryd.sizeOf3, Tryd.isAgg3, h1]
set_option maxRecDepth 100000 in
set_option maxHeartbeats 4000000 in
theorem rpsame_any (I I2 C C2 : Option Addr) (L M : List In4) (K N : List Cs) (c c2 d d2 : Nat) (g h : Int) (w : World) (hP : PgAt w I L C K) (hQ : PgAt w I2 M C2 N) :
    Calls Tryd.prog 15 #[pgV I L.length c C K.length d g, pgV I2 M.length c2 C2 N.length d2 h] w fun e w' => e = .returned (.bool (pgS L M K N g h)) ∧ Below w.heap.size w w' := by
  unfold pgV pgS
  have hbx : Below w.heap.size w ((w.alloc (.cells #[.slice I L.length c, .slice C K.length d, .int .i64 g] 36)).alloc (.cells #[.slice I2 M.length c2, .slice C2 N.length d2, .int .i64 h] 36)) := ((Below.refl _ _).alloc (Nat.le_refl _) _).alloc (by simp) _
  have hc1 : CellsAt ((w.alloc (.cells #[.slice I L.length c, .slice C K.length d, .int .i64 g] 36)).alloc (.cells #[.slice I2 M.length c2, .slice C2 N.length d2, .int .i64 h] 36)) w.heap.size [.slice I L.length c, .slice C K.length d, .int .i64 g] := (CellsAt.new w _ _).alloc _
  have hc2 : CellsAt ((w.alloc (.cells #[.slice I L.length c, .slice C K.length d, .int .i64 g] 36)).alloc (.cells #[.slice I2 M.length c2, .slice C2 N.length d2, .int .i64 h] 36)) (w.heap.size + 1) [.slice I2 M.length c2, .slice C2 N.length d2, .int .i64 h] := by
    have h1 := CellsAt.new (w.alloc (.cells #[.slice I L.length c, .slice C K.length d, .int .i64 g] 36)) #[.slice I2 M.length c2, .slice C2 N.length d2, .int .i64 h] 36
    simpa using h1
  have HX := Lib.hid hP.insts
  have HY := Lib.hid hQ.insts
  have HZ := Lib.hid hP.cls
  have HW := Lib.hid hQ.cls
  have HK := Lib.hid hP.each
  have HL := Lib.hid hQ.each
  have hli := hP.li
  have hlc := hP.lc
  have hli2 := hQ.li
  have hlc2 := hQ.lc
  unfold maxLen at hli hlc hli2 hlc2
  obtain ⟨n, hn⟩ : ∃ x, L.length = x := ⟨_, rfl⟩
  obtain ⟨m, hm⟩ : ∃ x, M.length = x := ⟨_, rfl⟩
  obtain ⟨kn, hkn⟩ : ∃ x, K.length = x := ⟨_, rfl⟩
  obtain ⟨nn, hnn⟩ : ∃ x, N.length = x := ⟨_, rfl⟩
  obtain ⟨res, hres⟩ : ∃ b, (g == h && decide (L = M) && decide (K.map Cs.R = N.map Cs.R)) = b := ⟨_, rfl⟩
  rw [hn] at hli hbx hc1 hc2
  rw [hm] at hli2 hbx hc1 hc2
  rw [hkn] at hlc hbx hc1 hc2
  rw [hnn] at hlc2 hbx hc1 hc2
  rw [hn, hm, hkn, hnn, hres]
  have HN := Lib.hid hn
  have HM := Lib.hid hm
  have HKN := Lib.hid hkn
  have HNN := Lib.hid hnn
  have HRES := Lib.hid hres
  have HBX := Lib.hid hbx
  have HC1 := Lib.hid hc1
  have HC2 := Lib.hid hc2
  clear hP hQ hn hm hkn hnn hres hbx hc1 hc2
  go_enter Tryd.func15, Tryd.ntmps15
  by_cases hgh : g = h
  case neg =>
    have e1 : (g != h) = true := by simp [hgh]
    have hr : res = false := by rw [← HRES.out, show (g == h) = false by simp [hgh]]; rfl
    subst hr
    clear HRES
    go_wp2_with fail
    go_ret
    exact ⟨rfl, HBX.out⟩
  have e1 : (g != h) = false := by simp [hgh]
  have HGH := Lib.hid (show (g == h) = true by simp [hgh])
  clear hgh
  by_cases hnm : n = m
  case neg =>
    have e2 : ((n : Int) != (m : Int)) = true := by simp; omega
    have hr : res = false := by
      rw [← HRES.out, decide_eq_false (show ¬ L = M from fun e => hnm (by rw [← HN.out, ← HM.out, e]))]; simp
    subst hr
    clear HRES
    go_wp2_with fail
    go_ret
    exact ⟨rfl, HBX.out⟩
  have e2 : ((n : Int) != (m : Int)) = false := by simp; omega
  have HNM := Lib.hid hnm
  clear hnm
  by_cases hkk : kn = nn
  case neg =>
    have e3 : ((kn : Int) != (nn : Int)) = true := by simp; omega
    have hr : res = false := by
      rw [← HRES.out, decide_eq_false (show ¬ K.map Cs.R = N.map Cs.R from fun e => hkk (by have e := congrArg List.length e; rw [List.length_map, List.length_map, HKN.out, HNN.out] at e; exact e))]; simp
    subst hr
    clear HRES
    go_wp2_with fail
    go_ret
    exact ⟨rfl, HBX.out⟩
  have e3 : ((kn : Int) != (nn : Int)) = false := by simp; omega
  have HKK := Lib.hid hkk
  clear hkk
  go_wp2_with fail
  obtain ⟨w0, hw0⟩ : ∃ x, ((w.alloc (.cells #[.slice I n c, .slice C kn d, .int .i64 g] 36)).alloc (.cells #[.slice I2 m c2, .slice C2 nn d2, .int .i64 h] 36)) = x := ⟨_, rfl⟩
  rw [hw0] at HBX HC1 HC2 ⊢
  have HW0 := Lib.hid hw0
  clear hw0
  obtain ⟨b0, hb0⟩ : ∃ x, w.heap.size + 1 = x := ⟨_, rfl⟩
  rw [hb0] at HC2 ⊢
  clear hb0
  go_loopw [5] (fun i wr => ∃ k : Nat, k ≤ n ∧ i = .int .i64 k ∧ Hid (∀ j (hj : j < L.length) (hj2 : j < M.length), j < k → L[j] = M[j]) ∧ Below w.heap.size w wr ∧ Below w0.heap.size w0 wr) (fun i _ => n - (RowKit.intOf i).toNat)
  case atStart => exact ⟨0, Nat.zero_le _, rfl, Lib.hid (fun j _ _ h => absurd h (by omega)), HBX.out, Below.refl _ _⟩
  case round =>
    obtain ⟨k, hk, rfl, HA, hB, hB0⟩ := hrel
    have HB := Lib.hid hB
    have HB0 := Lib.hid hB0
    obtain ⟨x0, x1⟩ := (⟨(HC1.out.below hB0).at_ 0 _ rfl, (HC1.out.below hB0).at_ 1 _ rfl⟩ : _ ∧ _)
    obtain ⟨y0, y1⟩ := (⟨(HC2.out.below hB0).at_ 0 _ rfl, (HC2.out.below hB0).at_ 1 _ rfl⟩ : _ ∧ _)
    have hlw := (HC1.out.below hB0).1
    have hlv := (HC2.out.below hB0).1
    by_cases hlt : k < n
    · have hk1 : k < L.length := by rw [HN.out]; exact hlt
      have hk2 : k < M.length := by rw [HM.out, ← HNM.out]; exact hlt
      have hltm : k < m := by rw [← HNM.out]; exact hlt
      obtain ⟨ba, off, rfl, hba, c0, c1, c2', c3⟩ := i4_at (HX.out.below hB) k hk1
      obtain ⟨bb, off2, rfl, hbb, d0, d1, d2', d3⟩ := i4_at (HY.out.below hB) k hk2
      obtain ⟨r, hr⟩ : ∃ r, L[k] = r := ⟨_, rfl⟩
      obtain ⟨s, hs⟩ : ∃ s, M[k] = s := ⟨_, rfl⟩
      rw [hr] at c0 c1 c2' c3
      rw [hs] at d0 d1 d2' d3
      obtain ⟨a1, a2, a3, a4⟩ := r
      obtain ⟨s1, s2, s3, s4⟩ := s
      dsimp only at c0 c1 c2' c3 d0 d1 d2' d3
      have HR := Lib.hid hr
      have HS := Lib.hid hs
      have hne := neq47 a1 a2 a3 a4 s1 s2 s3 s4
      obtain ⟨p, hp⟩ : ∃ p, decide ((a1, a2, a3, a4) = (s1, s2, s3, s4)) = p := ⟨_, rfl⟩
      rw [hp] at hne
      have HP := Lib.hid hp
      have g0 : (0 : Int) ≤ (k : Int) := by omega
      have g1 : (k : Int) < (n : Int) := by omega
      have g2 : (k : Int) < (m : Int) := by omega
      clear hr hs hp hB hB0
      go_upto_region 6 with fail
      cases p
      · go_quiet (fail)
        have hBd := Lib.hid (below_then HB.out (⟨rfl, rfl, rfl, Nat.le_refl _, fun _ _ => rfl⟩ : RowKit.Below wr.heap.size wr (wr.drewN nq)))
        have hqv : res = false := by
          rw [← HRES.out, decide_eq_false (show ¬ L = M from ?_)]; simp
          intro h
          have h1 := HP.out
          simp only [decide_eq_false_iff_not] at h1
          subst h
          exact h1 (HR.out.symm.trans HS.out)
        subst hqv
        go_wp2
        go_ret
        exact ⟨rfl, hBd.out⟩
      · go_quiet (fail)
        have hBd := Lib.hid (below_then HB.out (⟨rfl, rfl, rfl, Nat.le_refl _, fun _ _ => rfl⟩ : RowKit.Below wr.heap.size wr (wr.drewN nq)))
        have hBd0 := Lib.hid (below_then HB0.out (⟨rfl, rfl, rfl, Nat.le_refl _, fun _ _ => rfl⟩ : RowKit.Below wr.heap.size wr (wr.drewN nq)))
        go_wp2
        go_roundw
        case rel =>
          refine ⟨k + 1, by omega, by go_num, Lib.hid (fun j hj hj2 hjk => ?_), hBd.out, hBd0.out⟩
          by_cases e : j = k
          · subst e; rw [HR.out, HS.out]; exact of_decide_eq_true HP.out
          · exact HA.out j hj hj2 (by omega)
        case measure => simp [RowKit.intOf]; omega
    · have hLM : L = M := List.ext_getElem (by rw [HN.out, HM.out, HNM.out]) fun j h1 h2 => HA.out j h1 h2 (by rw [HN.out] at h1; omega)
      have hrs : decide (K.map Cs.R = N.map Cs.R) = res := by rw [← HRES.out, HGH.out, decide_eq_true hLM]; rfl
      have HRS := Lib.hid hrs
      clear hrs hLM HRES hB HA
      go_wp2_with fail
      clear hB0 x0 x1 y0 y1 hlw hlv
      go_loopw [6] (fun i wr => ∃ k : Nat, k ≤ kn ∧ i = .int .i64 k ∧ Hid (∀ j (hj : j < K.length) (hj2 : j < N.length), j < k → K[j].R = N[j].R) ∧ Below w.heap.size w wr ∧ Below w0.heap.size w0 wr) (fun i _ => kn - (RowKit.intOf i).toNat)
      case atStart => exact ⟨0, Nat.zero_le _, rfl, Lib.hid (fun j _ _ h => absurd h (by omega)), HB.out, HB0.out⟩
      case round =>
        obtain ⟨j, hj, rfl, HA, hB, hB0⟩ := hrel
        have HBj := Lib.hid hB
        have HBj0 := Lib.hid hB0
        obtain ⟨x0, x1⟩ := (⟨(HC1.out.below hB0).at_ 0 _ rfl, (HC1.out.below hB0).at_ 1 _ rfl⟩ : _ ∧ _)
        obtain ⟨y0, y1⟩ := (⟨(HC2.out.below hB0).at_ 0 _ rfl, (HC2.out.below hB0).at_ 1 _ rfl⟩ : _ ∧ _)
        have hlw := (HC1.out.below hB0).1
        have hlv := (HC2.out.below hB0).1
        by_cases hlt : j < kn
        · have hk1 : j < K.length := by rw [HKN.out]; exact hlt
          have hk2 : j < N.length := by rw [HNN.out, ← HKK.out]; exact hlt
          have hltm : j < nn := by rw [← HKK.out]; exact hlt
          obtain ⟨ba, off, rfl, hba, c0⟩ := cs_at (HZ.out.below hB) j hk1
          obtain ⟨bb, off2, rfl, hbb, d0⟩ := cs_at (HW.out.below hB) j hk2
          have hx := HK.out K[j] (List.getElem_mem hk1)
          have hy := HL.out N[j] (List.getElem_mem hk2)
          obtain ⟨r, hr⟩ : ∃ r, K[j] = r := ⟨_, rfl⟩
          obtain ⟨s, hs⟩ : ∃ s, N[j] = s := ⟨_, rfl⟩
          rw [hr] at c0 hx
          rw [hs] at d0 hy
          have HCS := Lib.hid (fun W (hb : Kb wr W) => rsame_any r.R s.R r.A s.A r.c s.c W ((hx.1.below hB).below hb) ((hy.1.below hB).below hb) hx.2 hy.2)
          unfold clV at c0 d0
          have HR := Lib.hid hr
          have HS := Lib.hid hs
          obtain ⟨p, hp⟩ : ∃ p, decide (r.R = s.R) = p := ⟨_, rfl⟩
          rw [hp] at HCS
          have HP := Lib.hid hp
          have g0 : (0 : Int) ≤ (j : Int) := by omega
          have g1 : (j : Int) < (kn : Int) := by omega
          have g2 : (j : Int) < (nn : Int) := by omega
          obtain ⟨l1, hl1⟩ : ∃ l, r.R.length = l := ⟨_, rfl⟩
          obtain ⟨l2, hl2⟩ : ∃ l, s.R.length = l := ⟨_, rfl⟩
          rw [hl1] at c0 HCS
          rw [hl2] at d0 HCS
          clear hr hs hp hB hB0 hx hy hl1 hl2
          have CELL := fun (W : World) (hb : Kb wr W) => (⟨(hb.cell (p := ⟨w.heap.size, 1, none⟩) hlw).trans x1, (hb.cell (p := ⟨b0, 1, none⟩) hlv).trans y1, (hb.cell (p := ⟨ba, off + j, none⟩) hba).trans c0, (hb.cell (p := ⟨bb, off2 + j, none⟩) hbb).trans d0, hb⟩ : W.cell? ⟨w.heap.size, 1, none⟩ = some (.slice (some ⟨ba, off, none⟩) kn d) ∧ W.cell? ⟨b0, 1, none⟩ = some (.slice (some ⟨bb, off2, none⟩) nn d2) ∧ W.cell? ⟨ba, off + j, none⟩ = some (.slice r.A l1 r.c) ∧ W.cell? ⟨bb, off2 + j, none⟩ = some (.slice s.A l2 s.c) ∧ Kb wr W)
          have HCT := Lib.hid (fun (W : World) (hb : Kb wr W) => (HCS.out W hb).mono (R' := fun e w' => e = .returned (.bool p) ∧ (w'.cell? ⟨w.heap.size, 1, none⟩ = some (.slice (some ⟨ba, off, none⟩) kn d) ∧ w'.cell? ⟨b0, 1, none⟩ = some (.slice (some ⟨bb, off2, none⟩) nn d2) ∧ w'.cell? ⟨ba, off + j, none⟩ = some (.slice r.A l1 r.c) ∧ w'.cell? ⟨bb, off2 + j, none⟩ = some (.slice s.A l2 s.c) ∧ Kb wr w')) (fun e w' h => ⟨h.1, CELL w' (below_then hb h.2)⟩))
          clear CELL
          go_upto_region 11 with fail
          have hSd : wr.drew.cell? ⟨w.heap.size, 1, none⟩ = some (.slice (some ⟨ba, off, none⟩) kn d) ∧ wr.drew.cell? ⟨b0, 1, none⟩ = some (.slice (some ⟨bb, off2, none⟩) nn d2) ∧ wr.drew.cell? ⟨ba, off + j, none⟩ = some (.slice r.A l1 r.c) ∧ wr.drew.cell? ⟨bb, off2 + j, none⟩ = some (.slice s.A l2 s.c) ∧ Kb wr wr.drew := ⟨x1, y1, c0, d0, (Below.refl _ _).drew⟩
          go_region_held3 (fun w' => w'.cell? ⟨w.heap.size, 1, none⟩ = some (.slice (some ⟨ba, off, none⟩) kn d) ∧ w'.cell? ⟨b0, 1, none⟩ = some (.slice (some ⟨bb, off2, none⟩) nn d2) ∧ w'.cell? ⟨ba, off + j, none⟩ = some (.slice r.A l1 r.c) ∧ w'.cell? ⟨bb, off2 + j, none⟩ = some (.slice s.A l2 s.c) ∧ Kb wr w') (first | assumption | go_keep) (first
            | (go_at_call 34; (with_reducible refine (HCT.out _ (by first | assumption | exact hSd.2.2.2.2)).mono ?_); rintro e w9 ⟨rfl, hS9⟩))
          have HB9 := Lib.hid (below_then HBj.out (show Below wr.heap.size wr w9 from hS9.2.2.2.2))
          have HB90 := Lib.hid (below_then HBj0.out (show Below wr.heap.size wr w9 from hS9.2.2.2.2))
          clear hS9 hSd
          cases p
          · have hqv : res = false := by
              rw [← HRS.out]
              have h1 := HP.out
              simp only [decide_eq_false_iff_not] at h1 ⊢
              intro h
              have h2 : (K.map Cs.R)[j]'(by rw [List.length_map]; exact hk1) = (N.map Cs.R)[j]'(by rw [List.length_map]; exact hk2) := by simp only [h]
              rw [List.getElem_map, List.getElem_map, HR.out, HS.out] at h2
              exact h1 h2
            subst hqv
            clear HRS
            go_wp2_with fail
            go_ret
            exact ⟨rfl, HB9.out⟩
          · go_wp2_with fail
            go_roundw
            case rel =>
              refine ⟨j + 1, by omega, by go_num, Lib.hid (fun i hi hi2 hij => ?_), HB9.out, HB90.out⟩
              by_cases e : i = j
              · subst e; rw [HR.out, HS.out]; exact of_decide_eq_true HP.out
              · exact HA.out i hi hi2 (by omega)
            case measure => simp [RowKit.intOf]; omega
        · have hqv : res = true := by
            rw [← HRS.out]
            refine decide_eq_true (List.ext_getElem (by rw [List.length_map, List.length_map, HKN.out, HNN.out, HKK.out]) fun i h1 h2 => ?_)
            rw [List.length_map] at h1 h2
            rw [List.getElem_map, List.getElem_map]
            exact HA.out i h1 h2 (by rw [HKN.out] at h1; omega)
          subst hqv
          clear hB HRS
          go_wp2
          go_ret
          exact ⟨rfl, HBj.out⟩
end Go.Proofs.YtpeheppiolfpfaaDoor
