/- Chapter 8: Right, Same. Conditions: what each lemma says. -/
import Derived.Test.YtpeheppiolfpfaaDoorPgB
import Derived.Deep.QuietTactic
set_option linter.unusedVariables false
set_option linter.unusedSimpArgs false
namespace Go.Proofs.YtpeheppiolfpfaaDoor
open Go.RowKit Go.Lib
open Plain (Rg May mayB In Norm In4 slotsOf insB bnd riB cls cnot rightB normB)
set_option maxRecDepth 100000 in
set_option maxHeartbeats 4000000 in
theorem prright_any (I C : Option Addr) (L : List In4) (K : List Cs) (c d : Nat) (g : Int) (w : World) (hP : PgAt w I L C K) :
    Calls Tryd.prog 16 #[pgV I L.length c C K.length d g] w fun e w' => e = .returned (.bool (pgR L K g)) ∧ Below w.heap.size w w' := by
  have hb0 : Below w.heap.size w (w.alloc (.cells #[.slice I L.length c, .slice C K.length d, .int .i64 g] 25)) := (Below.refl _ _).alloc (Nat.le_refl _) _
  have hbox : CellsAt (w.alloc (.cells #[.slice I L.length c, .slice C K.length d, .int .i64 g] 25)) w.heap.size [.slice I L.length c, .slice C K.length d, .int .i64 g] := CellsAt.new w _ _
  have C1 := has31_any L I c w.heap.size I C L.length c K.length d g _ (hP.insts.below hb0) hP.li hbox.1 (hbox.at_ 0 _ rfl) (hbox.at_ 1 _ rfl) (hbox.at_ 2 _ rfl)
  have C2 := Lib.hid (fun W (hb : Below w.heap.size w W) => has32_any K C d W (hP.cls.below hb) hP.lc fun x hx => ⟨(hP.each x hx).1.below hb, (hP.each x hx).2⟩)
  unfold pgR pgV
  obtain ⟨q1, hq1⟩ : ∃ q, (L.any fun t => !riB L.length K.length g t) = q := ⟨_, rfl⟩
  obtain ⟨q2, hq2⟩ : ∃ q, (K.any fun x => badB x.R) = q := ⟨_, rfl⟩
  rw [hq1] at C1 ⊢
  rw [hq2] at C2 ⊢
  have hli := hP.li
  have hlc := hP.lc
  clear hq1 hq2 hP
  have HBOX := Lib.hid hbox
  have HB0 := Lib.hid hb0
  clear hbox hb0
  generalize L.length = n at *
  generalize K.length = m at *
  unfold maxLen at hli hlc
  have HC1 := Lib.hid C1
  clear C1
  obtain ⟨res, hres⟩ : ∃ b, (decide (0 < n) && decide (n ≤ 512) && decide (m ≤ 64) && decide (0 ≤ g) && decide (g ≤ 8) && !q1 && !q2) = b := ⟨_, rfl⟩
  rw [hres]
  have HRES := Lib.hid hres
  clear hres
  go_enter Tryd.func16, Tryd.ntmps16
  by_cases h1 : 0 < n
  case neg =>
    have d1 : decide ((n : Int) > 0) = false := by simp; omega
    go_wp2_with fail
    go_ret
    exact ⟨ret_bool (by rw [← HRES.out, decide_eq_false (show ¬ 0 < n by omega)]; simp), HB0.out⟩
  have d1 : decide ((n : Int) > 0) = true := by simp; omega
  by_cases h2 : n ≤ 512
  case neg =>
    have d2 : decide ((n : Int) ≤ 512) = false := by simp; omega
    go_wp2_with fail
    go_ret
    exact ⟨ret_bool (by rw [← HRES.out, decide_eq_false (show ¬ n ≤ 512 by omega)]; simp), HB0.out⟩
  have d2 : decide ((n : Int) ≤ 512) = true := by simp; omega
  by_cases h3 : m ≤ 64
  case neg =>
    have d3 : decide ((m : Int) ≤ 64) = false := by simp; omega
    go_wp2_with fail
    go_ret
    exact ⟨ret_bool (by rw [← HRES.out, decide_eq_false (show ¬ m ≤ 64 by omega)]; simp), HB0.out⟩
  have d3 : decide ((m : Int) ≤ 64) = true := by simp; omega
  by_cases h4 : 0 ≤ g
  case neg =>
    have d4 : decide (g ≥ 0) = false := by simp; omega
    go_wp2_with fail
    go_ret
    exact ⟨ret_bool (by rw [← HRES.out, decide_eq_false (show ¬ 0 ≤ g by omega)]; simp), HB0.out⟩
  have d4 : decide (g ≥ 0) = true := by simp; omega
  by_cases h5 : g ≤ 8
  case neg =>
    have d5 : decide (g ≤ 8) = false := by simp; omega
    go_wp2_with fail
    go_ret
    exact ⟨ret_bool (by rw [← HRES.out, decide_eq_false (show ¬ g ≤ 8 by omega)]; simp), HB0.out⟩
  have d5 : decide (g ≤ 8) = true := by simp; omega
  have hr : (!q1 && !q2) = res := by
    rw [← HRES.out, decide_eq_true h1, decide_eq_true h2, decide_eq_true h3, decide_eq_true h4, decide_eq_true h5]; rfl
  have HR := Lib.hid hr
  clear hr
  go_wp2_with fail
  refine HC1.out.mono ?_
  rintro e w1 ⟨rfl, hb1⟩
  have HB1 := Lib.hid (below_then HB0.out hb1)
  have HBX := Lib.hid (HBOX.out.below hb1)
  clear hb1
  have x0 := HBX.out.at_ 0 _ rfl
  have x1 := HBX.out.at_ 1 _ rfl
  have x2 := HBX.out.at_ 2 _ rfl
  cases q1
  · go_wp2_with fail
    refine (C2.out _ HB1.out).mono ?_
    rintro e w2 ⟨rfl, hb2⟩
    have HB2 := Lib.hid (below_then HB1.out hb2)
    clear hb2
    go_wp2_with fail
    go_ret
    exact ⟨ret_bool (by rw [← HR.out]; rfl), HB2.out⟩
  · go_wp2_with fail
    go_ret
    exact ⟨ret_bool (by rw [← HR.out]; rfl), HB1.out⟩
end Go.Proofs.YtpeheppiolfpfaaDoor
namespace Go.Proofs.YtpeheppiolfpfaaDoor
open Go.RowKit Go.Lib
open Plain (Rg May mayB In Norm In4 slotsOf insB bnd riB cls cnot rightB normB)
theorem neq84 (a b c d a' b' c' d' : Int) (w : World) : (binOp .neq 30 (.agg #[.int .i64 a, .int .i64 b, .int .i64 c, .int .i64 d]) (.agg #[.int .i64 a', .int .i64 b', .int .i64 c', .int .i64 d'])).run Tryd.prog w = .ok (.bool (!decide ((a, b, c, d) = (a', b', c', d')))) w := by
  have hm : Tryd.prog.fieldsOf 30 = #[{ name := "Op", type := 3, offset := 0, embedded := false, tag := "", pkgPath := "", byteOffset := 0 }, { name := "X", type := 3, offset := 1, embedded := false, tag := "", pkgPath := "", byteOffset := 8 }, { name := "Y", type := 3, offset := 2, embedded := false, tag := "", pkgPath := "", byteOffset := 16 }, { name := "Arg", type := 3, offset := 3, embedded := false, tag := "", pkgPath := "", byteOffset := 24 }] := by kernel_rfl
  rw [run_neq_struct, run_equalIn_agg (d := 9999) w 30 _ _ (by rw [hm]; exact Tryd.underlying30) (by kernel_rfl), hm]
  by_cases h1 : a = a'
  · by_cases h2 : b = b'
    · by_cases h3 : c = c'
      · by_cases h4 : d = d'
        · simp [Op.eqFields, part, go_sem, Tryd.sizeOf3, Tryd.isAgg3, h1, h2, h3, h4]
        · simp [Op.eqFields, part, go_sem, Tryd.sizeOf3, Tryd.isAgg3, h1, h2, h3, h4]
      · simp [Op.eqFields, part, go_sem, Tryd.sizeOf3, Tryd.isAgg3, h1, h2, h3]
    · simp [Op.eqFields, part, go_sem, Tryd.sizeOf3, Tryd.isAgg3, h1, h2]
  · simp [Op.eqFields, part, go_sem, Tryd.sizeOf3, Tryd.isAgg3, h1]
set_option maxRecDepth 100000 in
set_option maxHeartbeats 2000000 in
theorem iequal_any (R S : List In4) (A B : Option Addr) (c d : Nat) (w : World) (hX : Sl w A (i4s R)) (hY : Sl w B (i4s S)) (hn : R.length ≤ maxLen) (hn2 : S.length ≤ maxLen) :
    Calls Tryd.prog 31 #[.slice A R.length c, .slice B S.length d] w fun e w' => e = .returned (.bool (decide (R = S))) ∧ Below w.heap.size w w' := by
  unfold maxLen at hn hn2
  obtain ⟨n, hN⟩ : ∃ n, R.length = n := ⟨_, rfl⟩
  obtain ⟨m, hM⟩ : ∃ m, S.length = m := ⟨_, rfl⟩
  obtain ⟨q, hq⟩ : ∃ q, decide (R = S) = q := ⟨_, rfl⟩
  rw [hN] at hn ⊢
  rw [hM] at hn2 ⊢
  rw [hq]
  have HX := Lib.hid hX
  have HY := Lib.hid hY
  have HN := Lib.hid hN
  have HM := Lib.hid hM
  have HQ := Lib.hid hq
  clear hX hY hN hM hq
  by_cases hnm : n = m
  · have e1 : ((n : Int) != (m : Int)) = false := by rw [hnm]; simp
    have HNM := Lib.hid hnm
    clear hnm
    go_enter Tryd.func31, Tryd.ntmps31
    go_wp2
    go_loopw [5, 13] (fun _ i wr => ∃ k : Nat, k ≤ n ∧ i = .int .i64 k ∧ Hid (∀ j (hj : j < R.length) (hj2 : j < S.length), j < k → R[j] = S[j]) ∧ RowKit.Below w.heap.size w wr) (fun _ i _ => n - (RowKit.intOf i).toNat)
    case atStart => exact ⟨0, Nat.zero_le _, rfl, Lib.hid (fun j _ _ h => absurd h (by omega)), RowKit.Below.refl _ _⟩
    case round =>
      obtain ⟨k, hk, rfl, HA, hB⟩ := hrel
      have HB := Lib.hid hB
      by_cases hlt : k < n
      · have hk1 : k < R.length := by rw [HN.out]; exact hlt
        have hk2 : k < S.length := by rw [HM.out, ← HNM.out]; exact hlt
        have hltm : k < m := by rw [← HNM.out]; exact hlt
        obtain ⟨ba, off, rfl, hba, c0, c1, c2, c3⟩ := i4_at (HX.out.below hB) k hk1
        obtain ⟨bb, off2, rfl, hbb, d0, d1, d2, d3⟩ := i4_at (HY.out.below hB) k hk2
        obtain ⟨r, hr⟩ : ∃ r, R[k] = r := ⟨_, rfl⟩
        obtain ⟨s, hs⟩ : ∃ s, S[k] = s := ⟨_, rfl⟩
        rw [hr] at c0 c1 c2 c3
        rw [hs] at d0 d1 d2 d3
        obtain ⟨a1, a2, a3, a4⟩ := r
        obtain ⟨s1, s2, s3, s4⟩ := s
        dsimp only at c0 c1 c2 c3 d0 d1 d2 d3
        have HR := Lib.hid hr
        have HS := Lib.hid hs
        have hne := neq84 a1 a2 a3 a4 s1 s2 s3 s4
        obtain ⟨p, hp⟩ : ∃ p, decide ((a1, a2, a3, a4) = (s1, s2, s3, s4)) = p := ⟨_, rfl⟩
        rw [hp] at hne
        have HP := Lib.hid hp
        have g0 : (0 : Int) ≤ (k : Int) := by omega
        have g1 : (k : Int) < (n : Int) := by omega
        have g2 : (k : Int) < (m : Int) := by omega
        clear hr hs hp hB
        go_upto_region 6 with fail
        cases p
        · go_quiet (fail)
          have hBd := Lib.hid (below_then HB.out (⟨rfl, rfl, rfl, Nat.le_refl _, fun _ _ => rfl⟩ : RowKit.Below wr.heap.size wr (wr.drewN nq)))
          have hqv : q = false := by
            rw [← HQ.out]
            have h1 := HP.out
            simp only [decide_eq_false_iff_not] at h1 ⊢
            intro h; subst h
            exact h1 (HR.out.symm.trans HS.out)
          subst hqv
          go_wp2
          go_ret
          exact ⟨rfl, hBd.out⟩
        · go_quiet (fail)
          have hBd := Lib.hid (below_then HB.out (⟨rfl, rfl, rfl, Nat.le_refl _, fun _ _ => rfl⟩ : RowKit.Below wr.heap.size wr (wr.drewN nq)))
          go_wp2
          go_roundw
          case rel =>
            refine ⟨k + 1, by omega, by go_num, Lib.hid (fun j hj hj2 hjk => ?_), hBd.out⟩
            by_cases e : j = k
            · subst e; rw [HR.out, HS.out]; exact of_decide_eq_true HP.out
            · exact HA.out j hj hj2 (by omega)
          case measure => simp [RowKit.intOf]; omega
      · have hqv : q = true := by
          rw [← HQ.out]
          refine decide_eq_true (List.ext_getElem (by rw [HN.out, HM.out, HNM.out]) fun j h1 h2 => HA.out j h1 h2 (by rw [HN.out] at h1; omega))
        subst hqv
        clear hB
        go_wp2
        go_ret
        exact ⟨rfl, HB.out⟩
  · have e1 : ((n : Int) != (m : Int)) = true := by simp; omega
    have hqv : q = false := by
      rw [← HQ.out]
      simp only [decide_eq_false_iff_not]
      intro h; subst h
      exact hnm (HN.out.symm.trans HM.out)
    subst hqv
    go_enter Tryd.func31, Tryd.ntmps31
    go_wp2
    go_ret
    exact ⟨rfl, RowKit.Below.refl _ _⟩
end Go.Proofs.YtpeheppiolfpfaaDoor
namespace Go.Proofs.YtpeheppiolfpfaaDoor
open Go.RowKit Go.Lib
open Plain (Rg May mayB In Norm In4 slotsOf insB bnd riB cls cnot rightB normB)
set_option maxRecDepth 100000 in
set_option maxHeartbeats 2000000 in
theorem cequal_any (K M : List Cs) (A B : Option Addr) (c d : Nat) (w : World) (hX : Sl w A (K.map clV)) (hY : Sl w B (M.map clV)) (hn : K.length ≤ maxLen) (hn2 : M.length ≤ maxLen)
    (hK : ∀ x ∈ K, Rs w x.A x.R ∧ x.R.length ≤ maxLen) (hM : ∀ x ∈ M, Rs w x.A x.R ∧ x.R.length ≤ maxLen) :
    Calls Tryd.prog 32 #[.slice A K.length c, .slice B M.length d, .func (Fn.func 33) #[] #[]] w fun e w' => e = .returned (.bool (decide (K.map Cs.R = M.map Cs.R))) ∧ Below w.heap.size w w' := by
  unfold maxLen at hn hn2
  obtain ⟨n, hN⟩ : ∃ n, K.length = n := ⟨_, rfl⟩
  obtain ⟨m, hM'⟩ : ∃ m, M.length = m := ⟨_, rfl⟩
  obtain ⟨q, hq⟩ : ∃ q, decide (K.map Cs.R = M.map Cs.R) = q := ⟨_, rfl⟩
  rw [hN] at hn ⊢
  rw [hM'] at hn2 ⊢
  rw [hq]
  have HX := Lib.hid hX
  have HY := Lib.hid hY
  have HN := Lib.hid hN
  have HM := Lib.hid hM'
  have HQ := Lib.hid hq
  have HK := Lib.hid hK
  have HL := Lib.hid hM
  clear hX hY hN hM' hq hK hM
  by_cases hnm : n = m
  · have e1 : ((n : Int) != (m : Int)) = false := by rw [hnm]; simp
    have HNM := Lib.hid hnm
    clear hnm
    go_enter Tryd.func32, Tryd.ntmps32
    go_wp2
    go_loopw [7, 8, 9, 17] (fun _ _ _ i wr => ∃ k : Nat, k ≤ n ∧ i = .int .i64 k ∧ Hid (∀ j (hj : j < K.length) (hj2 : j < M.length), j < k → K[j].R = M[j].R) ∧ RowKit.Below w.heap.size w wr) (fun _ _ _ i _ => n - (RowKit.intOf i).toNat)
    case atStart => exact ⟨0, Nat.zero_le _, rfl, Lib.hid (fun j _ _ h => absurd h (by omega)), RowKit.Below.refl _ _⟩
    case round =>
      obtain ⟨k, hk, rfl, HA, hB⟩ := hrel
      have HB := Lib.hid hB
      by_cases hlt : k < n
      · have hk1 : k < K.length := by rw [HN.out]; exact hlt
        have hk2 : k < M.length := by rw [HM.out, ← HNM.out]; exact hlt
        have hltm : k < m := by rw [← HNM.out]; exact hlt
        obtain ⟨ba, off, rfl, hba, c0⟩ := cs_at (HX.out.below hB) k hk1
        obtain ⟨bb, off2, rfl, hbb, d0⟩ := cs_at (HY.out.below hB) k hk2
        have hx := HK.out K[k] (List.getElem_mem hk1)
        have hy := HL.out M[k] (List.getElem_mem hk2)
        obtain ⟨r, hr⟩ : ∃ r, K[k] = r := ⟨_, rfl⟩
        obtain ⟨s, hs⟩ : ∃ s, M[k] = s := ⟨_, rfl⟩
        rw [hr] at c0 hx
        rw [hs] at d0 hy
        have cS := same_any r.R s.R r.A s.A r.c s.c wr (hx.1.below hB) (hy.1.below hB) hx.2 hy.2
        unfold clV at c0 d0
        have HR := Lib.hid hr
        have HS := Lib.hid hs
        obtain ⟨p, hp⟩ : ∃ p, decide (r.R = s.R) = p := ⟨_, rfl⟩
        rw [hp] at cS
        have HP := Lib.hid hp
        have HCS := Lib.hid cS
        have g0 : (0 : Int) ≤ (k : Int) := by omega
        have g1 : (k : Int) < (n : Int) := by omega
        have g2 : (k : Int) < (m : Int) := by omega
        clear hr hs hp hB cS hx hy
        obtain ⟨l1, hl1⟩ : ∃ l, r.R.length = l := ⟨_, rfl⟩
        obtain ⟨l2, hl2⟩ : ∃ l, s.R.length = l := ⟨_, rfl⟩
        rw [hl1] at c0 HCS
        rw [hl2] at d0 HCS
        clear hl1 hl2
        go_wp2_with fail
        refine HCS.out.mono ?_
        rintro e w3 ⟨rfl, hb3⟩
        have HB3 := Lib.hid (below_then HB.out hb3)
        clear hb3
        cases p
        · have hqv : q = false := by
            rw [← HQ.out]
            have h1 := HP.out
            simp only [decide_eq_false_iff_not] at h1 ⊢
            intro h
            have h2 : (K.map Cs.R)[k]'(by rw [List.length_map]; exact hk1) = (M.map Cs.R)[k]'(by rw [List.length_map]; exact hk2) := by simp only [h]
            rw [List.getElem_map, List.getElem_map, HR.out, HS.out] at h2
            exact h1 h2
          subst hqv
          go_wp2
          go_ret
          exact ⟨rfl, HB3.out⟩
        · go_wp2
          go_roundw
          case rel =>
            refine ⟨k + 1, by omega, by go_num, Lib.hid (fun j hj hj2 hjk => ?_), HB3.out⟩
            by_cases e : j = k
            · subst e; rw [HR.out, HS.out]; exact of_decide_eq_true HP.out
            · exact HA.out j hj hj2 (by omega)
          case measure => simp [RowKit.intOf]; omega
      · have hqv : q = true := by
          rw [← HQ.out]
          refine decide_eq_true (List.ext_getElem (by rw [List.length_map, List.length_map, HN.out, HM.out, HNM.out]) fun j h1 h2 => ?_)
          rw [List.length_map] at h1 h2
          rw [List.getElem_map, List.getElem_map]
          exact HA.out j h1 h2 (by rw [HN.out] at h1; omega)
        subst hqv
        clear hB
        go_wp2
        go_ret
        exact ⟨rfl, HB.out⟩
  · have e1 : ((n : Int) != (m : Int)) = true := by simp; omega
    have hqv : q = false := by
      rw [← HQ.out]
      simp only [decide_eq_false_iff_not]
      intro h
      have := congrArg List.length h
      rw [List.length_map, List.length_map, HN.out, HM.out] at this
      exact hnm this
    subst hqv
    go_enter Tryd.func32, Tryd.ntmps32
    go_wp2
    go_ret
    exact ⟨rfl, RowKit.Below.refl _ _⟩
def pgS (L M : List In4) (K N : List Cs) (g h : Int) : Bool := g == h && decide (L = M) && decide (K.map Cs.R = N.map Cs.R)
set_option maxRecDepth 100000 in
set_option maxHeartbeats 2000000 in
theorem psame_any (I I2 C C2 : Option Addr) (L M : List In4) (K N : List Cs) (c c2 d d2 : Nat) (g h : Int) (w : World) (hP : PgAt w I L C K) (hQ : PgAt w I2 M C2 N) :
    Calls Tryd.prog 14 #[pgV I L.length c C K.length d g, pgV I2 M.length c2 C2 N.length d2 h] w fun e w' => e = .returned (.bool (pgS L M K N g h)) ∧ Below w.heap.size w w' := by
  unfold pgV pgS
  have C1 := Lib.hid (fun W (hb : Below w.heap.size w W) => iequal_any L M I I2 c c2 W (hP.insts.below hb) (hQ.insts.below hb) hP.li hQ.li)
  have C2' := Lib.hid (fun W (hb : Below w.heap.size w W) => cequal_any K N C C2 d d2 W (hP.cls.below hb) (hQ.cls.below hb) hP.lc hQ.lc (fun x hx => ⟨(hP.each x hx).1.below hb, (hP.each x hx).2⟩) (fun x hx => ⟨(hQ.each x hx).1.below hb, (hQ.each x hx).2⟩))
  have hbx : Below w.heap.size w ((w.alloc (.cells #[.slice I L.length c, .slice C K.length d, .int .i64 g] 25)).alloc (.cells #[.slice I2 M.length c2, .slice C2 N.length d2, .int .i64 h] 25)) := ((Below.refl _ _).alloc (Nat.le_refl _) _).alloc (by simp) _
  have hc1 : CellsAt ((w.alloc (.cells #[.slice I L.length c, .slice C K.length d, .int .i64 g] 25)).alloc (.cells #[.slice I2 M.length c2, .slice C2 N.length d2, .int .i64 h] 25)) w.heap.size [.slice I L.length c, .slice C K.length d, .int .i64 g] := (CellsAt.new w _ _).alloc _
  have hc2 : CellsAt ((w.alloc (.cells #[.slice I L.length c, .slice C K.length d, .int .i64 g] 25)).alloc (.cells #[.slice I2 M.length c2, .slice C2 N.length d2, .int .i64 h] 25)) (w.heap.size + 1) [.slice I2 M.length c2, .slice C2 N.length d2, .int .i64 h] := by
    have h1 := CellsAt.new (w.alloc (.cells #[.slice I L.length c, .slice C K.length d, .int .i64 g] 25)) #[.slice I2 M.length c2, .slice C2 N.length d2, .int .i64 h] 25
    simpa using h1
  obtain ⟨q1, hq1⟩ : ∃ q, decide (L = M) = q := ⟨_, rfl⟩
  obtain ⟨q2, hq2⟩ : ∃ q, decide (K.map Cs.R = N.map Cs.R) = q := ⟨_, rfl⟩
  rw [hq1] at C1 ⊢
  rw [hq2] at C2' ⊢
  have HBX := Lib.hid hbx
  have HC1 := Lib.hid hc1
  have HC2 := Lib.hid hc2
  clear hq1 hq2 hP hQ hbx hc1 hc2
  generalize L.length = n at *
  generalize M.length = m at *
  generalize K.length = kn at *
  generalize N.length = nn at *
  obtain ⟨res, hres⟩ : ∃ b, (g == h && q1 && q2) = b := ⟨_, rfl⟩
  rw [hres]
  have HRES := Lib.hid hres
  clear hres
  go_enter Tryd.func14, Tryd.ntmps14
  by_cases hgh : g = h
  · subst hgh
    go_wp2_with fail
    refine (C1.out _ HBX.out).mono ?_
    rintro e w1 ⟨rfl, hb1⟩
    have HB1 := Lib.hid (below_then HBX.out hb1)
    have x1 := (HC1.out.below hb1).at_ 1 _ rfl
    have y1 := (HC2.out.below hb1).at_ 1 _ rfl
    clear hb1
    cases q1
    · go_wp2_with fail
      go_ret
      exact ⟨ret_bool (by rw [← HRES.out]; simp), HB1.out⟩
    · go_wp2_with fail
      refine (C2'.out _ HB1.out).mono ?_
      rintro e w2 ⟨rfl, hb2⟩
      go_wp2_with fail
      go_ret
      exact ⟨ret_bool (by rw [← HRES.out]; simp), below_then HB1.out hb2⟩
  · have e1 : (g == h) = false := by simp [hgh]
    go_wp2_with fail
    go_ret
    exact ⟨ret_bool (by rw [← HRES.out, e1]; rfl), HBX.out⟩
end Go.Proofs.YtpeheppiolfpfaaDoor
namespace Go.Proofs.YtpeheppiolfpfaaDoor
open Go.RowKit Go.Lib
theorem map_at {α : Type} (f : α → Value) {w : World} {A : Option Addr} (L : List α) (h : Sl w A (L.map f)) (k : Nat) (hk : k < L.length) : ∃ b off, A = some ⟨b, off, none⟩ ∧ b < w.heap.size ∧ w.cell? ⟨b, off + k, none⟩ = some (f L[k]) := by
  obtain ⟨b, off, e, hb, hc⟩ := h (by rw [List.length_map]; omega)
  exact ⟨b, off, e, hb, hc k _ (by rw [List.getElem?_map, List.getElem?_eq_getElem hk]; rfl)⟩
end Go.Proofs.YtpeheppiolfpfaaDoor
