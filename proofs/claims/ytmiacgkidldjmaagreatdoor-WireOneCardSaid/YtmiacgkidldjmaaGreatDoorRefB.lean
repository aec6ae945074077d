/- The document's answers of chapters 8, 10, 11, 12: Right, Put, PutTable; a code's program read. Conditions: what each lemma says. -/
import Derived.Test.YtmiacgkidldjmaaGreatDoorRefA
import Derived.Test.YtmiacgkidldjmaaGreatDoorWireI
set_option linter.unusedVariables false
set_option linter.unusedSimpArgs false
namespace Go.Proofs.YtmiacgkidldjmaaGreatDoor
open Go.RowKit Go.Lib
open Plain (Rg May mayB In Norm In4 slotsOf insB bnd riB rightB getD_lt)
theorem any_true_of {α : Type} (l : List α) (p : α → Bool) (x : α) (hx : x ∈ l) (h : p x = true) : l.any p = true := List.any_eq_true.2 ⟨x, hx, h⟩
set_option maxRecDepth 1000000 in
set_option maxHeartbeats 8000000 in
theorem rpright_any (I C : Option Addr) (L : List In4) (K : List Cs) (c d : Nat) (g : Int) (w : World) (hP : PgAt w I L C K) :
    Calls Tryz.prog 50 #[pgV I L.length c C K.length d g] w fun e w' => e = .returned (.bool (pgR L K g)) ∧ Below w.heap.size w w' := by
  have hb0 : Below w.heap.size w (w.alloc (.cells #[.slice I L.length c, .slice C K.length d, .int .i64 g] 68)) := (Below.refl _ _).alloc (Nat.le_refl _) _
  have hbox : CellsAt (w.alloc (.cells #[.slice I L.length c, .slice C K.length d, .int .i64 g] 68)) w.heap.size [.slice I L.length c, .slice C K.length d, .int .i64 g] := CellsAt.new w _ _
  have hli := hP.li
  have hlc := hP.lc
  unfold maxLen at hli hlc
  unfold pgR pgV
  obtain ⟨q1, hq1⟩ : ∃ q, (L.any fun t => !riB L.length K.length g t) = q := ⟨_, rfl⟩
  obtain ⟨q2, hq2⟩ : ∃ q, (K.any fun x => badB x.R) = q := ⟨_, rfl⟩
  rw [hq1, hq2]
  have HI := Lib.hid hP.insts
  have HC := Lib.hid hP.cls
  have HE := Lib.hid hP.each
  obtain ⟨n, hn⟩ : ∃ x, L.length = x := ⟨_, rfl⟩
  obtain ⟨m, hm⟩ : ∃ x, K.length = x := ⟨_, rfl⟩
  rw [hn] at hq1 hb0 hbox hli
  rw [hm] at hq1 hb0 hbox hlc
  rw [hn, hm]
  have HN := Lib.hid hn
  have HM := Lib.hid hm
  have HQ1 := Lib.hid hq1
  have HQ2 := Lib.hid hq2
  have HB0 := Lib.hid hb0
  have HBOX := Lib.hid hbox
  clear hn hm hq1 hq2 hb0 hbox hP
  obtain ⟨res, hres⟩ : ∃ b, (decide (0 < n) && decide (n ≤ 512) && decide (m ≤ 64) && decide (0 ≤ g) && decide (g ≤ 8) && !q1 && !q2) = b := ⟨_, rfl⟩
  rw [hres]
  have HRES := Lib.hid hres
  clear hres
  go_enter Tryz.func50, Tryz.ntmps50
  obtain ⟨x0, x1, x2⟩ := (⟨HBOX.out.at_ 0 _ rfl, HBOX.out.at_ 1 _ rfl, HBOX.out.at_ 2 _ rfl⟩ : _ ∧ _ ∧ _)
  by_cases h1 : 0 < n
  case neg =>
    have d1 : decide ((n : Int) < 1) = true := decide_eq_true (by omega)
    have d2 : decide (n < 1) = true := decide_eq_true (by omega)
    have hres : res = false := by rw [← HRES.out, decide_eq_false (show ¬ 0 < n by omega)]; simp
    rw [hres]
    clear hres HRES
    go_wp2_with fail
    go_ret
    exact ⟨rfl, HB0.out⟩
  have d1 : decide ((n : Int) < 1) = false := decide_eq_false (by omega)
  have d1n : decide (n < 1) = false := decide_eq_false (by omega)
  by_cases h2 : n ≤ 512
  case neg =>
    have d2 : decide ((n : Int) > 512) = true := decide_eq_true (by omega)
    have d2n : decide (512 < n) = true := decide_eq_true (by omega)
    have hres : res = false := by rw [← HRES.out, decide_eq_false (show ¬ n ≤ 512 by omega)]; simp
    rw [hres]
    clear hres HRES
    go_wp2_with fail
    go_ret
    exact ⟨rfl, HB0.out⟩
  have d2 : decide ((n : Int) > 512) = false := decide_eq_false (by omega)
  have d2n : decide (512 < n) = false := decide_eq_false (by omega)
  by_cases h3 : m ≤ 64
  case neg =>
    have d3 : decide ((m : Int) > 64) = true := decide_eq_true (by omega)
    have d3n : decide (64 < m) = true := decide_eq_true (by omega)
    have hres : res = false := by rw [← HRES.out, decide_eq_false (show ¬ m ≤ 64 by omega)]; simp
    rw [hres]
    clear hres HRES
    go_wp2_with fail
    go_ret
    exact ⟨rfl, HB0.out⟩
  have d3 : decide ((m : Int) > 64) = false := decide_eq_false (by omega)
  have d3n : decide (64 < m) = false := decide_eq_false (by omega)
  by_cases h4 : 0 ≤ g
  case neg =>
    have d4 : decide (g < 0) = true := decide_eq_true (by omega)
    have hres : res = false := by rw [← HRES.out, decide_eq_false (show ¬ 0 ≤ g by omega)]; simp
    rw [hres]
    clear hres HRES
    go_wp2_with fail
    go_ret
    exact ⟨rfl, HB0.out⟩
  have d4 : decide (g < 0) = false := decide_eq_false (by omega)
  by_cases h5 : g ≤ 8
  case neg =>
    have d5 : decide (g > 8) = true := decide_eq_true (by omega)
    have hres : res = false := by rw [← HRES.out, decide_eq_false (show ¬ g ≤ 8 by omega)]; simp
    rw [hres]
    clear hres HRES
    go_wp2_with fail
    go_ret
    exact ⟨rfl, HB0.out⟩
  have d5 : decide (g > 8) = false := decide_eq_false (by omega)
  have hr : (!q1 && !q2) = res := by
    rw [← HRES.out, decide_eq_true h1, decide_eq_true h2, decide_eq_true h3, decide_eq_true h4, decide_eq_true h5]; rfl
  have HR := Lib.hid hr
  clear hr
  obtain ⟨gi, oi, hIe, hgi, hci⟩ := HI.out (by rw [i4s_len, HN.out]; omega)
  subst hIe
  have HCI := Lib.hid hci
  clear hci
  go_wp2_with fail
  clear x0 x1 x2
  obtain ⟨w0, hw0⟩ : ∃ x, w.alloc (.cells #[.slice (some ⟨gi, oi, none⟩) n c, .slice C m d, .int .i64 g] 68) = x := ⟨_, rfl⟩
  rw [hw0] at HB0 HBOX ⊢
  have HW0 := Lib.hid hw0
  clear hw0
  go_loopw [3] (fun i wr => ∃ j : Nat, j ≤ n ∧ i = .int .i64 j ∧ (∀ k, k < j → riB n m g (L.getD k  (0, 0, 0, 0)) = true) ∧ Below w.heap.size w wr ∧ Below w0.heap.size w0 wr) (fun i _ => n - (RowKit.intOf i).toNat)
  case atStart => exact ⟨0, Nat.zero_le _, rfl, fun k hk => absurd hk (by omega), HB0.out, Below.refl _ _⟩
  case round =>
    obtain ⟨j, hj, rfl, hall, hB, hB0⟩ := hrel
    have HB := Lib.hid hB
    have HALL := Lib.hid hall
    have HBX := Lib.hid (HBOX.out.below hB0)
    have HB9 := Lib.hid hB0
    clear hB hB0 hall
    obtain ⟨x0, x1, x2⟩ := (⟨HBX.out.at_ 0 _ rfl, HBX.out.at_ 1 _ rfl, HBX.out.at_ 2 _ rfl⟩ : _ ∧ _ ∧ _)
    have hlw := HBX.out.1
    by_cases hlt : j < n
    · obtain ⟨t, ht⟩ : ∃ t, L.getD j  (0, 0, 0, 0) = t := ⟨_, rfl⟩
      have hget : L[j]? = some t := by rw [← ht, getD_lt L _ j (by rw [HN.out]; exact hlt)]; exact List.getElem?_eq_getElem _
      obtain ⟨u0, u1, u2, u3⟩ := i4s_get _ _ _ hget
      have c0 : wr.cell? ⟨gi, oi + j * 4, none⟩ = some (.int .i64 t.1) := (HB.out.cell (p := ⟨gi, oi + j * 4, none⟩) hgi).trans (HCI.out _ _ u0)
      have c1 : wr.cell? ⟨gi, oi + j * 4 + 1, none⟩ = some (.int .i64 t.2.1) := (HB.out.cell (p := ⟨gi, oi + j * 4 + 1, none⟩) hgi).trans (HCI.out _ _ u1)
      have c2 : wr.cell? ⟨gi, oi + j * 4 + 2, none⟩ = some (.int .i64 t.2.2.1) := (HB.out.cell (p := ⟨gi, oi + j * 4 + 2, none⟩) hgi).trans (HCI.out _ _ u2)
      have c3 : wr.cell? ⟨gi, oi + j * 4 + 3, none⟩ = some (.int .i64 t.2.2.2) := (HB.out.cell (p := ⟨gi, oi + j * 4 + 3, none⟩) hgi).trans (HCI.out _ _ u3)
      have hgw : gi < wr.heap.size := Nat.lt_of_lt_of_le hgi HB.out.size
      obtain ⟨bb, hbb⟩ : ∃ b, riB n m g t = b := ⟨_, rfl⟩
      have cR := fun W => rri_any (some ⟨gi, oi, none⟩) C n c m d g t W
      rw [hbb] at cR
      have HBB := Lib.hid (show riB n m g (L.getD j  (0, 0, 0, 0)) = bb by rw [ht]; exact hbb)
      obtain ⟨t1, t2, t3, t4⟩ := t
      unfold i4V pgV at cR
      dsimp only at c0 c1 c2 c3 cR
      have CR := Lib.hid cR
      have HF := Lib.hid (fun (w' : World) (h : Below wr.heap.size wr w') => (⟨(h.cell (p := ⟨gi, oi + j * 4, none⟩) hgw).trans c0, (h.cell (p := ⟨gi, oi + j * 4 + 1, none⟩) hgw).trans c1, (h.cell (p := ⟨gi, oi + j * 4 + 2, none⟩) hgw).trans c2, (h.cell (p := ⟨gi, oi + j * 4 + 3, none⟩) hgw).trans c3, (HBX.out.below h).at_ 0 _ rfl, (HBX.out.below h).at_ 1 _ rfl, (HBX.out.below h).at_ 2 _ rfl⟩ : _ ∧ _ ∧ _ ∧ _ ∧ _ ∧ _ ∧ _))
      clear hbb cR ht hget u0 u1 u2 u3
      go_upto_region 6 with fail
      clear c0 c1 c2 c3 x0 x1 x2
      have hbd : Below wr.heap.size wr wr.drew := (Below.refl wr.heap.size wr).drew
      obtain ⟨wd, hwd⟩ : ∃ z, wr.drew = z := ⟨_, rfl⟩
      rw [hwd] at hbd
      have HBD := Lib.hid hbd
      clear hbd
      refine wp_region_noPanic ?_
      refine wp_region_T 7 (S := fun w' : World => Below wr.heap.size wr w') (by kernel_rfl) (by decide) ?_
      rw [hwd]
      clear hwd
      refine wpAnyT_take2 0 (v := ?tvq1) (by kernel_rfl) rfl (by kernel_rfl) (fun _ _ _ h => h) (Or.inl ⟨by rfl, ?tyq1⟩) HBD.out ?trq1
      case tyq1 => (intro w' hSw; (try dsimp only at hSw); go_simp; try with_reducible rfl)
      try simp only [Act.put, List.setIfInBounds_toArray, List.set_cons_zero, List.set_cons_succ]
      refine wpAnyT_take2 1 (v := ?tvq2) (by kernel_rfl) rfl (by kernel_rfl) (fun _ _ _ h => h) (Or.inl ⟨by rfl, ?tyq2⟩) HBD.out ?trq2
      case tyq2 => (intro w' hSw; obtain ⟨p0, p1, p2, p3, k0, k1, k2⟩ := HF.out w' hSw; (try dsimp only at hSw); go_simp; try with_reducible rfl)
      try simp only [Act.put, List.setIfInBounds_toArray, List.set_cons_zero, List.set_cons_succ]
      refine wpAnyT_take2 2 (v := ?tvq3) (by kernel_rfl) rfl (by kernel_rfl) (fun _ _ _ h => h) (Or.inl ⟨by rfl, ?tyq3⟩) HBD.out ?trq3
      case tyq3 => (intro w' hSw; (try dsimp only at hSw); go_simp; try with_reducible rfl)
      try simp only [Act.put, List.setIfInBounds_toArray, List.set_cons_zero, List.set_cons_succ]
      refine wpAnyT_take2 3 (v := ?tvq4) (by kernel_rfl) rfl (by kernel_rfl) (fun _ _ _ h => h) (Or.inl ⟨by rfl, ?tyq4⟩) HBD.out ?trq4
      case tyq4 => (intro w' hSw; (try dsimp only at hSw); go_simp; try with_reducible rfl)
      try simp only [Act.put, List.setIfInBounds_toArray, List.set_cons_zero, List.set_cons_succ]
      refine wpAnyT_take2 4 (v := ?tvq5) (by kernel_rfl) rfl (by kernel_rfl) (fun _ _ _ h => h) (Or.inl ⟨by rfl, ?tyq5⟩) HBD.out ?trq5
      case tyq5 => (intro w' hSw; obtain ⟨p0, p1, p2, p3, k0, k1, k2⟩ := HF.out w' hSw; (try dsimp only at hSw); go_simp; try with_reducible rfl)
      try simp only [Act.put, List.setIfInBounds_toArray, List.set_cons_zero, List.set_cons_succ]
      refine wpAnyT_take2 5 (v := ?tvq6) (by kernel_rfl) rfl (by kernel_rfl) (fun _ _ _ h => h) (Or.inl ⟨by rfl, ?tyq6⟩) HBD.out ?trq6
      case tyq6 => (intro w' hSw; obtain ⟨p0, p1, p2, p3, k0, k1, k2⟩ := HF.out w' hSw; (try dsimp only at hSw); go_simp; try with_reducible rfl)
      try simp only [Act.put, List.setIfInBounds_toArray, List.set_cons_zero, List.set_cons_succ]
      refine wpAnyT_one2 6 rfl (by kernel_rfl) ?_
      intro K' hK'
      rw [if_pos (by rfl)]
      have HK := Lib.hid hK'
      clear hK'
      go_wp2_with (go_at_call 100; refine (CR.out _).mono ?_; rintro eq7 wq7 ⟨rfl, hb⟩)
      have HBq7 := Lib.hid (below_then HBD.out hb)
      clear hb
      refine HK.out _ _ ⟨HBq7.out, ?_⟩
      clear HK K'
      try simp only [Act.put, List.setIfInBounds_toArray, List.set_cons_zero, List.set_cons_succ]
      refine ⟨by kernel_rfl, ?_⟩
      change wpList _ _ _ [_] _ _
      go_wp2
      refine NoPanic.normal ?_
      cases bb
      · have hres : res = false := by
          have h1 := any_true_of L (fun t => !riB n m g t) (L.getD j  (0, 0, 0, 0)) (by rw [getD_lt L _ j (by rw [HN.out]; exact hlt)]; exact List.getElem_mem _) (by show (!riB n m g (L.getD j  (0, 0, 0, 0))) = true; rw [HBB.out]; rfl)
          rw [HQ1.out] at h1
          rw [← HRES.out, h1]; simp
        have HRF := Lib.hid hres
        clear hres
        go_wp2_with fail
        go_ret
        exact ⟨by rw [HRF.out]; rfl, below_then HB.out HBq7.out⟩
      · go_wp2_with fail
        go_roundw
        case rel => exact ⟨j + 1, by omega, by go_num, fun k hk => by
            by_cases e : k = j
            · rw [e]; exact HBB.out
            · exact HALL.out k (by omega), below_then HB.out HBq7.out, below_then HB9.out HBq7.out⟩
        case measure => simp [RowKit.intOf]; omega

    · obtain rfl : j = n := by omega
      have hq1 : q1 = false := by
        rw [← HQ1.out, List.any_eq_false]
        intro t ht
        obtain ⟨k, hk, rfl⟩ := List.mem_iff_getElem.1 ht
        have := HALL.out k (by rw [← HN.out]; exact hk)
        rw [getD_lt L _ k hk] at this
        rw [this]; simp
      have hr2 : (!q2) = res := by rw [← HR.out, hq1]; rfl
      have HR2 := Lib.hid hr2
      clear hq1 hr2 HALL HR HRES
      go_wp2_with fail
      clear x0 x1 x2 hlw
      obtain ⟨w1, hw1⟩ : ∃ x, x = wr := ⟨_, rfl⟩
      rw [← hw1] at HB HBX HB9 ⊢
      clear hw1
      go_loopw [4] (fun i wr => ∃ k : Nat, k ≤ m ∧ i = .int .i64 k ∧ (∀ q x, q < k → K[q]? = some x → badB x.R = false) ∧ Below w.heap.size w wr ∧ Below w1.heap.size w1 wr) (fun i _ => m - (RowKit.intOf i).toNat)
      case atStart => exact ⟨0, Nat.zero_le _, rfl, fun q x hq => absurd hq (by omega), HB.out, Below.refl _ _⟩
      case round =>
        obtain ⟨k, hk, rfl, hall, hB, hB1⟩ := hrel
        have HBk := Lib.hid hB
        have HALL := Lib.hid hall
        have HBXk := Lib.hid (HBX.out.below hB1)
        have HB1 := Lib.hid hB1
        clear hB hB1 hall
        obtain ⟨x0, x1, x2⟩ := (⟨HBXk.out.at_ 0 _ rfl, HBXk.out.at_ 1 _ rfl, HBXk.out.at_ 2 _ rfl⟩ : _ ∧ _ ∧ _)
        have hlw := HBXk.out.1
        by_cases hkm : k < m
        · obtain ⟨x, hx⟩ : ∃ x, K[k]? = some x := ⟨_, List.getElem?_eq_getElem (by rw [HM.out]; exact hkm)⟩
          obtain ⟨gc, oc, hCe, hgc, hcc⟩ := HC.out (by rw [List.length_map, HM.out]; omega)
          subst hCe
          have hcl : wr.cell? ⟨gc, oc + k, none⟩ = some (.slice x.A x.R.length x.c) := (HBk.out.cell (p := ⟨gc, oc + k, none⟩) hgc).trans (hcc k _ (by rw [List.getElem?_map, hx]; rfl))
          have hgw : gc < wr.heap.size := Nat.lt_of_lt_of_le hgc HBk.out.size
          have hex := HE.out x (List.mem_of_getElem? hx)
          have cR := rright_any (w := wr) (c := x.c) ⟨hex.1.below HBk.out, rfl, trivial⟩ hex.2
          have HX := Lib.hid hx
          have hxl : x.R.length ≤ 9223372036854775807 := hex.2
          obtain ⟨A, xc, R⟩ := x
          dsimp only at hcl cR hxl
          obtain ⟨rn, hrn⟩ : ∃ y, R.length = y := ⟨_, rfl⟩
          rw [hrn] at hcl cR hxl
          have HRN := Lib.hid hrn
          have CR := Lib.hid cR
          have HCL := Lib.hid hcl
          clear hx hcc hex cR hrn
          go_wp2_with fail
          clear hcl x0 x1 x2
          refine Calls.mono CR.out ?_
          rintro e w2 ⟨b, rfl, hbi, hb2⟩
          obtain ⟨x0, x1, x2⟩ := (⟨(HBXk.out.below hb2).at_ 0 _ rfl, (HBXk.out.below hb2).at_ 1 _ rfl, (HBXk.out.below hb2).at_ 2 _ rfl⟩ : _ ∧ _ ∧ _)
          have hlw2 := (HBXk.out.below hb2).1
          have hcl : w2.cell? ⟨gc, oc + k, none⟩ = some (.slice A rn xc) := (hb2.cell (p := ⟨gc, oc + k, none⟩) hgw).trans HCL.out
          have HBn := Lib.hid (below_then HBk.out hb2)
          have HBI := Lib.hid (hbi.trans (Plain.rightB_iff R).symm)
          have HB2 := Lib.hid hb2
          clear hbi hb2
          have hbad : badB R = (decide (rn = 0) || !Plain.rightB R) := by unfold badB; rw [HRN.out]; rfl
          have HBAD := Lib.hid hbad
          clear hbad
          cases b
          · have hres : res = false := by
              have hrb : Plain.rightB R = false := by cases h : Plain.rightB R; rfl; exact absurd (HBI.out.2 h) (by simp)
              have h1 := any_true_of K (fun x => badB x.R) _ (List.mem_of_getElem? HX.out) (by show badB R = true; rw [HBAD.out, hrb]; simp)
              rw [HQ2.out] at h1
              rw [← HR2.out, h1]; rfl
            have HRF := Lib.hid hres
            clear hres
            go_wp2_with fail
            go_ret
            exact ⟨by rw [HRF.out]; rfl, HBn.out⟩
          · by_cases hz : rn = 0
            · have hres : res = false := by
                have h1 := any_true_of K (fun x => badB x.R) _ (List.mem_of_getElem? HX.out) (by show badB R = true; rw [HBAD.out, decide_eq_true hz]; rfl)
                rw [HQ2.out] at h1
                rw [← HR2.out, h1]; rfl
              have hz2 : ((rn : Int) == 0) = true := by rw [hz]; rfl
              have HRF := Lib.hid hres
              clear hres
              go_wp2_with fail
              go_ret
              exact ⟨by rw [HRF.out]; rfl, HBn.out⟩
            · have hgood : badB R = false := by rw [HBAD.out, decide_eq_false hz, HBI.out.1 rfl]; rfl
              have hz2 : ((rn : Int) == 0) = false := by rw [beq_eq_false_iff_ne]; omega
              have HGD := Lib.hid hgood
              clear hgood
              go_wp2_with fail
              go_roundw
              case rel => exact ⟨k + 1, by omega, by go_num, fun q x hq hx => by
                  by_cases e : q = k
                  · rw [e, HX.out] at hx; injection hx with hx; rw [← hx]; exact HGD.out
                  · exact HALL.out q x (by omega) hx, HBn.out, below_then HB1.out HB2.out⟩
              case measure => simp [RowKit.intOf]; omega
        · obtain rfl : k = m := by omega
          have hq2 : q2 = false := by
            rw [← HQ2.out, List.any_eq_false]
            intro x hx
            obtain ⟨q, hq, rfl⟩ := List.mem_iff_getElem.1 hx
            rw [HALL.out q _ (by rw [← HM.out]; exact hq) (List.getElem?_eq_getElem hq)]; simp
          have hres : res = true := by rw [← HR2.out, hq2]; rfl
          have HRF := Lib.hid hres
          clear hq2 hres
          go_wp2_with fail
          go_ret
          exact ⟨by rw [HRF.out]; rfl, HBk.out⟩
end Go.Proofs.YtmiacgkidldjmaaGreatDoor
namespace Go.Proofs.YtmiacgkidldjmaaGreatDoor
open Go.RowKit Go.Lib
open Plain (Rg May mayB In Norm In4 slotsOf insB bnd riB rightB)
set_option maxRecDepth 100000 in
theorem rputprog_not (I C : Option Addr) (L : List In4) (K : List Cs) (c d : Nat) (g : Int) (w : World) (hP : PgAt w I L C K) (h : pgR L K g = false) :
    Calls Tryz.prog 25 #[pgV I L.length c C K.length d g] w fun e w' => e = .returned (.tuple #[.string ⟨#[]⟩, .bool false]) ∧ Below w.heap.size w w' := by
  have hb0 : Below w.heap.size w (w.alloc (.cells #[.slice I L.length c, .slice C K.length d, .int .i64 g] 68)) := below_alloc (Below.refl _ _) _
  have hR := rpright_any I C L K c d g _ (hP.below hb0)
  rw [h] at hR
  unfold pgV at hR ⊢
  have HR := Lib.hid hR
  have HB0 := Lib.hid hb0
  generalize L.length = n at *
  generalize K.length = m at *
  clear hR hP h hb0
  go_enter Tryz.func25, Tryz.ntmps25
  go_wp2_with fail
  refine HR.out.mono ?_
  rintro e w1 ⟨rfl, hb⟩
  have HB := Lib.hid (below_then HB0.out hb)
  clear hb
  go_wp2_with fail
  go_ret2
  exact ⟨rfl, HB.out⟩
set_option maxRecDepth 1000000 in
set_option maxHeartbeats 8000000 in
theorem rputprog_yes (I C : Option Addr) (L : List In4) (K : List Cs) (c d : Nat) (g : Int) (w : World) (hP : PgAt w I L C K) (h : pgR L K g = true) :
    Calls Tryz.prog 25 #[pgV I L.length c C K.length d g] w fun e w' => e = .returned (.tuple #[.string (str (Plain.progL L (K.map Cs.R) g)), .bool true]) ∧ Below w.heap.size w w' := by
  have hfit := pgR_fits h
  have hlen := Plain.progL_len _ _ _ hfit
  have cR := Lib.hid (fun W hW => rpright_any I C L K c d g W hW)
  have hb0 : Below w.heap.size w (w.alloc (.cells #[.slice I L.length c, .slice C K.length d, .int .i64 g] 68)) := below_alloc (Below.refl _ _) _
  have hbx : (w.alloc (.cells #[.slice I L.length c, .slice C K.length d, .int .i64 g] 68)).heap[w.heap.size]? = some (.cells #[.slice I L.length c, .slice C K.length d, .int .i64 g] 68 (0, 0)) := heap_alloc_new2 _ _ _ _ rfl
  have hR := cR.out _ (hP.below hb0)
  rw [h] at hR
  have hg := hfit.g0
  have hkn := hfit.kn
  rw [List.length_map] at hkn
  have hln := hfit.ln
  have hcl := Plain.classes_len _ hfit.kn hfit.rn
  have hil := Plain.insts_len _ hfit.ln hfit.tn
  obtain ⟨gn, rfl⟩ : ∃ x : Nat, g = x := ⟨g.toNat, by omega⟩
  have hgl := Plain.put_len4 gn (by omega)
  have HFIT := Lib.hid hfit
  have HP := Lib.hid (fun (w' : World) (hb : Below w.heap.size w w') => hP.below hb)
  unfold pgV at hR ⊢
  have HR := Lib.hid hR
  have HB0 := Lib.hid hb0
  have HBX := Lib.hid hbx
  have HLEN := Lib.hid hlen
  have HCL := Lib.hid hcl
  have HIL := Lib.hid hil
  obtain ⟨n, hn⟩ : ∃ x, L.length = x := ⟨_, rfl⟩
  obtain ⟨m, hm⟩ : ∃ x, K.length = x := ⟨_, rfl⟩
  have HN := Lib.hid hn
  have HM := Lib.hid hm
  rw [hn] at hln HR HB0 HBX ⊢
  rw [hm] at hkn HR HB0 HBX ⊢
  have N1 := Lib.hid (fun a W ha => rputi_any a W ha)
  obtain ⟨RES, hRES⟩ : ∃ x, Plain.progL L (K.map Cs.R) gn = x := ⟨_, rfl⟩
  have HRES := Lib.hid hRES
  rw [hRES]
  clear cR hR hP h hb0 hbx hfit hlen hcl hil hn hm hRES
  go_enter Tryz.func25, Tryz.ntmps25
  go_wp2_with fail
  refine HR.out.mono ?_
  rintro e w1 ⟨rfl, hb⟩
  have HB := Lib.hid (below_then HB0.out hb)
  have HBX1 := Lib.hid (blk_later HBX.out hb)
  clear hb HBX HR HB0
  have HX := Lib.hid (fun (w' : World) (h : Below w1.heap.size w1 w') => (⟨blk_cells3 (blk_later HBX1.out h), lt_of_some (blk_later HBX1.out h)⟩ : _ ∧ _))
  obtain ⟨⟨x0, x1, x2⟩, xl⟩ := HX.out w1 (Below.refl _ _)
  go_wp2_with fail
  clear x0 x1 x2 xl
  refine Calls.mono (N1.out m w1 (by omega)) ?_
  rintro e w2 ⟨rfl, hb⟩
  have HB2 := Lib.hid hb
  clear hb
  go_wp2_with fail
  go_loopw [4, 5, 6, 7] (fun s i _ _ wr => ∃ k : Nat, k ≤ m ∧ i = .int .i64 k ∧ s = .string (str (clssP (K.map Cs.R) k)) ∧ RowKit.Below w1.heap.size w1 wr) (fun _ i _ _ _ => m - (RowKit.intOf i).toNat)
  case atStart => exact ⟨0, Nat.zero_le _, rfl, by unfold clssP; rw [List.length_map, HM.out]; simp, HB2.out⟩
  case round =>
    obtain ⟨w0, rfl⟩ : ∃ x, x = wr := ⟨_, rfl⟩
    obtain ⟨k, hk, rfl, rfl, hB⟩ := hrel
    have HBr := Lib.hid hB
    clear hB
    obtain ⟨⟨x0, x1, x2⟩, xl⟩ := HX.out w0 HBr.out
    by_cases hlt : k < m
    · have hkl : k < K.length := by rw [HM.out]; exact hlt
      obtain ⟨b, off, he, hbb, cc⟩ := cs_at ((HP.out w0 (below_then HB.out HBr.out)).cls) k hkl
      subst he
      have hrs := ((HP.out w0 (below_then HB.out HBr.out)).each K[k] (List.getElem_mem _)).1
      have hrn := HFIT.out.rn K[k].R (List.mem_map.2 ⟨_, List.getElem_mem hkl, rfl⟩)
      have hsu := clssP_succ (K.map Cs.R) k (by rw [List.length_map]; exact hkl)
      rw [List.getElem_map] at hsu
      have hpl : (clssP (K.map Cs.R) k).length ≤ 24641 := by
        have h1 := take_len_le Plain.clsL (K.map Cs.R) k
        have h2 := HCL.out
        unfold Plain.classesL at h2
        unfold clssP
        rw [List.length_append] at h2 ⊢; omega
      obtain ⟨⟨RA, rc, R⟩, hx⟩ : ∃ x, K[k] = x := ⟨_, rfl⟩
      rw [hx] at cc hrs hrn hsu
      unfold clV at cc
      dsimp only at cc hrs hrn hsu
      obtain ⟨pre, hpre⟩ : ∃ p, clssP (K.map Cs.R) k = p := ⟨_, rfl⟩
      obtain ⟨nxt, hnxt⟩ : ∃ p, clssP (K.map Cs.R) (k + 1) = p := ⟨_, rfl⟩
      rw [hpre] at hpl
      rw [hpre, hnxt] at hsu
      rw [hpre]
      have hcl6 := Plain.cls_len6 R hrn
      obtain ⟨rn, hRN⟩ : ∃ x, R.length = x := ⟨_, rfl⟩
      have HRN := Lib.hid hRN
      have HRNN := Lib.hid hrn
      have HRS := Lib.hid (fun (w' : World) (hb : Below w0.heap.size w0 w') => hrs.below hb)
      have HSU := Lib.hid hsu
      have HNXT := Lib.hid hnxt
      have HCL6 := Lib.hid hcl6
      have hr64 : rn ≤ 64 := by rw [← hRN]; exact hrn.1
      rw [hRN] at cc
      have HCC := Lib.hid (fun (w' : World) (hb : Below w0.heap.size w0 w') => (hb.cell (p := ⟨b, off + k, none⟩) hbb).trans cc)
      have HOL := Lib.hid hbb
      have hz1 : (str pre).size ≤ 24641 := by rw [str_size]; exact hpl
      have hz2 := put_len10' rn (by omega)
      have hcat : str pre ++ str (Plain.putL rn) = str (pre ++ clsP R 0) := by rw [str_app]; unfold clsP; rw [HRN.out]; simp
      obtain ⟨sp, hsp⟩ : ∃ x, str pre = x := ⟨_, rfl⟩
      rw [hsp] at hz1 hcat
      have HSP := Lib.hid hsp
      rw [hsp]
      obtain ⟨sq, hsq⟩ : ∃ x, str (Plain.putL rn) = x := ⟨_, rfl⟩
      have cN := N1.out rn w0 (by omega)
      rw [hsq] at hz2 hcat cN
      have HCAT := Lib.hid hcat
      have CN := Lib.hid cN
      clear hsu hnxt hpre hcl6 hRN hrn hrs hx hsp hsq hcat cN
      have g1 : ¬ (9223372036854775807 < sp.size + sq.size) := by omega
      go_wp2_with fail
      refine Calls.mono CN.out ?_
      rintro e w3 ⟨rfl, hb⟩
      have HB3 := Lib.hid hb
      clear hb x0 x1 x2 xl cc CN
      go_wp2_with fail
      rw [HCAT.out]
      go_loopw [4, 6, 7] (fun s i _ wr => ∃ j : Nat, j ≤ rn ∧ i = .int .i64 j ∧ s = .string (str (pre ++ clsP R j)) ∧ RowKit.Below w0.heap.size w0 wr) (fun _ i _ _ => rn - (RowKit.intOf i).toNat)
      case atStart => exact ⟨0, Nat.zero_le _, rfl, rfl, HB3.out⟩
      case round =>
        obtain ⟨j, hj, rfl, rfl, hB⟩ := hrel
        obtain ⟨w4, rfl⟩ : ∃ x, x = wr := ⟨_, rfl⟩
        have HB4 := Lib.hid hB
        clear hB
        obtain ⟨⟨x0, x1, x2⟩, xl⟩ := HX.out w4 (below_then HBr.out HB4.out)
        have cc := HCC.out w4 HB4.out
        have lb : b < w4.heap.size := Nat.lt_of_lt_of_le HOL.out HB4.out.size
        by_cases hjl : j < rn
        · have hjR : j < R.length := by rw [HRN.out]; exact hjl
          obtain ⟨rb, ro, he, hrb, c0, c1⟩ := (HRS.out w4 HB4.out).get j hjR
          subst he
          obtain ⟨q0, q1, q2⟩ := HRNN.out.2 R[j] (List.getElem_mem hjR)
          have hsj := clsP_succ R j hjR
          have hjp : (clsP R j).length ≤ 385 := by
            have h1 := take_len_le Plain.rgL R j
            have h2 := HCL6.out
            unfold Plain.clsL at h2
            unfold clsP
            rw [List.length_append] at h2 ⊢; omega
          obtain ⟨⟨lo, hi⟩, hx⟩ : ∃ x, R[j] = x := ⟨_, rfl⟩
          rw [hx] at c0 c1 q0 q1 q2 hsj
          dsimp only at c0 c1 q0 q1 q2
          obtain ⟨l, rfl⟩ : ∃ x : Nat, lo = x := ⟨lo.toNat, by omega⟩
          obtain ⟨h, rfl⟩ : ∃ x : Nat, hi = x := ⟨hi.toNat, by omega⟩
          have hrg : Plain.rgL ((l : Int), (h : Int)) = Plain.putL l ++ Plain.putL (h - l) := by unfold Plain.rgL; dsimp only; rw [Int.toNat_natCast, show ((h : Int) - (l : Int)).toNat = h - l by omega]
          rw [hrg] at hsj
          have hcj : (str (pre ++ clsP R j) ++ str (Plain.putL l)) ++ str (Plain.putL (h - l)) = str (pre ++ clsP R (j + 1)) := by rw [str_app, str_app, hsj]; simp only [List.append_assoc]
          have hz3 : (str (pre ++ clsP R j)).size ≤ 25026 := by rw [str_size, List.length_append]; rw [← HSP.out, str_size] at hz1; omega
          obtain ⟨dd, hdd⟩ : ∃ x, h - l = x := ⟨_, rfl⟩
          rw [hdd] at hcj
          have hz4 := put_len10' l (by omega)
          have hz5 := put_len10' dd (by omega)
          have cL := fun W => N1.out l W (by omega)
          have cD := fun W => N1.out dd W (by omega)
          obtain ⟨sj, hsje⟩ : ∃ x, str (pre ++ clsP R j) = x := ⟨_, rfl⟩
          obtain ⟨sl, hsl⟩ : ∃ x, str (Plain.putL l) = x := ⟨_, rfl⟩
          obtain ⟨sd, hsd⟩ : ∃ x, str (Plain.putL dd) = x := ⟨_, rfl⟩
          rw [hsje, hsl, hsd] at hcj
          rw [hsje] at hz3 ⊢
          rw [hsl] at hz4 cL
          rw [hsd] at hz5 cD
          have HCJ := Lib.hid hcj
          have CL := Lib.hid cL
          have CD := Lib.hid cD
          have g2 : ¬ (9223372036854775807 < sj.size + sl.size) := by omega
          have g3 : ¬ (9223372036854775807 < (sj ++ sl).size + sd.size) := by rw [ByteArray.size_append]; omega
          have g4 : ¬ (9223372036854775807 < sj.size + sl.size + sd.size) := by omega
          have hw1 : IntKind.i32.wrap ((h : Int) - (l : Int)) = (dd : Int) := by rw [IntKind.wrap_i32]; omega
          have hw2 : IntKind.i64.wrap (l : Int) = (l : Int) := by rw [IntKind.wrap_i64]; omega
          have hw3 : IntKind.i64.wrap (dd : Int) = (dd : Int) := by rw [IntKind.wrap_i64]; omega
          clear hx hsj hjp hrg hcj hsje hsl hsd cL cD
          go_upto_region 12 with fail
          have hx5 := heap_alloc_new2 w4 (.cells #[.int .i32 (l : Int), .int .i32 (h : Int)] 117) w4.heap.size _ rfl
          have hb5 := below_alloc (Below.refl w4.heap.size w4) (.cells #[.int .i32 (l : Int), .int .i32 (h : Int)] 117)
          obtain ⟨w5, hw5⟩ : ∃ x, w4.alloc (.cells #[.int .i32 (l : Int), .int .i32 (h : Int)] 117) = x := ⟨_, rfl⟩
          rw [hw5] at hx5 hb5 ⊢
          have HB5 := Lib.hid hb5
          have HF := Lib.hid (fun (w' : World) (hh : Below w5.heap.size w5 w') => (⟨(cells_of (blk_later hx5 hh)).at_ 0 _ rfl, (cells_of (blk_later hx5 hh)).at_ 1 _ rfl⟩ : _ ∧ _))
          have hbd : Below w5.heap.size w5 w5.drew := (Below.refl w5.heap.size w5).drew
          obtain ⟨wd, hwd⟩ : ∃ z, w5.drew = z := ⟨_, rfl⟩
          rw [hwd] at hbd
          have HBD := Lib.hid hbd
          clear hbd hx5 hb5 hw5 c0 c1 cc lb x0 x1 x2 xl
          refine wp_region_noPanic ?_
          refine wp_region_T 14 (S := fun w' : World => Below w5.heap.size w5 w') (by kernel_rfl) (by decide) ?_
          rw [hwd]
          clear hwd
          refine wpAnyT_take2 0 (v := ?tvq1) (by kernel_rfl) rfl (by kernel_rfl) (fun _ _ _ h => h) (Or.inl ⟨by rfl, ?tyq1⟩) HBD.out ?trq1
          case tyq1 => (intro w' hSw; (try dsimp only at hSw); go_simp; try with_reducible rfl)
          try simp only [Act.put, List.setIfInBounds_toArray, List.set_cons_zero, List.set_cons_succ]
          refine wpAnyT_take2 1 (v := ?tvq2) (by kernel_rfl) rfl (by kernel_rfl) (fun _ _ _ h => h) (Or.inl ⟨by rfl, ?tyq2⟩) HBD.out ?trq2
          case tyq2 => (intro w' hSw; (try dsimp only at hSw); go_simp; try with_reducible rfl)
          try simp only [Act.put, List.setIfInBounds_toArray, List.set_cons_zero, List.set_cons_succ]
          refine wpAnyT_take2 2 (v := ?tvq3) (by kernel_rfl) rfl (by kernel_rfl) (fun _ _ _ h => h) (Or.inl ⟨by rfl, ?tyq3⟩) HBD.out ?trq3
          case tyq3 => (intro w' hSw; obtain ⟨p0, p1⟩ := HF.out w' hSw; (try dsimp only at hSw); go_simp; try with_reducible rfl)
          try simp only [Act.put, List.setIfInBounds_toArray, List.set_cons_zero, List.set_cons_succ]
          refine wpAnyT_take2 3 (v := ?tvq4) (by kernel_rfl) rfl (by kernel_rfl) (fun _ _ _ h => h) (Or.inl ⟨by rfl, ?tyq4⟩) HBD.out ?trq4
          case tyq4 => (intro w' hSw; (try dsimp only at hSw); go_simp; try with_reducible rfl)
          try simp only [Act.put, List.setIfInBounds_toArray, List.set_cons_zero, List.set_cons_succ]
          refine wpAnyT_take2 6 (v := ?tvq5) (by kernel_rfl) rfl (by kernel_rfl) (fun _ _ _ h => h) (Or.inl ⟨by rfl, ?tyq5⟩) HBD.out ?trq5
          case tyq5 => (intro w' hSw; (try dsimp only at hSw); go_simp; try with_reducible rfl)
          try simp only [Act.put, List.setIfInBounds_toArray, List.set_cons_zero, List.set_cons_succ]
          refine wpAnyT_take2 7 (v := ?tvq6) (by kernel_rfl) rfl (by kernel_rfl) (fun _ _ _ h => h) (Or.inl ⟨by rfl, ?tyq6⟩) HBD.out ?trq6
          case tyq6 => (intro w' hSw; obtain ⟨p0, p1⟩ := HF.out w' hSw; (try dsimp only at hSw); go_simp; try with_reducible rfl)
          try simp only [Act.put, List.setIfInBounds_toArray, List.set_cons_zero, List.set_cons_succ]
          refine wpAnyT_take2 8 (v := ?tvq7) (by kernel_rfl) rfl (by kernel_rfl) (fun _ _ _ h => h) (Or.inl ⟨by rfl, ?tyq7⟩) HBD.out ?trq7
          case tyq7 => (intro w' hSw; (try dsimp only at hSw); go_simp; try with_reducible rfl)
          try simp only [Act.put, List.setIfInBounds_toArray, List.set_cons_zero, List.set_cons_succ]
          refine wpAnyT_take2 9 (v := ?tvq8) (by kernel_rfl) rfl (by kernel_rfl) (fun _ _ _ h => h) (Or.inl ⟨by rfl, ?tyq8⟩) HBD.out ?trq8
          case tyq8 => (intro w' hSw; obtain ⟨p0, p1⟩ := HF.out w' hSw; (try dsimp only at hSw); go_simp; try with_reducible rfl)
          try simp only [Act.put, List.setIfInBounds_toArray, List.set_cons_zero, List.set_cons_succ]
          refine wpAnyT_take2 10 (v := ?tvq9) (by kernel_rfl) rfl (by kernel_rfl) (fun _ _ _ h => h) (Or.inl ⟨by rfl, ?tyq9⟩) HBD.out ?trq9
          case tyq9 => (intro w' hSw; (try dsimp only at hSw); go_simp; try with_reducible rfl)
          try simp only [Act.put, List.setIfInBounds_toArray, List.set_cons_zero, List.set_cons_succ]
          refine wpAnyT_take2 11 (v := ?tvq10) (by kernel_rfl) rfl (by kernel_rfl) (fun _ _ _ h => h) (Or.inl ⟨by rfl, ?tyq10⟩) HBD.out ?trq10
          case tyq10 => (intro w' hSw; (try dsimp only at hSw); go_simp; try with_reducible rfl)
          try simp only [Act.put, List.setIfInBounds_toArray, List.set_cons_zero, List.set_cons_succ]
          refine wpAnyT_one2 4 rfl (by kernel_rfl) ?_
          intro K' hK'
          rw [if_pos (by rfl)]
          have HK := Lib.hid hK'
          clear hK'
          go_wp2_with (go_at_call 51; refine (CL.out _).mono ?_; rintro eq11 wq11 ⟨rfl, hb⟩)
          have HBq11 := Lib.hid (below_then HBD.out hb)
          clear hb
          refine HK.out _ _ ⟨HBq11.out, ?_⟩
          clear HK K'
          try simp only [Act.put, List.setIfInBounds_toArray, List.set_cons_zero, List.set_cons_succ]
          refine wpAnyT_take2 5 (v := ?tvq12) (by kernel_rfl) rfl (by kernel_rfl) (fun _ _ _ h => h) (Or.inl ⟨by rfl, ?tyq12⟩) HBq11.out ?trq12
          case tyq12 => (intro w' hSw; (try dsimp only at hSw); go_simp; try with_reducible rfl)
          try simp only [Act.put, List.setIfInBounds_toArray, List.set_cons_zero, List.set_cons_succ]
          refine wpAnyT_one2 12 rfl (by kernel_rfl) ?_
          intro K' hK'
          rw [if_pos (by rfl)]
          have HK := Lib.hid hK'
          clear hK'
          go_wp2_with (go_at_call 51; refine (CD.out _).mono ?_; rintro eq13 wq13 ⟨rfl, hb⟩)
          have HBq13 := Lib.hid (below_then HBq11.out hb)
          clear hb
          refine HK.out _ _ ⟨HBq13.out, ?_⟩
          clear HK K'
          try simp only [Act.put, List.setIfInBounds_toArray, List.set_cons_zero, List.set_cons_succ]
          refine wpAnyT_take2 13 (v := ?tvq14) (by kernel_rfl) rfl (by kernel_rfl) (fun _ _ _ h => h) (Or.inl ⟨by rfl, ?tyq14⟩) HBq13.out ?trq14
          case tyq14 => (intro w' hSw; (try dsimp only at hSw); go_simp; try with_reducible rfl)
          try simp only [Act.put, List.setIfInBounds_toArray, List.set_cons_zero, List.set_cons_succ]
          refine ⟨by kernel_rfl, ?_⟩
          change wpList _ _ _ [_] _ _
          go_wp2
          refine NoPanic.normal ?_
          rw [HCJ.out]
          go_wp2_with fail
          go_roundw
          case rel => exact ⟨j + 1, by omega, by go_num, rfl, HB4.out.trans ((below_then HB5.out HBq13.out).mono HB4.out.size)⟩
          case measure => simp [RowKit.intOf]; omega

        · obtain rfl : rn = j := by omega
          have hfin : pre ++ clsP R rn = nxt := by rw [HSU.out, ← HRN.out, clsP_all]
          rw [hfin]
          go_wp2_with fail
          go_roundw
          case rel => exact ⟨k + 1, by omega, by go_num, by rw [HNXT.out], HBr.out.trans (HB4.out.mono HBr.out.size)⟩
          case measure => simp [RowKit.intOf]; omega
    · obtain rfl : m = k := by omega
      have hfin : clssP (K.map Cs.R) m = Plain.classesL (K.map Cs.R) := by rw [← HM.out, ← clssP_all, List.length_map]
      rw [hfin]
      obtain ⟨CLs, hCL⟩ : ∃ x, Plain.classesL (K.map Cs.R) = x := ⟨_, rfl⟩
      have HCLE := Lib.hid hCL
      rw [hCL]
      clear hfin hCL
      go_wp2_with fail
      refine Calls.mono (N1.out n w0 (by omega)) ?_
      rintro e w3 ⟨rfl, hb⟩
      have HB3 := Lib.hid (HBr.out.trans (hb.mono HBr.out.size))
      clear hb x0 x1 x2 xl
      go_wp2_with fail
      go_loopw [8, 9, 10] (fun s i _ wr => ∃ k : Nat, k ≤ n ∧ i = .int .i64 k ∧ s = .string (str (instsP L k)) ∧ RowKit.Below w1.heap.size w1 wr) (fun _ i _ _ => n - (RowKit.intOf i).toNat)
      case atStart => exact ⟨0, Nat.zero_le _, rfl, by unfold instsP; rw [HN.out]; simp, HB3.out⟩
      case round =>
        obtain ⟨w4, rfl⟩ : ∃ x, x = wr := ⟨_, rfl⟩
        obtain ⟨k, hk, rfl, rfl, hB⟩ := hrel
        have HB4 := Lib.hid hB
        clear hB
        obtain ⟨⟨x0, x1, x2⟩, xl⟩ := HX.out w4 HB4.out
        by_cases hlt : k < n
        · have hkl : k < L.length := by rw [HN.out]; exact hlt
          obtain ⟨ib, io, he, hib, c0, c1, c2, c3⟩ := i4_at ((HP.out w4 (below_then HB.out HB4.out)).insts) k hkl
          subst he
          obtain ⟨q0, q1, q2, q3⟩ := HFIT.out.tn L[k] (List.getElem_mem hkl)
          have hsu := instsP_succ L k hkl
          have hpl : (instsP L k).length ≤ 8194 := by
            have h1 := take_len_le Plain.instL L k
            have h2 := HIL.out
            unfold Plain.instsL at h2
            unfold instsP
            rw [List.length_append] at h2 ⊢; omega
          obtain ⟨⟨op, x, y, ar⟩, hx⟩ : ∃ x, L[k] = x := ⟨_, rfl⟩
          rw [hx] at c0 c1 c2 c3 q0 q1 q2 q3 hsu
          dsimp only at c0 c1 c2 c3 q0 q1 q2 q3
          obtain ⟨op, rfl⟩ : ∃ z : Nat, op = z := ⟨op.toNat, by omega⟩
          obtain ⟨x, rfl⟩ : ∃ z : Nat, x = z := ⟨x.toNat, by omega⟩
          obtain ⟨y, rfl⟩ : ∃ z : Nat, y = z := ⟨y.toNat, by omega⟩
          obtain ⟨ar, rfl⟩ : ∃ z : Nat, ar = z := ⟨ar.toNat, by omega⟩
          have hin : Plain.instL ((op : Int), (x : Int), (y : Int), (ar : Int)) = Plain.putL op ++ (Plain.putL x ++ (Plain.putL y ++ Plain.putL ar)) := by unfold Plain.instL; simp only [Int.toNat_natCast]
          rw [hin] at hsu
          have hcj : (((str (instsP L k) ++ str (Plain.putL op)) ++ str (Plain.putL x)) ++ str (Plain.putL y)) ++ str (Plain.putL ar) = str (instsP L (k + 1)) := by rw [str_app, str_app, str_app, str_app, hsu]; simp only [List.append_assoc]
          have hz3 : (str (instsP L k)).size ≤ 8194 := by rw [str_size]; exact hpl
          have hz4 := put_len10' op (by omega)
          have hz5 := put_len10' x (by omega)
          have hz6 := put_len10' y (by omega)
          have hz7 := put_len10' ar (by omega)
          have cA := fun W => N1.out op W (by omega)
          have cB := fun W => N1.out x W (by omega)
          have cC := fun W => N1.out y W (by omega)
          have cD := fun W => N1.out ar W (by omega)
          obtain ⟨sj, hsje⟩ : ∃ z, str (instsP L k) = z := ⟨_, rfl⟩
          obtain ⟨sa, hsa⟩ : ∃ z, str (Plain.putL op) = z := ⟨_, rfl⟩
          obtain ⟨sb, hsb⟩ : ∃ z, str (Plain.putL x) = z := ⟨_, rfl⟩
          obtain ⟨sc, hsc⟩ : ∃ z, str (Plain.putL y) = z := ⟨_, rfl⟩
          obtain ⟨sd, hsd⟩ : ∃ z, str (Plain.putL ar) = z := ⟨_, rfl⟩
          rw [hsje, hsa, hsb, hsc, hsd] at hcj
          rw [hsje] at hz3 ⊢
          rw [hsa] at hz4 cA
          rw [hsb] at hz5 cB
          rw [hsc] at hz6 cC
          rw [hsd] at hz7 cD
          have HCJ := Lib.hid hcj
          have CA := Lib.hid cA
          have CB := Lib.hid cB
          have CC := Lib.hid cC
          have CD := Lib.hid cD
          have g2 : ¬ (9223372036854775807 < sj.size + sa.size) := by omega
          have g3 : ¬ (9223372036854775807 < (sj ++ sa).size + sb.size) := by rw [ByteArray.size_append]; omega
          have g4 : ¬ (9223372036854775807 < ((sj ++ sa) ++ sb).size + sc.size) := by rw [ByteArray.size_append, ByteArray.size_append]; omega
          have g5 : ¬ (9223372036854775807 < (((sj ++ sa) ++ sb) ++ sc).size + sd.size) := by rw [ByteArray.size_append, ByteArray.size_append, ByteArray.size_append]; omega
          have g6 : ¬ (9223372036854775807 < sj.size + sa.size + sb.size) := by omega
          have g7 : ¬ (9223372036854775807 < sj.size + sa.size + sb.size + sc.size) := by omega
          have g8 : ¬ (9223372036854775807 < sj.size + sa.size + sb.size + sc.size + sd.size) := by omega
          clear hx hsu hpl hin hcj hsje hsa hsb hsc hsd cA cB cC cD
          go_upto_region 18 with fail
          have hx5 := heap_alloc_new2 w4 (.cells #[.int .i64 (op : Int), .int .i64 (x : Int), .int .i64 (y : Int), .int .i64 (ar : Int)] 118) w4.heap.size _ rfl
          have hb5 := below_alloc (Below.refl w4.heap.size w4) (.cells #[.int .i64 (op : Int), .int .i64 (x : Int), .int .i64 (y : Int), .int .i64 (ar : Int)] 118)
          obtain ⟨w5, hw5⟩ : ∃ z, w4.alloc (.cells #[.int .i64 (op : Int), .int .i64 (x : Int), .int .i64 (y : Int), .int .i64 (ar : Int)] 118) = z := ⟨_, rfl⟩
          rw [hw5] at hx5 hb5 ⊢
          have HB5 := Lib.hid hb5
          have HF := Lib.hid (fun (w' : World) (hh : Below w5.heap.size w5 w') => (⟨(cells_of (blk_later hx5 hh)).at_ 0 _ rfl, (cells_of (blk_later hx5 hh)).at_ 1 _ rfl, (cells_of (blk_later hx5 hh)).at_ 2 _ rfl, (cells_of (blk_later hx5 hh)).at_ 3 _ rfl⟩ : _ ∧ _ ∧ _ ∧ _))
          have hbd : Below w5.heap.size w5 w5.drew := (Below.refl w5.heap.size w5).drew
          obtain ⟨wd, hwd⟩ : ∃ z, w5.drew = z := ⟨_, rfl⟩
          rw [hwd] at hbd
          have HBD := Lib.hid hbd
          clear hbd hx5 hb5 hw5 c0 c1 c2 c3 x0 x1 x2 xl
          refine wp_region_noPanic ?_
          refine wp_region_T 17 (S := fun w' : World => Below w5.heap.size w5 w') (by kernel_rfl) (by decide) ?_
          rw [hwd]
          clear hwd
          refine wpAnyT_take2 0 (v := ?tvs1) (by kernel_rfl) rfl (by kernel_rfl) (fun _ _ _ h => h) (Or.inl ⟨by rfl, ?tys1⟩) HBD.out ?trs1
          case tys1 => (intro w' hSw; (try dsimp only at hSw); go_simp; try with_reducible rfl)
          try simp only [Act.put, List.setIfInBounds_toArray, List.set_cons_zero, List.set_cons_succ]
          refine wpAnyT_take2 1 (v := ?tvs2) (by kernel_rfl) rfl (by kernel_rfl) (fun _ _ _ h => h) (Or.inl ⟨by rfl, ?tys2⟩) HBD.out ?trs2
          case tys2 => (intro w' hSw; (try dsimp only at hSw); go_simp; try with_reducible rfl)
          try simp only [Act.put, List.setIfInBounds_toArray, List.set_cons_zero, List.set_cons_succ]
          refine wpAnyT_take2 2 (v := ?tvs3) (by kernel_rfl) rfl (by kernel_rfl) (fun _ _ _ h => h) (Or.inl ⟨by rfl, ?tys3⟩) HBD.out ?trs3
          case tys3 => (intro w' hSw; obtain ⟨p0, p1, p2, p3⟩ := HF.out w' hSw; (try dsimp only at hSw); go_simp; try with_reducible rfl)
          try simp only [Act.put, List.setIfInBounds_toArray, List.set_cons_zero, List.set_cons_succ]
          refine wpAnyT_take2 5 (v := ?tvs4) (by kernel_rfl) rfl (by kernel_rfl) (fun _ _ _ h => h) (Or.inl ⟨by rfl, ?tys4⟩) HBD.out ?trs4
          case tys4 => (intro w' hSw; (try dsimp only at hSw); go_simp; try with_reducible rfl)
          try simp only [Act.put, List.setIfInBounds_toArray, List.set_cons_zero, List.set_cons_succ]
          refine wpAnyT_take2 6 (v := ?tvs5) (by kernel_rfl) rfl (by kernel_rfl) (fun _ _ _ h => h) (Or.inl ⟨by rfl, ?tys5⟩) HBD.out ?trs5
          case tys5 => (intro w' hSw; obtain ⟨p0, p1, p2, p3⟩ := HF.out w' hSw; (try dsimp only at hSw); go_simp; try with_reducible rfl)
          try simp only [Act.put, List.setIfInBounds_toArray, List.set_cons_zero, List.set_cons_succ]
          refine wpAnyT_take2 9 (v := ?tvs6) (by kernel_rfl) rfl (by kernel_rfl) (fun _ _ _ h => h) (Or.inl ⟨by rfl, ?tys6⟩) HBD.out ?trs6
          case tys6 => (intro w' hSw; (try dsimp only at hSw); go_simp; try with_reducible rfl)
          try simp only [Act.put, List.setIfInBounds_toArray, List.set_cons_zero, List.set_cons_succ]
          refine wpAnyT_take2 10 (v := ?tvs7) (by kernel_rfl) rfl (by kernel_rfl) (fun _ _ _ h => h) (Or.inl ⟨by rfl, ?tys7⟩) HBD.out ?trs7
          case tys7 => (intro w' hSw; obtain ⟨p0, p1, p2, p3⟩ := HF.out w' hSw; (try dsimp only at hSw); go_simp; try with_reducible rfl)
          try simp only [Act.put, List.setIfInBounds_toArray, List.set_cons_zero, List.set_cons_succ]
          refine wpAnyT_take2 13 (v := ?tvs8) (by kernel_rfl) rfl (by kernel_rfl) (fun _ _ _ h => h) (Or.inl ⟨by rfl, ?tys8⟩) HBD.out ?trs8
          case tys8 => (intro w' hSw; (try dsimp only at hSw); go_simp; try with_reducible rfl)
          try simp only [Act.put, List.setIfInBounds_toArray, List.set_cons_zero, List.set_cons_succ]
          refine wpAnyT_take2 14 (v := ?tvs9) (by kernel_rfl) rfl (by kernel_rfl) (fun _ _ _ h => h) (Or.inl ⟨by rfl, ?tys9⟩) HBD.out ?trs9
          case tys9 => (intro w' hSw; obtain ⟨p0, p1, p2, p3⟩ := HF.out w' hSw; (try dsimp only at hSw); go_simp; try with_reducible rfl)
          try simp only [Act.put, List.setIfInBounds_toArray, List.set_cons_zero, List.set_cons_succ]
          refine wpAnyT_one2 3 rfl (by kernel_rfl) ?_
          intro K' hK'
          rw [if_pos (by rfl)]
          have HK := Lib.hid hK'
          clear hK'
          go_wp2_with (go_at_call 51; refine (CA.out _).mono ?_; rintro es10 ws10 ⟨rfl, hb⟩)
          have HBs10 := Lib.hid (below_then HBD.out hb)
          clear hb
          refine HK.out _ _ ⟨HBs10.out, ?_⟩
          clear HK K'
          try simp only [Act.put, List.setIfInBounds_toArray, List.set_cons_zero, List.set_cons_succ]
          refine wpAnyT_take2 4 (v := ?tvs11) (by kernel_rfl) rfl (by kernel_rfl) (fun _ _ _ h => h) (Or.inl ⟨by rfl, ?tys11⟩) HBs10.out ?trs11
          case tys11 => (intro w' hSw; (try dsimp only at hSw); go_simp; try with_reducible rfl)
          try simp only [Act.put, List.setIfInBounds_toArray, List.set_cons_zero, List.set_cons_succ]
          refine wpAnyT_one2 7 rfl (by kernel_rfl) ?_
          intro K' hK'
          rw [if_pos (by rfl)]
          have HK := Lib.hid hK'
          clear hK'
          go_wp2_with (go_at_call 51; refine (CB.out _).mono ?_; rintro es12 ws12 ⟨rfl, hb⟩)
          have HBs12 := Lib.hid (below_then HBs10.out hb)
          clear hb
          refine HK.out _ _ ⟨HBs12.out, ?_⟩
          clear HK K'
          try simp only [Act.put, List.setIfInBounds_toArray, List.set_cons_zero, List.set_cons_succ]
          refine wpAnyT_take2 8 (v := ?tvs13) (by kernel_rfl) rfl (by kernel_rfl) (fun _ _ _ h => h) (Or.inl ⟨by rfl, ?tys13⟩) HBs12.out ?trs13
          case tys13 => (intro w' hSw; (try dsimp only at hSw); go_simp; try with_reducible rfl)
          try simp only [Act.put, List.setIfInBounds_toArray, List.set_cons_zero, List.set_cons_succ]
          refine wpAnyT_one2 11 rfl (by kernel_rfl) ?_
          intro K' hK'
          rw [if_pos (by rfl)]
          have HK := Lib.hid hK'
          clear hK'
          go_wp2_with (go_at_call 51; refine (CC.out _).mono ?_; rintro es14 ws14 ⟨rfl, hb⟩)
          have HBs14 := Lib.hid (below_then HBs12.out hb)
          clear hb
          refine HK.out _ _ ⟨HBs14.out, ?_⟩
          clear HK K'
          try simp only [Act.put, List.setIfInBounds_toArray, List.set_cons_zero, List.set_cons_succ]
          refine wpAnyT_take2 12 (v := ?tvs15) (by kernel_rfl) rfl (by kernel_rfl) (fun _ _ _ h => h) (Or.inl ⟨by rfl, ?tys15⟩) HBs14.out ?trs15
          case tys15 => (intro w' hSw; (try dsimp only at hSw); go_simp; try with_reducible rfl)
          try simp only [Act.put, List.setIfInBounds_toArray, List.set_cons_zero, List.set_cons_succ]
          refine wpAnyT_one2 15 rfl (by kernel_rfl) ?_
          intro K' hK'
          rw [if_pos (by rfl)]
          have HK := Lib.hid hK'
          clear hK'
          go_wp2_with (go_at_call 51; refine (CD.out _).mono ?_; rintro es16 ws16 ⟨rfl, hb⟩)
          have HBs16 := Lib.hid (below_then HBs14.out hb)
          clear hb
          refine HK.out _ _ ⟨HBs16.out, ?_⟩
          clear HK K'
          try simp only [Act.put, List.setIfInBounds_toArray, List.set_cons_zero, List.set_cons_succ]
          refine wpAnyT_take2 16 (v := ?tvs17) (by kernel_rfl) rfl (by kernel_rfl) (fun _ _ _ h => h) (Or.inl ⟨by rfl, ?tys17⟩) HBs16.out ?trs17
          case tys17 => (intro w' hSw; (try dsimp only at hSw); go_simp; try with_reducible rfl)
          try simp only [Act.put, List.setIfInBounds_toArray, List.set_cons_zero, List.set_cons_succ]
          refine ⟨by kernel_rfl, ?_⟩
          change wpList _ _ _ [_] _ _
          go_wp2
          refine NoPanic.normal ?_
          rw [HCJ.out]
          go_wp2_with fail
          go_roundw
          case rel => exact ⟨k + 1, by omega, by go_num, rfl, HB4.out.trans ((below_then HB5.out HBs16.out).mono HB4.out.size)⟩
          case measure => simp [RowKit.intOf]; omega

        · obtain rfl : n = k := by omega
          have hfin : instsP L n = Plain.instsL L := by rw [← HN.out, instsP_all]
          rw [hfin]
          have hCE := HCLE.out
          have hIL := HIL.out
          have hCLl := HCL.out
          rw [hCE] at hCLl
          have hlen := HLEN.out
          have cB := rblob_any 80 1 (Plain.putL gn) CLs (Plain.instsL L)
          have hres : Plain.blobL 80 1 (Plain.putL gn) CLs (Plain.instsL L) = RES := by rw [← HRES.out, ← hCE]; unfold Plain.progL; rw [Int.toNat_natCast]
          rw [hres] at cB
          rw [HRES.out] at hlen
          have CBL := Lib.hid (fun W => cB W (by decide) (by omega) (by omega) (by omega) (by omega))
          have cG := N1.out gn w4 (by omega)
          obtain ⟨sg, hsg⟩ : ∃ x, str (Plain.putL gn) = x := ⟨_, rfl⟩
          obtain ⟨scl, hscl⟩ : ∃ x, str CLs = x := ⟨_, rfl⟩
          obtain ⟨sil, hsil⟩ : ∃ x, str (Plain.instsL L) = x := ⟨_, rfl⟩
          rw [hsg, hscl, hsil] at CBL
          rw [hsg] at cG
          rw [hscl, hsil]
          have CG := Lib.hid cG
          clear hfin hCE hIL hCLl hlen cB hres cG hsg hscl hsil
          go_wp2_with fail
          refine Calls.mono CG.out ?_
          rintro e w5 ⟨rfl, hb⟩
          have HB5 := Lib.hid (HB4.out.trans (hb.mono HB4.out.size))
          clear hb x0 x1 x2 xl CG
          go_wp2_with fail
          have cF := CBL.out w5
          rw [show str [80] = (⟨#[80]⟩ : ByteArray) from rfl] at cF
          refine Calls.mono cF ?_
          rintro e w6 ⟨rfl, hb⟩
          have HB6 := Lib.hid (HB.out.trans ((HB5.out.trans (hb.mono HB5.out.size)).mono HB.out.size))
          clear hb cF
          go_wp2_with fail
          go_ret2
          exact ⟨rfl, HB6.out⟩
end Go.Proofs.YtmiacgkidldjmaaGreatDoor
namespace Go.Proofs.YtmiacgkidldjmaaGreatDoor
open Go.RowKit Go.Lib
open Plain (Rg May mayB In Norm rightB)
theorem info117 : (Tryz.prog.info? 117).map (fun i => (i.zero, i.size, i.bytes)) = some (some (.agg #[.int .i32 0, .int .i32 0]), 2, 8) := by kernel_rfl
theorem info118 : (Tryz.prog.info? 118).map (fun i => (i.zero, i.size, i.bytes)) = some (some (.agg #[.int .i64 0, .int .i64 0, .int .i64 0, .int .i64 0]), 4, 32) := by kernel_rfl
theorem info116 : (Tryz.prog.info? 116).map (fun i => (i.zero, i.size, i.bytes)) = some (some (.slice none 0 0), 1, 24) := by kernel_rfl
def RowRel (w : World) (n : Nat) (R : List Rg) (v i : Value) (wr : World) : Prop :=
  ∃ k : Nat, k ≤ n ∧ i = .int .i64 k ∧ wr.ownsRow w.heap.size 117 2 v k (rgs (R.take k)) ∧ Below w.heap.size w wr
theorem rclass_any {R : List Rg} {A : Option Addr} {n c : Nat} {w : World} (h : Rs w A R ∧ R.length = n ∧ True) (hn : n * 8 ≤ 140737488355328) : Calls Tryz.prog 53 #[.slice A n c] w fun e w' => ∃ A2 c2, e = .returned (.slice A2 n c2) ∧ w'.ownsRow w.heap.size 117 2 (.slice A2 n c2) n (rgs R) ∧ Below w.heap.size w w' := by
  obtain ⟨i117, hi117, y0, y1, y2⟩ := info_parts info117
  have HX := Lib.hid h.1
  have HR := Lib.hid h.2.1
  clear h
  go_enter Tryz.func53, Tryz.ntmps53
  go_wp2_with fail
  go_loopw [3, 4] (fun v i wr => RowRel w n R v i wr) (fun _ i _ => n - (RowKit.intOf i).toNat)
  case atStart => exact ⟨0, Nat.zero_le _, rfl, World.ownsRow_nil _ _ _ _, Below.refl _ _⟩
  case round =>
    obtain ⟨k, hk, rfl, hO, hB⟩ := hrel
    obtain ⟨ua, uc, rfl⟩ := own_slice hO
    have HO := Lib.hid hO
    have HB := Lib.hid hB
    clear hO hB
    by_cases hlt : k < n
    · have hkl : k < R.length := by rw [HR.out]; exact hlt
      obtain ⟨ba, off, rfl, hba0, d0, d1⟩ := HX.out.get k hkl
      obtain ⟨x, hx⟩ : ∃ x, R[k] = x := ⟨_, rfl⟩
      have hnext : rgs (R.take (k + 1)) = rgs (R.take k) ++ [.int .i32 x.1, .int .i32 x.2] := by
        rw [List.take_succ_eq_append_getElem hkl, hx, rgs_append]; rfl
      rw [hx] at d0 d1
      obtain ⟨lo, hi⟩ := x
      dsimp only at d0 d1 hnext
      have HNX := Lib.hid hnext
      have c0 := (HB.out.cell (p := ⟨ba, off + k * 2, none⟩) hba0).trans d0
      have c1 := (HB.out.cell (p := ⟨ba, off + k * 2 + 1, none⟩) hba0).trans d1
      have hba := Nat.lt_of_lt_of_le hba0 HB.out.size
      have HD0 := Lib.hid d0
      have HD1 := Lib.hid d1
      have HBA0 := Lib.hid hba0
      clear hnext hx d0 d1 hba0
      go_upto_region 5 with fail
      go_region_held3 (fun w' => w'.cell? ⟨ba, off + k * 2, none⟩ = some (.int .i32 lo) ∧ w'.cell? ⟨ba, off + k * 2 + 1, none⟩ = some (.int .i32 hi)) (first | go_keep | exact ⟨(hBn.cell (p := ⟨ba, off + k * 2, none⟩) HBA0.out).trans HD0.out, (hBn.cell (p := ⟨ba, off + k * 2 + 1, none⟩) HBA0.out).trans HD1.out⟩)
        ((rw [if_pos (by rfl)]; refine oper_append_own2 _ (.tmp 11) (.tmp 23) _ rfl w.heap.size 117 i117 _ 2 8 Tryz.underlying116 hi117 y0 y1 y2 rfl (by decide) (.slice ua k uc) k (rgs (R.take k)) rfl (own_below HO.out ((Below.refl _ _).drew.alloc (by simp) _)) ⟨wr.heap.size, 0, none⟩ 1 1 [.int .i32 lo, .int .i32 hi] rfl rfl (CellsAt_add (CellsAt.new wr.drew _ _)) (by intro u hu; simp only [List.mem_cons, List.not_mem_nil, or_false] at hu; rcases hu with rfl | rfl <;> rfl) (by simp only [maxLen]; omega) (by omega) (by have := HB.out.size; simp; omega) ?_; intro v3 w7 hown2 hg2 hvb; have hBn : Below w.heap.size w w7 := ((HB.out.drew).alloc HB.out.size _).grown hg2 (by have := HB.out.size; simp; omega) (fun g hg => (HO.out.lt g hg).1)))
      have HBn := Lib.hid hBn
      have HO7 := Lib.hid hown2
      clear hBn hg2 hown2 hvb c0 c1
      go_wp2
      go_roundw
      case rel =>
        refine ⟨k + 1, by omega, by go_num, ?_, HBn.out⟩
        rw [HNX.out]
        exact HO7.out
      case measure => simp [RowKit.intOf]; omega
    · obtain rfl : k = n := by omega
      have hT : R.take k = R := List.take_of_length_le (by rw [HR.out]; exact Nat.le_refl _)
      have HT := Lib.hid hT
      clear hT
      go_wp2
      go_ret
      refine ⟨ua, uc, rfl, ?_, HB.out⟩
      have h := HO.out
      rw [HT.out] at h
      exact h
end Go.Proofs.YtmiacgkidldjmaaGreatDoor
namespace Go.Proofs.YtmiacgkidldjmaaGreatDoor
open Go.RowKit Go.Lib
open Plain (Rg May mayB In Norm In4 slotsOf insB bnd riB rightB)
/-- a class's own row, of the document's ranges -/
def clsX (x : Cs) : Th := rowT 117 2 (clV x) x.R.length (rgs x.R)
theorem cons_own {W w w' : World} {l : List Th} (h : SepB W w l) (hb : Below w.heap.size w w') {e : TypeId} {size : Nat} {v : Value} {n : Nat} {xs : List Value} (ho : w'.ownsRow w.heap.size e size v n xs) : SepB W w' (rowT e size v n xs :: l) :=
  ⟨h.1.cons hb _ (ok_row.2 (own_base ho h.2.size)) (fun k hk => (ho.lt k (by rw [blk_row] at hk; exact hk)).1), (h.below hb).2⟩
set_option maxRecDepth 1000000 in
set_option maxHeartbeats 8000000 in
theorem rprog_copy (I C : Option Addr) (L : List In4) (K : List Cs) (c d : Nat) (g : Int) (w : World) (hP : PgAt w I L C K) (hI : L.length * 32 ≤ 140737488355328) (hK : K.length * 24 ≤ 140737488355328) (hE : ∀ x ∈ K, x.R.length * 8 ≤ 140737488355328) :
    Calls Tryz.prog 26 #[pgV I L.length c C K.length d g] w fun e w' => ∃ I2 c2 C2 d2 K2, K2.map Cs.R = K.map Cs.R ∧ e = .returned (pgV I2 L.length c2 C2 K2.length d2 g) ∧ PgAt w' I2 L C2 K2 ∧ Below w.heap.size w w' := by
  have HP := Lib.hid (fun (w' : World) (hb : Below w.heap.size w w') => hP.below hb)
  have HE := Lib.hid hE
  obtain ⟨i118, hi118, y0, y1, y2⟩ := info_parts info118
  obtain ⟨i116, hi116, z0, z1, z2⟩ := info_parts info116
  unfold pgV
  obtain ⟨n, hn⟩ : ∃ x, L.length = x := ⟨_, rfl⟩
  obtain ⟨m, hm⟩ : ∃ x, K.length = x := ⟨_, rfl⟩
  have HN := Lib.hid hn
  have HM := Lib.hid hm
  rw [hn] at hI ⊢
  rw [hm] at hK ⊢
  clear hn hm hP hE
  go_enter Tryz.func26, Tryz.ntmps26
  go_wp2_with fail
  have hq := (((SepB.nil w).new #[.slice I n c, .slice C m d, .int .i64 g] 25 (.cells #[.slice I n c, .slice C m d, .int .i64 g] 25)).new #[.slice none 0 0, .slice none 0 0, .int .i64 0] 68 (.cells #[.slice none 0 0, .slice none 0 0, .int .i64 0] 68)).new #[.slice none 0 0, .slice none 0 0, .int .i64 g] 68 (.cells #[.slice none 0 0, .slice none 0 0, .int .i64 g] 68)
  obtain ⟨wz, hwz⟩ : ∃ x, (((w.alloc (.cells #[.slice I n c, .slice C m d, .int .i64 g] 25)).alloc (.cells #[.slice none 0 0, .slice none 0 0, .int .i64 0] 68)).alloc (.cells #[.slice none 0 0, .slice none 0 0, .int .i64 g] 68)) = x := ⟨_, rfl⟩
  simp only [World.size_alloc] at hq
  rw [hwz] at hq ⊢
  obtain ⟨pb, hpb⟩ : ∃ x, w.heap.size = x := ⟨_, rfl⟩
  obtain ⟨tb, htb⟩ : ∃ x, w.heap.size + 1 = x := ⟨_, rfl⟩
  obtain ⟨rb, hrb⟩ : ∃ x, w.heap.size + 1 + 1 = x := ⟨_, rfl⟩
  rw [hrb, htb, hpb] at hq
  rw [hrb, htb, hpb]
  have hq1 := ((hq.empty 118 4).perm (List.perm_append_comm (l₁ := [_]) (l₂ := [_, _, _])))
  have HQ1 := Lib.hid (show SepB w wz [boxT rb #[.slice none 0 0, .slice none 0 0, .int .i64 g] 68, boxT tb #[.slice none 0 0, .slice none 0 0, .int .i64 0] 68, boxT pb #[.slice I n c, .slice C m d, .int .i64 g] 25, rowT 118 4 (.slice none 0 0) 0 []] from hq1)
  have HPB := Lib.hid (And.intro hpb (And.intro htb hrb))
  clear hq hq1 hwz hpb htb hrb
  go_loopw [4, 5] (fun i _ wr => ∃ (j : Nat) (A : Option Addr) (cA : Nat), j ≤ n ∧ i = .int .i64 j ∧ SepB w wr [boxT rb #[.slice A j cA, .slice none 0 0, .int .i64 g] 68, boxT tb #[.slice none 0 0, .slice none 0 0, .int .i64 0] 68, boxT pb #[.slice I n c, .slice C m d, .int .i64 g] 25, rowT 118 4 (.slice A j cA) j (i4s (L.take j))]) (fun i _ _ => n - (RowKit.intOf i).toNat)
  case atStart => exact ⟨0, none, 0, Nat.zero_le _, rfl, by rw [List.take_zero]; exact HQ1.out⟩
  clear HQ1
  case round =>
    obtain ⟨j, A, cA, hj, rfl, hq⟩ := hrel
    have HQ := Lib.hid hq
    clear hq
    obtain ⟨⟨m0, m1, m2⟩, f0, f1⟩ := (⟨blk_cells3 (HQ.out.box 0 _ _ _ rfl).2, blk_frozen (HQ.out.box 0 _ _ _ rfl).2 0, blk_frozen (HQ.out.box 0 _ _ _ rfl).2 1⟩ : _ ∧ _ ∧ _)
    obtain ⟨p0, p1, p2⟩ := blk_cells3 (HQ.out.box 2 _ _ _ rfl).2
    have hlw := lt_of_some (HQ.out.box 0 _ _ _ rfl).2
    have hlp := lt_of_some (HQ.out.box 2 _ _ _ rfl).2
    by_cases hjn : j < n
    · have hkl : j < L.length := by rw [HN.out]; exact hjn
      obtain ⟨ib, io, he, hib, c0, c1, c2, c3⟩ := i4_at ((HP.out wr HQ.out.2).insts) j hkl
      subst he
      have hnx : i4s (L.take (j + 1)) = i4s (L.take j) ++ i4c L[j] := by rw [List.take_succ_eq_append_getElem hkl, i4s_append]; unfold i4s; simp
      obtain ⟨⟨op, x, y, ar⟩, hx⟩ : ∃ x, L[j] = x := ⟨_, rfl⟩
      rw [hx] at c0 c1 c2 c3 hnx
      dsimp only at c0 c1 c2 c3
      have HNX := Lib.hid hnx
      clear hnx hx
      go_upto_region 6 with fail
      have hx5 := heap_alloc_new2 wr (.cells #[.int .i64 (op : Int), .int .i64 x, .int .i64 y, .int .i64 ar] 94) wr.heap.size _ rfl
      have hq5 := HQ.out.alloc (.cells #[.int .i64 (op : Int), .int .i64 x, .int .i64 y, .int .i64 ar] 94)
      obtain ⟨w5, hw5⟩ : ∃ z, wr.alloc (.cells #[.int .i64 (op : Int), .int .i64 x, .int .i64 y, .int .i64 ar] 94) = z := ⟨_, rfl⟩
      rw [hw5] at hx5 hq5 ⊢
      obtain ⟨xb, hxb⟩ : ∃ z, wr.heap.size = z := ⟨_, rfl⟩
      rw [hxb] at hx5 ⊢
      clear hw5 hxb c0 c1 c2 c3 m0 m1 m2 p0 p1 p2 f0 f1 hlw hlp
      have k0 := (cells_of hx5).at_ 0 _ rfl
      have k1 := (cells_of hx5).at_ 1 _ rfl
      have k2 := (cells_of hx5).at_ 2 _ rfl
      have k3 := (cells_of hx5).at_ 3 _ rfl
      have hlx := lt_of_some hx5
      have HQ5 := Lib.hid hq5
      obtain ⟨⟨m0, m1, m2⟩, f0, f1⟩ := (⟨blk_cells3 (HQ5.out.box 0 _ _ _ rfl).2, blk_frozen (HQ5.out.box 0 _ _ _ rfl).2 0, blk_frozen (HQ5.out.box 0 _ _ _ rfl).2 1⟩ : _ ∧ _ ∧ _)
      have hlw := lt_of_some (HQ5.out.box 0 _ _ _ rfl).2
      clear hx5 hq5
      go_wp2_with (at_builtin; refine wpList_append_own2 _ rfl (.tmp 23) (.tmp 33) _ rfl w.heap.size 118 i118 _ 4 32 Tryz.underlying65 hi118 y0 y1 y2 rfl (by decide) (.slice A j cA) j (i4s (L.take j)) rfl ((HQ5.out.alloc _).row 3 _ _ _ _ _ rfl) ⟨w5.heap.size, 0, none⟩ 1 1 [.int .i64 op, .int .i64 x, .int .i64 y, .int .i64 ar] rfl rfl (CellsAt_add (CellsAt.new w5 _ _)) ?c2 ?c3 ?c4 ?c5 ?_)
      case c2 => intro u hu; simp at hu; rcases hu with rfl | rfl | rfl | rfl <;> rfl
      case c3 => unfold maxLen; omega
      case c4 => omega
      case c5 => exact (HQ5.out.alloc _).2.size
      intro va w6 ho hg hv
      have hbx := below_alloc (Below.refl w5.heap.size w5) (.cells #[.int .i64 (op : Int), .int .i64 x, .int .i64 y, .int .i64 ar] 118)
      have hq2 := HQ5.out.push 3 118 4 _ _ _ _ _ _ rfl hbx hg ho (by simpa using hv)
      rw [show i4s (L.take j) ++ [.int .i64 op, .int .i64 x, .int .i64 y, .int .i64 ar] = i4s (L.take (j + 1)) from HNX.out.symm] at hq2 ho
      obtain ⟨gA, cA2, rfl, _⟩ := own_at ho (by omega)
      simp only [List.set_cons_succ, List.set_cons_zero] at hq2
      obtain ⟨⟨m0, m1, m2⟩, f0, f1⟩ := (⟨blk_cells3 (hq2.box 0 _ _ _ rfl).2, blk_frozen (hq2.box 0 _ _ _ rfl).2 0, blk_frozen (hq2.box 0 _ _ _ rfl).2 1⟩ : _ ∧ _ ∧ _)
      have hlw := lt_of_some (hq2.box 0 _ _ _ rfl).2
      have HST := Lib.hid (hq2.store 0 _ _ _ rfl 0 (.slice (some ⟨gA, 0, none⟩) (j + 1) cA2))
      clear hbx ho hg hv hq2 HQ5 k0 k1 k2 k3 hlx
      go_wp2_with fail
      go_roundw
      case rel => exact ⟨j + 1, some ⟨gA, 0, none⟩, cA2, by omega, by go_num, HST.out⟩
      case measure => simp [RowKit.intOf]; omega
    · obtain rfl : n = j := by omega
      have hTL : L.take n = L := List.take_of_length_le (by rw [HN.out]; exact Nat.le_refl _)
      have hq := HQ.out
      rw [hTL] at hq
      have hq3 := (hq.empty 116 1).perm (List.perm_append_comm (l₁ := [_]) (l₂ := [_, _, _, _]))
      have HQ3 := Lib.hid (show SepB w wr [boxT rb #[.slice A n cA, .slice none 0 0, .int .i64 g] 68, boxT tb #[.slice none 0 0, .slice none 0 0, .int .i64 0] 68, boxT pb #[.slice I n c, .slice C m d, .int .i64 g] 25, rowT 118 4 (.slice A n cA) n (i4s L), rowT 116 1 (.slice none 0 0) 0 []] from hq3)
      clear hTL hq hq3 HQ
      go_wp2_with fail
      clear m0 m1 m2 p0 p1 p2 f0 f1 hlw hlp
      go_loopw [6] (fun i wr => ∃ (k : Nat) (B : Option Addr) (dB : Nat) (K2 : List Cs), k ≤ m ∧ i = .int .i64 k ∧ K2.map Cs.R = (K.take k).map Cs.R ∧ K2.length = k ∧ SepB w wr (boxT rb #[.slice A n cA, .slice B k dB, .int .i64 g] 68 :: boxT tb #[.slice none 0 0, .slice none 0 0, .int .i64 0] 68 :: boxT pb #[.slice I n c, .slice C m d, .int .i64 g] 25 :: rowT 118 4 (.slice A n cA) n (i4s L) :: rowT 116 1 (.slice B k dB) k (K2.map clV) :: K2.reverse.map clsX)) (fun i _ => m - (RowKit.intOf i).toNat)
      case atStart => exact ⟨0, none, 0, [], Nat.zero_le _, rfl, rfl, rfl, HQ3.out⟩
      clear HQ3
      case round =>
        obtain ⟨k, B, dB, K2, hk, rfl, hKR, hKl, hq⟩ := hrel
        have HQ := Lib.hid hq
        have HK2 := Lib.hid (And.intro hKl hKR)
        clear hq hKR hKl
        obtain ⟨⟨m0, m1, m2⟩, f0, f1⟩ := (⟨blk_cells3 (HQ.out.box 0 _ _ _ rfl).2, blk_frozen (HQ.out.box 0 _ _ _ rfl).2 0, blk_frozen (HQ.out.box 0 _ _ _ rfl).2 1⟩ : _ ∧ _ ∧ _)
        obtain ⟨p0, p1, p2⟩ := blk_cells3 (HQ.out.box 2 _ _ _ rfl).2
        have hlw := lt_of_some (HQ.out.box 0 _ _ _ rfl).2
        have hlp := lt_of_some (HQ.out.box 2 _ _ _ rfl).2
        by_cases hkm : k < m
        · have hkl : k < K.length := by rw [HM.out]; exact hkm
          obtain ⟨gc, oc, he, hgc, hcc⟩ := (HP.out w (Below.refl _ _)).cls (by rw [List.length_map]; omega)
          subst he
          have hcc2 := hcc k (clV K[k]) (by rw [List.getElem?_map, List.getElem?_eq_getElem hkl]; rfl)
          have hex := (HP.out w (Below.refl _ _)).each K[k] (List.getElem_mem _)
          have hrb8 := HE.out K[k] (List.getElem_mem _)
          have htk : (K.take (k + 1)).map Cs.R = (K.take k).map Cs.R ++ [K[k].R] := by rw [List.take_succ_eq_append_getElem hkl, List.map_append]; rfl
          obtain ⟨⟨RA, xc, R⟩, hx⟩ : ∃ x, K[k] = x := ⟨_, rfl⟩
          rw [hx] at hcc2 hex hrb8 htk
          unfold clV at hcc2
          dsimp only at hcc2 hex hrb8 htk
          obtain ⟨rn, hrn⟩ : ∃ z, R.length = z := ⟨_, rfl⟩
          have HRN := Lib.hid hrn
          rw [hrn] at hcc2 hrb8
          have HTK := Lib.hid htk.symm
          have HGC := Lib.hid hgc
          have HCC := Lib.hid hcc2
          have CK := Lib.hid (fun (W : World) (hb : Below w.heap.size w W) => rclass_any (w := W) (c := xc) (n := rn) ⟨hex.1.below hb, hrn, trivial⟩ hrb8)
          clear hcc hcc2 hex hrb8 htk hx hrn
          go_upto_region 10 with fail
          have hsd := HQ.out.drew
          obtain ⟨wd, hwd⟩ : ∃ z, wr.drew = z := ⟨_, rfl⟩
          rw [hwd] at hsd
          have HSD := Lib.hid hsd
          have HZD := Lib.hid (⟨(cells_of (HSD.out.box 0 _ _ _ rfl).2).at_ 1 _ rfl, (cells_of (HSD.out.box 2 _ _ _ rfl).2).at_ 1 _ rfl, (HSD.out.2.cell (p := ⟨gc, oc + k, none⟩) HGC.out).trans HCC.out⟩ : wd.cell? ⟨rb, 1, none⟩ = some (.slice B k dB) ∧ wd.cell? ⟨pb, 1, none⟩ = some (.slice (some ⟨gc, oc, none⟩) m d) ∧ wd.cell? ⟨gc, oc + k, none⟩ = some (.slice RA rn xc))
          have HF := Lib.hid (fun (w' : World) (h : w'.cell? ⟨rb, 1, none⟩ = some (.slice B k dB) ∧ w'.cell? ⟨pb, 1, none⟩ = some (.slice (some ⟨gc, oc, none⟩) m d) ∧ w'.cell? ⟨gc, oc + k, none⟩ = some (.slice RA rn xc)) => h)
          clear hsd m0 m1 m2 f0 f1 p0 p1 p2 hlw hlp
          refine wp_region_noPanic ?_
          refine wp_region_T 10 (S := fun w' : World => w'.cell? ⟨rb, 1, none⟩ = some (.slice B k dB) ∧ w'.cell? ⟨pb, 1, none⟩ = some (.slice (some ⟨gc, oc, none⟩) m d) ∧ w'.cell? ⟨gc, oc + k, none⟩ = some (.slice RA rn xc)) (by kernel_rfl) (by decide) ?_
          rw [hwd]
          clear hwd
          refine wpAnyT_take2 0 (v := ?tvq1) (by kernel_rfl) rfl (by kernel_rfl) (fun _ _ _ h => h) (Or.inl ⟨by rfl, ?tyq1⟩) HZD.out ?trq1
          case tyq1 => (intro w' hSw; (try dsimp only at hSw); go_simp; try with_reducible rfl)
          try simp only [Act.put, List.setIfInBounds_toArray, List.set_cons_zero, List.set_cons_succ]
          refine wpAnyT_take2 1 (v := ?tvq2) (by kernel_rfl) rfl (by kernel_rfl) (fun _ _ _ h => h) (Or.inl ⟨by rfl, ?tyq2⟩) HZD.out ?trq2
          case tyq2 => (intro w' hSw; obtain ⟨p0, p1, p2⟩ := HF.out w' hSw; (try dsimp only at hSw); go_simp; try with_reducible rfl)
          try simp only [Act.put, List.setIfInBounds_toArray, List.set_cons_zero, List.set_cons_succ]
          refine wpAnyT_take2 2 (v := ?tvq3) (by kernel_rfl) rfl (by kernel_rfl) (fun _ _ _ h => h) (Or.inl ⟨by rfl, ?tyq3⟩) HZD.out ?trq3
          case tyq3 => (intro w' hSw; (try dsimp only at hSw); go_simp; try with_reducible rfl)
          try simp only [Act.put, List.setIfInBounds_toArray, List.set_cons_zero, List.set_cons_succ]
          refine wpAnyT_take2 3 (v := ?tvq4) (by kernel_rfl) rfl (by kernel_rfl) (fun _ _ _ h => h) (Or.inl ⟨by rfl, ?tyq4⟩) HZD.out ?trq4
          case tyq4 => (intro w' hSw; obtain ⟨p0, p1, p2⟩ := HF.out w' hSw; (try dsimp only at hSw); go_simp; try with_reducible rfl)
          try simp only [Act.put, List.setIfInBounds_toArray, List.set_cons_zero, List.set_cons_succ]
          refine wpAnyT_take2 4 (v := ?tvq5) (by kernel_rfl) rfl (by kernel_rfl) (fun _ _ _ h => h) (Or.inl ⟨by rfl, ?tyq5⟩) HZD.out ?trq5
          case tyq5 => (intro w' hSw; (try dsimp only at hSw); go_simp; try with_reducible rfl)
          try simp only [Act.put, List.setIfInBounds_toArray, List.set_cons_zero, List.set_cons_succ]
          refine wpAnyT_take2 5 (v := ?tvq6) (by kernel_rfl) rfl (by kernel_rfl) (fun _ _ _ h => h) (Or.inl ⟨by rfl, ?tyq6⟩) HZD.out ?trq6
          case tyq6 => (intro w' hSw; (try dsimp only at hSw); go_simp; try with_reducible rfl)
          try simp only [Act.put, List.setIfInBounds_toArray, List.set_cons_zero, List.set_cons_succ]
          refine wpAnyT_take2 6 (v := ?tvq7) (by kernel_rfl) rfl (by kernel_rfl) (fun _ _ _ h => h) (Or.inl ⟨by rfl, ?tyq7⟩) HZD.out ?trq7
          case tyq7 => (intro w' hSw; obtain ⟨p0, p1, p2⟩ := HF.out w' hSw; (try dsimp only at hSw); go_simp; try with_reducible rfl)
          try simp only [Act.put, List.setIfInBounds_toArray, List.set_cons_zero, List.set_cons_succ]
          refine wpAnyT_one2 7 rfl (by kernel_rfl) ?_
          intro K' hK'
          rw [if_pos (by rfl)]
          have HK := Lib.hid hK'
          clear hK'
          go_wp2_with (go_at_call 53; refine (CK.out _ HSD.out.2).mono ?_; rintro eq8 wq8 ⟨A2, c2, rfl, ho, hb⟩)
          have HSq8 := Lib.hid (cons_own HSD.out hb ho)
          clear hb ho
          have HZq8 := Lib.hid (⟨(cells_of (HSq8.out.box 1 _ _ _ rfl).2).at_ 1 _ rfl, (cells_of (HSq8.out.box 3 _ _ _ rfl).2).at_ 1 _ rfl, (HSq8.out.2.cell (p := ⟨gc, oc + k, none⟩) HGC.out).trans HCC.out⟩ : _ ∧ _ ∧ _)
          refine HK.out _ _ ⟨HZq8.out, ?_⟩
          clear HK K'
          try simp only [Act.put, List.setIfInBounds_toArray, List.set_cons_zero, List.set_cons_succ]
          refine wpAnyT_one2 8 rfl (by kernel_rfl) ?_
          intro K' hK'
          rw [if_pos (by rfl)]
          have HK := Lib.hid hK'
          clear hK'
          go_simp
          have HSq9 := Lib.hid (HSq8.out.alloc (.cells #[.slice A2 rn c2] 116))
          have HZq9 := Lib.hid (⟨(cells_of (HSq9.out.box 1 _ _ _ rfl).2).at_ 1 _ rfl, (cells_of (HSq9.out.box 3 _ _ _ rfl).2).at_ 1 _ rfl, (HSq9.out.2.cell (p := ⟨gc, oc + k, none⟩) HGC.out).trans HCC.out⟩ : _ ∧ _ ∧ _)
          refine HK.out _ _ ⟨HZq9.out, ?_⟩
          clear HK K'
          try simp only [Act.put, List.setIfInBounds_toArray, List.set_cons_zero, List.set_cons_succ]
          refine wpAnyT_one2 9 rfl (by kernel_rfl) ?_
          intro K' hK'
          rw [if_pos (by rfl)]
          have HK := Lib.hid hK'
          clear hK'
          refine oper_append_own2 _ (.tmp 44) (.tmp 51) _ rfl w.heap.size 116 i116 _ 1 24 Tryz.underlying66 hi116 z0 z1 z2 rfl (by decide) (.slice B k dB) k (K2.map clV) rfl (HSq9.out.row 5 _ _ _ _ _ rfl) ⟨wq8.heap.size, 0, none⟩ 1 1 [.slice A2 rn c2] rfl rfl (CellsAt_add (CellsAt.new wq8 _ _)) (by intro u hu; simp at hu; rcases hu with rfl; rfl) (by unfold maxLen; omega) (by omega) HSq9.out.2.size ?_
          intro va wq10 ho hg hv
          have hq2 := HSq9.out.push 5 116 1 _ _ _ _ _ _ rfl (Below.refl _ _) hg ho hv
          obtain ⟨gB, cB2, rfl, _⟩ := own_at ho (by omega)
          simp only [List.set_cons_succ, List.set_cons_zero] at hq2
          have HSq10 := Lib.hid hq2
          clear ho hg hv hq2
          have HZq10 := Lib.hid (⟨(cells_of (HSq10.out.box 1 _ _ _ rfl).2).at_ 1 _ rfl, (cells_of (HSq10.out.box 3 _ _ _ rfl).2).at_ 1 _ rfl, (HSq10.out.2.cell (p := ⟨gc, oc + k, none⟩) HGC.out).trans HCC.out⟩ : _ ∧ _ ∧ _)
          refine HK.out _ _ ⟨HZq10.out, ?_⟩
          clear HK K'
          try simp only [Act.put, List.setIfInBounds_toArray, List.set_cons_zero, List.set_cons_succ]
          obtain ⟨⟨m0, m1, m2⟩, f1⟩ := (⟨blk_cells3 (HSq10.out.box 1 _ _ _ rfl).2, blk_frozen (HSq10.out.box 1 _ _ _ rfl).2 1⟩ : _ ∧ _)
          have hlw := lt_of_some (HSq10.out.box 1 _ _ _ rfl).2
          have hst := HSq10.out.store 1 rb _ _ rfl 1 (.slice (some ⟨gB, 0, none⟩) (k + 1) cB2)
          have HST := Lib.hid hst
          clear hst
          refine ⟨by kernel_rfl, ?_⟩
          change wpList _ _ _ [_, _] _ _
          go_wp2
          refine NoPanic.normal ?_
          go_wp2_with fail
          go_roundw
          case rel =>
            refine ⟨k + 1, some ⟨gB, 0, none⟩, cB2, K2 ++ [⟨A2, c2, R⟩], by omega, by go_num, by rw [List.map_append, HK2.out.2]; exact HTK.out, by rw [List.length_append, HK2.out.1]; rfl, ?_⟩
            rw [List.map_append, List.reverse_append, List.map_append]
            have hfin : SepB w _ (boxT rb #[.slice A n cA, .slice (some ⟨gB, 0, none⟩) (k + 1) cB2, .int .i64 g] 68 :: boxT tb #[.slice none 0 0, .slice none 0 0, .int .i64 0] 68 :: boxT pb #[.slice I n c, .slice (some ⟨gc, oc, none⟩) m d, .int .i64 g] 25 :: rowT 118 4 (.slice A n cA) n (i4s L) :: rowT 116 1 (.slice (some ⟨gB, 0, none⟩) (k + 1) cB2) (k + 1) (K2.map clV ++ [.slice A2 rn c2]) :: rowT 117 2 (.slice A2 rn c2) rn (rgs R) :: K2.reverse.map clsX) := HST.out.to5
            rw [← HRN.out] at hfin
            exact hfin
          case measure => simp [RowKit.intOf]; omega
        · obtain rfl : m = k := by omega
          have hTK : K.take m = K := List.take_of_length_le (by rw [HM.out]; exact Nat.le_refl _)
          have hkr := HK2.out.2
          rw [hTK] at hkr
          have hPg : ∀ w' T0 T1 T2, SepB w w' (T0 :: T1 :: T2 :: rowT 118 4 (.slice A n cA) n (i4s L) :: rowT 116 1 (.slice B m dB) m (K2.map clV) :: K2.reverse.map clsX) → PgAt w' A L B K2 := fun w' T0 T1 T2 hq => by
            refine ⟨own_SlN (hq.row 3 _ _ _ _ _ rfl) (fun h => by rw [i4s_len, HN.out] at h; omega), own_SlN (hq.row 4 _ _ _ _ _ rfl) (fun h => by rw [List.length_map, HK2.out.1] at h; exact h), fun x hx => ?_, by rw [HN.out]; unfold maxLen; omega, by rw [HK2.out.1]; unfold maxLen; omega⟩
            have ho := hq.1.1 (clsX x) (by simp only [List.mem_cons]; exact .inr (.inr (.inr (.inr (.inr (List.mem_map.2 ⟨x, List.mem_reverse.2 hx, rfl⟩))))))
            unfold clsX clV at ho
            rw [ok_row] at ho
            exact ⟨Rs.of_own ho rfl, own_max ho⟩
          have HPG := Lib.hid hPg
          have HKR := Lib.hid hkr
          obtain ⟨⟨n0, n1, n2⟩, e0, e1⟩ := (⟨blk_cells3 (HQ.out.box 1 _ _ _ rfl).2, blk_frozen (HQ.out.box 1 _ _ _ rfl).2 0, blk_frozen (HQ.out.box 1 _ _ _ rfl).2 1⟩ : _ ∧ _ ∧ _)
          have e2 := blk_frozen (HQ.out.box 1 _ _ _ rfl).2 2
          have hlt := lt_of_some (HQ.out.box 1 _ _ _ rfl).2
          clear hTK hkr hPg
          have hss := ((HQ.out.store 1 tb _ _ rfl 0 (.slice A n cA)).store 1 tb _ _ rfl 1 (.slice B m dB)).store 1 tb _ _ rfl 2 (.int .i64 g)
          have HSS := Lib.hid hss
          obtain ⟨r0, r1, r2⟩ := blk_cells3 (hss.box 1 _ _ _ rfl).2
          clear hss
          go_wp2
          refine bodyPost_ret (v := .agg #[.slice A n cA, .slice B m dB, .int .i64 g]) (by simp [results, Tryz.results26, go_sem, r0, r1, r2]) rfl ⟨A, cA, B, dB, K2, HKR.out, by rw [HK2.out.1], HPG.out _ _ _ _ HSS.out, HSS.out.2⟩
end Go.Proofs.YtmiacgkidldjmaaGreatDoor
namespace Go.Proofs.YtmiacgkidldjmaaGreatDoor
open Go.RowKit Go.Lib
set_option maxRecDepth 100000 in
set_option maxHeartbeats 1000000 in
theorem rparts_any (P : List Int) (A : Option Addr) (cap : Nat) (w : World) (hX : Sl w A (i32s P)) (hn : P.length ≤ maxLen) :
    Calls Tryz.prog 104 #[.slice A P.length cap] w fun e w' => e = .returned (.bool (Plain.partsRight P)) ∧ Below w.heap.size w w' := by
  unfold maxLen at hn
  have HX := Lib.hid hX
  clear hX
  obtain ⟨n, hN⟩ : ∃ n, P.length = n := ⟨_, rfl⟩
  rw [hN] at hn ⊢
  have HNN := Lib.hid hN
  by_cases h0 : n = 0
  · have hv : Plain.partsRight P = false := by unfold Plain.partsRight; rw [hN, h0]; rfl
    rw [hv]; clear hN hv
    subst h0
    go_enter Tryz.func104, Tryz.ntmps104
    go_wp2
    go_ret
    exact ⟨rfl, Below.refl _ _⟩
  have d1 : decide ((n : Int) < 1) = false := decide_eq_false (by omega)
  have d1n : decide (n < 1) = false := decide_eq_false (by omega)
  have hng0 : (n == 0) = false := by simp [h0]
  by_cases h64 : n ≤ 64
  case neg =>
    have hv : Plain.partsRight P = false := by unfold Plain.partsRight; rw [hN]; simp; omega
    have d2 : decide ((n : Int) > 64) = true := decide_eq_true (by omega)
    have d2n : decide (64 < n) = true := decide_eq_true (by omega)
    rw [hv]; clear hN hv
    go_enter Tryz.func104, Tryz.ntmps104
    go_wp2_with fail
    go_ret
    exact ⟨rfl, Below.refl _ _⟩
  have d2 : decide ((n : Int) > 64) = false := decide_eq_false (by omega)
  have d2n : decide (64 < n) = false := decide_eq_false (by omega)
  obtain ⟨b, off, rfl, hb, hc⟩ := HX.out (by rw [i32s, List.length_map]; omega)
  have hget : ∀ k, k < n → w.cell? ⟨b, off + k, none⟩ = some (.int .i32 (P.getD k 0)) := fun k hk => hc k _ (by rw [i32s, List.getElem?_map, List.getElem?_eq_getElem (by omega)]; simp [List.getD, List.getElem?_eq_getElem (show k < P.length by omega)])
  have hg0 := hget 0 (by omega)
  rw [Nat.add_zero] at hg0
  have hgl := hget (n - 1) (by omega)
  obtain ⟨p0, hp0⟩ : ∃ x, P.getD 0 0 = x := ⟨_, rfl⟩
  obtain ⟨pl, hpl⟩ : ∃ x, P.getD (n - 1) 0 = x := ⟨_, rfl⟩
  rw [hp0] at hg0
  rw [hpl] at hgl
  have hval : Plain.partsRight P = ((p0 == 0) && decide (pl ≤ 1114111) && (List.range (n - 1)).all fun k => decide (P.getD k 0 < P.getD (k + 1) 0)) := by
    unfold Plain.partsRight; rw [hN, hp0, hpl, show (n == 0) = false from by simp [h0], show decide (n ≤ 64) = true from by simp [h64]]; rfl
  rw [hval]
  have HP0 := Lib.hid hp0
  have HPL := Lib.hid hpl
  have HG := Lib.hid hget
  clear hp0 hpl hval hN hget hc
  by_cases hz : p0 = 0
  case neg =>
    have dz : (p0 != 0) = true := by simpa using hz
    rw [show (p0 == 0) = false from by simp [hz]]
    go_enter Tryz.func104, Tryz.ntmps104
    go_wp2_with fail
    go_ret
    exact ⟨rfl, Below.refl _ _⟩
  by_cases hm : pl ≤ 1114111
  case neg =>
    subst hz
    have dm : decide (pl > 1114111) = true := decide_eq_true (by omega)
    have dmn : decide (1114111 < pl) = true := decide_eq_true (by omega)
    rw [show decide (pl ≤ 1114111) = false from by simp; omega, Bool.and_false, Bool.false_and]
    go_enter Tryz.func104, Tryz.ntmps104
    go_wp2_with fail
    go_ret
    exact ⟨rfl, Below.refl _ _⟩
  subst hz
  have dm : decide (pl > 1114111) = false := decide_eq_false (by omega)
  have dmn : decide (1114111 < pl) = false := decide_eq_false (by omega)
  rw [show decide (pl ≤ 1114111) = true from by simp; omega]
  simp only [BEq.rfl, Bool.true_and]
  go_enter Tryz.func104, Tryz.ntmps104
  go_wp2_with fail
  go_loopw [3] (fun i wr => ∃ k : Nat, k ≤ n - 1 ∧ i = .int .i64 ((k : Int) + 1) ∧ (∀ j, j < k → P.getD j 0 < P.getD (j + 1) 0) ∧ Below w.heap.size w wr) (fun i _ => n - (RowKit.intOf i).toNat)
  case atStart => exact ⟨0, Nat.zero_le _, rfl, fun j h => absurd h (by omega), Below.refl _ _⟩
  case round =>
    obtain ⟨k, hk, rfl, hall, hB⟩ := hrel
    have HA := Lib.hid hall
    clear hall
    by_cases hlt : k < n - 1
    · have c0 := (hB.cell (p := ⟨b, off + k, none⟩) hb).trans (HG.out k (by omega))
      have c1 := (hB.cell (p := ⟨b, off + (k + 1), none⟩) hb).trans (HG.out (k + 1) (by omega))
      have hl1 : ((k : Int) + 1) < n := by omega
      obtain ⟨x, hx⟩ : ∃ x, P.getD k 0 = x := ⟨_, rfl⟩
      obtain ⟨y, hy⟩ : ∃ x, P.getD (k + 1) 0 = x := ⟨_, rfl⟩
      rw [hx] at c0
      rw [hy] at c1
      have HX := Lib.hid hx
      have HY := Lib.hid hy
      clear hx hy
      by_cases hxy : x < y
      · have hd : decide (y ≤ x) = false := decide_eq_false (by omega)
        go_upto_region 6 with fail
        go_quiet (fail)
        go_wp2_with fail
        go_roundw
        case rel =>
          refine ⟨k + 1, by omega, by go_num, fun j hj => ?_, below_drewN hB _⟩
          rcases Nat.lt_or_ge j k with h | h
          · exact HA.out j h
          · obtain rfl : j = k := by omega
            rw [HX.out, HY.out]; exact hxy
        case measure => simp [RowKit.intOf]; omega
      · have hd : decide (y ≤ x) = true := decide_eq_true (by omega)
        have hv : ((List.range (n - 1)).all fun k => decide (P.getD k 0 < P.getD (k + 1) 0)) = false := by
          rw [List.all_eq_false]
          exact ⟨k, List.mem_range.2 hlt, by rw [HX.out, HY.out]; simpa using hxy⟩
        have HV := Lib.hid hv
        clear hv
        go_upto_region 6 with fail
        go_quiet (fail)
        go_wp2_with fail
        go_ret
        exact ⟨ret_bool HV.out.symm, below_drewN hB _⟩
    · obtain rfl : k = n - 1 := by omega
      have hl1 : ((n - 1 : Nat) : Int) + 1 = n := by omega
      have hv : ((List.range (n - 1)).all fun k => decide (P.getD k 0 < P.getD (k + 1) 0)) = true := by
        rw [List.all_eq_true]
        exact fun j hj => by simpa using HA.out j (List.mem_range.1 hj)
      have HV := Lib.hid hv
      clear hv
      go_wp2_with fail
      go_ret
      exact ⟨ret_bool HV.out.symm, hB⟩
end Go.Proofs.YtmiacgkidldjmaaGreatDoor
namespace Go.Proofs.YtmiacgkidldjmaaGreatDoor
open Go.RowKit Go.Lib
set_option maxRecDepth 100000 in
set_option maxHeartbeats 2000000 in
theorem rtab_any (PA : Option Addr) (P : List Int) (pc : Nat) (NA : Option Addr) (R : List Row) (nc : Nat) (AA : Option Addr) (C : List Bool) (ac : Nat) (w : World) (hT : TabAt w PA P NA R AA C) :
    Calls Tryz.prog 54 #[tabV PA P pc NA R nc AA C ac] w fun e w' => e = .returned (.bool (Plain.tabRight P (nums R) C.length)) ∧ Below w.heap.size w w' := by
  unfold tabV Plain.tabRight
  have cP := fun (W : World) (h : Sl W PA (i32s P)) => rparts_any P PA pc W h hT.lp
  obtain ⟨lp, lr, la⟩ := And.intro hT.lp (And.intro hT.lr hT.la)
  rw [show (nums R).length = R.length from by simp [nums]]
  obtain ⟨p, hp⟩ : ∃ p, P.length = p := ⟨_, rfl⟩
  obtain ⟨m, hm⟩ : ∃ m, R.length = m := ⟨_, rfl⟩
  obtain ⟨a, ha⟩ : ∃ a, C.length = a := ⟨_, rfl⟩
  obtain ⟨q1, hq1⟩ : ∃ q, Plain.partsRight P = q := ⟨_, rfl⟩
  obtain ⟨q2, hq2⟩ : ∃ q, (nums R).any (Plain.rowWrong P.length R.length) = q := ⟨_, rfl⟩
  simp only [hq1, hp, hm, ha] at cP lp lr la ⊢
  rw [hp, hm] at hq2
  rw [hq2]
  have HT := Lib.hid hT
  have HP := Lib.hid cP
  have HM := Lib.hid hm
  have HQ2 := Lib.hid hq2
  unfold maxLen at lp lr la
  obtain ⟨res, hres⟩ : ∃ b, (q1 && (m == a) && decide (0 < m) && decide (m ≤ 64) && !q2) = b := ⟨_, rfl⟩
  rw [hres]
  have HRES := Lib.hid hres
  clear hT cP hp hm ha hq1 hq2 hres
  go_enter Tryz.func54, Tryz.ntmps54
  go_wp2_with fail
  refine (HP.out _ (HT.out.parts.below ((Below.refl _ _).alloc (Nat.le_refl _) _))).mono ?_
  rintro e w1 ⟨rfl, hb1⟩
  have hB1 : Below w.heap.size w w1 := ((Below.refl _ _).alloc (Nat.le_refl _) _).trans (hb1.mono (by simp))
  have hlt1 : w.heap.size < w1.heap.size := Nat.lt_of_lt_of_le (by simp) hb1.size
  have k0 := (hb1.cell (p := ⟨w.heap.size, 0, none⟩) (by simp)).trans ((CellsAt.new w _ _).at_ 0 (.slice PA p pc) rfl)
  have k1 := (hb1.cell (p := ⟨w.heap.size, 1, none⟩) (by simp)).trans ((CellsAt.new w _ _).at_ 1 (.slice NA m nc) rfl)
  have k2 := (hb1.cell (p := ⟨w.heap.size, 2, none⟩) (by simp)).trans ((CellsAt.new w _ _).at_ 2 (.slice AA a ac) rfl)
  have HT1 := Lib.hid (HT.out.below hB1)
  have HB1 := Lib.hid hB1
  clear HT HP hb1 hB1
  obtain ⟨g, hg⟩ : ∃ g, w.heap.size = g := ⟨_, rfl⟩
  have HG := Lib.hid hg
  rw [hg] at hlt1 k0 k1 k2 ⊢
  clear hg
  have HK := Lib.hid (fun (w' : World) (h : Below w1.heap.size w1 w') => (⟨(h.cell (p := ⟨g, 0, none⟩) hlt1).trans k0, (h.cell (p := ⟨g, 1, none⟩) hlt1).trans k1⟩ : _ ∧ _))
  cases hq1 : q1
  · subst hq1
    have hres : res = false := by rw [← HRES.out]; simp
    subst hres; clear HRES
    go_wp2_with fail
    go_ret
    exact ⟨rfl, HB1.out⟩
  subst hq1
  by_cases hma : m = a
  case neg =>
    have e1 : ((m : Int) != (a : Int)) = true := by simp; omega
    have hres : res = false := by rw [← HRES.out, show (m == a) = false from by simp [hma]]; simp
    subst hres; clear HRES
    go_wp2_with fail
    go_ret
    exact ⟨rfl, HB1.out⟩
  subst hma
  by_cases n0 : 0 < m
  case neg =>
    have hres : res = false := by rw [← HRES.out, decide_eq_false n0]; simp
    subst hres; clear HRES
    have d1 : decide ((m : Int) < 1) = true := decide_eq_true (by omega)
    have d1n : decide (m < 1) = true := decide_eq_true (by omega)
    go_wp2_with fail
    go_ret
    exact ⟨rfl, HB1.out⟩
  have d1 : decide ((m : Int) < 1) = false := decide_eq_false (by omega)
  have d1n : decide (m < 1) = false := decide_eq_false (by omega)
  by_cases n64 : m ≤ 64
  case neg =>
    have hres : res = false := by rw [← HRES.out, decide_eq_false n64]; simp
    subst hres; clear HRES
    have d2 : decide ((m : Int) > 64) = true := decide_eq_true (by omega)
    have d2n : decide (64 < m) = true := decide_eq_true (by omega)
    go_wp2_with fail
    go_ret
    exact ⟨rfl, HB1.out⟩
  have d2 : decide ((m : Int) > 64) = false := decide_eq_false (by omega)
  have d2n : decide (64 < m) = false := decide_eq_false (by omega)
  have hr : (!q2) = res := by rw [← HRES.out, decide_eq_true n0, decide_eq_true n64]; simp
  have HR := Lib.hid hr
  obtain ⟨nb, no, hNA, hnb, hnc⟩ := HT1.out.rows (by rw [List.length_map, HM.out]; exact n0)
  subst hNA
  have HNC := Lib.hid hnc
  clear hr HRES hnc
  go_wp2_with fail
  clear k0 k1 k2
  go_loopw [3, 4] (fun i _ wr => ∃ j : Nat, j ≤ m ∧ i = .int .i64 j ∧ (∀ k, k < j → Plain.rowWrong p m ((nums R).getD k []) = false) ∧ RowKit.Below w1.heap.size w1 wr) (fun i _ _ => m - (RowKit.intOf i).toNat)
  case atStart => exact ⟨0, Nat.zero_le _, rfl, fun k hk => absurd hk (by omega), Below.refl _ _⟩
  case round =>
    obtain ⟨wo, rfl⟩ : ∃ x, x = wr := ⟨_, rfl⟩
    obtain ⟨j, hj, rfl, hall, hB⟩ := hrel
    have HB := Lib.hid hB
    have HALL := Lib.hid hall
    clear hB hall
    obtain ⟨x0, x1⟩ := HK.out wo HB.out
    have hgw : g < wo.heap.size := Nat.lt_of_lt_of_le hlt1 HB.out.size
    by_cases hlt : j < m
    · obtain ⟨r, hr⟩ : ∃ r, R[j]? = some r := ⟨_, List.getElem?_eq_getElem (by rw [HM.out]; exact hlt)⟩
      have cr := (HB.out.cell (p := ⟨nb, no + j, none⟩) hnb).trans (HNC.out j (rowV r) (by rw [List.getElem?_map, hr]; rfl))
      have hn : (nums R).getD j [] = r.2.2 := by unfold nums; rw [List.getD_eq_getElem?_getD, List.getElem?_map, hr]; rfl
      obtain ⟨hrs, hrl⟩ := HT1.out.row r (List.mem_of_getElem? hr)
      obtain ⟨RA, rc, L⟩ := r
      unfold rowV at cr
      have HCR := Lib.hid (HNC.out j (.slice RA L.length rc) (by rw [List.getElem?_map, hr]; rfl))
      dsimp only at cr hn hrs hrl
      have HN := Lib.hid hn
      have HRS := Lib.hid hrs
      obtain ⟨l, hl⟩ : ∃ l, L.length = l := ⟨_, rfl⟩
      rw [hl] at cr hrl HCR
      unfold maxLen at hrl
      have HL := Lib.hid hl
      have hin : (nums R)[j]? = some L := by unfold nums; rw [List.getElem?_map, hr]; rfl
      have HIN := Lib.hid hin
      clear hr hn hrs hl hin
      have hbad : Plain.rowWrong p m L = true → res = false := fun h => by
        rw [← HR.out, ← HQ2.out, List.any_eq_true.2 ⟨L, List.mem_of_getElem? HIN.out, h⟩]; rfl
      have HBAD := Lib.hid hbad
      clear hbad
      by_cases hlp : l = p
      case neg =>
        have e1 : ((l : Int) != (p : Int)) = true := by simp; omega
        have hres := HBAD.out (by unfold Plain.rowWrong; rw [HL.out, show (l == p) = false from by simp [hlp]]; rfl)
        have HRF := Lib.hid hres
        clear hres
        go_upto_region 6 with fail
        go_quiet (fail)
        go_wp2_with fail
        go_ret
        exact ⟨by rw [HRF.out]; rfl, below_drewN (below_then HB1.out HB.out) _⟩
      subst hlp
      go_upto_region 6 with fail
      go_quiet (fail)
      go_wp2_with fail
      go_loopw [4] (fun i wi => ∃ k : Nat, k ≤ l ∧ i = .int .i64 k ∧ (∀ x, x < k → (decide (L.getD x 0 < 0) || decide ((m : Int) ≤ L.getD x 0)) = false) ∧ RowKit.Below w1.heap.size w1 wi) (fun i _ => l - (RowKit.intOf i).toNat)
      case atStart => exact ⟨0, Nat.zero_le _, rfl, fun x hx => absurd hx (by omega), below_drewN HB.out _⟩
      case round =>
        obtain ⟨k, hk, rfl, hal2, hBi⟩ := hrel
        have HBI := Lib.hid hBi
        have HAL2 := Lib.hid hal2
        clear hBi hal2 x0 x1 cr hgw
        obtain ⟨x0, x1⟩ := HK.out wr HBI.out
        have hgw : g < wr.heap.size := Nat.lt_of_lt_of_le hlt1 HBI.out.size
        have cr := (HBI.out.cell (p := ⟨nb, no + j, none⟩) hnb).trans HCR.out
        by_cases hlk : k < l
        · obtain ⟨lb, lo, hRA, hlb, hlc⟩ := HRS.out (by unfold i64s; rw [List.length_map, HL.out]; omega)
          subst hRA
          have cx := (HBI.out.cell (p := ⟨lb, lo + k, none⟩) hlb).trans (hlc k (.int .i64 (L.getD k 0)) (by unfold i64s; rw [List.getElem?_map, List.getElem?_eq_getElem (by rw [HL.out]; exact hlk), Plain.getD_lt _ _ k (by rw [HL.out]; exact hlk)]; rfl))
          obtain ⟨x, hx⟩ : ∃ x, L.getD k 0 = x := ⟨_, rfl⟩
          rw [hx] at cx
          have HX := Lib.hid hx
          clear hx hlc
          by_cases hbx : x < 0 ∨ (m : Int) ≤ x
          · have hres := HBAD.out (by
              unfold Plain.rowWrong
              rw [List.any_eq_true.2 ⟨x, by rw [← HX.out, Plain.getD_lt _ _ k (by rw [HL.out]; exact hlk)]; exact List.getElem_mem _, by rcases hbx with h | h <;> simp [h]⟩]; simp)
            have HRF := Lib.hid hres
            clear hres
            by_cases hx0 : x < 0
            · have e1 : decide (x < 0) = true := decide_eq_true hx0
              go_upto_region 11 with fail
              go_quiet (fail)
              go_wp2_with fail
              go_ret
              exact ⟨by rw [HRF.out]; rfl, below_drewN (below_then HB1.out HBI.out) _⟩
            · have e1 : decide (x < 0) = false := decide_eq_false hx0
              have e2 : decide ((m : Int) ≤ x) = true := decide_eq_true (by omega)
              go_upto_region 11 with fail
              go_quiet (fail)
              go_wp2_with fail
              go_ret
              exact ⟨by rw [HRF.out]; rfl, below_drewN (below_then HB1.out HBI.out) _⟩
          · have e1 : decide (x < 0) = false := decide_eq_false (by omega)
            have e2 : decide ((m : Int) ≤ x) = false := decide_eq_false (by omega)
            have HE := Lib.hid (And.intro e1 e2)
            go_upto_region 11 with fail
            go_quiet (fail)
            go_wp2_with fail
            go_roundw
            case rel => exact ⟨k + 1, by omega, by go_num, fun y hy => by
              by_cases e : y = k
              · rw [e, HX.out, HE.out.1, HE.out.2]; rfl
              · exact HAL2.out y (by omega), below_drewN HBI.out _⟩
            case measure => simp [RowKit.intOf]; omega
        · obtain rfl : k = l := by omega
          have hv : Plain.rowWrong k m L = false := by
            unfold Plain.rowWrong
            rw [HL.out, show (k == k) = true from by simp, List.any_eq_false.2 (fun y hy => ?_)]
            · rfl
            · obtain ⟨z, hz, rfl⟩ := List.getElem_of_mem hy
              have := HAL2.out z (by rw [← HL.out]; exact hz)
              rw [Plain.getD_lt _ _ z hz] at this
              rw [this]; simp
          have HV := Lib.hid hv
          clear hv
          go_wp2_with fail
          go_roundw
          case rel => exact ⟨j + 1, by omega, by go_num, fun y hy => by
              by_cases e : y = j
              · rw [e, HN.out]; exact HV.out
              · exact HALL.out y (by omega), HBI.out⟩
          case measure => simp [RowKit.intOf]; omega
    · obtain rfl : j = m := by omega
      have hv : q2 = false := by
        rw [← HQ2.out, List.any_eq_false]
        intro L hL
        obtain ⟨k, hk, rfl⟩ := List.getElem_of_mem hL
        have := HALL.out k (by unfold nums at hk; rw [List.length_map, HM.out] at hk; exact hk)
        rw [Plain.getD_lt _ _ k hk] at this
        rw [this]; simp
      have hres : res = true := by rw [← HR.out, hv]; rfl
      have HRF := Lib.hid hres
      clear hv hres
      go_wp2_with fail
      go_ret
      exact ⟨by rw [HRF.out]; rfl, below_then HB1.out HB.out⟩
end Go.Proofs.YtmiacgkidldjmaaGreatDoor
namespace Go.Proofs.YtmiacgkidldjmaaGreatDoor
open Go.RowKit Go.Lib
def rowQ (L : List Int) (k : Nat) : List UInt8 := (L.take k).flatMap fun x => Plain.putL x.toNat
theorem rowQ_succ (L : List Int) (k : Nat) (h : k < L.length) : rowQ L (k + 1) = rowQ L k ++ Plain.putL (L.getD k 0).toNat := by
  unfold rowQ; rw [List.take_succ_eq_append_getElem h, List.flatMap_append, Plain.getD_lt _ _ k h]; simp
theorem rowQ_all (L : List Int) : rowQ L L.length = Plain.rowL L := by unfold rowQ Plain.rowL; rw [List.take_of_length_le (Nat.le_refl _)]
theorem prevP_succ (P : List Int) (k : Nat) : Plain.prevP P (k + 1) = P.getD k 0 := by unfold Plain.prevP; rw [if_neg (by omega), Nat.add_sub_cancel]
theorem prevP_zero (P : List Int) : Plain.prevP P 0 = 0 := by unfold Plain.prevP; rw [if_pos rfl]
set_option maxRecDepth 100000 in
theorem rputtab_not (PA : Option Addr) (P : List Int) (pc : Nat) (NA : Option Addr) (R : List Row) (nc : Nat) (AA : Option Addr) (C : List Bool) (ac : Nat) (w : World) (hT : TabAt w PA P NA R AA C) (h : Plain.tabRight P (nums R) C.length = false) :
    Calls Tryz.prog 27 #[tabV PA P pc NA R nc AA C ac] w fun e w' => e = .returned (.tuple #[.string ⟨#[]⟩, .bool false]) ∧ Below w.heap.size w w' := by
  have hb0 : Below w.heap.size w (w.alloc (.cells #[.slice PA P.length pc, .slice NA R.length nc, .slice AA C.length ac] 72)) := below_alloc (Below.refl _ _) _
  have hR := rtab_any PA P pc NA R nc AA C ac _ (hT.below hb0)
  rw [h] at hR
  unfold tabV at hR ⊢
  have HR := Lib.hid hR
  have HB0 := Lib.hid hb0
  clear hR hT h hb0
  go_enter Tryz.func27, Tryz.ntmps27
  go_wp2_with fail
  refine HR.out.mono ?_
  rintro e w1 ⟨rfl, hb⟩
  have HB := Lib.hid (below_then HB0.out hb)
  clear hb
  go_wp2_with fail
  go_ret2
  exact ⟨rfl, HB.out⟩
set_option maxRecDepth 1000000 in
set_option maxHeartbeats 16000000 in
theorem rputtab_yes (PA : Option Addr) (P : List Int) (pc : Nat) (NA : Option Addr) (R : List Row) (nc : Nat) (AA : Option Addr) (C : List Bool) (ac : Nat) (w : World) (hT : TabAt w PA P NA R AA C) (h : Plain.tabRight P (nums R) C.length = true) :
    Calls Tryz.prog 27 #[tabV PA P pc NA R nc AA C ac] w fun e w' => e = .returned (.tuple #[.string (str (Plain.tabL P (nums R) C)), .bool true]) ∧ Below w.heap.size w w' := by
  have hfit := Plain.tab_fits h
  have hlen := Plain.tabL_len _ _ _ hfit
  have hb0 : Below w.heap.size w (w.alloc (.cells #[.slice PA P.length pc, .slice NA R.length nc, .slice AA C.length ac] 72)) := below_alloc (Below.refl _ _) _
  have hbx : (w.alloc (.cells #[.slice PA P.length pc, .slice NA R.length nc, .slice AA C.length ac] 72)).heap[w.heap.size]? = some (.cells #[.slice PA P.length pc, .slice NA R.length nc, .slice AA C.length ac] 72 (0, 0)) := heap_alloc_new2 _ _ _ _ rfl
  have hR := rtab_any PA P pc NA R nc AA C ac _ (hT.below hb0)
  rw [h] at hR
  have hpn := hfit.pn
  have hnn := hfit.nn
  have hcn := hfit.cn
  have hNR : (nums R).length = R.length := by unfold nums; rw [List.length_map]
  rw [hNR] at hnn hcn
  have hpl := (Plain.partsL_len P hfit.pn hfit.pr).2
  have hxl := (Plain.nextL_len P (nums R) C hfit).2
  have hal := (Plain.accL_len C (by rw [hcn]; exact hnn)).2
  have hbd := Plain.parts_bound P (Plain.tab_right _ _ _ h).1
  have hmo := Plain.parts_mono P (Plain.tab_right _ _ _ h).1
  have HBD := Lib.hid hbd.2
  have HMO := Lib.hid hmo
  have HFIT := Lib.hid hfit
  have HT := Lib.hid (fun (w' : World) (hb : Below w.heap.size w w') => hT.below hb)
  unfold tabV at hR ⊢
  have HR := Lib.hid hR
  have HB0 := Lib.hid hb0
  have HBX := Lib.hid hbx
  have HLEN := Lib.hid hlen
  have HPL := Lib.hid hpl
  have HXL := Lib.hid hxl
  have HAL := Lib.hid hal
  obtain ⟨p, hp⟩ : ∃ x, P.length = x := ⟨_, rfl⟩
  obtain ⟨m, hm⟩ : ∃ x, R.length = x := ⟨_, rfl⟩
  have HPN := Lib.hid hp
  have HM := Lib.hid hm
  have HNR := Lib.hid hNR
  have HCN := Lib.hid hcn
  rw [hp] at hpn HR HB0 HBX ⊢
  rw [hcn, hm] at HR HB0 HBX ⊢
  rw [hm] at hnn
  have N1 := Lib.hid (fun a W ha => rputi_any a W ha)
  obtain ⟨RES, hRES⟩ : ∃ x, Plain.tabL P (nums R) C = x := ⟨_, rfl⟩
  have HRES := Lib.hid hRES
  rw [hRES]
  clear hR hT h hb0 hbx hfit hlen hpl hxl hal hp hm hNR hcn hRES hbd hmo
  go_enter Tryz.func27, Tryz.ntmps27
  go_wp2_with fail
  refine HR.out.mono ?_
  rintro e w1 ⟨rfl, hb⟩
  have HB := Lib.hid (below_then HB0.out hb)
  have HBX1 := Lib.hid (blk_later HBX.out hb)
  clear hb HBX HR HB0
  have HX := Lib.hid (fun (w' : World) (h : Below w1.heap.size w1 w') => (⟨blk_cells3 (blk_later HBX1.out h), lt_of_some (blk_later HBX1.out h)⟩ : _ ∧ _))
  obtain ⟨⟨x0, x1, x2⟩, xl⟩ := HX.out w1 (Below.refl _ _)
  go_wp2_with fail
  clear x0 x1 x2 xl
  refine Calls.mono (N1.out p w1 (by omega)) ?_
  rintro e w2 ⟨rfl, hb⟩
  have HB2 := Lib.hid hb
  clear hb
  go_wp2_with fail
  go_loopw [4, 5, 6] (fun s l i wr => ∃ k : Nat, k ≤ p ∧ i = .int .i64 k ∧ l = .int .i32 (Plain.prevP P k) ∧ s = .string (str (partsP P k)) ∧ RowKit.Below w1.heap.size w1 wr) (fun _ _ i _ => p - (RowKit.intOf i).toNat)
  case atStart => exact ⟨0, Nat.zero_le _, rfl, by rw [prevP_zero], by unfold partsP; rw [HPN.out]; simp, HB2.out⟩
  case round =>
    obtain ⟨w0, rfl⟩ : ∃ x, x = wr := ⟨_, rfl⟩
    obtain ⟨k, hk, rfl, rfl, rfl, hB⟩ := hrel
    have HBr := Lib.hid hB
    clear hB
    obtain ⟨⟨x0, x1, x2⟩, xl⟩ := HX.out w0 HBr.out
    by_cases hlt : k < p
    · have hkl : k < P.length := by rw [HPN.out]; exact hlt
      have hTA := HT.out w0 (below_then HB.out HBr.out)
      obtain ⟨b, off, he, hbb, hc⟩ := hTA.parts (by unfold i32s; rw [List.length_map]; omega)
      have c0 := hc k (.int .i32 (P.getD k 0)) (by unfold i32s; rw [List.getElem?_map, List.getElem?_eq_getElem hkl, Plain.getD_lt P 0 k hkl]; rfl)
      have hpv : 0 ≤ Plain.prevP P k ∧ Plain.prevP P k ≤ P.getD k 0 ∧ P.getD k 0 ≤ 1114111 := by
        have h1 := HBD.out k hkl
        unfold Plain.prevP
        by_cases h0 : k = 0
        · rw [if_pos h0]; omega
        · rw [if_neg h0]
          have h2 := HBD.out (k - 1) (by omega)
          have h3 := HMO.out (k - 1) k (by omega) hkl
          omega
      have hsu := partsP_succ P k hkl
      have hnx := prevP_succ P k
      have hpl : (partsP P k).length ≤ 193 := by
        have h1 := take_len_le (fun d : Int => Plain.putL d.toNat) (Plain.diffs 0 P) k
        have h2 := HPL.out
        unfold Plain.partsL at h2
        unfold partsP
        rw [List.length_append] at h2 ⊢; omega
      obtain ⟨pv, hpve⟩ : ∃ x, Plain.prevP P k = x := ⟨_, rfl⟩
      obtain ⟨x, hxe⟩ : ∃ x, P.getD k 0 = x := ⟨_, rfl⟩
      rw [hpve, hxe] at hpv hsu
      rw [hxe] at c0 hnx
      rw [hpve]
      obtain ⟨dd, hdd⟩ : ∃ z, (x - pv).toNat = z := ⟨_, rfl⟩
      rw [hdd] at hsu
      have hdb : dd < 2000000 := by omega
      have hw1 : IntKind.i32.wrap (x - pv) = (dd : Int) := by rw [IntKind.wrap_i32]; omega
      have hw3 : IntKind.i64.wrap (dd : Int) = (dd : Int) := by rw [IntKind.wrap_i64]; omega
      have hcj : str (partsP P k) ++ str (Plain.putL dd) = str (partsP P (k + 1)) := by rw [str_app, hsu]
      have HCJ := Lib.hid hcj
      have HNX := Lib.hid hnx
      have hz3 : (str (partsP P k)).size ≤ 193 := by rw [str_size]; exact hpl
      have hz4 := put_len10' dd (by omega)
      obtain ⟨sj, hsje⟩ : ∃ x, str (partsP P k) = x := ⟨_, rfl⟩
      rw [hsje] at HCJ hz3
      rw [hsje]
      have g2 : ¬ (9223372036854775807 < sj.size + (str (Plain.putL dd)).size) := by omega
      have CN := Lib.hid (N1.out dd w0 (by omega))
      have HC := Lib.hid (fun (w' : World) (h : Below w0.heap.size w0 w') => (h.cell (p := ⟨b, off + k, none⟩) hbb).trans c0)
      subst he
      clear hTA hc hsu hpl hpve hxe hdd hcj hsje hnx
      go_wp2_with fail
      refine Calls.mono CN.out ?_
      rintro e w6 ⟨rfl, hb⟩
      have HB6 := Lib.hid (HBr.out.trans (hb.mono HBr.out.size))
      have c0 := HC.out w6 hb
      have hbb := Nat.lt_of_lt_of_le hbb hb.size
      clear hb x0 x1 x2 xl
      obtain ⟨⟨x0, x1, x2⟩, xl⟩ := HX.out w6 HB6.out
      go_wp2_with fail
      rw [HCJ.out]
      go_roundw
      case rel => exact ⟨k + 1, by omega, by go_num, by rw [HNX.out], rfl, HB6.out⟩
      case measure => simp [RowKit.intOf]; omega
    · obtain rfl : p = k := by omega
      have hfin : partsP P p = Plain.partsL P := by rw [← HPN.out, partsP_all]
      rw [hfin]
      obtain ⟨PL, hPL⟩ : ∃ x, Plain.partsL P = x := ⟨_, rfl⟩
      have HPLE := Lib.hid hPL
      rw [hPL]
      clear hfin hPL
      obtain ⟨pv, hpv⟩ : ∃ x, Plain.prevP P p = x := ⟨_, rfl⟩
      rw [hpv]
      clear hpv
      go_wp2_with fail
      clear x0 x1 x2 xl
      refine Calls.mono (N1.out m w0 (by omega)) ?_
      rintro e w3 ⟨rfl, hb⟩
      have HB3 := Lib.hid (HBr.out.trans (hb.mono HBr.out.size))
      clear hb
      obtain ⟨⟨x0, x1, x2⟩, xl⟩ := HX.out w3 HB3.out
      go_wp2_with fail
      clear x0 x1 x2 xl
      refine Calls.mono (N1.out m w3 (by omega)) ?_
      rintro e w4 ⟨rfl, hb⟩
      have HB4 := Lib.hid (HB3.out.trans (hb.mono HB3.out.size))
      clear hb
      obtain ⟨⟨x0, x1, x2⟩, xl⟩ := HX.out w4 HB4.out
      go_wp2_with fail
      clear x0 x1 x2 xl
      go_loopw [7, 8, 9, 10] (fun s7 s8 i _ wr => ∃ k : Nat, k ≤ m ∧ i = .int .i64 k ∧ s7 = .string (str (nextP (nums R) k)) ∧ s8 = .string (str (accP C k)) ∧ RowKit.Below w1.heap.size w1 wr) (fun _ _ i _ _ => m - (RowKit.intOf i).toNat)
      case atStart => exact ⟨0, Nat.zero_le _, rfl, by unfold nextP; rw [HNR.out, HM.out]; simp, by unfold accP; rw [HCN.out, HM.out]; simp, HB4.out⟩
      case round =>
        obtain ⟨w5, rfl⟩ : ∃ x, x = wr := ⟨_, rfl⟩
        obtain ⟨k, hk, rfl, rfl, rfl, hB⟩ := hrel
        have HB5 := Lib.hid hB
        clear hB
        obtain ⟨⟨x0, x1, x2⟩, xl⟩ := HX.out w5 HB5.out
        by_cases hlt : k < m
        · have hkl : k < R.length := by rw [HM.out]; exact hlt
          have hkn : k < (nums R).length := by rw [HNR.out]; exact hkl
          have hkc : k < C.length := by rw [HCN.out]; exact hkl
          have hTA := HT.out w5 (below_then HB.out HB5.out)
          obtain ⟨rb, ro, he1, hrb, hrc⟩ := hTA.rows (by rw [List.length_map]; omega)
          obtain ⟨ab, ao, he2, hab, hac⟩ := hTA.acc (by rw [List.length_map]; omega)
          have c0 := hrc k (rowV R[k]) (by rw [List.getElem?_map, List.getElem?_eq_getElem hkl]; rfl)
          have c1 := hac k (.bool C[k]) (by rw [List.getElem?_map, List.getElem?_eq_getElem hkc]; rfl)
          have hrow := hTA.row R[k] (List.getElem_mem hkl)
          have hgn : (nums R)[k] = R[k].2.2 := by simp [nums]
          have hrn := HFIT.out.rn R[k].2.2 (by rw [← hgn]; exact List.getElem_mem hkn)
          have hs7 := nextP_succ (nums R) k hkn
          rw [hgn] at hs7
          have hs8 := accP_succ C k hkc
          have hl7 : (nextP (nums R) k).length ≤ 16385 := by
            have h1 := take_len_le Plain.rowL (nums R) k
            have h2 := HXL.out
            unfold Plain.nextL at h2
            unfold nextP
            rw [List.length_append] at h2 ⊢; omega
          have hl8 : (accP C k).length ≤ 65 := by
            have h1 := take_len_le Plain.bitL C k
            have h2 := HAL.out
            unfold Plain.accL at h2
            unfold accP
            rw [List.length_append] at h2 ⊢; omega
          have hlr : (Plain.rowL R[k].2.2).length ≤ 64 * 4 := by
            have h3 := Plain.flat_len (fun x : Int => Plain.putL x.toNat) 4 R[k].2.2 fun x hx => Plain.put_len4 x.toNat (by have := hrn.2 x hx; omega)
            have := hrn.1; have := HPN.out
            unfold Plain.rowL
            omega
          have c8 : str (accP C k) ++ str (Plain.bitL C[k]) = str (accP C (k + 1)) := by rw [str_app, hs8]
          have C8 := Lib.hid c8
          have z8 : (str (accP C k)).size ≤ 65 := by rw [str_size]; exact hl8
          obtain ⟨bb, hb⟩ : ∃ b, C[k] = b := ⟨_, rfl⟩
          rw [hb] at c1 C8
          obtain ⟨⟨RA, rcap, RL⟩, hRk⟩ : ∃ x, R[k] = x := ⟨_, rfl⟩
          rw [hRk] at c0 hrow hrn hs7 hlr
          unfold rowV at c0
          dsimp only at c0 hrow hrn hs7 hlr
          obtain ⟨s8, hs8e⟩ : ∃ x, str (accP C k) = x := ⟨_, rfl⟩
          rw [hs8e] at C8 z8
          rw [hs8e]
          obtain ⟨pre, hpre⟩ : ∃ x, nextP (nums R) k = x := ⟨_, rfl⟩
          rw [hpre] at hs7 hl7
          rw [hpre]
          obtain ⟨rl, hrl⟩ : ∃ x, RL.length = x := ⟨_, rfl⟩
          rw [hrl] at c0
          have HRL := Lib.hid hrl
          have HS7 := Lib.hid hs7
          have HROW := Lib.hid hrow
          have HRN := Lib.hid hrn
          have HLR := Lib.hid hlr
          have HCC := Lib.hid (fun (w' : World) (h : Below w5.heap.size w5 w') => (⟨(h.cell (p := ⟨rb, ro + k, none⟩) hrb).trans c0, (h.cell (p := ⟨ab, ao + k, none⟩) hab).trans c1, Nat.lt_of_lt_of_le hrb h.size, Nat.lt_of_lt_of_le hab h.size⟩ : _ ∧ _ ∧ _ ∧ _))
          have hrl64 : rl ≤ 64 := by rw [← HRL.out]; have := hrn.1; have := HPN.out; omega
          subst he1 he2
          clear hTA hrc hac hrow hgn hrn hs7 hs8 hlr c8 hRk hs8e hb hpre hrl c0 c1 hrb hab
          go_wp2_with fail
          go_loopw [7, 10] (fun s7 i wr => ∃ j : Nat, j ≤ rl ∧ i = .int .i64 j ∧ s7 = .string (str (pre ++ rowQ RL j)) ∧ RowKit.Below w5.heap.size w5 wr) (fun _ i _ => rl - (RowKit.intOf i).toNat)
          case atStart => exact ⟨0, Nat.zero_le _, rfl, by unfold rowQ; simp, Below.refl _ _⟩
          clear x0 x1 x2 xl
          case round =>
            obtain ⟨w6, rfl⟩ : ∃ x, x = wr := ⟨_, rfl⟩
            obtain ⟨j, hj, rfl, rfl, hB⟩ := hrel
            have HB6 := Lib.hid hB
            clear hB
            obtain ⟨⟨x0, x1, x2⟩, xl⟩ := HX.out w6 (below_then HB5.out HB6.out)
            obtain ⟨c0, c1, hrb, hab⟩ := HCC.out w6 HB6.out
            have hqj : (rowQ RL j).length ≤ 256 := by
              have h1 := take_len_le (fun x : Int => Plain.putL x.toNat) RL j
              have h2 := HLR.out
              unfold Plain.rowL at h2
              unfold rowQ
              omega
            by_cases hjl : j < rl
            · have hjr : j < RL.length := by rw [HRL.out]; exact hjl
              obtain ⟨lb, lo, he3, hlb, hlc⟩ := (HROW.out.1.below HB6.out) (by unfold i64s; rw [List.length_map]; omega)
              subst he3
              have c2 := hlc j (.int .i64 (RL.getD j 0)) (by unfold i64s; rw [List.getElem?_map, List.getElem?_eq_getElem hjr, Plain.getD_lt _ _ j hjr]; rfl)
              have hxb := HRN.out.2 (RL.getD j 0) (by rw [Plain.getD_lt _ _ j hjr]; exact List.getElem_mem _)
              have hqs := rowQ_succ RL j hjr
              obtain ⟨x, hx⟩ : ∃ x, RL.getD j 0 = x := ⟨_, rfl⟩
              rw [hx] at c2 hxb hqs
              obtain ⟨xn, rfl⟩ : ∃ y : Nat, x = y := ⟨x.toNat, by omega⟩
              rw [Int.toNat_natCast] at hqs
              have hcj : str (pre ++ rowQ RL j) ++ str (Plain.putL xn) = str (pre ++ rowQ RL (j + 1)) := by rw [str_app, hqs, List.append_assoc]
              have HCJ := Lib.hid hcj
              have hz1 : (str (pre ++ rowQ RL j)).size ≤ 17000 := by rw [str_size, List.length_append]; omega
              have hz2 := put_len10' xn (by omega)
              have CN := Lib.hid (N1.out xn w6 (by omega))
              obtain ⟨sj, hsj⟩ : ∃ x, str (pre ++ rowQ RL j) = x := ⟨_, rfl⟩
              obtain ⟨sn, hsn⟩ : ∃ x, str (Plain.putL xn) = x := ⟨_, rfl⟩
              rw [hsj, hsn] at HCJ
              rw [hsj] at hz1
              rw [hsn] at hz2 CN
              rw [hsj]
              have g2 : ¬ (9223372036854775807 < sj.size + sn.size) := by omega
              clear hcj hsj hsn hx hqs hlc
              go_wp2_with fail
              refine Calls.mono CN.out ?_
              rintro e w7 ⟨rfl, hb⟩
              have HB7 := Lib.hid (below_then HB6.out hb)
              clear hb x0 x1 x2 xl c0 c1 c2 CN
              go_wp2_with fail
              rw [HCJ.out]
              go_roundw
              case rel => exact ⟨j + 1, by omega, by go_num, rfl, HB7.out⟩
              case measure => simp [RowKit.intOf]; omega
            · obtain rfl : j = rl := by omega
              have hfin : str (pre ++ rowQ RL j) = str (nextP (nums R) (k + 1)) := by rw [HS7.out, ← HRL.out, rowQ_all]
              rw [hfin]
              obtain ⟨sN, hsN⟩ : ∃ x, str (nextP (nums R) (k + 1)) = x := ⟨_, rfl⟩
              have HSN := Lib.hid hsN
              rw [hsN]
              clear hfin hsN
              cases bb
              · have CN := Lib.hid (N1.out 0 w6 (by omega))
                have hz2 := put_len10' 0 (by omega)
                have hcl : str (Plain.bitL false) = str (Plain.putL 0) := rfl
                rw [hcl] at C8
                obtain ⟨sn, hsn⟩ : ∃ x, str (Plain.putL 0) = x := ⟨_, rfl⟩
                rw [hsn] at hz2 CN C8
                have g2 : ¬ (9223372036854775807 < s8.size + sn.size) := by omega
                clear hsn hcl
                go_wp2_with fail
                refine Calls.mono CN.out ?_
                rintro e w7 ⟨rfl, hb⟩
                have HB7 := Lib.hid (below_then HB5.out (below_then HB6.out hb))
                clear hb x0 x1 x2 xl c0 c1 CN
                go_wp2_with fail
                rw [C8.out, ← HSN.out]
                go_roundw
                case rel => exact ⟨k + 1, by omega, by go_num, rfl, rfl, HB7.out⟩
                case measure => simp [RowKit.intOf]; omega
              · have CN := Lib.hid (N1.out 1 w6 (by omega))
                have hz2 := put_len10' 1 (by omega)
                have hcl : str (Plain.bitL true) = str (Plain.putL 1) := rfl
                rw [hcl] at C8
                obtain ⟨sn, hsn⟩ : ∃ x, str (Plain.putL 1) = x := ⟨_, rfl⟩
                rw [hsn] at hz2 CN C8
                have g2 : ¬ (9223372036854775807 < s8.size + sn.size) := by omega
                clear hsn hcl
                go_wp2_with fail
                refine Calls.mono CN.out ?_
                rintro e w7 ⟨rfl, hb⟩
                have HB7 := Lib.hid (below_then HB5.out (below_then HB6.out hb))
                clear hb x0 x1 x2 xl c0 c1 CN
                go_wp2_with fail
                rw [C8.out, ← HSN.out]
                go_roundw
                case rel => exact ⟨k + 1, by omega, by go_num, rfl, rfl, HB7.out⟩
                case measure => simp [RowKit.intOf]; omega
        · obtain rfl : m = k := by omega
          have hf1 : nextP (nums R) m = Plain.nextL (nums R) := by rw [← HM.out, ← HNR.out, nextP_all]
          have hf2 : accP C m = Plain.accL C := by rw [← HM.out, ← HCN.out, accP_all]
          rw [hf1, hf2]
          have hlen := HLEN.out.2
          have hpl := HPL.out
          rw [HPLE.out] at hpl
          have hxl := HXL.out
          have hal := HAL.out
          have hpv : Plain.blobL 84 4 PL (Plain.nextL (nums R)) (Plain.accL C) = RES := by rw [← HRES.out]; unfold Plain.tabL; rw [HPLE.out]
          rw [HRES.out] at hlen
          obtain ⟨XL, hXL⟩ : ∃ x, Plain.nextL (nums R) = x := ⟨_, rfl⟩
          obtain ⟨AL, hAL⟩ : ∃ x, Plain.accL C = x := ⟨_, rfl⟩
          rw [hXL] at hxl
          rw [hAL] at hal
          rw [hXL, hAL] at hpv
          have cB := rblob_any 84 4 PL XL AL
          rw [hpv] at cB
          have CBL := Lib.hid (fun W => cB W (by decide) (by omega) (by omega) (by omega) (by omega))
          rw [hXL, hAL]
          obtain ⟨s1, hs1⟩ : ∃ x, str PL = x := ⟨_, rfl⟩
          obtain ⟨s2, hs2⟩ : ∃ x, str XL = x := ⟨_, rfl⟩
          obtain ⟨s3, hs3⟩ : ∃ x, str AL = x := ⟨_, rfl⟩
          rw [hs1, hs2, hs3] at CBL
          rw [hs1, hs2, hs3]
          clear hf1 hf2 hlen hpl hxl hal hpv hXL hAL cB hs1 hs2 hs3
          go_wp2_with fail
          clear x0 x1 x2 xl
          have cF := CBL.out w5
          rw [show str [84] = (⟨#[84]⟩ : ByteArray) from rfl] at cF
          refine Calls.mono cF ?_
          rintro e w6 ⟨rfl, hb⟩
          have HB6 := Lib.hid (HB.out.trans ((HB5.out.trans (hb.mono HB5.out.size)).mono HB.out.size))
          clear hb cF
          go_wp2_with fail
          go_ret2
          exact ⟨rfl, HB6.out⟩
end Go.Proofs.YtmiacgkidldjmaaGreatDoor
