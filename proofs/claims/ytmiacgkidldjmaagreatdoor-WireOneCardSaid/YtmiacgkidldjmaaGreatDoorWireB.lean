/- Chapter 12: Put: what the code computes. Conditions: what each lemma says. -/
import Derived.Test.YtmiacgkidldjmaaGreatDoorWireA
import Derived.Test.YtmiacgkidldjmaaGreatDoorOpenP
set_option linter.unusedVariables false
set_option linter.unusedSimpArgs false
namespace Go.Proofs.YtmiacgkidldjmaaGreatDoor
open Go.RowKit Go.Lib
open Plain (Rg May mayB In Norm In4 slotsOf insB bnd riB cls cnot rightB normB)
theorem nums_new (ns : List Nat) (W : World) (cs : Array Value) (h : cs.toList = i64n ns) (hs : ∀ n ∈ ns, n < 9223372036854775808) (hl : ns.length ≤ 1000000) :
    Calls Tryz.prog 41 #[.slice (some ⟨W.heap.size, 0, none⟩) ns.length ns.length] (W.alloc (.cells cs 3)) fun e w' => e = .returned (.string (str (numsL ns))) ∧ Below W.heap.size W w' := by
  have hc := CellsAt.new W cs 3
  rw [h] at hc
  refine (numbers_any ns _ _ _ (fun _ => ⟨_, 0, rfl, hc.1, fun i u hu => by rw [Nat.zero_add]; exact hc.2 i u hu⟩) hs hl).mono ?_
  rintro e w' ⟨rfl, hb⟩
  exact ⟨rfl, below_then (below_alloc (Below.refl _ _) _) hb⟩
theorem nums1 (a : Nat) (W : World) (x : Nat) (hx : x = W.heap.size) (ha : a < 9223372036854775808) :
    Calls Tryz.prog 41 #[.slice (some ⟨x, 0, none⟩) 1 1] (W.alloc (.cells #[.int .i64 (a : Int)] 3)) fun e w' => e = .returned (.string (str (Plain.putL a))) ∧ Below W.heap.size W w' := by
  subst hx
  have h := nums_new [a] W #[.int .i64 (a : Int)] rfl (by simpa using ha) (by simp)
  rw [show numsL [a] = Plain.putL a from by simp [numsL]] at h
  exact h
theorem nums2 (a b : Nat) (W : World) (x : Nat) (hx : x = W.heap.size) (ha : a < 9223372036854775808) (hb : b < 9223372036854775808) :
    Calls Tryz.prog 41 #[.slice (some ⟨x, 0, none⟩) 2 2] (W.alloc (.cells #[.int .i64 (a : Int), .int .i64 (b : Int)] 3)) fun e w' => e = .returned (.string (str (Plain.putL a ++ Plain.putL b))) ∧ Below W.heap.size W w' := by
  subst hx
  have h := nums_new [a, b] W #[.int .i64 (a : Int), .int .i64 (b : Int)] rfl (by intro n hn; simp at hn; rcases hn with rfl | rfl <;> assumption) (by simp)
  rw [show numsL [a, b] = Plain.putL a ++ Plain.putL b from by simp [numsL]] at h
  exact h
theorem nums4 (a b c d : Nat) (W : World) (x : Nat) (hx : x = W.heap.size) (ha : a < 9223372036854775808) (hb : b < 9223372036854775808) (hc : c < 9223372036854775808) (hd : d < 9223372036854775808) :
    Calls Tryz.prog 41 #[.slice (some ⟨x, 0, none⟩) 4 4] (W.alloc (.cells #[.int .i64 (a : Int), .int .i64 (b : Int), .int .i64 (c : Int), .int .i64 (d : Int)] 3)) fun e w' => e = .returned (.string (str (Plain.putL a ++ (Plain.putL b ++ (Plain.putL c ++ Plain.putL d))))) ∧ Below W.heap.size W w' := by
  subst hx
  have h := nums_new [a, b, c, d] W #[.int .i64 (a : Int), .int .i64 (b : Int), .int .i64 (c : Int), .int .i64 (d : Int)] rfl (by intro n hn; simp at hn; rcases hn with rfl | rfl | rfl | rfl <;> assumption) (by simp)
  rw [show numsL [a, b, c, d] = Plain.putL a ++ (Plain.putL b ++ (Plain.putL c ++ Plain.putL d)) from by simp [numsL]] at h
  exact h
/-- a right program's numbers may be put -/
theorem pgR_fits {L : List In4} {K : List Cs} {g : Int} (h : pgR L K g = true) : Plain.Fits L (K.map Cs.R) g := by
  unfold pgR at h
  simp only [Bool.and_eq_true, decide_eq_true_eq, Bool.not_eq_true'] at h
  obtain ⟨⟨⟨⟨⟨⟨h1, h2⟩, h3⟩, h4⟩, h5⟩, h6⟩, h7⟩ := h
  refine ⟨⟨h4, by omega⟩, by rw [List.length_map]; exact h3, h2, fun R hR => ?_, fun t ht => ?_⟩
  · obtain ⟨x, hx, rfl⟩ := List.mem_map.1 hR
    rw [List.any_eq_false] at h7
    have hb := h7 x hx
    unfold badB at hb
    simp only [Bool.or_eq_true, Bool.not_eq_true', not_or, Bool.not_eq_false] at hb
    obtain ⟨hn, hl⟩ := (Plain.rightB_iff x.R).1 hb.2
    refine ⟨hl, fun r hr => ?_⟩
    obtain ⟨m1, m2, m3⟩ := Plain.Norm_may hn r hr
    exact ⟨m1, m3, m2⟩
  · rw [List.any_eq_false] at h6
    have hb := h6 t ht
    simp only [Bool.not_eq_true', Bool.not_eq_false] at hb
    have hs : slotsOf g = 2 * g + 2 := slotsOf_sm g h4 (by omega)
    obtain ⟨op, x, y, a⟩ := t
    unfold riB at hb
    simp only [Bool.and_eq_true, decide_eq_true_eq] at hb
    obtain ⟨⟨⟨⟨k0, k1⟩, k2⟩, k3⟩, k4⟩ := hb
    have hop : op = 0 ∨ op = 1 ∨ op = 2 ∨ op = 3 ∨ op = 4 ∨ op = 5 := by omega
    unfold insB at k2 k3 k4
    simp only [Bool.and_eq_true, decide_eq_true_eq] at k2 k3 k4
    rcases hop with rfl | rfl | rfl | rfl | rfl | rfl <;> simp [bnd, hs] at k2 k3 k4 ⊢ <;> omega
end Go.Proofs.YtmiacgkidldjmaaGreatDoor
namespace Go.Proofs.YtmiacgkidldjmaaGreatDoor
open Go.RowKit Go.Lib
open Plain (Rg May mayB In Norm In4 slotsOf insB bnd riB cls cnot rightB normB)
def putV (L : List In4) (K : List Cs) (g : Int) : Value := if pgR L K g = true then .tuple #[.string (str (Plain.progL L (K.map Cs.R) g)), .bool true] else .tuple #[.string ⟨#[]⟩, .bool false]
/-- a class's bytes up to a range; classes' bytes up to a class; instructions' -/
def clsP (R : List Rg) (j : Nat) : List UInt8 := Plain.putL R.length ++ (R.take j).flatMap Plain.rgL
def clssP (K : List (List Rg)) (k : Nat) : List UInt8 := Plain.putL K.length ++ (K.take k).flatMap Plain.clsL
def instsP (L : List In4) (k : Nat) : List UInt8 := Plain.putL L.length ++ (L.take k).flatMap Plain.instL
theorem clsP_succ (R : List Rg) (j : Nat) (h : j < R.length) : clsP R (j + 1) = clsP R j ++ Plain.rgL R[j] := by unfold clsP; rw [List.take_succ_eq_append_getElem h, List.flatMap_append, List.append_assoc]; simp
theorem clssP_succ (K : List (List Rg)) (k : Nat) (h : k < K.length) : clssP K (k + 1) = clssP K k ++ Plain.clsL K[k] := by unfold clssP; rw [List.take_succ_eq_append_getElem h, List.flatMap_append, List.append_assoc]; simp
theorem instsP_succ (L : List In4) (k : Nat) (h : k < L.length) : instsP L (k + 1) = instsP L k ++ Plain.instL L[k] := by unfold instsP; rw [List.take_succ_eq_append_getElem h, List.flatMap_append, List.append_assoc]; simp
theorem clsP_all (R : List Rg) : clsP R R.length = Plain.clsL R := by unfold clsP Plain.clsL; rw [List.take_of_length_le (Nat.le_refl _)]
theorem clssP_all (K : List (List Rg)) : clssP K K.length = Plain.classesL K := by unfold clssP Plain.classesL; rw [List.take_of_length_le (Nat.le_refl _)]
theorem instsP_all (L : List In4) : instsP L L.length = Plain.instsL L := by unfold instsP Plain.instsL; rw [List.take_of_length_le (Nat.le_refl _)]
theorem put_len10' (n : Nat) (h : n < 18446744073709551616) : (str (Plain.putL n)).size ≤ 10 := by rw [str_size]; exact (Plain.putL_len10 n h).2
theorem take_len_le {X : Type} (f : X → List UInt8) (l : List X) (k : Nat) : ((l.take k).flatMap f).length ≤ (l.flatMap f).length := by
  conv => rhs; rw [← List.take_append_drop k l]
  rw [List.flatMap_append, List.length_append]; omega
theorem putprog_not (I C : Option Addr) (L : List In4) (K : List Cs) (c d : Nat) (g : Int) (w : World) (hP : PgAt w I L C K) (h : pgR L K g = false) :
    Calls Tryz.prog 14 #[pgV I L.length c C K.length d g] w fun e w' => e = .returned (.tuple #[.string ⟨#[]⟩, .bool false]) ∧ Below w.heap.size w w' := by
  have cR := Lib.hid (fun W hW => prright_any I C L K c d g W hW)
  have hb0 : Below w.heap.size w (w.alloc (.cells #[.slice I L.length c, .slice C K.length d, .int .i64 g] 25)) := below_alloc (Below.refl _ _) _
  have hR := cR.out _ (hP.below hb0)
  rw [h] at hR
  unfold pgV at hR ⊢
  have HR := Lib.hid hR
  have HB0 := Lib.hid hb0
  clear cR hR hP h hb0
  go_enter Tryz.func14, Tryz.ntmps14
  go_wp2_with fail
  refine HR.out.mono ?_
  rintro e w1 ⟨rfl, hb⟩
  have HB := Lib.hid (below_then HB0.out hb)
  clear hb
  go_wp2_with fail
  go_ret2
  exact ⟨rfl, HB.out⟩
set_option maxRecDepth 1000000 in
set_option maxHeartbeats 16000000 in
theorem putprog_yes (I C : Option Addr) (L : List In4) (K : List Cs) (c d : Nat) (g : Int) (w : World) (hP : PgAt w I L C K) (h : pgR L K g = true) :
    Calls Tryz.prog 14 #[pgV I L.length c C K.length d g] w fun e w' => e = .returned (.tuple #[.string (str (Plain.progL L (K.map Cs.R) g)), .bool true]) ∧ Below w.heap.size w w' := by
  have hfit := pgR_fits h
  have hlen := Plain.progL_len _ _ _ hfit
  have cR := Lib.hid (fun W hW => prright_any I C L K c d g W hW)
  have hb0 : Below w.heap.size w (w.alloc (.cells #[.slice I L.length c, .slice C K.length d, .int .i64 g] 25)) := below_alloc (Below.refl _ _) _
  have hbx : (w.alloc (.cells #[.slice I L.length c, .slice C K.length d, .int .i64 g] 25)).heap[w.heap.size]? = some (.cells #[.slice I L.length c, .slice C K.length d, .int .i64 g] 25 (0, 0)) := heap_alloc_new2 _ _ _ _ rfl
  have hR := cR.out _ (hP.below hb0)
  rw [h] at hR
  have hg := hfit.g0
  have hkn := hfit.kn
  rw [List.length_map] at hkn
  have hln := hfit.ln
  have hcl := Plain.classes_len _ hfit.kn hfit.rn
  have hil := Plain.insts_len _ hfit.ln hfit.tn
  obtain ⟨gn, rfl⟩ : ∃ x : Nat, g = x := ⟨g.toNat, by omega⟩
  have hgl := Plain.put_len4 gn (by omega)
  have HFIT := Lib.hid hfit
  have HP := Lib.hid (fun (w' : World) (hb : Below w.heap.size w w') => hP.below hb)
  unfold pgV at hR ⊢
  have HR := Lib.hid hR
  have HB0 := Lib.hid hb0
  have HBX := Lib.hid hbx
  have HLEN := Lib.hid hlen
  have HCL := Lib.hid hcl
  have HIL := Lib.hid hil
  obtain ⟨n, hn⟩ : ∃ x, L.length = x := ⟨_, rfl⟩
  obtain ⟨m, hm⟩ : ∃ x, K.length = x := ⟨_, rfl⟩
  have HN := Lib.hid hn
  have HM := Lib.hid hm
  rw [hn] at hln HR HB0 HBX ⊢
  rw [hm] at hkn HR HB0 HBX ⊢
  have N1 := Lib.hid (fun a W x hx ha => nums1 a W x hx ha)
  have N2 := Lib.hid (fun a b W x hx ha hb => nums2 a b W x hx ha hb)
  have N4 := Lib.hid (fun a b c d W x hx ha hb hc hd => nums4 a b c d W x hx ha hb hc hd)
  obtain ⟨RES, hRES⟩ : ∃ x, Plain.progL L (K.map Cs.R) gn = x := ⟨_, rfl⟩
  have HRES := Lib.hid hRES
  rw [hRES]
  clear cR hR hP h hb0 hbx hfit hlen hcl hil hn hm hRES
  go_enter Tryz.func14, Tryz.ntmps14
  go_wp2_with fail
  refine HR.out.mono ?_
  rintro e w1 ⟨rfl, hb⟩
  have HB := Lib.hid (below_then HB0.out hb)
  have HBX1 := Lib.hid (blk_later HBX.out hb)
  clear hb HBX HR HB0
  have HX := Lib.hid (fun (w' : World) (h : Below w1.heap.size w1 w') => blk_cells3 (blk_later HBX1.out h))
  obtain ⟨x0, x1, x2⟩ := HX.out w1 (Below.refl _ _)
  go_wp2_with fail
  refine (N1.out m _ _ (by simp) (by omega)).mono ?_
  rintro e w2 ⟨rfl, hb⟩
  have HB2 := Lib.hid hb
  clear hb x0 x1 x2
  obtain ⟨x0, x1, x2⟩ := HX.out w2 HB2.out
  go_wp2_with fail
  go_loopw [4, 6, 8, 23] (fun s _ _ i wr => ∃ k : Nat, k ≤ m ∧ i = .int .i64 k ∧ s = .string (str (clssP (K.map Cs.R) k)) ∧ RowKit.Below w1.heap.size w1 wr) (fun _ _ _ i _ => m - (RowKit.intOf i).toNat)
  case atStart => exact ⟨0, Nat.zero_le _, rfl, by unfold clssP; rw [List.length_map, HM.out]; simp, HB2.out⟩
  clear x0 x1 x2
  case round =>
    obtain ⟨w0, rfl⟩ : ∃ x, x = wr := ⟨_, rfl⟩
    obtain ⟨k, hk, rfl, rfl, hB⟩ := hrel
    have HBr := Lib.hid hB
    clear hB
    obtain ⟨x0, x1, x2⟩ := HX.out w0 HBr.out
    by_cases hlt : k < m
    · have hkl : k < K.length := by rw [HM.out]; exact hlt
      obtain ⟨b, off, he, hbb, cc⟩ := cs_at ((HP.out w0 (below_then HB.out HBr.out)).cls) k hkl
      subst he
      have hrs := ((HP.out w0 (below_then HB.out HBr.out)).each K[k] (List.getElem_mem _)).1
      have hrn := HFIT.out.rn K[k].R (List.mem_map.2 ⟨_, List.getElem_mem hkl, rfl⟩)
      have hsu := clssP_succ (K.map Cs.R) k (by rw [List.length_map]; exact hkl)
      rw [List.getElem_map] at hsu
      have hpl : (clssP (K.map Cs.R) k).length ≤ 24641 := by
        have h1 := take_len_le Plain.clsL (K.map Cs.R) k
        have h2 := HCL.out
        unfold Plain.classesL at h2
        unfold clssP
        rw [List.length_append] at h2 ⊢; omega
      obtain ⟨⟨RA, rc, R⟩, hx⟩ : ∃ x, K[k] = x := ⟨_, rfl⟩
      rw [hx] at cc hrs hrn hsu
      unfold clV at cc
      dsimp only at cc hrs hrn hsu
      obtain ⟨pre, hpre⟩ : ∃ p, clssP (K.map Cs.R) k = p := ⟨_, rfl⟩
      obtain ⟨nxt, hnxt⟩ : ∃ p, clssP (K.map Cs.R) (k + 1) = p := ⟨_, rfl⟩
      rw [hpre] at hpl
      rw [hpre, hnxt] at hsu
      rw [hpre]
      have hcl6 := Plain.cls_len6 R hrn
      obtain ⟨rn, hRN⟩ : ∃ x, R.length = x := ⟨_, rfl⟩
      have HRN := Lib.hid hRN
      have HRNN := Lib.hid hrn
      have HRS := Lib.hid (fun (w' : World) (hb : Below w0.heap.size w0 w') => hrs.below hb)
      have HSU := Lib.hid hsu
      have HNXT := Lib.hid hnxt
      have HCL6 := Lib.hid hcl6
      have hr64 : rn ≤ 64 := by rw [← hRN]; exact hrn.1
      rw [hRN] at cc
      have hz1 : (str pre).size ≤ 24641 := by rw [str_size]; exact hpl
      have hz2 := put_len10' rn (by omega)
      clear hsu hnxt hpre hcl6 hRN hrn hrs hx
      have g1 : ¬ (9223372036854775807 < (str pre).size + (str (Plain.putL rn)).size) := by omega
      go_wp2_with fail
      refine (N1.out rn _ _ (by simp) (by omega)).mono ?_
      rintro e w3 ⟨rfl, hb⟩
      have HB3 := Lib.hid hb
      have hcat : str pre ++ str (Plain.putL rn) = str (pre ++ clsP R 0) := by rw [str_app]; unfold clsP; rw [HRN.out]; simp
      have HCAT := Lib.hid hcat
      clear hb hcat x0 x1 x2 cc
      go_wp2_with fail
      rw [HCAT.out]
      go_loopw [4, 8, 35] (fun s _ i wr => ∃ j : Nat, j ≤ rn ∧ i = .int .i64 j ∧ s = .string (str (pre ++ clsP R j)) ∧ RowKit.Below w0.heap.size w0 wr) (fun _ _ i _ => rn - (RowKit.intOf i).toNat)
      case atStart => exact ⟨0, Nat.zero_le _, rfl, rfl, HB3.out⟩
      case round =>
        obtain ⟨j, hj, rfl, rfl, hB⟩ := hrel
        obtain ⟨w4, rfl⟩ : ∃ x, x = wr := ⟨_, rfl⟩
        have HB4 := Lib.hid hB
        clear hB
        by_cases hjl : j < rn
        · have hjR : j < R.length := by rw [HRN.out]; exact hjl
          obtain ⟨rb, ro, he, hrb, c0, c1⟩ := (HRS.out w4 HB4.out).get j hjR
          subst he
          obtain ⟨q0, q1, q2⟩ := HRNN.out.2 R[j] (List.getElem_mem hjR)
          have hsj := clsP_succ R j hjR
          have hjp : (clsP R j).length ≤ 385 := by
            have h1 := take_len_le Plain.rgL R j
            have h2 := HCL6.out
            unfold Plain.clsL at h2
            unfold clsP
            rw [List.length_append] at h2 ⊢; omega
          obtain ⟨⟨lo, hi⟩, hx⟩ : ∃ x, R[j] = x := ⟨_, rfl⟩
          rw [hx] at c0 c1 q0 q1 q2 hsj
          dsimp only at c0 c1 q0 q1 q2
          obtain ⟨l, rfl⟩ : ∃ x : Nat, lo = x := ⟨lo.toNat, by omega⟩
          obtain ⟨h, rfl⟩ : ∃ x : Nat, hi = x := ⟨hi.toNat, by omega⟩
          have hrg : Plain.rgL ((l : Int), (h : Int)) = Plain.putL l ++ Plain.putL (h - l) := by unfold Plain.rgL; dsimp only; rw [Int.toNat_natCast, show ((h : Int) - (l : Int)).toNat = h - l by omega]
          rw [hrg] at hsj
          have hcj : str (pre ++ clsP R j) ++ str (Plain.putL l ++ Plain.putL (h - l)) = str (pre ++ clsP R (j + 1)) := by rw [str_app, hsj, List.append_assoc]
          have HCJ := Lib.hid hcj
          have hz3 : (str (pre ++ clsP R j)).size ≤ 25026 := by rw [str_size, List.length_append]; rw [str_size] at hz1; omega
          have hz4 : (str (Plain.putL l ++ Plain.putL (h - l))).size ≤ 20 := by
            have h1 := (Plain.putL_len10 l (by omega)).2
            have h2 := (Plain.putL_len10 (h - l) (by omega)).2
            rw [str_size, List.length_append]; omega
          obtain ⟨sj, hsje⟩ : ∃ x, str (pre ++ clsP R j) = x := ⟨_, rfl⟩
          rw [hsje] at HCJ hz3
          rw [hsje]
          have g2 : ¬ (9223372036854775807 < sj.size + (str (Plain.putL l ++ Plain.putL (h - l))).size) := by omega
          obtain ⟨dd, hdd⟩ : ∃ x, h - l = x := ⟨_, rfl⟩
          have hw1 : IntKind.i32.wrap ((h : Int) - (l : Int)) = (dd : Int) := by rw [IntKind.wrap_i32]; omega
          have hw2 : IntKind.i64.wrap (l : Int) = (l : Int) := by rw [IntKind.wrap_i64]; omega
          have hw3 : IntKind.i64.wrap (dd : Int) = (dd : Int) := by rw [IntKind.wrap_i64]; omega
          rw [hdd] at HCJ hz4 g2
          clear hx hsj hjp hrg hcj hsje
          go_wp2_with fail
          refine (N2.out l dd _ _ (by simp) (by omega) (by omega)).mono ?_
          rintro e w5 ⟨rfl, hb⟩
          have HB5 := Lib.hid (HB4.out.trans ((below_then (below_alloc (Below.refl w4.heap.size w4) (.cells #[.int .i32 (l : Int), .int .i32 (h : Int)] 104)) hb).mono HB4.out.size))
          clear hb c0 c1
          go_wp2_with fail
          rw [HCJ.out]
          go_roundw
          case rel => exact ⟨j + 1, by omega, by go_num, rfl, HB5.out⟩
          case measure => simp [RowKit.intOf]; omega
        · obtain rfl : rn = j := by omega
          have hfin : pre ++ clsP R rn = nxt := by rw [HSU.out, ← HRN.out, clsP_all]
          rw [hfin]
          go_wp2_with fail
          go_roundw
          case rel => exact ⟨k + 1, by omega, by go_num, by rw [HNXT.out], HBr.out.trans (HB4.out.mono HBr.out.size)⟩
          case measure => simp [RowKit.intOf]; omega
    · obtain rfl : m = k := by omega
      have hfin : clssP (K.map Cs.R) m = Plain.classesL (K.map Cs.R) := by rw [← HM.out, ← clssP_all, List.length_map]
      rw [hfin]
      obtain ⟨CL, hCL⟩ : ∃ x, Plain.classesL (K.map Cs.R) = x := ⟨_, rfl⟩
      have HCLE := Lib.hid hCL
      rw [hCL]
      clear hfin hCL
      go_wp2_with fail
      refine (N1.out n _ _ (by simp) (by omega)).mono ?_
      rintro e w3 ⟨rfl, hb⟩
      have HB3 := Lib.hid (HBr.out.trans (hb.mono HBr.out.size))
      clear hb x0 x1 x2
      obtain ⟨x0, x1, x2⟩ := HX.out w3 HB3.out
      go_wp2_with fail
      go_loopw [9, 11, 62] (fun s _ i wr => ∃ k : Nat, k ≤ n ∧ i = .int .i64 k ∧ s = .string (str (instsP L k)) ∧ RowKit.Below w1.heap.size w1 wr) (fun _ _ i _ => n - (RowKit.intOf i).toNat)
      case atStart => exact ⟨0, Nat.zero_le _, rfl, by unfold instsP; rw [HN.out]; simp, HB3.out⟩
      clear x0 x1 x2
      case round =>
        obtain ⟨w4, rfl⟩ : ∃ x, x = wr := ⟨_, rfl⟩
        obtain ⟨k, hk, rfl, rfl, hB⟩ := hrel
        have HB4 := Lib.hid hB
        clear hB
        obtain ⟨x0, x1, x2⟩ := HX.out w4 HB4.out
        by_cases hlt : k < n
        · have hkl : k < L.length := by rw [HN.out]; exact hlt
          obtain ⟨ib, io, he, hib, c0, c1, c2, c3⟩ := i4_at ((HP.out w4 (below_then HB.out HB4.out)).insts) k hkl
          subst he
          obtain ⟨q0, q1, q2, q3⟩ := HFIT.out.tn L[k] (List.getElem_mem hkl)
          have hsu := instsP_succ L k hkl
          have hpl : (instsP L k).length ≤ 8194 := by
            have h1 := take_len_le Plain.instL L k
            have h2 := HIL.out
            unfold Plain.instsL at h2
            unfold instsP
            rw [List.length_append] at h2 ⊢; omega
          obtain ⟨⟨op, x, y, ar⟩, hx⟩ : ∃ x, L[k] = x := ⟨_, rfl⟩
          rw [hx] at c0 c1 c2 c3 q0 q1 q2 q3 hsu
          dsimp only at c0 c1 c2 c3 q0 q1 q2 q3
          obtain ⟨op, rfl⟩ : ∃ z : Nat, op = z := ⟨op.toNat, by omega⟩
          obtain ⟨x, rfl⟩ : ∃ z : Nat, x = z := ⟨x.toNat, by omega⟩
          obtain ⟨y, rfl⟩ : ∃ z : Nat, y = z := ⟨y.toNat, by omega⟩
          obtain ⟨ar, rfl⟩ : ∃ z : Nat, ar = z := ⟨ar.toNat, by omega⟩
          have hin : Plain.instL ((op : Int), (x : Int), (y : Int), (ar : Int)) = Plain.putL op ++ (Plain.putL x ++ (Plain.putL y ++ Plain.putL ar)) := by unfold Plain.instL; simp only [Int.toNat_natCast]
          rw [hin] at hsu
          have hcj : str (instsP L k) ++ str (Plain.putL op ++ (Plain.putL x ++ (Plain.putL y ++ Plain.putL ar))) = str (instsP L (k + 1)) := by rw [str_app, hsu]
          have HCJ := Lib.hid hcj
          have hz3 : (str (instsP L k)).size ≤ 8194 := by rw [str_size]; exact hpl
          have hz4 : (str (Plain.putL op ++ (Plain.putL x ++ (Plain.putL y ++ Plain.putL ar)))).size ≤ 40 := by
            have h1 := (Plain.putL_len10 op (by omega)).2
            have h2 := (Plain.putL_len10 x (by omega)).2
            have h3 := (Plain.putL_len10 y (by omega)).2
            have h4 := (Plain.putL_len10 ar (by omega)).2
            rw [str_size, List.length_append, List.length_append, List.length_append]; omega
          obtain ⟨sj, hsje⟩ : ∃ x, str (instsP L k) = x := ⟨_, rfl⟩
          rw [hsje] at HCJ hz3
          rw [hsje]
          have g2 : ¬ (9223372036854775807 < sj.size + (str (Plain.putL op ++ (Plain.putL x ++ (Plain.putL y ++ Plain.putL ar)))).size) := by omega
          clear hx hsu hpl hin hcj hsje x0 x1 x2
          go_wp2_with fail
          refine (N4.out op x y ar _ _ (by simp) (by omega) (by omega) (by omega) (by omega)).mono ?_
          rintro e w5 ⟨rfl, hb⟩
          have HB5 := Lib.hid (HB4.out.trans ((below_then (below_alloc (Below.refl w4.heap.size w4) (.cells #[.int .i64 (op : Int), .int .i64 (x : Int), .int .i64 (y : Int), .int .i64 (ar : Int)] 94)) hb).mono HB4.out.size))
          clear hb c0 c1 c2 c3
          go_wp2_with fail
          rw [HCJ.out]
          go_roundw
          case rel => exact ⟨k + 1, by omega, by go_num, rfl, HB5.out⟩
          case measure => simp [RowKit.intOf]; omega
        · obtain rfl : n = k := by omega
          have hfin : instsP L n = Plain.instsL L := by rw [← HN.out, instsP_all]
          rw [hfin]
          have hgl3 : (Plain.putL gn).length ≤ 65536 := by omega
          have cB := Lib.hid (fun (A : Option Addr) (W : World) hX => blob_any 1 80 1 (Plain.putL gn) CL (Plain.instsL L) A 3 W (by omega) rfl (by omega) hgl3 (by rw [← HCLE.out]; have := HCL.out; omega) (by have := HIL.out; omega) hX (by have := HLEN.out.2; unfold Plain.progL at this; rw [HCLE.out, Int.toNat_natCast] at this; omega))
          have hpv : Plain.progL L (K.map Cs.R) gn = Plain.blobL 80 1 (Plain.putL gn) CL (Plain.instsL L) := by unfold Plain.progL; rw [HCLE.out, Int.toNat_natCast]
          rw [← hpv, HRES.out] at cB
          obtain ⟨IL, hIL⟩ : ∃ x, Plain.instsL L = x := ⟨_, rfl⟩
          rw [hIL] at cB ⊢
          clear hfin hpv hIL
          go_wp2_with fail
          refine (N1.out gn _ _ (by simp) (by omega)).mono ?_
          rintro e w5 ⟨rfl, hb⟩
          have HB5 := Lib.hid (HB4.out.trans (hb.mono HB4.out.size))
          clear hb x0 x1 x2
          go_wp2_with fail
          refine (cB.out _ _ (fun _ => ⟨_, 0, rfl, by simp, fun i u hu => by rw [Nat.zero_add]; exact (CellsAt.new w5 #[.string (str (Plain.putL gn)), .string (str CL), .string (str IL)] 9).2 i u hu⟩)).mono ?_
          rintro e w6 ⟨rfl, hb⟩
          have HB6 := Lib.hid (HB5.out.trans ((below_then (below_alloc (Below.refl w5.heap.size w5) _) hb).mono HB5.out.size))
          clear hb
          go_wp2_with fail
          go_ret2
          exact ⟨rfl, below_then HB.out HB6.out⟩
end Go.Proofs.YtmiacgkidldjmaaGreatDoor
