/- The walk of a table: Parts.Index, walk.Find. Conditions: what each lemma says. -/
import Derived.Deep.CutBlock
import Derived.Deep.DeepCutAuto
import Derived.Laws.RangeAny
import Derived.Laws.RangeString
import Derived.Lib.OthersKept
import Derived.Test.YtdonginboioocaaDoorReadsW
set_option linter.unusedVariables false
set_option linter.unusedSimpArgs false
namespace Go.Proofs.YtdonginboioocaaDoor.Plain
theorem cells_get (N : List (List Int)) (p : Nat) (h : ∀ r ∈ N, r.length = p) : ∀ q j, q < N.length → j < p → (cellsOf N).getD (p * q + j) 0 = (N.getD q []).getD j 0 * (p : Int) := by
  induction N with
  | nil => intro q j hq _; simp at hq
  | cons r N ih =>
    intro q j hq hj
    have hr := h r (by simp)
    have ih := ih fun x hx => h x (by simp [hx])
    unfold cellsOf at ih ⊢
    rw [List.flatMap_cons]
    cases q with
    | zero =>
      rw [Nat.mul_zero, Nat.zero_add, List.getD, List.getElem?_append_left (by rw [List.length_map]; omega), List.getElem?_map, List.getElem?_eq_getElem (by omega)]
      show r[j] * (r.length : Int) = (r.getD j 0) * (p : Int)
      rw [getD_lt r 0 j (by omega)]; simp only [hr]
    | succ q =>
      rw [List.getD, List.getElem?_append_right (by rw [List.length_map, hr, Nat.mul_succ]; omega), List.length_map, hr, show p * (q + 1) + j - p = p * q + j from by rw [Nat.mul_succ]; omega]
      exact ih q j (by simpa using hq) hj
theorem goes_tab (P : List Int) (N : List (List Int)) (a : Nat) (h : tabRight P N a = true) (q r : Nat) (hq : q < a) : ∃ x : Nat, (N.getD q []).getD (partOf P r) 0 = (x : Int) ∧ x < a ∧ goes P (cellsOf N) (P.length * q) r = P.length * x := by
  obtain ⟨hp, hn, hn0, hn64, hrow⟩ := tab_right _ _ _ h
  obtain ⟨⟨b0, b64, hz⟩, hb⟩ := parts_bound P hp
  have hpl := partOf_lt P r b0
  have hc := cells_get N P.length (fun r hr => (hrow r hr).1) q (partOf P r) (by omega) hpl
  have hqn : q < N.length := by omega
  have hm : N.getD q [] ∈ N := by rw [getD_lt _ _ _ hqn]; exact List.getElem_mem hqn
  obtain ⟨hl, hx⟩ := hrow _ hm
  have hx := hx ((N.getD q []).getD (partOf P r) 0) (by rw [getD_lt (N.getD q []) 0 _ (by omega)]; exact List.getElem_mem _)
  obtain ⟨x, hxe⟩ : ∃ x : Nat, (N.getD q []).getD (partOf P r) 0 = x := ⟨((N.getD q []).getD (partOf P r) 0).toNat, by omega⟩
  refine ⟨x, hxe, by omega, ?_⟩
  unfold goes
  rw [hc, hxe, ← Int.natCast_mul, Int.toNat_natCast, Nat.mul_comm]
theorem accd_tab (P : List Int) (C : List Bool) (q : Nat) (h0 : 0 < P.length) (hq : q < C.length) : accd P (accsOf C) (P.length * q) = C.getD q false := by
  unfold accd
  rw [Nat.mul_div_cancel_left _ h0]
  exact accs_get C q hq
theorem tab_flat (P : List Int) (N : List (List Int)) (C : List Bool) (h : tabRight P N C.length = true) : Right P (cellsOf N) (accsOf C) :=
  flat_right _ _ _ (fun k hk => by
    obtain ⟨hp, _⟩ := tab_right _ _ _ h
    exact ((parts_bound P hp).2 k hk).1) (fun k hk => (cells_bd P N C.length h k hk).1) (flat_of_table P N C h)
end Go.Proofs.YtdonginboioocaaDoor.Plain
namespace Go.Proofs.YtdonginboioocaaDoor
open Go.RowKit Go.Lib
theorem above_any (x r : Int) (b : Nat) (w : World) (hc : w.cell? ⟨b, 0, none⟩ = some (.int .i32 r)) :
    Calls Tryd.prog 29 #[.int .i32 x, .pointer (some ⟨b, 0, none⟩)] w fun e w' => e = .returned (.bool (decide (r < x))) ∧ Below w.heap.size w w' := by
  go_enter Tryd.func29, Tryd.ntmps29
  go_wp2
  go_ret
  exact ⟨rfl, Below.refl _ _⟩
set_option maxRecDepth 100000 in
set_option maxHeartbeats 1000000 in
theorem idx28_any (L : List Int) (A : Option Addr) (cap : Nat) (b : Nat) (r : Int) (w : World) (hX : Sl w A (i32s L)) (hn : L.length ≤ maxLen)
    (hb : b < w.heap.size) (hc : w.cell? ⟨b, 0, none⟩ = some (.int .i32 r)) :
    Calls Tryd.prog 28 #[.slice A L.length cap, .func (Fn.func 29) #[] #[.pointer (some ⟨b, 0, none⟩)]] w fun e w' => e = .returned (.int .i64 (Plain.idx (fun low => decide (r < low)) L)) ∧ Below w.heap.size w w' := by
  unfold maxLen at hn
  obtain ⟨n, hN⟩ : ∃ n, L.length = n := ⟨_, rfl⟩
  have HX := Lib.hid hX
  have HC := Lib.hid hc
  have HNN := Lib.hid hN
  rw [hN] at hn ⊢
  clear hX hc hN
  go_enter Tryd.func28, Tryd.ntmps28
  go_wp2
  go_loopw [5, 8] (fun _ i wr => ∃ k : Nat, k ≤ n ∧ i = .int .i64 k ∧ (∀ j, j < k → decide (r < L.getD j 0) = false) ∧ Below w.heap.size w wr) (fun _ i _ => n - (RowKit.intOf i).toNat)
  case atStart => exact ⟨0, Nat.zero_le _, rfl, fun j h => absurd h (by omega), Below.refl _ _⟩
  case round =>
    obtain ⟨k, hk, rfl, hall, hB⟩ := hrel
    have HA := Lib.hid hall
    clear hall
    by_cases hlt : k < n
    · have hkl : k < L.length := by rw [HNN.out]; exact hlt
      obtain ⟨ba, off, rfl, hba, c0⟩ := (HX.out.below hB).get k hkl
      have hcb := (hB.cell (p := ⟨b, 0, none⟩) hb).trans HC.out
      obtain ⟨x, hx⟩ : ∃ x, L.getD k 0 = x := ⟨_, rfl⟩
      rw [hx] at c0
      have HXX := Lib.hid hx
      clear hx
      obtain ⟨q, hq⟩ : ∃ q, decide (r < x) = q := ⟨_, rfl⟩
      have cS := fun (W : World) (h2 : W.cell? ⟨b, 0, none⟩ = some (.int .i32 r)) => above_any x r b W h2
      rw [hq] at cS
      have HQ := Lib.hid hq
      have HS := Lib.hid cS
      clear hq cS
      cases q
      · go_wp2_with (go_at_call 29; refine (HS.out _ hcb).mono ?_; rintro e w' ⟨rfl, hb1⟩)
        go_roundw
        case rel =>
          refine ⟨k + 1, by omega, by go_num, fun j hj => ?_, hB.trans ((by assumption : Below wr.heap.size wr _).mono hB.size)⟩
          rcases Nat.lt_or_ge j k with h | h
          · exact HA.out j h
          · obtain rfl : j = k := by omega
            rw [HXX.out]; exact HQ.out
        case measure => simp [RowKit.intOf]; omega
      · have hv := Plain.idx_some (fun low => decide (r < low)) L 0 k hkl HA.out (by rw [HXX.out]; exact HQ.out)
        have HV := Lib.hid hv
        clear hv
        go_wp2_with (go_at_call 29; refine (HS.out _ hcb).mono ?_; rintro e w' ⟨rfl, hb1⟩)
        go_ret
        exact ⟨ret_int HV.out.symm, hB.trans ((by assumption : Below wr.heap.size wr _).mono hB.size)⟩
    · obtain rfl : n = k := by omega
      have hv := Plain.idx_none (fun low => decide (r < low)) L 0 (by rw [HNN.out]; exact HA.out)
      have HV := Lib.hid hv
      clear hv
      go_wp2
      go_ret
      exact ⟨ret_int HV.out.symm, hB⟩
theorem Sl.drop1v {w : World} {b off : Nat} {xs : List Value} (h : Sl w (some ⟨b, off, none⟩) xs) : Sl w (some ⟨b, off + 1, none⟩) (xs.drop 1) := fun hn => by
  rw [List.length_drop] at hn
  obtain ⟨b', off', e, hb, hc⟩ := h (by omega)
  injection e with e
  injection e with e1 e2 e3
  subst e1 e2
  exact ⟨b, off + 1, rfl, hb, fun i u hu => by rw [Nat.add_assoc]; exact hc (1 + i) u (by rw [← hu, List.getElem?_drop])⟩
theorem part_idx (P : List Int) (r : Int) : (Plain.idx (fun low => decide (r < low)) (P.drop 1) = (Plain.partOf P r : Nat) ∧ Plain.partOf P r < P.length - 1) ∨ (Plain.idx (fun low => decide (r < low)) (P.drop 1) = -1 ∧ Plain.partOf P r = P.length - 1) := by
  unfold Plain.idx Plain.partOf
  cases h : (P.drop 1).any fun low => decide (r < low)
  · right
    refine ⟨rfl, ?_⟩
    rw [List.findIdx_eq_length.2 (fun x hx => by have := List.any_eq_false.1 h x hx; simpa using this), List.length_drop]
  · left
    refine ⟨rfl, ?_⟩
    obtain ⟨x, hx, hp⟩ := List.any_eq_true.1 h
    have := List.findIdx_lt_length_of_exists (p := fun low => decide (r < low)) ⟨x, hx, hp⟩
    rwa [List.length_drop] at this
set_option maxRecDepth 100000 in
set_option maxHeartbeats 1000000 in
theorem index_any (P : List Int) (A : Option Addr) (cap : Nat) (r : Int) (w : World) (hX : Sl w A (i32s P)) (h0 : 0 < P.length) (hn : P.length ≤ 64) (hcp : P.length ≤ cap) :
    Calls Tryd.prog 19 #[.slice A P.length cap, .int .i32 r] w fun e w' => e = .returned (.int .i64 (Plain.partOf P r : Nat)) ∧ Below w.heap.size w w' := by
  obtain ⟨b, off, rfl, hbl, _⟩ := hX (by simpa [i32s] using h0)
  have hdl : (P.drop 1).length = P.length - 1 := List.length_drop
  have hpi := part_idx P r
  have hb0 : Below w.heap.size w (w.alloc (.cells #[.int .i32 r] 21)) := (Below.refl _ _).alloc (Nat.le_refl _) _
  have c28 : ∀ o c, o = off + 1 ∨ P.length = 1 → Calls Tryd.prog 28 #[.slice (some ⟨b, o, none⟩) (P.length - 1) c, .func (Fn.func 29) #[] #[.pointer (some ⟨w.heap.size, 0, none⟩)]] (w.alloc (.cells #[.int .i32 r] 21)) fun e w' => e = .returned (.int .i64 (Plain.idx (fun low => decide (r < low)) (P.drop 1))) ∧ Below (w.alloc (.cells #[.int .i32 r] 21)).heap.size (w.alloc (.cells #[.int .i32 r] 21)) w' := fun o c ho => by
    rw [← hdl]
    refine idx28_any (P.drop 1) _ c w.heap.size r _ ?_ (by rw [hdl]; unfold maxLen; omega) (by simp) ((CellsAt.new w _ _).at_ 0 _ rfl)
    rcases ho with rfl | ho
    · have h := (hX.below hb0).drop1v
      unfold i32s at h ⊢
      rwa [← List.map_drop] at h
    · intro hh; simp [i32s] at hh; omega
  obtain ⟨k, hk⟩ : ∃ k, Plain.partOf P r = k := ⟨_, rfl⟩
  obtain ⟨z, hz⟩ : ∃ z, Plain.idx (fun low => decide (r < low)) (P.drop 1) = z := ⟨_, rfl⟩
  rw [hk, hz] at hpi
  rw [hz] at c28
  rw [hk]
  have HC := Lib.hid c28
  have HB0 := Lib.hid hb0
  clear c28 hb0 hdl hX hk hz
  obtain ⟨n, hN⟩ : ∃ n, P.length = n := ⟨_, rfl⟩
  rw [hN] at h0 hn hcp hpi HC ⊢
  clear hN
  have hmin : min (n : Int) 1 = 1 := by omega
  have hi1 : (1 : Int) ≤ (n : Int) := by omega
  have hi2 : (n : Int) ≤ (cap : Int) := by omega
  by_cases hc1 : cap = 1
  · have hn1 : n = 1 := by omega
    subst hc1 hn1
    go_enter Tryd.func19, Tryd.ntmps19
    have hC1 := HC.out off 0 (.inr (by simp))
    rw [show (1 : Nat) - 1 = 0 from rfl] at hC1
    have HC1 := Lib.hid hC1
    clear hC1
    go_wp2_with fail
    refine HC1.out.mono ?_
    rintro e w1 ⟨rfl, hb1⟩
    have hF := HB0.out.trans (hb1.mono (by simp))
    have HF := Lib.hid hF
    clear hF hb1
    rcases hpi with ⟨rfl, h⟩ | ⟨rfl, rfl⟩
    · omega
    · go_wp2
      go_ret
      exact ⟨rfl, HF.out⟩
  · go_enter Tryd.func19, Tryd.ntmps19
    go_wp2_with fail
    refine (HC.out _ _ (.inl rfl)).mono ?_
    rintro e w1 ⟨rfl, hb1⟩
    have hF := HB0.out.trans (hb1.mono (by simp))
    have HF := Lib.hid hF
    clear hF hb1
    rcases hpi with ⟨rfl, h⟩ | ⟨rfl, rfl⟩
    · go_wp2
      go_ret
      exact ⟨rfl, HF.out⟩
    · go_wp2
      go_ret
      exact ⟨ret_int (by omega), HF.out⟩
end Go.Proofs.YtdonginboioocaaDoor
namespace Go.Proofs.YtdonginboioocaaDoor
open Go.RowKit Go.Lib
theorem Sl.at_ {w : World} {A : Option Addr} {xs : List Value} (h : Sl w A xs) (j : Nat) (u : Value) (hu : xs[j]? = some u) : ∃ b off, A = some ⟨b, off, none⟩ ∧ b < w.heap.size ∧ w.cell? ⟨b, off + j, none⟩ = some u := by
  have hj := (List.getElem?_eq_some_iff.1 hu).1
  obtain ⟨b, off, e, hb, hc⟩ := h (by omega)
  exact ⟨b, off, e, hb, hc j u hu⟩
theorem decode_drop (s : ByteArray) (pos : Nat) : Utf8.decode s pos = decodeL (s.data.toList.drop pos) := (decodeL_drop s pos).symm
set_option maxRecDepth 1000000 in
set_option maxHeartbeats 8000000 in
theorem wfind_any (PA : Option Addr) (P : List Int) (pc : Nat) (NA : Option Addr) (R : List Row) (nc : Nat) (AA : Option Addr) (C : List Bool) (ac : Nat) (s : ByteArray) (w : World) (hT : TabAt w PA P NA R AA C) (hpc : P.length ≤ pc) (hs : s.size ≤ 4398046511104) :
    Calls Tryd.prog 13 #[tabV PA P pc NA R nc AA C ac, .string s] w fun e w' => e = .returned (if Plain.tabRight P (nums R) C.length then foundV (Plain.findN P (Plain.cellsOf (nums R)) (Plain.accsOf C) s.size s.data.toList 0 0) else foundV none) ∧ Below w.heap.size w w' := by
  have hb0 : Below w.heap.size w (w.alloc (.cells #[.slice PA P.length pc, .slice NA R.length nc, .slice AA C.length ac] 27)) := (Below.refl _ _).alloc (Nat.le_refl _) _
  have cR := tright_any PA P pc NA R nc AA C ac _ (hT.below hb0)
  have hC0 := CellsAt.new w #[.slice PA P.length pc, .slice NA R.length nc, .slice AA C.length ac] 27
  unfold tabV at cR ⊢
  obtain ⟨q, hq⟩ : ∃ q, Plain.tabRight P (nums R) C.length = q := ⟨_, rfl⟩
  rw [hq] at cR ⊢
  obtain ⟨tot, htot⟩ : ∃ t, Plain.findN P (Plain.cellsOf (nums R)) (Plain.accsOf C) s.size s.data.toList 0 0 = t := ⟨_, rfl⟩
  rw [htot]
  have HTOT := Lib.hid htot
  clear htot
  have HR := Lib.hid cR
  have HT := Lib.hid hT
  have HB0 := Lib.hid hb0
  have HC0 := Lib.hid hC0
  have HQ := Lib.hid hq
  have hsl : s.data.toList.length = s.size := by simp
  have HSL := Lib.hid hsl
  clear cR hT hb0 hC0 hq hsl
  go_enter Tryd.func13, Tryd.ntmps13
  go_wp2_with fail
  refine HR.out.mono ?_
  rintro e w1 ⟨rfl, hb1⟩
  have hB1 := HB0.out.trans (hb1.mono (by simp))
  have hC1 := HC0.out.below hb1
  have hgw := hC1.1
  have k0 := hC1.at_ 0 _ rfl
  have k1 := hC1.at_ 1 _ rfl
  have k2 := hC1.at_ 2 _ rfl
  have HC1 := Lib.hid hC1
  have HB1 := Lib.hid hB1
  clear hC1 hB1 hb1 HR
  cases q
  · go_wp2
    go_ret2
    exact ⟨rfl, HB1.out⟩
  · have hfl := Plain.tab_flat P (nums R) C HQ.out
    obtain ⟨hpr, hnl, hm0, hm64, hrows⟩ := Plain.tab_right _ _ _ HQ.out
    obtain ⟨⟨hp0, hp64, _⟩, hpb⟩ := Plain.parts_bound P hpr
    have hRl : R.length = C.length := by rw [← hnl]; simp [nums]
    have hst0 := Plain.FindSt.start hfl s.data.toList s.size (by rw [HSL.out]; exact Nat.le_refl _)
    rw [HTOT.out] at hst0
    have hT1 := HT.out.below HB1.out
    have cI := fun (W : World) (hb : Below w1.heap.size w1 W) (r : Int) => index_any P PA pc r W (hT1.parts.below hb) hp0 hp64 hpc
    have HCI := Lib.hid cI
    have HT1 := Lib.hid hT1
    have HFL := Lib.hid hfl
    have HST0 := Lib.hid hst0
    have HROW := Lib.hid hrows
    have HNL := Lib.hid hnl
    have hC64 : C.length ≤ 64 := by omega
    have hC1 : 0 < C.length := by omega
    rw [hRl] at k1 ⊢
    clear hst0 hfl hpr hrows hpb cI hT1 hnl hm0 hm64
    go_wp2_with fail
    go_loopw [6] (fun st wr => ∃ pos q : Nat, st = .int .i64 q ∧ q < C.length ∧ Plain.FindSt P (Plain.cellsOf (nums R)) (Plain.accsOf C) s.data.toList tot pos (P.length * q) ∧ wr.heap[w1.heap.size]? = some (.stringIter s pos) ∧ Below w1.heap.size w1 wr) (fun _ wr => s.size - wr.iterPos w1.heap.size)
    case atStart => exact ⟨0, 0, rfl, hC1, HST0.out, heap_alloc_new _ _, (Below.refl _ _).alloc (Nat.le_refl _) _⟩
    case round =>
      obtain ⟨pos, q, rfl, hqc, hst, hki, hB⟩ := hrel
      have HST := Lib.hid hst
      have HKI := Lib.hid hki
      have hqR : q < R.length := by omega
      obtain ⟨⟨rA, rc, L⟩, hrq⟩ : ∃ r, R[q] = r := ⟨_, rfl⟩
      have hrw := HT1.out.row R[q] (List.getElem_mem hqR)
      have hrn := (HROW.out (R[q]).2.2 (by unfold nums; exact List.mem_map.2 ⟨R[q], List.getElem_mem hqR, rfl⟩)).1
      have hnq : (nums R).getD q [] = (R[q]).2.2 := by unfold nums; rw [List.getD, List.getElem?_map, List.getElem?_eq_getElem hqR]; rfl
      obtain ⟨nb, no, hNA, hnb, hnc⟩ := HT1.out.rows.at_ q (rowV R[q]) (by rw [List.getElem?_map, List.getElem?_eq_getElem hqR]; rfl)
      obtain ⟨ab, ao, hAA, hab, hacl⟩ := HT1.out.acc.at_ q (.bool (C.getD q false)) (by rw [List.getElem?_map, List.getElem?_eq_getElem hqc, Plain.getD_lt _ _ _ hqc]; rfl)
      rw [hrq] at hrw hrn hnq hnc
      unfold rowV at hnc
      dsimp only at hrw hrn hnq hnc
      rw [hrn] at hnc
      subst hNA hAA
      obtain ⟨b, hb⟩ : ∃ b, C.getD q false = b := ⟨_, rfl⟩
      have hacc := Plain.accd_tab P C q hp0 hqc
      rw [hb] at hacl hacc
      have HAC := Lib.hid hacc
      have hi0 : (0 : Int) ≤ (q : Int) := by omega
      have hi1 : (q : Int) < (C.length : Int) := by omega
      clear hst hacc hb hrq
      by_cases hp : pos < s.size
      · have hgo := fun r => Plain.goes_tab P (nums R) C.length HQ.out q r hqc
        have hstep := fun ha => HST.out.step HFL.out ha (by rw [HSL.out]; exact hp)
        obtain ⟨d1, d2⟩ := Plain.dec_le s.data.toList pos (by rw [HSL.out]; exact hp)
        have hnx : ∀ ty, (Instr.next (.pointer (some ⟨w1.heap.size, 0, none⟩)) true ty).run Tryd.prog wr = _ := fun ty => run_next_any_at wr w1.heap.size s pos ty hki hp
        rw [decode_drop] at hnx
        obtain ⟨⟨r, sz⟩, hd⟩ : ∃ x, decodeL (s.data.toList.drop pos) = x := ⟨_, rfl⟩
        rw [hd] at hnx hstep d1 d2
        dsimp only at hnx hstep d1 d2
        obtain ⟨x, hx1, hx2, hx3⟩ := hgo r
        rw [hx3] at hstep
        rw [hnq] at hx1
        obtain ⟨j, hj⟩ : ∃ j, Plain.partOf P r = j := ⟨_, rfl⟩
        have hjl : j < P.length := by rw [← hj]; exact Plain.partOf_lt P r hp0
        rw [hj] at hx1
        obtain ⟨rb, ro, hrA, hrb, hrcl⟩ := hrw.1.at_ j (.int .i64 x) (by unfold i64s; rw [List.getElem?_map, List.getElem?_eq_getElem (by omega), ← hx1, Plain.getD_lt _ _ _ (by omega)]; rfl)
        subst hrA
        have hk2 := iterAt_heap wr w1.heap.size s pos (pos + sz) hki
        have hB2 := below_iterAt hB (Nat.le_refl _) s (pos + sz)
        obtain ⟨w2, hw2⟩ : ∃ w2, wr.iterAt w1.heap.size s (pos + sz) = w2 := ⟨_, rfl⟩
        rw [hw2] at hnx hk2 hB2
        have e0 := (hB2.cell (p := ⟨w.heap.size, 0, none⟩) hgw).trans k0
        have e1 := (hB2.cell (p := ⟨w.heap.size, 1, none⟩) hgw).trans k1
        have e2 := (hB2.cell (p := ⟨w.heap.size, 2, none⟩) hgw).trans k2
        have hacl2 := (hB2.cell (p := ⟨ab, ao + q, none⟩) hab).trans hacl
        have hnc2 := (hB2.cell (p := ⟨nb, no + q, none⟩) hnb).trans hnc
        have hrc2 := (hB2.cell (p := ⟨rb, ro + j, none⟩) hrb).trans hrcl
        have l1 : w.heap.size < w2.heap.size := Nat.lt_of_lt_of_le hgw hB2.size
        have l2 : nb < w2.heap.size := Nat.lt_of_lt_of_le hnb hB2.size
        have l3 : rb < w2.heap.size := Nat.lt_of_lt_of_le hrb hB2.size
        have cI := HCI.out w2.drew hB2.drew r
        rw [hj] at cI
        have HCI2 := Lib.hid cI
        have HSTP := Lib.hid hstep
        have HK2 := Lib.hid hk2
        have HB2 := Lib.hid hB2
        have hj0 : (0 : Int) ≤ (j : Int) := by omega
        have hj1 : (j : Int) < (P.length : Int) := by omega
        clear hgo hstep hd hw2 hk2 hB2 cI hj hx1 hx3 hki hB k0 k1 k2 hrcl hnc hacl hrw hnq hrn
        cases b
        · go_wp2_with fail
          go_region_held3 (fun w' => w'.cell? ⟨w.heap.size, 0, none⟩ = some (.slice PA P.length pc) ∧ w'.cell? ⟨w.heap.size, 1, none⟩ = some (.slice (some ⟨nb, no, none⟩) C.length nc) ∧ w'.cell? ⟨nb, no + q, none⟩ = some (.slice (some ⟨rb, ro, none⟩) P.length rc) ∧ w'.cell? ⟨rb, ro + j, none⟩ = some (.int .i64 x))
            (first | go_keep | exact ⟨(hb3.cell (p := ⟨w.heap.size, 0, none⟩) l1).trans e0, (hb3.cell (p := ⟨w.heap.size, 1, none⟩) l1).trans e1, (hb3.cell (p := ⟨nb, no + q, none⟩) l2).trans hnc2, (hb3.cell (p := ⟨rb, ro + j, none⟩) l3).trans hrc2⟩)
            (first | (go_at_call 19; (with_reducible refine HCI2.out.mono ?_); rintro e w3 ⟨rfl, hb3⟩))
          have hb4 : Below w2.heap.size w2 w3 := ⟨hb3.os, hb3.tape, hb3.output, hb3.size, hb3.block⟩
          have hsx := HSTP.out HAC.out
          have hk3 : w3.heap[w1.heap.size]? = some (.stringIter s (pos + sz)) := (hb4.block _ (Array.getElem?_eq_some_iff.1 HK2.out).1).trans HK2.out
          have HK3 := Lib.hid hk3
          have HB3 := Lib.hid (HB2.out.trans (hb4.mono HB2.out.size))
          have HSX := Lib.hid hsx
          clear hb3 hb4 hk3 hsx
          go_wp2
          go_roundw
          case rel => exact ⟨pos + sz, x, rfl, hx2, HSX.out, HK3.out, HB3.out⟩
          case measure => simp [World.iterPos, HK3.out, HKI.out]; omega
        · have ht := HST.out.acc HAC.out
          have HTT := Lib.hid ht
          clear ht
          go_wp2_with fail
          go_ret2
          exact ⟨by simp [HTT.out, foundV], HB1.out.trans (HB2.out.mono HB1.out.size)⟩
      · have hnx : ∀ ty, (Instr.next (.pointer (some ⟨w1.heap.size, 0, none⟩)) true ty).run Tryd.prog wr = _ := fun ty => run_next_end_at wr w1.heap.size s pos ty hki hp
        have hpe : pos = s.size := by have := HST.out.le; rw [HSL.out] at this; omega
        have HPE := Lib.hid hpe
        have e0 := (hB.cell (p := ⟨w.heap.size, 0, none⟩) hgw).trans k0
        have e1 := (hB.cell (p := ⟨w.heap.size, 1, none⟩) hgw).trans k1
        have e2 := (hB.cell (p := ⟨w.heap.size, 2, none⟩) hgw).trans k2
        have hacl2 := (hB.cell (p := ⟨ab, ao + q, none⟩) hab).trans hacl
        have HBB := Lib.hid hB
        clear hki hB hpe k0 k1 k2 hacl hnc hrw hrn hnq
        cases b
        · have ht := HST.out.fin HAC.out (by rw [HPE.out, HSL.out])
          have HTT := Lib.hid ht
          clear ht
          go_wp2_with fail
          go_ret2
          exact ⟨by simp [HTT.out, foundV], HB1.out.trans (HBB.out.mono HB1.out.size)⟩
        · have ht := HST.out.acc HAC.out
          have HTT := Lib.hid ht
          clear ht
          go_wp2_with fail
          go_ret2
          exact ⟨by simp [HTT.out, foundV, HPE.out], HB1.out.trans (HBB.out.mono HB1.out.size)⟩
end Go.Proofs.YtdonginboioocaaDoor
