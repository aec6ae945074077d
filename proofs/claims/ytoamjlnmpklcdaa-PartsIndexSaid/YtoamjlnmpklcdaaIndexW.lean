/- Chapter 10, PartsIndex: the law answers true at any numbers of 16 bits and any rune. Conditions: what each lemma says. -/
import Derived.Test.YtoamjlnmpklcdaaEx
set_option linter.unusedVariables false
set_option linter.unusedSimpArgs false
namespace Go.Proofs.Ytoamjlnmpklcdaa
open Go.RowKit Go.Lib
open Plain (Up partOf partsRight)
set_option maxRecDepth 100000 in
theorem low1_any (n c b off k : Nat) (v : Int) (w : World) (hk : k < n) (hc : w.cell? ⟨b, off + k, none⟩ = some (.int .i32 v)) :
    Calls Try.prog 9 #[.slice (some ⟨b, off, none⟩) n c, .int .i64 (k : Nat)] w fun e w' => e = .returned (.int .i32 v) ∧ w' = w := by
  have d0 : decide ((k : Int) < 0) = false := by simp
  have d1 : decide ((k : Int) ≥ (n : Int)) = false := by simp; omega
  have h0 : (0 : Int) ≤ (k : Int) := by omega
  have h1 : (k : Int) < (n : Int) := by omega
  go_enter Try.func9, Try.ntmps9
  go_wp2_with fail
  go_ret
  exact ⟨rfl, rfl⟩
def PiRel (w : World) (m : Nat) (p l i : Value) (wr : World) : Prop :=
  ∃ (k : Nat) (P : List Int), k ≤ m ∧ k ≤ 20 ∧ i = .int .i64 k ∧ P.length = k + 1 ∧ Up P ∧ l = .int .i32 (P.getD k 0) ∧ 0 ≤ P.getD k 0 ∧ P.getD k 0 ≤ 50000 * k ∧ wr.ownsRow w.heap.size 21 1 p (k + 1) (i32s P) ∧ Below w.heap.size w wr
set_option maxRecDepth 100000 in
set_option maxHeartbeats 8000000 in
theorem partsIndex_any (L : List Int) (A0 : Option Addr) (c0 : Nat) (r : Int) (w : World) (hX : Sl w A0 (L.map (Value.int .u16))) (hu : ∀ x ∈ L, 0 ≤ x ∧ x < 65536) (hr0 : 0 ≤ r) (hr1 : r < 4294967296) :
    Calls Try.prog 3 #[.slice A0 L.length c0, .int .u32 r] w fun e w' => e = .returned (.bool true) ∧ Below w.heap.size w w' := by
  obtain ⟨i21, hi21, y0, y1, y2⟩ := info_parts info21
  have HX := Lib.hid hX
  have HU := Lib.hid hu
  have HE := Lib.hid (fun W => examples_any W)
  obtain ⟨m, hm⟩ : ∃ m, L.length = m := ⟨_, rfl⟩
  rw [hm]
  have HM := Lib.hid hm
  clear hX hu hm
  go_enter Try.func3, Try.ntmps3
  go_wp2_with fail
  refine (HE.out _).mono ?_
  rintro e w1 ⟨rfl, hb1⟩
  have HB1 := Lib.hid hb1
  clear hb1
  go_wp2_with fail
  have hO0 : (w1.alloc (.cells #[.int .i32 0] 21)).ownsRow w.heap.size 21 1 (.slice (some ⟨w1.heap.size, 0, none⟩) 1 1) 1 (i32s [0]) := ⟨rfl, .inr ⟨w1.heap.size, 1, #[.int .i32 0], rfl, HB1.out.size, heap_alloc_new2 _ _ _ _ rfl, Nat.le_refl _, by unfold maxLen; omega, rfl, rfl⟩⟩
  have HO0 := Lib.hid hO0
  have HBW := Lib.hid (HB1.out.alloc HB1.out.size (.cells #[.int .i32 0] 21))
  clear hO0
  go_loopw [6, 7, 8] (fun p l i wr => PiRel w m p l i wr) (fun _ _ i _ => m - (RowKit.intOf i).toNat)
  case atStart => exact ⟨0, [0], Nat.zero_le _, by omega, rfl, rfl, Up.one, rfl, by decide, by decide, HO0.out, HBW.out⟩
  case round =>
    obtain ⟨k, P, hk, hk20, rfl, hP, hup, rfl, hl0, hl1, hO, hB⟩ := hrel
    obtain ⟨ua, uc, rfl⟩ := own_slice hO
    obtain ⟨lst, hlst⟩ : ∃ lst, P.getD k 0 = lst := ⟨_, rfl⟩
    rw [hlst] at hl0 hl1 ⊢
    have HL := Lib.hid hlst
    have HOr := Lib.hid hO
    have HBr := Lib.hid hB
    have HP := Lib.hid hP
    have HUP := Lib.hid hup
    clear hO hB hP hup hlst
    by_cases hlt : k < m ∧ k < 20
    · obtain ⟨hlt, hlt2⟩ := hlt
      have hkl : k < L.length := by rw [HM.out]; exact hlt
      obtain ⟨ba, off, rfl, hba, cc⟩ := Sl.get (HX.out.below HBr.out) k hkl
      have hx := HU.out (L.getD k 0) (by rw [List.getD_eq_getElem?_getD, List.getElem?_eq_getElem hkl]; exact List.getElem_mem hkl)
      obtain ⟨x, hxx⟩ : ∃ x, L.getD k 0 = x := ⟨_, rfl⟩
      rw [hxx] at cc hx
      clear hxx
      have hv0 : 0 ≤ x % 50000 := by omega
      have hv1 : x % 50000 < 50000 := by omega
      go_wp2_with (at_builtin; refine wpList_append_own2 _ rfl (.tmp 35) (.tmp 37) _ rfl w.heap.size 21 i21 _ 1 4 Try.underlying26 hi21 y0 y1 y2 rfl (by decide) (.slice ua (k + 1) uc) (k + 1) (i32s P) rfl (HOr.out.alloc _) ⟨wr.heap.size, 0, none⟩ 1 1 [.int .i32 (lst + 1 + x % 50000)] rfl rfl (CellsAt_add (CellsAt.new wr _ _)) (fun u hu => by simp only [List.mem_cons, List.not_mem_nil, or_false] at hu; subst hu; rfl) (by simp only [maxLen]; omega) (by omega) (by have := HBr.out.size; simp; omega) ?_)
      intro v7 w7 hown7 hg7 hvb7
      have hB7 : Below w.heap.size w w7 := (HBr.out.alloc HBr.out.size _).grown hg7 (by have := HBr.out.size; simp; omega) (fun g hg => (HOr.out.lt g hg).1)
      have HB7 := Lib.hid hB7
      have HO7 := Lib.hid hown7
      clear hB7 hg7 hown7 hvb7 cc
      go_wp2
      go_roundw
      case rel =>
        have hend : (P ++ [lst + 1 + x % 50000]).getD (k + 1) 0 = lst + 1 + x % 50000 := by rw [← HP.out]; exact Plain.getD_end _ _
        refine ⟨k + 1, P ++ [lst + 1 + x % 50000], by omega, by omega, by go_num, ?_, ?_, ?_, ?_, ?_, ?_, HB7.out⟩
        · rw [List.length_append, HP.out]; rfl
        · exact HUP.out.snoc HP.out (by rw [HL.out]; omega)
        · rw [hend]
        · rw [hend]; omega
        · rw [hend]; omega
        · have h := HO7.out
          unfold i32s at h ⊢
          rw [List.map_append]; exact h
      case measure => simp [RowKit.intOf]; omega
    · have hpos : 0 < k + 1 := by omega
      obtain ⟨g, cap, hv, hnc, hbg, _⟩ := own_at HOr.out hpos
      injection hv with hv1 hv2 hv3
      subst hv1 hv3
      clear hv2
      have hgl : g < wr.heap.size := (HOr.out.lt g rfl).2
      have hS : Sl wr (some ⟨g, 0, none⟩) (i32s P) := fun _ => ⟨g, 0, rfl, hgl, fun j u hu => by rw [Nat.zero_add]; exact own_cell HOr.out j u hu⟩
      obtain ⟨x, hx⟩ : ∃ x, r % 1114112 = x := ⟨_, rfl⟩
      have hx0 : 0 ≤ x := by omega
      obtain ⟨q, hq⟩ : ∃ q, partOf P x = q := ⟨_, rfl⟩
      have hpt := HUP.out.part hx0
      rw [hq, HP.out] at hpt
      obtain ⟨hq1, hq2, hq3⟩ := hpt
      have C7 := Lib.hid (fun W (hb : Below wr.heap.size wr W) (v : Int) (j : Nat) (hj : partOf P v = j) => by
        have h := index_any P (some ⟨g, 0, none⟩) uc v W (hS.below hb) (by rw [HP.out]; omega) (by rw [HP.out]; omega) (by rw [HP.out]; exact hnc)
        rw [HP.out, hj] at h
        exact h)
      have C8 := Lib.hid (fun W (hb : Below wr.heap.size wr W) => by
        have h := pright_any P (some ⟨g, 0, none⟩) uc W (hS.below hb) (by rw [HP.out]; unfold maxLen; omega)
        rw [HP.out, HUP.out.right HP.out (by omega) (by rw [HL.out]; omega)] at h
        exact h)
      have C9 := Lib.hid (fun W (hb : Below wr.heap.size wr W) (i v : Int) (hv : lowAt P i = v) => by
        have h := low_any P (some ⟨g, 0, none⟩) uc i W (hS.below hb)
        rw [HP.out, hv] at h
        exact h)
      have HS := Lib.hid hS
      have HQ := Lib.hid hq
      have HHX := Lib.hid hx
      clear hS hq
      go_wp2_with fail
      all_goals rw [HHX.out]
      all_goals
        refine (C7.out _ (Below.refl _ _) x q HQ.out).mono ?_
        rintro e w2 ⟨rfl, hb2⟩
        have HB2 := Lib.hid hb2
        clear hb2
        have hqr : Below wr.heap.size wr w2 := HB2.out
        obtain ⟨y, hy⟩ : ∃ y, P.getD q 0 = y := ⟨_, rfl⟩
        rw [hy] at hq2
        have c0 : w2.cell? ⟨g, q, none⟩ = some (.int .i32 y) := by
          have h := (own_cell HOr.out q (.int .i32 (P.getD q 0)) (i32s_at P q (by rw [HP.out]; exact hq1)))
          rw [hy] at h
          exact (HB2.out.cell (p := ⟨g, q, none⟩) hgl).trans h
        go_wp2_with fail
        refine (C8.out _ HB2.out).mono ?_
        rintro e w3 ⟨rfl, hb3⟩
        have HB3 := Lib.hid (HB2.out.trans (hb3.mono HB2.out.size))
        have c0' := (hb3.cell (p := ⟨g, q, none⟩) (Nat.lt_of_lt_of_le hgl HB2.out.size)).trans c0
        clear c0 hb3 hqr
        have d1 : decide ((q : Int) < 0) = false := by simp
        have d2 : decide ((q : Int) ≥ ((k + 1 : Nat) : Int)) = false := by simp; omega
        have d3 : decide (y > x) = false := by simp; omega
        have e1 : IntKind.i64.wrap ((q : Int) + 1) = (q : Int) + 1 := by rw [IntKind.wrap_i64]; omega
        have i0 : (0 : Int) ≤ (q : Int) := by omega
        have i1 : (q : Int) < ((k + 1 : Nat) : Int) := by omega
        by_cases hn : q + 1 < k + 1
        case' pos =>
          have d4 : decide ((q : Int) + 1 < ((k + 1 : Nat) : Int)) = true := by simp; omega
          have h4 := hq3 hn
          obtain ⟨z, hz⟩ : ∃ z, P.getD (q + 1) 0 = z := ⟨_, rfl⟩
          rw [hz] at h4
          have d5 : decide (z ≤ x) = false := by simp; omega
          have c1 : w3.cell? ⟨g, q + 1, none⟩ = some (.int .i32 z) := by
            have h := (own_cell HOr.out (q + 1) (.int .i32 (P.getD (q + 1) 0)) (i32s_at P (q + 1) (by rw [HP.out]; exact hn)))
            rw [hz] at h
            exact (HB3.out.cell (p := ⟨g, q + 1, none⟩) hgl).trans h
          go_wp2_with fail
          clear h4 hz c1 d5
        case' neg =>
          have d4 : decide ((q : Int) + 1 < ((k + 1 : Nat) : Int)) = false := by simp; omega
          go_wp2_with fail
        all_goals
          clear c0' d1 d2 d3 d4 e1 i0 i1 hn hq2 hq3 hq1 hy
          obtain ⟨wa, rfl⟩ : ∃ wa, wa = wr := ⟨_, rfl⟩
          go_loopw [11] (fun i w4 => ∃ j : Nat, j ≤ k + 1 ∧ i = .int .i64 j ∧ Below wa.heap.size wa w4) (fun i _ => (k + 1) - (RowKit.intOf i).toNat)
          case atStart => exact ⟨0, Nat.zero_le _, rfl, HB3.out⟩
          case round =>
            obtain ⟨j, hj, rfl, hB⟩ := hrel
            have HB := Lib.hid hB
            clear hB
            by_cases hlj : j < k + 1
            · have HBd := Lib.hid HB.out.drew
              obtain ⟨y2, hy2⟩ : ∃ y2, P.getD j 0 = y2 := ⟨_, rfl⟩
              have C7j := Lib.hid (C7.out _ HBd.out y2 j (by rw [← hy2]; exact HUP.out.at_ j (by rw [HP.out]; exact hlj)))
              have C9j := Lib.hid (fun W (h : W.cell? ⟨g, j, none⟩ = some (.int .i32 y2)) => low1_any (k + 1) uc g 0 j y2 W hlj (by rw [Nat.zero_add]; exact h))
              have c0 : wr.cell? ⟨g, j, none⟩ = some (.int .i32 y2) := by
                have h := (own_cell HOr.out j (.int .i32 (P.getD j 0)) (i32s_at P j (by rw [HP.out]; exact hlj)))
                rw [hy2] at h
                exact (HB.out.cell (p := ⟨g, j, none⟩) hgl).trans h
              have hgw : g < wr.heap.size := Nat.lt_of_lt_of_le hgl HB.out.size
              have j0 : (0 : Int) ≤ (j : Int) := by omega
              have j1 : (j : Int) < ((k + 1 : Nat) : Int) := by omega
              go_wp2_with fail
              go_region_held3 (fun w' => w'.cell? ⟨g, j, none⟩ = some (.int .i32 y2)) (first | go_keep | exact (hb9.cell (p := ⟨g, j, none⟩) hgw).trans c0) (first | (go_at_call 7; (with_reducible refine (C7j.out).mono ?_); rintro e w9 ⟨rfl, hb9⟩) | (go_at_call 9; (with_reducible refine (C9j.out _ (by assumption)).mono ?_); rintro e w10 ⟨rfl, rfl⟩))
              all_goals
                have HB4 := Lib.hid (HB.out.trans ((show Below wr.heap.size wr w10 from ⟨hb9.os, hb9.tape, hb9.output, hb9.size, hb9.block⟩).mono HB.out.size))
                clear hb9 c0
                go_wp2_with fail
                go_roundw
                case rel => exact ⟨j + 1, by omega, by go_num, HB4.out⟩
                case measure => simp [RowKit.intOf]; omega
            · obtain rfl : j = k + 1 := by omega
              go_wp2_with fail
              refine (C9.out _ HB.out _ 0 (by unfold lowAt; rw [HP.out, if_neg (by omega)])).mono ?_
              rintro e w5 ⟨rfl, rfl⟩
              go_wp2_with fail
              refine (C9.out _ HB.out _ 0 (by unfold lowAt; rw [HP.out, if_neg (by omega)])).mono ?_
              rintro e w6 ⟨rfl, rfl⟩
              go_wp2_with fail
              go_ret
              exact ⟨rfl, HBr.out.trans (HB.out.mono HBr.out.size)⟩
end Go.Proofs.Ytoamjlnmpklcdaa
