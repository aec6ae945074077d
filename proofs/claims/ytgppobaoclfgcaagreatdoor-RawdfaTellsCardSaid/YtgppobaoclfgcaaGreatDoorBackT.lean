/- the document's BackTable. Conditions: what each lemma says. -/
import Derived.Test.YtgppobaoclfgcaaGreatDoorDfaE
import Derived.Test.YtgppobaoclfgcaaGreatDoorTabH
import Derived.Test.YtgppobaoclfgcaaGreatDoorRefT
import Derived.Test.YtgppobaoclfgcaaGreatDoorOfG
import Derived.Deep.QuietTactic
import Derived.BigQuiet
import Derived.Deep.CutBlock
import Derived.Deep.DeepCutAuto
import Derived.Deep.RegionHeld3
set_option linter.unusedVariables false
set_option linter.unusedSimpArgs false
namespace Go.Proofs.YtgppobaoclfgcaaGreatDoor
open Go.RowKit Go.Lib
theorem small_any (x : Int) (w : World) : Calls Tryz.prog 51 #[.int .u32 x] w fun e w' => e = .returned (.bool (decide (x < 16777216))) ∧ w' = w := by
  go_enter Tryz.func51, Tryz.ntmps51
  go_wp2_with fail
  go_ret
  exact ⟨rfl, rfl⟩
abbrev KL (rb tb fb p kn a fc kc ac : Nat) (FA KA AA : Option Addr) (v0 v1 v2 : Value) (P : List Int) (R : List Row) (C : List Bool) : List Th :=
  [rowT 4 1 v2 C.length (C.map Value.bool), rowT 58 1 v1 R.length (R.map rowV), rowT 21 1 v0 P.length (i32s P), boxT tb #[v0, v1, v2] 85, boxT rb #[.slice none 0 0, .slice none 0 0, .slice none 0 0] 85, boxT fb #[.slice FA p fc, .slice KA kn kc, .slice AA a ac] 51]
theorem i32s_snoc' (P : List Int) (x : Int) : i32s P ++ [.int .i32 x] = i32s (P ++ [x]) := by unfold i32s; rw [List.map_append]; rfl
theorem flat_no {F K A : List Int} (h : Plain.flatFine F K A = false) : Plain.flatRight F K A = false := by
  unfold Plain.flatRight; rw [h]; simp
theorem fine_f {F K A : List Int} (k : Nat) (hk : k < F.length) (h : ¬ F.getD k 0 < 16777216) : Plain.flatFine F K A = false := by
  unfold Plain.flatFine
  have : (F.all fun r => decide (r < 16777216)) = false := by
    rw [List.all_eq_false]
    exact ⟨F[k], List.getElem_mem hk, by rw [Plain.getD_lt F 0 k hk] at h; simpa using h⟩
  rw [this]; rfl
theorem fine_k {F K A : List Int} (k : Nat) (hk : k < K.length) (h : ¬ K.getD k 0 % (F.length : Int) = 0) : Plain.flatFine F K A = false := by
  unfold Plain.flatFine
  have : (K.all fun n => n % (F.length : Int) == 0) = false := by
    rw [List.all_eq_false]
    exact ⟨K[k], List.getElem_mem hk, by rw [Plain.getD_lt K 0 k hk] at h; simpa using h⟩
  rw [this]; simp
theorem fine_a {F K A : List Int} (k : Nat) (hk : k < A.length) (h : ¬ A.getD k 0 < 2) : Plain.flatFine F K A = false := by
  unfold Plain.flatFine
  have : (A.all fun n => decide (n < 2)) = false := by
    rw [List.all_eq_false]
    exact ⟨A[k], List.getElem_mem hk, by rw [Plain.getD_lt A 0 k hk] at h; simpa using h⟩
  rw [this]; simp
theorem fine_yes {F K A : List Int} (h1 : ∀ k, k < F.length → F.getD k 0 < 16777216) (h2 : ∀ k, k < K.length → K.getD k 0 % (F.length : Int) = 0) (h3 : ∀ k, k < A.length → A.getD k 0 < 2) : Plain.flatFine F K A = true := by
  unfold Plain.flatFine
  rw [Bool.and_eq_true, Bool.and_eq_true, List.all_eq_true, List.all_eq_true, List.all_eq_true]
  refine ⟨⟨fun x hx => ?_, fun x hx => ?_⟩, fun x hx => ?_⟩ <;> obtain ⟨k, hk, rfl⟩ := List.getElem_of_mem hx
  · have := h1 k hk; rw [Plain.getD_lt F 0 k hk] at this; exact decide_eq_true this
  · have := h2 k hk; rw [Plain.getD_lt K 0 k hk] at this; simpa using this
  · have := h3 k hk; rw [Plain.getD_lt A 0 k hk] at this; exact decide_eq_true this
theorem back_no {F K A : List Int} {w w' : World} (h : Plain.flatRight F K A = false) (hb : Below w.heap.size w w') : BackRes F K A w (.returned (.tuple #[.agg #[.slice none 0 0, .slice none 0 0, .slice none 0 0], .int .i64 11])) w' :=
  ⟨hb, (fun h2 => by rw [h] at h2; cases h2), fun _ => rfl⟩
theorem mod_small {F : List Int} (h0 : ∀ k, k < F.length → 0 ≤ F.getD k 0) (h1 : ∀ k, k < F.length → F.getD k 0 < 16777216) : (F.map fun r => r % 16777216) = F := by
  refine List.ext_getElem (by simp) fun k h2 h3 => ?_
  have a := h0 k h3
  have b := h1 k h3
  rw [Plain.getD_lt F 0 k h3] at a b
  rw [List.getElem_map]
  omega
set_option maxRecDepth 1000000 in
set_option maxHeartbeats 8000000 in
theorem rback_any (FA : Option Addr) (F : List Int) (fc : Nat) (KA : Option Addr) (K : List Int) (kc : Nat) (AA : Option Addr) (A : List Int) (ac : Nat) (w : World) (hX : FlatAt w FA F KA K AA A) (hN : FlatNums F K A kc) (hF : F.length ≤ 64) (hA : A.length ≤ 64) (hK : K.length ≤ 4096) :
    Calls Tryz.prog 25 #[flatV FA F fc KA K kc AA A ac] w (BackRes F K A w) := by
  obtain ⟨p, hp⟩ : ∃ x, F.length = x := ⟨_, rfl⟩
  obtain ⟨kn, hkn⟩ : ∃ x, K.length = x := ⟨_, rfl⟩
  obtain ⟨a, ha⟩ : ∃ x, A.length = x := ⟨_, rfl⟩
  have HX := Lib.hid hX
  have HNB := Lib.hid hN
  have HP := Lib.hid hp
  have HKN := Lib.hid hkn
  have HA := Lib.hid ha
  rw [hp] at hF
  rw [ha] at hA
  rw [hkn] at hK
  unfold flatV
  rw [hp, hkn, ha]
  clear hX hN hp hkn ha
  have h0 := ((SepB.nil w).new #[.slice FA p fc, .slice KA kn kc, .slice AA a ac] 51 _).new #[.slice none 0 0, .slice none 0 0, .slice none 0 0] 85 _
  simp only [World.size_alloc] at h0
  obtain ⟨w0, hw0⟩ : ∃ v, (w.alloc (.cells #[.slice FA p fc, .slice KA kn kc, .slice AA a ac] 51)).alloc (.cells #[.slice none 0 0, .slice none 0 0, .slice none 0 0] 85) = v := ⟨_, rfl⟩
  rw [hw0] at h0
  obtain ⟨rb, hrb⟩ : ∃ v, w.heap.size + 1 = v := ⟨_, rfl⟩
  rw [hrb] at h0
  obtain ⟨fb, hfb⟩ : ∃ v, w.heap.size = v := ⟨_, rfl⟩
  have HRB := Lib.hid (show w.heap.size ≤ rb by omega)
  have HW0 := Lib.hid hw0
  have HRBE := Lib.hid hrb
  have HFBE := Lib.hid hfb
  have HS0 := Lib.hid (show SepB w w0 [boxT rb #[.slice none 0 0, .slice none 0 0, .slice none 0 0] 85, boxT fb #[.slice FA p fc, .slice KA kn kc, .slice AA a ac] 51] by rw [← HFBE.out]; exact h0)
  clear h0 hw0 hrb hfb
  obtain ⟨x0, x1, x2⟩ := blk_cells3 (HS0.out.box 1 _ _ _ rfl).2
  have lfb := lt_of_some (HS0.out.box 1 _ _ _ rfl).2
  have hmb : p * a ≤ 4096 := by have := Nat.mul_le_mul hF hA; omega
  have wm : IntKind.i64.wrap ((p : Int) * (a : Int)) = ((p * a : Nat) : Int) := by rw [IntKind.wrap_i64, ← Int.natCast_mul]; omega
  have wm2 : IntKind.i64.wrap (((p * a : Nat) : Int)) = ((p * a : Nat) : Int) := by rw [IntKind.wrap_i64]; omega
  go_enter Tryz.func25, Tryz.ntmps25
  go_upto_region 1 with fail
  rw [HW0.out, HRBE.out, show w.heap.size = fb from HFBE.out]
  clear HW0 HRBE
  by_cases hp0 : p = 0
  · have e0 : ((p : Int) == 0) = true := by simp [hp0]
    have hno : Plain.flatRight F K A = false := by unfold Plain.flatRight; rw [HP.out, hp0]; simp
    have HNO := Lib.hid hno
    clear hno
    have hrbx := (HS0.out.box 0 _ _ _ rfl).2
    have HRX := Lib.hid hrbx
    obtain ⟨k0, k1, k2⟩ := blk_cells3 hrbx
    have f0 := blk_frozen hrbx 0
    have f1 := blk_frozen hrbx 1
    have f2 := blk_frozen hrbx 2
    clear hrbx
    go_wp2_with fail
    obtain ⟨m0, m1, m2⟩ := blk_cells3 (heap_setCell_same _ _ 2 _ _ (.slice none 0 0) (heap_setCell_same _ _ 1 _ _ (.slice none 0 0) (heap_setCell_same _ _ 0 _ _ (.slice none 0 0) HRX.out)))
    exact bodyPost_ret (v := .tuple #[.agg #[.slice none 0 0, .slice none 0 0, .slice none 0 0], .int .i64 11]) (by simp [results, Tryz.results25, go_sem, m0, m1, m2]) rfl (back_no HNO.out (((HS0.out.2.setCell HRB.out _).setCell HRB.out _).setCell HRB.out _))
  have e0 : ((p : Int) == 0) = false := by simp; omega
  by_cases hkp : kn = p * a
  case neg =>
    have e1 : ((kn : Int) != ((p * a : Nat) : Int)) = true := by simp; omega
    have e1' : ((kn : Int) != (p : Int) * (a : Int)) = true := by rw [← Int.natCast_mul]; simp; omega
    have hno : Plain.flatRight F K A = false := by unfold Plain.flatRight; rw [HP.out, HKN.out, HA.out]; simp [hkp]
    have HNO := Lib.hid hno
    clear hno
    have hrbx := (HS0.out.box 0 _ _ _ rfl).2
    have HRX := Lib.hid hrbx
    obtain ⟨k0, k1, k2⟩ := blk_cells3 hrbx
    have f0 := blk_frozen hrbx 0
    have f1 := blk_frozen hrbx 1
    have f2 := blk_frozen hrbx 2
    clear hrbx
    go_wp2_with fail
    obtain ⟨m0, m1, m2⟩ := blk_cells3 (heap_setCell_same _ _ 2 _ _ (.slice none 0 0) (heap_setCell_same _ _ 1 _ _ (.slice none 0 0) (heap_setCell_same _ _ 0 _ _ (.slice none 0 0) HRX.out)))
    exact bodyPost_ret (v := .tuple #[.agg #[.slice none 0 0, .slice none 0 0, .slice none 0 0], .int .i64 11]) (by simp [results, Tryz.results25, go_sem, m0, m1, m2]) rfl (back_no HNO.out (((HS0.out.2.setCell HRB.out _).setCell HRB.out _).setCell HRB.out _))
  have e1 : ((kn : Int) != ((p * a : Nat) : Int)) = false := by rw [hkp]; simp
  have e1' : ((kn : Int) != (p : Int) * (a : Int)) = false := by rw [← Int.natCast_mul, hkp]; simp
  have HKP := Lib.hid hkp
  clear hkp
  go_upto_region 5 with fail
  clear x0 x1 x2 lfb e0 e1 e1' wm wm2
  have h3 := (((HS0.out.new #[.slice none 0 0, .slice none 0 0, .slice none 0 0] 85 _).empty 21 1).empty 58 1).empty 4 1
  obtain ⟨w1, hw1⟩ : ∃ v, w0.alloc (.cells #[.slice none 0 0, .slice none 0 0, .slice none 0 0] 85) = v := ⟨_, rfl⟩
  obtain ⟨tb, htb⟩ : ∃ v, w0.heap.size = v := ⟨_, rfl⟩
  rw [hw1, htb] at h3
  rw [hw1, htb]
  have HS1 := Lib.hid (show SepB w w1 (KL rb tb fb p kn a fc kc ac FA KA AA (.slice none 0 0) (.slice none 0 0) (.slice none 0 0) [] [] []) from h3)
  clear h3 hw1 htb

  obtain ⟨i21, hi21, z0, z1, z2⟩ := info_parts info21
  obtain ⟨i58, hi58, u0, u1, u2⟩ := info_parts info58
  obtain ⟨i4, hi4, q0, q1, q2⟩ := info_parts info4b
  obtain ⟨i3, hi3, r0, r1, r2⟩ := info_parts info3
  go_wp2_with fail
  go_loopw [6] (fun i wr => ∃ (k : Nat) (v0 : Value), k ≤ p ∧ i = .int .i64 k ∧ (∀ j, j < k → F.getD j 0 < 16777216) ∧ SepB w wr (KL rb tb fb p kn a fc kc ac FA KA AA v0 (.slice none 0 0) (.slice none 0 0) (F.take k) [] [])) (fun i _ => p - (RowKit.intOf i).toNat)
  case atStart => exact ⟨0, .slice none 0 0, Nat.zero_le _, rfl, fun j h => absurd h (by omega), HS1.out⟩
  case round =>
    obtain ⟨k, v0, hk, rfl, hsm, hS⟩ := hrel
    obtain ⟨P1, hP1⟩ : ∃ P, F.take k = P := ⟨_, rfl⟩
    rw [hP1] at hS
    have HP1 := Lib.hid hP1
    have HS := Lib.hid hS
    clear hP1
    have HSM := Lib.hid hsm
    have hfx := (hS.box 5 _ _ _ rfl).2
    have lfb := lt_of_some hfx
    obtain ⟨x0, x1, x2⟩ := blk_cells3 hfx
    clear hS hsm hfx
    by_cases hlt : k < p
    · have hkF : k < F.length := by rw [HP.out]; exact hlt
      obtain ⟨ba, off, hae, hba, hcell⟩ := HX.out.parts (by rw [u32s, List.length_map]; omega)
      have c0 := (HS.out.2.cell (p := ⟨ba, off + k, none⟩) hba).trans (hcell k (.int .u32 (F.getD k 0)) (by unfold u32s; rw [List.getElem?_map, List.getElem?_eq_getElem hkF, Plain.getD_lt F 0 k hkF]; rfl))
      rw [hae] at x0
      have HAE := Lib.hid hae
      have hbd := HNB.out.bF k hkF
      obtain ⟨x, hx⟩ : ∃ x, F.getD k 0 = x := ⟨_, rfl⟩
      rw [hx] at c0 hbd
      have HXX := Lib.hid hx
      have d0 : decide ((k : Int) < (p : Int)) = true := decide_eq_true (by omega)
      have d1 : decide (k < p) = true := decide_eq_true hlt
      have g0 : (0 : Int) ≤ (k : Int) := by omega
      have g1 : (k : Int) < (p : Int) := by omega
      clear hcell hae hx
      by_cases hxs : x < 16777216
      case neg =>
        have HSMALL := Lib.hid (small_any x wr)
        have e0 : decide (x < 16777216) = false := decide_eq_false hxs
        go_wp2_with fail
        refine HSMALL.out.mono ?_
        rintro e w3 ⟨rfl, rfl⟩
        rw [e0]
        clear e0
        have hno : Plain.flatRight F K A = false := flat_no (fine_f k (by rw [HP.out]; exact hlt) (by rw [HXX.out]; omega))
        have HNO := Lib.hid hno
        clear hno
        have hrbx := (HS.out.box 4 _ _ _ rfl).2
        have HRX := Lib.hid hrbx
        obtain ⟨k0, k1, k2⟩ := blk_cells3 hrbx
        have f0 := blk_frozen hrbx 0
        have f1 := blk_frozen hrbx 1
        have f2 := blk_frozen hrbx 2
        clear hrbx
        go_wp2_with fail
        obtain ⟨m0, m1, m2⟩ := blk_cells3 (heap_setCell_same _ _ 2 _ _ (.slice none 0 0) (heap_setCell_same _ _ 1 _ _ (.slice none 0 0) (heap_setCell_same _ _ 0 _ _ (.slice none 0 0) HRX.out)))
        exact bodyPost_ret (v := .tuple #[.agg #[.slice none 0 0, .slice none 0 0, .slice none 0 0], .int .i64 11]) (by simp [results, Tryz.results25, go_sem, m0, m1, m2]) rfl (back_no HNO.out (((HS.out.2.setCell HRB.out _).setCell HRB.out _).setCell HRB.out _))
      have HSMALL := Lib.hid (small_any x wr)
      have e0 : decide (x < 16777216) = true := decide_eq_true hxs
      have wx : IntKind.i32.wrap x = x := by rw [IntKind.wrap_i32]; omega
      obtain ⟨vp, vc, hv0⟩ := own_form (HS.out.row 2 _ _ _ _ _ rfl)
      subst hv0
      have hpl : P1.length = k := by rw [← HP1.out, List.length_take]; omega
      have htk : F.take (k + 1) = P1 ++ [x] := by rw [← HP1.out]; rw [List.take_add_one, List.getElem?_eq_getElem hkF, ← HXX.out, Plain.getD_lt F 0 k hkF]; rfl
      have HPL := Lib.hid hpl
      have HTK := Lib.hid htk
      clear hpl htk
      have HCE := Lib.hid (fun (w' : World) (hw : Below w.heap.size w w') => (hw.cell (p := ⟨ba, off + k, none⟩) hba).trans ((HS.out.2.cell (p := ⟨ba, off + k, none⟩) hba).symm.trans c0))
      go_upto_region 10 with (go_at_call 51; refine HSMALL.out.mono ?_; rintro e w3 ⟨rfl, rfl⟩; rw [e0])
      clear x0 x1 x2 lfb c0 d0 d1 e0

      have hSx := HS.out.drew
      obtain ⟨wd, hwd⟩ : ∃ v, World.drew w3 = v := ⟨_, rfl⟩
      rw [hwd] at hSx
      have HWD := Lib.hid hwd
      have HSd := Lib.hid hSx
      have hbx := (hSx.box 3 _ _ _ rfl).2
      have hfx := (hSx.box 5 _ _ _ rfl).2
      clear hwd hSx
      have HFACT := Lib.hid (fun (w' : World) (hb : w'.heap[tb]? = some (.cells #[.slice vp P1.length vc, .slice none 0 0, .slice none 0 0] 85 (0, 0))) (hf : w'.heap[fb]? = some (.cells #[.slice FA p fc, .slice KA kn kc, .slice AA a ac] 51 (0, 0))) (hw : Below w.heap.size w w') => (⟨by rw [cell_of_row _ _ _ _ _ _ hb]; rfl, by rw [cell_of_row _ _ _ _ _ _ hf]; rw [HAE.out]; rfl, HCE.out w' hw⟩ : (fun w' : World => w'.cell? ⟨tb, 0, none⟩ = some (.slice vp P1.length vc) ∧ w'.cell? ⟨fb, 0, none⟩ = some (.slice (some ⟨ba, off, none⟩) p fc) ∧ w'.cell? ⟨ba, off + k, none⟩ = some (.int .u32 x)) w'))
      have HS0 := Lib.hid (HFACT.out wd hbx hfx HSd.out.2)
      have HID := Lib.hid (fun (w' : World) (h : (fun w' : World => w'.cell? ⟨tb, 0, none⟩ = some (.slice vp P1.length vc) ∧ w'.cell? ⟨fb, 0, none⟩ = some (.slice (some ⟨ba, off, none⟩) p fc) ∧ w'.cell? ⟨ba, off + k, none⟩ = some (.int .u32 x)) w') => h)
      refine wp_region_noPanic ?_
      refine wp_region_T 10 (S := (fun w' : World => w'.cell? ⟨tb, 0, none⟩ = some (.slice vp P1.length vc) ∧ w'.cell? ⟨fb, 0, none⟩ = some (.slice (some ⟨ba, off, none⟩) p fc) ∧ w'.cell? ⟨ba, off + k, none⟩ = some (.int .u32 x))) (by kernel_rfl) (by decide) ?_
      rw [HWD.out]
      refine wpAnyT_take2 0 (v := ?tvxa0) (by kernel_rfl) rfl (by kernel_rfl) (fun _ _ _ h => h) (Or.inl ⟨by rfl, ?tyxa0⟩) HS0.out ?trxa0
      case tyxa0 => (intro w' hSw; (try dsimp only at hSw); go_simp; try with_reducible rfl)
      try simp only [Act.put, List.setIfInBounds_toArray, List.set_cons_zero, List.set_cons_succ]
      refine wpAnyT_take2 1 (v := ?tvxa1) (by kernel_rfl) rfl (by kernel_rfl) (fun _ _ _ h => h) (Or.inl ⟨by rfl, ?tyxa1⟩) HS0.out ?trxa1
      case tyxa1 => (intro w' hSw; obtain ⟨f0, f1, f2⟩ := HID.out w' hSw; (try dsimp only at hSw); go_simp; try with_reducible rfl)
      try simp only [Act.put, List.setIfInBounds_toArray, List.set_cons_zero, List.set_cons_succ]
      refine wpAnyT_take2 2 (v := ?tvxa2) (by kernel_rfl) rfl (by kernel_rfl) (fun _ _ _ h => h) (Or.inl ⟨by rfl, ?tyxa2⟩) HS0.out ?trxa2
      case tyxa2 => (intro w' hSw; (try dsimp only at hSw); go_simp; try with_reducible rfl)
      try simp only [Act.put, List.setIfInBounds_toArray, List.set_cons_zero, List.set_cons_succ]
      refine wpAnyT_take2 3 (v := ?tvxa3) (by kernel_rfl) rfl (by kernel_rfl) (fun _ _ _ h => h) (Or.inl ⟨by rfl, ?tyxa3⟩) HS0.out ?trxa3
      case tyxa3 => (intro w' hSw; obtain ⟨f0, f1, f2⟩ := HID.out w' hSw; (try dsimp only at hSw); go_simp; try with_reducible rfl)
      try simp only [Act.put, List.setIfInBounds_toArray, List.set_cons_zero, List.set_cons_succ]
      refine wpAnyT_take2 4 (v := ?tvxa4) (by kernel_rfl) rfl (by kernel_rfl) (fun _ _ _ h => h) (Or.inl ⟨by rfl, ?tyxa4⟩) HS0.out ?trxa4
      case tyxa4 => (intro w' hSw; (try dsimp only at hSw); go_simp; try with_reducible rfl)
      try simp only [Act.put, List.setIfInBounds_toArray, List.set_cons_zero, List.set_cons_succ]
      refine wpAnyT_take2 5 (v := ?tvxa5) (by kernel_rfl) rfl (by kernel_rfl) (fun _ _ _ h => h) (Or.inl ⟨by rfl, ?tyxa5⟩) HS0.out ?trxa5
      case tyxa5 => (intro w' hSw; (try dsimp only at hSw); go_simp; try with_reducible rfl)
      try simp only [Act.put, List.setIfInBounds_toArray, List.set_cons_zero, List.set_cons_succ]
      refine wpAnyT_take2 6 (v := ?tvxa6) (by kernel_rfl) rfl (by kernel_rfl) (fun _ _ _ h => h) (Or.inl ⟨by rfl, ?tyxa6⟩) HS0.out ?trxa6
      case tyxa6 => (intro w' hSw; obtain ⟨f0, f1, f2⟩ := HID.out w' hSw; (try dsimp only at hSw); go_simp; try with_reducible rfl)
      try simp only [Act.put, List.setIfInBounds_toArray, List.set_cons_zero, List.set_cons_succ]
      refine wpAnyT_take2 7 (v := ?tvxa7) (by kernel_rfl) rfl (by kernel_rfl) (fun _ _ _ h => h) (Or.inl ⟨by rfl, ?tyxa7⟩) HS0.out ?trxa7
      case tyxa7 => (intro w' hSw; (try dsimp only at hSw); go_simp; try with_reducible rfl)
      try simp only [Act.put, List.setIfInBounds_toArray, List.set_cons_zero, List.set_cons_succ]
      refine wpAnyT_one2 8 rfl (by kernel_rfl) ?_
      intro K' hK'
      rw [if_pos (by rfl)]
      have HK := Lib.hid hK'
      clear hK'
      go_simp
      have hsa := (HSd.out.alloc (.cells #[.int .i32 x] 21))
      have HSA := Lib.hid (HFACT.out _ (hsa.box 3 _ _ _ rfl).2 (hsa.box 5 _ _ _ rfl).2 hsa.2)
      clear hsa
      refine HK.out _ _ ⟨HSA.out, ?_⟩
      clear HK K'
      try simp only [Act.put, List.setIfInBounds_toArray, List.set_cons_zero, List.set_cons_succ]
      refine wpAnyT_one2 9 rfl (by kernel_rfl) ?_
      intro K' hK'
      rw [if_pos (by rfl)]
      have HK := Lib.hid hK'
      clear hK'
      refine oper_append_own2 _ (.tmp 43) (.tmp 50) 22 (by rfl) w.heap.size 21 i21 _ 1 4 Tryz.underlying22 hi21 z0 z1 z2 rfl (by decide) (.slice vp (P1.length) vc) (P1.length) (i32s P1) (by rfl) ((HSd.out.alloc (.cells #[.int .i32 x] 21)).row 2 _ _ _ _ _ rfl) ⟨wd.heap.size, 0, none⟩ 1 1 [.int .i32 x] (by rfl) rfl (CellsAt_add (CellsAt.new wd _ _)) (fun u hu => by simp only [List.mem_cons, List.not_mem_nil, or_false] at hu; rw [hu]; rfl) (by have := HPL.out; simp only [maxLen]; omega) (by have := HPL.out; omega) (by have := HSd.out.2.size; simp; omega) ?_
      intro v7 w7 hown hgr hvb
      obtain ⟨gv, uc, rfl, _, _, _⟩ := own_at hown (by omega)
      have hS7 := HSd.out.push 2 21 1 _ _ (P1.length) (P1.length + 1) _ _ rfl (below_alloc (Below.refl wd.heap.size wd) _) hgr hown hvb
      have HKI7 := Lib.hid (show Ki wd w7 from (Ki.below (below_alloc (Below.refl wd.heap.size wd) (.cells #[.int .i32 x] 21))).trans (Ki.gr hgr (fun k hk => not3_row ((HSd.out.alloc (.cells #[.int .i32 x] 21)).row 2 _ _ _ _ _ rfl) (by decide) k hk)))
      have hb7 := (hS7.box 3 _ _ _ rfl).2
      refine HK.out _ _ ⟨(HFACT.out w7 hb7 (hS7.box 5 _ _ _ rfl).2 hS7.2), ?_⟩
      clear HK K'
      try simp only [Act.put, List.setIfInBounds_toArray, List.set_cons_zero, List.set_cons_succ]

      refine ⟨by kernel_rfl, ?_⟩
      change wpList _ _ _ [_, _] _ _
      have f7 : w7.frozen? ⟨tb, 0, none⟩ = false := blk_frozen hb7 0
      have l7 := lt_of_some hb7
      obtain ⟨c7a, _, _⟩ := HFACT.out w7 hb7 (hS7.box 5 _ _ _ rfl).2 hS7.2
      have hS8 := hS7.store 3 tb _ 85 rfl 0 (.slice (some ⟨gv, 0, none⟩) (P1.length + 1) uc)
      have HS8 := Lib.hid hS8
      have HKI8 := Lib.hid (HKI7.out.trans (show Ki w7 (w7.setCell ⟨tb, 0, none⟩ (.slice (some ⟨gv, 0, none⟩) (P1.length + 1) uc)) from Ki.gr (gr_set _ _ _ _) (not3_box hb7 (by decide))))
      clear hown hgr hvb hbx hfx hS7 hS8 hb7
      go_wp2
      refine NoPanic.normal ?_
      clear f7 l7 c7a
      go_wp2_with fail
      go_roundw
      case rel =>
        refine ⟨k + 1, .slice (some ⟨gv, 0, none⟩) (P1.length + 1) uc, by omega, by go_num, fun j hj => ?_, ?_⟩
        · rcases Nat.lt_or_ge j k with h | h
          · exact HSM.out j h
          · obtain rfl : j = k := by omega
            rw [HXX.out]; exact hxs
        · have e1 : P1.length + 1 = (F.take (k + 1)).length := by rw [HTK.out, List.length_append]; rfl
          have e2 : i32s P1 ++ [.int .i32 x] = i32s (F.take (k + 1)) := by rw [HTK.out, i32s_snoc']
          unfold KL
          rw [← e2, ← e1]
          exact HS8.out
      case measure => simp [RowKit.intOf]; omega

    · obtain rfl : p = k := by omega
      have hP : P1 = F := by rw [← HP1.out]; exact List.take_of_length_le (by rw [HP.out]; exact Nat.le_refl _)
      have hS := HS.out
      rw [hP] at hS
      have HSB := Lib.hid hS
      have d0 : decide ((p : Int) < (p : Int)) = false := decide_eq_false (by omega)
      have HFS := Lib.hid HSM.out
      clear hS hP HSM HP1 HS P1 HS1
      go_wp2_with fail
      clear x0 x1 x2 lfb d0
      go_loopw [7, 8, 9, 10] (fun i _ _ _ wr => ∃ (k : Nat) (v1 v2 : Value) (R : List Row), k ≤ a ∧ i = .int .i64 k ∧ nums R = Plain.rowsOf K p k ∧ (∀ j, j < k → A.getD j 0 < 2) ∧ (∀ j, j < k * p → K.getD j 0 % (p : Int) = 0) ∧ SepB w wr (KL rb tb fb p kn a fc kc ac FA KA AA v0 v1 v2 F R ((A.take k).map fun x => x == 1)) ∧ ∀ r ∈ R, Ln wr r ∧ r.2.2.length ≤ 64) (fun i _ _ _ _ => a - (RowKit.intOf i).toNat)
      case atStart => exact ⟨0, .slice none 0 0, .slice none 0 0, [], Nat.zero_le _, rfl, rfl, fun j h => absurd h (by omega), fun j h => absurd h (by omega), HSB.out, fun r hr => absurd hr (by simp)⟩
      clear HSB
      case round =>
        obtain ⟨k, v1, v2, R, hk2, rfl, hR, hA2, hK2, hS, hL⟩ := hrel
        obtain ⟨C, hC⟩ : ∃ C, ((A.take k).map fun x => x == 1) = C := ⟨_, rfl⟩
        rw [hC] at hS
        have HC := Lib.hid hC
        have HR := Lib.hid hR
        have HA2 := Lib.hid hA2
        have HK2 := Lib.hid hK2
        have HS := Lib.hid hS
        have HL := Lib.hid hL
        have hfx := (hS.box 5 _ _ _ rfl).2
        have lfb := lt_of_some hfx
        obtain ⟨x0, x1, x2⟩ := blk_cells3 hfx
        clear hC hR hA2 hK2 hS hL hfx
        by_cases hlt2 : k < a
        · have hkA : k < A.length := by rw [HA.out]; exact hlt2
          obtain ⟨s, hs⟩ : ∃ s, k * p = s := ⟨_, rfl⟩
          have hsp : s + p ≤ kn := by
            have h1 : (k + 1) * p ≤ a * p := Nat.mul_le_mul_right _ hlt2
            rw [Nat.add_mul, hs] at h1
            rw [HKP.out, Nat.mul_comm]; omega
          have hw1 : IntKind.i64.wrap ((k : Int) * (p : Int)) = (s : Int) := by
            rw [show (k : Int) * (p : Int) = ((k * p : Nat) : Int) from by simp, hs, IntKind.wrap_i64]; omega
          have HSS := Lib.hid hs
          have d0 : decide ((k : Int) < (a : Int)) = true := decide_eq_true (by omega)
          have d1 : decide (k < a) = true := decide_eq_true hlt2
          clear hs
          obtain ⟨kb, ko, hke, hkb, hkc⟩ := HX.out.cells (by rw [u32s, List.length_map, HKN.out]; omega)
          have HKE := Lib.hid hke
          have HKC := Lib.hid hkc
          clear hke hkc
          go_wp2_with fail
          clear x0 x1 x2 lfb d0 d1
          obtain ⟨w3, rfl⟩ : ∃ w3, w3 = wr := ⟨_, rfl⟩
          go_loopw [8, 9, 10] (fun u i _ wr => ∃ j : Nat, j ≤ p ∧ i = .int .i64 j ∧ (∀ q, q < j → K.getD (s + q) 0 % (p : Int) = 0) ∧ Below w3.heap.size w3 wr ∧ wr.ownsRow w3.heap.size 3 1 u j (i64s (((K.drop s).take j).map fun x => x / (p : Int)))) (fun _ i _ _ => p - (RowKit.intOf i).toNat)
          case atStart => exact ⟨0, Nat.zero_le _, rfl, fun q h => absurd h (by omega), Below.refl _ _, by simpa [i64s] using World.ownsRow_nil _ _ _ _⟩
          case round =>
            obtain ⟨j, hj, rfl, hq, hB, hU⟩ := hrel
            obtain ⟨T, hT⟩ : ∃ T, (((K.drop s).take j).map fun x => x / (p : Int)) = T := ⟨_, rfl⟩
            rw [hT] at hU
            have HT := Lib.hid hT
            have HQ := Lib.hid hq
            have HB := Lib.hid hB
            have HU := Lib.hid hU
            have HS2 := Lib.hid (HS.out.below hB)
            have hfx := (HS2.out.box 5 _ _ _ rfl).2
            have lfb := lt_of_some hfx
            obtain ⟨x0, x1, x2⟩ := blk_cells3 hfx
            obtain ⟨up, uc, hue⟩ := own_form hU
            subst hue
            clear hT hq hB hU hfx
            by_cases hjlt : j < p
            · have hjK : s + j < K.length := by rw [HKN.out]; omega
              have c0 := (HS2.out.2.cell (p := ⟨kb, ko + (s + j), none⟩) hkb).trans (HKC.out (s + j) (.int .u32 (K.getD (s + j) 0)) (by unfold u32s; rw [List.getElem?_map, List.getElem?_eq_getElem hjK, Plain.getD_lt K 0 (s + j) hjK]; rfl))
              rw [HKE.out] at x1
              have hbd := HNB.out.bK (s + j) hjK
              obtain ⟨y, hy⟩ : ∃ y : Nat, K.getD (s + j) 0 = (y : Int) := ⟨(K.getD (s + j) 0).toNat, by omega⟩
              rw [hy] at c0 hbd
              have HY := Lib.hid hy
              obtain ⟨q, hq⟩ : ∃ q, s + j = q := ⟨_, rfl⟩
              rw [hq] at c0
              have hw3 : IntKind.i64.wrap ((s : Int) + (j : Int)) = (q : Int) := by rw [IntKind.wrap_i64]; omega
              have HQE := Lib.hid hq
              have g0 : (0 : Int) ≤ (q : Int) := by omega
              have g1 : (q : Int) < (kn : Int) := by omega
              have wy : IntKind.i64.wrap (y : Int) = (y : Int) := by rw [IntKind.wrap_i64]; omega
              have d0 : decide ((j : Int) < (p : Int)) = true := decide_eq_true (by omega)
              have d1 : decide (j < p) = true := decide_eq_true hjlt
              have htm : Int.tmod (y : Int) (p : Int) = ((y % p : Nat) : Int) := rfl
              have htd : Int.tdiv (y : Int) (p : Int) = ((y / p : Nat) : Int) := rfl
              have hdl : y / p ≤ y := Nat.div_le_self _ _
              obtain ⟨dq, hdq⟩ : ∃ q, y / p = q := ⟨_, rfl⟩
              obtain ⟨m, hm⟩ : ∃ m, y % p = m := ⟨_, rfl⟩
              rw [hdq] at htd hdl
              rw [hm] at htm
              have hmI : K.getD (s + j) 0 % (p : Int) = (m : Int) := by rw [HY.out, ← hm]; rfl
              have HMI := Lib.hid hmI
              have hp1 : ((p : Int) == 0) = false := by simp; omega
              have wd : IntKind.i64.wrap (dq : Int) = (dq : Int) := by rw [IntKind.wrap_i64]; omega
              have wm : IntKind.i64.wrap (m : Int) = (m : Int) := by rw [IntKind.wrap_i64, ← hm]; have := Nat.mod_lt y (show 0 < p by omega); omega
              have htk : (((K.drop s).take (j + 1)).map fun x => x / (p : Int)) = T ++ [(dq : Int)] := by
                have h1 : K[s + j]? = some ((y : Nat) : Int) := by rw [List.getElem?_eq_getElem hjK, ← HY.out, Plain.getD_lt K 0 (s + j) hjK]
                rw [← HT.out, List.take_add_one, List.getElem?_drop, h1, List.map_append, ← hdq]; rfl
              have hTl : T.length = j := by rw [← HT.out, List.length_map, List.length_take, List.length_drop, HKN.out]; omega
              have HTK := Lib.hid htk
              have HTL := Lib.hid hTl
              clear hq hy hmI htk hTl hdq hm
              by_cases hm0 : m = 0
              case neg =>
                have e0 : ((m : Int) != 0) = true := by simp; omega
                have hno : Plain.flatRight F K A = false := flat_no (fine_k (s + j) hjK (by rw [HP.out, HMI.out]; omega))
                have HNO := Lib.hid hno
                clear hno
                have hrbx := (HS2.out.box 4 _ _ _ rfl).2
                have HRX := Lib.hid hrbx
                obtain ⟨k0, k1, k2⟩ := blk_cells3 hrbx
                have f0 := blk_frozen hrbx 0
                have f1 := blk_frozen hrbx 1
                have f2 := blk_frozen hrbx 2
                clear hrbx
                go_wp2_with fail
                obtain ⟨m0, m1, m2⟩ := blk_cells3 (heap_setCell_same _ _ 2 _ _ (.slice none 0 0) (heap_setCell_same _ _ 1 _ _ (.slice none 0 0) (heap_setCell_same _ _ 0 _ _ (.slice none 0 0) HRX.out)))
                exact bodyPost_ret (v := .tuple #[.agg #[.slice none 0 0, .slice none 0 0, .slice none 0 0], .int .i64 11]) (by simp [results, Tryz.results25, go_sem, m0, m1, m2]) rfl (back_no HNO.out (((HS2.out.2.setCell HRB.out _).setCell HRB.out _).setCell HRB.out _))
              have e0 : ((m : Int) != 0) = false := by simp; omega
              obtain ⟨i3b, hi3b, r0b, r1b, r2b⟩ := info_parts info3
              have hsz := HB.out.size
              have hxl : T.length ≤ 4096 := by have := HTL.out; omega
              go_wp2_with (at_builtin; refine wpList_append_own2 _ rfl (.tmp 80) (.tmp 84) _ rfl w3.heap.size 3 i3b _ 1 8 Tryz.underlying58 hi3b r0b r1b r2b rfl (by decide) (.slice up j uc) j (i64s T) rfl (HU.out.alloc _) ⟨wr.heap.size, 0, none⟩ 1 1 [.int .i64 dq] rfl rfl (CellsAt_add (CellsAt.new wr _ _)) ?c2 ?c3 ?c4 ?c5 ?_)
              case c2 => first | exact rfl | (intro u hu; simp only [List.mem_cons, List.not_mem_nil, or_false] at hu; rw [hu]; rfl)
              case c3 => simp only [maxLen]; omega
              case c4 => omega
              case c5 => simp; omega
              intro v5 w5 hown5 hg5 _
              have hBn : Below w3.heap.size w3 w5 := (HB.out.alloc HB.out.size _).grown hg5 (by simp; omega) (fun g hg => (HU.out.lt g hg).1)
              have HBn := Lib.hid hBn
              have HO := Lib.hid hown5
              clear hBn hg5 hown5 x0 x1 x2 lfb c0
              go_wp2
              go_roundw
              case rel =>
                refine ⟨j + 1, by omega, by go_num, fun q hq => ?_, HBn.out, by rw [HTK.out, show i64s (T ++ [(dq : Int)]) = i64s T ++ [.int .i64 (dq : Int)] from by unfold i64s; rw [List.map_append]; rfl]; exact HO.out⟩
                rcases Nat.lt_or_ge q j with h | h
                · exact HQ.out q h
                · obtain rfl : q = j := by omega
                  rw [HMI.out, hm0]; rfl
              case measure => simp [RowKit.intOf]; omega
            · obtain rfl : p = j := by omega
              have hTl : T.length = p := by rw [← HT.out, List.length_map, List.length_take, List.length_drop, HKN.out]; omega
              obtain ⟨ba, bo, hae, hba, hbc⟩ := HX.out.acc (by rw [u32s, List.length_map, HA.out]; omega)
              have c0 := (HS2.out.2.cell (p := ⟨ba, bo + k, none⟩) hba).trans (hbc k (.int .u32 (A.getD k 0)) (by unfold u32s; rw [List.getElem?_map, List.getElem?_eq_getElem hkA, Plain.getD_lt A 0 k hkA]; rfl))
              rw [hae] at x2
              have HAE := Lib.hid hae
              have hbd := HNB.out.bA k hkA
              obtain ⟨z, hz⟩ : ∃ z, A.getD k 0 = z := ⟨_, rfl⟩
              rw [hz] at c0 hbd
              have HZ := Lib.hid hz
              have HTL := Lib.hid hTl
              have hLn : ∃ r : Row, rowV r = .slice up p uc ∧ r.2.2 = T ∧ Ln wr r := by
                obtain ⟨r, h1, h2, h3, _⟩ := Ln.of_own (by rw [HTL.out]; exact HU.out)
                exact ⟨r, h1.symm, h2, h3⟩
              obtain ⟨rn, hrn, hrT, hrl⟩ := hLn
              have HRN := Lib.hid hrn
              have HRT := Lib.hid hrT
              have HRL := Lib.hid hrl
              have d0 : decide ((p : Int) < (p : Int)) = false := decide_eq_false (by omega)
              have g0 : (0 : Int) ≤ (k : Int) := by omega
              have g1 : (k : Int) < (a : Int) := by omega
              clear hTl hae hbc hz hrn hrT hrl
              by_cases hz2 : z < 2
              case neg =>
                have d1 : decide ((1 : Int) < z) = true := decide_eq_true (by omega)
                have d2 : decide (z > 1) = true := decide_eq_true (by omega)

                have hno : Plain.flatRight F K A = false := flat_no (fine_a k hkA (by rw [HZ.out]; omega))
                have HNO := Lib.hid hno
                clear hno
                have hrbx := (HS2.out.box 4 _ _ _ rfl).2
                have HRX := Lib.hid hrbx
                obtain ⟨k0, k1, k2⟩ := blk_cells3 hrbx
                have f0 := blk_frozen hrbx 0
                have f1 := blk_frozen hrbx 1
                have f2 := blk_frozen hrbx 2
                clear hrbx
                go_wp2_with fail
                obtain ⟨m0, m1, m2⟩ := blk_cells3 (heap_setCell_same _ _ 2 _ _ (.slice none 0 0) (heap_setCell_same _ _ 1 _ _ (.slice none 0 0) (heap_setCell_same _ _ 0 _ _ (.slice none 0 0) HRX.out)))
                exact bodyPost_ret (v := .tuple #[.agg #[.slice none 0 0, .slice none 0 0, .slice none 0 0], .int .i64 11]) (by simp [results, Tryz.results25, go_sem, m0, m1, m2]) rfl (back_no HNO.out (((HS2.out.2.setCell HRB.out _).setCell HRB.out _).setCell HRB.out _))
              have d1 : decide ((1 : Int) < z) = false := decide_eq_false (by omega)
              have d2 : decide (z > 1) = false := decide_eq_false (by omega)
              have hcl : R.length = k := by
                have := congrArg List.length HR.out
                rw [Plain.rowsOf_len] at this
                simpa [nums] using this
              have hcC : C.length = k := by rw [← HC.out, List.length_map, List.length_take]; omega
              obtain ⟨vp1, vc1, hv1⟩ := own_form (HS2.out.row 1 _ _ _ _ _ rfl)
              obtain ⟨vp2, vc2, hv2⟩ := own_form (HS2.out.row 0 _ _ _ _ _ rfl)
              subst hv1
              subst hv2
              have HCE := Lib.hid (fun (w' : World) (hw : Below w.heap.size w w') => (hw.cell (p := ⟨ba, bo + k, none⟩) hba).trans ((HS2.out.2.cell (p := ⟨ba, bo + k, none⟩) hba).symm.trans c0))
              have htx := (HS2.out.box 3 _ _ _ rfl).2
              obtain ⟨y0, y1, y2⟩ := blk_cells3 htx
              have ltb := lt_of_some htx
              have HCL := Lib.hid hcl
              have HCC := Lib.hid hcC
              clear htx hcC hcl
              have HROW := Lib.hid (HS2.out.alloc (.cells #[.slice up p uc] 58))
              go_wp2_with (at_builtin; refine wpList_append_own2 _ rfl (.tmp 94) (.tmp 96) _ rfl w.heap.size 58 i58 _ 1 24 Tryz.underlying24 hi58 u0 u1 u2 rfl (by decide) (.slice vp1 R.length vc1) R.length (R.map rowV) rfl (HROW.out.row 1 _ _ _ _ _ rfl) ⟨wr.heap.size, 0, none⟩ 1 1 [.slice up p uc] rfl rfl (CellsAt_add (CellsAt.new wr _ _)) ?c2 ?c3 ?c4 ?c5 ?_)
              case c2 => first | exact rfl | (intro u hu; simp only [List.mem_cons, List.not_mem_nil, or_false] at hu; rw [hu]; rfl)
              case c3 => have := HCL.out; simp only [maxLen]; omega
              case c4 => have := HCL.out; omega
              case c5 => have := HS2.out.2.size; simp; omega
              intro v4 w4 hown4 hgr4 hvb4
              obtain ⟨gr1, vc4, rfl, _, _, _⟩ := own_at hown4 (by omega)
              have hS4 := HS2.out.push 1 58 1 _ _ R.length (R.length + 1) _ _ rfl (below_alloc (Below.refl wr.heap.size wr) _) hgr4 hown4 (by rw [World.size_alloc]; exact hvb4)
              have HKI4 := Lib.hid (show Ki wr w4 from (Ki.below (below_alloc (Below.refl wr.heap.size wr) (.cells #[.slice up p uc] 58))).trans (Ki.gr hgr4 (fun k hk => not3_row (HROW.out.row 1 _ _ _ _ _ rfl) (by decide) k hk)))
              have hb4 := (hS4.box 3 _ _ _ rfl).2
              have f4 : w4.frozen? ⟨tb, 1, none⟩ = false := blk_frozen hb4 1
              have l4 := lt_of_some hb4
              obtain ⟨_, e4, _⟩ := blk_cells3 hb4
              have hS5 := hS4.store 3 tb _ 85 rfl 1 (.slice (some ⟨gr1, 0, none⟩) (R.length + 1) vc4)
              have HKI5 := Lib.hid (HKI4.out.trans (show Ki w4 (w4.setCell ⟨tb, 1, none⟩ (.slice (some ⟨gr1, 0, none⟩) (R.length + 1) vc4)) from Ki.gr (gr_set _ _ _ _) (not3_box hb4 (by decide))))
              have em : R.map rowV ++ [.slice up p uc] = (R ++ [rn]).map rowV := by rw [List.map_append, List.map_cons, List.map_nil, HRN.out]
              have el : R.length + 1 = (R ++ [rn]).length := by rw [List.length_append]; rfl
              have HEL := Lib.hid el
              have HS5 := Lib.hid (show SepB w (w4.setCell ⟨tb, 1, none⟩ (.slice (some ⟨gr1, 0, none⟩) (R.length + 1) vc4)) [rowT 4 1 (.slice vp2 C.length vc2) C.length (C.map Value.bool), rowT 58 1 (.slice (some ⟨gr1, 0, none⟩) (R.length + 1) vc4) (R.length + 1) ((R ++ [rn]).map rowV), rowT 21 1 v0 F.length (i32s F), boxT tb #[v0, .slice (some ⟨gr1, 0, none⟩) (R.length + 1) vc4, .slice vp2 C.length vc2] 85, boxT rb #[.slice none 0 0, .slice none 0 0, .slice none 0 0] 85, boxT fb #[.slice FA p fc, .slice KA kn kc, .slice AA a ac] 51] from by rw [← em]; exact hS5)
              clear hown4 hgr4 hvb4 hS4 hb4 hS5 em el x0 x1 x2 lfb y0 y1 y2 ltb d0 d1 d2 c0
              obtain ⟨w5, hw5⟩ : ∃ v, w4.setCell ⟨tb, 1, none⟩ (.slice (some ⟨gr1, 0, none⟩) (R.length + 1) vc4) = v := ⟨_, rfl⟩
              rw [hw5] at HS5 HKI5
              go_upto_region 25 with fail
              try rw [hw5]
              clear f4 l4 e4 hw5

              obtain ⟨qb, hqb⟩ : ∃ q, (z == 1) = q := ⟨_, rfl⟩
              have HQB := Lib.hid hqb
              have hSx := HS5.out.drew
              obtain ⟨wd, hwd⟩ : ∃ v, World.drew w5 = v := ⟨_, rfl⟩
              rw [hwd] at hSx
              have HWD := Lib.hid hwd
              have HSd := Lib.hid hSx
              have hbx := (hSx.box 3 _ _ _ rfl).2
              have hfx := (hSx.box 5 _ _ _ rfl).2
              clear hwd hSx
              have HFACT := Lib.hid (fun (w' : World) (hb : w'.heap[tb]? = some (.cells #[v0, .slice (some ⟨gr1, 0, none⟩) (R.length + 1) vc4, .slice vp2 C.length vc2] 85 (0, 0))) (hf : w'.heap[fb]? = some (.cells #[.slice FA p fc, .slice KA kn kc, .slice AA a ac] 51 (0, 0))) (hw : Below w.heap.size w w') => (⟨by rw [cell_of_row _ _ _ _ _ _ hb]; rfl, by rw [cell_of_row _ _ _ _ _ _ hf]; rw [HAE.out]; rfl, HCE.out w' hw⟩ : (fun w' : World => w'.cell? ⟨tb, 2, none⟩ = some (.slice vp2 C.length vc2) ∧ w'.cell? ⟨fb, 2, none⟩ = some (.slice (some ⟨ba, bo, none⟩) a ac) ∧ w'.cell? ⟨ba, bo + k, none⟩ = some (.int .u32 z)) w'))
              have HS0 := Lib.hid (HFACT.out wd hbx hfx HSd.out.2)
              have HID := Lib.hid (fun (w' : World) (h : (fun w' : World => w'.cell? ⟨tb, 2, none⟩ = some (.slice vp2 C.length vc2) ∧ w'.cell? ⟨fb, 2, none⟩ = some (.slice (some ⟨ba, bo, none⟩) a ac) ∧ w'.cell? ⟨ba, bo + k, none⟩ = some (.int .u32 z)) w') => h)
              refine wp_region_noPanic ?_
              refine wp_region_T 10 (S := (fun w' : World => w'.cell? ⟨tb, 2, none⟩ = some (.slice vp2 C.length vc2) ∧ w'.cell? ⟨fb, 2, none⟩ = some (.slice (some ⟨ba, bo, none⟩) a ac) ∧ w'.cell? ⟨ba, bo + k, none⟩ = some (.int .u32 z))) (by kernel_rfl) (by decide) ?_
              rw [HWD.out]
              refine wpAnyT_take2 0 (v := ?tvxb0) (by kernel_rfl) rfl (by kernel_rfl) (fun _ _ _ h => h) (Or.inl ⟨by rfl, ?tyxb0⟩) HS0.out ?trxb0
              case tyxb0 => (intro w' hSw; (try dsimp only at hSw); go_simp; try with_reducible rfl)
              try simp only [Act.put, List.setIfInBounds_toArray, List.set_cons_zero, List.set_cons_succ]
              refine wpAnyT_take2 1 (v := ?tvxb1) (by kernel_rfl) rfl (by kernel_rfl) (fun _ _ _ h => h) (Or.inl ⟨by rfl, ?tyxb1⟩) HS0.out ?trxb1
              case tyxb1 => (intro w' hSw; obtain ⟨f0, f1, f2⟩ := HID.out w' hSw; (try dsimp only at hSw); go_simp; try with_reducible rfl)
              try simp only [Act.put, List.setIfInBounds_toArray, List.set_cons_zero, List.set_cons_succ]
              refine wpAnyT_take2 2 (v := ?tvxb2) (by kernel_rfl) rfl (by kernel_rfl) (fun _ _ _ h => h) (Or.inl ⟨by rfl, ?tyxb2⟩) HS0.out ?trxb2
              case tyxb2 => (intro w' hSw; (try dsimp only at hSw); go_simp; try with_reducible rfl)
              try simp only [Act.put, List.setIfInBounds_toArray, List.set_cons_zero, List.set_cons_succ]
              refine wpAnyT_take2 3 (v := ?tvxb3) (by kernel_rfl) rfl (by kernel_rfl) (fun _ _ _ h => h) (Or.inl ⟨by rfl, ?tyxb3⟩) HS0.out ?trxb3
              case tyxb3 => (intro w' hSw; obtain ⟨f0, f1, f2⟩ := HID.out w' hSw; (try dsimp only at hSw); go_simp; try with_reducible rfl)
              try simp only [Act.put, List.setIfInBounds_toArray, List.set_cons_zero, List.set_cons_succ]
              refine wpAnyT_take2 4 (v := ?tvxb4) (by kernel_rfl) rfl (by kernel_rfl) (fun _ _ _ h => h) (Or.inl ⟨by rfl, ?tyxb4⟩) HS0.out ?trxb4
              case tyxb4 => (intro w' hSw; (try dsimp only at hSw); go_simp; try with_reducible rfl)
              try simp only [Act.put, List.setIfInBounds_toArray, List.set_cons_zero, List.set_cons_succ]
              refine wpAnyT_take2 5 (v := ?tvxb5) (by kernel_rfl) rfl (by kernel_rfl) (fun _ _ _ h => h) (Or.inl ⟨by rfl, ?tyxb5⟩) HS0.out ?trxb5
              case tyxb5 => (intro w' hSw; (try dsimp only at hSw); go_simp; try with_reducible rfl)
              try simp only [Act.put, List.setIfInBounds_toArray, List.set_cons_zero, List.set_cons_succ]
              refine wpAnyT_take2 6 (v := ?tvxb6) (by kernel_rfl) rfl (by kernel_rfl) (fun _ _ _ h => h) (Or.inl ⟨by rfl, ?tyxb6⟩) HS0.out ?trxb6
              case tyxb6 => (intro w' hSw; obtain ⟨f0, f1, f2⟩ := HID.out w' hSw; (try dsimp only at hSw); go_simp; try with_reducible rfl)
              try simp only [Act.put, List.setIfInBounds_toArray, List.set_cons_zero, List.set_cons_succ]
              refine wpAnyT_take2 7 (v := ?tvxb7) (by kernel_rfl) rfl (by kernel_rfl) (fun _ _ _ h => h) (Or.inl ⟨by rfl, ?tyxb7⟩) HS0.out ?trxb7
              case tyxb7 => (intro w' hSw; (try dsimp only at hSw); go_simp; try with_reducible rfl)
              try simp only [Act.put, List.setIfInBounds_toArray, List.set_cons_zero, List.set_cons_succ]
              refine wpAnyT_one2 8 rfl (by kernel_rfl) ?_
              intro K' hK'
              rw [if_pos (by rfl)]
              have HK := Lib.hid hK'
              clear hK'
              go_simp
              have hsa := (HSd.out.alloc (.cells #[.bool qb] 4))
              have HSA := Lib.hid (HFACT.out _ (hsa.box 3 _ _ _ rfl).2 (hsa.box 5 _ _ _ rfl).2 hsa.2)
              clear hsa
              refine HK.out _ _ ⟨HSA.out, ?_⟩
              clear HK K'
              try simp only [Act.put, List.setIfInBounds_toArray, List.set_cons_zero, List.set_cons_succ]
              refine wpAnyT_one2 9 rfl (by kernel_rfl) ?_
              intro K' hK'
              rw [if_pos (by rfl)]
              have HK := Lib.hid hK'
              clear hK'
              refine oper_append_own2 _ (.tmp 100) (.tmp 107) 25 (by rfl) w.heap.size 4 i4 _ 1 1 Tryz.underlying25 hi4 q0 q1 q2 rfl (by decide) (.slice vp2 (C.length) vc2) (C.length) (C.map Value.bool) (by rfl) ((HSd.out.alloc (.cells #[.bool qb] 4)).row 0 _ _ _ _ _ rfl) ⟨wd.heap.size, 0, none⟩ 1 1 [.bool qb] (by rfl) rfl (CellsAt_add (CellsAt.new wd _ _)) (fun u hu => by simp only [List.mem_cons, List.not_mem_nil, or_false] at hu; rw [hu]; rfl) (by have := HCC.out; simp only [maxLen]; omega) (by have := HCC.out; omega) (by have := HSd.out.2.size; simp; omega) ?_
              intro v7 w7 hown hgr hvb
              obtain ⟨gv, uc, rfl, _, _, _⟩ := own_at hown (by omega)
              have hS7 := HSd.out.push 0 4 1 _ _ (C.length) (C.length + 1) _ _ rfl (below_alloc (Below.refl wd.heap.size wd) _) hgr hown hvb
              have HKI7 := Lib.hid (show Ki wd w7 from (Ki.below (below_alloc (Below.refl wd.heap.size wd) (.cells #[.bool qb] 4))).trans (Ki.gr hgr (fun k hk => not3_row ((HSd.out.alloc (.cells #[.bool qb] 4)).row 0 _ _ _ _ _ rfl) (by decide) k hk)))
              have hb7 := (hS7.box 3 _ _ _ rfl).2
              refine HK.out _ _ ⟨(HFACT.out w7 hb7 (hS7.box 5 _ _ _ rfl).2 hS7.2), ?_⟩
              clear HK K'
              try simp only [Act.put, List.setIfInBounds_toArray, List.set_cons_zero, List.set_cons_succ]

              refine ⟨by kernel_rfl, ?_⟩
              change wpList _ _ _ [_, _] _ _
              have f7 : w7.frozen? ⟨tb, 2, none⟩ = false := blk_frozen hb7 2
              have l7 := lt_of_some hb7
              obtain ⟨c7a, _, _⟩ := HFACT.out w7 hb7 (hS7.box 5 _ _ _ rfl).2 hS7.2
              have hS8 := hS7.store 3 tb _ 85 rfl 2 (.slice (some ⟨gv, 0, none⟩) (C.length + 1) uc)
              have HS8 := Lib.hid hS8
              have HKI8 := Lib.hid (HKI7.out.trans (show Ki w7 (w7.setCell ⟨tb, 2, none⟩ (.slice (some ⟨gv, 0, none⟩) (C.length + 1) uc)) from Ki.gr (gr_set _ _ _ _) (not3_box hb7 (by decide))))
              clear hown hgr hvb hbx hfx hS7 hS8 hb7
              go_wp2
              refine NoPanic.normal ?_
              clear f7 l7 c7a
              go_wp2_with fail
              go_roundw
              case rel =>
                have hkz : Ki w3 w5 := (Ki.below HB.out).trans HKI5.out
                have hkd : Ki w5 wd := Ki.below (by rw [← HWD.out]; exact Below.drew (Below.refl _ _))
                have hk9 := (hkz.trans hkd).trans HKI8.out
                have hk8 := ((HKI5.out).trans hkd).trans HKI8.out
                refine ⟨k + 1, .slice (some ⟨gr1, 0, none⟩) (R.length + 1) vc4, .slice (some ⟨gv, 0, none⟩) (C.length + 1) uc, R ++ [rn], by omega, by go_num, ?_, fun j hj => ?_, fun j hj => ?_, ?_, fun r hr => ?_⟩
                · unfold nums
                  rw [List.map_append, show R.map (fun r => r.2.2) = nums R from rfl, HR.out]
                  unfold Plain.rowsOf
                  rw [List.range_succ, List.map_append, List.map_singleton, List.map_singleton, HSS.out, HRT.out, ← HT.out]
                · rcases Nat.lt_or_ge j k with h | h
                  · exact HA2.out j h
                  · obtain rfl : j = k := by omega
                    rw [HZ.out]; exact hz2
                · rcases Nat.lt_or_ge j (k * p) with h | h
                  · exact HK2.out j h
                  · have h1 := HSS.out
                    rw [Nat.add_mul] at hj
                    have h2 := HQ.out (j - s) (by omega)
                    rw [show s + (j - s) = j by omega] at h2
                    exact h2
                · have e1 : C.length + 1 = ((A.take (k + 1)).map fun x => x == 1).length := by rw [HCC.out, List.length_map, List.length_take]; omega
                  have e2 : C.map Value.bool ++ [.bool qb] = ((A.take (k + 1)).map fun x => x == 1).map Value.bool := by
                    have h1 : A[k]? = some z := by rw [List.getElem?_eq_getElem hkA, ← HZ.out, Plain.getD_lt A 0 k hkA]
                    rw [List.take_add_one, h1, List.map_append, HC.out, List.map_append, Option.toList_some, List.map_cons, List.map_nil, List.map_cons, List.map_nil, HQB.out]
                  unfold KL
                  rw [← e2, ← e1, ← HEL.out]
                  exact HS8.out
                · rcases List.mem_append.1 hr with hr | hr
                  · exact ⟨(HL.out r hr).1.ki hk9, (HL.out r hr).2⟩
                  · rw [List.mem_singleton.1 hr]
                    exact ⟨HRL.out.ki hk8, by rw [HRT.out, HTL.out]; exact hF⟩
              case measure => simp [RowKit.intOf]; omega
        · obtain rfl : a = k := by omega
          have hCa : C = A.map fun x => x == 1 := by rw [← HC.out, List.take_of_length_le (by rw [HA.out]; exact Nat.le_refl _)]
          have d0 : decide ((a : Int) < (a : Int)) = false := decide_eq_false (by omega)
          have htx := (HS.out.box 3 _ _ _ rfl).2
          obtain ⟨y0, y1, y2⟩ := blk_cells3 htx
          have ltb := lt_of_some htx
          obtain ⟨vp0, vc0, hv0⟩ := own_form (HS.out.row 2 _ _ _ _ _ rfl)
          obtain ⟨vp1, vc1, hv1⟩ := own_form (HS.out.row 1 _ _ _ _ _ rfl)
          obtain ⟨vp2, vc2, hv2⟩ := own_form (HS.out.row 0 _ _ _ _ _ rfl)
          subst hv0
          subst hv1
          subst hv2
          have hRl : R.length = a := by
            have := congrArg List.length HR.out
            rw [Plain.rowsOf_len] at this
            simpa [nums] using this
          have hCl : C.length = a := by rw [hCa, List.length_map]; exact HA.out
          have hTab : ∀ w', SepB w w' [rowT 4 1 (.slice vp2 C.length vc2) C.length (C.map Value.bool), rowT 58 1 (.slice vp1 R.length vc1) R.length (R.map rowV), rowT 21 1 (.slice vp0 F.length vc0) F.length (i32s F)] → (∀ r ∈ R, Ln w' r) → TabAt w' vp0 F vp1 R vp2 C := fun w' h1 h2 =>
            ⟨own_Sl (h1.row 2 _ _ _ _ _ rfl) (by simp [i32s]), own_Sl (h1.row 1 _ _ _ _ _ rfl) (by simp), fun r hr => ⟨(h2 r hr).sl, by have := (HL.out r hr).2; simp only [maxLen]; omega⟩, own_Sl (h1.row 0 _ _ _ _ _ rfl) (by simp), by rw [HP.out]; simp only [maxLen]; omega, by rw [hRl]; simp only [maxLen]; omega, by rw [hCl]; simp only [maxLen]; omega⟩
          have cT := rtab_any vp0 F vc0 vp1 R vc1 vp2 C vc2 wr (hTab wr (HS.out.sub (by simp [KL])) fun r hr => (HL.out r hr).1)
          unfold tabV at cT
          have HCT := Lib.hid cT
          have HTAB := Lib.hid hTab
          have HCA := Lib.hid hCa
          have HCL := Lib.hid hCl
          have hfl : Plain.flatRight F K A = Plain.tabRight F (nums R) C.length := by
            unfold Plain.flatRight
            rw [fine_yes (fun k hk => HFS.out k (by rw [← HP.out]; exact hk)) (fun k hk => by rw [HP.out]; exact HK2.out k (by rw [HKN.out, HKP.out, Nat.mul_comm] at hk; exact hk)) (fun k hk => HA2.out k (by rw [← HA.out]; exact hk)), mod_small (fun k hk => (HNB.out.bF k hk).1) (fun k hk => HFS.out k (by rw [← HP.out]; exact hk)), HP.out, HKN.out, HKP.out, HA.out, HR.out, hCl]
            simp [hp0]
          have HFL := Lib.hid hfl
          clear hCa htx hRl hCl hTab cT hfl
          obtain ⟨tr, htr⟩ : ∃ t, Plain.tabRight F (nums R) C.length = t := ⟨_, rfl⟩
          rw [htr] at HCT HFL
          clear htr
          cases tr
          · go_upto_region 27 with (go_at_call 52; refine HCT.out.mono ?_; rintro e w5 ⟨rfl, hb5⟩; have HS2 := Lib.hid (HS.out.below hb5); clear hb5)

            have hno : Plain.flatRight F K A = false := HFL.out
            have HNO := Lib.hid hno
            clear hno
            have hrbx := (HS2.out.box 4 _ _ _ rfl).2
            have HRX := Lib.hid hrbx
            obtain ⟨k0, k1, k2⟩ := blk_cells3 hrbx
            have f0 := blk_frozen hrbx 0
            have f1 := blk_frozen hrbx 1
            have f2 := blk_frozen hrbx 2
            clear hrbx
            go_wp2_with fail
            obtain ⟨m0, m1, m2⟩ := blk_cells3 (heap_setCell_same _ _ 2 _ _ (.slice none 0 0) (heap_setCell_same _ _ 1 _ _ (.slice none 0 0) (heap_setCell_same _ _ 0 _ _ (.slice none 0 0) HRX.out)))
            exact bodyPost_ret (v := .tuple #[.agg #[.slice none 0 0, .slice none 0 0, .slice none 0 0], .int .i64 11]) (by simp [results, Tryz.results25, go_sem, m0, m1, m2]) rfl (back_no HNO.out (((HS2.out.2.setCell HRB.out _).setCell HRB.out _).setCell HRB.out _))
          · go_upto_region 28 with (go_at_call 52; refine HCT.out.mono ?_; rintro e w5 ⟨rfl, hb5⟩)
            have HS2 := Lib.hid (HS.out.below hb5)
            have hki : Ki wr w5 := Ki.below hb5
            have hS7 := ((HS2.out.store 4 rb _ 85 rfl 0 (.slice vp0 F.length vc0)).store 4 rb _ 85 rfl 1 (.slice vp1 R.length vc1)).store 4 rb _ 85 rfl 2 (.slice vp2 C.length vc2)
            have hrbx := (HS2.out.box 4 _ _ _ rfl).2
            have hk1 := hki.trans (((Ki.gr (gr_set w5 rb 0 (.slice vp0 F.length vc0)) (not3_box hrbx (by decide))).trans (Ki.gr (gr_set _ rb 1 (.slice vp1 R.length vc1)) (not3_box ((HS2.out.store 4 rb _ 85 rfl 0 (.slice vp0 F.length vc0)).box 4 _ _ _ rfl).2 (by decide)))).trans (Ki.gr (gr_set _ rb 2 (.slice vp2 C.length vc2)) (not3_box (((HS2.out.store 4 rb _ 85 rfl 0 (.slice vp0 F.length vc0)).store 4 rb _ 85 rfl 1 (.slice vp1 R.length vc1)).box 4 _ _ _ rfl).2 (by decide))))
            have HT9 := Lib.hid (HTAB.out _ (hS7.sub (by simp [KL])) fun r hr => (HL.out r hr).1.ki hk1)
            have HRX := Lib.hid hrbx
            obtain ⟨k0, k1, k2⟩ := blk_cells3 hrbx
            have f0 := blk_frozen hrbx 0
            have f1 := blk_frozen hrbx 1
            have f2 := blk_frozen hrbx 2
            clear y0 y1 y2 ltb
            have htx := (HS2.out.box 3 _ _ _ rfl).2
            obtain ⟨y0, y1, y2⟩ := blk_cells3 htx
            have ltb := lt_of_some htx
            have lrb := lt_of_some hrbx
            clear hki hS7 hrbx hk1 htx hb5 d0
            go_wp2_with fail
            obtain ⟨m0, m1, m2⟩ := blk_cells3 (heap_setCell_same _ _ 2 _ _ (.slice vp2 C.length vc2) (heap_setCell_same _ _ 1 _ _ (.slice vp1 R.length vc1) (heap_setCell_same _ _ 0 _ _ (.slice vp0 F.length vc0) HRX.out)))
            refine bodyPost_ret (v := .tuple #[.agg #[.slice vp0 F.length vc0, .slice vp1 R.length vc1, .slice vp2 C.length vc2], .int .i64 0]) (by simp [results, Tryz.results25, go_sem, m0, m1, m2]) rfl ?_
            refine ⟨((HS2.out.2.setCell HRB.out _).setCell HRB.out _).setCell HRB.out _, fun _ => ?_, fun h => ?_⟩
            · rw [mod_small (fun k hk => (HNB.out.bF k hk).1) (fun k hk => HFS.out k (by rw [← HP.out]; exact hk)), ← HCA.out]
              exact ⟨vp0, vc0, vp1, R, vc1, vp2, vc2, rfl, by rw [HP.out, HA.out]; exact HR.out, HT9.out⟩
            · rw [HFL.out] at h; cases h
end Go.Proofs.YtgppobaoclfgcaaGreatDoor
