/- The walk of RawdfaSame. Conditions: what the lemma says. -/
import Derived.Deep.CutBlock
import Derived.Deep.DeepCutAuto
import Derived.Test.YtdonginboioocaaDoorSameB
set_option linter.unusedVariables false
set_option linter.unusedSimpArgs false
namespace Go.Proofs.YtdonginboioocaaDoor
open Go.RowKit Go.Lib
set_option maxRecDepth 1000000 in
set_option maxHeartbeats 8000000 in
theorem same_walk (TP : Option Addr) (TL : List Int) (tpc : Nat) (TN : Option Addr) (TR : List Row) (tnc : Nat) (TA : Option Addr) (TC : List Bool) (tac : Nat) (own : Bool) (PA : Option Addr) (PL : List Int) (pc : Nat) (NA : Option Addr) (NL : List Int) (nc : Nat) (AA : Option Addr) (AL : List Bool) (ac : Nat)
    (XA : Option Addr) (X : List Int) (xc : Nat) (w : World) (hG : GridAt w PA PL NA NL AA AL) (hTT : TabAt w TP TL TN TR TA TC) (htc : TL.length ≤ tpc) (hX : Sl w XA (u8s X)) (hxl : X.length ≤ maxLen)
    (hx8 : ∀ k, k < X.length → 0 ≤ X.getD k 0 ∧ X.getD k 0 < 256) (hT : Tabs w) :
    Calls Tryd.prog 6 #[.agg #[.slice TP TL.length tpc, .slice TN TR.length tnc, .slice TA TC.length tac, .bool own, .slice PA PL.length pc, .slice NA NL.length nc, .slice AA AL.length ac], .slice XA X.length xc] w fun e w' => e = .returned (.bool true) ∧ Below w.heap.size w w' := by
  have cG := fun (W : World) (hb : Below w.heap.size w W) => grid_any TP TL tpc TN TR tnc TA TC tac own PA PL pc NA NL nc AA AL ac W (hG.below hb) (hTT.below hb) htc
  have cX := fun (W : World) (hb : Below w.heap.size w W) => text_any XA X xc 16 W (hX.below hb) hxl hx8 (by decide)
  have la1 := txt_le (fun i => X.getD i 0) (min X.length 16)
  have hsA : (txt (fun i => X.getD i 0) (min X.length 16)).size ≤ 32 := by omega
  obtain ⟨sa, hsa⟩ : ∃ s, txt (fun i => X.getD i 0) (min X.length 16) = s := ⟨_, rfl⟩
  rw [hsa] at hsA cX
  have HT := Lib.hid hT
  have HG := Lib.hid cG
  have HX := Lib.hid cX
  have l1 := hTT.lp
  have l2 := hTT.lr
  have l3 := hTT.la
  have l4 := hG.hp
  have l5 := hG.hn
  have l6 := hG.ha
  unfold maxLen at l1 l2 l3 l4 l5 l6 hxl
  clear la1 hsa hT cG cX hG hTT hX hx8 htc
  go_enter Tryd.func6, Tryd.ntmps6
  go_wp2_with fail
  have hb0 : Below w.heap.size w (w.alloc (.cells #[.slice TP TL.length tpc, .slice TN TR.length tnc, .slice TA TC.length tac, .bool own, .slice PA PL.length pc, .slice NA NL.length nc, .slice AA AL.length ac] 30)) := (Below.refl _ _).alloc (Nat.le_refl _) _
  refine (examples_any _ (HT.out.below hb0)).mono ?_
  rintro e w1 ⟨rfl, hb1⟩
  have hC1 : CellsAt w1 w.heap.size [.slice TP TL.length tpc, .slice TN TR.length tnc, .slice TA TC.length tac, .bool own, .slice PA PL.length pc, .slice NA NL.length nc, .slice AA AL.length ac] := (CellsAt.new w _ _).below hb1
  have k0 := hC1.at_ 0 _ rfl
  have k1 := hC1.at_ 1 _ rfl
  have k2 := hC1.at_ 2 _ rfl
  have k3 := hC1.at_ 3 _ rfl
  have k4 := hC1.at_ 4 _ rfl
  have k5 := hC1.at_ 5 _ rfl
  have k6 := hC1.at_ 6 _ rfl
  have HB1 := Lib.hid (hb0.trans (hb1.mono (by simp)))
  clear hb0 hb1 hC1
  go_wp2_with fail
  refine (HG.out _ HB1.out).mono ?_
  rintro e w2 ⟨QA, P, qc, MA, R, mc, BA, C, bc, rfl, hTab, hqc, hb2⟩
  have hB2 := HB1.out.trans (hb2.mono HB1.out.size)
  have hTb2 := HT.out.below hB2
  have c10 := fun (W : World) (hb : Below w2.heap.size w2 W) => oftable_any QA P qc MA R mc BA C bc sa (by omega) W (hTab.below hb) (hTb2.below hb)
  have c13 := fun (W : World) (hb : Below w2.heap.size w2 W) => wfind_tot QA P qc MA R mc BA C bc sa W (hTab.below hb) hqc (by omega)
  have c14 := fun (W : World) (hb : Below w2.heap.size w2 W) => states_end QA P qc MA R mc BA C bc sa W (hTab.below hb) hqc (by omega)
  unfold tabV at c10 c13 c14
  obtain ⟨tot, htot⟩ : ∃ t, totOf P (nums R) C sa = t := ⟨_, rfl⟩
  obtain ⟨z, hz⟩ : ∃ t, endOf P (nums R) C sa = t := ⟨_, rfl⟩
  rw [htot, hz] at c10
  rw [htot, foundV_eq] at c13
  rw [hz] at c14
  have m1 := hTab.lp
  have m2 := hTab.lr
  have m3 := hTab.la
  unfold maxLen at m1 m2 m3
  have hq0 : Below w2.heap.size w2 (w2.alloc (.cells #[.slice QA P.length qc, .slice MA R.length mc, .slice BA C.length bc] 27)) := (Below.refl _ _).alloc (Nat.le_refl _) _
  have hC2 : CellsAt (w2.alloc (.cells #[.slice QA P.length qc, .slice MA R.length mc, .slice BA C.length bc] 27)) w2.heap.size [.slice QA P.length qc, .slice MA R.length mc, .slice BA C.length bc] := CellsAt.new w2 _ _
  have H10 := Lib.hid c10
  have H13 := Lib.hid c13
  have H14 := Lib.hid c14
  have HB2 := Lib.hid hB2
  have HQ2 := Lib.hid hq0
  have HC2 := Lib.hid hC2
  clear c10 c13 c14 hB2 hq0 hC2 hTab hqc hb2 hTb2 htot hz k0 k1 k2 k3 k4 k5 k6
  unfold tabV
  go_wp2_with fail
  refine (HX.out _ (HB2.out.trans (HQ2.out.mono HB2.out.size))).mono ?_
  rintro e w3 ⟨rfl, hb⟩
  have HQ3 := Lib.hid (HQ2.out.trans (hb.mono HQ2.out.size))
  have HC3 := Lib.hid (HC2.out.below hb)
  clear hb
  have k0 := HC3.out.at_ 0 _ rfl
  have k1 := HC3.out.at_ 1 _ rfl
  have k2 := HC3.out.at_ 2 _ rfl
  go_wp2_with fail
  refine (H10.out _ HQ3.out).mono ?_
  rintro e w4 ⟨v0, v1, v2, er, ⟨A0, n0, c0, rfl⟩, ⟨A1, n1, c1, rfl⟩, ⟨A2, n2, c2, rfl⟩, rfl, hb, hF, hS⟩
  rw [foundV_eq] at hF
  have HF := Lib.hid hF
  have HS := Lib.hid hS
  have HQ4 := Lib.hid (HQ3.out.trans (hb.mono HQ3.out.size))
  have HC4 := Lib.hid (HC3.out.below hb)
  have hd0 : CellsAt (w4.alloc (.cells #[.slice A0 n0 c0, .slice A1 n1 c1, .slice A2 n2 c2] 36)) w4.heap.size [.slice A0 n0 c0, .slice A1 n1 c1, .slice A2 n2 c2] := CellsAt.new w4 _ _
  have hr0 : Below w4.heap.size w4 (w4.alloc (.cells #[.slice A0 n0 c0, .slice A1 n1 c1, .slice A2 n2 c2] 36)) := (Below.refl _ _).alloc (Nat.le_refl _) _
  have HD0 := Lib.hid hd0
  have HR0 := Lib.hid hr0
  have HE0 := Lib.hid (HC4.out.below hr0)
  clear hF hS hb hd0 hr0 k0 k1 k2
  go_wp2_with fail
  refine (HF.out _ HR0.out).mono ?_
  rintro e w5 ⟨rfl, hb⟩
  have HR5 := Lib.hid (HR0.out.trans (hb.mono HR0.out.size))
  have HD5 := Lib.hid (HD0.out.below hb)
  have HE5 := Lib.hid (HE0.out.below hb)
  clear hb
  have k0 := HE5.out.at_ 0 _ rfl
  have k1 := HE5.out.at_ 1 _ rfl
  have k2 := HE5.out.at_ 2 _ rfl
  go_wp2_with fail
  refine (H13.out _ (HQ4.out.trans (HR5.out.mono HQ4.out.size))).mono ?_
  rintro e w6 ⟨rfl, hb⟩
  have HR6 := Lib.hid (HR5.out.trans (hb.mono HR5.out.size))
  have HD6 := Lib.hid (HD5.out.below hb)
  have HE6 := Lib.hid (HE5.out.below hb)
  clear hb k0 k1 k2
  have k0 := HE6.out.at_ 0 _ rfl
  have k1 := HE6.out.at_ 1 _ rfl
  have k2 := HE6.out.at_ 2 _ rfl
  go_wp2_with fail
  refine (H14.out _ (HQ4.out.trans (HR6.out.mono HQ4.out.size))).mono ?_
  rintro e w7 ⟨hb, hst⟩
  have HR7 := Lib.hid (HR6.out.trans (hb.mono HR6.out.size))
  have HD7 := Lib.hid (HD6.out.below hb)
  clear hb k0 k1 k2
  have k0 := HD7.out.at_ 0 _ rfl
  have k1 := HD7.out.at_ 1 _ rfl
  have k2 := HD7.out.at_ 2 _ rfl
  generalize atOf tot = a at HF H13 ⊢
  generalize tot.isSome = o at HF H13 ⊢
  have haa : (a == a) = true := by simp
  have hoo : (o == o) = true := by simp
  have hzz : (z == z) = true := by simp
  rcases hst with ⟨rfl, hz⟩ | ⟨g, n, c, rfl, hn, hnc, hcl⟩
  · subst hz
    go_wp2_with fail
    refine (HS.out _ HR7.out).mono ?_
    rintro e w8 ⟨rfl, hb⟩
    have hF8 := HB2.out.trans ((HQ4.out.trans ((HR7.out.trans (hb.mono HR7.out.size)).mono HQ4.out.size)).mono HB2.out.size)
    have HF8 := Lib.hid hF8
    clear hF8 hb
    go_wp2
    go_ret
    exact ⟨rfl, HF8.out⟩
  · have hi0 : (0 : Int) ≤ (n : Int) := by omega
    have hi1 : (n : Int) < ((n + 1 : Nat) : Int) := by omega
    go_wp2_with fail
    refine (HS.out _ HR7.out).mono ?_
    rintro e w8 ⟨rfl, hb⟩
    have hF8 := HB2.out.trans ((HQ4.out.trans ((HR7.out.trans (hb.mono HR7.out.size)).mono HQ4.out.size)).mono HB2.out.size)
    have HF8 := Lib.hid hF8
    clear hF8 hb
    go_wp2
    go_ret
    exact ⟨rfl, HF8.out⟩
end Go.Proofs.YtdonginboioocaaDoor
