/- Chapter 4: ClassTells: what the code computes. Conditions: what each lemma says. -/
import Derived.Test.YtkkgdnmloojloaaDoorClassV
import Derived.Deep.RegionHeld3
import Derived.Deep.QuietTactic
import Derived.Deep.Cut
import Derived.Deep.DeepCutAuto
set_option linter.unusedVariables false
set_option linter.unusedSimpArgs false
namespace Go.Proofs.YtkkgdnmloojloaaDoor
open Go.RowKit Go.Lib
open Plain (Rg Rn May mayB In Norm cls cnot rightB runOf cputL)
theorem rsame_cl {R S : List Rg} {A B : Option Addr} {n c m d : Nat} {w : World} (h : Cl w A n c R) (k : Cl w B m d S) (hn : R.length ≤ 10000) (hm : S.length ≤ 10000) : Calls Tryd.prog 33 #[.slice A n c, .slice B m d] w fun e w' => e = .returned (.bool (decide (R = S))) ∧ Below w.heap.size w w' := by
  obtain ⟨h1, rfl, h3⟩ := h
  obtain ⟨k1, rfl, k3⟩ := k
  exact rsame_any R S A B c d w h1 k1 (by unfold maxLen; omega) (by unfold maxLen; omega)
theorem rsame_true {C : List Rg} {A B : Option Addr} {n c m d : Nat} {w : World} (h : Cl w A n c C) (k : Cl w B m d C) (hl : C.length ≤ 10000) : Calls Tryd.prog 33 #[.slice A n c, .slice B m d] w fun e w' => e = .returned (.bool true) ∧ Below w.heap.size w w' := by
  have h1 := rsame_cl h k hl hl
  rw [decide_eq_true rfl] at h1
  exact h1
theorem rright_cl {R : List Rg} {A : Option Addr} {n c : Nat} {w : World} (h : Cl w A n c R) (hn : n ≤ 10000) : Calls Tryd.prog 41 #[.slice A n c] w fun e w' => e = .returned (.bool (rightB R)) ∧ Below w.heap.size w w' := by
  refine (rright_any h hn).mono ?_
  rintro e w' ⟨b, rfl, hb, hB⟩
  have : b = rightB R := by rw [Bool.eq_iff_iff, hb, Plain.rightB_iff]
  rw [this]
  exact ⟨rfl, hB⟩
theorem rhas_cl {R : List Rg} {A : Option Addr} {n c : Nat} (x : Int) {w : World} (h : Cl w A n c R) (hn : n ≤ 10000) : Calls Tryd.prog 43 #[.slice A n c, .int .i32 x] w fun e w' => e = .returned (.bool (hasB R x)) ∧ Below w.heap.size w w' := by
  refine (rhas_any R A n c x w h hn).mono ?_
  rintro e w' ⟨rfl, rfl⟩
  exact ⟨rfl, Below.refl _ _⟩
def OCut (w : World) (y : Value) (wx : World) : Prop := ∃ z : Int, y = .int .i32 z ∧ wx = w
set_option maxRecDepth 100000 in
set_option maxHeartbeats 8000000 in
theorem ctells_walk (X Y : List Rn) (A B : Option Addr) (n c m d : Nat) (r t30 : Int) (own : Bool) (W : World) (hr : -2147483648 ≤ r ∧ r < 2147483648) (ht : Int.tmod r 30 = t30) (ht0 : -30 < t30) (ht1 : t30 < 30)
    (hX : Rns W A X) (hR : X.length = n) (hn : n ≤ maxLen) (hok : ∀ x ∈ X, RnOk x) (hY : Rns W B Y) (hS : Y.length = m) (hm : m ≤ maxLen) (hokY : ∀ x ∈ Y, RnOk x) (hT : Tz W) :
    Calls Tryd.prog 9 #[.slice A n c, .slice B m d, .int .i32 r, .bool own] W fun e w' => e = .returned (.bool true) ∧ Below W.heap.size W w' := by
  have HT := Lib.hid hT
  have HX := Lib.hid hX
  have HR := Lib.hid hR
  have HN := Lib.hid hn
  have HOK := Lib.hid hok
  have HY := Lib.hid hY
  have HS := Lib.hid hS
  have HM := Lib.hid hm
  have HOKY := Lib.hid hokY
  clear hT hX hR hn hok hY hS hm hokY
  have e6 : IntKind.i32.wrap (97 + t30) = 97 + t30 := by rw [IntKind.wrap_i32]; omega
  have e7 : IntKind.i32.wrap t30 = t30 := by rw [IntKind.wrap_i32]; omega
  go_enter Tryd.func9, Tryd.ntmps9
  have HB0 := Lib.hid (Below.refl W.heap.size W)
  go_wp2_with fail
  refine (classEx_any W HT.out).mono ?_
  rintro en1 w1 ⟨rfl, hb⟩
  have HB1 := Lib.hid (below_then HB0.out hb)
  clear hb
  go_wp2_with fail
  refine ((runs_cl 20 (HX.out.below HB1.out) HR.out (by decide) HN.out HOK.out)).mono ?_
  rintro en2 w2 ⟨AD, nD, cD, rfl, hD, hb⟩
  have HB2 := Lib.hid (below_then HB1.out hb)
  have HD2 := Lib.hid hD
  clear hb hD
  go_wp2_with fail
  refine ((runs_cl 20 (HY.out.below HB2.out) HS.out (by decide) HM.out HOKY.out)).mono ?_
  rintro en3 w3 ⟨AE, nE, cE, rfl, hE, hb⟩
  have HB3 := Lib.hid (below_then HB2.out hb)
  have HD3 := Lib.hid (HD2.out.below hb)
  have HE3 := Lib.hid hE
  clear hb hE
  have hwX := runs_wide X 20 HOK.out
  have hlX := runs_len X 20
  have hlY := runs_len Y 20
  obtain ⟨L, hL⟩ : ∃ C, runsOf X 20 = C := ⟨_, rfl⟩
  obtain ⟨M, hM⟩ : ∃ C, runsOf Y 20 = C := ⟨_, rfl⟩
  rw [hL] at hwX hlX HD3
  rw [hM] at hlY HE3
  have hnD := HD3.out.2.1
  have hnE := HE3.out.2.1
  have hd20 : nD ≤ 20 := by omega
  have he20 : nE ≤ 20 := by omega
  have HWX := Lib.hid hwX
  have q1 : L.length ≤ 10000 := by omega
  have q2 : M.length ≤ 10000 := by omega
  have q3 : (cls L).length ≤ 10000 := by have := Plain.cls_len L; omega
  have q4 : (cls (L ++ M)).length ≤ 10000 := by have := Plain.cls_len (L ++ M); rw [List.length_append] at this; omega
  have q5 : (cnot L).length ≤ 10000 := by have := Plain.cnot_len L; omega
  have Q1 := Lib.hid q1
  have Q2 := Lib.hid q2
  have Q3 := Lib.hid q3
  have Q4 := Lib.hid q4
  have Q5 := Lib.hid q5
  clear hwX hlX hlY hL hM hnD hnE q1 q2 q3 q4 q5
  go_wp2_with fail
  refine ((rclass_any HD3.out (by omega))).mono ?_
  rintro en4 w4 ⟨AP, nP, cP, rfl, hP, hb⟩
  have HB4 := Lib.hid (below_then HB3.out hb)
  have HD4 := Lib.hid (HD3.out.below hb)
  have HE4 := Lib.hid (HE3.out.below hb)
  have HP4 := Lib.hid hP
  clear hb hP
  go_wp2_with fail
  refine ((rclass_any HE4.out (by omega))).mono ?_
  rintro en5 w5 ⟨AQ, nQ, cQ, rfl, hQ, hb⟩
  have HB5 := Lib.hid (below_then HB4.out hb)
  have HD5 := Lib.hid (HD4.out.below hb)
  have HE5 := Lib.hid (HE4.out.below hb)
  have HP5 := Lib.hid (HP4.out.below hb)
  have HQ5 := Lib.hid hQ
  clear hb hQ
  have hnP : nP ≤ 20 := by have h1 := HP5.out.2.1; have h2 := HD5.out.2.1; omega
  have hnQ : nQ ≤ 20 := by have h1 := HQ5.out.2.1; have h2 := HE5.out.2.1; omega
  go_upto_if 28 with fail
  go_cut [2] (fun y wx => OCut w5 y wx)
  case first =>
    cases own
    · go_wp2_with fail
      go_meet
      exact ⟨_, rfl, rfl⟩
    · go_wp2_with fail
      go_meet
      exact ⟨_, rfl, rfl⟩
  case rest =>
    obtain ⟨y, rfl, rfl⟩ := hcut
    go_wp2_with fail
    refine ((of_cl HD5.out Q1.out)).mono ?_
    rintro en6 w6 ⟨AF, nF, cF, rfl, hF, hb⟩
    have HB6 := Lib.hid (below_then HB5.out hb)
    have HD6 := Lib.hid (HD5.out.below hb)
    have HE6 := Lib.hid (HE5.out.below hb)
    have HP6 := Lib.hid (HP5.out.below hb)
    have HQ6 := Lib.hid (HQ5.out.below hb)
    have HF6 := Lib.hid hF
    clear hb hF
    have hnF : nF ≤ 10000 := by have h1 := HF6.out.2.1; have h2 := Q3.out; omega
    go_wp2_with fail
    refine ((rclass_any HF6.out hnF)).mono ?_
    rintro en7 w7 ⟨AG, nG, cG, rfl, hG, hb⟩
    have HB7 := Lib.hid (below_then HB6.out hb)
    have HD7 := Lib.hid (HD6.out.below hb)
    have HE7 := Lib.hid (HE6.out.below hb)
    have HP7 := Lib.hid (HP6.out.below hb)
    have HQ7 := Lib.hid (HQ6.out.below hb)
    have HG7 := Lib.hid hG
    clear hb hG
    go_wp2_with fail
    refine ((rof_any HP7.out (by omega))).mono ?_
    rintro en8 w8 ⟨AH, nH, cH, rfl, hH, hb⟩
    have HB8 := Lib.hid (below_then HB7.out hb)
    have HD8 := Lib.hid (HD7.out.below hb)
    have HE8 := Lib.hid (HE7.out.below hb)
    have HP8 := Lib.hid (HP7.out.below hb)
    have HQ8 := Lib.hid (HQ7.out.below hb)
    have HG8 := Lib.hid (HG7.out.below hb)
    have HH8 := Lib.hid hH
    clear hb hH
    go_wp2_with fail
    refine ((rsame_true HG8.out HH8.out Q3.out)).mono ?_
    rintro en9 w9 ⟨rfl, hb⟩
    have HB9 := Lib.hid (below_then HB8.out hb)
    have HD9 := Lib.hid (HD8.out.below hb)
    have HE9 := Lib.hid (HE8.out.below hb)
    have HP9 := Lib.hid (HP8.out.below hb)
    have HQ9 := Lib.hid (HQ8.out.below hb)
    clear hb
    go_wp2_with fail
    refine ((union_cl HD9.out HE9.out Q1.out Q2.out)).mono ?_
    rintro en10 w10 ⟨AU, nU, cU, rfl, hU, hb⟩
    have HB10 := Lib.hid (below_then HB9.out hb)
    have HD10 := Lib.hid (HD9.out.below hb)
    have HE10 := Lib.hid (HE9.out.below hb)
    have HP10 := Lib.hid (HP9.out.below hb)
    have HQ10 := Lib.hid (HQ9.out.below hb)
    have HU10 := Lib.hid hU
    clear hb hU
    have hnU : nU ≤ 10000 := by have h1 := HU10.out.2.1; have h2 := Q4.out; omega
    go_wp2_with fail
    refine ((rclass_any HU10.out hnU)).mono ?_
    rintro en11 w11 ⟨AV, nV, cV, rfl, hV, hb⟩
    have HB11 := Lib.hid (below_then HB10.out hb)
    have HD11 := Lib.hid (HD10.out.below hb)
    have HE11 := Lib.hid (HE10.out.below hb)
    have HP11 := Lib.hid (HP10.out.below hb)
    have HQ11 := Lib.hid (HQ10.out.below hb)
    have HV11 := Lib.hid hV
    clear hb hV
    go_wp2_with fail
    refine ((runion_any HP11.out HQ11.out (by omega) (by omega))).mono ?_
    rintro en12 w12 ⟨AI, nI, cI, rfl, hI, hb⟩
    have HB12 := Lib.hid (below_then HB11.out hb)
    have HD12 := Lib.hid (HD11.out.below hb)
    have HE12 := Lib.hid (HE11.out.below hb)
    have HP12 := Lib.hid (HP11.out.below hb)
    have HQ12 := Lib.hid (HQ11.out.below hb)
    have HV12 := Lib.hid (HV11.out.below hb)
    have HI12 := Lib.hid hI
    clear hb hI
    go_wp2_with fail
    refine ((rsame_true HV12.out HI12.out Q4.out)).mono ?_
    rintro en13 w13 ⟨rfl, hb⟩
    have HB13 := Lib.hid (below_then HB12.out hb)
    have HD13 := Lib.hid (HD12.out.below hb)
    have HE13 := Lib.hid (HE12.out.below hb)
    have HP13 := Lib.hid (HP12.out.below hb)
    have HQ13 := Lib.hid (HQ12.out.below hb)
    clear hb
    go_wp2_with fail
    refine ((not_cl HD13.out Q1.out)).mono ?_
    rintro en14 w14 ⟨AN, nN, cN, rfl, hN, hb⟩
    have HB14 := Lib.hid (below_then HB13.out hb)
    have HD14 := Lib.hid (HD13.out.below hb)
    have HE14 := Lib.hid (HE13.out.below hb)
    have HP14 := Lib.hid (HP13.out.below hb)
    have HQ14 := Lib.hid (HQ13.out.below hb)
    have HN14 := Lib.hid hN
    clear hb hN
    have hnN : nN ≤ 10000 := by have h1 := HN14.out.2.1; have h2 := Q5.out; omega
    go_wp2_with fail
    refine ((rclass_any HN14.out hnN)).mono ?_
    rintro en15 w15 ⟨AJ, nJ, cJ, rfl, hJ, hb⟩
    have HB15 := Lib.hid (below_then HB14.out hb)
    have HD15 := Lib.hid (HD14.out.below hb)
    have HE15 := Lib.hid (HE14.out.below hb)
    have HP15 := Lib.hid (HP14.out.below hb)
    have HQ15 := Lib.hid (HQ14.out.below hb)
    have HJ15 := Lib.hid hJ
    clear hb hJ
    go_wp2_with fail
    refine ((rnot_any HP15.out (by omega))).mono ?_
    rintro en16 w16 ⟨AK, nK, cK, rfl, hK, hb⟩
    have HB16 := Lib.hid (below_then HB15.out hb)
    have HD16 := Lib.hid (HD15.out.below hb)
    have HE16 := Lib.hid (HE15.out.below hb)
    have HP16 := Lib.hid (HP15.out.below hb)
    have HQ16 := Lib.hid (HQ15.out.below hb)
    have HJ16 := Lib.hid (HJ15.out.below hb)
    have HK16 := Lib.hid hK
    clear hb hK
    go_wp2_with fail
    refine ((rsame_true HJ16.out HK16.out Q5.out)).mono ?_
    rintro en17 w17 ⟨rfl, hb⟩
    have HB17 := Lib.hid (below_then HB16.out hb)
    have HD17 := Lib.hid (HD16.out.below hb)
    have HE17 := Lib.hid (HE16.out.below hb)
    have HP17 := Lib.hid (HP16.out.below hb)
    have HQ17 := Lib.hid (HQ16.out.below hb)
    clear hb
    go_wp2_with fail
    refine ((right_cl HD17.out Q1.out)).mono ?_
    rintro en18 w18 ⟨rfl, hb⟩
    have HB18 := Lib.hid (below_then HB17.out hb)
    have HD18 := Lib.hid (HD17.out.below hb)
    have HE18 := Lib.hid (HE17.out.below hb)
    have HP18 := Lib.hid (HP17.out.below hb)
    have HQ18 := Lib.hid (HQ17.out.below hb)
    clear hb
    go_wp2_with fail
    refine ((rright_cl HP18.out (by omega))).mono ?_
    rintro en19 w19 ⟨rfl, hb⟩
    have HB19 := Lib.hid (below_then HB18.out hb)
    have HD19 := Lib.hid (HD18.out.below hb)
    have HE19 := Lib.hid (HE18.out.below hb)
    have HP19 := Lib.hid (HP18.out.below hb)
    have HQ19 := Lib.hid (HQ18.out.below hb)
    clear hb
    go_wp2_with fail
    refine ((has_cl y HD19.out Q1.out)).mono ?_
    rintro en20 w20 ⟨rfl, hb⟩
    have HB20 := Lib.hid (below_then HB19.out hb)
    have HD20 := Lib.hid (HD19.out.below hb)
    have HE20 := Lib.hid (HE19.out.below hb)
    have HP20 := Lib.hid (HP19.out.below hb)
    have HQ20 := Lib.hid (HQ19.out.below hb)
    clear hb
    go_wp2_with fail
    refine ((rhas_cl y HP20.out (by omega))).mono ?_
    rintro en21 w21 ⟨rfl, hb⟩
    have HB21 := Lib.hid (below_then HB20.out hb)
    have HD21 := Lib.hid (HD20.out.below hb)
    have HE21 := Lib.hid (HE20.out.below hb)
    have HP21 := Lib.hid (HP20.out.below hb)
    have HQ21 := Lib.hid (HQ20.out.below hb)
    clear hb
    go_wp2_with fail
    refine ((many_cl HD21.out Q1.out)).mono ?_
    rintro en22 w22 ⟨rfl, hb⟩
    have HB22 := Lib.hid (below_then HB21.out hb)
    have HD22 := Lib.hid (HD21.out.below hb)
    have HE22 := Lib.hid (HE21.out.below hb)
    have HP22 := Lib.hid (HP21.out.below hb)
    have HQ22 := Lib.hid (HQ21.out.below hb)
    clear hb
    go_wp2_with fail
    refine ((rmany_any HP22.out (by omega))).mono ?_
    rintro en23 w23 ⟨rfl, hb⟩
    have HB23 := Lib.hid (below_then HB22.out hb)
    have HD23 := Lib.hid (HD22.out.below hb)
    have HE23 := Lib.hid (HE22.out.below hb)
    have HP23 := Lib.hid (HP22.out.below hb)
    have HQ23 := Lib.hid (HQ22.out.below hb)
    clear hb
    go_wp2_with fail
    refine ((same_cl HD23.out HE23.out Q1.out Q2.out)).mono ?_
    rintro en24 w24 ⟨rfl, hb⟩
    have HB24 := Lib.hid (below_then HB23.out hb)
    have HD24 := Lib.hid (HD23.out.below hb)
    have HE24 := Lib.hid (HE23.out.below hb)
    have HP24 := Lib.hid (HP23.out.below hb)
    have HQ24 := Lib.hid (HQ23.out.below hb)
    clear hb
    go_wp2_with fail
    refine ((rsame_cl HP24.out HQ24.out Q1.out Q2.out)).mono ?_
    rintro en25 w25 ⟨rfl, hb⟩
    have HB25 := Lib.hid (below_then HB24.out hb)
    have HD25 := Lib.hid (HD24.out.below hb)
    have HE25 := Lib.hid (HE24.out.below hb)
    have HP25 := Lib.hid (HP24.out.below hb)
    have HQ25 := Lib.hid (HQ24.out.below hb)
    clear hb
    go_wp2_with fail
    refine ((put_cl HD25.out Q1.out HWX.out (HT.out.below HB25.out))).mono ?_
    rintro en26 w26 ⟨rfl, hb⟩
    have HB26 := Lib.hid (below_then HB25.out hb)
    have HD26 := Lib.hid (HD25.out.below hb)
    have HE26 := Lib.hid (HE25.out.below hb)
    have HP26 := Lib.hid (HP25.out.below hb)
    have HQ26 := Lib.hid (HQ25.out.below hb)
    clear hb
    go_wp2_with fail
    refine ((rput_any L AP nP cP _ HP26.out (by omega) HWX.out)).mono ?_
    rintro en27 w27 ⟨rfl, hb⟩
    have HB27 := Lib.hid (below_then HB26.out hb)
    have HD27 := Lib.hid (HD26.out.below hb)
    have HE27 := Lib.hid (HE26.out.below hb)
    have HP27 := Lib.hid (HP26.out.below hb)
    have HQ27 := Lib.hid (HQ26.out.below hb)
    clear hb
    go_wp2_with fail
    go_ret
    exact ⟨rfl, HB27.out⟩
end Go.Proofs.YtkkgdnmloojloaaDoor
namespace Go.Proofs.YtkkgdnmloojloaaDoor
open Go.RowKit Go.Lib Go.ChangeShapes Go.WideShapes
set_option maxRecDepth 100000 in
theorem ctells_all (a2 : Int) (a3 : Bool) {H : Type} {enc : TypeId × Value → H} {base base' : Nat} {v v' : Value} {d d' : DataW H} {p p' : List MemPlace} (W : World)
    (hv : Value.okWide Tryd.prog W .any base 58 v) (h : DataW.Trod enc Tryd.prog W 0 (fun _ => true) true 58 v d p) (hv' : Value.okWide Tryd.prog W .any base' 58 v') (h' : DataW.Trod enc Tryd.prog W 0 (fun _ => true) true 58 v' d' p') (w2 : (Lit.int .i32 a2).wf = true) (hT : Tz W) :
    Calls Tryd.prog 9 #[v, v', .int .i32 a2, .bool a3] W fun e W' => e = .returned (.bool true) ∧ Below W.heap.size W W' := by
  obtain ⟨A, X, c, rfl, hX, hl, hok⟩ := open_runs hv h
  obtain ⟨B, Y, d, rfl, hY, hm, hokY⟩ := open_runs hv' h'
  have h1 : Int.tmod a2 30 < 30 := Int.tmod_lt_of_pos _ (by decide)
  have h0 : -30 < Int.tmod a2 30 := by
    rcases Int.lt_or_le a2 0 with h | h
    · have := Int.tmod_lt_of_pos (-a2) (b := 30) (by decide)
      rw [Int.neg_tmod] at this
      omega
    · rw [Int.tmod_eq_emod_of_nonneg h]
      have := Int.emod_nonneg a2 (b := 30) (by decide)
      omega
  exact ctells_walk X Y A B X.length c Y.length d a2 _ a3 W (wf_i32 w2) rfl h0 h1 hX rfl hl hok hY rfl hm hokY hT
end Go.Proofs.YtkkgdnmloojloaaDoor
