/- Chapter 4: ClassPuts: what the code computes; that two classes are put alike just if they are the same. Conditions: what each lemma says. -/
import Derived.Test.YtkkgdnmloojloaaDoorClassO
import Derived.Deep.RegionHeld3
import Derived.Deep.QuietTactic
import Derived.Deep.Cut
import Derived.Deep.DeepCutAuto
set_option linter.unusedVariables false
set_option linter.unusedSimpArgs false
namespace Go.Proofs.YtkkgdnmloojloaaDoor.Plain
def dv (b : UInt8) : Nat := if b.toNat < 58 then b.toNat - 48 else b.toNat - 87
theorem dv_dg : ∀ k : Fin 16, dv (dg k.1) = k.1 ∧ dg k.1 ≠ 44 ∧ dg k.1 ≠ 45 := by decide
def uval (t : List UInt8) : Nat := t.foldl (fun a b => a * 16 + dv b) 0
theorem uval_snoc (t : List UInt8) (b : UInt8) : uval (t ++ [b]) = uval t * 16 + dv b := by unfold uval; rw [List.foldl_append]; rfl
theorem uval_hexF : ∀ (f u : Nat), u < 16 ^ f → uval (hexF f u) = u := by
  intro f
  induction f with
  | zero => intro u h; have : u = 0 := by simpa using h
            subst this; rfl
  | succ f ih =>
    intro u h
    unfold hexF
    by_cases h16 : u < 16
    · rw [if_pos h16]
      have this : dv (dg u) = u := (dv_dg ⟨u, h16⟩).1
      have e : uval [dg u] = 0 * 16 + dv (dg u) := rfl
      rw [e, this]; omega
    · rw [if_neg h16, uval_snoc, ih (u / 16) (by rw [Nat.pow_succ] at h; omega), (dv_dg ⟨u % 16, Nat.mod_lt _ (by decide)⟩).1]
      show u / 16 * 16 + u % 16 = u
      omega
theorem hexF_chars : ∀ (f u : Nat), ∀ b ∈ hexF f u, b ≠ 44 ∧ b ≠ 45 := by
  intro f
  induction f with
  | zero => intro u b hb; cases hb
  | succ f ih =>
    intro u b hb
    unfold hexF at hb
    split at hb
    · rename_i h
      have e : b = dg u := by simpa using hb
      subst e
      exact (dv_dg ⟨u, h⟩).2
    · rcases List.mem_append.1 hb with e | e
      · exact ih _ _ e
      · have e : b = dg (u % 16) := by simpa using e
        subst e
        exact (dv_dg ⟨u % 16, Nat.mod_lt _ (by decide)⟩).2
theorem hexF_ne (f u : Nat) : hexF (f + 1) u ≠ [] := by unfold hexF; split <;> simp
theorem hexZ_nat {n : Int} (h : 0 ≤ n) : hexZ n = hexN n.toNat := by
  unfold hexZ
  rw [if_neg (by omega), show n.natAbs = n.toNat by omega]
theorem hexZ_inj {m n : Int} (h0 : 0 ≤ m) (h1 : m < 4294967296) (h2 : 0 ≤ n) (h3 : n < 4294967296) (h : hexZ m = hexZ n) : m = n := by
  rw [hexZ_nat h0, hexZ_nat h2] at h
  have e1 := uval_hexF 16 m.toNat (by omega)
  have e2 := uval_hexF 16 n.toNat (by omega)
  unfold hexN at h
  rw [h, e2] at e1
  omega
/-- what begins with the mark, or is none -/
def Heads (c : UInt8) (T : List UInt8) : Prop := T = [] ∨ ∃ U, T = c :: U
theorem split_at (c : UInt8) : ∀ (x y T T' : List UInt8), (∀ b ∈ x, b ≠ c) → (∀ b ∈ y, b ≠ c) → Heads c T → Heads c T' → x ++ T = y ++ T' → x = y ∧ T = T' := by
  intro x
  induction x with
  | nil =>
    intro y T T' _ hy hT _ h
    cases y with
    | nil => exact ⟨rfl, h⟩
    | cons b y =>
      rcases hT with e | ⟨U, e⟩
      · subst e; simp at h
      · subst e
        simp only [List.nil_append, List.cons_append, List.cons.injEq] at h
        exact absurd h.1.symm (hy b (by simp))
  | cons a x ih =>
    intro y T T' hx hy hT hT' h
    cases y with
    | nil =>
      rcases hT' with e | ⟨U, e⟩
      · subst e; simp at h
      · subst e
        simp only [List.nil_append, List.cons_append, List.cons.injEq] at h
        exact absurd h.1 (hx a (by simp))
    | cons b y =>
      simp only [List.cons_append, List.cons.injEq] at h
      obtain ⟨i1, i2⟩ := ih y T T' (fun q hq => hx q (by simp [hq])) (fun q hq => hy q (by simp [hq])) hT hT' h.2
      exact ⟨by rw [h.1, i1], i2⟩
theorem hexZ_chars {n : Int} (h : 0 ≤ n) : ∀ b ∈ hexZ n, b ≠ 44 ∧ b ≠ 45 := by
  rw [hexZ_nat h]; exact hexF_chars _ _
def dashR (r : Rg) : List UInt8 := if r.2 = r.1 then [] else 45 :: hexZ r.2
theorem putR_dash (r : Rg) : putR r = hexZ r.1 ++ dashR r := by unfold putR dashR; split <;> simp
theorem putR_inj {r s : Rg} (hr : May r) (hs : May s) (h : putR r = putR s) : r = s := by
  obtain ⟨a1, a2, a3⟩ := hr
  obtain ⟨b1, b2, b3⟩ := hs
  rw [putR_dash, putR_dash] at h
  have hd : ∀ q : Rg, Heads 45 (dashR q) := fun q => by
    unfold dashR
    split
    · exact .inl rfl
    · exact .inr ⟨_, rfl⟩
  obtain ⟨e1, e2⟩ := split_at 45 _ _ _ _ (fun b hb => (hexZ_chars a1 b hb).2) (fun b hb => (hexZ_chars b1 b hb).2) (hd r) (hd s) h
  have f1 := hexZ_inj a1 (by omega) b1 (by omega) e1
  unfold dashR at e2
  by_cases hr : r.2 = r.1
  · by_cases hs : s.2 = s.1
    · exact Prod.ext f1 (by rw [hr, hs, f1])
    · rw [if_pos hr, if_neg hs] at e2; cases e2
  · by_cases hs : s.2 = s.1
    · rw [if_neg hr, if_pos hs] at e2; cases e2
    · rw [if_neg hr, if_neg hs] at e2
      injection e2 with _ e2
      exact Prod.ext f1 (hexZ_inj (by omega) (by omega) (by omega) (by omega) e2)
theorem putR_chars {r : Rg} (hr : May r) : ∀ b ∈ putR r, b ≠ 44 := by
  obtain ⟨a1, a2, a3⟩ := hr
  intro b hb
  unfold putR at hb
  split at hb
  · exact (hexZ_chars a1 b hb).1
  · rcases List.mem_append.1 hb with e | e
    · exact (hexZ_chars a1 b e).1
    · rcases List.mem_cons.1 e with e | e
      · subst e; decide
      · exact (hexZ_chars (by omega) b e).1
theorem putR_ne (r : Rg) : putR r ≠ [] := by
  have : hexZ r.1 ≠ [] := by
    unfold hexZ
    split
    · simp
    · exact hexF_ne _ _
  rw [putR_dash]
  intro h
  exact this (List.append_eq_nil_iff.1 h).1
theorem tail_inj : ∀ (R S : List Rg), (∀ r ∈ R, May r) → (∀ r ∈ S, May r) → Go.Lib.joinTail [44] (R.map putR) = Go.Lib.joinTail [44] (S.map putR) → R = S := by
  have hh : ∀ R : List Rg, Heads 44 (Go.Lib.joinTail [44] (R.map putR)) := fun R => by
    cases R with
    | nil => exact .inl rfl
    | cons r R => exact .inr ⟨_, rfl⟩
  intro R
  induction R with
  | nil =>
    intro S _ _ h
    cases S with
    | nil => rfl
    | cons s S => cases h
  | cons r R ih =>
    intro S hR hS h
    cases S with
    | nil => cases h
    | cons s S =>
      have h2 : putR r ++ Go.Lib.joinTail [44] (R.map putR) = putR s ++ Go.Lib.joinTail [44] (S.map putR) := by
        unfold Go.Lib.joinTail at h ⊢
        simpa using h
      obtain ⟨e1, e2⟩ := split_at 44 _ _ _ _ (putR_chars (hR r (by simp))) (putR_chars (hS s (by simp))) (hh R) (hh S) h2
      rw [putR_inj (hR r (by simp)) (hS s (by simp)) e1, ih S (fun q hq => hR q (by simp [hq])) (fun q hq => hS q (by simp [hq])) e2]
theorem cputL_nil_iff (R : List Rg) : cputL R = [] ↔ R = [] := by
  unfold cputL
  cases R with
  | nil => simp [Go.Lib.join_nil]
  | cons r R =>
    rw [List.map_cons, Go.Lib.join_cons]
    simp [putR_ne]
theorem cputL_inj {R S : List Rg} (hR : Norm R) (hS : Norm S) : cputL R = cputL S ↔ R = S := by
  constructor
  · intro h
    cases R with
    | nil => exact ((cputL_nil_iff S).1 (h.symm.trans ((cputL_nil_iff []).2 rfl))).symm
    | cons r R =>
      cases S with
      | nil => exact absurd ((cputL_nil_iff (r :: R)).1 (h.trans ((cputL_nil_iff []).2 rfl))) (by simp)
      | cons s S =>
        unfold cputL at h
        rw [List.map_cons, List.map_cons, Go.Lib.join_cons, Go.Lib.join_cons] at h
        refine tail_inj (r :: R) (s :: S) (Norm_may hR) (Norm_may hS) ?_
        have h2 := congrArg (fun x => (44 : UInt8) :: x) h
        unfold Go.Lib.joinTail at h2 ⊢
        simpa using h2
  · intro h; rw [h]
end Go.Proofs.YtkkgdnmloojloaaDoor.Plain
namespace Go.Proofs.YtkkgdnmloojloaaDoor
open Go.RowKit Go.Lib
open Plain (Rg Rn May mayB In Norm cls cnot rightB runOf cputL)
theorem runs_len (X : List Rn) (m : Nat) : (runsOf X m).length ≤ m := by unfold runsOf; rw [List.length_map, List.length_take]; omega
set_option maxRecDepth 100000 in
set_option maxHeartbeats 4000000 in
theorem puts_walk (X Y : List Rn) (A B : Option Addr) (n c m d : Nat) (W : World)
    (hX : Rns W A X) (hR : X.length = n) (hn : n ≤ maxLen) (hok : ∀ x ∈ X, RnOk x) (hY : Rns W B Y) (hS : Y.length = m) (hm : m ≤ maxLen) (hokY : ∀ x ∈ Y, RnOk x) (hT : Tz W) :
    Calls Tryd.prog 12 #[.slice A n c, .slice B m d] W fun e w' => e = .returned (.bool true) ∧ Below W.heap.size W w' := by
  have HT := Lib.hid hT
  have HX := Lib.hid hX
  have HR := Lib.hid hR
  have HN := Lib.hid hn
  have HOK := Lib.hid hok
  have HY := Lib.hid hY
  have HS := Lib.hid hS
  have HM := Lib.hid hm
  have HOKY := Lib.hid hokY
  clear hT hX hR hn hok hY hS hm hokY
  go_enter Tryd.func12, Tryd.ntmps12
  have HB0 := Lib.hid (Below.refl W.heap.size W)
  go_wp2_with fail
  refine (classEx_any W HT.out).mono ?_
  rintro en1 w1 ⟨rfl, hb⟩
  have HB1 := Lib.hid (below_then HB0.out hb)
  clear hb
  go_wp2_with fail
  refine ((runs_cl 8 (HX.out.below HB1.out) HR.out (by decide) HN.out HOK.out)).mono ?_
  rintro en2 w2 ⟨AD, nD, cD, rfl, hD, hb⟩
  have HB2 := Lib.hid (below_then HB1.out hb)
  have HD2 := Lib.hid hD
  clear hb hD
  go_wp2_with fail
  refine ((of_cl HD2.out (Nat.le_trans (runs_len X 8) (by decide)))).mono ?_
  rintro en3 w3 ⟨AP, nP, cP, rfl, hP, hb⟩
  have HB3 := Lib.hid (below_then HB2.out hb)
  have HP3 := Lib.hid hP
  clear hb hP
  go_wp2_with fail
  refine ((runs_cl 8 (HY.out.below HB3.out) HS.out (by decide) HM.out HOKY.out)).mono ?_
  rintro en4 w4 ⟨AE, nE, cE, rfl, hE, hb⟩
  have HB4 := Lib.hid (below_then HB3.out hb)
  have HP4 := Lib.hid (HP3.out.below hb)
  have HE4 := Lib.hid hE
  clear hb hE
  go_wp2_with fail
  refine ((of_cl HE4.out (Nat.le_trans (runs_len Y 8) (by decide)))).mono ?_
  rintro en5 w5 ⟨AQ, nQ, cQ, rfl, hQ, hb⟩
  have HB5 := Lib.hid (below_then HB4.out hb)
  have HP5 := Lib.hid (HP4.out.below hb)
  have HQ5 := Lib.hid hQ
  clear hb hQ
  obtain ⟨R, hR⟩ : ∃ C, cls (runsOf X 8) = C := ⟨_, rfl⟩
  have hNR : Norm R := by rw [← hR]; exact Plain.cls_norm _
  have hLR : R.length ≤ 8 := by rw [← hR]; exact Nat.le_trans (Plain.cls_len _) (runs_len _ _)
  rw [hR] at HP5
  have NR := Lib.hid hNR
  have LR := Lib.hid (Nat.le_trans hLR (by decide : 8 ≤ 10000))
  clear hR hNR hLR
  obtain ⟨S, hS⟩ : ∃ C, cls (runsOf Y 8) = C := ⟨_, rfl⟩
  have hNS : Norm S := by rw [← hS]; exact Plain.cls_norm _
  have hLS : S.length ≤ 8 := by rw [← hS]; exact Nat.le_trans (Plain.cls_len _) (runs_len _ _)
  rw [hS] at HQ5
  have NS := Lib.hid hNS
  have LS := Lib.hid (Nat.le_trans hLS (by decide : 8 ≤ 10000))
  clear hS hNS hLS
  have hi := Plain.cputL_inj NR.out NS.out
  have hz := Plain.cputL_nil_iff R
  have hlp : R.length = nP := HP5.out.2.1
  have hz2 : R = [] ↔ nP = 0 := by rw [← hlp]; exact List.length_eq_zero_iff.symm
  have qP : ∀ w, Tz w → Cl w AP nP cP R → Calls Tryd.prog 47 #[.slice AP nP cP] w fun e w' => e = .returned (.string (str (cputL R))) ∧ Below w.heap.size w w' := fun w hT h => put_cl h LR.out (Norm_wide NR.out) hT
  have qQ : ∀ w, Tz w → Cl w AQ nQ cQ S → Calls Tryd.prog 47 #[.slice AQ nQ cQ] w fun e w' => e = .returned (.string (str (cputL S))) ∧ Below w.heap.size w w' := fun w hT h => put_cl h LS.out (Norm_wide NS.out) hT
  have qS : ∀ w, Cl w AP nP cP R → Cl w AQ nQ cQ S → Calls Tryd.prog 46 #[.slice AP nP cP, .slice AQ nQ cQ] w fun e w' => e = .returned (.bool (decide (R = S))) ∧ Below w.heap.size w w' := fun w h k => same_cl h k LR.out LS.out
  have ts : ∀ l : List UInt8, (str l).toList = l := fun l => by rw [ByteArray.toList_eq]; rfl
  have hs1 : ((str (cputL R)).toList == (str (cputL S)).toList) = decide (R = S) := by rw [ts, ts, Bool.eq_iff_iff, beq_iff_eq, decide_eq_true_iff]; exact hi
  have hs2 : ((str (cputL R)).toList == ([] : List UInt8)) = decide (nP = 0) := by rw [ts, Bool.eq_iff_iff, beq_iff_eq, decide_eq_true_iff, hz, hz2]
  have hs3 : ((str (cputL R)).toList == (⟨#[]⟩ : ByteArray).toList) = decide (nP = 0) := by rw [← hs2, ByteArray.toList_eq (⟨#[]⟩ : ByteArray)]
  have hs4 : ((nP : Int) == 0) = decide (nP = 0) := by rw [Bool.eq_iff_iff, beq_iff_eq, decide_eq_true_iff]; omega
  have hs5 : (nP == 0) = decide (nP = 0) := by rw [Bool.eq_iff_iff, beq_iff_eq, decide_eq_true_iff]
  obtain ⟨sP, hsP⟩ : ∃ s, str (cputL R) = s := ⟨_, rfl⟩
  obtain ⟨sQ, hsQ⟩ : ∃ s, str (cputL S) = s := ⟨_, rfl⟩
  obtain ⟨q, hq⟩ : ∃ q, decide (R = S) = q := ⟨_, rfl⟩
  obtain ⟨z, hzz⟩ : ∃ q, decide (nP = 0) = q := ⟨_, rfl⟩
  rw [hsP] at qP hs1 hs2 hs3
  rw [hsQ] at qQ hs1
  rw [hq] at qS hs1
  rw [hzz] at hs2 hs3 hs4 hs5
  have QP := Lib.hid qP
  have QQ := Lib.hid qQ
  have QS := Lib.hid qS
  clear qP qQ qS hsP hsQ hq hzz hi hz hz2 hlp
  go_wp2_with fail
  refine (QP.out _ (HT.out.below HB5.out) HP5.out).mono ?_
  rintro en6 w6 ⟨rfl, hb⟩
  have HB6 := Lib.hid (below_then HB5.out hb)
  have HP6 := Lib.hid (HP5.out.below hb)
  have HQ6 := Lib.hid (HQ5.out.below hb)
  clear hb
  go_wp2_with fail
  refine (QQ.out _ (HT.out.below HB6.out) HQ6.out).mono ?_
  rintro en7 w7 ⟨rfl, hb⟩
  have HB7 := Lib.hid (below_then HB6.out hb)
  have HP7 := Lib.hid (HP6.out.below hb)
  have HQ7 := Lib.hid (HQ6.out.below hb)
  clear hb
  go_wp2_with fail
  refine (QS.out _ HP7.out HQ7.out).mono ?_
  rintro en8 w8 ⟨rfl, hb⟩
  have HB8 := Lib.hid (below_then HB7.out hb)
  have HP8 := Lib.hid (HP7.out.below hb)
  have HQ8 := Lib.hid (HQ7.out.below hb)
  clear hb
  go_wp2_with fail
  refine (QP.out _ (HT.out.below HB8.out) HP8.out).mono ?_
  rintro en9 w9 ⟨rfl, hb⟩
  have HB9 := Lib.hid (below_then HB8.out hb)
  have HP9 := Lib.hid (HP8.out.below hb)
  have HQ9 := Lib.hid (HQ8.out.below hb)
  clear hb
  go_wp2_with fail
  go_ret
  exact ⟨rfl, HB9.out⟩
end Go.Proofs.YtkkgdnmloojloaaDoor
namespace Go.Proofs.YtkkgdnmloojloaaDoor
open Go.RowKit Go.Lib Go.ChangeShapes Go.WideShapes
set_option maxRecDepth 100000 in
theorem puts_all {H : Type} {enc : TypeId × Value → H} {base base' : Nat} {v v' : Value} {d d' : DataW H} {p p' : List MemPlace} (W : World)
    (hv : Value.okWide Tryd.prog W .any base 58 v) (h : DataW.Trod enc Tryd.prog W 0 (fun _ => true) true 58 v d p) (hv' : Value.okWide Tryd.prog W .any base' 58 v') (h' : DataW.Trod enc Tryd.prog W 0 (fun _ => true) true 58 v' d' p') (hT : Tz W) :
    Calls Tryd.prog 12 #[v, v'] W fun e W' => e = .returned (.bool true) ∧ Below W.heap.size W W' := by
  obtain ⟨A, X, c, rfl, hX, hl, hok⟩ := open_runs hv h
  obtain ⟨B, Y, d, rfl, hY, hm, hokY⟩ := open_runs hv' h'
  exact puts_walk X Y A B X.length c Y.length d W hX rfl hl hok hY rfl hm hokY hT
end Go.Proofs.YtkkgdnmloojloaaDoor
