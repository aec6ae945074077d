/- Chapter 4: ClassLaws: what the code computes; the laws of classes. Conditions: what each lemma says. -/
import Derived.Test.YtkkgdnmloojloaaDoorManyW
import Derived.Test.YtkkgdnmloojloaaDoorPutsW
import Derived.Deep.RegionHeld3
import Derived.Deep.QuietTactic
import Derived.Deep.Cut
import Derived.Deep.DeepCutAuto
set_option linter.unusedVariables false
set_option linter.unusedSimpArgs false
namespace Go.Proofs.YtkkgdnmloojloaaDoor
open Go.RowKit Go.Lib
open Plain (Rg Rn May mayB In Norm cls cnot rightB runOf gaps put1 mergeL)
theorem cnt_cons (r : Rg) (C : List Rg) : cnt (r :: C) = (r.2 - r.1 + 1) + cnt C := rfl
theorem cnt_append (R S : List Rg) : cnt (R ++ S) = cnt R + cnt S := by unfold cnt; rw [List.map_append, List.sum_append]
theorem cnt_perm {R S : List Rg} (h : R.Perm S) : cnt R = cnt S := by
  induction h with
  | nil => rfl
  | cons x _ ih => rw [cnt_cons, cnt_cons, ih]
  | swap x y l => rw [cnt_cons, cnt_cons, cnt_cons, cnt_cons]; omega
  | trans _ _ h1 h2 => rw [h1, h2]
theorem cnt_put1 (out : List Rg) (r : Rg) (hr : May r) : cnt (put1 out r) ≤ cnt out + (r.2 - r.1 + 1) := by
  rcases List.eq_nil_or_concat out with e | ⟨o, l, e⟩
  · subst e; rw [Plain.put1_nil, cnt_cons]; show _ + 0 ≤ 0 + _; omega
  · rw [List.concat_eq_append] at e
    subst e
    obtain ⟨a, b, c⟩ := hr
    rw [Plain.put1_snoc, cnt_snoc]
    split
    · rw [cnt_snoc]; show cnt o + (max l.2 r.2 - l.1 + 1) ≤ _; omega
    · rw [cnt_snoc, cnt_snoc]; omega
theorem cnt_foldl : ∀ (S out : List Rg), (∀ r ∈ S, May r) → cnt (S.foldl put1 out) ≤ cnt out + cnt S := by
  intro S
  induction S with
  | nil => intro out _; show cnt out ≤ cnt out + 0; omega
  | cons r S ih =>
    intro out h
    rw [List.foldl_cons, cnt_cons]
    have h1 := ih (put1 out r) fun s hs => h s (by simp [hs])
    have h2 := cnt_put1 out r (h r (by simp))
    omega
theorem cnt_cls (R : List Rg) : cnt (cls R) ≤ cnt (R.filter mayB) := by
  have hp := List.mergeSort_perm (R.filter mayB) fun a b => decide (a.1 ≤ b.1)
  have h := cnt_foldl ((R.filter mayB).mergeSort fun a b => decide (a.1 ≤ b.1)) [] (fun r hr => (Plain.mayB_iff r).1 (List.mem_filter.1 (hp.mem_iff.1 hr)).2)
  rw [cnt_perm hp] at h
  have h0 : cnt ([] : List Rg) = 0 := rfl
  rw [h0, Int.zero_add] at h
  exact h
theorem gaps_lo : ∀ (C : List Rg) (low : Int), Norm C → (∀ r ∈ C, low ≤ r.1) → ∀ s ∈ gaps low C, low ≤ s.1 := by
  intro C
  induction C with
  | nil => intro low _ _ s hs; unfold gaps at hs; simp only [List.mem_cons, List.not_mem_nil, or_false] at hs; subst hs; exact Int.le_refl _
  | cons r C ih =>
    intro low hn hl s hs
    unfold gaps at hs
    have h1 := hl r (by simp)
    have h2 := hn.1.2.2
    rcases List.mem_cons.1 hs with e | e
    · subst e; exact Int.le_refl _
    · have := ih (r.2 + 1) hn.2.2 (fun q hq => by have := hn.2.1 q hq; omega) s e
      omega
theorem gaps_holds : ∀ (C : List Rg) (low : Int), 0 ≤ low → low ≤ 1114112 → Norm C → (∀ r ∈ C, low ≤ r.1) → Norm ((gaps low C).filter mayB) ∧ cnt ((gaps low C).filter mayB) = 1114112 - low - cnt C := by
  intro C
  induction C with
  | nil =>
    intro low h0 h1 _ _
    unfold gaps
    by_cases h : low ≤ 1114111
    · have hm : mayB (low, 1114111) = true := (Plain.mayB_iff _).2 ⟨h0, Int.le_refl _, h⟩
      rw [List.filter_cons, if_pos hm, List.filter_nil]
      refine ⟨(Plain.Norm_one _).2 ⟨h0, Int.le_refl _, h⟩, ?_⟩
      show (1114111 - low + 1) + 0 = 1114112 - low - 0
      omega
    · have hm : ¬ mayB (low, 1114111) = true := fun hh => by have := ((Plain.mayB_iff _).1 hh).2.2; exact h this
      rw [List.filter_cons, if_neg hm, List.filter_nil]
      refine ⟨trivial, ?_⟩
      show 0 = 1114112 - low - 0
      omega
  | cons r C ih =>
    intro low h0 h1 hn hl
    obtain ⟨m1, m2, m3⟩ := hn.1
    have hlr := hl r (by simp)
    have hlo : ∀ q ∈ C, r.2 + 1 ≤ q.1 := fun q hq => by have := hn.2.1 q hq; omega
    obtain ⟨i1, i2⟩ := ih (r.2 + 1) (by omega) (by omega) hn.2.2 hlo
    unfold gaps
    rw [cnt_cons]
    by_cases h : low ≤ r.1 - 1
    · have hm : mayB (low, r.1 - 1) = true := (Plain.mayB_iff _).2 ⟨h0, by show r.1 - 1 ≤ _; omega, h⟩
      rw [List.filter_cons, if_pos hm]
      refine ⟨⟨⟨h0, by show r.1 - 1 ≤ _; omega, h⟩, fun s hs => ?_, i1⟩, ?_⟩
      · have := gaps_lo C (r.2 + 1) hn.2.2 hlo s (List.mem_filter.1 hs).1
        show r.1 - 1 + 1 < s.1
        omega
      · rw [cnt_cons, i2]
        show (r.1 - 1 - low + 1) + _ = _
        omega
    · have hm : ¬ mayB (low, r.1 - 1) = true := fun hh => by have := ((Plain.mayB_iff _).1 hh).2.2; exact h this
      rw [List.filter_cons, if_neg hm, i2]
      exact ⟨i1, by omega⟩
theorem cnot_gaps {R : List Rg} (h : Norm R) : cnot R = (gaps 0 R).filter mayB := by
  have hl : ∀ r ∈ R, (0 : Int) ≤ r.1 := fun r hr => (Plain.Norm_may h r hr).1
  refine (Plain.cnot_is (gaps_holds R 0 (Int.le_refl _) (by omega) h hl).1 fun x => ?_).symm
  rw [Plain.gaps_in R 0 (Int.le_refl _) h hl, Plain.Norm_filter h]
theorem cnt_cnot {R : List Rg} (h : Norm R) : cnt R + cnt (cnot R) = 1114112 := by
  have hl : ∀ r ∈ R, (0 : Int) ≤ r.1 := fun r hr => (Plain.Norm_may h r hr).1
  rw [cnot_gaps h, (gaps_holds R 0 (Int.le_refl _) (by omega) h hl).2]
  omega
theorem in_cls_append {R S : List Rg} (hR : Norm R) (hS : Norm S) (x : Int) : In (cls (R ++ S)) x ↔ In R x ∨ In S x := by
  rw [Plain.cls_in, List.filter_append, Plain.Norm_filter hR, Plain.Norm_filter hS, Plain.In_append]
theorem in_cnot {R : List Rg} (hR : Norm R) (x : Int) : In (cnot R) x ↔ 0 ≤ x ∧ x ≤ 1114111 ∧ ¬ In R x := by rw [Plain.cnot_in, Plain.Norm_filter hR]
theorem in_range {R : List Rg} (hR : Norm R) {x : Int} (h : In R x) : 0 ≤ x ∧ x ≤ 1114111 := by
  obtain ⟨r, hr, h1, h2⟩ := h
  obtain ⟨a, b, c⟩ := Plain.Norm_may hR r hr
  omega
theorem has_append {R S : List Rg} (hR : Norm R) (hS : Norm S) (x : Int) : hasB (cls (R ++ S)) x = (hasB R x || hasB S x) := by
  rw [Bool.eq_iff_iff, Bool.or_eq_true, hasB_iff, hasB_iff, hasB_iff, in_cls_append hR hS]
theorem has_cnot {R : List Rg} (hR : Norm R) (x : Int) (h0 : 0 ≤ x) (h1 : x ≤ 1114111) : hasB (cnot R) x = !hasB R x := by
  rw [Bool.eq_iff_iff, hasB_iff, in_cnot hR]
  constructor
  · rintro ⟨_, _, h⟩
    cases hb : hasB R x
    · rfl
    · exact absurd ((hasB_iff R x).1 hb) h
  · intro h
    refine ⟨h0, h1, fun hi => ?_⟩
    rw [(hasB_iff R x).2 hi] at h
    cases h
theorem cnot_cnot {R : List Rg} (hR : Norm R) : cnot (cnot R) = R := (Plain.cnot_is hR fun x => by
  rw [Plain.Norm_filter (Plain.cnot_norm R), in_cnot hR]
  constructor
  · intro h
    have := in_range hR h
    exact ⟨this.1, this.2, fun hh => hh.2.2 h⟩
  · rintro ⟨h1, h2, h3⟩
    exact Classical.byContradiction fun hn => h3 ⟨h1, h2, hn⟩).symm
theorem cls_comm {R S : List Rg} (hR : Norm R) (hS : Norm S) : cls (S ++ R) = cls (R ++ S) :=
  Plain.Norm_unique (Plain.cls_norm _) (Plain.cls_norm _) fun x => by rw [in_cls_append hR hS, in_cls_append hS hR, or_comm]
theorem cls_whole {R : List Rg} (hR : Norm R) : cls (R ++ cnot R) = [(0, 1114111)] :=
  Plain.Norm_unique (Plain.cls_norm _) ((Plain.normB_iff _).1 (by decide)) fun x => by
    rw [in_cls_append hR (Plain.cnot_norm R), in_cnot hR, Plain.In_cons]
    simp only [Plain.In_nil, or_false]
    constructor
    · rintro (h | h)
      · exact in_range hR h
      · exact ⟨h.1, h.2.1⟩
    · rintro ⟨h1, h2⟩
      by_cases h : In R x
      · exact .inl h
      · exact .inr ⟨h1, h2, h⟩
theorem cnt_union {R S : List Rg} (hR : Norm R) (hS : Norm S) : cnt (cls (R ++ S)) ≤ cnt R + cnt S := by
  have h := cnt_cls (R ++ S)
  rw [List.filter_append, Plain.Norm_filter hR, Plain.Norm_filter hS, cnt_append] at h
  exact h
theorem same_true {C : List Rg} {A B : Option Addr} {n c m d : Nat} {w : World} (h : Cl w A n c C) (k : Cl w B m d C) (hl : C.length ≤ 10000) : Calls Tryd.prog 46 #[.slice A n c, .slice B m d] w fun e w' => e = .returned (.bool true) ∧ Below w.heap.size w w' := by
  have h1 := same_cl h k hl hl
  rw [decide_eq_true rfl] at h1
  exact h1
theorem many_norm {C : List Rg} {A : Option Addr} {n c : Nat} {w : World} (h : Cl w A n c C) (hN : Norm C) (hl : C.length ≤ 10000) : Calls Tryd.prog 44 #[.slice A n c] w fun e w' => e = .returned (.int .i64 (cnt C)) ∧ Below w.heap.size w w' := by
  have h1 := many_cl h hl
  rw [Plain.cls_self hN] at h1
  exact h1
theorem not_nil (w : World) : Calls Tryd.prog 38 #[.slice none 0 0] w (ClPost [(0, 1114111)] w) := by
  have h1 := not_cl (cl_nil w) (by simp)
  rw [cnot_nil] at h1
  exact h1
end Go.Proofs.YtkkgdnmloojloaaDoor
namespace Go.Proofs.YtkkgdnmloojloaaDoor
open Go.RowKit Go.Lib
open Plain (Rg Rn May mayB In Norm cls cnot rightB runOf)
def RCut (w : World) (y : Value) (wx : World) : Prop := ∃ z : Int, y = .int .i32 z ∧ 0 ≤ z ∧ z ≤ 1114111 ∧ wx = w
set_option maxRecDepth 100000 in
set_option maxHeartbeats 8000000 in
theorem laws_walk (X Y : List Rn) (A B : Option Addr) (n c m d : Nat) (r m2 m4 m40 : Nat) (W : World) (hr : r < 4294967296)
    (h4 : (r : Int) % 1114112 = (m4 : Int)) (h4' : Int.tmod (r : Int) 1114112 = (m4 : Int)) (h420 : m4 < 1114112)
    (h2 : (r : Int) % 2 = (m2 : Int)) (h2' : Int.tmod (r : Int) 2 = (m2 : Int))
    (h40 : (r : Int) % 40 = (m40 : Int)) (h40' : Int.tmod (r : Int) 40 = (m40 : Int)) (h4020 : m40 < 40)
    (hX : Rns W A X) (hR : X.length = n) (hn : n ≤ maxLen) (hok : ∀ x ∈ X, RnOk x) (hY : Rns W B Y) (hS : Y.length = m) (hm : m ≤ maxLen) (hokY : ∀ x ∈ Y, RnOk x) (hT : Tz W) :
    Calls Tryd.prog 10 #[.slice A n c, .slice B m d, .int .u32 r] W fun e w' => e = .returned (.bool true) ∧ Below W.heap.size W w' := by
  have HT := Lib.hid hT
  have HX := Lib.hid hX
  have HR := Lib.hid hR
  have HN := Lib.hid hn
  have HOK := Lib.hid hok
  have HY := Lib.hid hY
  have HS := Lib.hid hS
  have HM := Lib.hid hm
  have HOKY := Lib.hid hokY
  clear hT hX hR hn hok hY hS hm hokY
  have e4 : IntKind.i32.wrap (m4 : Int) = (m4 : Int) := by rw [IntKind.wrap_i32]; omega
  have e5 : IntKind.i32.wrap (m40 : Int) = (m40 : Int) := by rw [IntKind.wrap_i32]; omega
  have e6 : IntKind.i32.wrap (97 + (m40 : Int)) = 97 + (m40 : Int) := by rw [IntKind.wrap_i32]; omega
  go_enter Tryd.func10, Tryd.ntmps10
  have HB0 := Lib.hid (Below.refl W.heap.size W)
  go_wp2_with fail
  refine (classEx_any W HT.out).mono ?_
  rintro en1 w1 ⟨rfl, hb⟩
  have HB1 := Lib.hid (below_then HB0.out hb)
  clear hb
  go_wp2_with fail
  refine ((runs_cl 12 (HX.out.below HB1.out) HR.out (by decide) HN.out HOK.out)).mono ?_
  rintro en2 w2 ⟨AD, nD, cD, rfl, hD, hb⟩
  have HB2 := Lib.hid (below_then HB1.out hb)
  have HD2 := Lib.hid hD
  clear hb hD
  go_wp2_with fail
  refine ((of_cl HD2.out (Nat.le_trans (runs_len X 12) (by decide)))).mono ?_
  rintro en3 w3 ⟨AP, nP, cP, rfl, hP, hb⟩
  have HB3 := Lib.hid (below_then HB2.out hb)
  have HP3 := Lib.hid hP
  clear hb hP
  go_wp2_with fail
  refine ((runs_cl 12 (HY.out.below HB3.out) HS.out (by decide) HM.out HOKY.out)).mono ?_
  rintro en4 w4 ⟨AE, nE, cE, rfl, hE, hb⟩
  have HB4 := Lib.hid (below_then HB3.out hb)
  have HP4 := Lib.hid (HP3.out.below hb)
  have HE4 := Lib.hid hE
  clear hb hE
  go_wp2_with fail
  refine ((of_cl HE4.out (Nat.le_trans (runs_len Y 12) (by decide)))).mono ?_
  rintro en5 w5 ⟨AQ, nQ, cQ, rfl, hQ, hb⟩
  have HB5 := Lib.hid (below_then HB4.out hb)
  have HP5 := Lib.hid (HP4.out.below hb)
  have HQ5 := Lib.hid hQ
  clear hb hQ
  obtain ⟨R, hR⟩ : ∃ C, cls (runsOf X 12) = C := ⟨_, rfl⟩
  have hNR : Norm R := by rw [← hR]; exact Plain.cls_norm _
  have hLR : R.length ≤ 12 := by rw [← hR]; exact Nat.le_trans (Plain.cls_len _) (runs_len _ _)
  rw [hR] at HP5
  clear hR
  obtain ⟨S, hS⟩ : ∃ C, cls (runsOf Y 12) = C := ⟨_, rfl⟩
  have hNS : Norm S := by rw [← hS]; exact Plain.cls_norm _
  have hLS : S.length ≤ 12 := by rw [← hS]; exact Nat.le_trans (Plain.cls_len _) (runs_len _ _)
  rw [hS] at HQ5
  clear hS
  obtain ⟨U, hU⟩ : ∃ C, cls (R ++ S) = C := ⟨_, rfl⟩
  obtain ⟨N, hN⟩ : ∃ C, cnot R = C := ⟨_, rfl⟩
  have hNU : Norm U := by rw [← hU]; exact Plain.cls_norm _
  have hNN : Norm N := by rw [← hN]; exact Plain.cnot_norm _
  have hLU : U.length ≤ 10000 := by
    have h := Plain.cls_len (R ++ S)
    rw [hU, List.length_append] at h
    omega
  have hLN : N.length ≤ 10000 := by
    have h := Plain.cnot_len R
    rw [hN] at h
    omega
  have hLR2 : R.length ≤ 10000 := by omega
  have hLS2 : S.length ≤ 10000 := by omega
  have uU : ∀ w A n c B m d, Cl w A n c R → Cl w B m d S → Calls Tryd.prog 36 #[.slice A n c, .slice B m d] w (ClPost U w) := fun w A n c B m d h k => by have := union_cl h k hLR2 hLS2; rw [hU] at this; exact this
  have uV : ∀ w A n c B m d, Cl w A n c S → Cl w B m d R → Calls Tryd.prog 36 #[.slice A n c, .slice B m d] w (ClPost U w) := fun w A n c B m d h k => by have := union_cl h k hLS2 hLR2; rw [cls_comm hNR hNS, hU] at this; exact this
  have uT : ∀ w A n c B m d, Cl w A n c R → Cl w B m d N → Calls Tryd.prog 36 #[.slice A n c, .slice B m d] w (ClPost [(0, 1114111)] w) := fun w A n c B m d h k => by have := union_cl h k hLR2 hLN; rw [← hN, cls_whole hNR] at this; exact this
  have uN : ∀ w A n c, Cl w A n c R → Calls Tryd.prog 38 #[.slice A n c] w (ClPost N w) := fun w A n c h => by have := not_cl h hLR2; rw [hN] at this; exact this
  have uM : ∀ w A n c, Cl w A n c N → Calls Tryd.prog 38 #[.slice A n c] w (ClPost R w) := fun w A n c h => by have := not_cl h hLN; rw [← hN, cnot_cnot hNR] at this; exact this
  have oR : ∀ w A n c, Cl w A n c R → Calls Tryd.prog 44 #[.slice A n c] w fun e w' => e = .returned (.int .i64 (cnt R)) ∧ Below w.heap.size w w' := fun w A n c h => many_norm h hNR hLR2
  have aR : ∀ x w A n c, Cl w A n c R → Calls Tryd.prog 42 #[.slice A n c, .int .i32 x] w fun e w' => e = .returned (.bool (hasB R x)) ∧ Below w.heap.size w w' := fun x w A n c h => has_cl x h hLR2
  have oS : ∀ w A n c, Cl w A n c S → Calls Tryd.prog 44 #[.slice A n c] w fun e w' => e = .returned (.int .i64 (cnt S)) ∧ Below w.heap.size w w' := fun w A n c h => many_norm h hNS hLS2
  have aS : ∀ x w A n c, Cl w A n c S → Calls Tryd.prog 42 #[.slice A n c, .int .i32 x] w fun e w' => e = .returned (.bool (hasB S x)) ∧ Below w.heap.size w w' := fun x w A n c h => has_cl x h hLS2
  have oN : ∀ w A n c, Cl w A n c N → Calls Tryd.prog 44 #[.slice A n c] w fun e w' => e = .returned (.int .i64 (cnt N)) ∧ Below w.heap.size w w' := fun w A n c h => many_norm h hNN hLN
  have aN : ∀ x w A n c, Cl w A n c N → Calls Tryd.prog 42 #[.slice A n c, .int .i32 x] w fun e w' => e = .returned (.bool (hasB N x)) ∧ Below w.heap.size w w' := fun x w A n c h => has_cl x h hLN
  have oU : ∀ w A n c, Cl w A n c U → Calls Tryd.prog 44 #[.slice A n c] w fun e w' => e = .returned (.int .i64 (cnt U)) ∧ Below w.heap.size w w' := fun w A n c h => many_norm h hNU hLU
  have aU : ∀ x w A n c, Cl w A n c U → Calls Tryd.prog 42 #[.slice A n c, .int .i32 x] w fun e w' => e = .returned (.bool (hasB U x)) ∧ Below w.heap.size w w' := fun x w A n c h => has_cl x h hLU
  have bR := cnt_bd R (Plain.Norm_may hNR)
  have bS := cnt_bd S (Plain.Norm_may hNS)
  have bN := cnt_bd N (Plain.Norm_may hNN)
  have bU := cnt_bd U (Plain.Norm_may hNU)
  have s1 := cnt_cnot hNR
  have s2 := cnt_union hNR hNS
  have k1 := fun x => has_append hNR hNS x
  have k2 := fun x => has_cnot hNR x
  rw [hN] at s1 k2
  rw [hU] at s2 k1
  obtain ⟨zR, hzR⟩ : ∃ z, cnt R = z := ⟨_, rfl⟩
  obtain ⟨zS, hzS⟩ : ∃ z, cnt S = z := ⟨_, rfl⟩
  obtain ⟨zN, hzN⟩ : ∃ z, cnt N = z := ⟨_, rfl⟩
  obtain ⟨zU, hzU⟩ : ∃ z, cnt U = z := ⟨_, rfl⟩
  rw [hzR] at oR bR s1 s2
  rw [hzS] at oS bS s2
  rw [hzN] at oN bN s1
  rw [hzU] at oU bU s2
  have p1 : IntKind.i64.wrap (zR + zN) = 1114112 := by rw [IntKind.wrap_i64]; omega
  have p2 : ((zR + zN) == 1114112) = true := by rw [s1]; rfl
  have p3 : IntKind.i64.wrap (zR + zS) = zR + zS := by rw [IntKind.wrap_i64]; omega
  have p4 : decide (zU ≤ zR + zS) = true := by simp [s2]
  have HuU := Lib.hid uU
  have HuV := Lib.hid uV
  have HuT := Lib.hid uT
  have HuN := Lib.hid uN
  have HuM := Lib.hid uM
  have HoR := Lib.hid oR
  have HoS := Lib.hid oS
  have HoN := Lib.hid oN
  have HoU := Lib.hid oU
  have HaR := Lib.hid aR
  have HaS := Lib.hid aS
  have HaN := Lib.hid aN
  have HaU := Lib.hid aU
  have HK1 := Lib.hid k1
  have HK2 := Lib.hid k2
  have QLU := Lib.hid hLU
  have QLR := Lib.hid hLR2
  clear uU uV uT uN uM oR oS oN oU aR aS aN aU k1 k2 hzR hzS hzN hzU hU hN hNU hNN hNR hNS hLU hLN hLR2 hLS2 hLR hLS bR bS bN bU s1 s2
  go_upto_if 27 with fail
  go_cut [10] (fun y wx => RCut w5 y wx)
  case first =>
    by_cases h30 : m2 = 0
    · have hb3 : ((m2 : Int) == 0) = true := by simp; omega
      go_wp2_with fail
      go_meet
      exact ⟨_, rfl, by omega, by omega, rfl⟩
    · have hb3 : ((m2 : Int) == 0) = false := by simp; omega
      go_wp2_with fail
      go_meet
      exact ⟨_, rfl, by omega, by omega, rfl⟩
  case rest =>
    obtain ⟨y, rfl, hy0, hy1, rfl⟩ := hcut
    have k1 := HK1.out y
    have k2 := HK2.out y hy0 hy1
    have aR := HaR.out y
    have aS := HaS.out y
    have aN := HaN.out y
    have aU := HaU.out y
    obtain ⟨qR, hqR⟩ : ∃ q, hasB R y = q := ⟨_, rfl⟩
    obtain ⟨qS, hqS⟩ : ∃ q, hasB S y = q := ⟨_, rfl⟩
    obtain ⟨qN, hqN⟩ : ∃ q, hasB N y = q := ⟨_, rfl⟩
    obtain ⟨qU, hqU⟩ : ∃ q, hasB U y = q := ⟨_, rfl⟩
    rw [hqR] at aR k1 k2
    rw [hqS] at aS k1
    rw [hqN] at aN k2
    rw [hqU] at aU k1
    clear hqR hqS hqN hqU HK1 HK2
    subst k1 k2
    have HaR := Lib.hid aR
    have HaS := Lib.hid aS
    have HaN := Lib.hid aN
    have HaU := Lib.hid aU
    clear aR aS aN aU
    go_wp2_with fail
    refine (HuU.out _ _ _ _ _ _ _ HP5.out HQ5.out).mono ?_
    rintro en6 w6 ⟨AU, nU, cU, rfl, hU, hb⟩
    have HB6 := Lib.hid (below_then HB5.out hb)
    have HP6 := Lib.hid (HP5.out.below hb)
    have HQ6 := Lib.hid (HQ5.out.below hb)
    have HU6 := Lib.hid hU
    clear hb hU
    go_wp2_with fail
    refine (HuN.out _ _ _ _ HP6.out).mono ?_
    rintro en7 w7 ⟨AN, nN, cN, rfl, hN, hb⟩
    have HB7 := Lib.hid (below_then HB6.out hb)
    have HP7 := Lib.hid (HP6.out.below hb)
    have HQ7 := Lib.hid (HQ6.out.below hb)
    have HU7 := Lib.hid (HU6.out.below hb)
    have HN7 := Lib.hid hN
    clear hb hN
    cases qR
    · cases qS
      · go_wp2_with fail
        refine (HaU.out _ _ _ _ HU7.out).mono ?_
        rintro en8 w8 ⟨rfl, hb⟩
        have HB8 := Lib.hid (below_then HB7.out hb)
        have HP8 := Lib.hid (HP7.out.below hb)
        have HQ8 := Lib.hid (HQ7.out.below hb)
        have HU8 := Lib.hid (HU7.out.below hb)
        have HN8 := Lib.hid (HN7.out.below hb)
        clear hb
        go_wp2_with fail
        refine (HaR.out _ _ _ _ HP8.out).mono ?_
        rintro en9 w9 ⟨rfl, hb⟩
        have HB9 := Lib.hid (below_then HB8.out hb)
        have HP9 := Lib.hid (HP8.out.below hb)
        have HQ9 := Lib.hid (HQ8.out.below hb)
        have HU9 := Lib.hid (HU8.out.below hb)
        have HN9 := Lib.hid (HN8.out.below hb)
        clear hb
        go_wp2_with fail
        refine (HaS.out _ _ _ _ HQ9.out).mono ?_
        rintro en10 w10 ⟨rfl, hb⟩
        have HB10 := Lib.hid (below_then HB9.out hb)
        have HP10 := Lib.hid (HP9.out.below hb)
        have HQ10 := Lib.hid (HQ9.out.below hb)
        have HU10 := Lib.hid (HU9.out.below hb)
        have HN10 := Lib.hid (HN9.out.below hb)
        clear hb
        go_wp2_with fail
        refine (HaN.out _ _ _ _ HN10.out).mono ?_
        rintro en11 w11 ⟨rfl, hb⟩
        have HB11 := Lib.hid (below_then HB10.out hb)
        have HP11 := Lib.hid (HP10.out.below hb)
        have HQ11 := Lib.hid (HQ10.out.below hb)
        have HU11 := Lib.hid (HU10.out.below hb)
        have HN11 := Lib.hid (HN10.out.below hb)
        clear hb
        go_wp2_with fail
        refine (HaR.out _ _ _ _ HP11.out).mono ?_
        rintro en12 w12 ⟨rfl, hb⟩
        have HB12 := Lib.hid (below_then HB11.out hb)
        have HP12 := Lib.hid (HP11.out.below hb)
        have HQ12 := Lib.hid (HQ11.out.below hb)
        have HU12 := Lib.hid (HU11.out.below hb)
        have HN12 := Lib.hid (HN11.out.below hb)
        clear hb
        go_wp2_with fail
        refine (HuM.out _ _ _ _ HN12.out).mono ?_
        rintro en13 w13 ⟨AM, nM, cM, rfl, hM, hb⟩
        have HB13 := Lib.hid (below_then HB12.out hb)
        have HP13 := Lib.hid (HP12.out.below hb)
        have HQ13 := Lib.hid (HQ12.out.below hb)
        have HU13 := Lib.hid (HU12.out.below hb)
        have HN13 := Lib.hid (HN12.out.below hb)
        have HM13 := Lib.hid hM
        clear hb hM
        go_wp2_with fail
        refine (same_true HM13.out HP13.out QLR.out).mono ?_
        rintro en14 w14 ⟨rfl, hb⟩
        have HB14 := Lib.hid (below_then HB13.out hb)
        have HP14 := Lib.hid (HP13.out.below hb)
        have HQ14 := Lib.hid (HQ13.out.below hb)
        have HU14 := Lib.hid (HU13.out.below hb)
        have HN14 := Lib.hid (HN13.out.below hb)
        clear hb
        go_wp2_with fail
        refine (HoR.out _ _ _ _ HP14.out).mono ?_
        rintro en15 w15 ⟨rfl, hb⟩
        have HB15 := Lib.hid (below_then HB14.out hb)
        have HP15 := Lib.hid (HP14.out.below hb)
        have HQ15 := Lib.hid (HQ14.out.below hb)
        have HU15 := Lib.hid (HU14.out.below hb)
        have HN15 := Lib.hid (HN14.out.below hb)
        clear hb
        go_wp2_with fail
        refine (HoN.out _ _ _ _ HN15.out).mono ?_
        rintro en16 w16 ⟨rfl, hb⟩
        have HB16 := Lib.hid (below_then HB15.out hb)
        have HP16 := Lib.hid (HP15.out.below hb)
        have HQ16 := Lib.hid (HQ15.out.below hb)
        have HU16 := Lib.hid (HU15.out.below hb)
        have HN16 := Lib.hid (HN15.out.below hb)
        clear hb
        go_wp2_with fail
        refine (HuV.out _ _ _ _ _ _ _ HQ16.out HP16.out).mono ?_
        rintro en17 w17 ⟨AV, nV, cV, rfl, hV, hb⟩
        have HB17 := Lib.hid (below_then HB16.out hb)
        have HP17 := Lib.hid (HP16.out.below hb)
        have HQ17 := Lib.hid (HQ16.out.below hb)
        have HU17 := Lib.hid (HU16.out.below hb)
        have HN17 := Lib.hid (HN16.out.below hb)
        have HV17 := Lib.hid hV
        clear hb hV
        go_wp2_with fail
        refine (same_true HU17.out HV17.out QLU.out).mono ?_
        rintro en18 w18 ⟨rfl, hb⟩
        have HB18 := Lib.hid (below_then HB17.out hb)
        have HP18 := Lib.hid (HP17.out.below hb)
        have HQ18 := Lib.hid (HQ17.out.below hb)
        have HU18 := Lib.hid (HU17.out.below hb)
        have HN18 := Lib.hid (HN17.out.below hb)
        clear hb
        go_wp2_with fail
        refine (HoU.out _ _ _ _ HU18.out).mono ?_
        rintro en19 w19 ⟨rfl, hb⟩
        have HB19 := Lib.hid (below_then HB18.out hb)
        have HP19 := Lib.hid (HP18.out.below hb)
        have HQ19 := Lib.hid (HQ18.out.below hb)
        have HU19 := Lib.hid (HU18.out.below hb)
        have HN19 := Lib.hid (HN18.out.below hb)
        clear hb
        go_wp2_with fail
        refine (HoR.out _ _ _ _ HP19.out).mono ?_
        rintro en20 w20 ⟨rfl, hb⟩
        have HB20 := Lib.hid (below_then HB19.out hb)
        have HP20 := Lib.hid (HP19.out.below hb)
        have HQ20 := Lib.hid (HQ19.out.below hb)
        have HU20 := Lib.hid (HU19.out.below hb)
        have HN20 := Lib.hid (HN19.out.below hb)
        clear hb
        go_wp2_with fail
        refine (HoS.out _ _ _ _ HQ20.out).mono ?_
        rintro en21 w21 ⟨rfl, hb⟩
        have HB21 := Lib.hid (below_then HB20.out hb)
        have HP21 := Lib.hid (HP20.out.below hb)
        have HQ21 := Lib.hid (HQ20.out.below hb)
        have HU21 := Lib.hid (HU20.out.below hb)
        have HN21 := Lib.hid (HN20.out.below hb)
        clear hb
        go_wp2_with fail
        refine (HuT.out _ _ _ _ _ _ _ HP21.out HN21.out).mono ?_
        rintro en22 w22 ⟨AT, nT, cT, rfl, hT, hb⟩
        have HB22 := Lib.hid (below_then HB21.out hb)
        have HP22 := Lib.hid (HP21.out.below hb)
        have HQ22 := Lib.hid (HQ21.out.below hb)
        have HU22 := Lib.hid (HU21.out.below hb)
        have HN22 := Lib.hid (HN21.out.below hb)
        have HT22 := Lib.hid hT
        clear hb hT
        go_wp2_with fail
        refine (not_nil _).mono ?_
        rintro en23 w23 ⟨AZ, nZ, cZ, rfl, hZ, hb⟩
        have HB23 := Lib.hid (below_then HB22.out hb)
        have HP23 := Lib.hid (HP22.out.below hb)
        have HQ23 := Lib.hid (HQ22.out.below hb)
        have HU23 := Lib.hid (HU22.out.below hb)
        have HN23 := Lib.hid (HN22.out.below hb)
        have HT23 := Lib.hid (HT22.out.below hb)
        have HZ23 := Lib.hid hZ
        clear hb hZ
        go_wp2_with fail
        refine (same_true HT23.out HZ23.out (by simp)).mono ?_
        rintro en24 w24 ⟨rfl, hb⟩
        have HB24 := Lib.hid (below_then HB23.out hb)
        have HP24 := Lib.hid (HP23.out.below hb)
        have HQ24 := Lib.hid (HQ23.out.below hb)
        have HU24 := Lib.hid (HU23.out.below hb)
        have HN24 := Lib.hid (HN23.out.below hb)
        have HT24 := Lib.hid (HT23.out.below hb)
        have HZ24 := Lib.hid (HZ23.out.below hb)
        clear hb
        go_wp2_with fail
        go_ret
        exact ⟨rfl, HB24.out⟩
      · go_wp2_with fail
        refine (HaU.out _ _ _ _ HU7.out).mono ?_
        rintro en8 w8 ⟨rfl, hb⟩
        have HB8 := Lib.hid (below_then HB7.out hb)
        have HP8 := Lib.hid (HP7.out.below hb)
        have HQ8 := Lib.hid (HQ7.out.below hb)
        have HU8 := Lib.hid (HU7.out.below hb)
        have HN8 := Lib.hid (HN7.out.below hb)
        clear hb
        go_wp2_with fail
        refine (HaR.out _ _ _ _ HP8.out).mono ?_
        rintro en9 w9 ⟨rfl, hb⟩
        have HB9 := Lib.hid (below_then HB8.out hb)
        have HP9 := Lib.hid (HP8.out.below hb)
        have HQ9 := Lib.hid (HQ8.out.below hb)
        have HU9 := Lib.hid (HU8.out.below hb)
        have HN9 := Lib.hid (HN8.out.below hb)
        clear hb
        go_wp2_with fail
        refine (HaS.out _ _ _ _ HQ9.out).mono ?_
        rintro en10 w10 ⟨rfl, hb⟩
        have HB10 := Lib.hid (below_then HB9.out hb)
        have HP10 := Lib.hid (HP9.out.below hb)
        have HQ10 := Lib.hid (HQ9.out.below hb)
        have HU10 := Lib.hid (HU9.out.below hb)
        have HN10 := Lib.hid (HN9.out.below hb)
        clear hb
        go_wp2_with fail
        refine (HaN.out _ _ _ _ HN10.out).mono ?_
        rintro en11 w11 ⟨rfl, hb⟩
        have HB11 := Lib.hid (below_then HB10.out hb)
        have HP11 := Lib.hid (HP10.out.below hb)
        have HQ11 := Lib.hid (HQ10.out.below hb)
        have HU11 := Lib.hid (HU10.out.below hb)
        have HN11 := Lib.hid (HN10.out.below hb)
        clear hb
        go_wp2_with fail
        refine (HaR.out _ _ _ _ HP11.out).mono ?_
        rintro en12 w12 ⟨rfl, hb⟩
        have HB12 := Lib.hid (below_then HB11.out hb)
        have HP12 := Lib.hid (HP11.out.below hb)
        have HQ12 := Lib.hid (HQ11.out.below hb)
        have HU12 := Lib.hid (HU11.out.below hb)
        have HN12 := Lib.hid (HN11.out.below hb)
        clear hb
        go_wp2_with fail
        refine (HuM.out _ _ _ _ HN12.out).mono ?_
        rintro en13 w13 ⟨AM, nM, cM, rfl, hM, hb⟩
        have HB13 := Lib.hid (below_then HB12.out hb)
        have HP13 := Lib.hid (HP12.out.below hb)
        have HQ13 := Lib.hid (HQ12.out.below hb)
        have HU13 := Lib.hid (HU12.out.below hb)
        have HN13 := Lib.hid (HN12.out.below hb)
        have HM13 := Lib.hid hM
        clear hb hM
        go_wp2_with fail
        refine (same_true HM13.out HP13.out QLR.out).mono ?_
        rintro en14 w14 ⟨rfl, hb⟩
        have HB14 := Lib.hid (below_then HB13.out hb)
        have HP14 := Lib.hid (HP13.out.below hb)
        have HQ14 := Lib.hid (HQ13.out.below hb)
        have HU14 := Lib.hid (HU13.out.below hb)
        have HN14 := Lib.hid (HN13.out.below hb)
        clear hb
        go_wp2_with fail
        refine (HoR.out _ _ _ _ HP14.out).mono ?_
        rintro en15 w15 ⟨rfl, hb⟩
        have HB15 := Lib.hid (below_then HB14.out hb)
        have HP15 := Lib.hid (HP14.out.below hb)
        have HQ15 := Lib.hid (HQ14.out.below hb)
        have HU15 := Lib.hid (HU14.out.below hb)
        have HN15 := Lib.hid (HN14.out.below hb)
        clear hb
        go_wp2_with fail
        refine (HoN.out _ _ _ _ HN15.out).mono ?_
        rintro en16 w16 ⟨rfl, hb⟩
        have HB16 := Lib.hid (below_then HB15.out hb)
        have HP16 := Lib.hid (HP15.out.below hb)
        have HQ16 := Lib.hid (HQ15.out.below hb)
        have HU16 := Lib.hid (HU15.out.below hb)
        have HN16 := Lib.hid (HN15.out.below hb)
        clear hb
        go_wp2_with fail
        refine (HuV.out _ _ _ _ _ _ _ HQ16.out HP16.out).mono ?_
        rintro en17 w17 ⟨AV, nV, cV, rfl, hV, hb⟩
        have HB17 := Lib.hid (below_then HB16.out hb)
        have HP17 := Lib.hid (HP16.out.below hb)
        have HQ17 := Lib.hid (HQ16.out.below hb)
        have HU17 := Lib.hid (HU16.out.below hb)
        have HN17 := Lib.hid (HN16.out.below hb)
        have HV17 := Lib.hid hV
        clear hb hV
        go_wp2_with fail
        refine (same_true HU17.out HV17.out QLU.out).mono ?_
        rintro en18 w18 ⟨rfl, hb⟩
        have HB18 := Lib.hid (below_then HB17.out hb)
        have HP18 := Lib.hid (HP17.out.below hb)
        have HQ18 := Lib.hid (HQ17.out.below hb)
        have HU18 := Lib.hid (HU17.out.below hb)
        have HN18 := Lib.hid (HN17.out.below hb)
        clear hb
        go_wp2_with fail
        refine (HoU.out _ _ _ _ HU18.out).mono ?_
        rintro en19 w19 ⟨rfl, hb⟩
        have HB19 := Lib.hid (below_then HB18.out hb)
        have HP19 := Lib.hid (HP18.out.below hb)
        have HQ19 := Lib.hid (HQ18.out.below hb)
        have HU19 := Lib.hid (HU18.out.below hb)
        have HN19 := Lib.hid (HN18.out.below hb)
        clear hb
        go_wp2_with fail
        refine (HoR.out _ _ _ _ HP19.out).mono ?_
        rintro en20 w20 ⟨rfl, hb⟩
        have HB20 := Lib.hid (below_then HB19.out hb)
        have HP20 := Lib.hid (HP19.out.below hb)
        have HQ20 := Lib.hid (HQ19.out.below hb)
        have HU20 := Lib.hid (HU19.out.below hb)
        have HN20 := Lib.hid (HN19.out.below hb)
        clear hb
        go_wp2_with fail
        refine (HoS.out _ _ _ _ HQ20.out).mono ?_
        rintro en21 w21 ⟨rfl, hb⟩
        have HB21 := Lib.hid (below_then HB20.out hb)
        have HP21 := Lib.hid (HP20.out.below hb)
        have HQ21 := Lib.hid (HQ20.out.below hb)
        have HU21 := Lib.hid (HU20.out.below hb)
        have HN21 := Lib.hid (HN20.out.below hb)
        clear hb
        go_wp2_with fail
        refine (HuT.out _ _ _ _ _ _ _ HP21.out HN21.out).mono ?_
        rintro en22 w22 ⟨AT, nT, cT, rfl, hT, hb⟩
        have HB22 := Lib.hid (below_then HB21.out hb)
        have HP22 := Lib.hid (HP21.out.below hb)
        have HQ22 := Lib.hid (HQ21.out.below hb)
        have HU22 := Lib.hid (HU21.out.below hb)
        have HN22 := Lib.hid (HN21.out.below hb)
        have HT22 := Lib.hid hT
        clear hb hT
        go_wp2_with fail
        refine (not_nil _).mono ?_
        rintro en23 w23 ⟨AZ, nZ, cZ, rfl, hZ, hb⟩
        have HB23 := Lib.hid (below_then HB22.out hb)
        have HP23 := Lib.hid (HP22.out.below hb)
        have HQ23 := Lib.hid (HQ22.out.below hb)
        have HU23 := Lib.hid (HU22.out.below hb)
        have HN23 := Lib.hid (HN22.out.below hb)
        have HT23 := Lib.hid (HT22.out.below hb)
        have HZ23 := Lib.hid hZ
        clear hb hZ
        go_wp2_with fail
        refine (same_true HT23.out HZ23.out (by simp)).mono ?_
        rintro en24 w24 ⟨rfl, hb⟩
        have HB24 := Lib.hid (below_then HB23.out hb)
        have HP24 := Lib.hid (HP23.out.below hb)
        have HQ24 := Lib.hid (HQ23.out.below hb)
        have HU24 := Lib.hid (HU23.out.below hb)
        have HN24 := Lib.hid (HN23.out.below hb)
        have HT24 := Lib.hid (HT23.out.below hb)
        have HZ24 := Lib.hid (HZ23.out.below hb)
        clear hb
        go_wp2_with fail
        go_ret
        exact ⟨rfl, HB24.out⟩
    · go_wp2_with fail
      refine (HaU.out _ _ _ _ HU7.out).mono ?_
      rintro en8 w8 ⟨rfl, hb⟩
      have HB8 := Lib.hid (below_then HB7.out hb)
      have HP8 := Lib.hid (HP7.out.below hb)
      have HQ8 := Lib.hid (HQ7.out.below hb)
      have HU8 := Lib.hid (HU7.out.below hb)
      have HN8 := Lib.hid (HN7.out.below hb)
      clear hb
      go_wp2_with fail
      refine (HaR.out _ _ _ _ HP8.out).mono ?_
      rintro en9 w9 ⟨rfl, hb⟩
      have HB9 := Lib.hid (below_then HB8.out hb)
      have HP9 := Lib.hid (HP8.out.below hb)
      have HQ9 := Lib.hid (HQ8.out.below hb)
      have HU9 := Lib.hid (HU8.out.below hb)
      have HN9 := Lib.hid (HN8.out.below hb)
      clear hb
      go_wp2_with fail
      refine (HaN.out _ _ _ _ HN9.out).mono ?_
      rintro en10 w10 ⟨rfl, hb⟩
      have HB10 := Lib.hid (below_then HB9.out hb)
      have HP10 := Lib.hid (HP9.out.below hb)
      have HQ10 := Lib.hid (HQ9.out.below hb)
      have HU10 := Lib.hid (HU9.out.below hb)
      have HN10 := Lib.hid (HN9.out.below hb)
      clear hb
      go_wp2_with fail
      refine (HaR.out _ _ _ _ HP10.out).mono ?_
      rintro en11 w11 ⟨rfl, hb⟩
      have HB11 := Lib.hid (below_then HB10.out hb)
      have HP11 := Lib.hid (HP10.out.below hb)
      have HQ11 := Lib.hid (HQ10.out.below hb)
      have HU11 := Lib.hid (HU10.out.below hb)
      have HN11 := Lib.hid (HN10.out.below hb)
      clear hb
      go_wp2_with fail
      refine (HuM.out _ _ _ _ HN11.out).mono ?_
      rintro en12 w12 ⟨AM, nM, cM, rfl, hM, hb⟩
      have HB12 := Lib.hid (below_then HB11.out hb)
      have HP12 := Lib.hid (HP11.out.below hb)
      have HQ12 := Lib.hid (HQ11.out.below hb)
      have HU12 := Lib.hid (HU11.out.below hb)
      have HN12 := Lib.hid (HN11.out.below hb)
      have HM12 := Lib.hid hM
      clear hb hM
      go_wp2_with fail
      refine (same_true HM12.out HP12.out QLR.out).mono ?_
      rintro en13 w13 ⟨rfl, hb⟩
      have HB13 := Lib.hid (below_then HB12.out hb)
      have HP13 := Lib.hid (HP12.out.below hb)
      have HQ13 := Lib.hid (HQ12.out.below hb)
      have HU13 := Lib.hid (HU12.out.below hb)
      have HN13 := Lib.hid (HN12.out.below hb)
      clear hb
      go_wp2_with fail
      refine (HoR.out _ _ _ _ HP13.out).mono ?_
      rintro en14 w14 ⟨rfl, hb⟩
      have HB14 := Lib.hid (below_then HB13.out hb)
      have HP14 := Lib.hid (HP13.out.below hb)
      have HQ14 := Lib.hid (HQ13.out.below hb)
      have HU14 := Lib.hid (HU13.out.below hb)
      have HN14 := Lib.hid (HN13.out.below hb)
      clear hb
      go_wp2_with fail
      refine (HoN.out _ _ _ _ HN14.out).mono ?_
      rintro en15 w15 ⟨rfl, hb⟩
      have HB15 := Lib.hid (below_then HB14.out hb)
      have HP15 := Lib.hid (HP14.out.below hb)
      have HQ15 := Lib.hid (HQ14.out.below hb)
      have HU15 := Lib.hid (HU14.out.below hb)
      have HN15 := Lib.hid (HN14.out.below hb)
      clear hb
      go_wp2_with fail
      refine (HuV.out _ _ _ _ _ _ _ HQ15.out HP15.out).mono ?_
      rintro en16 w16 ⟨AV, nV, cV, rfl, hV, hb⟩
      have HB16 := Lib.hid (below_then HB15.out hb)
      have HP16 := Lib.hid (HP15.out.below hb)
      have HQ16 := Lib.hid (HQ15.out.below hb)
      have HU16 := Lib.hid (HU15.out.below hb)
      have HN16 := Lib.hid (HN15.out.below hb)
      have HV16 := Lib.hid hV
      clear hb hV
      go_wp2_with fail
      refine (same_true HU16.out HV16.out QLU.out).mono ?_
      rintro en17 w17 ⟨rfl, hb⟩
      have HB17 := Lib.hid (below_then HB16.out hb)
      have HP17 := Lib.hid (HP16.out.below hb)
      have HQ17 := Lib.hid (HQ16.out.below hb)
      have HU17 := Lib.hid (HU16.out.below hb)
      have HN17 := Lib.hid (HN16.out.below hb)
      clear hb
      go_wp2_with fail
      refine (HoU.out _ _ _ _ HU17.out).mono ?_
      rintro en18 w18 ⟨rfl, hb⟩
      have HB18 := Lib.hid (below_then HB17.out hb)
      have HP18 := Lib.hid (HP17.out.below hb)
      have HQ18 := Lib.hid (HQ17.out.below hb)
      have HU18 := Lib.hid (HU17.out.below hb)
      have HN18 := Lib.hid (HN17.out.below hb)
      clear hb
      go_wp2_with fail
      refine (HoR.out _ _ _ _ HP18.out).mono ?_
      rintro en19 w19 ⟨rfl, hb⟩
      have HB19 := Lib.hid (below_then HB18.out hb)
      have HP19 := Lib.hid (HP18.out.below hb)
      have HQ19 := Lib.hid (HQ18.out.below hb)
      have HU19 := Lib.hid (HU18.out.below hb)
      have HN19 := Lib.hid (HN18.out.below hb)
      clear hb
      go_wp2_with fail
      refine (HoS.out _ _ _ _ HQ19.out).mono ?_
      rintro en20 w20 ⟨rfl, hb⟩
      have HB20 := Lib.hid (below_then HB19.out hb)
      have HP20 := Lib.hid (HP19.out.below hb)
      have HQ20 := Lib.hid (HQ19.out.below hb)
      have HU20 := Lib.hid (HU19.out.below hb)
      have HN20 := Lib.hid (HN19.out.below hb)
      clear hb
      go_wp2_with fail
      refine (HuT.out _ _ _ _ _ _ _ HP20.out HN20.out).mono ?_
      rintro en21 w21 ⟨AT, nT, cT, rfl, hT, hb⟩
      have HB21 := Lib.hid (below_then HB20.out hb)
      have HP21 := Lib.hid (HP20.out.below hb)
      have HQ21 := Lib.hid (HQ20.out.below hb)
      have HU21 := Lib.hid (HU20.out.below hb)
      have HN21 := Lib.hid (HN20.out.below hb)
      have HT21 := Lib.hid hT
      clear hb hT
      go_wp2_with fail
      refine (not_nil _).mono ?_
      rintro en22 w22 ⟨AZ, nZ, cZ, rfl, hZ, hb⟩
      have HB22 := Lib.hid (below_then HB21.out hb)
      have HP22 := Lib.hid (HP21.out.below hb)
      have HQ22 := Lib.hid (HQ21.out.below hb)
      have HU22 := Lib.hid (HU21.out.below hb)
      have HN22 := Lib.hid (HN21.out.below hb)
      have HT22 := Lib.hid (HT21.out.below hb)
      have HZ22 := Lib.hid hZ
      clear hb hZ
      go_wp2_with fail
      refine (same_true HT22.out HZ22.out (by simp)).mono ?_
      rintro en23 w23 ⟨rfl, hb⟩
      have HB23 := Lib.hid (below_then HB22.out hb)
      have HP23 := Lib.hid (HP22.out.below hb)
      have HQ23 := Lib.hid (HQ22.out.below hb)
      have HU23 := Lib.hid (HU22.out.below hb)
      have HN23 := Lib.hid (HN22.out.below hb)
      have HT23 := Lib.hid (HT22.out.below hb)
      have HZ23 := Lib.hid (HZ22.out.below hb)
      clear hb
      go_wp2_with fail
      go_ret
      exact ⟨rfl, HB23.out⟩
end Go.Proofs.YtkkgdnmloojloaaDoor
namespace Go.Proofs.YtkkgdnmloojloaaDoor
open Go.RowKit Go.Lib Go.ChangeShapes Go.WideShapes
set_option maxRecDepth 100000 in
theorem laws_all (a2 : Int) {H : Type} {enc : TypeId × Value → H} {base base' : Nat} {v v' : Value} {d d' : DataW H} {p p' : List MemPlace} (W : World)
    (hv : Value.okWide Tryd.prog W .any base 58 v) (h : DataW.Trod enc Tryd.prog W 0 (fun _ => true) true 58 v d p) (hv' : Value.okWide Tryd.prog W .any base' 58 v') (h' : DataW.Trod enc Tryd.prog W 0 (fun _ => true) true 58 v' d' p') (w2 : (Lit.int .u32 a2).wf = true) (hT : Tz W) :
    Calls Tryd.prog 10 #[v, v', .int .u32 a2] W fun e W' => e = .returned (.bool true) ∧ Below W.heap.size W W' := by
  obtain ⟨A, X, c, rfl, hX, hl, hok⟩ := open_runs hv h
  obtain ⟨B, Y, d, rfl, hY, hm, hokY⟩ := open_runs hv' h'
  obtain ⟨r, rfl, b2⟩ := wf_u32 w2
  have t : ∀ (x : Nat) (m : Int), Int.tmod (x : Int) m = (x : Int) % m := fun x m => Int.tmod_eq_emod_of_nonneg (by omega)
  have q1 : (r : Int) % 1114112 = ((r % 1114112 : Nat) : Int) := by omega
  have q2 : (r : Int) % 2 = ((r % 2 : Nat) : Int) := by omega
  have q3 : (r : Int) % 40 = ((r % 40 : Nat) : Int) := by omega
  exact laws_walk X Y A B X.length c Y.length d r (r % 2) (r % 1114112) (r % 40) W b2 q1 ((t r _).trans q1) (Nat.mod_lt _ (by omega)) q2 ((t r _).trans q2) q3 ((t r _).trans q3) (Nat.mod_lt _ (by omega)) hX rfl hl hok hY rfl hm hokY hT
end Go.Proofs.YtkkgdnmloojloaaDoor
