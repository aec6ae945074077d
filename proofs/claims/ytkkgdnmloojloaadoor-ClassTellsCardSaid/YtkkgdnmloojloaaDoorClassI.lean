/- Chapter 4: the class as a function of the ranges; the chapter's examples. Conditions: what each lemma says. -/
import Derived.Test.YtkkgdnmloojloaaDoorClassG
import Derived.Deep.RegionHeld3
import Derived.Deep.QuietTactic
import Derived.Deep.Cut
set_option linter.unusedVariables false
set_option linter.unusedSimpArgs false
namespace Go.Proofs.YtkkgdnmloojloaaDoor.Plain
/-- the class of some ranges -/
def cls (R : List Rg) : List Rg := mergeL ((R.filter mayB).mergeSort fun a b => decide (a.1 ≤ b.1))
theorem cls_holds (R : List Rg) : Norm (cls R) ∧ (∀ x, In (cls R) x ↔ In (R.filter mayB) x) ∧ (cls R).length ≤ R.length := by
  have hp := List.mergeSort_perm (R.filter mayB) fun a b => decide (a.1 ≤ b.1)
  have hs := List.pairwise_mergeSort (le := fun (a b : Rg) => decide (a.1 ≤ b.1)) (fun a b c h1 h2 => by simp at *; omega) (fun a b => by simp; omega) (R.filter mayB)
  have hm := merge_holds _ _ rfl (fun r hr => (mayB_iff r).1 (List.mem_filter.1 (hp.mem_iff.1 hr)).2) (hs.imp fun h => by simpa using h)
  refine ⟨hm.1, fun x => ?_, ?_⟩
  · show In (mergeL _) x ↔ _
    rw [hm.2.1 x]
    constructor
    · rintro ⟨r, h1, h2⟩; exact ⟨r, hp.mem_iff.1 h1, h2⟩
    · rintro ⟨r, h1, h2⟩; exact ⟨r, hp.mem_iff.2 h1, h2⟩
  · have h1 := hm.2.2.2
    rw [hp.length_eq] at h1
    exact Nat.le_trans h1 (List.length_filter_le _ _)
theorem cls_is {R C : List Rg} (hN : Norm C) (hI : ∀ x, In C x ↔ In (R.filter mayB) x) : C = cls R :=
  Norm_unique hN (cls_holds R).1 fun x => (hI x).trans ((cls_holds R).2.1 x).symm
theorem cls_norm (R : List Rg) : Norm (cls R) := (cls_holds R).1
theorem cls_in (R : List Rg) (x : Int) : In (cls R) x ↔ In (R.filter mayB) x := (cls_holds R).2.1 x
theorem cls_len (R : List Rg) : (cls R).length ≤ R.length := (cls_holds R).2.2
theorem Norm_filter {R : List Rg} (h : Norm R) : R.filter mayB = R := List.filter_eq_self.2 fun r hr => (mayB_iff r).2 (Norm_may h r hr)
theorem cls_self {R : List Rg} (h : Norm R) : cls R = R := (cls_is h fun x => by rw [Norm_filter h]).symm
/-- what is not -/
def cnot (R : List Rg) : List Rg := cls (gaps 0 (cls R))
theorem cnot_norm (R : List Rg) : Norm (cnot R) := cls_norm _
theorem cnot_in (R : List Rg) (x : Int) : In (cnot R) x ↔ 0 ≤ x ∧ x ≤ 1114111 ∧ ¬ In (R.filter mayB) x := by
  unfold cnot
  rw [cls_in, gaps_in (cls R) 0 (Int.le_refl _) (cls_norm R) (fun r hr => (Norm_may (cls_norm R) r hr).1), cls_in]
theorem cnot_is {R C : List Rg} (hN : Norm C) (hI : ∀ x, In C x ↔ 0 ≤ x ∧ x ≤ 1114111 ∧ ¬ In (R.filter mayB) x) : C = cnot R :=
  Norm_unique hN (cnot_norm R) fun x => (hI x).trans (cnot_in R x).symm
theorem cnot_len (R : List Rg) : (cnot R).length ≤ R.length + 1 := by
  have h1 := cls_len (gaps 0 (cls R))
  rw [gaps_len] at h1
  have h2 := cls_len R
  unfold cnot; omega
def normB : List Rg → Bool
  | [] => true
  | r :: R => mayB r && R.all (fun s => decide (r.2 + 1 < s.1)) && normB R
theorem normB_iff : ∀ R : List Rg, normB R = true ↔ Norm R := by
  intro R
  induction R with
  | nil => exact ⟨fun _ => trivial, fun _ => rfl⟩
  | cons r R ih =>
    unfold normB
    rw [Bool.and_eq_true, Bool.and_eq_true, mayB_iff, List.all_eq_true, ih, Norm_cons, and_assoc]
    simp only [decide_eq_true_eq]
def rightB (R : List Rg) : Bool := normB R && decide (R.length ≤ 64)
theorem rightB_iff (R : List Rg) : rightB R = true ↔ Norm R ∧ R.length ≤ 64 := by unfold rightB; rw [Bool.and_eq_true, normB_iff, decide_eq_true_eq]
end Go.Proofs.YtkkgdnmloojloaaDoor.Plain
namespace Go.Proofs.YtkkgdnmloojloaaDoor
open Go.RowKit Go.Lib
open Plain (Rg Rn May mayB In Norm cls cnot rightB runOf)
/-- a class that lies somewhere -/
def Cl (w : World) (A : Option Addr) (n c : Nat) (C : List Rg) : Prop := Rs w A C ∧ C.length = n ∧ (A = none → c = 0)
theorem Cl.below {w w' : World} {A : Option Addr} {n c : Nat} {C : List Rg} (h : Cl w A n c C) (hb : Below w.heap.size w w') : Cl w' A n c C := ⟨h.1.below hb, h.2.1, h.2.2⟩
theorem Cl.of_own {w : World} {base n c : Nat} {A : Option Addr} {C : List Rg} (h : w.ownsRow base 82 2 (.slice A n c) n (rgs C)) (hl : C.length = n) : Cl w A n c C :=
  ⟨Rs.of_own h hl, hl, fun hA => by
    subst hA
    rcases h.2 with ⟨hv, _⟩ | ⟨g, cap, cur, hv, _⟩
    · injection hv
    · cases hv⟩
def ClPost (C : List Rg) (w : World) (en : Ending) (w' : World) : Prop := ∃ A n c, en = .returned (.slice A n c) ∧ Cl w' A n c C ∧ Below w.heap.size w w'
theorem of_cl {R : List Rg} {A : Option Addr} {n c : Nat} {w : World} (h : Cl w A n c R) (hn : R.length ≤ 10000) : Calls Tryd.prog 34 #[.slice A n c] w (ClPost (cls R) w) := by
  obtain ⟨h1, h2, _⟩ := h
  refine (of_any R A n c w h1 h2 (by omega)).mono ?_
  rintro e w' ⟨C, A', c', rfl, hN, hI, _, hO, hB⟩
  obtain rfl := Plain.cls_is hN hI
  exact ⟨A', _, c', rfl, Cl.of_own hO rfl, hB⟩
theorem not_cl {R : List Rg} {A : Option Addr} {n c : Nat} {w : World} (h : Cl w A n c R) (hn : R.length ≤ 10000) : Calls Tryd.prog 38 #[.slice A n c] w (ClPost (cnot R) w) := by
  obtain ⟨h1, h2, _⟩ := h
  refine (not_any R A n c w h1 h2 (by omega)).mono ?_
  rintro e w' ⟨C, A', c', rfl, hN, hI, _, hO, hB⟩
  obtain rfl := Plain.cnot_is hN hI
  exact ⟨A', _, c', rfl, Cl.of_own hO rfl, hB⟩
theorem union_cl {R S : List Rg} {A B : Option Addr} {n c m d : Nat} {w : World} (h : Cl w A n c R) (k : Cl w B m d S) (hn : R.length ≤ 10000) (hm : S.length ≤ 10000) : Calls Tryd.prog 36 #[.slice A n c, .slice B m d] w (ClPost (cls (R ++ S)) w) := by
  obtain ⟨h1, h2, h3⟩ := h
  obtain ⟨k1, k2, k3⟩ := k
  refine (union_any R S A B n m c d w h1 k1 h2 k2 (by omega) (by omega) h3 k3).mono ?_
  rintro e w' ⟨C, A', c', rfl, hN, hI, _, hO, hB⟩
  obtain rfl := Plain.cls_is (R := R ++ S) hN (fun x => by rw [hI x, List.filter_append, Plain.In_append])
  exact ⟨A', _, c', rfl, Cl.of_own hO rfl, hB⟩
theorem many_cl {R : List Rg} {A : Option Addr} {n c : Nat} {w : World} (h : Cl w A n c R) (hn : R.length ≤ 10000) : Calls Tryd.prog 44 #[.slice A n c] w fun e w' => e = .returned (.int .i64 (cnt (cls R))) ∧ Below w.heap.size w w' := by
  obtain ⟨h1, h2, _⟩ := h
  refine (many_any R A n c w h1 h2 (by omega)).mono ?_
  rintro e w' ⟨C, rfl, hN, hI, hB⟩
  obtain rfl := Plain.cls_is hN hI
  exact ⟨rfl, hB⟩
theorem right_cl {R : List Rg} {A : Option Addr} {n c : Nat} {w : World} (h : Cl w A n c R) (hn : R.length ≤ 10000) : Calls Tryd.prog 40 #[.slice A n c] w fun e w' => e = .returned (.bool (rightB R)) ∧ Below w.heap.size w w' := by
  obtain ⟨h1, h2, _⟩ := h
  refine (right_any R A n c w h1 h2 (by unfold maxLen; omega)).mono ?_
  rintro e w' ⟨b, rfl, hb, hB⟩
  have : b = rightB R := by rw [Bool.eq_iff_iff, hb, Plain.rightB_iff]
  rw [this]
  exact ⟨rfl, hB⟩
theorem has_cl {R : List Rg} {A : Option Addr} {n c : Nat} (x : Int) {w : World} (h : Cl w A n c R) (hn : R.length ≤ 10000) : Calls Tryd.prog 42 #[.slice A n c, .int .i32 x] w fun e w' => e = .returned (.bool (hasB R x)) ∧ Below w.heap.size w w' :=
  has_any R A n c x w h.1 h.2.1 (by have := h.2.1; unfold maxLen; omega)
theorem same_cl {R S : List Rg} {A B : Option Addr} {n c m d : Nat} {w : World} (h : Cl w A n c R) (k : Cl w B m d S) (hn : R.length ≤ 10000) (hm : S.length ≤ 10000) : Calls Tryd.prog 46 #[.slice A n c, .slice B m d] w fun e w' => e = .returned (.bool (decide (R = S))) ∧ Below w.heap.size w w' := by
  obtain ⟨h1, rfl, h3⟩ := h
  obtain ⟨k1, rfl, k3⟩ := k
  exact same_any R S A B c d w h1 k1 (by unfold maxLen; omega) (by unfold maxLen; omega)
theorem put_cl {R : List Rg} {A : Option Addr} {n c : Nat} {w : World} (h : Cl w A n c R) (hn : R.length ≤ 10000) (hW : Wide R) (hT : Tz w) : Calls Tryd.prog 47 #[.slice A n c] w fun e w' => e = .returned (.string (str (Plain.cputL R))) ∧ Below w.heap.size w w' :=
  cput_any R A n c w h.1 h.2.1 (by have := h.2.1; omega) hW hT
theorem runs_cl {X : List Rn} {A : Option Addr} {n c : Nat} {w : World} (m : Nat) (hX : Rns w A X) (hR : X.length = n) (hm : m ≤ 1000) (hn : n ≤ maxLen) (hok : ∀ x ∈ X, RnOk x) : Calls Tryd.prog 31 #[.slice A n c, .int .i64 m] w (ClPost (runsOf X m) w) := by
  refine (runs_any X A n c m w hX hR hm hn hok).mono ?_
  rintro e w' ⟨A', c', rfl, hO, hB⟩
  exact ⟨A', _, c', rfl, Cl.of_own hO rfl, hB⟩
theorem Norm_wide {R : List Rg} (h : Norm R) : Wide R := fun r hr => by
  obtain ⟨a, b, c⟩ := Plain.Norm_may h r hr
  omega
end Go.Proofs.YtkkgdnmloojloaaDoor
namespace Go.Proofs.YtkkgdnmloojloaaDoor.Plain
def k0 : List Rg := [(100, 102), (97, 99), (122, 122), (5, 1)]
def kC : List Rg := [(97, 102), (122, 122)]
def kN : List Rg := [(0, 96), (103, 121), (123, 1114111)]
def kU : List Rg := [(97, 103), (122, 122)]
theorem kC_norm : Norm kC := (normB_iff _).1 (by decide)
theorem kN_norm : Norm kN := (normB_iff _).1 (by decide)
theorem kU_norm : Norm kU := (normB_iff _).1 (by decide)
theorem kC_is : cls k0 = kC := (cls_is kC_norm fun x => by
  rw [show k0.filter mayB = [(100, 102), (97, 99), (122, 122)] by decide]
  simp only [kC, In_cons, In_nil, or_false]; omega).symm
theorem kN_is : cnot kC = kN := (cnot_is kN_norm fun x => by
  rw [Norm_filter kC_norm]
  simp only [kC, kN, In_cons, In_nil, or_false]; omega).symm
theorem kM_is : cnot kN = kC := (cnot_is kC_norm fun x => by
  rw [Norm_filter kN_norm]
  simp only [kC, kN, In_cons, In_nil, or_false]; omega).symm
theorem kU_is : cls (kC ++ [(103, 103)]) = kU := (cls_is kU_norm fun x => by
  have e : List.filter mayB (kC ++ [(103, 103)]) = [(97, 102), (122, 122), (103, 103)] := by decide
  rw [e]
  simp only [kU, In_cons, In_nil, or_false]; omega).symm
end Go.Proofs.YtkkgdnmloojloaaDoor.Plain
namespace Go.Proofs.YtkkgdnmloojloaaDoor
open Go.RowKit Go.Lib
open Plain (Rg Rn May mayB In Norm cls cnot rightB runOf k0 kC kN kU)
theorem Cl.new (w : World) (C : List Rg) (cs : Array Value) (h : cs.toList = rgs C) : Cl (w.alloc (.cells cs 82)) (some ⟨w.heap.size, 0, none⟩) C.length C.length C := by
  refine ⟨fun _ => ⟨w.heap.size, 0, rfl, by simp, fun i r hi => ?_⟩, rfl, fun h => by cases h⟩
  have hc := CellsAt.new w cs 82
  rw [h] at hc
  have := rgs_get C i r hi
  rw [Nat.zero_add]
  exact ⟨hc.2 _ _ this.1, hc.2 _ _ this.2⟩
theorem cx1 {A : Option Addr} {n c : Nat} {w : World} (h : Cl w A n c k0) : Calls Tryd.prog 34 #[.slice A n c] w (ClPost kC w) := by
  have := of_cl h (by decide)
  rw [Plain.kC_is] at this
  exact this
theorem cx2 {A : Option Addr} {n c : Nat} {w : World} (h : Cl w A n c kC) : Calls Tryd.prog 38 #[.slice A n c] w (ClPost kN w) := by
  have := not_cl h (by decide)
  rw [Plain.kN_is] at this
  exact this
theorem cx3 {A : Option Addr} {n c : Nat} {w : World} (h : Cl w A n c kC) (hT : Tz w) : Calls Tryd.prog 47 #[.slice A n c] w fun e w' => e = .returned (.string ⟨#[54, 49, 45, 54, 54, 44, 55, 97]⟩) ∧ Below w.heap.size w w' := by
  have := put_cl h (by decide) (Norm_wide Plain.kC_norm) hT
  rw [show str (Plain.cputL kC) = ⟨#[54, 49, 45, 54, 54, 44, 55, 97]⟩ by kernel_rfl] at this
  exact this
theorem cx4 {A : Option Addr} {n c : Nat} {w : World} (h : Cl w A n c kC) : Calls Tryd.prog 42 #[.slice A n c, .int .i32 101] w fun e w' => e = .returned (.bool true) ∧ Below w.heap.size w w' := by
  have := has_cl 101 h (by decide)
  rw [show hasB kC 101 = true by decide] at this
  exact this
theorem cx5 {A : Option Addr} {n c : Nat} {w : World} (h : Cl w A n c kC) : Calls Tryd.prog 42 #[.slice A n c, .int .i32 103] w fun e w' => e = .returned (.bool false) ∧ Below w.heap.size w w' := by
  have := has_cl 103 h (by decide)
  rw [show hasB kC 103 = false by decide] at this
  exact this
theorem cx6 {A : Option Addr} {n c : Nat} {w : World} (h : Cl w A n c kC) : Calls Tryd.prog 44 #[.slice A n c] w fun e w' => e = .returned (.int .i64 7) ∧ Below w.heap.size w w' := by
  have := many_cl h (by decide)
  rw [Plain.cls_self Plain.kC_norm, show cnt kC = 7 by decide] at this
  exact this
theorem cx7 {A : Option Addr} {n c : Nat} {w : World} (h : Cl w A n c kN) (hT : Tz w) : Calls Tryd.prog 47 #[.slice A n c] w fun e w' => e = .returned (.string ⟨#[48, 45, 54, 48, 44, 54, 55, 45, 55, 57, 44, 55, 98, 45, 49, 48, 102, 102, 102, 102]⟩) ∧ Below w.heap.size w w' := by
  have := put_cl h (by decide) (Norm_wide Plain.kN_norm) hT
  rw [show str (Plain.cputL kN) = ⟨#[48, 45, 54, 48, 44, 54, 55, 45, 55, 57, 44, 55, 98, 45, 49, 48, 102, 102, 102, 102]⟩ by kernel_rfl] at this
  exact this
theorem cx8 {A : Option Addr} {n c : Nat} {w : World} (h : Cl w A n c kC) : Calls Tryd.prog 40 #[.slice A n c] w fun e w' => e = .returned (.bool true) ∧ Below w.heap.size w w' := by
  have := right_cl h (by decide)
  rw [show rightB kC = true by decide] at this
  exact this
theorem cx9 {A : Option Addr} {n c : Nat} {w : World} (h : Cl w A n c [(1, 2), (3, 4)]) : Calls Tryd.prog 40 #[.slice A n c] w fun e w' => e = .returned (.bool false) ∧ Below w.heap.size w w' := by
  have := right_cl h (by decide)
  rw [show rightB [(1, 2), (3, 4)] = false by decide] at this
  exact this
theorem cx10 {A : Option Addr} {n c : Nat} {w : World} (h : Cl w A n c kN) : Calls Tryd.prog 38 #[.slice A n c] w (ClPost kC w) := by
  have := not_cl h (by decide)
  rw [Plain.kM_is] at this
  exact this
theorem cx11 {A B : Option Addr} {n c m d : Nat} {w : World} (h : Cl w A n c kC) (k : Cl w B m d kC) : Calls Tryd.prog 46 #[.slice A n c, .slice B m d] w fun e w' => e = .returned (.bool true) ∧ Below w.heap.size w w' := by
  have := same_cl h k (by decide) (by decide)
  rw [decide_eq_true rfl] at this
  exact this
theorem cx12 {A B : Option Addr} {n c m d : Nat} {w : World} (h : Cl w A n c kC) (k : Cl w B m d [(103, 103)]) : Calls Tryd.prog 36 #[.slice A n c, .slice B m d] w (ClPost kU w) := by
  have := union_cl h k (by decide) (by decide)
  rw [Plain.kU_is] at this
  exact this
theorem cx13 {A : Option Addr} {n c : Nat} {w : World} (h : Cl w A n c kU) (hT : Tz w) : Calls Tryd.prog 47 #[.slice A n c] w fun e w' => e = .returned (.string ⟨#[54, 49, 45, 54, 55, 44, 55, 97]⟩) ∧ Below w.heap.size w w' := by
  have := put_cl h (by decide) (Norm_wide Plain.kU_norm) hT
  rw [show str (Plain.cputL kU) = ⟨#[54, 49, 45, 54, 55, 44, 55, 97]⟩ by kernel_rfl] at this
  exact this
set_option maxRecDepth 100000 in
set_option maxHeartbeats 4000000 in
theorem classEx_any (W : World) (hT : Tz W) : Calls Tryd.prog 30 #[] W fun e w' => e = .returned (.bool true) ∧ Below W.heap.size W w' := by
  have HT := Lib.hid hT
  clear hT
  go_enter Tryd.func30, Tryd.ntmps30
  have HB0 := Lib.hid (Below.refl W.heap.size W)
  go_wp2_with fail
  refine (cx1 (Cl.new W k0 _ rfl)).mono ?_
  rintro en1 w1 ⟨AC, nC, cC, rfl, hC, hb⟩
  have HB1 := Lib.hid (below_then (below_alloc HB0.out (.cells #[.int .i32 100, .int .i32 102, .int .i32 97, .int .i32 99, .int .i32 122, .int .i32 122, .int .i32 5, .int .i32 1] 82)) hb)
  have HC1 := Lib.hid hC
  clear hb hC
  go_wp2_with fail
  refine (cx2 HC1.out).mono ?_
  rintro en2 w2 ⟨AN, nN, cN, rfl, hN, hb⟩
  have HB2 := Lib.hid (below_then HB1.out hb)
  have HC2 := Lib.hid (HC1.out.below hb)
  have HN2 := Lib.hid hN
  clear hb hN
  go_wp2_with fail
  refine (cx3 HC2.out (HT.out.below HB2.out)).mono ?_
  rintro en3 w3 ⟨rfl, hb⟩
  have HB3 := Lib.hid (below_then HB2.out hb)
  have HC3 := Lib.hid (HC2.out.below hb)
  have HN3 := Lib.hid (HN2.out.below hb)
  clear hb
  go_wp2_with fail
  refine (cx4 HC3.out).mono ?_
  rintro en4 w4 ⟨rfl, hb⟩
  have HB4 := Lib.hid (below_then HB3.out hb)
  have HC4 := Lib.hid (HC3.out.below hb)
  have HN4 := Lib.hid (HN3.out.below hb)
  clear hb
  go_wp2_with fail
  refine (cx5 HC4.out).mono ?_
  rintro en5 w5 ⟨rfl, hb⟩
  have HB5 := Lib.hid (below_then HB4.out hb)
  have HC5 := Lib.hid (HC4.out.below hb)
  have HN5 := Lib.hid (HN4.out.below hb)
  clear hb
  go_wp2_with fail
  refine (cx6 HC5.out).mono ?_
  rintro en6 w6 ⟨rfl, hb⟩
  have HB6 := Lib.hid (below_then HB5.out hb)
  have HC6 := Lib.hid (HC5.out.below hb)
  have HN6 := Lib.hid (HN5.out.below hb)
  clear hb
  go_wp2_with fail
  refine (cx7 HN6.out (HT.out.below HB6.out)).mono ?_
  rintro en7 w7 ⟨rfl, hb⟩
  have HB7 := Lib.hid (below_then HB6.out hb)
  have HC7 := Lib.hid (HC6.out.below hb)
  have HN7 := Lib.hid (HN6.out.below hb)
  clear hb
  go_wp2_with fail
  refine (cx8 HC7.out).mono ?_
  rintro en8 w8 ⟨rfl, hb⟩
  have HB8 := Lib.hid (below_then HB7.out hb)
  have HC8 := Lib.hid (HC7.out.below hb)
  have HN8 := Lib.hid (HN7.out.below hb)
  clear hb
  go_wp2_with fail
  refine (cx9 (Cl.new w8 [(1, 2), (3, 4)] _ rfl)).mono ?_
  rintro en9 w9 ⟨rfl, hb⟩
  have HB9 := Lib.hid (below_then (below_alloc HB8.out (.cells #[.int .i32 1, .int .i32 2, .int .i32 3, .int .i32 4] 82)) hb)
  have HC9 := Lib.hid ((HC8.out.below ((Below.refl _ _).alloc (Nat.le_refl _) (.cells #[.int .i32 1, .int .i32 2, .int .i32 3, .int .i32 4] 82))).below hb)
  have HN9 := Lib.hid ((HN8.out.below ((Below.refl _ _).alloc (Nat.le_refl _) (.cells #[.int .i32 1, .int .i32 2, .int .i32 3, .int .i32 4] 82))).below hb)
  clear hb
  go_wp2_with fail
  refine (cx10 HN9.out).mono ?_
  rintro en10 w10 ⟨AM, nM, cM, rfl, hM, hb⟩
  have HB10 := Lib.hid (below_then HB9.out hb)
  have HC10 := Lib.hid (HC9.out.below hb)
  have HN10 := Lib.hid (HN9.out.below hb)
  have HM10 := Lib.hid hM
  clear hb hM
  go_wp2_with fail
  refine (cx11 HM10.out HC10.out).mono ?_
  rintro en11 w11 ⟨rfl, hb⟩
  have HB11 := Lib.hid (below_then HB10.out hb)
  have HC11 := Lib.hid (HC10.out.below hb)
  have HN11 := Lib.hid (HN10.out.below hb)
  have HM11 := Lib.hid (HM10.out.below hb)
  clear hb
  go_wp2_with fail
  refine (cx12 (HC11.out.below ((Below.refl _ _).alloc (Nat.le_refl _) (.cells #[.int .i32 103, .int .i32 103] 82))) (Cl.new w11 [(103, 103)] _ rfl)).mono ?_
  rintro en12 w12 ⟨AU, nU, cU, rfl, hU, hb⟩
  have HB12 := Lib.hid (below_then (below_alloc HB11.out (.cells #[.int .i32 103, .int .i32 103] 82)) hb)
  have HC12 := Lib.hid ((HC11.out.below ((Below.refl _ _).alloc (Nat.le_refl _) (.cells #[.int .i32 103, .int .i32 103] 82))).below hb)
  have HN12 := Lib.hid ((HN11.out.below ((Below.refl _ _).alloc (Nat.le_refl _) (.cells #[.int .i32 103, .int .i32 103] 82))).below hb)
  have HM12 := Lib.hid ((HM11.out.below ((Below.refl _ _).alloc (Nat.le_refl _) (.cells #[.int .i32 103, .int .i32 103] 82))).below hb)
  have HU12 := Lib.hid hU
  clear hb hU
  go_wp2_with fail
  refine (cx13 HU12.out (HT.out.below HB12.out)).mono ?_
  rintro en13 w13 ⟨rfl, hb⟩
  have HB13 := Lib.hid (below_then HB12.out hb)
  have HC13 := Lib.hid (HC12.out.below hb)
  have HN13 := Lib.hid (HN12.out.below hb)
  have HM13 := Lib.hid (HM12.out.below hb)
  have HU13 := Lib.hid (HU12.out.below hb)
  clear hb
  go_wp2_with fail
  go_ret
  exact ⟨rfl, HB13.out⟩
end Go.Proofs.YtkkgdnmloojloaaDoor
