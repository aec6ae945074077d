/- Chapter 4: a class as a function, the contracts in that form. Conditions: what each lemma says. -/
import Derived.Test.YtbbcdebjkedepaaClassE
import Derived.Deep.RegionHeld3
import Derived.Deep.QuietTactic
import Derived.Deep.Cut
set_option linter.unusedVariables false
set_option linter.unusedSimpArgs false
namespace Go.Proofs.Ytbbcdebjkedepaa.Plain
/-- the class of some ranges -/
def cls (R : List Rg) : List Rg := mergeL ((R.filter mayB).mergeSort fun a b => decide (a.1 ≤ b.1))
theorem cls_holds (R : List Rg) : Norm (cls R) ∧ (∀ x, In (cls R) x ↔ In (R.filter mayB) x) ∧ (cls R).length ≤ R.length := by
  have hp := List.mergeSort_perm (R.filter mayB) fun a b => decide (a.1 ≤ b.1)
  have hs := List.pairwise_mergeSort (le := fun (a b : Rg) => decide (a.1 ≤ b.1)) (fun a b c h1 h2 => by simp at *; omega) (fun a b => by simp; omega) (R.filter mayB)
  have hm := merge_holds _ _ rfl (fun r hr => (mayB_iff r).1 (List.mem_filter.1 (hp.mem_iff.1 hr)).2) (hs.imp fun h => by simpa using h)
  refine ⟨hm.1, fun x => ?_, ?_⟩
  · show In (mergeL _) x ↔ _
    rw [hm.2.1 x]
    constructor
    · rintro ⟨r, h1, h2⟩; exact ⟨r, hp.mem_iff.1 h1, h2⟩
    · rintro ⟨r, h1, h2⟩; exact ⟨r, hp.mem_iff.2 h1, h2⟩
  · have h1 := hm.2.2.2
    rw [hp.length_eq] at h1
    exact Nat.le_trans h1 (List.length_filter_le _ _)
theorem cls_is {R C : List Rg} (hN : Norm C) (hI : ∀ x, In C x ↔ In (R.filter mayB) x) : C = cls R :=
  Norm_unique hN (cls_holds R).1 fun x => (hI x).trans ((cls_holds R).2.1 x).symm
theorem cls_norm (R : List Rg) : Norm (cls R) := (cls_holds R).1
theorem cls_in (R : List Rg) (x : Int) : In (cls R) x ↔ In (R.filter mayB) x := (cls_holds R).2.1 x
theorem cls_len (R : List Rg) : (cls R).length ≤ R.length := (cls_holds R).2.2
theorem Norm_filter {R : List Rg} (h : Norm R) : R.filter mayB = R := List.filter_eq_self.2 fun r hr => (mayB_iff r).2 (Norm_may h r hr)
theorem cls_self {R : List Rg} (h : Norm R) : cls R = R := (cls_is h fun x => by rw [Norm_filter h]).symm
/-- what is not -/
def cnot (R : List Rg) : List Rg := cls (gaps 0 (cls R))
theorem cnot_norm (R : List Rg) : Norm (cnot R) := cls_norm _
theorem cnot_in (R : List Rg) (x : Int) : In (cnot R) x ↔ 0 ≤ x ∧ x ≤ 1114111 ∧ ¬ In (R.filter mayB) x := by
  unfold cnot
  rw [cls_in, gaps_in (cls R) 0 (Int.le_refl _) (cls_norm R) (fun r hr => (Norm_may (cls_norm R) r hr).1), cls_in]
theorem cnot_is {R C : List Rg} (hN : Norm C) (hI : ∀ x, In C x ↔ 0 ≤ x ∧ x ≤ 1114111 ∧ ¬ In (R.filter mayB) x) : C = cnot R :=
  Norm_unique hN (cnot_norm R) fun x => (hI x).trans (cnot_in R x).symm
theorem cnot_len (R : List Rg) : (cnot R).length ≤ R.length + 1 := by
  have h1 := cls_len (gaps 0 (cls R))
  rw [gaps_len] at h1
  have h2 := cls_len R
  unfold cnot; omega
def normB : List Rg → Bool
  | [] => true
  | r :: R => mayB r && R.all (fun s => decide (r.2 + 1 < s.1)) && normB R
theorem normB_iff : ∀ R : List Rg, normB R = true ↔ Norm R := by
  intro R
  induction R with
  | nil => exact ⟨fun _ => trivial, fun _ => rfl⟩
  | cons r R ih =>
    unfold normB
    rw [Bool.and_eq_true, Bool.and_eq_true, mayB_iff, List.all_eq_true, ih, Norm_cons, and_assoc]
    simp only [decide_eq_true_eq]
def rightB (R : List Rg) : Bool := normB R && decide (R.length ≤ 64)
theorem rightB_iff (R : List Rg) : rightB R = true ↔ Norm R ∧ R.length ≤ 64 := by unfold rightB; rw [Bool.and_eq_true, normB_iff, decide_eq_true_eq]
end Go.Proofs.Ytbbcdebjkedepaa.Plain
namespace Go.Proofs.Ytbbcdebjkedepaa
open Go.RowKit Go.Lib
open Plain (Rg May mayB In Norm cls cnot rightB)
/-- a class that lies somewhere -/
def Cl (w : World) (A : Option Addr) (n c : Nat) (C : List Rg) : Prop := Rs w A C ∧ C.length = n ∧ (A = none → c = 0)
theorem Cl.below {w w' : World} {A : Option Addr} {n c : Nat} {C : List Rg} (h : Cl w A n c C) (hb : Below w.heap.size w w') : Cl w' A n c C := ⟨h.1.below hb, h.2.1, h.2.2⟩
theorem Cl.of_own {w : World} {base n c : Nat} {A : Option Addr} {C : List Rg} (h : w.ownsRow base 86 2 (.slice A n c) n (rgs C)) (hl : C.length = n) : Cl w A n c C :=
  ⟨Rs.of_own h hl, hl, fun hA => by
    subst hA
    rcases h.2 with ⟨hv, _⟩ | ⟨g, cap, cur, hv, _⟩
    · injection hv
    · cases hv⟩
def ClPost (C : List Rg) (w : World) (en : Ending) (w' : World) : Prop := ∃ A n c, en = .returned (.slice A n c) ∧ Cl w' A n c C ∧ Below w.heap.size w w'
theorem of_cl {R : List Rg} {A : Option Addr} {n c : Nat} {w : World} (h : Cl w A n c R) (hn : R.length ≤ 10000) : Calls Try.prog 48 #[.slice A n c] w (ClPost (cls R) w) := by
  obtain ⟨h1, h2, _⟩ := h
  refine (of_any R A n c w h1 h2 (by omega)).mono ?_
  rintro e w' ⟨C, A', c', rfl, hN, hI, _, hO, hB⟩
  obtain rfl := Plain.cls_is hN hI
  exact ⟨A', _, c', rfl, Cl.of_own hO rfl, hB⟩
theorem not_cl {R : List Rg} {A : Option Addr} {n c : Nat} {w : World} (h : Cl w A n c R) (hn : R.length ≤ 10000) : Calls Try.prog 25 #[.slice A n c] w (ClPost (cnot R) w) := by
  obtain ⟨h1, h2, _⟩ := h
  refine (not_any R A n c w h1 h2 (by omega)).mono ?_
  rintro e w' ⟨C, A', c', rfl, hN, hI, _, hO, hB⟩
  obtain rfl := Plain.cnot_is hN hI
  exact ⟨A', _, c', rfl, Cl.of_own hO rfl, hB⟩
theorem right_cl {R : List Rg} {A : Option Addr} {n c : Nat} {w : World} (h : Cl w A n c R) (hn : R.length ≤ 10000) : Calls Try.prog 30 #[.slice A n c] w fun e w' => e = .returned (.bool (rightB R)) ∧ Below w.heap.size w w' := by
  obtain ⟨h1, h2, _⟩ := h
  refine (right_any R A n c w h1 h2 (by unfold maxLen; omega)).mono ?_
  rintro e w' ⟨b, rfl, hb, hB⟩
  have : b = rightB R := by rw [Bool.eq_iff_iff, hb, Plain.rightB_iff]
  rw [this]
  exact ⟨rfl, hB⟩
theorem same_cl {R S : List Rg} {A B : Option Addr} {n c m d : Nat} {w : World} (h : Cl w A n c R) (k : Cl w B m d S) (hn : R.length ≤ 10000) (hm : S.length ≤ 10000) : Calls Try.prog 42 #[.slice A n c, .slice B m d] w fun e w' => e = .returned (.bool (decide (R = S))) ∧ Below w.heap.size w w' := by
  obtain ⟨h1, rfl, h3⟩ := h
  obtain ⟨k1, rfl, k3⟩ := k
  exact same_any R S A B c d w h1 k1 (by unfold maxLen; omega) (by unfold maxLen; omega)
end Go.Proofs.Ytbbcdebjkedepaa
namespace Go.Proofs.Ytbbcdebjkedepaa.Plain
end Go.Proofs.Ytbbcdebjkedepaa.Plain
namespace Go.Proofs.Ytbbcdebjkedepaa
open Go.RowKit Go.Lib
open Plain (Rg May mayB In Norm cls cnot rightB)
theorem Cl.new (w : World) (C : List Rg) (cs : Array Value) (h : cs.toList = rgs C) : Cl (w.alloc (.cells cs 86)) (some ⟨w.heap.size, 0, none⟩) C.length C.length C := by
  refine ⟨fun _ => ⟨w.heap.size, 0, rfl, by simp, fun i r hi => ?_⟩, rfl, fun h => by cases h⟩
  have hc := CellsAt.new w cs 86
  rw [h] at hc
  have := rgs_get C i r hi
  rw [Nat.zero_add]
  exact ⟨hc.2 _ _ this.1, hc.2 _ _ this.2⟩
end Go.Proofs.Ytbbcdebjkedepaa
