/- layout.BackTable whole, RightFlat. Conditions: what each lemma says. -/
import Derived.Test.YtbbcdebjkedepaaTabE
import Derived.ScopeJumps
import Derived.WalkMore
set_option linter.unusedVariables false
set_option linter.unusedSimpArgs false
namespace Go.Proofs.Ytbbcdebjkedepaa
open Go.RowKit Go.Lib
/-- what is known of numbers of cells -/
structure FlatNums (F K A : List Int) (kc : Nat) : Prop where
  hf : F.length ≤ 1048576
  hk : K.length ≤ maxLen
  ha : A.length ≤ 1048576
  hkc : K.length ≤ kc
  bF : ∀ k, k < F.length → 0 ≤ F.getD k 0 ∧ F.getD k 0 < 4294967296
  bK : ∀ k, k < K.length → 0 ≤ K.getD k 0 ∧ K.getD k 0 < 4294967296
  bA : ∀ k, k < A.length → 0 ≤ A.getD k 0 ∧ A.getD k 0 < 4294967296
theorem backtable_any (FA : Option Addr) (F : List Int) (fc : Nat) (KA : Option Addr) (K : List Int) (kc : Nat) (AA : Option Addr) (A : List Int) (ac : Nat) (w : World) (hX : FlatAt w FA F KA K AA A) (hN : FlatNums F K A kc) :
    Calls Try.prog 14 #[flatV FA F fc KA K kc AA A ac] w (BackRes F K A w) := by
  by_cases h : F.length = 0 ∨ K.length ≠ F.length * A.length
  · refine (backtable_short FA F fc KA K kc AA A ac w hN.hf hN.hk hN.ha h).mono ?_
    rintro e w' ⟨rfl, hb⟩
    refine ⟨hb, fun hr => ?_, fun _ => rfl⟩
    unfold Plain.flatRight at hr
    simp only [Bool.and_eq_true, Bool.not_eq_true', beq_eq_false_iff_ne, beq_iff_eq] at hr
    rcases h with h | h
    · exact absurd h hr.1.1.1
    · exact absurd hr.1.1.2 h
  · exact backtable_long FA F fc KA K kc AA A ac w hX hN.hf hN.hk hN.ha (by omega) (by omega) hN.hkc hN.bF hN.bK hN.bA
set_option maxHeartbeats 1000000 in
theorem rightflat_any (FA : Option Addr) (F : List Int) (fc : Nat) (KA : Option Addr) (K : List Int) (kc : Nat) (AA : Option Addr) (A : List Int) (ac : Nat) (w : World) (hX : FlatAt w FA F KA K AA A) (hN : FlatNums F K A kc) :
    Calls Try.prog 24 #[flatV FA F fc KA K kc AA A ac] w fun e w' => e = .returned (.bool (Plain.flatRight F K A)) ∧ Below w.heap.size w w' := by
  have hB0 : ∀ c t, Below w.heap.size w (w.alloc (.cells c t)) := fun c t => (Below.refl _ _).alloc (Nat.le_refl _) _
  have cB := fun (c : Array Value) (t : TypeId) => backtable_any FA F fc KA K kc AA A ac (w.alloc (.cells c t)) (hX.below (hB0 c t)) hN
  unfold flatV at cB ⊢
  have HC := Lib.hid cB
  have HB0 := Lib.hid hB0
  clear cB hB0 hX hN
  go_enter Try.func24, Try.ntmps24
  go_wp2_with fail
  refine (HC.out _ _).mono ?_
  rintro e w1 ⟨hb, hr, hw⟩
  have hb1 := (HB0.out _ _).trans (hb.mono (by simp))
  have HB := Lib.hid hb1
  clear hb hb1
  cases hv : Plain.flatRight F K A
  · obtain rfl := hw hv
    have HV := Lib.hid hv
    clear hr hw hv
    go_wp2
    go_ret
    exact ⟨ret_bool HV.out.symm, HB.out.alloc HB.out.size _⟩
  · obtain ⟨PA, pc, NA, R, nc, AA', ac', rfl, _, _⟩ := hr hv
    have HV := Lib.hid hv
    clear hr hw hv
    unfold tabV
    go_wp2
    go_ret
    exact ⟨ret_bool HV.out.symm, HB.out.alloc HB.out.size _⟩
end Go.Proofs.Ytbbcdebjkedepaa
namespace Go
end Go
namespace Go.Proofs.Ytbbcdebjkedepaa.Plain
open Go.Lib
end Go.Proofs.Ytbbcdebjkedepaa.Plain
namespace Go.Proofs.Ytbbcdebjkedepaa
open Go.RowKit Go.Lib
end Go.Proofs.Ytbbcdebjkedepaa
namespace Go.Proofs.Ytbbcdebjkedepaa
open Go.RowKit Go.Lib
end Go.Proofs.Ytbbcdebjkedepaa
