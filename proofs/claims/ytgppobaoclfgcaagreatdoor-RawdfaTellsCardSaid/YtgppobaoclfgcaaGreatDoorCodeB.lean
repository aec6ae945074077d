/- code: any of it. Conditions: what each lemma says. -/
import Derived.Test.YtgppobaoclfgcaaGreatDoorCodeA
import Derived.Test.YtgppobaoclfgcaaGreatDoorDfaG
import Derived.Deep.CutBlock
set_option linter.unusedVariables false
set_option linter.unusedSimpArgs false
namespace Go.Proofs.YtgppobaoclfgcaaGreatDoor
open Go.RowKit Go.Lib
open Plain (In4)
theorem code_not (PI PC LA : Option Addr) (pi pic pc pcc n lc : Nat) (pg g : Int) (w : World) :
    Calls Tryz.prog 7 #[.agg #[.slice PI pi pic, .slice PC pc pcc, .int .i64 pg, .bool false, .slice LA n lc, .int .u8 g]] w fun e w' => e = .returned (.agg #[.slice PI pi pic, .slice PC pc pcc, .int .i64 pg]) ∧ Below w.heap.size w w' := by
  go_enter Tryz.func7, Tryz.ntmps7
  go_wp2_with fail
  obtain ⟨m0, m1, m2⟩ := blk_cells3 (heap_alloc_new2 (w.alloc (.cells #[.slice PI pi pic, .slice PC pc pcc, .int .i64 pg, .bool false, .slice LA n lc, .int .u8 g] 37)) (.cells #[.slice PI pi pic, .slice PC pc pcc, .int .i64 pg] 34) (w.heap.size + 1) _ (by simp))
  exact bodyPost_ret (v := .agg #[.slice PI pi pic, .slice PC pc pcc, .int .i64 pg]) (by simp [results, Tryz.results7, go_sem, m0, m1, m2]) rfl ⟨rfl, ((Below.refl _ _).alloc (Nat.le_refl _) _).alloc (by simp) _⟩
def CodeAny (w : World) (e : Ending) (w' : World) : Prop :=
  ∃ (I C : Option Addr) (L : List In4) (K : List Cs) (c d : Nat) (g : Int), e = .returned (pgV I L.length c C K.length d g) ∧ PgAt w' I L C K ∧ Below w.heap.size w w'
theorem code_any (PI PC LA : Option Addr) (PL : List In4) (PK : List Cs) (pic pcc lc : Nat) (pg : Int) (own : Bool) (L : List Int) (g : Int) (w : World) (hP : PgAt w PI PL PC PK) (hg0 : 0 ≤ g) (hg1 : g < 256) (hL : Sl w LA (L.map (Value.int .u16))) (hn : L.length ≤ maxLen) (hX : ∀ k, k < L.length → 0 ≤ L.getD k 0 ∧ L.getD k 0 < 65536) :
    Calls Tryz.prog 7 #[.agg #[.slice PI PL.length pic, .slice PC PK.length pcc, .int .i64 pg, .bool own, .slice LA L.length lc, .int .u8 g]] w (CodeAny w) := by
  cases own
  · refine (code_not PI PC LA PL.length pic PK.length pcc L.length lc pg g w).mono ?_
    rintro e w' ⟨rfl, hbb⟩
    exact ⟨PI, PC, PL, PK, pic, pcc, pg, rfl, hP.below hbb, hbb⟩
  · refine (code_own PI PC LA PL.length pic PK.length pcc lc pg g L w hg0 hg1 hL hn hX).mono ?_
    rintro e w' ⟨I, c, gc, K, rfl, hO, hP, hK, hbb⟩
    have hk : K.length = 3 := by have := congrArg List.length hK; simpa using this
    exact ⟨I, some ⟨gc, 0, none⟩, codeLn L g, K, c, 3, g % 3, by rw [hk], hP, hbb⟩
end Go.Proofs.YtgppobaoclfgcaaGreatDoor
