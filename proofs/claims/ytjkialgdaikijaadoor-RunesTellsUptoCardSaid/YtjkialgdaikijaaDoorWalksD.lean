/- A slice of bytes that came in, in the walks' words. Conditions: none but what is said. -/
import Derived.Test.YtjkialgdaikijaaDoorWalksC
namespace Go.Proofs.YtjkialgdaikijaaDoor
open Go.RowKit Go.Lib
/-- what is told of a slice of bytes that came in gives what the walk asks -/
theorem bts_of (a : Option Addr) (len cap : Nat) (zs : List Int) (w : World) (h : (a = none ∧ len = 0 ∧ cap = 0 ∧ zs = []) ∨
    ∃ x, a = some x ∧ len ≤ cap ∧ cap ≤ maxLen ∧ zs.length = cap ∧ (∀ i, i < zs.length → w.cell? (x.add i) = some (.int .u8 (zs.getD i 0))) ∧ ∀ n ∈ zs, (Lit.int .u8 n).wf = true) :
    Bts w a len (fun i => zs.getD i 0) ∧ len ≤ maxLen := by
  rcases h with ⟨rfl, rfl, rfl, rfl⟩ | ⟨x, rfl, hl, hm, hz, hcell, hwz⟩
  · exact ⟨⟨fun h => absurd h (by omega), fun i h => absurd h (by omega)⟩, Nat.zero_le _⟩
  · refine ⟨⟨fun hn => ?_, fun i hi => ?_⟩, Nat.le_trans hl hm⟩
    · obtain ⟨b, off, spot⟩ := x
      have hc := hcell 0 (by omega)
      have hspot : spot = none := by simpa [Addr.add] using World.cell?_spot hc
      subst hspot
      have hadd : ∀ i, (⟨b, off, none⟩ : Addr).add i = ⟨b, off + i, none⟩ := fun i => by unfold Addr.add; split <;> simp_all
      refine ⟨b, off, rfl, ?_, fun i hi => by rw [← hadd]; exact hcell i (by omega)⟩
      have := block_lt_of_cell hc
      simpa [Addr.add] using this
    · have e : zs.getD i 0 = zs[i]'(by omega) := by simp [List.getD, List.getElem?_eq_getElem (show i < zs.length by omega)]
      have := hwz _ (List.getElem_mem (show i < zs.length by omega))
      simp only [e]
      simp [Lit.wf, IntKind.min, IntKind.max, IntKind.bits, IntKind.signed] at this
      omega
end Go.Proofs.YtjkialgdaikijaaDoor
