/- What a right program is; Code.code of either kind. Conditions: what each lemma says. -/
import Derived.Test.YtpeheppiolfpfaaDoorLawA
set_option linter.unusedVariables false
set_option linter.unusedSimpArgs false
namespace Go.Proofs.YtpeheppiolfpfaaDoor.Plain
open Go.Proofs.YtpeheppiolfpfaaDoor
theorem getD_app {L M : List In4} {d : In4} {a : Nat} (h : a < L.length) : (L ++ M).getD a d = L.getD a d := by
  rw [List.getD_eq_getElem?_getD, List.getElem?_append_left h, ← List.getD_eq_getElem?_getD]
/-- where an instruction that may be goes to is a place -/
theorem next_in {n m : Nat} {g : Int} {t : In4} (h : riB n m g t = true) : (∀ z ∈ nextL t, 0 ≤ z ∧ z < n) ∧ (t.1 ≠ 0 → t.2.1 ∈ nextL t) ∧ (t.1 = 2 → t.2.2.1 ∈ nextL t) ∧ (t.1 = 0 ∨ t.1 = 2 ∨ (t.1 = 1 ∨ t.1 = 3 ∨ t.1 = 4 ∨ t.1 = 5)) := by
  obtain ⟨op, x, y, a⟩ := t
  unfold riB at h
  simp only [Bool.and_eq_true, decide_eq_true_eq] at h
  obtain ⟨⟨⟨⟨h0, h1⟩, h2⟩, h3⟩, h4⟩ := h
  have hop : op = 0 ∨ op = 1 ∨ op = 2 ∨ op = 3 ∨ op = 4 ∨ op = 5 := by omega
  unfold insB at h2 h3
  simp only [Bool.and_eq_true, decide_eq_true_eq] at h2 h3
  rcases hop with rfl | rfl | rfl | rfl | rfl | rfl <;> simp [nextL, bnd] at * <;> omega
def jmp : In4 := (3, 0, 0, 0)
theorem rch_app {L : List In4} {m : Nat} {g : Int} (h0 : 0 < L.length) (hr : ∀ t ∈ L, riB L.length m g t = true) (k : Nat) : Rch (L ++ [jmp]) k ↔ k < L.length ∧ Rch L k := by
  constructor
  · intro h
    refine h.2 (fun a => a < L.length ∧ Rch L a) ⟨h0, Rch.zero h0⟩ (fun a b ha hs hb hn => ?_)
    rw [getD_app hs.1] at hn
    have hin := (next_in (hr (L.getD a (0, 0, 0, 0)) (by rw [getD_lt L _ a hs.1]; exact List.getElem_mem _))).1 _ hn
    have hbl : b < L.length := by omega
    exact ⟨hbl, hs.2.step hbl hn⟩
  · rintro ⟨hk, h⟩
    refine h.2 (fun a => Rch (L ++ [jmp]) a) (Rch.zero (by simp)) (fun a b ha hs hb hn => ?_)
    exact hs.step (by simp; omega) (by rw [getD_app ha]; exact hn)
end Go.Proofs.YtpeheppiolfpfaaDoor.Plain
namespace Go.Proofs.YtpeheppiolfpfaaDoor
open Go.RowKit Go.Lib
open Plain (Rg May mayB In Norm In4 slotsOf insB bnd riB cls cnot rightB normB nextL Rch cntA RInv small putL lineL jmp)
theorem pgR_facts {L : List In4} {K : List Cs} {g : Int} (h : pgR L K g = true) : 0 < L.length ∧ L.length ≤ 512 ∧ (∀ t ∈ L, riB L.length K.length g t = true) ∧ K.length ≤ 64 ∧ 0 ≤ g ∧ g ≤ 8 := by
  unfold pgR at h
  simp only [Bool.and_eq_true, decide_eq_true_eq, Bool.not_eq_true'] at h
  obtain ⟨⟨⟨⟨⟨⟨h1, h2⟩, h3⟩, h4⟩, h5⟩, h6⟩, h7⟩ := h
  refine ⟨h1, h2, fun t ht => ?_, h3, h4, h5⟩
  rw [List.any_eq_false] at h6
  have := h6 t ht
  simpa using this
def CodeAny (PL : List In4) (PK : List Cs) (pg : Int) (w : World) (e : Ending) (w' : World) : Prop :=
  ∃ (I C : Option Addr) (L : List In4) (K : List Cs) (c d : Nat) (g : Int), e = .returned (pgV I L.length c C K.length d g) ∧ PgAt w' I L C K ∧ Below w.heap.size w w' ∧ (∀ t ∈ L, In64 t) ∧ Int64 g ∧ (L = PL ∨ L.length ≤ 15)
set_option maxRecDepth 100000 in
set_option maxHeartbeats 2000000 in
theorem code_not (PI PC LA : Option Addr) (pi pic pc pcc n lc : Nat) (pg g : Int) (w : World) :
    Calls Tryd.prog 10 #[.agg #[.slice PI pi pic, .slice PC pc pcc, .int .i64 pg, .bool false, .slice LA n lc, .int .u8 g]] w fun e w' => e = .returned (.agg #[.slice PI pi pic, .slice PC pc pcc, .int .i64 pg]) ∧ Below w.heap.size w w' := by
  go_enter Tryd.func10, Tryd.ntmps10
  go_wp2_with fail
  obtain ⟨m0, m1, m2⟩ := blk_cells3 (heap_alloc_new2 (w.alloc (.cells #[.slice PI pi pic, .slice PC pc pcc, .int .i64 pg, .bool false, .slice LA n lc, .int .u8 g] 28)) (.cells #[.slice PI pi pic, .slice PC pc pcc, .int .i64 pg] 25) (w.heap.size + 1) _ (by simp))
  exact bodyPost_ret (v := .agg #[.slice PI pi pic, .slice PC pc pcc, .int .i64 pg]) (by simp [results, Tryd.results10, go_sem, m0, m1, m2]) rfl ⟨rfl, ((Below.refl _ _).alloc (Nat.le_refl _) _).alloc (by simp) _⟩
theorem small_in64 {t : In4} (h : small t) : In64 t := by
  obtain ⟨⟨a, b⟩, ⟨c, d⟩, ⟨e, f⟩, g, i⟩ := h
  exact ⟨⟨by omega, by omega⟩, ⟨by omega, by omega⟩, ⟨by omega, by omega⟩, by omega, by omega⟩
theorem code_any (PI PC LA : Option Addr) (PL : List In4) (PK : List Cs) (pic pcc lc : Nat) (pg : Int) (own : Bool) (L : List Int) (g : Int) (W w : World) (hC : CodeAt W PI PL PC PK pg LA L g) (hb : Below W.heap.size W w) :
    Calls Tryd.prog 10 #[.agg #[.slice PI PL.length pic, .slice PC PK.length pcc, .int .i64 pg, .bool own, .slice LA L.length lc, .int .u8 g]] w (CodeAny PL PK pg w) := by
  cases own
  · refine (code_not PI PC LA PL.length pic PK.length pcc L.length lc pg g w).mono ?_
    rintro e w' ⟨rfl, hbb⟩
    exact ⟨PI, PC, PL, PK, pic, pcc, pg, rfl, (hC.p.below hb).below hbb, hbb, hC.wide, hC.gw, .inl rfl⟩
  · refine (code_own PI PC LA PL.length pic PK.length pcc lc pg g L w hC.g0 hC.g1 (hC.l.below hb) hC.ll hC.lb).mono ?_
    rintro e w' ⟨I, c, gc, K, rfl, hO, hP, hK, hbb⟩
    have hk := (codeK_ok K hK).1
    refine ⟨I, some ⟨gc, 0, none⟩, codeLn L g, K, c, 3, g % 3, by rw [hk], hP, hbb, fun t ht => small_in64 (codeLn_mem L g hC.g0 hC.lb t ht).1, ?_, .inr (by rw [codeLn_len]; omega)⟩
    have := hC.g0
    have := hC.g1
    exact ⟨by omega, by omega⟩
end Go.Proofs.YtpeheppiolfpfaaDoor
