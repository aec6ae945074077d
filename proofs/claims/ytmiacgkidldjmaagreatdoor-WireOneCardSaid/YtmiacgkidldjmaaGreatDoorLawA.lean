/- What a right program is; Code.code of chapter 13 of either kind. Conditions: what each lemma says. -/
import Derived.Test.YtmiacgkidldjmaaGreatDoorReachA
import Derived.Test.YtmiacgkidldjmaaGreatDoorOpenP
set_option linter.unusedVariables false
set_option linter.unusedSimpArgs false
namespace Go.Proofs.YtmiacgkidldjmaaGreatDoor
open Go.RowKit Go.Lib
open Plain (Rg May mayB In Norm In4 slotsOf insB bnd riB cls cnot rightB normB goesL Rch cntA RInv small)
theorem i4s_set : ∀ (L : List In4) (k : Nat) (t : In4) (v : Int), L[k]? = some t → i4s (L.set k (t.1, t.2.1, t.2.2.1, v)) = (i4s L).set (k * 4 + 3) (.int .i64 v)
  | [], k, t, v, h => by simp at h
  | u :: L, 0, t, v, h => by
    simp at h
    subst h
    rw [List.set_cons_zero, i4s_cons, i4s_cons]
    rfl
  | u :: L, k + 1, t, v, h => by
    rw [List.set_cons_succ, i4s_cons, i4s_cons, i4s_set L k t v (by simpa using h), show (k + 1) * 4 + 3 = k * 4 + 3 + 1 + 1 + 1 + 1 by omega]
    rfl
theorem sl_set {w : World} {g : Nat} {xs : List Value} (h : CellsAt w g xs) (j : Nat) (hj : j < xs.length) (v : Value) : CellsAt (w.setCell ⟨g, j, none⟩ v) g (xs.set j v) := by
  refine ⟨by simp [World.setCell]; exact h.1, fun i u hu => ?_⟩
  by_cases e : j = i
  · subst e
    rw [List.getElem?_set_self hj] at hu
    have hs : (w.cell? ⟨g, j, none⟩).isSome = true := by rw [h.2 j _ (List.getElem?_eq_getElem hj)]; rfl
    rw [World.cell?_setCell_same _ _ _ (h.2 j _ (List.getElem?_eq_getElem hj))]
    exact hu
  · rw [List.getElem?_set_ne e] at hu
    rw [World.cell?_setCell_other _ _ _ _ (fun e2 => e (by injection e2))]
    exact h.2 i u hu
theorem PgAt.takeK {w : World} {I C : Option Addr} {L : List In4} {K : List Cs} (h : PgAt w I L C K) (n : Nat) : PgAt w I L C (K.take n) :=
  ⟨h.insts, fun hn => by
    have hn' : 0 < (K.map clV).length := by simp at hn ⊢; omega
    obtain ⟨b, off, e, hb, hc⟩ := h.cls hn'
    exact ⟨b, off, e, hb, fun i u hu => hc i u (by rw [List.map_take, List.getElem?_take] at hu; split at hu; exact hu; cases hu)⟩, fun x hx => h.each x (List.mem_of_mem_take hx), h.li, Nat.le_trans (by simp; omega) h.lc⟩
theorem i4s_take (L : List In4) (n : Nat) : i4s (L.take n) = (i4s L).take (n * 4) := by
  induction L generalizing n with
  | nil => simp [i4s]
  | cons t L ih =>
    cases n with
    | zero => simp [i4s]
    | succ n =>
      rw [List.take_succ_cons, i4s_cons, i4s_cons, ih, show (n + 1) * 4 = n * 4 + 1 + 1 + 1 + 1 by omega]
      rfl
theorem PgAt.takeL {w : World} {I C : Option Addr} {L : List In4} {K : List Cs} (h : PgAt w I L C K) (n : Nat) : PgAt w I (L.take n) C K :=
  ⟨fun hn => by
    rw [i4s_take] at hn
    have hn' : 0 < (i4s L).length := by simp at hn ⊢; omega
    obtain ⟨b, off, e, hb, hc⟩ := h.insts hn'
    exact ⟨b, off, e, hb, fun i u hu => hc i u (by rw [i4s_take, List.getElem?_take] at hu; split at hu; exact hu; cases hu)⟩, h.cls, h.each, Nat.le_trans (by simp; omega) h.li, h.lc⟩
end Go.Proofs.YtmiacgkidldjmaaGreatDoor
namespace Go.Proofs.YtmiacgkidldjmaaGreatDoor.Plain
end Go.Proofs.YtmiacgkidldjmaaGreatDoor.Plain
namespace Go.Proofs.YtmiacgkidldjmaaGreatDoor
open Go.RowKit Go.Lib
open Plain (Rg May mayB In Norm In4 slotsOf insB bnd riB cls cnot rightB normB goesL Rch cntA RInv small)
end Go.Proofs.YtmiacgkidldjmaaGreatDoor
namespace Go.Proofs.YtmiacgkidldjmaaGreatDoor.Plain
open Go.Proofs.YtmiacgkidldjmaaGreatDoor
theorem getD_app {L M : List In4} {d : In4} {a : Nat} (h : a < L.length) : (L ++ M).getD a d = L.getD a d := by
  rw [List.getD_eq_getElem?_getD, List.getElem?_append_left h, ← List.getD_eq_getElem?_getD]
/-- where an instruction that may be goes to is a place -/
theorem next_in {n m : Nat} {g : Int} {t : In4} (h : riB n m g t = true) : (∀ z ∈ goesL t, 0 ≤ z ∧ z < n) ∧ (t.1 ≠ 0 → t.2.1 ∈ goesL t) ∧ (t.1 = 2 → t.2.2.1 ∈ goesL t) ∧ (t.1 = 0 ∨ t.1 = 2 ∨ (t.1 = 1 ∨ t.1 = 3 ∨ t.1 = 4 ∨ t.1 = 5)) := by
  obtain ⟨op, x, y, a⟩ := t
  unfold riB at h
  simp only [Bool.and_eq_true, decide_eq_true_eq] at h
  obtain ⟨⟨⟨⟨h0, h1⟩, h2⟩, h3⟩, h4⟩ := h
  have hop : op = 0 ∨ op = 1 ∨ op = 2 ∨ op = 3 ∨ op = 4 ∨ op = 5 := by omega
  unfold insB at h2 h3
  simp only [Bool.and_eq_true, decide_eq_true_eq] at h2 h3
  rcases hop with rfl | rfl | rfl | rfl | rfl | rfl <;> simp [goesL, bnd] at * <;> omega
def jmp : In4 := (3, 0, 0, 0)
theorem rch_app {L : List In4} {m : Nat} {g : Int} (h0 : 0 < L.length) (hr : ∀ t ∈ L, riB L.length m g t = true) (k : Nat) : Rch (L ++ [jmp]) k ↔ k < L.length ∧ Rch L k := by
  constructor
  · intro h
    refine h.2 (fun a => a < L.length ∧ Rch L a) ⟨h0, Rch.zero h0⟩ (fun a b ha hs hb hn => ?_)
    rw [getD_app hs.1] at hn
    have hin := (next_in (hr (L.getD a (0, 0, 0, 0)) (by rw [getD_lt L _ a hs.1]; exact List.getElem_mem _))).1 _ hn
    have hbl : b < L.length := by omega
    exact ⟨hbl, hs.2.step hbl hn⟩
  · rintro ⟨hk, h⟩
    refine h.2 (fun a => Rch (L ++ [jmp]) a) (Rch.zero (by simp)) (fun a b ha hs hb hn => ?_)
    exact hs.step (by simp; omega) (by rw [getD_app ha]; exact hn)
end Go.Proofs.YtmiacgkidldjmaaGreatDoor.Plain
namespace Go.Proofs.YtmiacgkidldjmaaGreatDoor
open Go.RowKit Go.Lib
open Plain (Rg May mayB In Norm In4 slotsOf insB bnd riB cls cnot rightB normB goesL Rch cntA RInv small jmp)
theorem pgR_facts {L : List In4} {K : List Cs} {g : Int} (h : pgR L K g = true) : 0 < L.length ∧ L.length ≤ 512 ∧ (∀ t ∈ L, riB L.length K.length g t = true) ∧ K.length ≤ 64 ∧ 0 ≤ g ∧ g ≤ 8 := by
  unfold pgR at h
  simp only [Bool.and_eq_true, decide_eq_true_eq, Bool.not_eq_true'] at h
  obtain ⟨⟨⟨⟨⟨⟨h1, h2⟩, h3⟩, h4⟩, h5⟩, h6⟩, h7⟩ := h
  refine ⟨h1, h2, fun t ht => ?_, h3, h4, h5⟩
  rw [List.any_eq_false] at h6
  have := h6 t ht
  simpa using this
def CodeAny (PL : List In4) (PK : List Cs) (pg : Int) (w : World) (e : Ending) (w' : World) : Prop :=
  ∃ (I C : Option Addr) (L : List In4) (K : List Cs) (c d : Nat) (g : Int), e = .returned (pgV I L.length c C K.length d g) ∧ PgAt w' I L C K ∧ Below w.heap.size w w' ∧ (∀ t ∈ L, In64 t) ∧ Int64 g ∧ (L = PL ∨ L.length ≤ 15)
set_option maxRecDepth 100000 in
set_option maxHeartbeats 2000000 in
theorem code_not (PI PC LA : Option Addr) (pi pic pc pcc n lc : Nat) (pg g : Int) (w : World) :
    Calls Tryz.prog 15 #[.agg #[.slice PI pi pic, .slice PC pc pcc, .int .i64 pg, .bool false, .slice LA n lc, .int .u8 g]] w fun e w' => e = .returned (.agg #[.slice PI pi pic, .slice PC pc pcc, .int .i64 pg]) ∧ Below w.heap.size w w' := by
  go_enter Tryz.func15, Tryz.ntmps15
  go_wp2_with fail
  obtain ⟨m0, m1, m2⟩ := blk_cells3 (heap_alloc_new2 (w.alloc (.cells #[.slice PI pi pic, .slice PC pc pcc, .int .i64 pg, .bool false, .slice LA n lc, .int .u8 g] 28)) (.cells #[.slice PI pi pic, .slice PC pc pcc, .int .i64 pg] 25) (w.heap.size + 1) _ (by simp))
  exact bodyPost_ret (v := .agg #[.slice PI pi pic, .slice PC pc pcc, .int .i64 pg]) (by simp [results, Tryz.results15, go_sem, m0, m1, m2]) rfl ⟨rfl, ((Below.refl _ _).alloc (Nat.le_refl _) _).alloc (by simp) _⟩
theorem small_in64 {t : In4} (h : small t) : In64 t := by
  obtain ⟨⟨a, b⟩, ⟨c, d⟩, ⟨e, f⟩, g, i⟩ := h
  exact ⟨⟨by omega, by omega⟩, ⟨by omega, by omega⟩, ⟨by omega, by omega⟩, by omega, by omega⟩
theorem code_any (PI PC LA : Option Addr) (PL : List In4) (PK : List Cs) (pic pcc lc : Nat) (pg : Int) (own : Bool) (L : List Int) (g : Int) (W w : World) (hC : CodeAt W PI PL PC PK pg LA L g) (hb : Below W.heap.size W w) :
    Calls Tryz.prog 15 #[.agg #[.slice PI PL.length pic, .slice PC PK.length pcc, .int .i64 pg, .bool own, .slice LA L.length lc, .int .u8 g]] w (CodeAny PL PK pg w) := by
  cases own
  · refine (code_not PI PC LA PL.length pic PK.length pcc L.length lc pg g w).mono ?_
    rintro e w' ⟨rfl, hbb⟩
    exact ⟨PI, PC, PL, PK, pic, pcc, pg, rfl, (hC.p.below hb).below hbb, hbb, hC.wide, hC.gw, .inl rfl⟩
  · refine (code_own PI PC LA PL.length pic PK.length pcc lc pg g L w hC.g0 hC.g1 (hC.l.below hb) hC.ll hC.lb).mono ?_
    rintro e w' ⟨I, c, gc, K, rfl, hO, hP, hK, hbb⟩
    have hk := (codeK_ok K hK).1
    refine ⟨I, some ⟨gc, 0, none⟩, codeLn L g, K, c, 3, g % 3, by rw [hk], hP, hbb, fun t ht => small_in64 (codeLn_mem L g hC.g0 hC.lb t ht).1, ?_, .inr (by rw [codeLn_len]; omega)⟩
    have := hC.g0
    have := hC.g1
    exact ⟨by omega, by omega⟩
end Go.Proofs.YtmiacgkidldjmaaGreatDoor
