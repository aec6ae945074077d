/- Chapter 8: slices of instructions and of classes. Conditions: what each lemma says. -/
import Derived.Test.YtgppobaoclfgcaaGreatDoorI4
import Derived.Test.YtgppobaoclfgcaaGreatDoorClassI
import Derived.Test.YtgppobaoclfgcaaGreatDoorRegT
import Derived.Deep.QuietTactic
set_option linter.unusedVariables false
set_option linter.unusedSimpArgs false
namespace Go.Proofs.YtgppobaoclfgcaaGreatDoor
open Go.RowKit Go.Lib
open Plain (Rg May mayB In Norm In4 slotsOf insB bnd riB cls cnot rightB normB)
structure Cs where
  A : Option Addr
  c : Nat
  R : List Rg
def clV (x : Cs) : Value := .slice x.A x.R.length x.c
/-- the closure 'wrong': not right in the program that lies in its box -/
theorem wrong_any (t : In4) (b : Nat) (I C : Option Addr) (n c m d : Nat) (g : Int) (w : World) (hb : b < w.heap.size)
    (h0 : w.cell? ⟨b, 0, none⟩ = some (.slice I n c)) (h1 : w.cell? ⟨b, 1, none⟩ = some (.slice C m d)) (h2 : w.cell? ⟨b, 2, none⟩ = some (.int .i64 g)) :
    Calls Tryz.prog 28 #[i4V t, .pointer (some ⟨b, 0, none⟩)] w fun e w' => e = .returned (.bool (!riB n m g t)) ∧ Below w.heap.size w w' := by
  have CR := Lib.hid (fun W => rightInst_any I C n c m d g t W)
  obtain ⟨q, hq⟩ : ∃ q, riB n m g t = q := ⟨_, rfl⟩
  rw [hq] at CR ⊢
  obtain ⟨op, x, y, ar⟩ := t
  unfold i4V pgV at CR
  unfold i4V
  dsimp only at CR ⊢
  clear hq
  have e0 : (w.alloc (.cells #[.int .i64 op, .int .i64 x, .int .i64 y, .int .i64 ar] 77)).cell? ⟨b, 0, none⟩ = some (.slice I n c) := (((Below.refl _ _).alloc (Nat.le_refl _) _).cell (p := ⟨b, 0, none⟩) hb).trans h0
  have e1 : (w.alloc (.cells #[.int .i64 op, .int .i64 x, .int .i64 y, .int .i64 ar] 77)).cell? ⟨b, 1, none⟩ = some (.slice C m d) := (((Below.refl _ _).alloc (Nat.le_refl _) _).cell (p := ⟨b, 1, none⟩) hb).trans h1
  have e2 : (w.alloc (.cells #[.int .i64 op, .int .i64 x, .int .i64 y, .int .i64 ar] 77)).cell? ⟨b, 2, none⟩ = some (.int .i64 g) := (((Below.refl _ _).alloc (Nat.le_refl _) _).cell (p := ⟨b, 2, none⟩) hb).trans h2
  go_enter Tryz.func28, Tryz.ntmps28
  go_wp2_with fail
  refine (CR.out _).mono ?_
  rintro e w1 ⟨rfl, hb1⟩
  go_wp2_with fail
  go_ret
  exact ⟨rfl, below_then ((Below.refl _ _).alloc (Nat.le_refl _) _) hb1⟩
def badB (R : List Rg) : Bool := R.length == 0 || !rightB R
theorem bad_any (x : Cs) (w : World) (hX : Rs w x.A x.R) (hn : x.R.length ≤ maxLen) :
    Calls Tryz.prog 30 #[clV x] w fun e w' => e = .returned (.bool (badB x.R)) ∧ Below w.heap.size w w' := by
  obtain ⟨A, c, R⟩ := x
  unfold clV badB
  dsimp only at hX hn ⊢
  obtain ⟨n, hN⟩ : ∃ n, R.length = n := ⟨_, rfl⟩
  have CR := Lib.hid (right_any R A n c w hX hN (by rw [← hN]; exact hn))
  rw [hN] at hn ⊢
  unfold maxLen at hn
  obtain ⟨q, hq⟩ : ∃ q, rightB R = q := ⟨_, rfl⟩
  have hqi := Plain.rightB_iff R
  rw [hq] at hqi ⊢
  have HQ := Lib.hid hqi
  obtain ⟨res, hres⟩ : ∃ b, (n == 0 || !q) = b := ⟨_, rfl⟩
  rw [hres]
  have HRES := Lib.hid hres
  clear hqi hX hN hres hq
  by_cases h0 : n = 0
  · subst h0
    go_enter Tryz.func30, Tryz.ntmps30
    go_wp2_with fail
    go_ret
    exact ⟨ret_bool (by rw [← HRES.out]; simp), Below.refl _ _⟩
  · have e0 : ((n : Int) == 0) = false := by simp; omega
    go_enter Tryz.func30, Tryz.ntmps30
    go_wp2_with fail
    refine CR.out.mono ?_
    rintro e w1 ⟨b, rfl, hb, hb1⟩
    have hbq : b = q := Bool.eq_iff_iff.2 (hb.trans HQ.out.symm)
    subst hbq
    go_wp2_with fail
    go_ret
    exact ⟨ret_bool (by rw [← HRES.out, show (n == 0) = false by simp; omega]; rfl), hb1⟩
end Go.Proofs.YtgppobaoclfgcaaGreatDoor
namespace Go.Proofs.YtgppobaoclfgcaaGreatDoor
open Go.RowKit Go.Lib
open Plain (Rg May mayB In Norm In4 slotsOf insB bnd riB cls cnot rightB normB)
set_option maxRecDepth 100000 in
set_option maxHeartbeats 1000000 in
theorem idx52_any (L : List In4) (A : Option Addr) (cap b : Nat) (I C : Option Addr) (n c m d : Nat) (g : Int) (w : World) (hX : Sl w A (i4s L)) (hn : L.length ≤ maxLen) (hb : b < w.heap.size)
    (h0 : w.cell? ⟨b, 0, none⟩ = some (.slice I n c)) (h1 : w.cell? ⟨b, 1, none⟩ = some (.slice C m d)) (h2 : w.cell? ⟨b, 2, none⟩ = some (.int .i64 g)) :
    Calls Tryz.prog 58 #[.slice A L.length cap, .func (Fn.func 28) #[] #[.pointer (some ⟨b, 0, none⟩)]] w fun e w' => e = .returned (.int .i64 (Plain.idx (fun t => !riB n m g t) L)) ∧ Below w.heap.size w w' := by
  unfold maxLen at hn
  obtain ⟨z, hN⟩ : ∃ n, L.length = n := ⟨_, rfl⟩
  have HX := Lib.hid hX
  have HNN := Lib.hid hN
  have HC0 := Lib.hid h0
  have HC1 := Lib.hid h1
  have HC2 := Lib.hid h2
  rw [hN] at hn ⊢
  clear hX hN h0 h1 h2
  go_enter Tryz.func58, Tryz.ntmps58
  go_wp2
  go_loopw [5, 8] (fun _ i wr => ∃ k : Nat, k ≤ z ∧ i = .int .i64 k ∧ Hid (∀ j, j < k → (!riB n m g (L.getD j (0, 0, 0, 0))) = false) ∧ Below w.heap.size w wr) (fun _ i _ => z - (RowKit.intOf i).toNat)
  case atStart => exact ⟨0, Nat.zero_le _, rfl, Lib.hid (fun j h => absurd h (by omega)), Below.refl _ _⟩
  case round =>
    obtain ⟨k, hk, rfl, HA, hB⟩ := hrel
    by_cases hlt : k < z
    · have hkl : k < L.length := by rw [HNN.out]; exact hlt
      obtain ⟨ba, off, rfl, hba, c0, c1, c2, c3⟩ := i4_at (HX.out.below hB) k hkl
      obtain ⟨t, ht⟩ : ∃ t, L[k] = t := ⟨_, rfl⟩
      have hgd : L.getD k (0, 0, 0, 0) = t := by rw [List.getD_eq_getElem?_getD, List.getElem?_eq_getElem hkl, ht]; rfl
      rw [ht] at c0 c1 c2 c3
      have cS := wrong_any t b I C n c m d g wr (Nat.lt_of_lt_of_le hb hB.size) ((hB.cell (p := ⟨b, 0, none⟩) hb).trans HC0.out) ((hB.cell (p := ⟨b, 1, none⟩) hb).trans HC1.out) ((hB.cell (p := ⟨b, 2, none⟩) hb).trans HC2.out)
      obtain ⟨q, hq⟩ : ∃ q, (!riB n m g t) = q := ⟨_, rfl⟩
      rw [hq] at cS
      rw [← hgd] at hq
      obtain ⟨op, x, y, ar⟩ := t
      unfold i4V at cS
      dsimp only at c0 c1 c2 c3 cS
      have HQ := Lib.hid hq
      have HS := Lib.hid cS
      clear hq cS ht hgd
      cases q
      · go_wp2_with (go_at_call 28; refine HS.out.mono ?_; rintro e w' ⟨rfl, hb1⟩)
        go_roundw
        case rel =>
          refine ⟨k + 1, by omega, by go_num, Lib.hid (fun j hjk => ?_), hB.trans ((by assumption : Below wr.heap.size wr _).mono hB.size)⟩
          rcases Nat.lt_or_ge j k with h | h
          · exact HA.out j h
          · obtain rfl : j = k := by omega
            exact HQ.out
        case measure => simp [RowKit.intOf]; omega
      · have hv := Plain.idx_some (fun t => !riB n m g t) L (0, 0, 0, 0) k hkl HA.out HQ.out
        have HV := Lib.hid hv
        clear hv
        go_wp2_with (go_at_call 28; refine HS.out.mono ?_; rintro e w' ⟨rfl, hb1⟩)
        go_ret
        exact ⟨ret_int HV.out.symm, hB.trans ((by assumption : Below wr.heap.size wr _).mono hB.size)⟩
    · obtain rfl : z = k := by omega
      have hv := Plain.idx_none (fun t => !riB n m g t) L (0, 0, 0, 0) (fun j hj => HA.out j (by rw [← HNN.out]; exact hj))
      have HV := Lib.hid hv
      clear hv
      go_wp2
      go_ret
      exact ⟨ret_int HV.out.symm, hB⟩
theorem has31_any (L : List In4) (A : Option Addr) (cap b : Nat) (I C : Option Addr) (n c m d : Nat) (g : Int) (w : World) (hX : Sl w A (i4s L)) (hn : L.length ≤ maxLen) (hb : b < w.heap.size)
    (h0 : w.cell? ⟨b, 0, none⟩ = some (.slice I n c)) (h1 : w.cell? ⟨b, 1, none⟩ = some (.slice C m d)) (h2 : w.cell? ⟨b, 2, none⟩ = some (.int .i64 g)) :
    Calls Tryz.prog 32 #[.slice A L.length cap, .func (Fn.func 28) #[] #[.pointer (some ⟨b, 0, none⟩)]] w fun e w' => e = .returned (.bool (L.any fun t => !riB n m g t)) ∧ Below w.heap.size w w' := by
  have cS := idx52_any L A cap b I C n c m d g w hX hn hb h0 h1 h2
  have hge := Plain.idx_ge (fun t => !riB n m g t) L
  obtain ⟨z, hz⟩ : ∃ z, Plain.idx (fun t => !riB n m g t) L = z := ⟨_, rfl⟩
  rw [hz] at cS hge
  rw [← hge]
  have HS := Lib.hid cS
  clear cS hge hz hX h0 h1 h2
  go_enter Tryz.func32, Tryz.ntmps32
  go_wp2_with (go_at_call 58; refine HS.out.mono ?_; rintro e w' ⟨rfl, hb1⟩)
  go_ret
  exact ⟨rfl, by assumption⟩
theorem cs_at {w : World} {A : Option Addr} {K : List Cs} (h : Sl w A (K.map clV)) (k : Nat) (hk : k < K.length) : ∃ b off, A = some ⟨b, off, none⟩ ∧ b < w.heap.size ∧ w.cell? ⟨b, off + k, none⟩ = some (clV K[k]) := by
  obtain ⟨b, off, e, hb, hc⟩ := h (by rw [List.length_map]; omega)
  exact ⟨b, off, e, hb, hc k _ (by rw [List.getElem?_map, List.getElem?_eq_getElem hk]; rfl)⟩
def csD : Cs := ⟨none, 0, []⟩
set_option maxRecDepth 100000 in
set_option maxHeartbeats 1000000 in
theorem idx53_any (K : List Cs) (A : Option Addr) (cap : Nat) (w : World) (hX : Sl w A (K.map clV)) (hn : K.length ≤ maxLen) (hR : ∀ x ∈ K, Rs w x.A x.R ∧ x.R.length ≤ maxLen) :
    Calls Tryz.prog 59 #[.slice A K.length cap, .func (Fn.func 30) #[] #[]] w fun e w' => e = .returned (.int .i64 (Plain.idx (fun x => badB x.R) K)) ∧ Below w.heap.size w w' := by
  unfold maxLen at hn
  obtain ⟨z, hN⟩ : ∃ n, K.length = n := ⟨_, rfl⟩
  have HX := Lib.hid hX
  have HNN := Lib.hid hN
  have HR := Lib.hid hR
  rw [hN] at hn ⊢
  clear hX hN hR
  go_enter Tryz.func59, Tryz.ntmps59
  go_wp2
  go_loopw [5, 8] (fun _ i wr => ∃ k : Nat, k ≤ z ∧ i = .int .i64 k ∧ Hid (∀ j, j < k → badB (K.getD j csD).R = false) ∧ Below w.heap.size w wr) (fun _ i _ => z - (RowKit.intOf i).toNat)
  case atStart => exact ⟨0, Nat.zero_le _, rfl, Lib.hid (fun j h => absurd h (by omega)), Below.refl _ _⟩
  case round =>
    obtain ⟨k, hk, rfl, HA, hB⟩ := hrel
    by_cases hlt : k < z
    · have hkl : k < K.length := by rw [HNN.out]; exact hlt
      obtain ⟨ba, off, rfl, hba, c0⟩ := cs_at (HX.out.below hB) k hkl
      have hrk := HR.out K[k] (List.getElem_mem hkl)
      obtain ⟨t, ht⟩ : ∃ t, K[k] = t := ⟨_, rfl⟩
      have hgd : K.getD k csD = t := by rw [List.getD_eq_getElem?_getD, List.getElem?_eq_getElem hkl, ht]; rfl
      rw [ht] at c0 hrk
      have cS := bad_any t wr (hrk.1.below hB) hrk.2
      obtain ⟨q, hq⟩ : ∃ q, badB t.R = q := ⟨_, rfl⟩
      rw [hq] at cS
      rw [← hgd] at hq
      obtain ⟨v, hv⟩ : ∃ v, clV t = v := ⟨_, rfl⟩
      rw [hv] at cS c0
      have HQ := Lib.hid hq
      have HS := Lib.hid cS
      clear hq cS ht hgd hv hrk
      cases q
      · go_wp2_with (go_at_call 30; refine HS.out.mono ?_; rintro e w' ⟨rfl, hb1⟩)
        go_roundw
        case rel =>
          refine ⟨k + 1, by omega, by go_num, Lib.hid (fun j hjk => ?_), hB.trans ((by assumption : Below wr.heap.size wr _).mono hB.size)⟩
          rcases Nat.lt_or_ge j k with h | h
          · exact HA.out j h
          · obtain rfl : j = k := by omega
            exact HQ.out
        case measure => simp [RowKit.intOf]; omega
      · have hv := Plain.idx_some (fun x : Cs => badB x.R) K csD k hkl HA.out HQ.out
        have HV := Lib.hid hv
        clear hv
        go_wp2_with (go_at_call 30; refine HS.out.mono ?_; rintro e w' ⟨rfl, hb1⟩)
        go_ret
        exact ⟨ret_int HV.out.symm, hB.trans ((by assumption : Below wr.heap.size wr _).mono hB.size)⟩
    · obtain rfl : z = k := by omega
      have hv := Plain.idx_none (fun x : Cs => badB x.R) K csD (fun j hj => HA.out j (by rw [← HNN.out]; exact hj))
      have HV := Lib.hid hv
      clear hv
      go_wp2
      go_ret
      exact ⟨ret_int HV.out.symm, hB⟩
theorem has32_any (K : List Cs) (A : Option Addr) (cap : Nat) (w : World) (hX : Sl w A (K.map clV)) (hn : K.length ≤ maxLen) (hR : ∀ x ∈ K, Rs w x.A x.R ∧ x.R.length ≤ maxLen) :
    Calls Tryz.prog 33 #[.slice A K.length cap, .func (Fn.func 30) #[] #[]] w fun e w' => e = .returned (.bool (K.any fun x => badB x.R)) ∧ Below w.heap.size w w' := by
  have cS := idx53_any K A cap w hX hn hR
  have hge := Plain.idx_ge (fun x : Cs => badB x.R) K
  obtain ⟨z, hz⟩ : ∃ z, Plain.idx (fun x : Cs => badB x.R) K = z := ⟨_, rfl⟩
  rw [hz] at cS hge
  rw [← hge]
  have HS := Lib.hid cS
  clear cS hge hz hX hR
  go_enter Tryz.func33, Tryz.ntmps33
  go_wp2_with (go_at_call 59; refine HS.out.mono ?_; rintro e w' ⟨rfl, hb1⟩)
  go_ret
  exact ⟨rfl, by assumption⟩
/-- a program that lies somewhere -/
structure PgAt (w : World) (I : Option Addr) (L : List In4) (C : Option Addr) (K : List Cs) : Prop where
  insts : Sl w I (i4s L)
  cls : Sl w C (K.map clV)
  each : ∀ x ∈ K, Rs w x.A x.R ∧ x.R.length ≤ maxLen
  li : L.length ≤ maxLen
  lc : K.length ≤ maxLen
theorem PgAt.below {w w' : World} {I C : Option Addr} {L : List In4} {K : List Cs} (h : PgAt w I L C K) (hb : Below w.heap.size w w') : PgAt w' I L C K :=
  ⟨h.insts.below hb, h.cls.below hb, fun x hx => ⟨(h.each x hx).1.below hb, (h.each x hx).2⟩, h.li, h.lc⟩
def pgR (L : List In4) (K : List Cs) (g : Int) : Bool :=
  decide (0 < L.length) && decide (L.length ≤ 512) && decide (K.length ≤ 64) && decide (0 ≤ g) && decide (g ≤ 8) && !(L.any fun t => !riB L.length K.length g t) && !(K.any fun x => badB x.R)
end Go.Proofs.YtgppobaoclfgcaaGreatDoor
