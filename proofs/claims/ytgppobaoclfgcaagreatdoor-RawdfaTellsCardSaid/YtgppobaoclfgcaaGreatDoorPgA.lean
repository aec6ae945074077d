/- Chapter 8: Slots, inside, bounds, RightInst: what the code computes. Conditions: none. -/
import Derived.Test.YtgppobaoclfgcaaGreatDoorKit
import Derived.Test.YtgppobaoclfgcaaGreatDoorClassP
import Derived.Deep.QuietTactic
set_option linter.unusedVariables false
set_option linter.unusedSimpArgs false
namespace Go.Proofs.YtgppobaoclfgcaaGreatDoor.Plain
/-- an instruction: what it does, where it goes, its number -/
abbrev In4 := Int × Int × Int × Int
def slotsOf (g : Int) : Int := if g < 0 then RowKit.wrap64 (RowKit.wrap64 0 + 2) else RowKit.wrap64 (RowKit.wrap64 (2 * g) + 2)
/-- a number is a place of so many -/
def insB (n m : Int) : Bool := decide (0 ≤ n) && decide (n < m)
/-- how many places an instruction's numbers may be -/
def bnd (n m : Nat) (g op : Int) : Int × Int × Int :=
  if op = 0 then (1, 1, 1) else if op = 1 then (n, 1, m) else if op = 2 then (n, n, 1) else if op = 4 then (n, 1, slotsOf g) else if op = 5 then (n, 1, 4) else (n, 1, 1)
def riB (n m : Nat) (g : Int) (t : In4) : Bool :=
  decide (0 ≤ t.1) && decide (t.1 ≤ 5) && insB t.2.1 (bnd n m g t.1).1 && insB t.2.2.1 (bnd n m g t.1).2.1 && insB t.2.2.2 (bnd n m g t.1).2.2
end Go.Proofs.YtgppobaoclfgcaaGreatDoor.Plain
namespace Go.Proofs.YtgppobaoclfgcaaGreatDoor
open Go.RowKit Go.Lib
open Plain (Rg May mayB In Norm In4 slotsOf insB bnd riB)
def i4V (t : In4) : Value := .agg #[.int .i64 t.1, .int .i64 t.2.1, .int .i64 t.2.2.1, .int .i64 t.2.2.2]
def pgV (I : Option Addr) (n c : Nat) (C : Option Addr) (m d : Nat) (g : Int) : Value := .agg #[.slice I n c, .slice C m d, .int .i64 g]
set_option maxRecDepth 100000 in
theorem slots_any (I C : Option Addr) (n c m d : Nat) (g : Int) (w : World) :
    Calls Tryz.prog 79 #[pgV I n c C m d g] w fun e w' => e = .returned (.int .i64 (slotsOf g)) ∧ Below w.heap.size w w' := by
  unfold pgV
  go_enter Tryz.func79, Tryz.ntmps79
  go_wp2_with fail
  case inl =>
    have h : g < 0 := by assumption
    rw [show slotsOf g = RowKit.wrap64 (RowKit.wrap64 0 + 2) from if_pos h]
    go_ret
    exact ⟨rfl, (Below.refl _ _).alloc (Nat.le_refl _) _⟩
  case inr =>
    have h : 0 ≤ g := by assumption
    rw [show slotsOf g = RowKit.wrap64 (RowKit.wrap64 (2 * g) + 2) from if_neg (by omega)]
    go_ret
    exact ⟨rfl, (Below.refl _ _).alloc (Nat.le_refl _) _⟩
set_option maxRecDepth 100000 in
theorem inside_any (n m : Int) (w : World) : Calls Tryz.prog 56 #[.int .i64 n, .int .i64 m] w fun e w' => e = .returned (.bool (insB n m)) ∧ w' = w := by
  unfold insB
  by_cases h : 0 ≤ n
  · have d0 : decide (n ≥ 0) = true := by simp [h]
    rw [decide_eq_true h]
    go_enter Tryz.func56, Tryz.ntmps56
    go_wp2_with fail
    go_ret
    exact ⟨by simp, rfl⟩
  · have d0 : decide (n ≥ 0) = false := by simp; omega
    rw [decide_eq_false h]
    go_enter Tryz.func56, Tryz.ntmps56
    go_wp2_with fail
    go_ret
    exact ⟨rfl, rfl⟩

def bndV (b : Int × Int × Int) : Value := .tuple #[.int .i64 b.1, .int .i64 b.2.1, .int .i64 b.2.2]
set_option maxRecDepth 100000 in
set_option maxHeartbeats 1000000 in
theorem bounds_any (I C : Option Addr) (n c m d : Nat) (g op : Int) (w : World) :
    Calls Tryz.prog 55 #[pgV I n c C m d g, .int .i64 op] w fun e w' => e = .returned (bndV (bnd n m g op)) ∧ Below w.heap.size w w' := by
  have CS := Lib.hid (fun W => slots_any I C n c m d g W)
  unfold bnd bndV
  unfold pgV at CS ⊢
  obtain ⟨sl, hsl⟩ : ∃ sl, slotsOf g = sl := ⟨_, rfl⟩
  rw [hsl] at CS ⊢
  clear hsl
  have hb : Below w.heap.size w (w.alloc (.cells #[.slice I n c, .slice C m d, .int .i64 g] 34)) := (Below.refl _ _).alloc (Nat.le_refl _) _
  by_cases h0 : op = 0
  · subst h0
    go_enter Tryz.func55, Tryz.ntmps55
    go_wp2_with fail
    go_ret3
    exact ⟨rfl, hb⟩
  by_cases h1 : op = 1
  · subst h1
    go_enter Tryz.func55, Tryz.ntmps55
    go_wp2_with fail
    go_ret3
    exact ⟨rfl, hb⟩
  by_cases h2 : op = 2
  · subst h2
    go_enter Tryz.func55, Tryz.ntmps55
    go_wp2_with fail
    go_ret3
    exact ⟨rfl, hb⟩
  by_cases h4 : op = 4
  · subst h4
    have HBB := Lib.hid hb
    clear hb
    go_enter Tryz.func55, Tryz.ntmps55
    go_wp2_with fail
    refine (CS.out _).mono ?_
    rintro e w1 ⟨rfl, hb1⟩
    go_wp2_with fail
    go_ret3
    exact ⟨rfl, below_then HBB.out hb1⟩
  by_cases h5 : op = 5
  · subst h5
    go_enter Tryz.func55, Tryz.ntmps55
    go_wp2_with fail
    go_ret3
    exact ⟨rfl, hb⟩
  · have e0 : (op == 0) = false := by simp [h0]
    have e1 : (op == 1) = false := by simp [h1]
    have e2 : (op == 2) = false := by simp [h2]
    have e4 : (op == 4) = false := by simp [h4]
    have e5 : (op == 5) = false := by simp [h5]
    rw [if_neg h0, if_neg h1, if_neg h2, if_neg h4, if_neg h5]
    go_enter Tryz.func55, Tryz.ntmps55
    go_wp2_with fail
    go_ret3
    exact ⟨rfl, hb⟩
set_option maxRecDepth 100000 in
set_option maxHeartbeats 2000000 in
theorem rightInst_any (I C : Option Addr) (n c m d : Nat) (g : Int) (t : In4) (w : World) :
    Calls Tryz.prog 29 #[i4V t, pgV I n c C m d g] w fun e w' => e = .returned (.bool (riB n m g t)) ∧ Below w.heap.size w w' := by
  obtain ⟨op, x, y, ar⟩ := t
  have CB := Lib.hid (fun W => bounds_any I C n c m d g op W)
  have CI := Lib.hid (fun n m W => inside_any n m W)
  unfold riB i4V
  dsimp only
  obtain ⟨⟨bx, by_, bz⟩, hbn⟩ : ∃ b, bnd n m g op = b := ⟨_, rfl⟩
  rw [hbn] at CB ⊢
  unfold bndV at CB
  unfold pgV at CB ⊢
  dsimp only at CB ⊢
  clear hbn
  obtain ⟨qx, hqx⟩ : ∃ q, insB x bx = q := ⟨_, rfl⟩
  obtain ⟨qy, hqy⟩ : ∃ q, insB y by_ = q := ⟨_, rfl⟩
  obtain ⟨qz, hqz⟩ : ∃ q, insB ar bz = q := ⟨_, rfl⟩
  have CX := Lib.hid (fun W => inside_any x bx W)
  have CY := Lib.hid (fun W => inside_any y by_ W)
  have CZ := Lib.hid (fun W => inside_any ar bz W)
  rw [hqx] at CX
  rw [hqy] at CY
  rw [hqz] at CZ
  rw [hqx, hqy, hqz]
  obtain ⟨res, hres⟩ : ∃ b, (decide (0 ≤ op) && decide (op ≤ 5) && qx && qy && qz) = b := ⟨_, rfl⟩
  rw [hres]
  have HRES := Lib.hid hres
  clear hqx hqy hqz CI hres
  have HB0 := Lib.hid (below_alloc (below_alloc (Below.refl w.heap.size w) (.cells #[.int .i64 op, .int .i64 x, .int .i64 y, .int .i64 ar] 77)) (.cells #[.slice I n c, .slice C m d, .int .i64 g] 34))
  have fin : ∀ (w1 : World), Below ((w.alloc (.cells #[.int .i64 op, .int .i64 x, .int .i64 y, .int .i64 ar] 77)).alloc (.cells #[.slice I n c, .slice C m d, .int .i64 g] 34)).heap.size ((w.alloc (.cells #[.int .i64 op, .int .i64 x, .int .i64 y, .int .i64 ar] 77)).alloc (.cells #[.slice I n c, .slice C m d, .int .i64 g] 34)) w1 → Below w.heap.size w w1 := fun w1 hb => below_then HB0.out hb
  have FIN := Lib.hid fin
  clear fin
  have cell : ∀ (w1 : World), Below ((w.alloc (.cells #[.int .i64 op, .int .i64 x, .int .i64 y, .int .i64 ar] 77)).alloc (.cells #[.slice I n c, .slice C m d, .int .i64 g] 34)).heap.size ((w.alloc (.cells #[.int .i64 op, .int .i64 x, .int .i64 y, .int .i64 ar] 77)).alloc (.cells #[.slice I n c, .slice C m d, .int .i64 g] 34)) w1 → CellsAt w1 w.heap.size [.int .i64 op, .int .i64 x, .int .i64 y, .int .i64 ar] := fun w1 hb => (((CellsAt.new w #[.int .i64 op, .int .i64 x, .int .i64 y, .int .i64 ar] 77).alloc _).below hb)
  have CELL := Lib.hid cell
  clear cell
  go_enter Tryz.func29, Tryz.ntmps29
  go_wp2_with fail
  refine (CB.out _).mono ?_
  rintro e w1 ⟨rfl, hb1⟩
  have c0 := (CELL.out _ hb1).at_ 0 _ rfl
  have c1 := (CELL.out _ hb1).at_ 1 _ rfl
  have c2 := (CELL.out _ hb1).at_ 2 _ rfl
  have c3 := (CELL.out _ hb1).at_ 3 _ rfl
  have HB1 := Lib.hid (FIN.out _ hb1)
  clear hb1
  by_cases h0 : 0 ≤ op
  · have d0 : decide (op ≥ 0) = true := by simp [h0]
    by_cases h5 : op ≤ 5
    · have d5 : decide (op ≤ 5) = true := by simp [h5]
      go_wp2_with fail
      refine (CX.out _).mono ?_
      rintro e w2 ⟨rfl, rfl⟩
      cases qx
      · go_wp2_with fail
        go_ret
        exact ⟨ret_bool (by rw [← HRES.out]; simp), HB1.out⟩
      · go_wp2_with fail
        refine (CY.out _).mono ?_
        rintro e w3 ⟨rfl, rfl⟩
        cases qy
        · go_wp2_with fail
          go_ret
          exact ⟨ret_bool (by rw [← HRES.out]; simp), HB1.out⟩
        · go_wp2_with fail
          refine (CZ.out _).mono ?_
          rintro e w4 ⟨rfl, rfl⟩
          go_wp2_with fail
          go_ret
          exact ⟨ret_bool (by rw [← HRES.out]; simp [h0, h5]), HB1.out⟩
    · have d5 : decide (op ≤ 5) = false := by simp; omega
      go_wp2_with fail
      go_ret
      exact ⟨ret_bool (by rw [← HRES.out, decide_eq_false (show ¬ op ≤ 5 by omega)]; simp), HB1.out⟩
  · have d0 : decide (op ≥ 0) = false := by simp; omega
    go_wp2_with fail
    go_ret
    exact ⟨ret_bool (by rw [← HRES.out, decide_eq_false (show ¬ 0 ≤ op by omega)]; simp), HB1.out⟩
end Go.Proofs.YtgppobaoclfgcaaGreatDoor
