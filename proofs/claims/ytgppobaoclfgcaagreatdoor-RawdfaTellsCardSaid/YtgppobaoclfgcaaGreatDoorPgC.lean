/- Chapter 8: Right. Conditions: what each lemma says. -/
import Derived.Test.YtgppobaoclfgcaaGreatDoorPgB
import Derived.Deep.QuietTactic
set_option linter.unusedVariables false
set_option linter.unusedSimpArgs false
namespace Go.Proofs.YtgppobaoclfgcaaGreatDoor
open Go.RowKit Go.Lib
open Plain (Rg May mayB In Norm In4 slotsOf insB bnd riB cls cnot rightB normB)
set_option maxRecDepth 100000 in
set_option maxHeartbeats 4000000 in
theorem prright_any (I C : Option Addr) (L : List In4) (K : List Cs) (c d : Nat) (g : Int) (w : World) (hP : PgAt w I L C K) :
    Calls Tryz.prog 14 #[pgV I L.length c C K.length d g] w fun e w' => e = .returned (.bool (pgR L K g)) ∧ Below w.heap.size w w' := by
  have hb0 : Below w.heap.size w (w.alloc (.cells #[.slice I L.length c, .slice C K.length d, .int .i64 g] 34)) := (Below.refl _ _).alloc (Nat.le_refl _) _
  have hbox : CellsAt (w.alloc (.cells #[.slice I L.length c, .slice C K.length d, .int .i64 g] 34)) w.heap.size [.slice I L.length c, .slice C K.length d, .int .i64 g] := CellsAt.new w _ _
  have C1 := has31_any L I c w.heap.size I C L.length c K.length d g _ (hP.insts.below hb0) hP.li hbox.1 (hbox.at_ 0 _ rfl) (hbox.at_ 1 _ rfl) (hbox.at_ 2 _ rfl)
  have C2 := Lib.hid (fun W (hb : Below w.heap.size w W) => has32_any K C d W (hP.cls.below hb) hP.lc fun x hx => ⟨(hP.each x hx).1.below hb, (hP.each x hx).2⟩)
  unfold pgR pgV
  obtain ⟨q1, hq1⟩ : ∃ q, (L.any fun t => !riB L.length K.length g t) = q := ⟨_, rfl⟩
  obtain ⟨q2, hq2⟩ : ∃ q, (K.any fun x => badB x.R) = q := ⟨_, rfl⟩
  rw [hq1] at C1 ⊢
  rw [hq2] at C2 ⊢
  have hli := hP.li
  have hlc := hP.lc
  clear hq1 hq2 hP
  have HBOX := Lib.hid hbox
  have HB0 := Lib.hid hb0
  clear hbox hb0
  generalize L.length = n at *
  generalize K.length = m at *
  unfold maxLen at hli hlc
  have HC1 := Lib.hid C1
  clear C1
  obtain ⟨res, hres⟩ : ∃ b, (decide (0 < n) && decide (n ≤ 512) && decide (m ≤ 64) && decide (0 ≤ g) && decide (g ≤ 8) && !q1 && !q2) = b := ⟨_, rfl⟩
  rw [hres]
  have HRES := Lib.hid hres
  clear hres
  go_enter Tryz.func14, Tryz.ntmps14
  by_cases h1 : 0 < n
  case neg =>
    have d1 : decide ((n : Int) > 0) = false := by simp; omega
    go_wp2_with fail
    go_ret
    exact ⟨ret_bool (by rw [← HRES.out, decide_eq_false (show ¬ 0 < n by omega)]; simp), HB0.out⟩
  have d1 : decide ((n : Int) > 0) = true := by simp; omega
  by_cases h2 : n ≤ 512
  case neg =>
    have d2 : decide ((n : Int) ≤ 512) = false := by simp; omega
    go_wp2_with fail
    go_ret
    exact ⟨ret_bool (by rw [← HRES.out, decide_eq_false (show ¬ n ≤ 512 by omega)]; simp), HB0.out⟩
  have d2 : decide ((n : Int) ≤ 512) = true := by simp; omega
  by_cases h3 : m ≤ 64
  case neg =>
    have d3 : decide ((m : Int) ≤ 64) = false := by simp; omega
    go_wp2_with fail
    go_ret
    exact ⟨ret_bool (by rw [← HRES.out, decide_eq_false (show ¬ m ≤ 64 by omega)]; simp), HB0.out⟩
  have d3 : decide ((m : Int) ≤ 64) = true := by simp; omega
  by_cases h4 : 0 ≤ g
  case neg =>
    have d4 : decide (g ≥ 0) = false := by simp; omega
    go_wp2_with fail
    go_ret
    exact ⟨ret_bool (by rw [← HRES.out, decide_eq_false (show ¬ 0 ≤ g by omega)]; simp), HB0.out⟩
  have d4 : decide (g ≥ 0) = true := by simp; omega
  by_cases h5 : g ≤ 8
  case neg =>
    have d5 : decide (g ≤ 8) = false := by simp; omega
    go_wp2_with fail
    go_ret
    exact ⟨ret_bool (by rw [← HRES.out, decide_eq_false (show ¬ g ≤ 8 by omega)]; simp), HB0.out⟩
  have d5 : decide (g ≤ 8) = true := by simp; omega
  have hr : (!q1 && !q2) = res := by
    rw [← HRES.out, decide_eq_true h1, decide_eq_true h2, decide_eq_true h3, decide_eq_true h4, decide_eq_true h5]; rfl
  have HR := Lib.hid hr
  clear hr
  go_wp2_with fail
  refine HC1.out.mono ?_
  rintro e w1 ⟨rfl, hb1⟩
  have HB1 := Lib.hid (below_then HB0.out hb1)
  have HBX := Lib.hid (HBOX.out.below hb1)
  clear hb1
  have x0 := HBX.out.at_ 0 _ rfl
  have x1 := HBX.out.at_ 1 _ rfl
  have x2 := HBX.out.at_ 2 _ rfl
  cases q1
  · go_wp2_with fail
    refine (C2.out _ HB1.out).mono ?_
    rintro e w2 ⟨rfl, hb2⟩
    have HB2 := Lib.hid (below_then HB1.out hb2)
    clear hb2
    go_wp2_with fail
    go_ret
    exact ⟨ret_bool (by rw [← HR.out]; rfl), HB2.out⟩
  · go_wp2_with fail
    go_ret
    exact ⟨ret_bool (by rw [← HR.out]; rfl), HB1.out⟩
end Go.Proofs.YtgppobaoclfgcaaGreatDoor
namespace Go.Proofs.YtgppobaoclfgcaaGreatDoor
open Go.RowKit Go.Lib
open Plain (Rg May mayB In Norm In4 slotsOf insB bnd riB cls cnot rightB normB)
end Go.Proofs.YtgppobaoclfgcaaGreatDoor
namespace Go.Proofs.YtgppobaoclfgcaaGreatDoor
open Go.RowKit Go.Lib
open Plain (Rg May mayB In Norm In4 slotsOf insB bnd riB cls cnot rightB normB)
end Go.Proofs.YtgppobaoclfgcaaGreatDoor
namespace Go.Proofs.YtgppobaoclfgcaaGreatDoor
open Go.RowKit Go.Lib
end Go.Proofs.YtgppobaoclfgcaaGreatDoor
