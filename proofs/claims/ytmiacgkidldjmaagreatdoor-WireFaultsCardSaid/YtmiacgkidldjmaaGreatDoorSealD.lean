/- Chapter 13: Bound, Blob, a small program: what the code computes. Conditions: what each lemma says. -/
import Derived.Test.YtmiacgkidldjmaaGreatDoorSealC
set_option linter.unusedVariables false
set_option linter.unusedSimpArgs false
namespace Go.Proofs.YtmiacgkidldjmaaGreatDoor
open Go.RowKit Go.Lib
set_option maxRecDepth 100000 in
set_option maxHeartbeats 2000000 in
theorem bound_nat (i k : Nat) (a1 a2 a3 a4 a7 : Int) (a5 a6 : Bool) (w : World) (hi : i ≤ 100000) (hk : k < 9223372036854775808) :
    Calls Tryz.prog 21 #[.agg #[.int .i64 (i : Int), .int .i64 a1, .int .i64 a2, .int .i64 a3, .int .i64 a4, .bool a5, .bool a6, .int .i64 a7], .int .i64 (k : Int)] w fun e w' => e = .returned (.int .i64 (Plain.boundP i k)) ∧ Below w.heap.size w w' := by
  have hqi : (1099511627776 : Int) / (i : Int) = ((1099511627776 / i : Nat) : Int) := (Int.natCast_ediv 1099511627776 i).symm
  have hbp : Plain.boundP i k = if 0 < i ∧ 1099511627776 / i < k + 1 then 1099511627776 else ((i * (k + 1) : Nat) : Int) := by
    unfold Plain.boundP
    rw [Int.max_eq_left (by omega), Int.max_eq_left (by omega), hqi]
    by_cases h : 0 < i ∧ 1099511627776 / i < k + 1
    · rw [if_pos h, if_pos ⟨by omega, by have := h.2; omega⟩]
    · rw [if_neg h, if_neg (by
        rintro ⟨h1, h2⟩
        exact h ⟨by omega, by omega⟩)]
      simp
  rw [hbp]
  have hm1 : max (i : Int) 0 = (i : Int) := Int.max_eq_left (by omega)
  have hm2 : max (k : Int) 0 = (k : Int) := Int.max_eq_left (by omega)
  have hw1 : IntKind.u64.wrap (k : Int) = (k : Int) := by rw [IntKind.wrap_u64]; omega
  have hw2 : IntKind.u64.wrap ((k : Int) + 1) = (k : Int) + 1 := by rw [IntKind.wrap_u64]; omega
  have hw3 : IntKind.u64.wrap (i : Int) = (i : Int) := by rw [IntKind.wrap_u64]; omega
  by_cases h0 : i = 0
  · subst h0
    rw [if_neg (by simp)]
    clear hbp
    go_enter Tryz.func21, Tryz.ntmps21
    go_wp2
    go_ret
    refine ⟨ret_int (by simp), ?_⟩
    exact below_alloc (Below.refl _ _) _
  · have hip : 0 < i := by omega
    obtain ⟨q, hq⟩ : ∃ x, 1099511627776 / i = x := ⟨_, rfl⟩
    rw [hq] at hqi hbp ⊢
    have hqt : Int.tdiv 1099511627776 (i : Int) = (q : Int) := by rw [Int.tdiv_eq_ediv_of_nonneg (by decide)]; exact hqi
    have dI : decide ((i : Int) > 0) = true := by simp; omega
    have dz : ((i : Int) == 0) = false := by simp; omega
    have hne : ¬ ((i : Int) = 0) := by omega
    have hwq : IntKind.u64.wrap (q : Int) = (q : Int) := by
      have : q ≤ 1099511627776 := by rw [← hq]; exact Nat.div_le_self _ _
      rw [IntKind.wrap_u64]; omega
    by_cases h : q < k + 1
    · rw [if_pos ⟨hip, h⟩]
      have d1 : decide ((k : Int) + 1 > (q : Int)) = true := by simp; omega
      have d2 : decide ((q : Int) < (k : Int) + 1) = true := by simp; omega
      clear hbp hq h
      go_enter Tryz.func21, Tryz.ntmps21
      go_wp2
      go_ret
      exact ⟨rfl, below_alloc (Below.refl _ _) _⟩
    · rw [if_neg (fun h2 => h h2.2)]
      have d1 : decide ((k : Int) + 1 > (q : Int)) = false := by simp; omega
      have d2 : decide ((q : Int) < (k : Int) + 1) = false := by simp; omega
      have hkq : k + 1 ≤ q := by omega
      have hmul : i * (k + 1) ≤ 1099511627776 := by
        have h1 := Nat.div_mul_le_self 1099511627776 i
        rw [hq] at h1
        have h2 := Nat.mul_le_mul_right i hkq
        rw [Nat.mul_comm] at h2
        omega
      have hw4 : IntKind.i64.wrap ((k : Int) + 1) = (k : Int) + 1 := by
        have : q ≤ 1099511627776 := by rw [← hq]; exact Nat.div_le_self _ _
        rw [IntKind.wrap_i64]; omega
      have hme : (i : Int) * ((k : Int) + 1) = ((i * (k + 1) : Nat) : Int) := by simp
      obtain ⟨z, hz⟩ : ∃ x, i * (k + 1) = x := ⟨_, rfl⟩
      rw [hz] at hme hmul ⊢
      have hw5 : IntKind.i64.wrap (z : Int) = (z : Int) := by rw [IntKind.wrap_i64]; omega
      have hw6 : IntKind.i64.wrap ((i : Int) * ((k : Int) + 1)) = (z : Int) := by rw [hme]; exact hw5
      have HME := Lib.hid hme
      clear hbp hq h hz hme
      go_enter Tryz.func21, Tryz.ntmps21
      go_wp2
      go_ret
      exact ⟨ret_int (by first | rfl | exact HME.out), below_alloc (Below.refl _ _) _⟩
theorem bound_neg (i : Nat) (a1 a2 a3 a4 a7 : Int) (a5 a6 : Bool) (w : World) (hi : i ≤ 100000) :
    Calls Tryz.prog 21 #[.agg #[.int .i64 (i : Int), .int .i64 a1, .int .i64 a2, .int .i64 a3, .int .i64 a4, .bool a5, .bool a6, .int .i64 a7], .int .i64 (-1)] w fun e w' => e = .returned (.int .i64 (i : Int)) ∧ Below w.heap.size w w' := by
  have hm1 : max (i : Int) 0 = (i : Int) := Int.max_eq_left (by omega)
  have hw3 : IntKind.u64.wrap (i : Int) = (i : Int) := by rw [IntKind.wrap_u64]; omega
  have hmx : max (-1 : Int) 0 = 0 := rfl
  by_cases h0 : i = 0
  · subst h0
    go_enter Tryz.func21, Tryz.ntmps21
    go_wp2
    go_ret
    exact ⟨ret_int (by first | rfl | omega | (rw [Int.mul_one]) | (rw [hw5]) | simp_all), below_alloc (Below.refl _ _) _⟩
  · have hqi : (1099511627776 : Int) / (i : Int) = ((1099511627776 / i : Nat) : Int) := (Int.natCast_ediv 1099511627776 i).symm
    obtain ⟨q, hq⟩ : ∃ x, 1099511627776 / i = x := ⟨_, rfl⟩
    rw [hq] at hqi
    have hq2 : 2 ≤ q := by rw [← hq]; exact (Nat.le_div_iff_mul_le (by omega)).2 (by omega)
    have hqt : Int.tdiv 1099511627776 (i : Int) = (q : Int) := by rw [Int.tdiv_eq_ediv_of_nonneg (by decide)]; exact hqi
    have dI : decide ((i : Int) > 0) = true := by simp; omega
    have dz : ((i : Int) == 0) = false := by simp; omega
    have hne : ¬ ((i : Int) = 0) := by omega
    have hwq : IntKind.u64.wrap (q : Int) = (q : Int) := by
      have : q ≤ 1099511627776 := by rw [← hq]; exact Nat.div_le_self _ _
      rw [IntKind.wrap_u64]; omega
    have d1 : decide ((1 : Int) > (q : Int)) = false := by simp; omega
    have d2 : decide ((q : Int) < 1) = false := by simp; omega
    have hw5 : IntKind.i64.wrap (i : Int) = (i : Int) := by rw [IntKind.wrap_i64]; omega
    clear hq
    go_enter Tryz.func21, Tryz.ntmps21
    go_wp2
    go_ret
    exact ⟨ret_int (by first | rfl | omega | (rw [Int.mul_one]) | (rw [hw5]) | simp_all), below_alloc (Below.refl _ _) _⟩
def blobP (l : List UInt8) : Int × Int :=
  if (Plain.kindE l).2 ≠ 0 then (0, (Plain.kindE l).2) else if (Plain.kindE l).1 = 1 then (if getE l = 0 then (1, 0) else (0, getE l)) else (if getTE l = 0 then ((Plain.kindE l).1, 0) else (0, getTE l))
theorem get_e (l : List UInt8) (hl : l.length ≤ 1000000000000000) (w : World) : Calls Tryz.prog 32 #[.string (str l)] w fun e w' => (∃ V, e = .returned (.tuple #[V, .int .i64 (getE l)])) ∧ Below w.heap.size w w' := by
  refine (get_any (str l) w (by rw [str_size]; omega)).mono ?_
  rintro e w' ⟨hbad, hok, hb⟩
  rw [str_list] at hbad hok
  by_cases h : getE l = 0
  · obtain ⟨I, c, C, d, K, _, he, _⟩ := hok h
    exact ⟨⟨_, by rw [h]; exact he⟩, hb⟩
  · exact ⟨⟨_, hbad h⟩, hb⟩
theorem gettab_e (l : List UInt8) (hl : l.length ≤ 1000000000000000) (w : World) : Calls Tryz.prog 33 #[.string (str l)] w fun e w' => (∃ V, e = .returned (.tuple #[V, .int .i64 (getTE l)])) ∧ Below w.heap.size w w' := by
  refine (gettab_any (str l) w (by rw [str_size]; omega)).mono ?_
  rintro e w' ⟨hbad, hok, hb⟩
  rw [str_list] at hbad hok
  by_cases h : getTE l = 0
  · obtain ⟨PA, pc, NA, R, nc, AA, ac, _, he, _⟩ := hok h
    exact ⟨⟨_, by rw [h]; exact he⟩, hb⟩
  · exact ⟨⟨_, hbad h⟩, hb⟩
set_option maxRecDepth 100000 in
set_option maxHeartbeats 2000000 in
theorem blob13_any (l : List UInt8) (hl : l.length ≤ 1000000000000000) (w : World) : Calls Tryz.prog 18 #[.string (str l)] w fun e w' => e = .returned (.tuple #[.int .i64 (blobP l).1, .int .i64 (blobP l).2]) ∧ Below w.heap.size w w' := by
  have CG := Lib.hid (fun w => get_e l hl w)
  have CT := Lib.hid (fun w => gettab_e l hl w)
  have cK := fun W => kind_any (str l) W (by rw [str_size]; omega)
  unfold kindV at cK
  rw [str_list] at cK
  unfold blobP
  obtain ⟨⟨kd, ke⟩, hk⟩ : ∃ x, Plain.kindE l = x := ⟨_, rfl⟩
  obtain ⟨g1, hg1⟩ : ∃ x, getE l = x := ⟨_, rfl⟩
  obtain ⟨g2, hg2⟩ : ∃ x, getTE l = x := ⟨_, rfl⟩
  rw [hk] at cK ⊢
  rw [hg1] at CG ⊢
  rw [hg2] at CT ⊢
  dsimp only at cK ⊢
  have CK := Lib.hid cK
  obtain ⟨S, hS⟩ : ∃ x, str l = x := ⟨_, rfl⟩
  rw [hS] at CK CG CT ⊢
  clear cK hk hg1 hg2 hS
  by_cases h0 : ke = 0
  · subst h0
    rw [if_neg (by simp)]
    by_cases h1 : kd = 1
    · subst h1
      rw [if_pos rfl]
      by_cases hz : g1 = 0
      · subst hz
        rw [if_pos rfl]
        go_enter Tryz.func18, Tryz.ntmps18
        go_wp2_with fail
        refine (CK.out _).mono ?_
        rintro _ w1 ⟨rfl, hw⟩
        subst hw
        go_wp2_with fail
        refine (CG.out _).mono ?_
        rintro _ w2 ⟨⟨V, rfl⟩, hb⟩
        have HB := Lib.hid hb
        clear hb
        go_wp2_with fail
        go_ret2
        exact ⟨rfl, HB.out⟩
      · rw [if_neg hz]
        have d : (g1 != 0) = true := by simp [hz]
        have d' : (g1 == 0) = false := by simp [hz]
        clear hz
        go_enter Tryz.func18, Tryz.ntmps18
        go_wp2_with fail
        refine (CK.out _).mono ?_
        rintro _ w1 ⟨rfl, hw⟩
        subst hw
        go_wp2_with fail
        refine (CG.out _).mono ?_
        rintro _ w2 ⟨⟨V, rfl⟩, hb⟩
        have HB := Lib.hid hb
        clear hb
        go_wp2_with fail
        go_ret2
        exact ⟨rfl, HB.out⟩
    · rw [if_neg h1]
      have dk : (kd == 1) = false := by simp [h1]
      clear h1
      by_cases hz : g2 = 0
      · subst hz
        rw [if_pos rfl]
        go_enter Tryz.func18, Tryz.ntmps18
        go_wp2_with fail
        refine (CK.out _).mono ?_
        rintro _ w1 ⟨rfl, hw⟩
        subst hw
        go_wp2_with fail
        refine (CT.out _).mono ?_
        rintro _ w2 ⟨⟨V, rfl⟩, hb⟩
        have HB := Lib.hid hb
        clear hb
        go_wp2_with fail
        go_ret2
        exact ⟨rfl, HB.out⟩
      · rw [if_neg hz]
        have d : (g2 != 0) = true := by simp [hz]
        have d' : (g2 == 0) = false := by simp [hz]
        clear hz
        go_enter Tryz.func18, Tryz.ntmps18
        go_wp2_with fail
        refine (CK.out _).mono ?_
        rintro _ w1 ⟨rfl, hw⟩
        subst hw
        go_wp2_with fail
        refine (CT.out _).mono ?_
        rintro _ w2 ⟨⟨V, rfl⟩, hb⟩
        have HB := Lib.hid hb
        clear hb
        go_wp2_with fail
        go_ret2
        exact ⟨rfl, HB.out⟩
  · rw [if_pos h0]
    have d : (ke != 0) = true := by simp [h0]
    have d' : (ke == 0) = false := by simp [h0]
    clear h0
    go_enter Tryz.func18, Tryz.ntmps18
    go_wp2_with fail
    refine (CK.out _).mono ?_
    rintro _ w1 ⟨rfl, hw⟩
    subst hw
    go_wp2_with fail
    go_ret2
    exact ⟨rfl, Below.refl _ _⟩
end Go.Proofs.YtmiacgkidldjmaaGreatDoor
namespace Go.Proofs.YtmiacgkidldjmaaGreatDoor.Plain
theorem piOf_congr (L : List J4) (O O2 : Nat → Bool) : ∀ n, (∀ k, k < n → O k = O2 k) → piOf L O n = piOf L O2 n := by
  intro n
  induction n with
  | zero => intro _; rfl
  | succ n ih =>
    intro h
    rw [piOf_succ, piOf_succ, ih fun k hk => h k (by omega)]
    unfold piStep
    rw [h n (by omega)]
end Go.Proofs.YtmiacgkidldjmaaGreatDoor.Plain
namespace Go.Proofs.YtmiacgkidldjmaaGreatDoor
open Go.RowKit Go.Lib Go.Maps
open Plain (Rg May mayB In Norm In4 slotsOf insB bnd riB cls cnot rightB normB goesL Rch cntA RInv small next_in)
def exL4 : List In4 := [(2, 1, 2, 0), (3, 0, 0, 0), (0, 0, 0, 0), (0, 0, 0, 0)]
theorem ex4_right : pgR exL4 [] 0 = true := by decide
theorem ex4_reach (O : Nat → Bool) (h : ∀ k, k < exL4.length → (O k = true ↔ Rch exL4 k)) (h2 : ∀ k, exL4.length ≤ k → O k = false) : ∀ k, k < 4 → O k = decide (k < 3) := by
  have r0 : Rch exL4 0 := Rch.zero (by decide)
  have r1 : Rch exL4 1 := r0.step (by decide) (by decide)
  have r2 : Rch exL4 2 := r0.step (by decide) (by decide)
  have r3 : ¬ Rch exL4 3 := fun h => by
    have := h.2 (fun k => k ≤ 2) (by decide) (fun a m ha hs hm hg => by
      rcases (show a = 0 ∨ a = 1 ∨ a = 2 by omega) with rfl | rfl | rfl
      · simp [exL4, goesL] at hg; omega
      · simp [exL4, goesL] at hg; omega
      · simp [exL4, goesL] at hg)
    omega
  intro k hk
  rcases (show k = 0 ∨ k = 1 ∨ k = 2 ∨ k = 3 by omega) with rfl | rfl | rfl | rfl
  · exact (h 0 (by decide)).2 r0
  · exact (h 1 (by decide)).2 r1
  · exact (h 2 (by decide)).2 r2
  · cases hO : O 3
    · rfl
    · exact absurd ((h 3 (by decide)).1 hO) r3
def ex4V : Value := .agg #[.int .i64 4, .int .i64 0, .int .i64 2, .int .i64 0, .int .i64 3, .bool true, .bool true, .int .i64 1]
theorem ex4_program (I : Option Addr) (w : World) (hP : PgAt w I exL4 none []) : Calls Tryz.prog 38 #[.agg #[.slice I 4 4, .slice none 0 0, .int .i64 0]] w fun e w' => e = .returned (.tuple #[ex4V, .int .i64 0]) ∧ Below w.heap.size w w' := by
  refine (program_yes I none exL4 [] 4 0 0 w hP ex4_right).mono ?_
  rintro e w' ⟨O, h1, h2, rfl, hb⟩
  refine ⟨?_, hb⟩
  have hc := Plain.piOf_congr exL4 O (fun k => decide (k < 3)) 4 (ex4_reach O h1 h2)
  rw [show exL4.length = 4 from rfl, hc]
  have e1 : (Plain.piOf exL4 (fun k => decide (k < 3)) 4).reached = 3 := by rfl
  have e2 : (Plain.piOf exL4 (fun k => decide (k < 3)) 4).loops = true := by rfl
  have e3 : (Plain.piOf exL4 (fun k => decide (k < 3)) 4).hits = true := by rfl
  have e4 : (Plain.piOf exL4 (fun k => decide (k < 3)) 4).queue = 1 := by rfl
  unfold infoV iC
  rw [e1, e2, e3, e4, slotsOf_sm 0 (by decide) (by decide), show cntA exL4 = 0 from by decide]
  rfl
end Go.Proofs.YtmiacgkidldjmaaGreatDoor
