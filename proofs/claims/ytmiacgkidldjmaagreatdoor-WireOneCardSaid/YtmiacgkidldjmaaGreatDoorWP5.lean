/- Chapter 12 in plain words: a program, a table that was got is put as the bytes that were read. Conditions: what each lemma says. -/
import Derived.Test.YtmiacgkidldjmaaGreatDoorWP4
set_option linter.unusedVariables false
set_option linter.unusedSimpArgs false
namespace Go.Proofs.YtmiacgkidldjmaaGreatDoor.Plain
theorem many_got' {X Y : Type} (enc : X → List UInt8) (dec : X → Y) (G : X → Prop) (f : St × List Y → St × List Y)
    (hf : ∀ t acc, (f (t, acc)).1.bad = 0 → ∃ x r, t = ⟨t.al, ⟨enc x ++ r, 0⟩, 0⟩ ∧ f (t, acc) = (⟨t.al, ⟨r, 0⟩, 0⟩, acc ++ [dec x]) ∧ G x)
    (hk : ∀ t acc, t.bad ≠ 0 → (f (t, acc)).1.bad ≠ 0) (n : Nat) (al : Rd) (l : List UInt8) (acc : List Y)
    (h : (many (fun s : St × List Y => s.1.bad) f n (⟨al, ⟨l, 0⟩, 0⟩, acc)).1.bad = 0) :
      ∃ (xs : List X) (r : List UInt8), xs.length = n ∧ l = xs.flatMap enc ++ r ∧ many (fun s : St × List Y => s.1.bad) f n (⟨al, ⟨l, 0⟩, 0⟩, acc) = (⟨al, ⟨r, 0⟩, 0⟩, acc ++ xs.map dec) ∧ ∀ x ∈ xs, G x := by
  obtain ⟨xs, r, hl, ht, hr, _, hm, hg⟩ := many_got enc dec G f hf hk n _ acc h
  by_cases h0 : n = 0
  · have : xs = [] := List.eq_nil_of_length_eq_zero (by omega)
    subst this
    have hr' : r = l := hr h0
    subst hr'
    exact ⟨[], r, hl, rfl, by rw [hm, if_pos h0], hg⟩
  · rcases ht with ht | ht
    · exact absurd ht h0
    · have h2 : l = xs.flatMap enc ++ r := congrArg (fun s : St => s.inn.rest) ht
      exact ⟨xs, r, hl, h2, by rw [hm, if_neg h0], hg⟩
theorem number_bad (t : St) (m : Nat) (h : (t.number m).2.bad = 0) : t.bad = 0 := by
  rcases Decidable.em (t.bad = 0) with h1 | h1
  · exact h1
  · rw [number_keep t m h1] at h; exact absurd h h1
theorem range_got (t : St) (acc : List Rg) (h : (gRange (t, acc)).1.bad = 0) :
    ∃ x r, t = ⟨t.al, ⟨rgL x ++ r, 0⟩, 0⟩ ∧ gRange (t, acc) = (⟨t.al, ⟨r, 0⟩, 0⟩, acc ++ [id x]) ∧ (0 ≤ x.1 ∧ x.1 ≤ x.2) := by
  have h2 : ((t.number mw).2.number mw).2.bad = 0 := h
  obtain ⟨r1, k1, k2, k3⟩ := number_got t mw (number_bad _ _ h2)
  obtain ⟨r2, l1, l2, l3⟩ := number_got _ mw h2
  refine ⟨(((t.number mw).1 : Int), ((t.number mw).1 : Int) + ((t.number mw).2.number mw).1), r2, ?_, ?_, by omega, by dsimp only; omega⟩
  · have h3 : r1 = putL ((t.number mw).2.number mw).1 ++ r2 := by
      have := congrArg (fun s : St => s.inn.rest) l1
      rw [k2] at this ⊢
      exact this
    unfold rgL
    dsimp only
    rw [Int.toNat_natCast, show (((t.number mw).1 : Int) + ((t.number mw).2.number mw).1 - (t.number mw).1) = (((t.number mw).2.number mw).1 : Int) by omega, Int.toNat_natCast, List.append_assoc, ← h3]
    exact k1
  · unfold gRange
    dsimp only
    rw [l2, k2]
    rfl
theorem range_keep (t : St) (acc : List Rg) (h : t.bad ≠ 0) : (gRange (t, acc)).1.bad ≠ 0 := by
  have h1 : (t.number mw).2.bad ≠ 0 := by rw [number_keep t mw h]; exact h
  show ((t.number mw).2.number mw).2.bad ≠ 0
  rw [number_keep _ mw h1]; exact h1
theorem many_keep {Y : Type} (f : St × List Y → St × List Y) (n : Nat) (t : St) (acc : List Y) (h : t.bad ≠ 0) : many (fun s : St × List Y => s.1.bad) f n (t, acc) = (t, acc) := many_bad _ f n _ h
theorem class_keep (t : St) (acc : List (List Rg)) (h : t.bad ≠ 0) : (gClass (t, acc)).1.bad ≠ 0 := by
  have h1 : (t.number 64).2.bad ≠ 0 := by rw [number_keep t 64 h]; exact h
  unfold gClass
  dsimp only
  rw [many_keep gRange _ _ _ h1]
  exact h1
theorem class_got (t : St) (acc : List (List Rg)) (h : (gClass (t, acc)).1.bad = 0) :
    ∃ R r, t = ⟨t.al, ⟨clsL R ++ r, 0⟩, 0⟩ ∧ gClass (t, acc) = (⟨t.al, ⟨r, 0⟩, 0⟩, acc ++ [id R]) ∧ R.length ≤ 64 := by
  have h2 : (many (fun s : SR => s.1.bad) gRange (t.number 64).1 ((t.number 64).2, [])).1.bad = 0 := h
  have h3 : (t.number 64).2.bad = 0 := by
    rcases Decidable.em ((t.number 64).2.bad = 0) with h1 | h1
    · exact h1
    · rw [many_keep gRange _ _ _ h1] at h2; exact absurd h2 h1
  obtain ⟨r1, k1, k2, k3⟩ := number_got t 64 h3
  have h4 := h2
  rw [k2] at h4
  obtain ⟨R, r, hl, hr, hm, _⟩ := many_got' rgL id (fun x => 0 ≤ x.1 ∧ x.1 ≤ x.2) gRange range_got range_keep _ _ _ _ h4
  refine ⟨R, r, ?_, ?_, by omega⟩
  · unfold clsL
    rw [hl, List.append_assoc, ← hr]
    exact k1
  · unfold gClass
    dsimp only
    rw [k2, hm]
    simp
theorem inst_keep (t : St) (acc : List I4) (h : t.bad ≠ 0) : (gInst (t, acc)).1.bad ≠ 0 := by
  show (((((t.number mw).2).number mw).2.number mw).2.number mw).2.bad ≠ 0
  rw [number_keep _ mw (by rw [number_keep _ mw (by rw [number_keep _ mw (by rw [number_keep t mw h]; exact h), number_keep t mw h]; exact h), number_keep _ mw (by rw [number_keep t mw h]; exact h), number_keep t mw h]; exact h),
    number_keep _ mw (by rw [number_keep _ mw (by rw [number_keep t mw h]; exact h), number_keep t mw h]; exact h), number_keep _ mw (by rw [number_keep t mw h]; exact h), number_keep t mw h]
  exact h
theorem inst_got (t : St) (acc : List I4) (h : (gInst (t, acc)).1.bad = 0) :
    ∃ x r, t = ⟨t.al, ⟨instL x ++ r, 0⟩, 0⟩ ∧ gInst (t, acc) = (⟨t.al, ⟨r, 0⟩, 0⟩, acc ++ [id x]) ∧ (0 ≤ x.1) := by
  have h4 : (((((t.number mw).2).number mw).2.number mw).2.number mw).2.bad = 0 := h
  have h3 := number_bad _ _ h4
  have h2 := number_bad _ _ h3
  have h1 := number_bad _ _ h2
  obtain ⟨r1, a1, a2, a3⟩ := number_got t mw h1
  obtain ⟨r2, b1, b2, b3⟩ := number_got _ mw h2
  obtain ⟨r3, c1, c2, c3⟩ := number_got _ mw h3
  obtain ⟨r4, d1, d2, d3⟩ := number_got _ mw h4
  obtain ⟨A, hA⟩ : ∃ A, t.number mw = A := ⟨_, rfl⟩
  rw [hA] at a1 a2 b1 b2 c1 c2 d1 d2
  obtain ⟨B, hB⟩ : ∃ B, A.2.number mw = B := ⟨_, rfl⟩
  rw [hB] at b1 b2 c1 c2 d1 d2
  obtain ⟨C, hC⟩ : ∃ C, B.2.number mw = C := ⟨_, rfl⟩
  rw [hC] at c1 c2 d1 d2
  obtain ⟨D, hD⟩ : ∃ D, C.2.number mw = D := ⟨_, rfl⟩
  rw [hD] at d1 d2
  have e1 : r1 = putL B.1 ++ r2 := by have := congrArg (fun s : St => s.inn.rest) b1; rw [a2] at this; exact this
  have e2 : r2 = putL C.1 ++ r3 := by have := congrArg (fun s : St => s.inn.rest) c1; rw [b2] at this; exact this
  have e3 : r3 = putL D.1 ++ r4 := by have := congrArg (fun s : St => s.inn.rest) d1; rw [c2] at this; exact this
  refine ⟨((A.1 : Int), (B.1 : Int), (C.1 : Int), (D.1 : Int)), r4, ?_, ?_, by dsimp only; omega⟩
  · unfold instL
    dsimp only
    simp only [Int.toNat_natCast]
    rw [List.append_assoc, List.append_assoc, List.append_assoc, ← e3, ← e2, ← e1]
    exact a1
  · unfold gInst
    dsimp only
    rw [hA, hB, hC, hD, d2, c2, b2, a2]
    rfl
theorem map_id' {Y : Type} (l : List Y) : [] ++ l.map id = l := by simp
theorem fin_got (t : St) (size : Int) (h : (t.fin size).bad = 0) : ∃ k : Nat, t = ⟨⟨List.replicate k 0, 0⟩, ⟨[], 0⟩, 0⟩ ∧ (k : Int) = padI (size - 4 - k) := by
  obtain ⟨al, inn, bad⟩ := t
  have h0 : (((St.mk al inn bad).fail inn.endE).fail (((al.pad (padI (size - 4 - al.rest.length))).endE))).bad = 0 := h
  obtain ⟨h1, h2⟩ := fail_zero _ _ h0
  obtain ⟨h3, h4⟩ := fail_zero _ _ h1
  have hb : bad = 0 := h3
  subst hb
  have hi := end_got inn h4
  subst hi
  have h5 := end_got _ h2
  obtain ⟨p, hp⟩ : ∃ p, padI (size - 4 - al.rest.length) = p := ⟨_, rfl⟩
  rw [hp] at h5
  by_cases hz : (al.bytes p).1.all (· == 0) = true
  · unfold Rd.pad at h5
    rw [if_pos hz] at h5
    obtain ⟨g1, g2, g3⟩ := bytes_got al p (by rw [h5])
    have g4 : (al.bytes p).2.rest = [] := by rw [h5]
    rw [g4, List.append_nil] at g1
    have hrep : (al.bytes p).1 = List.replicate (al.bytes p).1.length 0 := List.eq_replicate_iff.2 ⟨rfl, fun x hx => by have := List.all_eq_true.1 hz x hx; simpa using this⟩
    refine ⟨(al.bytes p).1.length, ?_, ?_⟩
    · rw [← hrep, ← g1]
    · have : al.rest.length = (al.bytes p).1.length := congrArg List.length (congrArg Rd.rest g1)
      rw [this] at hp
      exact g3.trans hp.symm
  · exfalso
    unfold Rd.pad at h5
    rw [if_neg hz] at h5
    have := congrArg Rd.e h5
    unfold Rd.fail at this
    split at this
    · simp at this
    · rename_i hh; exact hh this
/-- what was read of a program's sections -/
theorem gProg_got (l : List UInt8) (size : Int) (h : ((gProg ⟨⟨l, 0⟩, ⟨[], 0⟩, 0⟩).st.fin size).bad = 0) :
    ∃ (L : List I4) (K : List (List Rg)) (g k : Nat), (gProg ⟨⟨l, 0⟩, ⟨[], 0⟩, 0⟩).L = L ∧ (gProg ⟨⟨l, 0⟩, ⟨[], 0⟩, 0⟩).K = K ∧ (gProg ⟨⟨l, 0⟩, ⟨[], 0⟩, 0⟩).g = g ∧
      l = secL 1 (putL g) ++ (secL 2 (classesL K) ++ (secL 3 (instsL L) ++ List.replicate k 0)) ∧ (k : Int) = padI (size - 4 - k) := by
  obtain ⟨k, hk1, hk2⟩ := fin_got _ _ h
  obtain ⟨s1, hs1⟩ : ∃ x, (St.mk ⟨l, 0⟩ ⟨[], 0⟩ 0).section 1 = x := ⟨_, rfl⟩
  obtain ⟨s2, hs2⟩ : ∃ x, s1.number mw = x := ⟨_, rfl⟩
  obtain ⟨s3, hs3⟩ : ∃ x, s2.2.section 2 = x := ⟨_, rfl⟩
  obtain ⟨s4, hs4⟩ : ∃ x, s3.number 64 = x := ⟨_, rfl⟩
  obtain ⟨s5, hs5⟩ : ∃ x, many (fun s : SK => s.1.bad) gClass s4.1 (s4.2, []) = x := ⟨_, rfl⟩
  obtain ⟨s6, hs6⟩ : ∃ x, s5.1.section 3 = x := ⟨_, rfl⟩
  obtain ⟨s7, hs7⟩ : ∃ x, s6.number 512 = x := ⟨_, rfl⟩
  obtain ⟨s8, hs8⟩ : ∃ x, many (fun s : SI => s.1.bad) gInst s7.1 (s7.2, []) = x := ⟨_, rfl⟩
  have hG : gProg ⟨⟨l, 0⟩, ⟨[], 0⟩, 0⟩ = ⟨s8.1, s8.2, s5.2, s2.1⟩ := by
    unfold gProg
    dsimp only
    rw [hs1, hs2, hs3, hs4, hs5, hs6, hs7, hs8]
  rw [hG] at hk1 ⊢
  dsimp only at hk1 ⊢
  have b8 : s8.1.bad = 0 := by rw [hk1]
  have b7 : s7.2.bad = 0 := by
    rcases Decidable.em (s7.2.bad = 0) with h1 | h1
    · exact h1
    · rw [many_keep gInst _ _ _ h1] at hs8; rw [← hs8] at b8; exact absurd b8 h1
  have b6 : s6.bad = 0 := by rw [← hs7] at b7; exact number_bad _ _ b7
  have b5 : s5.1.bad = 0 := by
    rcases Decidable.em (s5.1.bad = 0) with h1 | h1
    · exact h1
    · have := section_keep s5.1 3 h1; rw [hs6] at this; rw [this] at b6; exact absurd b6 h1
  have b4' : s4.2.bad = 0 := by
    rcases Decidable.em (s4.2.bad = 0) with h1 | h1
    · exact h1
    · rw [many_keep gClass _ _ _ h1] at hs5; rw [← hs5] at b5; exact absurd b5 h1
  have b3 : s3.bad = 0 := by rw [← hs4] at b4'; exact number_bad _ _ b4'
  have b2 : s2.2.bad = 0 := by
    rcases Decidable.em (s2.2.bad = 0) with h1 | h1
    · exact h1
    · have := section_keep s2.2 2 h1; rw [hs3] at this; rw [this] at b3; exact absurd b3 h1
  have b1 : s1.bad = 0 := by rw [← hs2] at b2; exact number_bad _ _ b2
  obtain ⟨c1, r1, e1, f1, _⟩ := section_got _ 1 (by decide) (by rw [hs1]; exact b1)
  obtain ⟨r2, e2, f2, _⟩ := number_got s1 mw (by rw [hs2]; exact b2)
  obtain ⟨c3, r3, e3, f3, _⟩ := section_got s2.2 2 (by decide) (by rw [hs3]; exact b3)
  obtain ⟨r4, e4, f4, _⟩ := number_got s3 64 (by rw [hs4]; exact b4')
  rw [hs1] at f1
  rw [hs2] at e2 f2
  rw [hs3] at f3
  rw [hs4] at e4 f4
  obtain ⟨K, r5, hKl, hK1, hK2, _⟩ := many_got' clsL id (fun R => R.length ≤ 64) gClass class_got class_keep s4.1 s3.al r4 [] (by rw [← f4, hs5]; exact b5)
  rw [← f4, hs5, map_id'] at hK2
  obtain ⟨c6, r6, e6, f6, _⟩ := section_got s5.1 3 (by decide) (by rw [hs6]; exact b6)
  rw [hs6] at f6
  obtain ⟨r7, e7, f7, _⟩ := number_got s6 512 (by rw [hs7]; exact b7)
  rw [hs7] at e7 f7
  obtain ⟨L, r8, hLl, hL1, hL2, _⟩ := many_got' instL id (fun x => 0 ≤ x.1) gInst inst_got inst_keep s7.1 s6.al r7 [] (by rw [← f7, hs8]; exact b8)
  rw [← f7, hs8, map_id'] at hL2
  have q1 : l = secL 1 c1 ++ r1 := congrArg (fun s : St => s.al.rest) e1
  have q2 : c1 = putL s2.1 ++ r2 := by have := congrArg (fun s : St => s.inn.rest) e2; rw [f1] at this; exact this
  have q3 : r1 = secL 2 c3 ++ r3 ∧ r2 = [] := by
    rw [f2, f1] at e3
    exact ⟨congrArg (fun s : St => s.al.rest) e3, congrArg (fun s : St => s.inn.rest) e3⟩
  have q4 : c3 = putL s4.1 ++ r4 := by have := congrArg (fun s : St => s.inn.rest) e4; rw [f3] at this; exact this
  have q5 : s5.2 = K := by rw [hK2]
  have q6 : r3 = secL 3 c6 ++ r6 ∧ r5 = [] := by
    have h1 : s5.1 = ⟨s3.al, ⟨r5, 0⟩, 0⟩ := by rw [hK2]
    rw [h1, f3] at e6
    exact ⟨congrArg (fun s : St => s.al.rest) e6, congrArg (fun s : St => s.inn.rest) e6⟩
  have q7 : c6 = putL s7.1 ++ r7 := by have := congrArg (fun s : St => s.inn.rest) e7; rw [f6] at this; exact this
  have q8 : r6 = List.replicate k 0 ∧ r8 = [] := by
    have h1 : s8.1 = ⟨s6.al, ⟨r8, 0⟩, 0⟩ := by rw [hL2]
    rw [h1, f6] at hk1
    exact ⟨congrArg (fun s : St => s.al.rest) hk1, congrArg (fun s : St => s.inn.rest) hk1⟩
  refine ⟨L, K, s2.1, k, by rw [hL2], q5, rfl, ?_, hk2⟩
  rw [q1, q2, q3.2, List.append_nil, q3.1, q4, hK1, q6.2, List.append_nil, q6.1, q7, hL1, q8.2, List.append_nil, q8.1]
  unfold classesL instsL
  rw [hKl, hLl]
theorem eq_three (s : List UInt8) (a b c : UInt8) (h : s.take 3 = [a, b, c]) : s = [a, b, c] ++ s.drop 3 := by rw [← h, List.take_append_drop]
theorem kindE_two (s : List UInt8) : ((kindE s).2 = 0 → (kindE s).1 = 1 → s.take 3 = [87, 88, 80] ∧ 8 ≤ s.length ∧ s.length ≤ 65536) ∧ ((kindE s).2 = 0 → (kindE s).1 = 2 → s.take 3 = [87, 88, 84] ∧ 8 ≤ s.length ∧ s.length ≤ 65536) := by
  unfold kindE
  by_cases h1 : 65536 < s.length
  · rw [if_pos h1]; simp
  rw [if_neg h1]
  by_cases h2 : s.length < 8
  · rw [if_pos h2]; simp
  rw [if_neg h2]
  by_cases h3 : s.take 3 = [87, 88, 80]
  · rw [if_pos h3]
    exact ⟨fun _ _ => ⟨h3, by omega, by omega⟩, fun _ h => absurd h (by decide)⟩
  rw [if_neg h3]
  by_cases h4 : s.take 3 = [87, 88, 84]
  · rw [if_pos h4]
    exact ⟨fun _ h => absurd h (by decide), fun _ _ => ⟨h4, by omega, by omega⟩⟩
  rw [if_neg h4]
  exact ⟨fun h => absurd h (by decide), fun h => absurd h (by decide)⟩
theorem openE_zero (s : List UInt8) (kind : Int) (h : openE s kind = 0) : (kindE s).2 = 0 ∧ (kindE s).1 = kind ∧ sealed (s.take (s.length - 4)) = s.drop (s.length - 4) := by
  unfold openE at h
  split at h
  · rename_i h1; exact absurd h h1
  · rename_i h1
    split at h
    · exact absurd h (by decide)
    · rename_i h2
      split at h
      · exact absurd h (by decide)
      · rename_i h3
        exact ⟨Decidable.not_not.1 h1, Decidable.not_not.1 h2, Decidable.not_not.1 h3⟩
/-- a body, zeros that come to a multiple of four, their sum: it is sealed -/
theorem seal_of (s B : List UInt8) (k : Nat) (h8 : 8 ≤ s.length) (ht : s.take (s.length - 4) = B ++ List.replicate k 0) (hk : (k : Int) = padI ((s.length : Int) - 4 - k)) (hs : sealed (s.take (s.length - 4)) = s.drop (s.length - 4)) : s = sealL B := by
  have hl : s.length - 4 = B.length + k := by
    have := congrArg List.length ht
    rw [List.length_take, List.length_append, List.length_replicate] at this
    omega
  have hk2 : k = padN B.length := by
    rw [show (s.length : Int) - 4 - k = (B.length : Int) by omega, padI_nat] at hk
    omega
  have hp : padL B = s.take (s.length - 4) := by rw [ht, hk2]; rfl
  unfold sealL
  rw [hp, hs, List.take_append_drop]
/-- a program that was got is put as the bytes that were read -/
theorem prog_back (s : List UInt8) (h1 : openE s 1 = 0) (h2 : ((gProg (rd0 s)).st.fin s.length).bad = 0) : progL (gProg (rd0 s)).L (gProg (rd0 s)).K (gProg (rd0 s)).g = s := by
  obtain ⟨k1, k2, k3⟩ := openE_zero s 1 h1
  obtain ⟨t3, t8, _⟩ := (kindE_two s).1 k1 k2
  obtain ⟨L, K, g, k, e1, e2, e3, e4, e5⟩ := gProg_got _ _ h2
  have e6 : rd0 s = ⟨⟨(s.take (s.length - 4)).drop 3, 0⟩, ⟨[], 0⟩, 0⟩ := rfl
  rw [e6, e1, e2, e3]
  unfold progL blobL
  rw [Int.toNat_natCast]
  refine (seal_of s _ k t8 ?_ e5 k3).symm
  have h3 : (s.take (s.length - 4)).take 3 = [87, 88, 80] := by rw [List.take_take, show min 3 (s.length - 4) = 3 by omega]; exact t3
  rw [eq_three _ _ _ _ h3, e4]
  unfold bodyL
  simp only [List.append_assoc]
end Go.Proofs.YtmiacgkidldjmaaGreatDoor.Plain
