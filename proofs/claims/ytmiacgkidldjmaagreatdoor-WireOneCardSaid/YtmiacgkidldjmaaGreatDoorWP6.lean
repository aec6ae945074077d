/- Chapter 12 in plain words: a table that was got is put as the bytes that were read. Conditions: what each lemma says. -/
import Derived.Test.YtmiacgkidldjmaaGreatDoorWP5
set_option linter.unusedVariables false
set_option linter.unusedSimpArgs false
namespace Go.Proofs.YtmiacgkidldjmaaGreatDoor.Plain
theorem cell_got (t : St) (acc : List Int) (h : (gCell (t, acc)).1.bad = 0) :
    ∃ x r, t = ⟨t.al, ⟨putL x.toNat ++ r, 0⟩, 0⟩ ∧ gCell (t, acc) = (⟨t.al, ⟨r, 0⟩, 0⟩, acc ++ [id x]) ∧ (0 ≤ x) := by
  have h2 : (t.number mw).2.bad = 0 := h
  obtain ⟨r1, k1, k2, k3⟩ := number_got t mw h2
  refine ⟨((t.number mw).1 : Int), r1, by rw [Int.toNat_natCast]; exact k1, ?_, by omega⟩
  unfold gCell
  dsimp only
  rw [k2]
  rfl
theorem cell_keep (t : St) (acc : List Int) (h : t.bad ≠ 0) : (gCell (t, acc)).1.bad ≠ 0 := by
  show (t.number mw).2.bad ≠ 0
  rw [number_keep t mw h]; exact h
theorem acc_got (t : St) (acc : List Bool) (h : (gAcc (t, acc)).1.bad = 0) :
    ∃ x r, t = ⟨t.al, ⟨bitL x ++ r, 0⟩, 0⟩ ∧ gAcc (t, acc) = (⟨t.al, ⟨r, 0⟩, 0⟩, acc ++ [id x]) ∧ True := by
  have h2 : (t.number 1).2.bad = 0 := h
  obtain ⟨r1, k1, k2, k3⟩ := number_got t 1 h2
  refine ⟨(t.number 1).1 == 1, r1, ?_, ?_, trivial⟩
  · unfold bitL
    have : (if ((t.number 1).1 == 1) = true then 1 else 0) = (t.number 1).1 := by
      obtain ⟨n, hn⟩ : ∃ n, (t.number 1).1 = n := ⟨_, rfl⟩
      rw [hn] at k3 ⊢
      match n, k3 with
      | 0, _ => rfl
      | 1, _ => rfl
    rw [this]; exact k1
  · unfold gAcc
    dsimp only
    rw [k2]
    rfl
theorem acc_keep (t : St) (acc : List Bool) (h : t.bad ≠ 0) : (gAcc (t, acc)).1.bad ≠ 0 := by
  show (t.number 1).2.bad ≠ 0
  rw [number_keep t 1 h]; exact h
theorem row_keep (width : Nat) (t : St) (acc : List (List Int)) (h : t.bad ≠ 0) : (gRow width (t, acc)).1.bad ≠ 0 := by
  unfold gRow
  dsimp only
  rw [many_keep gCell _ _ _ h]
  exact h
/-- a row, where its width is not nought -/
theorem row_got (width : Nat) (hw : 0 < width) (t : St) (acc : List (List Int)) (h : (gRow width (t, acc)).1.bad = 0) :
    ∃ R r, t = ⟨t.al, ⟨rowL R ++ r, 0⟩, 0⟩ ∧ gRow width (t, acc) = (⟨t.al, ⟨r, 0⟩, 0⟩, acc ++ [id R]) ∧ R.length = width := by
  have h2 : (many (fun s : SW => s.1.bad) gCell width (t, [])).1.bad = 0 := h
  obtain ⟨R, r, hl, ht, hr, _, hm, _⟩ := many_got (fun x : Int => putL x.toNat) id (fun x => 0 ≤ x) gCell cell_got cell_keep width t [] h2
  refine ⟨R, r, ?_, ?_, hl⟩
  · rcases ht with ht | ht
    · omega
    · exact ht
  · unfold gRow
    dsimp only
    rw [hm, if_neg (by omega)]
    simp
/-- rows of no width: there is nothing to read -/
theorem rows_none : ∀ (n : Nat) (t : St) (acc : List (List Int)), t.bad = 0 → many (fun s : SN => s.1.bad) (gRow 0) n (t, acc) = (t, acc ++ List.replicate n []) := by
  intro n
  induction n with
  | zero => intro t acc _; simp [many]
  | succ n ih =>
    intro t acc h
    have e : gRow 0 (t, acc) = (t, acc ++ [[]]) := rfl
    unfold many
    rw [if_pos h, e, ih t _ h, List.replicate_succ]; simp
theorem parts_keep (n : Nat) (t : St) (a : Int) (acc : List Int) (h : t.bad ≠ 0) : many (fun s : SP => s.1.bad) gPart n (t, a, acc) = (t, a, acc) := many_bad _ gPart n _ h
theorem parts_got : ∀ (n : Nat) (al : Rd) (l : List UInt8) (a : Int) (acc : List Int), (many (fun s : SP => s.1.bad) gPart n (⟨al, ⟨l, 0⟩, 0⟩, a, acc)).1.bad = 0 →
    ∃ (P : List Int) (r : List UInt8), P.length = n ∧ l = ((diffs a P).flatMap fun d => putL d.toNat) ++ r ∧ (many (fun s : SP => s.1.bad) gPart n (⟨al, ⟨l, 0⟩, 0⟩, a, acc)).1 = ⟨al, ⟨r, 0⟩, 0⟩ ∧ (many (fun s : SP => s.1.bad) gPart n (⟨al, ⟨l, 0⟩, 0⟩, a, acc)).2.2 = acc ++ P := by
  intro n
  induction n with
  | zero => intro al l a acc _; exact ⟨[], l, rfl, rfl, rfl, by simp [many]⟩
  | succ n ih =>
    intro al l a acc h
    have e : many (fun s : SP => s.1.bad) gPart (n + 1) (⟨al, ⟨l, 0⟩, 0⟩, a, acc) = many (fun s : SP => s.1.bad) gPart n (gPart (⟨al, ⟨l, 0⟩, 0⟩, a, acc)) := by conv => lhs; unfold many; rw [if_pos rfl]
    rw [e] at h ⊢
    obtain ⟨x, hx⟩ : ∃ x, (St.mk al ⟨l, 0⟩ 0).number mw = x := ⟨_, rfl⟩
    have e2 : gPart (⟨al, ⟨l, 0⟩, 0⟩, a, acc) = (x.2, a + x.1, acc ++ [a + x.1]) := by unfold gPart; dsimp only; rw [hx]
    rw [e2] at h ⊢
    have hb : x.2.bad = 0 := by
      rcases Decidable.em (x.2.bad = 0) with h1 | h1
      · exact h1
      · rw [parts_keep _ _ _ _ h1] at h; exact absurd h h1
    obtain ⟨r1, k1, k2, k3⟩ := number_got (St.mk al ⟨l, 0⟩ 0) mw (by rw [hx]; exact hb)
    rw [hx] at k1 k2
    rw [k2] at h ⊢
    obtain ⟨P, r, hl, hr, hm, hp⟩ := ih al r1 (a + x.1) (acc ++ [a + x.1]) h
    refine ⟨(a + x.1) :: P, r, by rw [List.length_cons, hl], ?_, hm, by rw [hp]; simp⟩
    have k4 : l = putL x.1 ++ r1 := congrArg (fun s : St => s.inn.rest) k1
    unfold diffs
    rw [List.flatMap_cons, show (a + (x.1 : Int) - a) = (x.1 : Int) by omega, Int.toNat_natCast, List.append_assoc, ← hr]
    exact k4
/-- what was read of a table's sections -/
theorem gTab_got (l : List UInt8) (size : Int) (h : ((gTab ⟨⟨l, 0⟩, ⟨[], 0⟩, 0⟩).st.fin size).bad = 0) :
    ∃ (P : List Int) (N : List (List Int)) (C : List Bool) (k : Nat), (gTab ⟨⟨l, 0⟩, ⟨[], 0⟩, 0⟩).P = P ∧ (gTab ⟨⟨l, 0⟩, ⟨[], 0⟩, 0⟩).N = N ∧ (gTab ⟨⟨l, 0⟩, ⟨[], 0⟩, 0⟩).C = C ∧
      l = secL 4 (partsL P) ++ (secL 5 (nextL N) ++ (secL 6 (accL C) ++ List.replicate k 0)) ∧ (k : Int) = padI (size - 4 - k) := by
  obtain ⟨k, hk1, hk2⟩ := fin_got _ _ h
  obtain ⟨s1, hs1⟩ : ∃ x, (St.mk ⟨l, 0⟩ ⟨[], 0⟩ 0).section 4 = x := ⟨_, rfl⟩
  obtain ⟨s2, hs2⟩ : ∃ x, s1.number 64 = x := ⟨_, rfl⟩
  obtain ⟨s3, hs3⟩ : ∃ x, many (fun s : SP => s.1.bad) gPart s2.1 (s2.2, 0, []) = x := ⟨_, rfl⟩
  obtain ⟨s4, hs4⟩ : ∃ x, s3.1.section 5 = x := ⟨_, rfl⟩
  obtain ⟨s5, hs5⟩ : ∃ x, s4.number 64 = x := ⟨_, rfl⟩
  obtain ⟨s6, hs6⟩ : ∃ x, many (fun s : SN => s.1.bad) (gRow s2.1) s5.1 (s5.2, []) = x := ⟨_, rfl⟩
  obtain ⟨s7, hs7⟩ : ∃ x, s6.1.section 6 = x := ⟨_, rfl⟩
  obtain ⟨s8, hs8⟩ : ∃ x, s7.number 64 = x := ⟨_, rfl⟩
  obtain ⟨s9, hs9⟩ : ∃ x, many (fun s : SB => s.1.bad) gAcc s8.1 (s8.2, []) = x := ⟨_, rfl⟩
  have hG : gTab ⟨⟨l, 0⟩, ⟨[], 0⟩, 0⟩ = ⟨s9.1, s3.2.2, s6.2, s9.2⟩ := by
    unfold gTab
    dsimp only
    rw [hs1, hs2, hs3, hs4, hs5, hs6, hs7, hs8, hs9]
  rw [hG] at hk1 ⊢
  dsimp only at hk1 ⊢
  have b9 : s9.1.bad = 0 := by rw [hk1]
  have b8 : s8.2.bad = 0 := by
    rcases Decidable.em (s8.2.bad = 0) with h1 | h1
    · exact h1
    · rw [many_keep gAcc _ _ _ h1] at hs9; rw [← hs9] at b9; exact absurd b9 h1
  have b7 : s7.bad = 0 := by rw [← hs8] at b8; exact number_bad _ _ b8
  have b6 : s6.1.bad = 0 := by
    rcases Decidable.em (s6.1.bad = 0) with h1 | h1
    · exact h1
    · have := section_keep s6.1 6 h1; rw [hs7] at this; rw [this] at b7; exact absurd b7 h1
  have b5 : s5.2.bad = 0 := by
    rcases Decidable.em (s5.2.bad = 0) with h1 | h1
    · exact h1
    · rw [many_keep (gRow s2.1) _ _ _ h1] at hs6; rw [← hs6] at b6; exact absurd b6 h1
  have b4' : s4.bad = 0 := by rw [← hs5] at b5; exact number_bad _ _ b5
  have b3 : s3.1.bad = 0 := by
    rcases Decidable.em (s3.1.bad = 0) with h1 | h1
    · exact h1
    · have := section_keep s3.1 5 h1; rw [hs4] at this; rw [this] at b4'; exact absurd b4' h1
  have b2 : s2.2.bad = 0 := by
    rcases Decidable.em (s2.2.bad = 0) with h1 | h1
    · exact h1
    · rw [parts_keep _ _ _ _ h1] at hs3; rw [← hs3] at b3; exact absurd b3 h1
  have b1 : s1.bad = 0 := by rw [← hs2] at b2; exact number_bad _ _ b2
  obtain ⟨c1, r1, e1, f1, _⟩ := section_got _ 4 (by decide) (by rw [hs1]; exact b1)
  obtain ⟨r2, e2, f2, _⟩ := number_got s1 64 (by rw [hs2]; exact b2)
  rw [hs1] at f1
  rw [hs2] at e2 f2
  obtain ⟨P, r3, hPl, hP1, hP2, hP3⟩ := parts_got s2.1 s1.al r2 0 [] (by rw [← f2, hs3]; exact b3)
  rw [← f2, hs3] at hP2 hP3
  rw [List.nil_append] at hP3
  obtain ⟨c4, r4, e4, f4, _⟩ := section_got s3.1 5 (by decide) (by rw [hs4]; exact b4')
  rw [hs4] at f4
  obtain ⟨r5, e5, f5, _⟩ := number_got s4 64 (by rw [hs5]; exact b5)
  rw [hs5] at e5 f5
  have hrows : ∃ (N : List (List Int)) (r : List UInt8), N.length = s5.1 ∧ r5 = N.flatMap rowL ++ r ∧ s6 = (⟨s4.al, ⟨r, 0⟩, 0⟩, N) := by
    rcases Nat.eq_zero_or_pos s2.1 with h0 | h0
    · have hm := rows_none s5.1 s5.2 [] b5
      rw [h0] at hs6
      rw [hs6, List.nil_append] at hm
      refine ⟨List.replicate s5.1 [], r5, by simp, ?_, by rw [hm, f5]⟩
      have : (List.replicate s5.1 ([] : List Int)).flatMap rowL = [] := by
        induction s5.1 with
        | zero => rfl
        | succ n ih => rw [List.replicate_succ, List.flatMap_cons, ih]; rfl
      rw [this]; rfl
    · obtain ⟨N, r, hl, hr, hm, _⟩ := many_got' rowL id (fun R => R.length = s2.1) (gRow s2.1) (row_got s2.1 h0) (row_keep s2.1) s5.1 s4.al r5 [] (by rw [← f5, hs6]; exact b6)
      rw [← f5, hs6, map_id'] at hm
      exact ⟨N, r, hl, hr, hm⟩
  obtain ⟨N, r6, hNl, hN1, hN2⟩ := hrows
  obtain ⟨c7, r7, e7, f7, _⟩ := section_got s6.1 6 (by decide) (by rw [hs7]; exact b7)
  rw [hs7] at f7
  obtain ⟨r8, e8, f8, _⟩ := number_got s7 64 (by rw [hs8]; exact b8)
  rw [hs8] at e8 f8
  obtain ⟨C, r9, hCl, hC1, hC2, _⟩ := many_got' bitL id (fun _ => True) gAcc acc_got acc_keep s8.1 s7.al r8 [] (by rw [← f8, hs9]; exact b9)
  rw [← f8, hs9, map_id'] at hC2
  have q1 : l = secL 4 c1 ++ r1 := congrArg (fun s : St => s.al.rest) e1
  have q2 : c1 = putL s2.1 ++ r2 := by have := congrArg (fun s : St => s.inn.rest) e2; rw [f1] at this; exact this
  have q3 : r1 = secL 5 c4 ++ r4 ∧ r3 = [] := by
    rw [hP2, f1] at e4
    exact ⟨congrArg (fun s : St => s.al.rest) e4, congrArg (fun s : St => s.inn.rest) e4⟩
  have q4 : c4 = putL s5.1 ++ r5 := by have := congrArg (fun s : St => s.inn.rest) e5; rw [f4] at this; exact this
  have q6 : r4 = secL 6 c7 ++ r7 ∧ r6 = [] := by
    have h1 : s6.1 = ⟨s4.al, ⟨r6, 0⟩, 0⟩ := by rw [hN2]
    rw [h1, f4] at e7
    exact ⟨congrArg (fun s : St => s.al.rest) e7, congrArg (fun s : St => s.inn.rest) e7⟩
  have q7 : c7 = putL s8.1 ++ r8 := by have := congrArg (fun s : St => s.inn.rest) e8; rw [f7] at this; exact this
  have q8 : r7 = List.replicate k 0 ∧ r9 = [] := by
    have h1 : s9.1 = ⟨s7.al, ⟨r9, 0⟩, 0⟩ := by rw [hC2]
    rw [h1, f7] at hk1
    exact ⟨congrArg (fun s : St => s.al.rest) hk1, congrArg (fun s : St => s.inn.rest) hk1⟩
  refine ⟨P, N, C, k, hP3, by rw [hN2], by rw [hC2], ?_, hk2⟩
  rw [q1, q2, hP1, q3.2, List.append_nil, q3.1, q4, hN1, q6.2, List.append_nil, q6.1, q7, hC1, q8.2, List.append_nil, q8.1]
  unfold partsL nextL accL
  rw [hPl, hNl, hCl]
/-- a table that was got is put as the bytes that were read -/
theorem tab_back (s : List UInt8) (h1 : openE s 2 = 0) (h2 : ((gTab (rd0 s)).st.fin s.length).bad = 0) : tabL (gTab (rd0 s)).P (gTab (rd0 s)).N (gTab (rd0 s)).C = s := by
  obtain ⟨k1, k2, k3⟩ := openE_zero s 2 h1
  obtain ⟨t3, t8, _⟩ := (kindE_two s).2 k1 k2
  obtain ⟨P, N, C, k, e1, e2, e3, e4, e5⟩ := gTab_got _ _ h2
  have e6 : rd0 s = ⟨⟨(s.take (s.length - 4)).drop 3, 0⟩, ⟨[], 0⟩, 0⟩ := rfl
  rw [e6, e1, e2, e3]
  unfold tabL blobL
  refine (seal_of s _ k t8 ?_ e5 k3).symm
  have h3 : (s.take (s.length - 4)).take 3 = [87, 88, 84] := by rw [List.take_take, show min 3 (s.length - 4) = 3 by omega]; exact t3
  rw [eq_three _ _ _ _ h3, e4]
  unfold bodyL
  simp only [List.append_assoc]
end Go.Proofs.YtmiacgkidldjmaaGreatDoor.Plain
