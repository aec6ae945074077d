/- Chapter 12 in plain words: what was got is put as those bytes. Conditions: what each lemma says. -/
import Derived.Test.YtmiacgkidldjmaaGreatDoorWP3
set_option linter.unusedVariables false
set_option linter.unusedSimpArgs false
namespace Go.Proofs.YtmiacgkidldjmaaGreatDoor.Plain
theorem fail_zero (t : St) (e : Int) (h : (t.fail e).bad = 0) : t.bad = 0 ∧ e = 0 := by
  unfold St.fail at h
  dsimp only at h
  split at h
  · exact ⟨by assumption, h⟩
  · exact absurd h (by assumption)
theorem fail_zero' (t : St) (e : Int) (h : (t.fail e).bad = 0) : t.fail e = t := by
  obtain ⟨h1, h2⟩ := fail_zero t e h
  rw [h2]; exact St.fail_ok t
theorem next_got (r : Rd) (h : r.next.2.e = 0) : r = ⟨putL r.next.1 ++ r.next.2.rest, 0⟩ ∧ r.next.2 = ⟨r.next.2.rest, 0⟩ ∧ r.next.1 < 2 ^ 64 := by
  obtain ⟨l, e⟩ := r
  by_cases he : e = 0
  · subst he
    obtain ⟨⟨n, t, e'⟩, hg⟩ : ∃ x, goN 10 0 l = x := ⟨_, rfl⟩
    unfold Rd.next at h ⊢
    rw [if_pos rfl] at h ⊢
    dsimp only at h ⊢
    rw [hg] at h ⊢
    dsimp only at h ⊢
    have he' : e' = 0 := by exact_mod_cast h
    subst he'
    obtain ⟨m, h1, h2, h3, _⟩ := go_back 9 0 l n t (Nat.le_refl _) hg
    have hm : n = m := by rw [h2]; simp
    subst hm
    refine ⟨by rw [h1], rfl, by simpa using h3⟩
  · rw [next_err _ he] at h
    exact absurd h he
/-- a number that was read was put so -/
theorem number_got (t : St) (most : Nat) (h : (t.number most).2.bad = 0) :
    ∃ r, t = ⟨t.al, ⟨putL (t.number most).1 ++ r, 0⟩, 0⟩ ∧ (t.number most).2 = ⟨t.al, ⟨r, 0⟩, 0⟩ ∧ (t.number most).1 ≤ most := by
  obtain ⟨al, inn, bad⟩ := t
  have h0 : ((St.mk al inn bad).num1 most).bad = 0 := h
  have hle : ¬ most < inn.next.1 := by
    intro hlt
    unfold St.num1 at h0
    dsimp only at h0
    rw [if_pos hlt] at h0
    exact absurd (fail_zero _ _ h0).2 (by decide)
  have h1 : ((St.mk al inn.next.2 bad).fail inn.next.2.e).bad = 0 := by
    unfold St.num1 at h0
    dsimp only at h0
    rw [if_neg hle] at h0
    exact h0
  obtain ⟨hb, he⟩ := fail_zero _ _ h1
  have hb' : bad = 0 := hb
  subst hb'
  obtain ⟨g1, g2, _⟩ := next_got inn he
  have e1 : (St.mk al inn 0).num1 most = ⟨al, inn.next.2, 0⟩ := by
    unfold St.num1
    dsimp only
    rw [if_neg hle, fail_zero' _ _ h1]
  have e2 : (St.mk al inn 0).number most = (inn.next.1, ⟨al, inn.next.2, 0⟩) := by
    unfold St.number
    rw [e1]
    dsimp only
    rw [if_pos rfl]
  rw [e2]
  dsimp only
  exact ⟨inn.next.2.rest, by rw [← g1], by rw [← g2], by omega⟩
theorem bytes_got (r : Rd) (m : Int) (h : (r.bytes m).2.e = 0) : r = ⟨(r.bytes m).1 ++ (r.bytes m).2.rest, 0⟩ ∧ (r.bytes m).2 = ⟨(r.bytes m).2.rest, 0⟩ ∧ ((r.bytes m).1.length : Int) = m := by
  obtain ⟨l, e⟩ := r
  by_cases hc : e = 0 ∧ 0 ≤ m ∧ m ≤ (l.length : Int)
  · unfold Rd.bytes
    rw [if_pos hc]
    dsimp only
    obtain ⟨rfl, h0, h1⟩ := hc
    refine ⟨by rw [List.take_append_drop], rfl, by rw [List.length_take]; omega⟩
  · exfalso
    unfold Rd.bytes at h
    rw [if_neg hc] at h
    dsimp only at h
    unfold Rd.fail at h
    split at h
    · simp at h
    · rename_i h2; exact h2 h
theorem text_got (r : Rd) (m : Nat) (h : (r.text m).2.e = 0) : r = ⟨textL (r.text m).1 ++ (r.text m).2.rest, 0⟩ ∧ (r.text m).2 = ⟨(r.text m).2.rest, 0⟩ ∧ (r.text m).1.length ≤ m := by
  have hf : ∀ (x : Rd) (e : Int), e ≠ 0 → (x.fail e).e ≠ 0 := fun x e he => by
    unfold Rd.fail
    split
    · exact he
    · assumption
  by_cases h1 : m < r.next.1
  · exfalso
    unfold Rd.text at h
    rw [if_pos h1] at h
    exact hf _ 3 (by decide) h
  · by_cases h2 : r.next.2.rest.length < r.next.1
    · exfalso
      unfold Rd.text at h
      rw [if_neg h1, if_pos h2] at h
      exact hf _ 4 (by decide) h
    · have e : r.text m = r.next.2.bytes r.next.1 := by unfold Rd.text; rw [if_neg h1, if_neg h2]
      rw [e] at h ⊢
      obtain ⟨g1, g2, g3⟩ := bytes_got _ _ h
      have hn : r.next.2.e = 0 := by rw [g1]
      obtain ⟨k1, k2, _⟩ := next_got r hn
      have g4 : (r.next.2.bytes r.next.1).1.length = r.next.1 := by omega
      refine ⟨?_, g2, by omega⟩
      unfold textL
      rw [g4, List.append_assoc]
      have g5 : r.next.2.rest = (r.next.2.bytes r.next.1).1 ++ (r.next.2.bytes r.next.1).2.rest := congrArg Rd.rest g1
      rw [← g5]
      exact k1
theorem end_got (r : Rd) (h : r.endE = 0) : r = ⟨[], 0⟩ := by
  obtain ⟨l, e⟩ := r
  unfold Rd.endE at h
  dsimp only at h
  split at h
  · exact absurd h (by decide)
  · rename_i h1
    subst h
    by_cases hl : l = []
    · rw [hl]
    · exact absurd ⟨rfl, hl⟩ h1
/-- a section that was read was put so -/
theorem section_got (t : St) (tag : Nat) (ht : tag < 256) (h : (t.section tag).bad = 0) :
    ∃ s r, t = ⟨⟨secL tag s ++ r, 0⟩, ⟨[], 0⟩, 0⟩ ∧ t.section tag = ⟨⟨r, 0⟩, ⟨s, 0⟩, 0⟩ ∧ s.length ≤ 65536 := by
  obtain ⟨al, inn, bad⟩ := t
  obtain ⟨x, hx⟩ : ∃ x, (al.bytes 1).2.text 65536 = x := ⟨_, rfl⟩
  have h0 : ((secTag ⟨al, inn, bad⟩ tag).fail x.2.e).bad = 0 := by rw [← hx]; exact h
  obtain ⟨h1, h2⟩ := fail_zero _ _ h0
  have h3 : (((St.mk al inn bad).fail inn.endE).fail (al.bytes 1).2.e).bad = 0 ∧ ¬ ((al.bytes 1).2.e = 0 ∧ ((al.bytes 1).1.headD 0).toNat ≠ tag) := by
    unfold secTag at h1
    dsimp only at h1
    split at h1
    · exact absurd (fail_zero _ _ h1).2 (by decide)
    · rename_i hc
      exact ⟨h1, hc⟩
  obtain ⟨h4, h5⟩ := h3
  obtain ⟨h6, h7⟩ := fail_zero _ _ h4
  obtain ⟨h8, h9⟩ := fail_zero _ _ h6
  have hb : bad = 0 := h8
  subst hb
  have hi := end_got inn h9
  subst hi
  obtain ⟨g1, g2, g3⟩ := bytes_got al 1 h7
  have hhead : ((al.bytes 1).1.headD 0).toNat = tag := by
    rcases Nat.decEq ((al.bytes 1).1.headD 0).toNat tag with hne | he
    · exact absurd ⟨h7, hne⟩ h5
    · exact he
  have hone : (al.bytes 1).1 = [UInt8.ofNat tag] := by
    obtain ⟨l, hl⟩ : ∃ l, (al.bytes 1).1 = l := ⟨_, rfl⟩
    rw [hl] at hhead g3 ⊢
    match l, g3 with
    | [b], _ =>
      simp only [List.headD_cons] at hhead
      rw [← hhead]; simp
    | [], g3 => simp at g3
    | _ :: _ :: _, g3 => simp at g3; omega
  have hte : ((al.bytes 1).2.text 65536).2.e = 0 := by rw [hx]; exact h2
  obtain ⟨k1, k2, k3⟩ := text_got _ _ hte
  rw [hx] at k1 k2 k3
  refine ⟨x.1, x.2.rest, ?_, ?_, k3⟩
  · have ea : al = ⟨secL tag x.1 ++ x.2.rest, 0⟩ := by
      rw [g1, hone]
      have k4 : (al.bytes 1).2.rest = textL x.1 ++ x.2.rest := congrArg Rd.rest k1
      rw [k4]; rfl
    rw [← ea]
  · have e1 : (St.mk al ⟨[], 0⟩ 0).section tag = ⟨((al.bytes 1).2.text 65536).2, ⟨((al.bytes 1).2.text 65536).1, 0⟩, ((St.mk al ⟨[], 0⟩ 0).section tag).bad⟩ := rfl
    rw [e1, h, hx, ← k2]
/-- a row of things that was read was put so -/
theorem many_got {X Y : Type} (enc : X → List UInt8) (dec : X → Y) (G : X → Prop) (f : St × List Y → St × List Y)
    (hf : ∀ t acc, (f (t, acc)).1.bad = 0 → ∃ x r, t = ⟨t.al, ⟨enc x ++ r, 0⟩, 0⟩ ∧ f (t, acc) = (⟨t.al, ⟨r, 0⟩, 0⟩, acc ++ [dec x]) ∧ G x)
    (hk : ∀ t acc, t.bad ≠ 0 → (f (t, acc)).1.bad ≠ 0) :
    ∀ (n : Nat) (t : St) (acc : List Y), (many (fun s : St × List Y => s.1.bad) f n (t, acc)).1.bad = 0 →
      ∃ (xs : List X) (r : List UInt8), xs.length = n ∧ (n = 0 ∨ t = ⟨t.al, ⟨xs.flatMap enc ++ r, 0⟩, 0⟩) ∧ (n = 0 → r = t.inn.rest) ∧ t.bad = 0 ∧ many (fun s : St × List Y => s.1.bad) f n (t, acc) = (if n = 0 then t else ⟨t.al, ⟨r, 0⟩, 0⟩, acc ++ xs.map dec) ∧ ∀ x ∈ xs, G x := by
  intro n
  induction n with
  | zero => intro t acc h; exact ⟨[], t.inn.rest, rfl, .inl rfl, fun _ => rfl, h, by simp [many], fun x hx => absurd hx (by simp)⟩
  | succ n ih =>
    intro t acc h
    by_cases hb : t.bad = 0
    · have e : many (fun s : St × List Y => s.1.bad) f (n + 1) (t, acc) = many (fun s : St × List Y => s.1.bad) f n (f (t, acc)) := by conv => lhs; unfold many; rw [if_pos hb]
      rw [e] at h ⊢
      obtain ⟨⟨t1, acc1⟩, h1⟩ : ∃ x, f (t, acc) = x := ⟨_, rfl⟩
      rw [h1] at h ⊢
      obtain ⟨xs, r, hl, ht, hr0, hbad, hm, hg⟩ := ih t1 acc1 h
      obtain ⟨x, r1, k1, k2, k3⟩ := hf t acc (by rw [h1]; exact hbad)
      rw [h1] at k2
      injection k2 with k4 k5
      subst k4 k5
      refine ⟨x :: xs, r, by rw [List.length_cons, hl], .inr ?_, fun h => absurd h (by omega), hb, ?_, fun y hy => ?_⟩
      · rcases ht with h0 | ht
        · subst h0
          have : xs = [] := List.eq_nil_of_length_eq_zero hl
          subst this
          rw [hr0 rfl]
          simpa using k1
        · have h2 : r1 = xs.flatMap enc ++ r := congrArg (fun s : St => s.inn.rest) ht
          rw [List.flatMap_cons, List.append_assoc, ← h2]
          exact k1
      · rw [hm, if_neg (Nat.succ_ne_zero n)]
        by_cases h0 : n = 0
        · rw [if_pos h0, hr0 h0]; simp
        · rw [if_neg h0]; simp
      · rcases List.mem_cons.1 hy with e | e
        · subst e; exact k3
        · exact hg y e
    · rw [many_bad _ f _ _ hb] at h
      exact absurd h hb
end Go.Proofs.YtmiacgkidldjmaaGreatDoor.Plain
