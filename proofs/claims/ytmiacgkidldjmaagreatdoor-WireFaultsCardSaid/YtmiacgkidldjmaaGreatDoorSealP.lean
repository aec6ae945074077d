/- Chapter 13 in plain words: does one go round, what is reached of a table, a bound. Conditions: what each lemma says. -/
set_option linter.unusedVariables false
set_option linter.unusedSimpArgs false
namespace Go.Proofs.YtmiacgkidldjmaaGreatDoor.Plain
abbrev J4 := Int × Int × Int × Int
/-- how far a place is gone through, one of them turned -/
def upd (s : Nat → Nat) (k v : Nat) : Nat → Nat := fun j => if j = k then v else s j
theorem upd_same (s : Nat → Nat) (k v : Nat) : upd s k v k = v := if_pos rfl
theorem upd_other (s : Nat → Nat) (k v j : Nat) (h : j ≠ k) : upd s k v j = s j := if_neg h
/-- does one go round from a place on; how far all are gone through then -/
def lp (L : List J4) : Nat → (Nat → Nat) → Nat → Bool × (Nat → Nat)
  | 0, s, _ => (false, s)
  | f + 1, s, k =>
    if (L.getD k (0, 0, 0, 0)).1 = 0 ∨ (L.getD k (0, 0, 0, 0)).1 = 1 ∨ s k = 2 then (false, s)
    else if s k = 1 then (true, s)
    else
      let a := lp L f (upd s k 1) (L.getD k (0, 0, 0, 0)).2.1.toNat
      let b := if a.1 = true then a else if (L.getD k (0, 0, 0, 0)).1 = 2 then lp L f a.2 (L.getD k (0, 0, 0, 0)).2.2.1.toNat else a
      (b.1, upd b.2 k 2)
/-- how many are not gone through -/
def uns (n : Nat) (s : Nat → Nat) : Nat := (List.range n).countP fun j => s j == 0
theorem uns_le (n : Nat) (s : Nat → Nat) : uns n s ≤ n := by unfold uns; have := List.countP_le_length (p := fun j => s j == 0) (l := List.range n); rwa [List.length_range] at this
theorem uns_mono (n : Nat) (s t : Nat → Nat) (h : ∀ j, s j ≠ 0 → t j ≠ 0) : uns n t ≤ uns n s := by
  unfold uns
  refine List.countP_mono_left fun j _ hj => ?_
  simp only [beq_iff_eq] at hj ⊢
  rcases Nat.eq_zero_or_pos (s j) with e | e
  · exact e
  · exact absurd hj (h j (by omega))
theorem uns_upd : ∀ (n : Nat) (s : Nat → Nat) (k v : Nat), k < n → s k = 0 → v ≠ 0 → uns n (upd s k v) + 1 = uns n s := by
  intro n
  induction n with
  | zero => intro s k v h; omega
  | succ n ih =>
    intro s k v h h0 hv
    unfold uns
    rw [List.range_succ, List.countP_append, List.countP_append]
    by_cases e : k = n
    · subst e
      have : (List.range k).countP (fun j => upd s k v j == 0) = (List.range k).countP fun j => s j == 0 := by
        refine List.countP_congr fun j hj => ?_
        have := List.mem_range.1 hj
        rw [upd_other s k v j (by omega)]
      rw [this]
      simp [upd_same, h0, hv]
    · have := ih s k v (by omega) h0 hv
      unfold uns at this
      have e2 : [n].countP (fun j => upd s k v j == 0) = [n].countP fun j => s j == 0 := by
        simp only [List.countP_cons, List.countP_nil]
        rw [upd_other s k v n (fun h => e h.symm)]
      rw [e2]; omega
theorem lp_zero (L : List J4) (s : Nat → Nat) (k : Nat) : lp L 0 s k = (false, s) := rfl
theorem lp_out (L : List J4) (f : Nat) (s : Nat → Nat) (k : Nat) (h : (L.getD k (0, 0, 0, 0)).1 = 0 ∨ (L.getD k (0, 0, 0, 0)).1 = 1 ∨ s k = 2) : lp L (f + 1) s k = (false, s) := by
  unfold lp; rw [if_pos h]
theorem lp_round (L : List J4) (f : Nat) (s : Nat → Nat) (k : Nat) (h : ¬ ((L.getD k (0, 0, 0, 0)).1 = 0 ∨ (L.getD k (0, 0, 0, 0)).1 = 1 ∨ s k = 2)) (h1 : s k = 1) : lp L (f + 1) s k = (true, s) := by
  unfold lp; rw [if_neg h, if_pos h1]
theorem lp_in (L : List J4) (f : Nat) (s : Nat → Nat) (k : Nat) (h : ¬ ((L.getD k (0, 0, 0, 0)).1 = 0 ∨ (L.getD k (0, 0, 0, 0)).1 = 1 ∨ s k = 2)) (h1 : s k ≠ 1) (a b : Bool × (Nat → Nat))
    (ha : lp L f (upd s k 1) (L.getD k (0, 0, 0, 0)).2.1.toNat = a) (hb : (if a.1 = true then a else if (L.getD k (0, 0, 0, 0)).1 = 2 then lp L f a.2 (L.getD k (0, 0, 0, 0)).2.2.1.toNat else a) = b) :
    lp L (f + 1) s k = (b.1, upd b.2 k 2) := by
  conv => lhs; unfold lp
  rw [if_neg h, if_neg h1, ha, ← hb]
/-- what is gone through stays so; what is not is so, or wholly -/
def Goes (s t : Nat → Nat) : Prop := (∀ j, s j ≠ 0 → t j = s j) ∧ ∀ j, s j = 0 → t j = 0 ∨ t j = 2
theorem Goes.refl (s : Nat → Nat) : Goes s s := ⟨fun _ _ => rfl, fun _ h => .inl h⟩
theorem Goes.trans {s t u : Nat → Nat} (h : Goes s t) (k : Goes t u) : Goes s u :=
  ⟨fun j hj => by rw [k.1 j (by rw [h.1 j hj]; exact hj), h.1 j hj], fun j hj => by
    rcases h.2 j hj with e | e
    · exact k.2 j e
    · exact .inr (by rw [k.1 j (by omega), e])⟩
theorem Goes.close {s t : Nat → Nat} {k : Nat} (h0 : s k = 0) (h : Goes (upd s k 1) t) : Goes s (upd t k 2) :=
  ⟨fun j hj => by
    have e : j ≠ k := fun e => hj (e ▸ h0)
    rw [upd_other _ _ _ _ e, h.1 j (by rw [upd_other _ _ _ _ e]; exact hj), upd_other _ _ _ _ e], fun j hj => by
    by_cases e : j = k
    · subst e; exact .inr (upd_same _ _ _)
    · rw [upd_other _ _ _ _ e]; exact h.2 j (by rw [upd_other _ _ _ _ e]; exact hj)⟩
theorem Goes.uns {s t : Nat → Nat} (h : Goes s t) (n : Nat) : uns n t ≤ uns n s := uns_mono n s t fun j hj => by rw [h.1 j hj]; exact hj
theorem lp_goes (L : List J4) : ∀ (f : Nat) (s : Nat → Nat) (k : Nat), (∀ j, s j ≤ 2) → Goes s (lp L f s k).2 ∧ ∀ j, (lp L f s k).2 j ≤ 2 := by
  intro f
  induction f with
  | zero => intro s k hs; exact ⟨Goes.refl s, hs⟩
  | succ f ih =>
    intro s k hs
    by_cases h : (L.getD k (0, 0, 0, 0)).1 = 0 ∨ (L.getD k (0, 0, 0, 0)).1 = 1 ∨ s k = 2
    · rw [lp_out L f s k h]; exact ⟨Goes.refl s, hs⟩
    by_cases h1 : s k = 1
    · rw [lp_round L f s k h h1]; exact ⟨Goes.refl s, hs⟩
    have h0 : s k = 0 := by have := hs k; have := fun e => h (.inr (.inr e)); omega
    obtain ⟨a, ha⟩ : ∃ a, lp L f (upd s k 1) (L.getD k (0, 0, 0, 0)).2.1.toNat = a := ⟨_, rfl⟩
    have hs1 : ∀ j, upd s k 1 j ≤ 2 := fun j => by unfold upd; split; omega; exact hs j
    have ga := ih (upd s k 1) (L.getD k (0, 0, 0, 0)).2.1.toNat hs1
    rw [ha] at ga
    obtain ⟨b, hb⟩ : ∃ b, (if a.1 = true then a else if (L.getD k (0, 0, 0, 0)).1 = 2 then lp L f a.2 (L.getD k (0, 0, 0, 0)).2.2.1.toNat else a) = b := ⟨_, rfl⟩
    have gb : Goes (upd s k 1) b.2 ∧ ∀ j, b.2 j ≤ 2 := by
      rw [← hb]
      split
      · exact ga
      · split
        · have g2 := ih a.2 (L.getD k (0, 0, 0, 0)).2.2.1.toNat ga.2
          exact ⟨ga.1.trans g2.1, g2.2⟩
        · exact ga
    rw [lp_in L f s k h h1 a b ha hb]
    exact ⟨Goes.close h0 gb.1, fun j => by dsimp only; unfold upd; split; omega; exact gb.2 j⟩
/-- where all go forward nobody goes round -/
theorem lp_forward (L : List J4) (C : Nat → Prop)
    (hC : ∀ j, C j → ¬ ((L.getD j (0, 0, 0, 0)).1 = 0 ∨ (L.getD j (0, 0, 0, 0)).1 = 1) → (C (L.getD j (0, 0, 0, 0)).2.1.toNat ∧ j < (L.getD j (0, 0, 0, 0)).2.1.toNat) ∧ ((L.getD j (0, 0, 0, 0)).1 = 2 → C (L.getD j (0, 0, 0, 0)).2.2.1.toNat ∧ j < (L.getD j (0, 0, 0, 0)).2.2.1.toNat)) :
    ∀ (f : Nat) (s : Nat → Nat) (k : Nat), (∀ j, s j ≤ 2) → C k → (∀ j, s j = 1 → j < k) → (lp L f s k).1 = false := by
  intro f
  induction f with
  | zero => intro s k _ _ _; rfl
  | succ f ih =>
    intro s k hs hk ho
    by_cases h : (L.getD k (0, 0, 0, 0)).1 = 0 ∨ (L.getD k (0, 0, 0, 0)).1 = 1 ∨ s k = 2
    · rw [lp_out L f s k h]
    have h1 : s k ≠ 1 := fun e => absurd (ho k e) (by omega)
    have h0 : s k = 0 := by have := hs k; have := fun e => h (.inr (.inr e)); omega
    obtain ⟨a, ha⟩ : ∃ a, lp L f (upd s k 1) (L.getD k (0, 0, 0, 0)).2.1.toNat = a := ⟨_, rfl⟩
    have hs1 : ∀ j, upd s k 1 j ≤ 2 := fun j => by unfold upd; split; omega; exact hs j
    obtain ⟨c1, c2⟩ := hC k hk (fun e => h (by rcases e with e | e; exact .inl e; exact .inr (.inl e)))
    have ho1 : ∀ j, upd s k 1 j = 1 → j ≤ k := fun j hj => by
      by_cases e : j = k
      · omega
      · rw [upd_other _ _ _ _ e] at hj; have := ho j hj; omega
    have ea := ih (upd s k 1) _ hs1 c1.1 fun j hj => by have := ho1 j hj; omega
    have ga := lp_goes L f (upd s k 1) (L.getD k (0, 0, 0, 0)).2.1.toNat hs1
    rw [ha] at ea ga
    obtain ⟨b, hb⟩ : ∃ b, (if a.1 = true then a else if (L.getD k (0, 0, 0, 0)).1 = 2 then lp L f a.2 (L.getD k (0, 0, 0, 0)).2.2.1.toNat else a) = b := ⟨_, rfl⟩
    have eb : b.1 = false := by
      rw [← hb, if_neg (by rw [ea]; decide)]
      split
      · rename_i h2
        refine ih a.2 _ ga.2 (c2 h2).1 fun j hj => ?_
        have : upd s k 1 j = 1 := by
          rcases Nat.eq_zero_or_pos (upd s k 1 j) with e | e
          · rcases ga.1.2 j e with e2 | e2 <;> omega
          · rw [← ga.1.1 j (by omega)]; exact hj
        have := ho1 j this
        have := (c2 h2).2
        omega
      · exact ea
    rw [lp_in L f s k h h1 a b ha hb]
    exact eb
/-- who goes to himself goes round, once he is come to -/
theorem lp_self (L : List J4) (n t : Nat) (ht : t < n) (h3 : (L.getD t (0, 0, 0, 0)).1 = 3) (hx : (L.getD t (0, 0, 0, 0)).2.1.toNat = t) :
    ∀ (f : Nat) (s : Nat → Nat) (k : Nat), (∀ j, s j ≤ 2) → k < n → (∀ j, j < n → ¬ ((L.getD j (0, 0, 0, 0)).1 = 0 ∨ (L.getD j (0, 0, 0, 0)).1 = 1) → (L.getD j (0, 0, 0, 0)).2.1.toNat < n ∧ ((L.getD j (0, 0, 0, 0)).1 = 2 → (L.getD j (0, 0, 0, 0)).2.2.1.toNat < n)) →
      uns n s < f → s t = 0 → (lp L f s k).2 t ≠ 0 → (lp L f s k).1 = true := by
  intro f
  induction f with
  | zero => intro s k _ _ _ hu; omega
  | succ f ih =>
    intro s k hs hkn hin hu h0t hn
    by_cases h : (L.getD k (0, 0, 0, 0)).1 = 0 ∨ (L.getD k (0, 0, 0, 0)).1 = 1 ∨ s k = 2
    · rw [lp_out L f s k h] at hn; exact absurd h0t hn
    by_cases h1 : s k = 1
    · rw [lp_round L f s k h h1]
    have h0 : s k = 0 := by have := hs k; have := fun e => h (.inr (.inr e)); omega
    obtain ⟨a, ha⟩ : ∃ a, lp L f (upd s k 1) (L.getD k (0, 0, 0, 0)).2.1.toNat = a := ⟨_, rfl⟩
    obtain ⟨b, hb⟩ : ∃ b, (if a.1 = true then a else if (L.getD k (0, 0, 0, 0)).1 = 2 then lp L f a.2 (L.getD k (0, 0, 0, 0)).2.2.1.toNat else a) = b := ⟨_, rfl⟩
    have hs1 : ∀ j, upd s k 1 j ≤ 2 := fun j => by unfold upd; split; omega; exact hs j
    have hu1 := uns_upd n s k 1 hkn h0 (by decide)
    obtain ⟨i1, i2⟩ := hin k hkn fun e => h (by rcases e with e | e; exact .inl e; exact .inr (.inl e))
    rw [lp_in L f s k h h1 a b ha hb] at hn ⊢
    dsimp only at hn ⊢
    by_cases e : k = t
    · subst e
      rw [hx] at ha
      obtain ⟨f', rfl⟩ : ∃ f', f = f' + 1 := ⟨f - 1, by omega⟩
      rw [lp_round L f' (upd s k 1) k (by rw [upd_same]; omega) (upd_same _ _ _)] at ha
      rw [← hb, ← ha, if_pos rfl]
    · rw [upd_other _ _ _ _ (Ne.symm e)] at hn
      have h0t1 : upd s k 1 t = 0 := by rw [upd_other _ _ _ _ (Ne.symm e)]; exact h0t
      have ga := lp_goes L f (upd s k 1) (L.getD k (0, 0, 0, 0)).2.1.toNat hs1
      have ia := ih (upd s k 1) (L.getD k (0, 0, 0, 0)).2.1.toNat hs1 i1 hin (by omega) h0t1
      rw [ha] at ga ia
      rw [← hb] at hn ⊢
      by_cases e1 : a.1 = true
      · rw [if_pos e1]; exact e1
      · rw [if_neg e1] at hn ⊢
        have hat : a.2 t = 0 := Decidable.byContradiction fun hh => e1 (ia hh)
        by_cases e2 : (L.getD k (0, 0, 0, 0)).1 = 2
        · rw [if_pos e2] at hn ⊢
          exact ih a.2 _ ga.2 (i2 e2) hin (by have := ga.1.uns n; omega) hat hn
        · rw [if_neg e2] at hn
          exact absurd hat hn
/-- who is come to -/
theorem lp_come (L : List J4) (f : Nat) (s : Nat → Nat) (k : Nat) (h : ¬ ((L.getD k (0, 0, 0, 0)).1 = 0 ∨ (L.getD k (0, 0, 0, 0)).1 = 1)) : (lp L (f + 1) s k).2 k ≠ 0 := by
  by_cases h2 : (L.getD k (0, 0, 0, 0)).1 = 0 ∨ (L.getD k (0, 0, 0, 0)).1 = 1 ∨ s k = 2
  · rw [lp_out L f s k h2]
    have : s k = 2 := by rcases h2 with e | e | e; exact absurd (.inl e) h; exact absurd (.inr e) h; exact e
    dsimp only; omega
  by_cases h1 : s k = 1
  · rw [lp_round L f s k h2 h1]; dsimp only; omega
  rw [lp_in L f s k h2 h1 _ _ rfl rfl]
  dsimp only
  rw [upd_same]; decide
/-- only those that are gone to count -/
theorem lp_more (L E : List J4) : ∀ (f : Nat) (s : Nat → Nat) (k : Nat), k < L.length → (∀ j, j < L.length → ¬ ((L.getD j (0, 0, 0, 0)).1 = 0 ∨ (L.getD j (0, 0, 0, 0)).1 = 1) → (L.getD j (0, 0, 0, 0)).2.1.toNat < L.length ∧ ((L.getD j (0, 0, 0, 0)).1 = 2 → (L.getD j (0, 0, 0, 0)).2.2.1.toNat < L.length)) →
    lp (L ++ E) f s k = lp L f s k := by
  intro f
  induction f with
  | zero => intro s k _ _; rfl
  | succ f ih =>
    intro s k hk hin
    have eg : (L ++ E).getD k (0, 0, 0, 0) = L.getD k (0, 0, 0, 0) := by rw [List.getD_eq_getElem?_getD, List.getElem?_append_left hk, ← List.getD_eq_getElem?_getD]
    by_cases h : (L.getD k (0, 0, 0, 0)).1 = 0 ∨ (L.getD k (0, 0, 0, 0)).1 = 1 ∨ s k = 2
    · rw [lp_out L f s k h, lp_out (L ++ E) f s k (by rw [eg]; exact h)]
    by_cases h1 : s k = 1
    · rw [lp_round L f s k h h1, lp_round (L ++ E) f s k (by rw [eg]; exact h) h1]
    obtain ⟨i1, i2⟩ := hin k hk fun e => h (by rcases e with e | e; exact .inl e; exact .inr (.inl e))
    rw [lp_in L f s k h h1 _ _ rfl rfl, lp_in (L ++ E) f s k (by rw [eg]; exact h) h1 _ _ rfl rfl, eg, ih _ _ i1 hin]
    by_cases e2 : (L.getD k (0, 0, 0, 0)).1 = 2
    · simp only [if_pos e2]; rw [ih _ _ (i2 e2) hin]
    · simp only [if_neg e2]
/-- what is known of a program, place by place -/
structure PI where
  reached : Nat
  loops : Bool
  hits : Bool
  queue : Nat
  seen : Nat → Nat
def piStep (L : List J4) (O : Nat → Bool) (x : PI) (k : Nat) : PI :=
  if O k = true then
    if (L.getD k (0, 0, 0, 0)).1 = 0 then ⟨x.reached + 1, x.loops, true, x.queue + 1, x.seen⟩
    else if (L.getD k (0, 0, 0, 0)).1 = 1 then ⟨x.reached + 1, x.loops, x.hits, x.queue + 1, x.seen⟩
    else if x.loops = true then ⟨x.reached + 1, true, x.hits, x.queue, x.seen⟩
    else ⟨x.reached + 1, (lp L 600 x.seen k).1, x.hits, x.queue, (lp L 600 x.seen k).2⟩
  else x
def pi0 : PI := ⟨0, false, false, 0, fun _ => 0⟩
def piOf (L : List J4) (O : Nat → Bool) (n : Nat) : PI := (List.range n).foldl (piStep L O) pi0
theorem piOf_succ (L : List J4) (O : Nat → Bool) (n : Nat) : piOf L O (n + 1) = piStep L O (piOf L O n) n := by unfold piOf; rw [List.range_succ, List.foldl_append]; rfl
theorem piOf_fine (L : List J4) (O : Nat → Bool) (n : Nat) : (piOf L O n).reached ≤ n ∧ (piOf L O n).queue ≤ (piOf L O n).reached ∧ ((piOf L O n).hits = true → 0 < (piOf L O n).queue) ∧ ∀ j, (piOf L O n).seen j = 0 ∨ (piOf L O n).seen j = 2 := by
  induction n with
  | zero => exact ⟨Nat.le_refl _, Nat.le_refl _, (fun h => by cases h), fun j => .inl rfl⟩
  | succ n ih =>
    rw [piOf_succ]
    obtain ⟨x, hx⟩ : ∃ x, piOf L O n = x := ⟨_, rfl⟩
    rw [hx] at ih ⊢
    obtain ⟨h1, h2, h3, h4⟩ := ih
    unfold piStep
    by_cases e : O n = true
    case neg => rw [if_neg e]; exact ⟨by omega, h2, h3, h4⟩
    rw [if_pos e]
    by_cases e0 : (L.getD n (0, 0, 0, 0)).1 = 0
    · rw [if_pos e0]; exact ⟨by dsimp only; omega, by dsimp only; omega, fun _ => by dsimp only; omega, h4⟩
    rw [if_neg e0]
    by_cases e1 : (L.getD n (0, 0, 0, 0)).1 = 1
    · rw [if_pos e1]; exact ⟨by dsimp only; omega, by dsimp only; omega, fun _ => by dsimp only; omega, h4⟩
    rw [if_neg e1]
    by_cases e2 : x.loops = true
    · rw [if_pos e2]; exact ⟨by dsimp only; omega, by dsimp only; omega, h3, h4⟩
    rw [if_neg e2]
    refine ⟨by dsimp only; omega, by dsimp only; omega, h3, fun j => ?_⟩
    have g := (lp_goes L 600 x.seen n fun j => by rcases h4 j with e | e <;> omega).1
    dsimp only
    rcases h4 j with e | e
    · exact g.2 j e
    · exact .inr (by rw [g.1 j (by omega), e])
/-- a program that goes forward alone does not go round -/
theorem pi_forward (L : List J4) (O : Nat → Bool)
    (hC : ∀ j, O j = true → ¬ ((L.getD j (0, 0, 0, 0)).1 = 0 ∨ (L.getD j (0, 0, 0, 0)).1 = 1) → (O (L.getD j (0, 0, 0, 0)).2.1.toNat = true ∧ j < (L.getD j (0, 0, 0, 0)).2.1.toNat) ∧ ((L.getD j (0, 0, 0, 0)).1 = 2 → O (L.getD j (0, 0, 0, 0)).2.2.1.toNat = true ∧ j < (L.getD j (0, 0, 0, 0)).2.2.1.toNat)) (n : Nat) :
    (piOf L O n).loops = false := by
  induction n with
  | zero => rfl
  | succ n ih =>
    rw [piOf_succ]
    have h4 := (piOf_fine L O n).2.2.2
    obtain ⟨x, hx⟩ : ∃ x, piOf L O n = x := ⟨_, rfl⟩
    rw [hx] at ih h4 ⊢
    unfold piStep
    by_cases e : O n = true
    case neg => rw [if_neg e]; exact ih
    rw [if_pos e]
    by_cases e0 : (L.getD n (0, 0, 0, 0)).1 = 0
    · rw [if_pos e0]; exact ih
    rw [if_neg e0]
    by_cases e1 : (L.getD n (0, 0, 0, 0)).1 = 1
    · rw [if_pos e1]; exact ih
    rw [if_neg e1, if_neg (by rw [ih]; decide)]
    exact lp_forward L (fun j => O j = true) hC 600 x.seen n (fun j => by rcases h4 j with e | e <;> omega) e fun j hj => by rcases h4 j with e | e <;> omega
/-- one that goes to itself, and is reached, goes round -/
theorem pi_self (L : List J4) (O : Nat → Bool) (N t : Nat) (hN : N < 600) (ht : t < N) (hO : O t = true) (h3 : (L.getD t (0, 0, 0, 0)).1 = 3) (hx : (L.getD t (0, 0, 0, 0)).2.1.toNat = t)
    (hin : ∀ j, j < N → ¬ ((L.getD j (0, 0, 0, 0)).1 = 0 ∨ (L.getD j (0, 0, 0, 0)).1 = 1) → (L.getD j (0, 0, 0, 0)).2.1.toNat < N ∧ ((L.getD j (0, 0, 0, 0)).1 = 2 → (L.getD j (0, 0, 0, 0)).2.2.1.toNat < N)) :
    ∀ n, n ≤ N → ((piOf L O n).loops = false → (piOf L O n).seen t = 0) ∧ (t < n → (piOf L O n).loops = true) := by
  intro n
  induction n with
  | zero => intro _; exact ⟨fun _ => rfl, fun h => by omega⟩
  | succ n ih =>
    intro hn
    obtain ⟨i1, i2⟩ := ih (by omega)
    rw [piOf_succ]
    have h4 := (piOf_fine L O n).2.2.2
    obtain ⟨x, hx'⟩ : ∃ x, piOf L O n = x := ⟨_, rfl⟩
    rw [hx'] at i1 i2 h4 ⊢
    unfold piStep
    by_cases e : O n = true
    case neg =>
      rw [if_neg e]
      refine ⟨i1, fun h => i2 ?_⟩
      rcases Nat.lt_or_ge t n with h' | h'
      · exact h'
      · obtain rfl : t = n := by omega
        exact absurd hO e
    rw [if_pos e]
    by_cases e0 : (L.getD n (0, 0, 0, 0)).1 = 0
    · rw [if_pos e0]
      refine ⟨i1, fun h => i2 ?_⟩
      rcases Nat.lt_or_ge t n with h' | h'
      · exact h'
      · obtain rfl : t = n := by omega
        rw [h3] at e0; exact absurd e0 (by decide)
    rw [if_neg e0]
    by_cases e1 : (L.getD n (0, 0, 0, 0)).1 = 1
    · rw [if_pos e1]
      refine ⟨i1, fun h => i2 ?_⟩
      rcases Nat.lt_or_ge t n with h' | h'
      · exact h'
      · obtain rfl : t = n := by omega
        rw [h3] at e1; exact absurd e1 (by decide)
    rw [if_neg e1]
    by_cases e2 : x.loops = true
    · rw [if_pos e2]; exact ⟨(fun h => by cases h), fun _ => rfl⟩
    rw [if_neg e2]
    dsimp only
    have h0 := i1 (by simpa using e2)
    have hs : ∀ j, x.seen j ≤ 2 := fun j => by rcases h4 j with e | e <;> omega
    have key := lp_self L N t ht h3 hx 600 x.seen n hs (by omega) hin (by have := uns_le N x.seen; omega) h0
    refine ⟨fun h => Decidable.byContradiction fun hh => ?_, fun h => ?_⟩
    · rw [key hh] at h; cases h
    · rcases Nat.lt_or_ge t n with h' | h'
      · exact absurd (i2 h') e2
      · obtain rfl : t = n := by omega
        exact key (lp_come L 599 x.seen t (by rw [h3]; decide))
/-- more that is not reached is not told -/
theorem pi_more (L E : List J4) (O O' : Nat → Bool) (hO : ∀ j, j < L.length → O' j = O j) (hE : ∀ j, L.length ≤ j → O' j = false)
    (hin : ∀ j, j < L.length → ¬ ((L.getD j (0, 0, 0, 0)).1 = 0 ∨ (L.getD j (0, 0, 0, 0)).1 = 1) → (L.getD j (0, 0, 0, 0)).2.1.toNat < L.length ∧ ((L.getD j (0, 0, 0, 0)).1 = 2 → (L.getD j (0, 0, 0, 0)).2.2.1.toNat < L.length)) :
    ∀ n, n ≤ L.length → piOf (L ++ E) O' n = piOf L O n := by
  intro n
  induction n with
  | zero => intro _; rfl
  | succ n ih =>
    intro hn
    rw [piOf_succ, piOf_succ, ih (by omega)]
    have eg : (L ++ E).getD n (0, 0, 0, 0) = L.getD n (0, 0, 0, 0) := by rw [List.getD_eq_getElem?_getD, List.getElem?_append_left (by omega), ← List.getD_eq_getElem?_getD]
    unfold piStep
    rw [eg, hO n (by omega), lp_more L E 600 _ n (by omega) hin]
theorem pi_past (L : List J4) (O : Nat → Bool) (n : Nat) (h : ∀ j, n ≤ j → O j = false) : ∀ m, piOf L O (n + m) = piOf L O n := by
  intro m
  induction m with
  | zero => rfl
  | succ m ih =>
    rw [show n + (m + 1) = n + m + 1 by omega, piOf_succ, ih]
    unfold piStep
    rw [if_neg (by rw [h (n + m) (by omega)]; decide)]
/-- what a row of a table brings to do -/
def pushes (s : List Bool) (T : List Nat) : List Int → List Bool × List Nat
  | [] => (s, T)
  | z :: r => if s.getD z.toNat false = true then pushes s T r else pushes (s.set z.toNat true) (T ++ [z.toNat]) r
/-- how many states are come to -/
def bfs (N : List (List Int)) : Nat → List Bool → List Nat → Nat → Nat
  | 0, _, _, c => c
  | _ + 1, _, [], c => c
  | f + 1, s, z :: T, c => bfs N f (pushes s T (N.getD z [])).1 (pushes s T (N.getD z [])).2 (c + 1)
theorem getD_setB (O : List Bool) (k m : Nat) (hk : k < O.length) : (O.set k true).getD m false = if m = k then true else O.getD m false := by
  rw [List.getD_eq_getElem?_getD, List.getElem?_set]
  by_cases h : k = m
  · subst h; simp [hk]
  · rw [if_neg h, if_neg (Ne.symm h), List.getD_eq_getElem?_getD]
theorem count_setB : ∀ (O : List Bool) (k : Nat), k < O.length → O.getD k false = false → (O.set k true).count false + 1 = O.count false := by
  intro O
  induction O with
  | nil => intro k hk; simp at hk
  | cons b O ih =>
    intro k hk ho
    cases k with
    | zero => simp at ho; subst ho; simp
    | succ k =>
      have h1 := ih k (by simpa using hk) (by simpa using ho)
      rw [List.set_cons_succ, List.count_cons, List.count_cons]
      omega
theorem pushes_fine : ∀ (r : List Int) (s : List Bool) (T : List Nat), (∀ z ∈ r, 0 ≤ z ∧ z < s.length) → (∀ z ∈ T, z < s.length) →
    (pushes s T r).1.length = s.length ∧ (pushes s T r).2.length + (pushes s T r).1.count false = T.length + s.count false ∧ ∀ z ∈ (pushes s T r).2, z < s.length := by
  intro r
  induction r with
  | nil => intro s T _ hT; exact ⟨rfl, rfl, hT⟩
  | cons z r ih =>
    intro s T h hT
    have hz := h z (by simp)
    unfold pushes
    by_cases e : s.getD z.toNat false = true
    · rw [if_pos e]; exact ih s T (fun y hy => h y (by simp [hy])) hT
    · rw [if_neg e]
      have hk : z.toNat < s.length := by omega
      have hc := count_setB s z.toNat hk (by simpa using e)
      have := ih (s.set z.toNat true) (T ++ [z.toNat]) (fun y hy => by rw [List.length_set]; exact h y (by simp [hy])) (fun y hy => by
        rw [List.length_set]
        rcases List.mem_append.1 hy with h1 | h1
        · exact hT y h1
        · simp at h1; omega)
      rw [List.length_set] at this
      refine ⟨this.1, ?_, this.2.2⟩
      rw [this.2.1, List.length_append]
      simp only [List.length_cons, List.length_nil]
      omega
theorem bfs_le (N : List (List Int)) : ∀ (f : Nat) (s : List Bool) (T : List Nat) (c : Nat), (∀ r ∈ N, ∀ z ∈ r, 0 ≤ z ∧ z < s.length) → (∀ z ∈ T, z < s.length) → c ≤ bfs N f s T c ∧ bfs N f s T c ≤ c + T.length + s.count false := by
  intro f
  induction f with
  | zero => intro s T c _ _; unfold bfs; omega
  | succ f ih =>
    intro s T c hN hT
    cases T with
    | nil => unfold bfs; omega
    | cons z T =>
      have hrow : ∀ y ∈ N.getD z [], 0 ≤ y ∧ y < s.length := by
        rw [List.getD_eq_getElem?_getD]
        rcases hg : N[z]? with _ | r
        · intro y hy; simp at hy
        · exact hN r (List.mem_of_getElem? hg)
      have hp := pushes_fine (N.getD z []) s T hrow fun y hy => hT y (by simp [hy])
      have := ih (pushes s T (N.getD z [])).1 (pushes s T (N.getD z [])).2 (c + 1) (fun r hr y hy => by rw [hp.1]; exact hN r hr y hy) (fun y hy => by rw [hp.1]; exact hp.2.2 y hy)
      unfold bfs
      rw [List.length_cons]
      omega
/-- with more states that nobody goes to the same are come to -/
theorem pushes_more (E : List Bool) : ∀ (r : List Int) (s : List Bool) (T : List Nat), (∀ z ∈ r, 0 ≤ z ∧ z < s.length) → pushes (s ++ E) T r = ((pushes s T r).1 ++ E, (pushes s T r).2) := by
  intro r
  induction r with
  | nil => intro s T _; rfl
  | cons z r ih =>
    intro s T h
    have hz := h z (by simp)
    have hk : z.toNat < s.length := by omega
    have eg : (s ++ E).getD z.toNat false = s.getD z.toNat false := by rw [List.getD_eq_getElem?_getD, List.getElem?_append_left hk, ← List.getD_eq_getElem?_getD]
    unfold pushes
    rw [eg]
    by_cases e : s.getD z.toNat false = true
    · rw [if_pos e, if_pos e]; exact ih s T fun y hy => h y (by simp [hy])
    · rw [if_neg e, if_neg e, List.set_append_left _ _ hk]
      exact ih (s.set z.toNat true) (T ++ [z.toNat]) fun y hy => by rw [List.length_set]; exact h y (by simp [hy])
theorem bfs_more (N M : List (List Int)) (E : List Bool) : ∀ (f : Nat) (s : List Bool) (T : List Nat) (c : Nat), s.length = N.length → (∀ r ∈ N, ∀ z ∈ r, 0 ≤ z ∧ z < s.length) → (∀ z ∈ T, z < s.length) → bfs (N ++ M) f (s ++ E) T c = bfs N f s T c := by
  intro f
  induction f with
  | zero => intro s T c _ _ _; rfl
  | succ f ih =>
    intro s T c hl hN hT
    cases T with
    | nil => rfl
    | cons z T =>
      have hz := hT z (by simp)
      have eg : (N ++ M).getD z [] = N.getD z [] := by rw [List.getD_eq_getElem?_getD, List.getElem?_append_left (by omega), ← List.getD_eq_getElem?_getD]
      have hrow : ∀ y ∈ N.getD z [], 0 ≤ y ∧ y < s.length := by
        rw [List.getD_eq_getElem?_getD]
        rcases hg : N[z]? with _ | r
        · intro y hy; simp at hy
        · exact hN r (List.mem_of_getElem? hg)
      have hp := pushes_fine (N.getD z []) s T hrow fun y hy => hT y (by simp [hy])
      unfold bfs
      rw [eg, pushes_more E _ s T hrow]
      exact ih _ _ _ (by rw [hp.1, hl]) (fun r hr y hy => by rw [hp.1]; exact hN r hr y hy) (fun y hy => by rw [hp.1]; exact hp.2.2 y hy)
def reachedT (N : List (List Int)) : Nat := bfs N 1000 (true :: List.replicate (N.length - 1) false) [0] 0
theorem reachedT_bd (N : List (List Int)) (h0 : 0 < N.length) (hN : ∀ r ∈ N, ∀ z ∈ r, 0 ≤ z ∧ z < N.length) : 1 ≤ reachedT N ∧ reachedT N ≤ N.length := by
  have hl : (true :: List.replicate (N.length - 1) false).length = N.length := by simp; omega
  have hc : (true :: List.replicate (N.length - 1) false).count false = N.length - 1 := by simp
  have h := bfs_le N 1000 (true :: List.replicate (N.length - 1) false) [0] 0 (by rw [hl]; exact hN) (by rw [hl]; intro z hz; simp at hz; omega)
  rw [hc] at h
  simp only [List.length_cons, List.length_nil] at h
  have h1 : 1 ≤ reachedT N := by
    unfold reachedT
    have hrow : ∀ y ∈ N.getD 0 [], 0 ≤ y ∧ y < (true :: List.replicate (N.length - 1) false).length := by
      rw [hl, List.getD_eq_getElem?_getD]
      rcases hg : N[0]? with _ | r
      · intro y hy; simp at hy
      · exact hN r (List.mem_of_getElem? hg)
    have hp := pushes_fine (N.getD 0 []) (true :: List.replicate (N.length - 1) false) [] hrow (by simp)
    unfold bfs
    refine Nat.le_trans ?_ (bfs_le N 999 _ _ _ (by rw [hp.1, hl]; exact hN) (by rw [hp.1]; exact hp.2.2)).1
    exact Nat.le_refl _
  exact ⟨h1, by unfold reachedT; omega⟩
theorem reachedT_more (N M : List (List Int)) (h0 : 0 < N.length) (hN : ∀ r ∈ N, ∀ z ∈ r, 0 ≤ z ∧ z < N.length) : reachedT (N ++ M) = reachedT N := by
  have hl : (true :: List.replicate (N.length - 1) false).length = N.length := by simp; omega
  unfold reachedT
  rw [← bfs_more N M (List.replicate M.length false) 1000 (true :: List.replicate (N.length - 1) false) [0] 0 hl (by rw [hl]; exact hN) (by rw [hl]; intro z hz; simp at hz; omega)]
  rw [List.length_append, List.cons_append, List.replicate_append_replicate, show N.length - 1 + M.length = N.length + M.length - 1 by omega]
/-- a bound -/
def boundP (i many : Int) : Int := if 0 < max i 0 ∧ 1099511627776 / max i 0 < max many 0 + 1 then 1099511627776 else max i 0 * (max many 0 + 1)
theorem bound_min (i many : Int) (hi : 0 ≤ i) (hm : 0 ≤ many) : boundP i many = min (i * (many + 1)) 1099511627776 := by
  unfold boundP
  rw [Int.max_eq_left hi, Int.max_eq_left hm]
  by_cases h : 0 < i ∧ 1099511627776 / i < many + 1
  · rw [if_pos h]
    have h2 : 1099511627776 < (many + 1) * i := Int.lt_mul_of_ediv_lt h.1 h.2
    rw [Int.mul_comm] at h2
    omega
  · rw [if_neg h]
    rcases Int.lt_or_le 0 i with h0 | h0
    · have h1 : many + 1 ≤ 1099511627776 / i := by omega
      have h2 := (Int.le_ediv_iff_mul_le h0).1 h1
      rw [Int.mul_comm] at h2
      omega
    · have : i = 0 := by omega
      subst this
      rw [Int.zero_mul]; omega
end Go.Proofs.YtmiacgkidldjmaaGreatDoor.Plain
