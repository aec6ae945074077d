/- Classes in plain words. Conditions: what each lemma says. -/
set_option linter.unusedVariables false
set_option linter.unusedSimpArgs false
namespace Go.Proofs.YtgppobaoclfgcaaGreatDoor.Plain
abbrev Rg := Int × Int
def May (r : Rg) : Prop := 0 ≤ r.1 ∧ r.2 ≤ 1114111 ∧ r.1 ≤ r.2
def mayB (r : Rg) : Bool := decide (0 ≤ r.1) && decide (r.2 ≤ 1114111) && decide (r.1 ≤ r.2)
theorem mayB_iff (r : Rg) : mayB r = true ↔ May r := by unfold mayB May; simp [and_assoc]
def In (R : List Rg) (x : Int) : Prop := ∃ r ∈ R, r.1 ≤ x ∧ x ≤ r.2
def Norm : List Rg → Prop
  | [] => True
  | r :: R => May r ∧ (∀ s ∈ R, r.2 + 1 < s.1) ∧ Norm R
theorem Norm_cons (r : Rg) (R : List Rg) : Norm (r :: R) ↔ May r ∧ (∀ s ∈ R, r.2 + 1 < s.1) ∧ Norm R := Iff.rfl
theorem In_nil (x : Int) : ¬ In [] x := by rintro ⟨r, h, _⟩; simp at h
theorem In_cons (r : Rg) (R : List Rg) (x : Int) : In (r :: R) x ↔ (r.1 ≤ x ∧ x ≤ r.2) ∨ In R x := by
  constructor
  · rintro ⟨s, h, h1⟩
    rcases List.mem_cons.1 h with e | e
    · subst e; exact .inl h1
    · exact .inr ⟨s, e, h1⟩
  · rintro (h | ⟨s, h, h1⟩)
    · exact ⟨r, by simp, h⟩
    · exact ⟨s, by simp [h], h1⟩
theorem In_append (R S : List Rg) (x : Int) : In (R ++ S) x ↔ In R x ∨ In S x := by
  constructor
  · rintro ⟨s, h, h1⟩
    rcases List.mem_append.1 h with e | e
    · exact .inl ⟨s, e, h1⟩
    · exact .inr ⟨s, e, h1⟩
  · rintro (⟨s, h, h1⟩ | ⟨s, h, h1⟩)
    · exact ⟨s, by simp [h], h1⟩
    · exact ⟨s, by simp [h], h1⟩
theorem Norm_may {R : List Rg} (h : Norm R) : ∀ r ∈ R, May r := by
  induction R with
  | nil => intro r hr; simp at hr
  | cons a R ih =>
    intro r hr
    rcases List.mem_cons.1 hr with e | e
    · subst e; exact h.1
    · exact ih h.2.2 r e
/-- behind a range nothing begins at once -/
theorem Norm_gap {r : Rg} {R : List Rg} (h : Norm (r :: R)) {x : Int} (hx : In R x) : r.2 + 1 < x := by
  obtain ⟨s, hs, h1, _⟩ := hx
  have := h.2.1 s hs
  omega
theorem Norm_lo {r : Rg} {R : List Rg} (h : Norm (r :: R)) {x : Int} (hx : In (r :: R) x) : r.1 ≤ x := by
  rcases (In_cons r R x).1 hx with e | e
  · exact e.1
  · have := Norm_gap h e
    have := h.1.2.2
    omega
theorem In_head {r : Rg} {R : List Rg} (h : Norm (r :: R)) : In (r :: R) r.1 := (In_cons r R _).2 (.inl ⟨Int.le_refl _, h.1.2.2⟩)
/-- a class is what is in it -/
theorem Norm_unique : ∀ {R S : List Rg}, Norm R → Norm S → (∀ x, In R x ↔ In S x) → R = S := by
  intro R
  induction R with
  | nil =>
    intro S _ hS h
    cases S with
    | nil => rfl
    | cons s S => exact absurd ((h s.1).2 (In_head hS)) (In_nil _)
  | cons r R ih =>
    intro S hR hS h
    cases S with
    | nil => exact absurd ((h r.1).1 (In_head hR)) (In_nil _)
    | cons s S =>
      have e1 : r.1 = s.1 := by
        have h1 := Norm_lo hS ((h r.1).1 (In_head hR))
        have h2 := Norm_lo hR ((h s.1).2 (In_head hS))
        omega
      have hr := hR.1.2.2
      have hs := hS.1.2.2
      have e2 : r.2 = s.2 := by
        rcases Int.lt_trichotomy r.2 s.2 with hlt | heq | hgt
        · exfalso
          have h1 := (h (r.2 + 1)).2 ((In_cons s S _).2 (.inl ⟨by omega, by omega⟩))
          rcases (In_cons r R _).1 h1 with e | e
          · omega
          · have := Norm_gap hR e; omega
        · exact heq
        · exfalso
          have h1 := (h (s.2 + 1)).1 ((In_cons r R _).2 (.inl ⟨by omega, by omega⟩))
          rcases (In_cons s S _).1 h1 with e | e
          · omega
          · have := Norm_gap hS e; omega
      have e : r = s := Prod.ext e1 e2
      subst e
      congr 1
      refine ih hR.2.2 hS.2.2 fun x => ?_
      constructor
      · intro hx
        have := Norm_gap hR hx
        rcases (In_cons r S x).1 ((h x).1 ((In_cons r R x).2 (.inr hx))) with e | e
        · omega
        · exact e
      · intro hx
        have := Norm_gap hS hx
        rcases (In_cons r R x).1 ((h x).2 ((In_cons r S x).2 (.inr hx))) with e | e
        · omega
        · exact e
/-- a range comes behind those that there are -/
def put1 (out : List Rg) (r : Rg) : List Rg :=
  match out.getLast? with
  | some l => if r.1 ≤ l.2 + 1 then out.dropLast ++ [(l.1, max l.2 r.2)] else out ++ [r]
  | none => [r]
theorem put1_nil (r : Rg) : put1 [] r = [r] := rfl
theorem put1_snoc (out : List Rg) (l r : Rg) : put1 (out ++ [l]) r = if r.1 ≤ l.2 + 1 then out ++ [(l.1, max l.2 r.2)] else out ++ [l] ++ [r] := by
  unfold put1
  rw [List.getLast?_append]
  simp
theorem Norm_append : ∀ (R S : List Rg), Norm (R ++ S) ↔ Norm R ∧ Norm S ∧ ∀ r ∈ R, ∀ s ∈ S, r.2 + 1 < s.1 := by
  intro R
  induction R with
  | nil => intro S; simp [Norm]
  | cons a R ih =>
    intro S
    rw [List.cons_append, Norm_cons, Norm_cons, ih S]
    constructor
    · rintro ⟨h1, h2, h3, h4, h5⟩
      refine ⟨⟨h1, fun s hs => h2 s (by simp [hs]), h3⟩, h4, fun r hr s hs => ?_⟩
      rcases List.mem_cons.1 hr with e | e
      · subst e; exact h2 s (by simp [hs])
      · exact h5 r e s hs
    · rintro ⟨⟨h1, h2, h3⟩, h4, h5⟩
      refine ⟨h1, fun s hs => ?_, h3, h4, fun r hr => h5 r (by simp [hr])⟩
      rcases List.mem_append.1 hs with e | e
      · exact h2 s e
      · exact h5 a (by simp) s e
theorem Norm_one (r : Rg) : Norm [r] ↔ May r := by unfold Norm; simp [Norm]
/-- what is there begins at most where the next one does -/
def Ahead (out : List Rg) (lo : Int) : Prop := ∀ o ∈ out, o.1 ≤ lo
theorem put1_norm (out : List Rg) (r : Rg) (h : Norm out) (hr : May r) (ha : Ahead out r.1) : Norm (put1 out r) := by
  rcases List.eq_nil_or_concat out with e | ⟨o, l, e⟩
  · subst e; rw [put1_nil, Norm_one]; exact hr
  · rw [List.concat_eq_append] at e
    subst e
    rw [put1_snoc]
    obtain ⟨h1, h2, h3⟩ := (Norm_append o [l]).1 h
    have hl := (Norm_one l).1 h2
    have hal := ha l (by simp)
    obtain ⟨m1, m2, m3⟩ := hr
    obtain ⟨n1, n2, n3⟩ := hl
    by_cases hc : r.1 ≤ l.2 + 1
    · rw [if_pos hc, Norm_append]
      refine ⟨h1, (Norm_one _).2 ⟨n1, ?_, ?_⟩, fun x hx s hs => ?_⟩
      · show max l.2 r.2 ≤ _; omega
      · show l.1 ≤ max l.2 r.2; omega
      · simp only [List.mem_cons, List.not_mem_nil, or_false] at hs
        subst hs
        exact h3 x hx l (by simp)
    · rw [if_neg hc, Norm_append]
      refine ⟨h, (Norm_one _).2 ⟨m1, m2, m3⟩, fun x hx s hs => ?_⟩
      simp only [List.mem_cons, List.not_mem_nil, or_false] at hs
      subst hs
      rcases List.mem_append.1 hx with e | e
      · have := h3 x e l (by simp)
        omega
      · simp only [List.mem_cons, List.not_mem_nil, or_false] at e
        subst e; omega
theorem put1_in (out : List Rg) (r : Rg) (h : Norm out) (hr : May r) (ha : Ahead out r.1) (x : Int) : In (put1 out r) x ↔ In out x ∨ (r.1 ≤ x ∧ x ≤ r.2) := by
  rcases List.eq_nil_or_concat out with e | ⟨o, l, e⟩
  · subst e
    rw [put1_nil, In_cons]
    constructor
    · rintro (h | h)
      · exact .inr h
      · exact .inl h
    · rintro (h | h)
      · exact .inr h
      · exact .inl h
  · rw [List.concat_eq_append] at e
    subst e
    rw [put1_snoc]
    have hl := (Norm_one l).1 ((Norm_append o [l]).1 h).2.1
    have hal := ha l (by simp)
    have i1 : ∀ s : Rg, In [s] x ↔ s.1 ≤ x ∧ x ≤ s.2 := fun s => by rw [In_cons]; simp [In_nil]
    obtain ⟨m1, m2, m3⟩ := hr
    obtain ⟨n1, n2, n3⟩ := hl
    by_cases hc : r.1 ≤ l.2 + 1
    · rw [if_pos hc, In_append, In_append, i1, i1]
      show _ ∨ (l.1 ≤ x ∧ x ≤ max l.2 r.2) ↔ _
      have : (l.1 ≤ x ∧ x ≤ max l.2 r.2) ↔ (l.1 ≤ x ∧ x ≤ l.2) ∨ (r.1 ≤ x ∧ x ≤ r.2) := by omega
      rw [this, or_assoc]
    · rw [if_neg hc, In_append, i1]
theorem put1_ahead (out : List Rg) (r : Rg) (lo : Int) (ha : Ahead out r.1) (h : r.1 ≤ lo) : Ahead (put1 out r) lo := by
  rcases List.eq_nil_or_concat out with e | ⟨o, l, e⟩
  · subst e
    intro x hx
    rw [put1_nil] at hx
    simp only [List.mem_cons, List.not_mem_nil, or_false] at hx
    subst hx; exact h
  · rw [List.concat_eq_append] at e
    subst e
    intro x hx
    rw [put1_snoc] at hx
    have hal := ha l (by simp)
    by_cases hc : r.1 ≤ l.2 + 1
    · rw [if_pos hc] at hx
      rcases List.mem_append.1 hx with e | e
      · have := ha x (by simp [e]); omega
      · simp only [List.mem_cons, List.not_mem_nil, or_false] at e
        subst e; show l.1 ≤ lo; omega
    · rw [if_neg hc] at hx
      rcases List.mem_append.1 hx with e | e
      · have := ha x e; omega
      · simp only [List.mem_cons, List.not_mem_nil, or_false] at e
        subst e; exact h
theorem put1_len (out : List Rg) (r : Rg) : (put1 out r).length ≤ out.length + 1 := by
  rcases List.eq_nil_or_concat out with e | ⟨o, l, e⟩
  · subst e; simp [put1]
  · rw [List.concat_eq_append] at e
    subst e
    rw [put1_snoc]
    split <;> simp
/-- sorted ranges that may be come to a class -/
def mergeL (S : List Rg) : List Rg := S.foldl put1 []
theorem merge_snoc (S : List Rg) (r : Rg) : mergeL (S ++ [r]) = put1 (mergeL S) r := by unfold mergeL; rw [List.foldl_append]; rfl
theorem merge_holds : ∀ (n : Nat) (S : List Rg), S.length = n → (∀ r ∈ S, May r) → S.Pairwise (fun a b => a.1 ≤ b.1) → Norm (mergeL S) ∧ (∀ x, In (mergeL S) x ↔ In S x) ∧ (∀ lo, Ahead S lo → Ahead (mergeL S) lo) ∧ (mergeL S).length ≤ S.length := by
  intro n
  induction n with
  | zero =>
    intro S hS _ _
    have : S = [] := List.eq_nil_of_length_eq_zero hS
    subst this
    exact ⟨trivial, fun _ => Iff.rfl, fun _ h => h, Nat.le_refl _⟩
  | succ n ih =>
    intro S hS hm hp
    rcases List.eq_nil_or_concat S with e | ⟨T, r, e⟩
    · subst e; simp at hS
    · rw [List.concat_eq_append] at e
      subst e
      rw [List.pairwise_append] at hp
      obtain ⟨p1, _, p3⟩ := hp
      obtain ⟨i1, i2, i3, i4⟩ := ih T (by simpa using hS) (fun x hx => hm x (by simp [hx])) p1
      have hr := hm r (by simp)
      have ha := i3 r.1 (fun o ho => p3 o ho r (by simp))
      rw [merge_snoc]
      refine ⟨put1_norm _ _ i1 hr ha, fun x => ?_, fun lo hlo => put1_ahead _ _ _ ha (hlo r (by simp)), ?_⟩
      · rw [put1_in _ _ i1 hr ha, i2, In_append, In_cons]
        simp [In_nil]
      · have := put1_len (mergeL T) r
        simp; omega
/-- what lies between the ranges of a class, and behind them -/
def gapF (st : List Rg × Int) (r : Rg) : List Rg × Int := (st.1 ++ [(st.2, r.1 - 1)], r.2 + 1)
def gaps (low : Int) : List Rg → List Rg
  | [] => [(low, 1114111)]
  | r :: C => (low, r.1 - 1) :: gaps (r.2 + 1) C
theorem gapF_all : ∀ (C : List Rg) (acc : List Rg) (low : Int), (C.foldl gapF (acc, low)).1 ++ [((C.foldl gapF (acc, low)).2, 1114111)] = acc ++ gaps low C := by
  intro C
  induction C with
  | nil => intro acc low; rfl
  | cons r C ih =>
    intro acc low
    rw [List.foldl_cons]
    show (C.foldl gapF (acc ++ [(low, r.1 - 1)], r.2 + 1)).1 ++ _ = _
    rw [show gapF (acc, low) r = (acc ++ [(low, r.1 - 1)], r.2 + 1) from rfl, ih, List.append_assoc]
    rfl
theorem gaps_len : ∀ (C : List Rg) (low : Int), (gaps low C).length = C.length + 1 := by
  intro C
  induction C with
  | nil => intro low; rfl
  | cons r C ih => intro low; unfold gaps; rw [List.length_cons, ih, List.length_cons]
theorem gaps_in : ∀ (C : List Rg) (low : Int), 0 ≤ low → Norm C → (∀ r ∈ C, low ≤ r.1) → ∀ x, In ((gaps low C).filter mayB) x ↔ low ≤ x ∧ x ≤ 1114111 ∧ ¬ In C x := by
  intro C
  induction C with
  | nil =>
    intro low h0 _ _ x
    constructor
    · rintro ⟨r, hr, h1, h2⟩
      rw [List.mem_filter] at hr
      unfold gaps at hr
      simp only [List.mem_cons, List.not_mem_nil, or_false] at hr
      obtain ⟨rfl, _⟩ := hr
      exact ⟨h1, h2, In_nil x⟩
    · rintro ⟨h1, h2, _⟩
      refine ⟨(low, 1114111), List.mem_filter.2 ⟨by unfold gaps; simp, (mayB_iff _).2 ⟨h0, Int.le_refl _, ?_⟩⟩, h1, h2⟩
      show low ≤ 1114111; omega
  | cons r C ih =>
    intro low h0 hn hl x
    obtain ⟨m1, m2, m3⟩ := hn.1
    have hlr := hl r (by simp)
    have ih2 := ih (r.2 + 1) (by omega) hn.2.2 (fun s hs => by have := hn.2.1 s hs; omega) x
    have hgap : In C x → r.2 + 1 < x := fun h => Norm_gap hn h
    rw [In_cons]
    constructor
    · rintro ⟨s, hs, h1, h2⟩
      rw [List.mem_filter] at hs
      unfold gaps at hs
      rcases List.mem_cons.1 hs.1 with e | e
      · subst e
        have h2' : x ≤ r.1 - 1 := h2
        have h1' : low ≤ x := h1
        refine ⟨h1', by omega, ?_⟩
        rintro (h | h)
        · omega
        · have := hgap h; omega
      · have := ih2.1 ⟨s, List.mem_filter.2 ⟨e, hs.2⟩, h1, h2⟩
        refine ⟨by omega, this.2.1, ?_⟩
        rintro (h | h)
        · omega
        · exact this.2.2 h
    · rintro ⟨h1, h2, h3⟩
      by_cases hx : x < r.1
      · refine ⟨(low, r.1 - 1), List.mem_filter.2 ⟨by unfold gaps; simp, (mayB_iff _).2 ⟨h0, ?_, ?_⟩⟩, h1, ?_⟩
        · show r.1 - 1 ≤ 1114111; omega
        · show low ≤ r.1 - 1; omega
        · show x ≤ r.1 - 1; omega
      · have h4 : ¬ (r.1 ≤ x ∧ x ≤ r.2) := fun h => h3 (.inl h)
        obtain ⟨s, hs, h5⟩ := ih2.2 ⟨by omega, h2, fun h => h3 (.inr h)⟩
        rw [List.mem_filter] at hs
        exact ⟨s, List.mem_filter.2 ⟨by unfold gaps; exact List.mem_cons_of_mem _ hs.1, hs.2⟩, h5⟩
end Go.Proofs.YtgppobaoclfgcaaGreatDoor.Plain
