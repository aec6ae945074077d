/- layout.Of, Back, Right: the contracts that the laws use. Conditions: what each lemma says. -/
import Derived.Test.YtbbcdebjkedepaaLayD
set_option linter.unusedVariables false
set_option linter.unusedSimpArgs false
namespace Go.Proofs.Ytbbcdebjkedepaa
open Go.RowKit Go.Lib
open Plain (Rg May mayB In Norm In4 slotsOf insB bnd riB cls cnot rightB normB)
theorem slotsOf_sm (g : Int) (h : 0 ≤ g) (h2 : g < 1000000000000) : slotsOf g = 2 * g + 2 := by
  unfold slotsOf
  rw [if_neg (by omega), IntWalk.wrap64_in (2 * g) (by omega), IntWalk.wrap64_in (2 * g + 2) (by omega)]
theorem norm_may : ∀ {R : List Rg}, Norm R → ∀ r ∈ R, May r
  | [], _, r, h => absurd h (by simp)
  | [a], h, r, hr => by
    rw [List.mem_singleton] at hr; subst hr
    simpa [Norm] using h
  | a :: b :: R, h, r, hr => by
    have h' : May a ∧ Norm (b :: R) := ⟨by simp only [Norm] at h; exact h.1, by simp only [Norm] at h ⊢; first | exact h.2.2 | exact h.2⟩
    rcases List.mem_cons.1 hr with e | e
    · subst e; exact h'.1
    · exact norm_may h'.2 r e
structure PgOk (L : List In4) (K : List Cs) (g : Int) : Prop where
  l0 : 0 < L.length
  l1 : L.length ≤ 512
  k1 : K.length ≤ 64
  g0 : 0 ≤ g
  g1 : g ≤ 8
  ri : ∀ t ∈ L, riB L.length K.length g t = true
  cl : ∀ x ∈ K, 0 < x.R.length ∧ Norm x.R ∧ x.R.length ≤ 64
theorem pgR_ok {L : List In4} {K : List Cs} {g : Int} (h : pgR L K g = true) : PgOk L K g := by
  unfold pgR at h
  simp only [Bool.and_eq_true, decide_eq_true_eq, Bool.not_eq_true', List.any_eq_false] at h
  obtain ⟨⟨⟨⟨⟨⟨h1, h2⟩, h3⟩, h4⟩, h5⟩, h6⟩, h7⟩ := h
  refine ⟨h1, h2, h3, h4, h5, fun t ht => by have := h6 t ht; simpa using this, fun x hx => ?_⟩
  have := h7 x hx
  unfold badB at this
  simp only [Bool.or_eq_true, beq_iff_eq, Bool.not_eq_true', not_or, Bool.not_eq_false] at this
  obtain ⟨a, b⟩ := this
  have hb := (Plain.rightB_iff _).1 b
  exact ⟨by omega, hb.1, hb.2⟩
theorem allR_le (K : List (List Rg)) (h : ∀ R ∈ K, R.length ≤ 64) : (allR K).length ≤ K.length * 64 := by
  induction K with
  | nil => simp [allR]
  | cons R K ih =>
    have h1 := ih fun R hR => h R (List.mem_cons_of_mem _ hR)
    have h2 := h R (by simp)
    have : allR (R :: K) = R ++ allR K := by simp [allR]
    rw [this, List.length_append, List.length_cons]; omega
theorem PgOk.n {L : List In4} {K : List Cs} {g : Int} (h : PgOk L K g) : (allR (K.map Cs.R)).length ≤ 4096 := by
  have h1 := allR_le (K.map Cs.R) fun R hR => by
    obtain ⟨x, hx, rfl⟩ := List.mem_map.1 hR
    exact (h.cl x hx).2.2
  rw [List.length_map] at h1
  have := h.k1; omega
theorem riB_small {n m : Nat} {g : Int} {t : In4} (h : riB n m g t = true) (hn : n ≤ 512) (hm : m ≤ 64) (g0 : 0 ≤ g) (g1 : g ≤ 8) : (0 ≤ t.1 ∧ t.1 ≤ 5) ∧ (0 ≤ t.2.1 ∧ (t.2.1 < n ∨ t.2.1 = 0)) ∧ (0 ≤ t.2.2.1 ∧ (t.2.2.1 < n ∨ t.2.2.1 = 0)) ∧ 0 ≤ t.2.2.2 ∧ t.2.2.2 < 64 := by
  unfold riB insB bnd at h
  rw [slotsOf_sm g g0 (by omega)] at h
  simp only [Bool.and_eq_true, decide_eq_true_eq] at h
  obtain ⟨⟨⟨⟨h1, h2⟩, h3, h4⟩, h5, h6⟩, h7, h8⟩ := h
  refine ⟨⟨h1, h2⟩, ⟨h3, ?_⟩, ⟨h5, ?_⟩, h7, ?_⟩ <;> (split at h4 <;> (try split at h4) <;> (try split at h4) <;> (try split at h4) <;> (try split at h4) <;> simp_all <;> omega)
theorem PgOk.tok {L : List In4} {K : List Cs} {g : Int} (h : PgOk L K g) : ∀ t ∈ L, RecOk t := fun t ht => by
  obtain ⟨⟨a, b⟩, ⟨c, d⟩, ⟨e, f⟩, i, j⟩ := riB_small (h.ri t ht) h.l1 h.k1 h.g0 h.g1
  have := h.l1
  exact ⟨⟨a, by omega⟩, ⟨c, by omega⟩, ⟨e, by omega⟩, i, by omega⟩
theorem PgOk.rok {L : List In4} {K : List Cs} {g : Int} (h : PgOk L K g) : ∀ r ∈ allR (K.map Cs.R), (0 ≤ r.1 ∧ r.1 < 16777216) ∧ 0 ≤ r.2 ∧ r.2 < 16777216 := fun r hr => by
  unfold allR at hr
  obtain ⟨R, hR, hr⟩ := List.mem_flatMap.1 hr
  obtain ⟨x, hx, rfl⟩ := List.mem_map.1 hR
  obtain ⟨a, b, c⟩ := norm_may (h.cl x hx).2.1 r hr
  exact ⟨⟨a, by omega⟩, by omega, by omega⟩
theorem PgOk.ne {L : List In4} {K : List Cs} {g : Int} (h : PgOk L K g) : ∀ R ∈ K.map Cs.R, 0 < R.length := fun R hR => by
  obtain ⟨x, hx, rfl⟩ := List.mem_map.1 hR
  exact (h.cl x hx).1
/-- what Of hands back of a right program -/
structure OwnAr (base : Nat) (w : World) (A0 : Option Addr) (L : List In4) (c0 : Nat) (A1 : Option Addr) (K : List (List Rg)) (c1 : Nat) (A2 : Option Addr) (c2 : Nat) : Prop where
  o0 : w.ownsRow base 79 4 (.slice A0 L.length c0) L.length (recsC L)
  o1 : w.ownsRow base 80 2 (.slice A1 (allR K).length c1) (allR K).length (ru2s (allR K))
  o2 : w.ownsRow base 41 1 (.slice A2 K.length c2) K.length (u32s (endsR K))
  at_ : ArAt w A0 L A1 K [] A2 c1
theorem OwnAr.kept {base : Nat} {w w' : World} {A0 A1 A2 : Option Addr} {L : List In4} {c0 c1 c2 : Nat} {K : List (List Rg)} (h : OwnAr base w A0 L c0 A1 K c1 A2 c2) (hb : Below w.heap.size w w') : OwnAr base w' A0 L c0 A1 K c1 A2 c2 :=
  ⟨own_below h.o0 hb, own_below h.o1 hb, own_below h.o2 hb, h.at_.below hb⟩
def OfRes (L : List In4) (K : List (List Rg)) (g : Int) (w : World) (e : Ending) (w' : World) : Prop :=
  ∃ A0 c0 A1 c1 A2 c2, e = .returned (.tuple #[arV A0 L.length c0 A1 (allR K).length c1 A2 K.length c2 (2 * g + 2), .int .i64 0]) ∧ OwnAr w.heap.size w' A0 L c0 A1 K c1 A2 c2 ∧ Below w.heap.size w w'
theorem lof_any (I C : Option Addr) (L : List In4) (K : List Cs) (c d : Nat) (g : Int) (w : World) (hP : PgAt w I L C K) (hq : pgR L K g = true) :
    Calls Try.prog 9 #[pgV I L.length c C K.length d g] w (OfRes L (K.map Cs.R) g w) := by
  have hk := pgR_ok hq
  have hn := hk.n
  have hsl : w32 (slotsOf g) = 2 * g + 2 := by
    have := hk.g0; have := hk.g1
    rw [slotsOf_sm g hk.g0 (by omega)]; unfold w32; omega
  refine (of_right I C L K c d g w hP hq (by omega)).mono ?_
  rintro e w' ⟨A0, c0, A1, c1, A2, c2, rfl, o0, o1, o2, _, _, _, hb⟩
  rw [hsl]
  have hml : K.length = (K.map Cs.R).length := by simp
  rw [hml] at o2 ⊢
  have hl := hk.l0; have hl1 := hk.l1; have hk1 := hk.k1
  refine ⟨A0, c0, A1, c1, A2, c2, rfl, ⟨o0, o1, o2, own_SlN o0 (by rw [recsC_len]; omega), by rw [List.append_nil]; exact own_SlN o1 (by rw [ru2s_len]; omega), own_SlN o2 (by simp [u32s, endsR]), hk.rok, hk.tok, by rw [List.append_nil]; omega, by rw [List.length_map]; omega, by omega, by rw [List.append_nil]; exact own_le o1, hk.ne⟩, hb⟩
theorem pgR_congr {L : List In4} {M K : List Cs} {g : Int} (h : M.map Cs.R = K.map Cs.R) : pgR L M g = pgR L K g := by
  unfold pgR
  have hl : M.length = K.length := by have := congrArg List.length h; simpa using this
  have ha : (M.any fun x => badB x.R) = (K.any fun x => badB x.R) := by
    have := congrArg (fun l => l.any badB) h
    simpa [List.any_map, Function.comp_def] using this
  rw [hl, ha]
set_option maxRecDepth 100000 in
set_option maxHeartbeats 1000000 in
theorem lright_of (RA GA EA : Option Addr) (n rc m gd k ef : Nat) (s : Int) (x : Int) (b : Bool) (w : World)
    (h : ∀ W, Below w.heap.size w W → Calls Try.prog 13 #[arV RA n rc GA m gd EA k ef s] W fun e w' => (∃ I n c C m d g, e = .returned (.tuple #[pgV I n c C m d g, .int .i64 x])) ∧ Below W.heap.size W w') (hx : (x == 0) = b) :
    Calls Try.prog 23 #[arV RA n rc GA m gd EA k ef s] w fun e w' => e = .returned (.bool b) ∧ Below w.heap.size w w' := by
  unfold arV pgV at *
  have HC := Lib.hid h
  have HX := Lib.hid hx
  clear h hx
  go_enter Try.func23, Try.ntmps23
  go_wp2_with fail
  refine (HC.out _ ((Below.refl _ _).alloc (Nat.le_refl _) _)).mono ?_
  rintro e w1 ⟨⟨I, n1, c1, C1, m1, d1, g1, rfl⟩, hb⟩
  have HB := Lib.hid (below_then ((Below.refl _ _).alloc (Nat.le_refl _) _) hb)
  clear hb
  go_wp2
  go_ret
  exact ⟨by rw [← HX.out]; rfl, below_alloc HB.out _⟩
theorem lright_bad (RA GA EA : Option Addr) (rc gd ef : Nat) (s : Int) (L : List In4) (K : List (List Rg)) (X : List Rg) (w : World) (hA : ArAt w RA L GA K X EA gd) (hs0 : 0 ≤ s) (hq : slotBad X s = true) :
    Calls Try.prog 23 #[arV RA L.length rc GA (allR K ++ X).length gd EA K.length ef s] w fun e w' => e = .returned (.bool false) ∧ Below w.heap.size w w' :=
  lright_of RA GA EA _ rc _ gd _ ef s 11 false w (fun W hb => (back_bad RA GA EA rc gd ef s L K X W (hA.below hb) hs0 hq).mono fun e w' ⟨h1, h2⟩ => ⟨⟨none, 0, 0, none, 0, 0, 0, h1⟩, h2⟩) rfl
/-- Back of an arena whose classes are those of K0: the program, if it is right -/
def BackP (L : List In4) (K : List (List Rg)) (g : Int) (b : Bool) (w : World) (e : Ending) (w' : World) : Prop :=
  ∃ (I CA : Option Addr) (c cc : Nat) (M : List Cs), M.map Cs.R = K ∧ PgAt w' I L CA M ∧ e = .returned (.tuple #[if b then pgV I L.length c CA K.length cc g else noPg, .int .i64 (if b then 0 else 11)]) ∧ Below w.heap.size w w'
theorem back_of (RA GA EA : Option Addr) (rc gd ef : Nat) (s : Int) (L : List In4) (K : List (List Rg)) (K0 : List Cs) (w : World) (hA : ArAt w RA L GA K [] EA gd) (hs0 : 0 ≤ s) (hq : slotBad [] s = false) (hK : K0.map Cs.R = K) (b : Bool) (hb : pgR L K0 (s / 2 - 1) = b) :
    Calls Try.prog 13 #[arV RA L.length rc GA (allR K).length gd EA K.length ef s] w (BackP L K (s / 2 - 1) b w) := by
  have h := back_good RA GA EA rc gd ef s L K [] w hA hs0 hq
  rw [List.append_nil] at h
  refine h.mono ?_
  rintro e w' ⟨I, CA, c, cc, M, h1, h2, h3, h4⟩
  rw [pgR_congr (h1.trans hK.symm), hb] at h3
  exact ⟨I, CA, c, cc, M, h1, h2, h3, h4⟩
theorem lright_good (RA GA EA : Option Addr) (rc gd ef : Nat) (s : Int) (L : List In4) (K : List (List Rg)) (K0 : List Cs) (w : World) (hA : ArAt w RA L GA K [] EA gd) (hs0 : 0 ≤ s) (hq : slotBad [] s = false) (hK : K0.map Cs.R = K) (b : Bool) (hb : pgR L K0 (s / 2 - 1) = b) :
    Calls Try.prog 23 #[arV RA L.length rc GA (allR K).length gd EA K.length ef s] w fun e w' => e = .returned (.bool b) ∧ Below w.heap.size w w' :=
  lright_of RA GA EA _ rc _ gd _ ef s (if b then 0 else 11) b w (fun W hW => (back_of RA GA EA rc gd ef s L K K0 W (hA.below hW) hs0 hq hK b hb).mono fun e w' ⟨I, CA, c, cc, M, h1, h2, h3, h4⟩ => ⟨by
    cases b
    · exact ⟨none, 0, 0, none, 0, 0, 0, h3⟩
    · exact ⟨_, _, _, _, _, _, _, h3⟩, h4⟩) (by cases b <;> rfl)
end Go.Proofs.Ytbbcdebjkedepaa
