/- Plain facts, more: the document's own decoder is the same; words and their edges. No program in sight. Nothing is assumed. -/
import Derived.Test.YtjkialgdaikijaaDoorPlain
namespace Go.Proofs.YtjkialgdaikijaaDoor.Plain
open Go.Lib
/-- how the document's decoder begins: how many bytes, what of the first -/
def rsize (b : Nat) : Nat := if 240 ≤ b then 4 else if 224 ≤ b then 3 else if 192 ≤ b then 2 else 1
def rlow (b : Nat) : Nat := if 240 ≤ b then b % 8 else if 224 ≤ b then b % 16 else if 192 ≤ b then b % 32 else b
/-- the number of the first k bytes -/
def rnum (l : List UInt8) : Nat → Nat
  | 0 => rlow (l.getD 0 0).toNat
  | k + 1 => rnum l k * 64 + (l.getD (k + 1) 0).toNat % 64
def rightB (r : Int) : Bool := decide (0 ≤ r ∧ r ≤ 1114111 ∧ (r < 55296 ∨ 57343 < r))
/-- the document's decoder -/
def rfirst (l : List UInt8) : Nat × Nat :=
  let k := rsize (l.getD 0 0).toNat
  if l.length < k then (65533, 1)
  else if 1114111 < rnum l (k - 1) ∨ rightB (rnum l (k - 1)) = false ∨ encodeRune (rnum l (k - 1) : Int) ≠ l.take k then (65533, 1)
  else (rnum l (k - 1), k)
theorem rfirst_eq (l : List UInt8) (hne : l ≠ []) : rfirst l = decodeL l := by
  have hl : 0 < l.length := List.length_pos_iff.2 hne
  unfold rfirst
  dsimp only
  by_cases hpass : ¬ l.length < rsize (l.getD 0 0).toNat ∧ ¬ (1114111 < rnum l (rsize (l.getD 0 0).toNat - 1) ∨ rightB (rnum l (rsize (l.getD 0 0).toNat - 1)) = false ∨ encodeRune (rnum l (rsize (l.getD 0 0).toNat - 1) : Int) ≠ l.take (rsize (l.getD 0 0).toNat))
  · obtain ⟨h1, h2⟩ := hpass
    rw [if_neg h1, if_neg h2]
    have h3 : encodeRune (rnum l (rsize (l.getD 0 0).toNat - 1) : Int) = l.take (rsize (l.getD 0 0).toNat) := Classical.byContradiction fun h => h2 (.inr (.inr h))
    have h4 : rightB (rnum l (rsize (l.getD 0 0).toNat - 1)) = true := by
      cases h : rightB (rnum l (rsize (l.getD 0 0).toNat - 1)) with
      | true => rfl
      | false => exact absurd (.inr (.inl h)) h2
    have hd := dec_put (rnum l (rsize (l.getD 0 0).toNat - 1) : Int) (l.drop (rsize (l.getD 0 0).toNat))
    rw [h3, List.take_append_drop, List.length_take] at hd
    rw [hd]
    unfold fixR
    unfold rightB at h4
    rw [if_pos (of_decide_eq_true h4)]
    refine Prod.ext (by simp) ?_
    dsimp only; omega
  · have hd : decodeL l = (65533, 1) := by
      refine Classical.byContradiction fun hv => hpass ?_
      have he := encode_decode l hne (by intro ⟨a, b⟩; exact hv (Prod.ext a b))
      have hr := dec_right l
      have hle := decodeL_le l hne
      have k0 := (l.getD 0 0).toNat_lt
      rw [decodeL_N] at he hr hle hv
      have key : ∀ r k, decodeN l.length (l.getD 0 0).toNat (l.getD 1 0).toNat (l.getD 2 0).toNat (l.getD 3 0).toNat = (r, k) → rsize (l.getD 0 0).toNat = k → rnum l (k - 1) = r →
          ¬ l.length < rsize (l.getD 0 0).toNat ∧ ¬ (1114111 < rnum l (rsize (l.getD 0 0).toNat - 1) ∨ rightB (rnum l (rsize (l.getD 0 0).toNat - 1)) = false ∨ encodeRune (rnum l (rsize (l.getD 0 0).toNat - 1) : Int) ≠ l.take (rsize (l.getD 0 0).toNat)) := by
        intro r k e e1 e2
        rw [e] at he hr hle
        rw [e1, e2]
        dsimp only at he hr hle
        refine ⟨by omega, ?_⟩
        rintro (h | h | h)
        · omega
        · unfold rightB at h; rw [decide_eq_false_iff_not] at h; omega
        · exact h he
      rcases decodeN_shape l.length (l.getD 0 0).toNat (l.getD 1 0).toNat (l.getD 2 0).toNat (l.getD 3 0).toNat with ⟨c, e⟩ | ⟨c1, c2, c3, cv, e⟩ | ⟨c1, c2, c3, c4, cv, cs, e⟩ | ⟨c1, c2, c3, c4, c5, cv, cw, e⟩ | e
      · refine key _ _ e ?_ ?_
        · unfold rsize; rw [if_neg (by omega), if_neg (by omega), if_neg (by omega)]
        · show rlow _ = _
          unfold rlow; rw [if_neg (by omega), if_neg (by omega), if_neg (by omega)]
      · refine key _ _ e ?_ ?_
        · unfold rsize; rw [if_neg (by omega), if_neg (by omega), if_pos (by omega)]
        · show rlow _ * 64 + _ = _
          unfold rlow; rw [if_neg (by omega), if_neg (by omega), if_pos (by omega)]
      · refine key _ _ e ?_ ?_
        · unfold rsize; rw [if_neg (by omega), if_pos (by omega)]
        · show (rlow _ * 64 + _) * 64 + _ = _
          unfold rlow; rw [if_neg (by omega), if_pos (by omega)]
          show ((l.getD 0 0).toNat % 16 * 64 + (l.getD 1 0).toNat % 64) * 64 + (l.getD 2 0).toNat % 64 = _
          omega
      · refine key _ _ e ?_ ?_
        · unfold rsize; rw [if_pos (by omega)]
        · show ((rlow _ * 64 + _) * 64 + _) * 64 + _ = _
          unfold rlow; rw [if_pos (by omega)]
          show (((l.getD 0 0).toNat % 8 * 64 + (l.getD 1 0).toNat % 64) * 64 + (l.getD 2 0).toNat % 64) * 64 + (l.getD 3 0).toNat % 64 = _
          omega
      · exact absurd e hv
    rw [hd]
    by_cases h1 : l.length < rsize (l.getD 0 0).toNat
    · rw [if_pos h1]
    · rw [if_neg h1, if_pos (Classical.byContradiction fun h2 => hpass ⟨h1, h2⟩)]
/-- a rune of words -/
def wordB (r : Int) : Bool := decide ((48 ≤ r ∧ r ≤ 57) ∨ (65 ≤ r ∧ r ≤ 90) ∨ (97 ≤ r ∧ r ≤ 122) ∨ r = 95)
/-- a word begins, or ends, at a place -/
def edgeB (L : List Rn) (a : Int) : Bool :=
  ((L.find? fun x => (x.2.1 : Int) + x.2.2 == a).any fun x => wordB x.1) != ((L.find? fun x => (x.2.1 : Int) == a).any fun x => wordB x.1)
/-- the runes of pieces that are told so whatever stands behind -/
def pieces : Nat → List (List UInt8 × Nat) → List Rn
  | _, [] => []
  | p, x :: r => (x.2, p, x.1.length) :: pieces (p + x.1.length) r
theorem all_pieces : ∀ (P : List (List UInt8 × Nat)) (p : Nat) (t : List UInt8), (∀ x ∈ P, x.1 ≠ [] ∧ ∀ u, decodeL (x.1 ++ u) = (x.2, x.1.length)) → allA p (P.flatMap (·.1) ++ t) = pieces p P ++ allA (p + (P.flatMap (·.1)).length) t
  | [], p, t, _ => by simp [pieces]
  | x :: r, p, t, h => by
    obtain ⟨h1, h2⟩ := h x (List.mem_cons_self ..)
    have ih := all_pieces r (p + x.1.length) t fun y hy => h y (List.mem_cons_of_mem _ hy)
    rw [List.flatMap_cons, List.append_assoc, allA_step _ _ (by simp [h1]), h2, List.drop_left, ih, pieces, List.length_append, Nat.add_assoc]
    rfl
theorem pieces_mem : ∀ (P : List (List UInt8 × Nat)) (p : Nat) (y : Rn), y ∈ pieces p P → (∃ x ∈ P, y.1 = x.2) ∧ p ≤ y.2.1 ∧ y.2.1 + y.2.2 ≤ p + (P.flatMap (·.1)).length
  | [], p, y, h => by simp [pieces] at h
  | x :: r, p, y, h => by
    rw [pieces, List.mem_cons] at h
    rw [List.flatMap_cons, List.length_append]
    rcases h with rfl | h
    · exact ⟨⟨x, List.mem_cons_self .., rfl⟩, Nat.le_refl _, by dsimp only; omega⟩
    · obtain ⟨⟨z, hz, e⟩, h1, h2⟩ := pieces_mem r _ y h
      exact ⟨⟨z, List.mem_cons_of_mem _ hz, e⟩, by omega, by omega⟩
theorem pieces_ones : ∀ (P : List (List UInt8 × Nat)) (p : Nat), (∀ x ∈ P, x.1.length = 1) → ∀ i (h : i < P.length), (P[i].2, p + i, 1) ∈ pieces p P
  | x :: r, p, h, i, hi => by
    rw [pieces, List.mem_cons]
    match i with
    | 0 => left; rw [h x (List.mem_cons_self ..)]; rfl
    | i + 1 =>
      right
      have := pieces_ones r (p + x.1.length) (fun y hy => h y (List.mem_cons_of_mem _ hy)) i (by simp only [List.length_cons] at hi; omega)
      rw [h x (List.mem_cons_self ..)] at this
      rw [List.getElem_cons_succ, show p + (i + 1) = p + 1 + i from by omega]
      rw [h x (List.mem_cons_self ..)]
      exact this
/-- the first with a mark that one alone has -/
theorem find_any {α : Type} (L : List α) (q w : α → Bool) (huniq : ∀ x ∈ L, ∀ y ∈ L, q x = true → q y = true → x = y) : (L.find? q).any w = L.any fun x => q x && w x := by
  rw [Bool.eq_iff_iff]
  cases h : L.find? q with
  | none =>
    rw [List.find?_eq_none] at h
    simp only [Option.any_none, List.any_eq_true, Bool.and_eq_true]
    constructor
    · intro h; cases h
    · rintro ⟨x, hx, h1, _⟩; exact absurd h1 (by simpa using h x hx)
  | some y =>
    have hy := List.mem_of_find?_eq_some h
    have hq := List.find?_some h
    simp only [Option.any_some, List.any_eq_true, Bool.and_eq_true]
    constructor
    · intro hw; exact ⟨y, hy, hq, hw⟩
    · rintro ⟨x, hx, h1, h2⟩
      rw [huniq y hy x hx hq h1]; exact h2
theorem all_uniq (l : List UInt8) (x y : Rn) (hx : x ∈ allA 0 l) (hy : y ∈ allA 0 l) : (x.2.1 = y.2.1 → x = y) ∧ (x.2.1 + x.2.2 = y.2.1 + y.2.2 → x = y) := by
  have hf := all_fine 0 l
  obtain ⟨i, hi, rfl⟩ := List.mem_iff_getElem.1 hx
  obtain ⟨j, hj, rfl⟩ := List.mem_iff_getElem.1 hy
  have hm := fun a b => beg_mono 0 (allA 0 l) (fun k hk => (hf.1 k hk).2.1) a b
  rw [(hf.1 i hi).1, (hf.1 j hj).1]
  have hs := beg_succ 0 _ i hi
  have ht := beg_succ 0 _ j hj
  rcases Nat.lt_trichotomy i j with h | h | h
  · have := hm i j h (by omega); have := hm (i + 1) (j + 1) (by omega) (by omega); constructor <;> (intro; omega)
  · subst h; exact ⟨fun _ => rfl, fun _ => rfl⟩
  · have := hm j i h (by omega); have := hm (j + 1) (i + 1) (by omega) (by omega); constructor <;> (intro; omega)
/-- a word between what is none has an edge where it begins, and where it ends, and none else -/
theorem edges (A W B : List (List UInt8 × Nat)) (hA : ∀ x ∈ A, (x.1 ≠ [] ∧ ∀ u, decodeL (x.1 ++ u) = (x.2, x.1.length)) ∧ wordB x.2 = false) (hB : ∀ x ∈ B, (x.1 ≠ [] ∧ ∀ u, decodeL (x.1 ++ u) = (x.2, x.1.length)) ∧ wordB x.2 = false)
    (hW : ∀ x ∈ W, (x.1.length = 1 ∧ ∀ u, decodeL (x.1 ++ u) = (x.2, x.1.length)) ∧ wordB x.2 = true) (hne : 0 < W.length) (a : Int) :
    edgeB (allA 0 (A.flatMap (·.1) ++ (W.flatMap (·.1) ++ B.flatMap (·.1)))) a = (a == ((A.flatMap (·.1)).length : Int) || a == ((A.flatMap (·.1)).length : Int) + (W.flatMap (·.1)).length) := by
  have hlW : (W.flatMap (·.1)).length = W.length := by
    clear hne
    induction W with
    | nil => rfl
    | cons x r ih => rw [List.flatMap_cons, List.length_append, (hW x (List.mem_cons_self ..)).1.1, ih fun y hy => hW y (List.mem_cons_of_mem _ hy), List.length_cons]; omega
  have hu := all_uniq (A.flatMap (·.1) ++ (W.flatMap (·.1) ++ B.flatMap (·.1)))
  have hall : allA 0 (A.flatMap (·.1) ++ (W.flatMap (·.1) ++ B.flatMap (·.1))) = pieces 0 A ++ (pieces (A.flatMap (·.1)).length W ++ pieces ((A.flatMap (·.1)).length + (W.flatMap (·.1)).length) B) := by
    have hW1 : ∀ x ∈ W, x.1 ≠ [] ∧ ∀ u, decodeL (x.1 ++ u) = (x.2, x.1.length) := fun x hx => ⟨fun h => by have := (hW x hx).1.1; rw [h] at this; simp at this, (hW x hx).1.2⟩
    rw [all_pieces A 0 _ fun x hx => (hA x hx).1, all_pieces W _ _ hW1]
    have := all_pieces B (0 + (A.flatMap (·.1)).length + (W.flatMap (·.1)).length) [] fun x hx => (hB x hx).1
    rw [List.append_nil, allA_nil, List.append_nil] at this
    rw [this, Nat.zero_add]
  unfold edgeB
  rw [find_any _ _ _ (fun x hx y hy h1 h2 => (hu x y hx hy).2 (by simp at h1 h2; omega)), find_any _ _ _ (fun x hx y hy h1 h2 => (hu x y hx hy).1 (by simp at h1 h2; omega))]
  rw [hall]
  generalize hn : (A.flatMap (·.1)).length = n at *
  have hin : ∀ x ∈ pieces 0 A ++ (pieces n W ++ pieces (n + (W.flatMap (·.1)).length) B), wordB x.1 = true → x ∈ pieces n W := by
    intro x hx hw
    rw [List.mem_append, List.mem_append] at hx
    rcases hx with h | h | h
    · obtain ⟨⟨z, hz, e⟩, _⟩ := pieces_mem _ _ _ h; rw [e, (hA z hz).2] at hw; cases hw
    · exact h
    · obtain ⟨⟨z, hz, e⟩, _⟩ := pieces_mem _ _ _ h; rw [e, (hB z hz).2] at hw; cases hw
  have hone : ∀ (W : List (List UInt8 × Nat)) (p : Nat), (∀ x ∈ W, x.1.length = 1) → ∀ x ∈ pieces p W, x.2.2 = 1 := by
    intro W
    induction W with
    | nil => intro p _ x hx; simp [pieces] at hx
    | cons y r ih =>
      intro p h x hx
      rw [pieces, List.mem_cons] at hx
      rcases hx with rfl | hx
      · exact h y (List.mem_cons_self ..)
      · exact ih _ (fun z hz => h z (List.mem_cons_of_mem _ hz)) x hx
  have hEnd : ((pieces 0 A ++ (pieces n W ++ pieces (n + (W.flatMap (·.1)).length) B)).any fun x => ((x.2.1 : Int) + x.2.2 == a) && wordB x.1) = decide ((n : Int) < a ∧ a ≤ (n : Int) + W.length) := by
    rw [Bool.eq_iff_iff, List.any_eq_true, decide_eq_true_eq]
    constructor
    · rintro ⟨x, hx, h⟩
      rw [Bool.and_eq_true, beq_iff_eq] at h
      have hm := hin x hx h.2
      obtain ⟨_, h1, h2⟩ := pieces_mem _ _ _ hm
      have h3 := hone W n (fun y hy => (hW y hy).1.1) x hm
      rw [hlW] at h2
      omega
    · rintro ⟨h1, h2⟩
      have hp := pieces_ones W n (fun y hy => (hW y hy).1.1) (a - n - 1).toNat (by omega)
      refine ⟨_, List.mem_append_right _ (List.mem_append_left _ hp), ?_⟩
      rw [Bool.and_eq_true, beq_iff_eq]
      exact ⟨by dsimp only; omega, (hW _ (List.getElem_mem _)).2⟩
  have hBeg : ((pieces 0 A ++ (pieces n W ++ pieces (n + (W.flatMap (·.1)).length) B)).any fun x => ((x.2.1 : Int) == a) && wordB x.1) = decide ((n : Int) ≤ a ∧ a < (n : Int) + W.length) := by
    rw [Bool.eq_iff_iff, List.any_eq_true, decide_eq_true_eq]
    constructor
    · rintro ⟨x, hx, h⟩
      rw [Bool.and_eq_true, beq_iff_eq] at h
      have hm := hin x hx h.2
      obtain ⟨_, h1, h2⟩ := pieces_mem _ _ _ hm
      have h3 := hone W n (fun y hy => (hW y hy).1.1) x hm
      rw [hlW] at h2
      omega
    · rintro ⟨h1, h2⟩
      have hp := pieces_ones W n (fun y hy => (hW y hy).1.1) (a - n).toNat (by omega)
      refine ⟨_, List.mem_append_right _ (List.mem_append_left _ hp), ?_⟩
      rw [Bool.and_eq_true, beq_iff_eq]
      exact ⟨by dsimp only; omega, (hW _ (List.getElem_mem _)).2⟩
  rw [hEnd, hBeg, hlW, Bool.eq_iff_iff]
  simp only [bne_iff_ne, ne_eq, Bool.or_eq_true, beq_iff_eq]
  by_cases c1 : (n : Int) < a ∧ a ≤ (n : Int) + W.length <;> by_cases c2 : (n : Int) ≤ a ∧ a < (n : Int) + W.length <;> simp only [c1, c2, decide_true, decide_false, and_self, not_true_eq_false, Bool.true_eq_false, Bool.false_eq_true, not_false_eq_true, true_iff, false_iff] <;> omega
end Go.Proofs.YtjkialgdaikijaaDoor.Plain
