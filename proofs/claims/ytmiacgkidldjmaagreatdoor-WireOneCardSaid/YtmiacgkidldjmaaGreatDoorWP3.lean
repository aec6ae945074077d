/- Chapter 12 in plain words: a table that was put is got; an error stays. Conditions: what each lemma says. -/
import Derived.Test.YtmiacgkidldjmaaGreatDoorWP2
set_option linter.unusedVariables false
set_option linter.unusedSimpArgs false
namespace Go.Proofs.YtmiacgkidldjmaaGreatDoor.Plain
/-- numbers that rise, from one on -/
def Rises : Int → List Int → Prop
  | _, [] => True
  | a, x :: l => a ≤ x ∧ x ≤ 1114111 ∧ Rises x l
/-- a table's numbers may be put -/
structure FitsT (P : List Int) (N : List (List Int)) (C : List Bool) : Prop where
  pn : P.length ≤ 64
  pr : Rises 0 P
  nn : N.length ≤ 64
  cn : C.length = N.length
  rn : ∀ r ∈ N, r.length = P.length ∧ ∀ x ∈ r, 0 ≤ x ∧ x ≤ 16777215
theorem diffs_len : ∀ (P : List Int) (a : Int), (diffs a P).length = P.length := by
  intro P
  induction P with
  | nil => intro a; rfl
  | cons x P ih => intro a; unfold diffs; rw [List.length_cons, ih, List.length_cons]
theorem rises_small : ∀ (P : List Int) (a : Int), 0 ≤ a → Rises a P → ∀ d ∈ diffs a P, 0 ≤ d ∧ d ≤ 1114111 := by
  intro P
  induction P with
  | nil => intro a _ _ d hd; simp [diffs] at hd
  | cons x P ih =>
    intro a ha h d hd
    unfold diffs at hd
    rcases List.mem_cons.1 hd with e | e
    · subst e; have := h.1; have := h.2.1; omega
    · exact ih x (by have := h.1; omega) h.2.2 d e
theorem parts_put (al : Rd) : ∀ (P : List Int) (a : Int) (acc : List Int) (r : List UInt8), 0 ≤ a → Rises a P →
    many (fun s : SP => s.1.bad) gPart P.length (⟨al, ⟨((diffs a P).flatMap fun d => putL d.toNat) ++ r, 0⟩, 0⟩, a, acc) = (⟨al, ⟨r, 0⟩, 0⟩, P.getLastD a, acc ++ P) := by
  intro P
  induction P with
  | nil => intro a acc r _ _; simp [many, diffs]
  | cons x P ih =>
    intro a acc r ha h
    have h1 := h.1
    have h2 := h.2.1
    unfold diffs
    rw [List.flatMap_cons, List.append_assoc, List.length_cons]
    unfold many
    rw [if_pos rfl]
    have e : gPart (⟨al, ⟨putL (x - a).toNat ++ (((diffs x P).flatMap fun d => putL d.toNat) ++ r), 0⟩, 0⟩, a, acc) = (⟨al, ⟨((diffs x P).flatMap fun d => putL d.toNat) ++ r, 0⟩, 0⟩, x, acc ++ [x]) := by
      unfold gPart mw
      dsimp only
      rw [number_put _ _ _ _ (by omega) (by omega)]
      dsimp only
      rw [show a + (((x - a).toNat : Nat) : Int) = x by omega]
    rw [e, ih x (acc ++ [x]) r (by omega) h.2.2]
    have e2 : (x :: P).getLastD a = P.getLastD x := by cases P <;> rfl
    rw [e2]; simp
theorem cell_put (x : Int) (al : Rd) (t : List UInt8) (acc : List Int) (h : 0 ≤ x ∧ x ≤ 16777215) : gCell (⟨al, ⟨putL x.toNat ++ t, 0⟩, 0⟩, acc) = (⟨al, ⟨t, 0⟩, 0⟩, acc ++ [x]) := by
  unfold gCell mw
  dsimp only
  rw [number_put _ _ _ _ (by omega) (by omega)]
  dsimp only
  rw [show ((x.toNat : Nat) : Int) = x by omega]
theorem row_put (width : Nat) (R : List Int) (al : Rd) (t : List UInt8) (acc : List (List Int)) (h : R.length = width ∧ ∀ x ∈ R, 0 ≤ x ∧ x ≤ 16777215) : gRow width (⟨al, ⟨rowL R ++ t, 0⟩, 0⟩, acc) = (⟨al, ⟨t, 0⟩, 0⟩, acc ++ [R]) := by
  unfold gRow rowL
  dsimp only
  rw [← h.1]
  rw [many_put (fun x : Int => putL x.toNat) id gCell al R t [] fun x hx t acc => cell_put x al t acc (h.2 x hx)]
  simp
theorem acc_put (b : Bool) (al : Rd) (t : List UInt8) (acc : List Bool) : gAcc (⟨al, ⟨bitL b ++ t, 0⟩, 0⟩, acc) = (⟨al, ⟨t, 0⟩, 0⟩, acc ++ [b]) := by
  unfold gAcc bitL
  dsimp only
  rw [number_put _ _ _ _ (by cases b <;> decide) (by cases b <;> decide)]
  cases b <;> rfl
theorem partsL_len (P : List Int) (h : P.length ≤ 64) (hr : Rises 0 P) : 1 ≤ (partsL P).length ∧ (partsL P).length ≤ 193 := by
  unfold partsL
  have h1 := put_len1 P.length (by omega)
  have h2 := flat_len (fun d : Int => putL d.toNat) 3 (diffs 0 P) fun d hd => putL_len 2 d.toNat (by have := rises_small P 0 (Int.le_refl _) hr d hd; omega)
  rw [diffs_len] at h2
  rw [List.length_append]; omega
theorem nextL_len (P : List Int) (N : List (List Int)) (C : List Bool) (h : FitsT P N C) : 1 ≤ (nextL N).length ∧ (nextL N).length ≤ 16385 := by
  unfold nextL
  have hn := h.nn
  have h1 := put_len1 N.length (by omega)
  have h2 := flat_len rowL 256 N fun R hR => by
    obtain ⟨hl, hx⟩ := h.rn R hR
    have h3 := flat_len (fun x : Int => putL x.toNat) 4 R fun x hr => put_len4 x.toNat (by have := hx x hr; omega)
    have := h.pn
    unfold rowL
    omega
  rw [List.length_append]; omega
theorem accL_len (C : List Bool) (h : C.length ≤ 64) : 1 ≤ (accL C).length ∧ (accL C).length ≤ 65 := by
  unfold accL
  have h1 := put_len1 C.length (by omega)
  have h2 := flat_len bitL 1 C fun b _ => by unfold bitL; rw [put_len1 _ (by cases b <;> decide)]; exact Nat.le_refl _
  rw [List.length_append]; omega
/-- what was put is read, behind it what stands there -/
theorem tab_put (P : List Int) (N : List (List Int)) (C : List Bool) (r : List UInt8) (h : FitsT P N C) :
    gTab ⟨⟨secL 4 (partsL P) ++ (secL 5 (nextL N) ++ (secL 6 (accL C) ++ r)), 0⟩, ⟨[], 0⟩, 0⟩ = ⟨⟨⟨r, 0⟩, ⟨[], 0⟩, 0⟩, P, N, C⟩ := by
  have h1 := partsL_len P h.pn h.pr
  have h2 := nextL_len P N C h
  have h3 := accL_len C (by rw [h.cn]; exact h.nn)
  have hc := h.cn
  unfold gTab
  dsimp only
  rw [section_put 4 _ _ (by decide) (by omega)]
  unfold partsL
  rw [number_put _ _ _ _ h.pn (by have := h.pn; omega)]
  dsimp only
  have e1 := parts_put ⟨secL 5 (nextL N) ++ (secL 6 (accL C) ++ r), 0⟩ P 0 [] [] (Int.le_refl _) h.pr
  rw [List.append_nil] at e1
  rw [e1]
  dsimp only
  rw [section_put 5 _ _ (by decide) (by omega)]
  unfold nextL
  rw [number_put _ _ _ _ h.nn (by have := h.nn; omega)]
  dsimp only
  have e2 := many_put rowL id (gRow P.length) ⟨secL 6 (accL C) ++ r, 0⟩ N [] [] fun R hR t acc => row_put P.length R _ t acc (h.rn R hR)
  rw [List.append_nil] at e2
  rw [e2]
  dsimp only
  rw [section_put 6 _ _ (by decide) (by omega)]
  unfold accL
  rw [number_put _ _ _ _ (by rw [hc]; exact h.nn) (by rw [hc]; have := h.nn; omega)]
  dsimp only
  have e3 := many_put bitL id gAcc ⟨r, 0⟩ C [] [] fun b _ t acc => acc_put b _ t acc
  rw [List.append_nil] at e3
  rw [e3]
  simp
theorem tab_read (P : List Int) (N : List (List Int)) (C : List Bool) (n : Nat) (r : List UInt8) (h : FitsT P N C) (B : List UInt8) (hB : bodyL 84 4 (partsL P) (nextL N) (accL C) = B) (hn : n = padN B.length) (size : Int) (hs : size = B.length + n + r.length + 4) :
    gTab ⟨⟨(B ++ (List.replicate n 0 ++ r)).drop 3, 0⟩, ⟨[], 0⟩, 0⟩ = ⟨⟨⟨List.replicate n 0 ++ r, 0⟩, ⟨[], 0⟩, 0⟩, P, N, C⟩ ∧
    ((gTab ⟨⟨(B ++ (List.replicate n 0 ++ r)).drop 3, 0⟩, ⟨[], 0⟩, 0⟩).st.fin size).bad = if r = [] then 0 else 8 := by
  have e : gTab ⟨⟨(B ++ (List.replicate n 0 ++ r)).drop 3, 0⟩, ⟨[], 0⟩, 0⟩ = ⟨⟨⟨List.replicate n 0 ++ r, 0⟩, ⟨[], 0⟩, 0⟩, P, N, C⟩ := by
    rw [← hB, bodyL_drop]
    exact tab_put P N C _ h
  refine ⟨e, ?_⟩
  rw [e]
  exact fin_of n r size (padI_gone _ n hn r size hs)
theorem tabL_len (P : List Int) (N : List (List Int)) (C : List Bool) (h : FitsT P N C) : 16 ≤ (tabL P N C).length ∧ (tabL P N C).length ≤ 40000 := by
  have hg := partsL_len P h.pn h.pr
  have hk := nextL_len P N C h
  have hl := accL_len C (by rw [h.cn]; exact h.nn)
  have h1 := secL_len 4 (partsL P) (by omega)
  have h2 := secL_len 5 (nextL N) (by omega)
  have h3 := secL_len 6 (accL C) (by omega)
  have h4 := bodyL_len 84 4 (partsL P) (nextL N) (accL C)
  have h5 := padN_lt (bodyL 84 4 (partsL P) (nextL N) (accL C)).length
  have h6 := sealL_len (bodyL 84 4 (partsL P) (nextL N) (accL C))
  unfold tabL blobL
  rw [h6]
  simp only [show 4 + 1 = 5 from rfl, show 4 + 2 = 6 from rfl] at h4
  omega
theorem tabL_is (P : List Int) (N : List (List Int)) (C : List Bool) : ∃ t, tabL P N C = 87 :: 88 :: 84 :: t := blobL_is _ _ _ _ _
theorem tabL_kind (P : List Int) (N : List (List Int)) (C : List Bool) (h : FitsT P N C) : kindE (tabL P N C) = (2, 0) := by
  obtain ⟨t, ht⟩ := tabL_is P N C
  have hl := tabL_len P N C h
  rw [ht] at hl ⊢
  rw [kindE_of 84 t (by omega) (by omega), if_neg (by decide), if_pos rfl]
theorem tabL_open (P : List Int) (N : List (List Int)) (C : List Bool) (h : FitsT P N C) : openE (tabL P N C) 2 = 0 := by
  have hk := tabL_kind P N C h
  unfold tabL blobL at hk ⊢
  rw [openE_seal, hk]; rfl
/-- a table that was put is got -/
theorem tab_got (P : List Int) (N : List (List Int)) (C : List Bool) (h : FitsT P N C) :
    ∃ st, gTab (rd0 (tabL P N C)) = ⟨st, P, N, C⟩ ∧ (st.fin (tabL P N C).length).bad = 0 := by
  obtain ⟨B, hB⟩ : ∃ B, bodyL 84 4 (partsL P) (nextL N) (accL C) = B := ⟨_, rfl⟩
  have hp := tab_read P N C (padN B.length) [] h B hB rfl ((tabL P N C).length) (by unfold tabL blobL; rw [hB, sealL_len]; simp)
  have e : rd0 (tabL P N C) = ⟨⟨(B ++ (List.replicate (padN B.length) 0 ++ [])).drop 3, 0⟩, ⟨[], 0⟩, 0⟩ := by
    unfold tabL blobL; rw [rd0_seal, hB, List.append_nil]; rfl
  rw [e]
  refine ⟨_, hp.1, ?_⟩
  have h2 := hp.2
  rw [hp.1] at h2
  exact h2
/-- how much is still to be read -/
def St.small (t : St) : Prop := t.al.rest.length ≤ 65536 ∧ t.inn.rest.length ≤ 65536
theorem goN_len : ∀ (f acc : Nat) (l : List UInt8), (goN f acc l).2.1.length ≤ l.length := by
  intro f
  induction f with
  | zero => intro acc l; unfold goN; simp
  | succ f ih =>
    intro acc l
    cases l with
    | nil => unfold goN; simp
    | cons b l =>
      unfold goN
      split
      · simp
      · split
        · simp
        · split
          · simp
          · have := ih (acc + (b.toNat - 128) * 2 ^ (7 * (9 - f))) l
            rw [List.length_cons]; omega
theorem fail_len (r : Rd) (e : Int) : (r.fail e).rest.length ≤ r.rest.length := by unfold Rd.fail; split <;> simp
theorem next_len (r : Rd) : r.next.2.rest.length ≤ r.rest.length := by
  unfold Rd.next
  split
  · exact goN_len _ _ _
  · simp
theorem bytes_len (r : Rd) (m : Int) : (r.bytes m).1.length ≤ r.rest.length ∧ (r.bytes m).2.rest.length ≤ r.rest.length := by
  unfold Rd.bytes
  split
  · dsimp only; rw [List.length_take, List.length_drop]; omega
  · exact ⟨by simp, fail_len r 4⟩
theorem text_len (r : Rd) (m : Nat) : (r.text m).1.length ≤ r.rest.length ∧ (r.text m).2.rest.length ≤ r.rest.length := by
  have h := next_len r
  unfold Rd.text
  split
  · have := fail_len r.next.2 3; exact ⟨by simp, by dsimp only; omega⟩
  · split
    · have := fail_len r.next.2 4; exact ⟨by simp, by dsimp only; omega⟩
    · have := bytes_len r.next.2 (r.next.1 : Int); omega
theorem small_fail (t : St) (e : Int) (h : t.small) : (t.fail e).small := h
theorem small_section (t : St) (tag : Nat) (h : t.small) : (t.section tag).small := by
  have h1 := bytes_len t.al 1
  have h2 := text_len (t.al.bytes 1).2 65536
  have h3 := h.1
  unfold St.section St.small
  dsimp only
  omega
theorem small_num1 (t : St) (m : Nat) (h : t.small) : (t.num1 m).small := by
  have h1 := next_len t.inn
  have h2 := h.1
  have h3 := h.2
  unfold St.num1 St.small
  dsimp only
  split <;> (unfold St.fail; dsimp only; omega)
theorem small_number (t : St) (m : Nat) (h : t.small) : (t.number m).2.small := small_num1 t m h
/-- a number is no more than it may be -/
theorem number_most (t : St) (m : Nat) : (t.number m).1 ≤ m := by
  unfold St.number
  dsimp only
  split
  · rename_i h
    unfold St.num1 at h
    dsimp only at h
    rcases Nat.lt_or_ge m t.inn.next.1 with h1 | h1
    · rw [if_pos h1] at h
      unfold St.fail at h
      dsimp only at h
      split at h
      · omega
      · rename_i h2; exact absurd h h2
    · exact h1
  · exact Nat.zero_le _
end Go.Proofs.YtmiacgkidldjmaaGreatDoor.Plain
