/- Chapter 12 in plain words: a blob that was put is got; an error stays. Conditions: what each lemma says. -/
import Derived.Test.YtmiacgkidldjmaaGreatDoorWP
set_option linter.unusedVariables false
set_option linter.unusedSimpArgs false
namespace Go.Proofs.YtmiacgkidldjmaaGreatDoor.Plain
theorem b4_len (x : Int) : (b4 x).length = 4 := rfl
theorem sealed_len (l : List UInt8) : (sealed l).length = 4 := rfl
theorem padL_len (l : List UInt8) : (padL l).length = l.length + padN l.length := by unfold padL; simp
theorem padN_lt (n : Nat) : padN n < 4 := by unfold padN; omega
theorem padL_four (l : List UInt8) : (padL l).length % 4 = 0 := by rw [padL_len]; unfold padN; omega
theorem sealL_len (l : List UInt8) : (sealL l).length = l.length + padN l.length + 4 := by unfold sealL; rw [List.length_append, padL_len, sealed_len]
theorem sealL_four (l : List UInt8) : (sealL l).length % 4 = 0 := by unfold sealL; rw [List.length_append, sealed_len]; have := padL_four l; omega
theorem sealL_ahead (l : List UInt8) : (sealL l).take ((sealL l).length - 4) = padL l := by
  have h : (sealL l).length - 4 = (padL l).length := by rw [sealL_len, padL_len]; omega
  rw [h]; unfold sealL; exact List.take_left' rfl
theorem sealL_sum (l : List UInt8) : (sealL l).drop ((sealL l).length - 4) = sealed (padL l) := by
  have h : (sealL l).length - 4 = (padL l).length := by rw [sealL_len, padL_len]; omega
  rw [h]; unfold sealL; exact List.drop_left' rfl
theorem bodyL_len (k : UInt8) (tag : Nat) (a b c : List UInt8) : (bodyL k tag a b c).length = 3 + ((secL tag a).length + ((secL (tag + 1) b).length + (secL (tag + 2) c).length)) := by
  unfold bodyL; simp only [List.length_append]; rfl
theorem secL_len (tag : Nat) (a : List UInt8) (h : a.length ≤ 65536) : 2 + a.length ≤ (secL tag a).length ∧ (secL tag a).length ≤ a.length + 4 := by
  unfold secL textL
  have h1 := putL_len 2 a.length (by omega)
  have h2 := (putL_len10 a.length (by omega)).1
  rw [List.length_cons, List.length_append]; omega
theorem bodyL_drop (k : UInt8) (tag : Nat) (a b c r : List UInt8) : (bodyL k tag a b c ++ r).drop 3 = secL tag a ++ (secL (tag + 1) b ++ (secL (tag + 2) c ++ r)) := by
  unfold bodyL
  rw [List.append_assoc, List.append_assoc, List.append_assoc]
  rfl
theorem kindE_of (k : UInt8) (t : List UInt8) (h8 : 8 ≤ (87 :: 88 :: k :: t).length) (hb : (87 :: 88 :: k :: t).length ≤ 65536) :
    kindE (87 :: 88 :: k :: t) = if k = 80 then (1, 0) else if k = 84 then (2, 0) else (0, 6) := by
  unfold kindE
  rw [if_neg (by omega), if_neg (by omega)]
  simp
theorem kindE_body (k : UInt8) (tag : Nat) (a b c r : List UInt8) (h8 : 8 ≤ (bodyL k tag a b c ++ r).length) (hb : (bodyL k tag a b c ++ r).length ≤ 65536) :
    kindE (bodyL k tag a b c ++ r) = if k = 80 then (1, 0) else if k = 84 then (2, 0) else (0, 6) := kindE_of k _ h8 hb
/-- what is read of a blob is all but its first three bytes and its last four -/
theorem rd0_of (l s : List UInt8) (h : s.length = 4) : rd0 (l ++ s) = ⟨⟨l.drop 3, 0⟩, ⟨[], 0⟩, 0⟩ := by
  unfold rd0
  rw [List.length_append, h, Nat.add_sub_cancel, List.take_left' rfl]
theorem rd0_seal (l : List UInt8) : rd0 (sealL l) = ⟨⟨(padL l).drop 3, 0⟩, ⟨[], 0⟩, 0⟩ := rd0_of _ _ (sealed_len _)
theorem openE_seal (l : List UInt8) (kind : Int) : openE (sealL l) kind = if (kindE (sealL l)).2 ≠ 0 then (kindE (sealL l)).2 else if (kindE (sealL l)).1 ≠ kind then 12 else 0 := by
  unfold openE
  rw [sealL_ahead, sealL_sum, if_neg (show ¬ sealed (padL l) ≠ sealed (padL l) from fun h => h rfl)]
/-- behind the sections: padding, and nothing more -/
theorem all_zeros (n : Nat) : (List.replicate n (0 : UInt8)).all (· == 0) = true := by rw [List.all_eq_true]; intro x hx; rw [(List.mem_replicate.1 hx).2]; rfl
theorem pad_zeros (n : Nat) (r : List UInt8) : (Rd.mk (List.replicate n 0 ++ r) 0).pad n = ⟨r, 0⟩ := by
  unfold Rd.pad
  have := bytes_take (List.replicate n 0) r
  rw [List.length_replicate] at this
  rw [this]
  dsimp only
  rw [if_pos (all_zeros n)]
theorem fin_of (n : Nat) (r : List UInt8) (size : Int) (h : padI (size - 4 - ((List.replicate n (0 : UInt8) ++ r).length : Nat)) = n) :
    ((St.mk ⟨List.replicate n 0 ++ r, 0⟩ ⟨[], 0⟩ 0).fin size).bad = if r = [] then 0 else 8 := by
  unfold St.fin
  dsimp only
  rw [end_err 0, St.fail_ok]
  dsimp only
  rw [h, pad_zeros]
  unfold Rd.endE St.fail
  dsimp only
  rw [if_pos rfl]
  by_cases hr : r = []
  · rw [if_neg (fun h => h.2 hr), if_pos hr]
  · rw [if_pos ⟨rfl, hr⟩, if_neg hr]
theorem padI_gone (a n : Nat) (h : n = padN a) (r : List UInt8) (size : Int) (hs : size = a + n + r.length + 4) : padI (size - 4 - ((List.replicate n (0 : UInt8) ++ r).length : Nat)) = n := by
  rw [List.length_append, List.length_replicate, hs, show (a : Int) + n + r.length + 4 - 4 - ((n + r.length : Nat) : Int) = (a : Int) by omega, padI_nat, h]
/-- the sections of a program, with padding and more behind -/
theorem prog_read (L : List I4) (K : List (List Rg)) (g : Int) (n : Nat) (r : List UInt8) (h : Fits L K g) (B : List UInt8) (hB : bodyL 80 1 (putL g.toNat) (classesL K) (instsL L) = B) (hn : n = padN B.length) (size : Int) (hs : size = B.length + n + r.length + 4) :
    gProg ⟨⟨(B ++ (List.replicate n 0 ++ r)).drop 3, 0⟩, ⟨[], 0⟩, 0⟩ = ⟨⟨⟨List.replicate n 0 ++ r, 0⟩, ⟨[], 0⟩, 0⟩, L, K, g⟩ ∧
    ((gProg ⟨⟨(B ++ (List.replicate n 0 ++ r)).drop 3, 0⟩, ⟨[], 0⟩, 0⟩).st.fin size).bad = if r = [] then 0 else 8 := by
  have e : gProg ⟨⟨(B ++ (List.replicate n 0 ++ r)).drop 3, 0⟩, ⟨[], 0⟩, 0⟩ = ⟨⟨⟨List.replicate n 0 ++ r, 0⟩, ⟨[], 0⟩, 0⟩, L, K, g⟩ := by
    rw [← hB, bodyL_drop]
    exact prog_put L K g _ h
  refine ⟨e, ?_⟩
  rw [e]
  exact fin_of n r size (padI_gone _ n hn r size hs)
theorem progL_len (L : List I4) (K : List (List Rg)) (g : Int) (h : Fits L K g) : 16 ≤ (progL L K g).length ∧ (progL L K g).length ≤ 40000 := by
  have hg := put_len4 g.toNat (by have := h.g0; omega)
  have hk := classes_len K h.kn h.rn
  have hl := insts_len L h.ln h.tn
  have h1 := secL_len 1 (putL g.toNat) (by omega)
  have h2 := secL_len 2 (classesL K) (by omega)
  have h3 := secL_len 3 (instsL L) (by omega)
  have g1 := (putL_len10 g.toNat (by have := h.g0; omega)).1
  have k1 : 1 ≤ (classesL K).length := by unfold classesL; rw [List.length_append]; have := (putL_len10 K.length (by have := h.kn; omega)).1; omega
  have l1 : 1 ≤ (instsL L).length := by unfold instsL; rw [List.length_append]; have := (putL_len10 L.length (by have := h.ln; omega)).1; omega
  have h4 := bodyL_len 80 1 (putL g.toNat) (classesL K) (instsL L)
  have h5 := padN_lt (bodyL 80 1 (putL g.toNat) (classesL K) (instsL L)).length
  have h6 := sealL_len (bodyL 80 1 (putL g.toNat) (classesL K) (instsL L))
  unfold progL blobL
  rw [h6]
  simp only [show 1 + 1 = 2 from rfl, show 1 + 2 = 3 from rfl] at h4
  omega
theorem blobL_is (k : UInt8) (tag : Nat) (a b c : List UInt8) : ∃ t, blobL k tag a b c = 87 :: 88 :: k :: t := by
  obtain ⟨x, hx⟩ : ∃ x, secL tag a ++ (secL (tag + 1) b ++ secL (tag + 2) c) = x := ⟨_, rfl⟩
  obtain ⟨y, hy⟩ : ∃ y, sealed (padL (bodyL k tag a b c)) = y := ⟨_, rfl⟩
  obtain ⟨n, hn⟩ : ∃ n, padN (bodyL k tag a b c).length = n := ⟨_, rfl⟩
  refine ⟨x ++ List.replicate n 0 ++ y, ?_⟩
  unfold blobL sealL
  rw [hy]
  unfold padL
  rw [hn]
  unfold bodyL
  rw [hx]
  rfl
theorem progL_is (L : List I4) (K : List (List Rg)) (g : Int) : ∃ t, progL L K g = 87 :: 88 :: 80 :: t := blobL_is _ _ _ _ _
theorem progL_kind (L : List I4) (K : List (List Rg)) (g : Int) (h : Fits L K g) : kindE (progL L K g) = (1, 0) := by
  obtain ⟨t, ht⟩ := progL_is L K g
  have hl := progL_len L K g h
  rw [ht] at hl ⊢
  rw [kindE_of 80 t (by omega) (by omega), if_pos rfl]
theorem progL_open (L : List I4) (K : List (List Rg)) (g : Int) (h : Fits L K g) : openE (progL L K g) 1 = 0 := by
  have hk := progL_kind L K g h
  unfold progL blobL at hk ⊢
  rw [openE_seal, hk]; rfl
theorem rep_nil (n : Nat) : List.replicate n (0 : UInt8) ++ [] = List.replicate n 0 := List.append_nil _
/-- a program that was put is got -/
theorem prog_got (L : List I4) (K : List (List Rg)) (g : Int) (h : Fits L K g) :
    ∃ st, gProg (rd0 (progL L K g)) = ⟨st, L, K, g⟩ ∧ (st.fin (progL L K g).length).bad = 0 := by
  obtain ⟨B, hB⟩ : ∃ B, bodyL 80 1 (putL g.toNat) (classesL K) (instsL L) = B := ⟨_, rfl⟩
  have hp := prog_read L K g (padN B.length) [] h B hB rfl ((progL L K g).length) (by unfold progL blobL; rw [hB, sealL_len]; simp)
  have e : rd0 (progL L K g) = ⟨⟨(B ++ (List.replicate (padN B.length) 0 ++ [])).drop 3, 0⟩, ⟨[], 0⟩, 0⟩ := by
    unfold progL blobL; rw [rd0_seal, hB, List.append_nil]; rfl
  rw [e]
  refine ⟨_, hp.1, ?_⟩
  have h2 := hp.2
  rw [hp.1] at h2
  exact h2
/-- a program with four bytes more is none -/
theorem prog_more (L : List I4) (K : List (List Rg)) (g : Int) (h : Fits L K g) (z : List UInt8) (hz : z.length = 4) :
    ((gProg (rd0 (progL L K g ++ z))).st.fin (progL L K g ++ z).length).bad = 8 := by
  obtain ⟨B, hB⟩ : ∃ B, bodyL 80 1 (putL g.toNat) (classesL K) (instsL L) = B := ⟨_, rfl⟩
  have hp := prog_read L K g (padN B.length) (sealed (padL B)) h B hB rfl ((progL L K g ++ z).length) (by unfold progL blobL; rw [hB, List.length_append, sealL_len, sealed_len, hz]; omega)
  have e : rd0 (progL L K g ++ z) = ⟨⟨(B ++ (List.replicate (padN B.length) 0 ++ sealed (padL B))).drop 3, 0⟩, ⟨[], 0⟩, 0⟩ := by
    rw [rd0_of _ _ hz]; unfold progL blobL sealL padL; rw [hB, List.append_assoc]
  rw [e, hp.2, if_neg (by intro h; have := congrArg List.length h; rw [sealed_len] at this; simp at this)]
/-- an error stays -/
theorem fail_keep (t : St) (e : Int) (h : t.bad ≠ 0) : (t.fail e).bad = t.bad := by rw [t.fail_bad e h]
theorem secTag_keep (t : St) (tag : Nat) (h : t.bad ≠ 0) : (secTag t tag).bad = t.bad := by
  unfold secTag
  dsimp only
  rw [t.fail_bad _ h, t.fail_bad _ h]
  split
  · exact fail_keep t 7 h
  · rfl
theorem section_keep (t : St) (tag : Nat) (h : t.bad ≠ 0) : (t.section tag).bad = t.bad := by
  unfold St.section
  dsimp only
  rw [fail_keep _ _ (by rw [secTag_keep t tag h]; exact h), secTag_keep t tag h]
theorem num1_keep (t : St) (m : Nat) (h : t.bad ≠ 0) : (t.num1 m).bad = t.bad := by
  unfold St.num1
  dsimp only
  have e : ((St.mk t.al t.inn.next.2 t.bad).fail t.inn.next.2.e).bad = t.bad := fail_keep _ _ h
  split
  · rw [fail_keep _ _ (by rw [e]; exact h), e]
  · exact e
theorem number_keep (t : St) (m : Nat) (h : t.bad ≠ 0) : (t.number m).2.bad = t.bad := num1_keep t m h
theorem fin_keep (t : St) (size : Int) (h : t.bad ≠ 0) : (t.fin size).bad = t.bad := by
  unfold St.fin
  dsimp only
  rw [t.fail_bad _ h, fail_keep t _ h]
theorem gProg_bad (t : St) (e : Int) (he : e ≠ 0) (h : (((t.section 1).number mw).2.section 2).bad = e) (size : Int) : ((gProg t).st.fin size).bad = e := by
  have h1 : ((((t.section 1).number mw).2.section 2).number 64).2.bad = e := by rw [number_keep _ _ (by rw [h]; exact he), h]
  have h2 : (((((t.section 1).number mw).2.section 2).number 64).2.section 3).bad = e := by rw [section_keep _ _ (by rw [h1]; exact he), h1]
  have h3 : ((((((t.section 1).number mw).2.section 2).number 64).2.section 3).number 512).2.bad = e := by rw [number_keep _ _ (by rw [h2]; exact he), h2]
  have m1 := many_bad (fun s : SK => s.1.bad) gClass ((((t.section 1).number mw).2.section 2).number 64).1 (((((t.section 1).number mw).2.section 2).number 64).2, []) (by dsimp only; rw [h1]; exact he)
  have m2 := many_bad (fun s : SI => s.1.bad) gInst ((((((t.section 1).number mw).2.section 2).number 64).2.section 3).number 512).1 (((((((t.section 1).number mw).2.section 2).number 64).2.section 3).number 512).2, []) (by dsimp only; rw [h3]; exact he)
  have e1 : (gProg t).st = ((((((t.section 1).number mw).2.section 2).number 64).2.section 3).number 512).2 := by
    unfold gProg
    dsimp only
    rw [m1]
    dsimp only
    rw [m2]
  rw [e1, fin_keep _ _ (by rw [h3]; exact he), h3]
theorem gProg_bad1 (t : St) (e : Int) (he : e ≠ 0) (h : ((t.section 1).number mw).2.bad = e) (size : Int) : ((gProg t).st.fin size).bad = e :=
  gProg_bad t e he (by rw [section_keep _ _ (by rw [h]; exact he), h]) size
theorem gProg_bad0 (t : St) (e : Int) (he : e ≠ 0) (h : (t.section 1).bad = e) (size : Int) : ((gProg t).st.fin size).bad = e :=
  gProg_bad1 t e he (by rw [number_keep _ _ (by rw [h]; exact he), h]) size
end Go.Proofs.YtmiacgkidldjmaaGreatDoor.Plain
