/- Chapter 12 in plain words: of another byte the sum is another one; what each fault is refused with. Conditions: what each lemma says. -/
import Derived.Test.YtmiacgkidldjmaaGreatDoorWP6
set_option linter.unusedVariables false
set_option linter.unusedSimpArgs false
namespace Go.Proofs.YtmiacgkidldjmaaGreatDoor.Plain
theorem b4_inj (x y : Int) (hx : 0 ≤ x ∧ x < 4294967296) (hy : 0 ≤ y ∧ y < 4294967296) (h : b4 x = b4 y) : x = y := by
  unfold b4 at h
  simp only [List.cons.injEq, and_true] at h
  obtain ⟨h1, h2, h3, h4⟩ := h
  have e : ∀ a b : Int, 0 ≤ a → a < 256 → 0 ≤ b → b < 256 → UInt8.ofNat a.toNat = UInt8.ofNat b.toNat → a = b := fun a b p1 p2 p3 p4 hh => by
    have := congrArg UInt8.toNat hh
    rw [ofNat_toNat _ (by omega), ofNat_toNat _ (by omega)] at this
    omega
  have q1 := e _ _ (by omega) (by omega) (by omega) (by omega) h1
  have q2 := e _ _ (by omega) (by omega) (by omega) (by omega) h2
  have q3 := e _ _ (by omega) (by omega) (by omega) (by omega) h3
  have q4 := e _ _ (by omega) (by omega) (by omega) (by omega) h4
  omega
/-- of one byte more or less the sum is another one -/
theorem sealed_turn (T : List UInt8) (k : Nat) (hk : k < T.length) (v : UInt8) (h : sealed (T.set k v) = sealed T) : v = T[k] := by
  unfold sealed at h
  have h2 := b4_inj _ _ (addS_bd 1 _) (addS_bd 1 _) h
  rw [List.set_eq_take_append_cons_drop, if_pos hk] at h2
  have e : T = T.take k ++ T[k] :: T.drop (k + 1) := by
    conv => lhs; rw [← List.take_append_drop k T, List.drop_eq_getElem_cons hk]
  have h3 : addS 1 (T.take k ++ v :: T.drop (k + 1)) = addS 1 (T.take k ++ T[k] :: T.drop (k + 1)) := by rw [h2, ← e]
  exact (addS_other _ _ _ _).1 h3
theorem sum_turn (s : List UInt8) (k : Nat) (hk : k < s.length) (v : UInt8) (hv : v ≠ s[k]) (h8 : 8 ≤ s.length) (h0 : sealed (s.take (s.length - 4)) = s.drop (s.length - 4)) :
    sealed ((s.set k v).take (s.length - 4)) ≠ (s.set k v).drop (s.length - 4) := by
  intro h1
  by_cases h4 : k < s.length - 4
  · rw [List.take_set, List.drop_set_of_lt h4, ← h0] at h1
    have := sealed_turn _ k (by rw [List.length_take]; omega) v h1
    rw [List.getElem_take] at this
    exact hv this
  · rw [List.take_set_of_le (by omega), h0] at h1
    have h2 : (s.drop (s.length - 4))[k - (s.length - 4)]? = ((s.set k v).drop (s.length - 4))[k - (s.length - 4)]? := by rw [h1]
    rw [List.getElem?_drop, List.getElem?_drop, show s.length - 4 + (k - (s.length - 4)) = k by omega, List.getElem?_set_self hk, List.getElem?_eq_getElem hk] at h2
    injection h2 with h2
    exact hv h2.symm
theorem openE_turn (s : List UInt8) (k : Nat) (hk : k < s.length) (v : UInt8) (hv : v ≠ s[k]) (ho : openE s 1 = 0) : openE (s.set k v) 1 ≠ 0 := by
  intro h
  have h1 := (openE_zero _ _ h).2.2
  have h0 := openE_zero s 1 ho
  rw [List.length_set] at h1
  exact sum_turn s k hk v hv ((kindE_two s).1 h0.1 h0.2.1).2.1 h0.2.2 h1
theorem openE_last (s : List UInt8) (k : Nat) (hk : k < s.length) (h3 : 3 ≤ k) (v : UInt8) (hv : v ≠ s[k]) (ho : openE s 1 = 0) : openE (s.set k v) 1 = 10 := by
  have h0 := openE_zero s 1 ho
  have ek : kindE (s.set k v) = kindE s := by
    unfold kindE
    rw [List.length_set, List.take_set_of_le h3]
  unfold openE
  rw [ek, if_neg (by simp [h0.1]), if_neg (by simp [h0.2.1]), List.length_set, if_pos (sum_turn s k hk v hv ((kindE_two s).1 h0.1 h0.2.1).2.1 h0.2.2)]
/-- an error of what is put together and sealed -/
def badOf (t : List UInt8) : Int := ((gProg (rd0 t)).st.fin t.length).bad
theorem open_of (Y : List UInt8) (h : 2 ≤ Y.length) (hb : Y.length ≤ 65000) : openE (sealL (87 :: 88 :: 80 :: Y)) 1 = 0 := by
  have hl := sealL_len (87 :: 88 :: 80 :: Y)
  have hp := padN_lt (87 :: 88 :: 80 :: Y).length
  have e : ∃ t, sealL (87 :: 88 :: 80 :: Y) = 87 :: 88 :: 80 :: t := ⟨_, by unfold sealL padL; rw [List.cons_append, List.cons_append, List.cons_append, List.cons_append, List.cons_append, List.cons_append]⟩
  obtain ⟨t, ht⟩ := e
  simp only [List.length_cons] at hl hp
  rw [openE_seal]
  rw [ht] at hl ⊢
  simp only [List.length_cons] at hl
  rw [kindE_of 80 t (by simp only [List.length_cons]; omega) (by simp only [List.length_cons]; omega)]
  rfl
theorem magic_of (Y : List UInt8) (h : 2 ≤ Y.length) (hb : Y.length ≤ 65000) : openE (sealL (87 :: 88 :: 81 :: Y)) 1 = 6 := by
  have hl := sealL_len (87 :: 88 :: 81 :: Y)
  have hp := padN_lt (87 :: 88 :: 81 :: Y).length
  have e : ∃ t, sealL (87 :: 88 :: 81 :: Y) = 87 :: 88 :: 81 :: t := ⟨_, by unfold sealL padL; rw [List.cons_append, List.cons_append, List.cons_append, List.cons_append, List.cons_append, List.cons_append]⟩
  obtain ⟨t, ht⟩ := e
  simp only [List.length_cons] at hl hp
  rw [openE_seal]
  rw [ht] at hl ⊢
  simp only [List.length_cons] at hl
  rw [kindE_of 81 t (by simp only [List.length_cons]; omega) (by simp only [List.length_cons]; omega)]
  rfl
theorem bad_seal (Y : List UInt8) : badOf (sealL (87 :: 88 :: 80 :: Y)) = ((gProg ⟨⟨Y ++ List.replicate (padN (87 :: 88 :: 80 :: Y).length) 0, 0⟩, ⟨[], 0⟩, 0⟩).st.fin (sealL (87 :: 88 :: 80 :: Y)).length).bad := by
  unfold badOf
  rw [rd0_seal]
  unfold padL
  rw [List.cons_append, List.cons_append, List.cons_append]
  rfl
theorem padL_id (l : List UInt8) (h : l.length % 4 = 0) : padL l = l := by
  have e : padN l.length = 0 := by unfold padN; omega
  unfold padL
  rw [e, List.replicate_zero, List.append_nil]
/-- a number with a byte more than it needs -/
theorem fault_long (b : UInt8) (hb : 128 ≤ b.toNat) (R : List UInt8) : badOf (sealL (87 :: 88 :: 80 :: (secL 1 [b, 0] ++ R))) = 5 := by
  rw [bad_seal]
  refine gProg_bad1 _ 5 (by decide) ?_ _
  rw [List.append_assoc, section_put 1 [b, 0] _ (by decide) (by simp)]
  unfold St.number St.num1
  dsimp only
  rw [show ([b, 0] : List UInt8) = [b] ++ 0 :: [] from rfl, next_long [b] [] (by simpa using hb) (by simp) (by simp)]
  rfl
/-- a section out of its order -/
theorem fault_order (a R : List UInt8) : badOf (sealL (87 :: 88 :: 80 :: (secL 2 a ++ R))) = 7 := by
  rw [bad_seal]
  refine gProg_bad0 _ 7 (by decide) ?_ _
  unfold secL St.section
  rw [List.append_assoc, List.cons_append]
  dsimp only
  have e : (Rd.mk (UInt8.ofNat 2 :: (textL a ++ (R ++ List.replicate (padN (87 :: 88 :: 80 :: (UInt8.ofNat 2 :: textL a ++ R)).length) 0))) 0).bytes 1 = ([2], ⟨textL a ++ (R ++ List.replicate (padN (87 :: 88 :: 80 :: (UInt8.ofNat 2 :: textL a ++ R)).length) 0), 0⟩) :=
    bytes_take [2] _
  have e2 : (secTag ⟨⟨UInt8.ofNat 2 :: (textL a ++ (R ++ List.replicate (padN (87 :: 88 :: 80 :: (UInt8.ofNat 2 :: textL a ++ R)).length) 0)), 0⟩, ⟨[], 0⟩, 0⟩ 1).bad = 7 := by
    unfold secTag
    dsimp only
    rw [e]
    rfl
  exact (fail_keep _ _ (fun q => absurd (e2.symm.trans q) (by decide))).trans e2
/-- bytes behind a section's number -/
theorem fault_behind (g : Nat) (hg : g ≤ 2) (R : List UInt8) : badOf (sealL (87 :: 88 :: 80 :: (secL 1 (putL g ++ [0]) ++ R))) = 8 := by
  rw [bad_seal]
  refine gProg_bad _ 8 (by decide) ?_ _
  rw [List.append_assoc, section_put 1 (putL g ++ [0]) _ (by decide) (by rw [List.length_append, putL_small g (by omega)]; simp), number_put g mw _ _ (by unfold mw; omega) (by omega)]
  obtain ⟨Z, hZ⟩ : ∃ Z, R ++ List.replicate (padN (87 :: 88 :: 80 :: (secL 1 (putL g ++ [0]) ++ R)).length) 0 = Z := ⟨_, rfl⟩
  rw [hZ]
  unfold St.section
  dsimp only
  have e2 : (secTag ⟨⟨Z, 0⟩, ⟨[0], 0⟩, 0⟩ 2).bad = 8 := by
    unfold secTag
    dsimp only
    have e3 : ((St.mk ⟨Z, 0⟩ ⟨[0], 0⟩ 0).fail (Rd.mk [0] 0).endE).bad = 8 := by rfl
    have e4 : (((St.mk ⟨Z, 0⟩ ⟨[0], 0⟩ 0).fail (Rd.mk [0] 0).endE).fail ((Rd.mk Z 0).bytes 1).2.e).bad = 8 := by exact (fail_keep _ _ (fun q => absurd (e3.symm.trans q) (by decide))).trans e3
    split
    · exact (fail_keep _ _ (fun q => absurd (e4.symm.trans q) (by decide))).trans e4
    · exact e4
  exact (fail_keep _ _ (fun q => absurd (e2.symm.trans q) (by decide))).trans e2
/-- bytes behind all sections -/
theorem fault_tail (L : List I4) (K : List (List Rg)) (g : Int) (h : Fits L K g) (z : List UInt8) (hz : z.length = 4) :
    badOf (sealL (padL (bodyL 80 1 (putL g.toNat) (classesL K) (instsL L)) ++ z)) = 8 := by
  obtain ⟨B, hB⟩ : ∃ B, bodyL 80 1 (putL g.toNat) (classesL K) (instsL L) = B := ⟨_, rfl⟩
  rw [hB]
  have h4 : (padL B ++ z).length % 4 = 0 := by rw [List.length_append, hz]; have := padL_four B; omega
  have hp : padL (padL B ++ z) = padL B ++ z := padL_id _ h4
  have hr := prog_read L K g (padN B.length) z h B hB rfl (sealL (padL B ++ z)).length (by unfold sealL; rw [hp, List.length_append, sealed_len, List.length_append, padL_len]; omega)
  unfold badOf
  rw [rd0_seal, hp]
  have e : (padL B ++ z) = B ++ (List.replicate (padN B.length) 0 ++ z) := by unfold padL; rw [List.append_assoc]
  rw [e] at hr ⊢
  rw [hr.2, if_neg (by intro hz2; rw [hz2] at hz; cases hz)]
/-- padding that is not zero -/
theorem fault_pad (L : List I4) (K : List (List Rg)) (g : Int) (h : Fits L K g) (B : List UInt8) (hB : bodyL 80 1 (putL g.toNat) (classesL K) (instsL L) = B) (m : Nat) (hm : padN B.length = m + 1) :
    badOf (sealL (B ++ (List.replicate m 0 ++ [1]))) = 9 := by
  have hl : (B ++ (List.replicate m 0 ++ [1])).length = B.length + (m + 1) := by simp
  have hp : padL (B ++ (List.replicate m 0 ++ [1])) = B ++ (List.replicate m 0 ++ [1]) := padL_id _ (by rw [hl]; unfold padN at hm; omega)
  unfold badOf
  rw [rd0_seal, hp]
  have e : gProg ⟨⟨(B ++ (List.replicate m 0 ++ [1])).drop 3, 0⟩, ⟨[], 0⟩, 0⟩ = ⟨⟨⟨List.replicate m 0 ++ [1], 0⟩, ⟨[], 0⟩, 0⟩, L, K, g⟩ := by
    rw [← hB, bodyL_drop]
    exact prog_put L K g _ h
  rw [e]
  have hs : ((sealL (B ++ (List.replicate m 0 ++ [1]))).length : Int) - 4 - ((List.replicate m (0 : UInt8) ++ [1]).length : Nat) = (B.length : Int) := by
    unfold sealL; rw [hp, List.length_append, sealed_len, hl, List.length_append, List.length_replicate, List.length_singleton]; omega
  unfold St.fin
  dsimp only
  rw [end_err 0, St.fail_ok]
  dsimp only
  rw [hs, padI_nat, hm]
  have eb : (Rd.mk (List.replicate m 0 ++ [1]) 0).bytes ((m + 1 : Nat) : Int) = (List.replicate m 0 ++ [1], ⟨[], 0⟩) := by
    have := bytes_take (List.replicate m 0 ++ [1]) []
    rw [List.append_nil] at this
    rw [← this]; simp
  unfold Rd.pad
  rw [eb]
  rw [if_neg (by simp)]
  rfl
end Go.Proofs.YtmiacgkidldjmaaGreatDoor.Plain
