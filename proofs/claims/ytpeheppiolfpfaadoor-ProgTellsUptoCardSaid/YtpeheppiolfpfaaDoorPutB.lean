/- prog.Put: what the code computes. Conditions: what each lemma says. -/
import Derived.Test.YtpeheppiolfpfaaDoorPutA
import Derived.Deep.RegionHeld3
import Derived.Deep.RegionWith
import Derived.Deep.DeepCutAuto
import Derived.Deep.CutBlock
set_option linter.unusedVariables false
set_option linter.unusedSimpArgs false
namespace Go.Proofs.YtpeheppiolfpfaaDoor
open Go.RowKit Go.Lib
open Plain (Rg May mayB In Norm In4 slotsOf insB bnd riB cls cnot rightB normB nextL Rch cntA lineL putL small)
theorem isb_below {gb : Nat} {bs : List Value} {w w' : World} (h : Lib.IsBuilder 82 5 gb gb bs w) (hb : Below w.heap.size w w') : Lib.IsBuilder 82 5 gb gb bs w' := by
  rcases h with ⟨h1, v, h2, h3, h4⟩ | ⟨h1, v, h2, h3, h4⟩
  · exact .inl ⟨h1, v, blk_later h2 hb, own_below h3 hb, h4⟩
  · exact .inr ⟨h1, v, blk_later h2 hb, own_below h3 hb, h4⟩
theorem putsL_len (L : List In4) (hs : ∀ t ∈ L, small t) : ∀ k, k ≤ L.length → k ≤ 100 → (putsL L k).length ≤ 20 * k := by
  intro k
  induction k with
  | zero => intro _ _; simp [putsL]
  | succ k ih =>
    intro h h100
    have h1 := ih (by omega) (by omega)
    have h2 := (Plain.dec_len k (by omega)).1
    have h3 := Plain.putL_len L[k] (hs _ (List.getElem_mem _))
    rw [putsL_succ, Plain.getD_lt L (0, 0, 0, 0) k (by omega)]
    simp only [List.length_append, List.length_cons, List.length_nil]
    omega
def PutS (w : World) (wt : World) (g : Nat) (t : In4) (w' : World) : Prop := Below wt.heap.size wt w'
set_option maxRecDepth 100000 in
set_option maxHeartbeats 8000000 in
theorem pput_any (I C : Option Addr) (L : List In4) (K : List Cs) (c d : Nat) (g : Int) (w : World) (hP : PgAt w I L C K) (hs : ∀ t ∈ L, small t) (hl : L.length ≤ 100) :
    Calls Tryd.prog 24 #[pgV I L.length c C K.length d g] w fun e w' => e = .returned (.string (str (putsL L L.length))) ∧ Below w.heap.size w w' := by
  obtain ⟨n, hN⟩ : ∃ n, L.length = n := ⟨_, rfl⟩
  obtain ⟨m, hM⟩ : ∃ m, K.length = m := ⟨_, rfl⟩
  rw [hN] at hl ⊢
  rw [hM]
  unfold pgV
  have HI := Lib.hid hP.insts
  have HN := Lib.hid hN
  have HS := Lib.hid hs
  have CI := Lib.hid (fun i hi (W : World) => itoa_s i hi W)
  have CP := Lib.hid (fun t ht (W : World) => put_any t W ht)
  have hb1 : Below w.heap.size w ((w.alloc (.cells #[.slice I n c, .slice C m d, .int .i64 g] 25)).alloc (.cells #[.pointer none, .slice none 0 0] 82)) := below_alloc (below_alloc (Below.refl _ _) _) _
  have hbd : Lib.IsBuilder 82 5 (w.heap.size + 1) (w.heap.size + 1) [] ((w.alloc (.cells #[.slice I n c, .slice C m d, .int .i64 g] 25)).alloc (.cells #[.pointer none, .slice none 0 0] 82)) :=
    .inl ⟨Nat.le_refl _, _, heap_alloc_new2 _ _ _ _ (by simp), ⟨rfl, .inl ⟨rfl, rfl⟩⟩, by simp [Value.ownBlock]⟩
  have HB1 := Lib.hid hb1
  have HBD := Lib.hid hbd
  clear hP hN hM hs hb1 hbd
  go_enter Tryd.func24, Tryd.ntmps24
  go_wp2
  go_loopw [9] (fun i wr => ∃ k : Nat, k ≤ n ∧ i = .int .i64 k ∧ Lib.IsBuilder 82 5 (w.heap.size + 1) (w.heap.size + 1) (Lib.byteCells (putsL L k)) wr ∧ RowKit.Below w.heap.size w wr) (fun i _ => n - (RowKit.intOf i).toNat)
  case atStart => exact ⟨0, Nat.zero_le _, rfl, HBD.out, HB1.out⟩
  case round =>
    obtain ⟨k, hk, rfl, hD, hB⟩ := hrel
    have HD := Lib.hid hD
    have HB := Lib.hid hB
    clear hD
    by_cases hlt : k < n
    · have hk1 : k < L.length := by rw [HN.out]; exact hlt
      obtain ⟨b, off, rfl, hbb, c0, c1, c2, c3⟩ := i4_at (HI.out.below hB) k hk1
      have hsk := HS.out L[k] (List.getElem_mem hk1)
      have hnx : putsL L (k + 1) = putsL L k ++ (decDigits k ++ (32 :: putL L[k] ++ [10])) := by rw [putsL_succ, Plain.getD_lt L (0, 0, 0, 0) k hk1]
      have hpl := putsL_len L HS.out k (by omega) (by omega)
      obtain ⟨t, ht⟩ : ∃ t, L[k] = t := ⟨_, rfl⟩
      rw [ht] at c0 c1 c2 c3 hsk hnx
      have hpt := Plain.putL_len t hsk
      have hdk := (Plain.dec_len k (by omega)).1
      obtain ⟨pl, hplq⟩ : ∃ pl, putL t = pl := ⟨_, rfl⟩
      have CK := Lib.hid (fun (W : World) => CI.out k (by omega) W)
      have CT := Lib.hid (fun (W : World) => CP.out t hsk W)
      rw [hplq] at CT hnx hpt
      obtain ⟨dk, hdq⟩ : ∃ dk, decDigits k = dk := ⟨_, rfl⟩
      rw [hdq] at CK hnx hdk
      obtain ⟨op, x, y, a⟩ := t
      dsimp only at c0 c1 c2 c3
      unfold i4V at CT
      dsimp only at CT
      have HNX := Lib.hid hnx
      have z1 : (str dk).size ≤ 2 := by rw [str_size]; exact hdk
      have z2 : (str pl).size ≤ 12 := by rw [str_size]; exact hpt
      have z3 : (str dk ++ ⟨#[32]⟩ : ByteArray).size ≤ 3 := by rw [ByteArray.size_append]; show _ + 1 ≤ 3; omega
      have z4 : (str dk ++ ⟨#[32]⟩ ++ str pl : ByteArray).size ≤ 15 := by rw [ByteArray.size_append]; omega
      have g1 : ¬ (9223372036854775807 < (str dk).size + 1) := by omega
      have g2 : ¬ (9223372036854775807 < (str dk ++ ⟨#[32]⟩ : ByteArray).size + (str pl).size) := by omega
      have g3 : ¬ (9223372036854775807 < (str dk ++ ⟨#[32]⟩ ++ str pl : ByteArray).size + 1) := by omega
      have g4 : ¬ (9223372036854775807 < (str dk).size + 1 + (str pl).size) := by omega
      have g5 : ¬ (9223372036854775807 < (str dk).size + 1 + (str pl).size + 1) := by omega
      have hq : str dk ++ ⟨#[32]⟩ ++ str pl ++ ⟨#[10]⟩ = str (dk ++ (32 :: pl ++ [10])) := by
        rw [show (⟨#[32]⟩ : ByteArray) = str [32] from rfl, show (⟨#[10]⟩ : ByteArray) = str [10] from rfl, str_app, str_app, str_app]; simp
      have HQ := Lib.hid hq
      have i0 : (0 : Int) ≤ (k : Int) := by omega
      have i1 : (k : Int) < (n : Int) := by omega
      have HPL := Lib.hid hpl
      clear hnx hq hplq hdq ht hpl hB hsk hdk hpt
      go_upto_region 5 with fail
      obtain ⟨wt, hwt⟩ : ∃ W0, wr.alloc (.cells #[.int .i64 op, .int .i64 x, .int .i64 y, .int .i64 a] 30) = W0 := ⟨_, rfl⟩
      have hbt : Below wr.heap.size wr wt := by rw [← hwt]; exact (Below.refl _ _).alloc (Nat.le_refl _) _
      have hTt : wt.heap[wr.heap.size]? = some (.cells #[.int .i64 op, .int .i64 x, .int .i64 y, .int .i64 a] 30 (0, 0)) := by rw [← hwt]; exact heap_alloc_new2 _ _ _ _ rfl
      rw [hwt]
      have HBT := Lib.hid (below_then HB.out hbt)
      have HDT := Lib.hid (isb_below HD.out hbt)
      have HTT := Lib.hid hTt
      clear hwt hbt hTt c0 c1 c2 c3
      have hS0 : (fun w' : World => w'.cell? ⟨wr.heap.size, 0, none⟩ = some (.int .i64 op) ∧ w'.cell? ⟨wr.heap.size, 1, none⟩ = some (.int .i64 x) ∧ w'.cell? ⟨wr.heap.size, 2, none⟩ = some (.int .i64 y) ∧ w'.cell? ⟨wr.heap.size, 3, none⟩ = some (.int .i64 a)) wt.drew := blk_cells4 (drew_blk HTT.out)
      have HS0 := Lib.hid hS0
      have HSB := Lib.hid (fun (W : World) (hW : Below wt.heap.size wt W) => (blk_cells4 (blk_later HTT.out hW)))
      clear hS0
      refine wp_region_noPanic ?_
      refine wp_region_T 7 (S := fun w' : World => w'.cell? ⟨wr.heap.size, 0, none⟩ = some (.int .i64 op) ∧ w'.cell? ⟨wr.heap.size, 1, none⟩ = some (.int .i64 x) ∧ w'.cell? ⟨wr.heap.size, 2, none⟩ = some (.int .i64 y) ∧ w'.cell? ⟨wr.heap.size, 3, none⟩ = some (.int .i64 a)) (by kernel_rfl) (by decide) ?_
      refine wpAnyT_take2 0 (v := ?tva0) (by kernel_rfl) rfl (by kernel_rfl) (fun _ _ _ h => h) (Or.inl ⟨by rfl, ?tya0⟩) HS0.out ?tra0
      case tya0 => (intro w' hSw; (try dsimp only at hSw); go_simp; try with_reducible rfl)
      try simp only [Act.put, List.setIfInBounds_toArray, List.set_cons_zero, List.set_cons_succ]
      refine wpAnyT_take2 3 (v := ?tva3) (by kernel_rfl) rfl (by kernel_rfl) (fun _ _ _ h => h) (Or.inl ⟨by rfl, ?tya3⟩) HS0.out ?tra3
      case tya3 => (intro w' hSw; (try dsimp only at hSw); go_simp; try with_reducible rfl)
      try simp only [Act.put, List.setIfInBounds_toArray, List.set_cons_zero, List.set_cons_succ]
      refine wpAnyT_one2 1 rfl (by kernel_rfl) ?_
      intro K' hK'
      rw [if_pos (by rfl)]
      have HK := Lib.hid hK'
      clear hK'
      go_wp2_with (go_at_call 43; refine (CK.out _).mono ?_; rintro e w1 ⟨rfl, rfl⟩)
      refine HK.out _ _ ⟨HS0.out, ?_⟩
      clear HK K'
      try simp only [Act.put, List.setIfInBounds_toArray, List.set_cons_zero, List.set_cons_succ]
      refine wpAnyT_take2 2 (v := ?tvb2) (by kernel_rfl) rfl (by kernel_rfl) (fun _ _ _ h => h) (Or.inl ⟨by rfl, ?tyb2⟩) HS0.out ?trb2
      case tyb2 => (intro w' hSw; (try dsimp only at hSw); go_simp; try with_reducible rfl)
      try simp only [Act.put, List.setIfInBounds_toArray, List.set_cons_zero, List.set_cons_succ]
      refine wpAnyT_one2 4 rfl (by kernel_rfl) ?_
      intro K' hK'
      rw [if_pos (by rfl)]
      have HK := Lib.hid hK'
      clear hK'
      go_wp2_with (go_at_call 44; refine (CT.out _).mono ?_; rintro e w1 ⟨rfl, hb1⟩)
      have HWA := Lib.hid ((Below.drew (Below.refl wt.heap.size wt)).trans (hb1 : Below wt.heap.size _ w1))
      clear hb1
      refine HK.out _ _ ⟨HSB.out _ HWA.out, ?_⟩
      clear HK K'
      try simp only [Act.put, List.setIfInBounds_toArray, List.set_cons_zero, List.set_cons_succ]
      refine wpAnyT_take2 5 (v := ?tvb5) (by kernel_rfl) rfl (by kernel_rfl) (fun _ _ _ h => h) (Or.inl ⟨by rfl, ?tyb5⟩) (HSB.out _ HWA.out) ?trb5
      case tyb5 => (intro w' hSw; (try dsimp only at hSw); go_simp; try with_reducible rfl)
      try simp only [Act.put, List.setIfInBounds_toArray, List.set_cons_zero, List.set_cons_succ]
      refine wpAnyT_take2 6 (v := ?tvb6) (by kernel_rfl) rfl (by kernel_rfl) (fun _ _ _ h => h) (Or.inl ⟨by rfl, ?tyb6⟩) (HSB.out _ HWA.out) ?trb6
      case tyb6 => (intro w' hSw; (try dsimp only at hSw); go_simp; try with_reducible rfl)
      try simp only [Act.put, List.setIfInBounds_toArray, List.set_cons_zero, List.set_cons_succ]
      refine ⟨by kernel_rfl, ?_⟩
      change wpList _ _ _ [_] _ _
      go_wp2_with fail
      rw [HQ.out]
      refine (Tryd.Builder_WriteString (w.heap.size + 1) (w.heap.size + 1) _ _ _ (isb_below HDT.out HWA.out) (by rw [str_size]; have := HPL.out; simp only [Lib.byteCells, List.length_map]; have := str_size (dk ++ (32 :: pl ++ [10])); simp only [List.length_append, List.length_cons, List.length_nil]; rw [str_size] at z1 z2; omega) (by have := (below_then HBT.out HWA.out).size; have := lt_of_some HTT.out; have := HWA.out.size; have := HB.out.size; omega)).mono ?_
      rintro e w9 ⟨rfl, hBA, hb9⟩
      have HB9 := Lib.hid ((below_then HBT.out HWA.out).trans (hb9.mono (Nat.le_succ _)))
      have HBA := Lib.hid hBA
      clear hBA hb9
      go_wp2
      refine NoPanic.normal ?_
      go_wp2
      go_roundw
      case rel => exact ⟨k + 1, by omega, by go_num, by rw [HNX.out, show Lib.byteCells (putsL L k ++ (dk ++ (32 :: pl ++ [10]))) = Lib.byteCells (putsL L k) ++ Lib.strCells (str (dk ++ (32 :: pl ++ [10]))) from by simp [Lib.byteCells, Lib.strCells, str]]; exact .inr HBA.out, HB9.out⟩
      case measure => simp [RowKit.intOf]; omega
    · obtain rfl : n = k := by omega
      go_wp2_with fail
      refine (Tryd.Builder_String_any (w.heap.size + 1) (w.heap.size + 1) _ _ HD.out (by have := HB.out.size; rcases HD.out with ⟨_, v, h, _⟩ | ⟨_, v, h, _⟩ <;> (have := lt_of_some h; omega))).mono ?_
      rintro e w9 ⟨rfl, hb9⟩
      go_wp2_with fail
      go_ret
      exact ⟨rfl, HB.out.trans (hb9.mono (Nat.le_succ _))⟩
end Go.Proofs.YtpeheppiolfpfaaDoor
