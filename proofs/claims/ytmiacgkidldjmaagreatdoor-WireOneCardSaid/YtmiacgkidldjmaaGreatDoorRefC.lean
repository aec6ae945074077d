/- A byte bent; codes within the reach; Put's answers both ways. Conditions: what each lemma says. -/
import Derived.Test.YtmiacgkidldjmaaGreatDoorRefB
import Derived.Test.YtmiacgkidldjmaaGreatDoorOpenG
import Derived.Test.YtmiacgkidldjmaaGreatDoorCodeB
set_option linter.unusedVariables false
set_option linter.unusedSimpArgs false
namespace Go.Proofs.YtmiacgkidldjmaaGreatDoor
open Go.ChangeShapes Go.WideShapes Go.RowKit Go.Lib Go.Deep Go.Maps
open Plain (Rg In4)
/-- the block N begins with these bytes -/
def BRowC (W : World) (N : Nat) (M : List UInt8) : Prop := (∀ i (h : i < M.length), W.cell? ⟨N, i, none⟩ = some (.int .u8 (M[i].toNat : Int))) ∧ (∀ i, i < M.length → W.frozen? ⟨N, i, none⟩ = false)
theorem BRowC.set {W : World} {N : Nat} {M : List UInt8} (h : BRowC W N M) (k : Nat) (hk : k < M.length) (c : UInt8) : BRowC (W.setCell ⟨N, k, none⟩ (.int .u8 (c.toNat : Int))) N (M.set k c) := by
  refine ⟨fun i hi => ?_, fun i hi => ?_⟩
  · rw [List.length_set] at hi
    by_cases e : k = i
    · subst e
      rw [World.cell?_setCell_same _ _ _ (h.1 k hk)]; simp
    · rw [World.cell?_setCell_other _ _ _ _ (by intro h; injection h; omega), h.1 i hi, List.getElem_set_ne e]
  · rw [List.length_set] at hi
    rw [World.frozen?_setCell]; exact h.2 i hi
theorem BRowC.conv {W : World} {N : Nat} {M : List UInt8} (h : BRowC W N M) (n cap : Nat) (hn : n = M.length) : (convert 35 9 (.slice (some ⟨N, 0, none⟩) n cap)).run Tryz.prog W = .ok (.string (str M)) W := by
  subst hn
  exact run_convert_bytes_back (P := Tryz.prog) W 35 9 5 ⟨N, 0, none⟩ cap M Tryz.underlying35 Tryz.underlying5 Tryz.underlying9 (fun j hj => by have := h.1 j hj; have e : (⟨N, 0, none⟩ : Addr).add j = ⟨N, j, none⟩ := (by unfold Addr.add; split <;> simp_all); rw [e]; exact this)
theorem conv_bytesC (w : World) (t : ByteArray) : ∃ W1 cap, (convert 9 35 (.string t)).run Tryz.prog w = .ok (.slice (some ⟨w.heap.size, 0, none⟩) t.size cap) W1 ∧ BRowC W1 w.heap.size t.data.toList ∧ Below w.heap.size w W1 ∧ t.size ≤ cap ∧ w.heap.size < W1.heap.size := by
  refine ⟨_, _, run_bytes_of_string w 9 35 5 t Tryz.underlying9 Tryz.underlying35 Tryz.underlying5, ⟨fun i hi => ?_, fun i hi => ?_⟩, ?_, ?_, ?_⟩
  · have hi' : i < t.size := by simpa using hi
    rw [show w.heap.size = w.drew.heap.size from rfl, cell_of_row _ _ _ _ _ _ (heap_alloc_new _ _)]
    simp [bytesRow, Array.getElem?_append, hi']
  · have hi' : i < t.size := by simpa using hi
    have hg := heap_alloc_new w.drew (.cells (bytesRow t (grownCap w t.size 0 5)) 5 ((bytesRow t (grownCap w t.size 0 5)).size, (bytesRow t (grownCap w t.size 0 5)).size + 1))
    unfold World.frozen?
    rw [show w.heap.size = w.drew.heap.size from rfl, hg]
    simp [bytesRow]; omega
  · exact (Below.refl _ _).drew.alloc (Nat.le_refl _) _
  · unfold grownCap Question.cut; simp
  · show w.heap.size < (w.heap.push _).size
    rw [Array.size_push]; omega
end Go.Proofs.YtmiacgkidldjmaaGreatDoor
namespace Go.Proofs.YtmiacgkidldjmaaGreatDoor
open Go.ChangeShapes Go.WideShapes Go.RowKit Go.Lib Go.Deep Go.Maps
set_option maxRecDepth 1000000 in
set_option maxHeartbeats 4000000 in
theorem bend_any (S : ByteArray) (a : Int) (kb : Nat) (hkb : kb < 256) (ha : -9223372036854775808 ≤ a ∧ a ≤ 9223372036854775807) (hS : S.size ≤ 140737488355328) (w : World) :
    Calls Tryz.prog 59 #[.string S, .int .i64 a, .int .u8 (kb : Int)] w fun e w' => (∃ S' : ByteArray, S'.size = S.size ∧ e = .returned (.string S')) ∧ Below w.heap.size w w' := by
  by_cases h0 : S.size = 0
  · have hse : S = ⟨#[]⟩ := by
      apply ByteArray.ext
      exact Array.eq_empty_of_size_eq_zero h0
    subst hse
    have hne : ((⟨#[]⟩ : ByteArray).toList == []) = true := by rw [ByteArray.toList_eq]; rfl
    go_enter Tryz.func59, Tryz.ntmps59
    go_wp2_with fail
    go_ret
    exact ⟨⟨_, rfl, rfl⟩, Below.refl _ _⟩
  have hne : (S.toList == []) = false := by
    rw [ByteArray.toList_eq, beq_eq_false_iff_ne]
    intro h
    exact h0 (by rw [show S.size = S.data.toList.length from by simp, h]; rfl)
  obtain ⟨W1, cap, hrun, hrow, hbel, hcap, hnew⟩ := conv_bytesC w S
  obtain ⟨n2, hn2⟩ : ∃ x, S.size = x := ⟨_, rfl⟩
  have hlen : S.data.toList.length = n2 := by rw [← hn2]; simp
  obtain ⟨M, hM⟩ : ∃ x, S.data.toList = x := ⟨_, rfl⟩
  rw [hM] at hrow hlen
  rw [hn2] at hrun h0 hS hcap ⊢
  obtain ⟨N, hN⟩ : ∃ x, w.heap.size = x := ⟨_, rfl⟩
  rw [hN] at hrun hrow hbel hnew
  have hrow : BRowC W1.drew N M := hrow
  have hbel : Below N w W1.drew := hbel.drew
  obtain ⟨wd, hwd⟩ : ∃ x, W1.drew = x := ⟨_, rfl⟩
  rw [hwd] at hrow hbel
  obtain ⟨B, hB⟩ : ∃ B : UInt8, B.toNat = kb := ⟨UInt8.ofNat kb, by rw [UInt8.toNat_ofNat']; omega⟩
  obtain ⟨an, han⟩ : ∃ x : Nat, (if a < 0 then -(a + 1) else a) = x := ⟨(if a < 0 then -(a + 1) else a).toNat, by split <;> omega⟩
  obtain ⟨k, hk⟩ : ∃ k, an % n2 = k := ⟨_, rfl⟩
  have hkn : k < n2 := by rw [← hk]; exact Nat.mod_lt _ (by omega)
  have hms : (an : Int) % (n2 : Int) = (k : Int) := by rw [← hk]; simp
  have hmt : Int.tmod (an : Int) (n2 : Int) = (k : Int) := by rw [Int.tmod_eq_emod_of_nonneg (by omega)]; exact hms
  have hkl : k < M.length := by rw [hlen]; exact hkn
  have l0 := hrow.1 k hkl
  have f0 := hrow.2 k hkl
  have hx : bits .xor .u8 (M[k].toNat : Int) (kb : Int) = ((M[k].toNat ^^^ kb : Nat) : Int) := u8_xor_nat _ _ (UInt8.toNat_lt _) (by rw [← hB]; exact UInt8.toNat_lt _)
  have hr2 := hrow.set k hkl (M[k] ^^^ B)
  have c2 := hr2.conv n2 cap (by rw [List.length_set]; exact hlen.symm)
  rw [UInt8.toNat_xor, hB] at hr2 c2
  have hsz : (str (M.set k (M[k] ^^^ B))).size = n2 := by rw [str_size, List.length_set, hlen]
  have HBE := Lib.hid (show Below w.heap.size w (wd.setCell ⟨N, k, none⟩ (.int .u8 ((M[k].toNat ^^^ kb : Nat) : Int))) from by rw [hN]; exact hbel.setCell (Nat.le_refl _) _)
  obtain ⟨S2, hS2⟩ : ∃ x, str (M.set k (M[k] ^^^ B)) = x := ⟨_, rfl⟩
  obtain ⟨xv, hxv⟩ : ∃ x, M[k].toNat = x := ⟨_, rfl⟩
  have hxv256 : xv < 256 := by rw [← hxv]; exact UInt8.toNat_lt _
  have hxx : xv ^^^ kb < 256 := Nat.xor_lt_two_pow (n := 8) hxv256 hkb
  rw [hS2] at c2 hsz
  rw [hxv] at l0 hx c2 HBE
  have HSZ := Lib.hid hsz
  have HAN := Lib.hid han
  clear hrow hbel hr2 hS2 hxv hB hk hcap hkl hM hlen hsz hn2 han
  have HF := Lib.hid (fun (w' : World) (h : w' = wd) => (by rw [h]; exact l0 : w'.cell? ⟨N, k, none⟩ = some (.int .u8 (xv : Int))))
  by_cases hneg : a < 0
  · have han := HAN.out
    rw [if_pos hneg] at han
    have d1 : decide (a < 0) = true := decide_eq_true hneg
    have hw1 : IntKind.i64.wrap (a + 1) = a + 1 := by rw [IntKind.wrap_i64]; omega
    have hw2 : IntKind.i64.wrap (-(a + 1)) = (an : Int) := by rw [IntKind.wrap_i64]; omega
    have hw3 : -(a + 1) = (an : Int) := han
    clear han
    go_enter Tryz.func59, Tryz.ntmps59
    go_upto_region 6 with fail
    have HS := Lib.hid (rfl : wd = wd)
    refine wp_region_noPanic ?_
    refine wp_region_T 14 (S := fun w' : World => w' = wd) (by kernel_rfl) (by decide) ?_
    rw [hwd]
    clear hwd
    refine wpAnyT_take2 0 (v := ?tvt1) (by kernel_rfl) rfl (by kernel_rfl) (fun _ _ _ h => h) (Or.inl ⟨by rfl, ?tyt1⟩) HS.out ?trt1
    case tyt1 => (intro w' hSw; (try dsimp only at hSw); go_simp; try with_reducible rfl)
    try simp only [Act.put, List.setIfInBounds_toArray, List.set_cons_zero, List.set_cons_succ]
    refine wpAnyT_take2 1 (v := ?tvt2) (by kernel_rfl) rfl (by kernel_rfl) (fun _ _ _ h => h) (Or.inl ⟨by rfl, ?tyt2⟩) HS.out ?trt2
    case tyt2 => (intro w' hSw; (try dsimp only at hSw); go_simp; try with_reducible rfl)
    try simp only [Act.put, List.setIfInBounds_toArray, List.set_cons_zero, List.set_cons_succ]
    refine wpAnyT_take2 2 (v := ?tvt3) (by kernel_rfl) rfl (by kernel_rfl) (fun _ _ _ h => h) (Or.inl ⟨by rfl, ?tyt3⟩) HS.out ?trt3
    case tyt3 => (intro w' hSw; (try dsimp only at hSw); go_simp; try with_reducible rfl)
    try simp only [Act.put, List.setIfInBounds_toArray, List.set_cons_zero, List.set_cons_succ]
    refine wpAnyT_take2 3 (v := ?tvt4) (by kernel_rfl) rfl (by kernel_rfl) (fun _ _ _ h => h) (Or.inl ⟨by rfl, ?tyt4⟩) HS.out ?trt4
    case tyt4 => (intro w' hSw; (try dsimp only at hSw); go_simp; try with_reducible rfl)
    try simp only [Act.put, List.setIfInBounds_toArray, List.set_cons_zero, List.set_cons_succ]
    refine wpAnyT_take2 4 (v := ?tvt5) (by kernel_rfl) rfl (by kernel_rfl) (fun _ _ _ h => h) (Or.inl ⟨by rfl, ?tyt5⟩) HS.out ?trt5
    case tyt5 => (intro w' hSw; (try dsimp only at hSw); go_simp; try with_reducible rfl)
    try simp only [Act.put, List.setIfInBounds_toArray, List.set_cons_zero, List.set_cons_succ]
    refine wpAnyT_take2 5 (v := ?tvt6) (by kernel_rfl) rfl (by kernel_rfl) (fun _ _ _ h => h) (Or.inl ⟨by rfl, ?tyt6⟩) HS.out ?trt6
    case tyt6 => (intro w' hSw; (try dsimp only at hSw); go_simp; try with_reducible rfl)
    try simp only [Act.put, List.setIfInBounds_toArray, List.set_cons_zero, List.set_cons_succ]
    refine wpAnyT_take2 6 (v := ?tvt7) (by kernel_rfl) rfl (by kernel_rfl) (fun _ _ _ h => h) (Or.inl ⟨by rfl, ?tyt7⟩) HS.out ?trt7
    case tyt7 => (intro w' hSw; (try dsimp only at hSw); go_simp; try with_reducible rfl)
    try simp only [Act.put, List.setIfInBounds_toArray, List.set_cons_zero, List.set_cons_succ]
    refine wpAnyT_take2 7 (v := ?tvt8) (by kernel_rfl) rfl (by kernel_rfl) (fun _ _ _ h => h) (Or.inl ⟨by rfl, ?tyt8⟩) HS.out ?trt8
    case tyt8 => (intro w' hSw; (try dsimp only at hSw); go_simp; try with_reducible rfl)
    try simp only [Act.put, List.setIfInBounds_toArray, List.set_cons_zero, List.set_cons_succ]
    refine wpAnyT_take2 8 (v := ?tvt9) (by kernel_rfl) rfl (by kernel_rfl) (fun _ _ _ h => h) (Or.inl ⟨by rfl, ?tyt9⟩) HS.out ?trt9
    case tyt9 => (intro w' hSw; (try dsimp only at hSw); go_simp; try with_reducible rfl)
    try simp only [Act.put, List.setIfInBounds_toArray, List.set_cons_zero, List.set_cons_succ]
    refine wpAnyT_take2 9 (v := ?tvt10) (by kernel_rfl) rfl (by kernel_rfl) (fun _ _ _ h => h) (Or.inl ⟨by rfl, ?tyt10⟩) HS.out ?trt10
    case tyt10 => (intro w' hSw; (try dsimp only at hSw); go_simp; try with_reducible rfl)
    try simp only [Act.put, List.setIfInBounds_toArray, List.set_cons_zero, List.set_cons_succ]
    refine wpAnyT_take2 10 (v := ?tvt11) (by kernel_rfl) rfl (by kernel_rfl) (fun _ _ _ h => h) (Or.inl ⟨by rfl, ?tyt11⟩) HS.out ?trt11
    case tyt11 => (intro w' hSw; (try dsimp only at hSw); go_simp; try with_reducible rfl)
    try simp only [Act.put, List.setIfInBounds_toArray, List.set_cons_zero, List.set_cons_succ]
    refine wpAnyT_take2 11 (v := ?tvt12) (by kernel_rfl) rfl (by kernel_rfl) (fun _ _ _ h => h) (Or.inl ⟨by rfl, ?tyt12⟩) HS.out ?trt12
    case tyt12 => (intro w' hSw; have p0 := HF.out w' hSw; (try dsimp only at hSw); go_simp; try with_reducible rfl)
    try simp only [Act.put, List.setIfInBounds_toArray, List.set_cons_zero, List.set_cons_succ]
    refine wpAnyT_take2 12 (v := ?tvt13) (by kernel_rfl) rfl (by kernel_rfl) (fun _ _ _ h => h) (Or.inl ⟨by rfl, ?tyt13⟩) HS.out ?trt13
    case tyt13 => (intro w' hSw; (try dsimp only at hSw); go_simp; try with_reducible rfl)
    try simp only [Act.put, List.setIfInBounds_toArray, List.set_cons_zero, List.set_cons_succ]
    refine wpAnyT_take2 13 (v := ?tvt14) (by kernel_rfl) rfl (by kernel_rfl) (fun _ _ _ h => h) (Or.inl ⟨by rfl, ?tyt14⟩) HS.out ?trt14
    case tyt14 => (intro w' hSw; (try dsimp only at hSw); go_simp; try with_reducible rfl)
    try simp only [Act.put, List.setIfInBounds_toArray, List.set_cons_zero, List.set_cons_succ]
    refine ⟨by kernel_rfl, ?_⟩
    change wpList _ _ _ [_, _] _ _
    go_wp2_with fail
    refine NoPanic.normal ?_
    go_wp2_with fail
    go_ret
    exact ⟨⟨_, HSZ.out, rfl⟩, HBE.out⟩
  · have han := HAN.out
    rw [if_neg hneg] at han
    subst han
    have d1 : decide ((an : Int) < 0) = false := decide_eq_false hneg
    go_enter Tryz.func59, Tryz.ntmps59
    go_upto_region 6 with fail
    have HS := Lib.hid (rfl : wd = wd)
    refine wp_region_noPanic ?_
    refine wp_region_T 14 (S := fun w' : World => w' = wd) (by kernel_rfl) (by decide) ?_
    rw [hwd]
    clear hwd
    refine wpAnyT_take2 0 (v := ?tvu1) (by kernel_rfl) rfl (by kernel_rfl) (fun _ _ _ h => h) (Or.inl ⟨by rfl, ?tyu1⟩) HS.out ?tru1
    case tyu1 => (intro w' hSw; (try dsimp only at hSw); go_simp; try with_reducible rfl)
    try simp only [Act.put, List.setIfInBounds_toArray, List.set_cons_zero, List.set_cons_succ]
    refine wpAnyT_take2 1 (v := ?tvu2) (by kernel_rfl) rfl (by kernel_rfl) (fun _ _ _ h => h) (Or.inl ⟨by rfl, ?tyu2⟩) HS.out ?tru2
    case tyu2 => (intro w' hSw; (try dsimp only at hSw); go_simp; try with_reducible rfl)
    try simp only [Act.put, List.setIfInBounds_toArray, List.set_cons_zero, List.set_cons_succ]
    refine wpAnyT_take2 2 (v := ?tvu3) (by kernel_rfl) rfl (by kernel_rfl) (fun _ _ _ h => h) (Or.inl ⟨by rfl, ?tyu3⟩) HS.out ?tru3
    case tyu3 => (intro w' hSw; (try dsimp only at hSw); go_simp; try with_reducible rfl)
    try simp only [Act.put, List.setIfInBounds_toArray, List.set_cons_zero, List.set_cons_succ]
    refine wpAnyT_take2 3 (v := ?tvu4) (by kernel_rfl) rfl (by kernel_rfl) (fun _ _ _ h => h) (Or.inl ⟨by rfl, ?tyu4⟩) HS.out ?tru4
    case tyu4 => (intro w' hSw; (try dsimp only at hSw); go_simp; try with_reducible rfl)
    try simp only [Act.put, List.setIfInBounds_toArray, List.set_cons_zero, List.set_cons_succ]
    refine wpAnyT_take2 4 (v := ?tvu5) (by kernel_rfl) rfl (by kernel_rfl) (fun _ _ _ h => h) (Or.inl ⟨by rfl, ?tyu5⟩) HS.out ?tru5
    case tyu5 => (intro w' hSw; (try dsimp only at hSw); go_simp; try with_reducible rfl)
    try simp only [Act.put, List.setIfInBounds_toArray, List.set_cons_zero, List.set_cons_succ]
    refine wpAnyT_take2 5 (v := ?tvu6) (by kernel_rfl) rfl (by kernel_rfl) (fun _ _ _ h => h) (Or.inl ⟨by rfl, ?tyu6⟩) HS.out ?tru6
    case tyu6 => (intro w' hSw; (try dsimp only at hSw); go_simp; try with_reducible rfl)
    try simp only [Act.put, List.setIfInBounds_toArray, List.set_cons_zero, List.set_cons_succ]
    refine wpAnyT_take2 6 (v := ?tvu7) (by kernel_rfl) rfl (by kernel_rfl) (fun _ _ _ h => h) (Or.inl ⟨by rfl, ?tyu7⟩) HS.out ?tru7
    case tyu7 => (intro w' hSw; (try dsimp only at hSw); go_simp; try with_reducible rfl)
    try simp only [Act.put, List.setIfInBounds_toArray, List.set_cons_zero, List.set_cons_succ]
    refine wpAnyT_take2 7 (v := ?tvu8) (by kernel_rfl) rfl (by kernel_rfl) (fun _ _ _ h => h) (Or.inl ⟨by rfl, ?tyu8⟩) HS.out ?tru8
    case tyu8 => (intro w' hSw; (try dsimp only at hSw); go_simp; try with_reducible rfl)
    try simp only [Act.put, List.setIfInBounds_toArray, List.set_cons_zero, List.set_cons_succ]
    refine wpAnyT_take2 8 (v := ?tvu9) (by kernel_rfl) rfl (by kernel_rfl) (fun _ _ _ h => h) (Or.inl ⟨by rfl, ?tyu9⟩) HS.out ?tru9
    case tyu9 => (intro w' hSw; (try dsimp only at hSw); go_simp; try with_reducible rfl)
    try simp only [Act.put, List.setIfInBounds_toArray, List.set_cons_zero, List.set_cons_succ]
    refine wpAnyT_take2 9 (v := ?tvu10) (by kernel_rfl) rfl (by kernel_rfl) (fun _ _ _ h => h) (Or.inl ⟨by rfl, ?tyu10⟩) HS.out ?tru10
    case tyu10 => (intro w' hSw; (try dsimp only at hSw); go_simp; try with_reducible rfl)
    try simp only [Act.put, List.setIfInBounds_toArray, List.set_cons_zero, List.set_cons_succ]
    refine wpAnyT_take2 10 (v := ?tvu11) (by kernel_rfl) rfl (by kernel_rfl) (fun _ _ _ h => h) (Or.inl ⟨by rfl, ?tyu11⟩) HS.out ?tru11
    case tyu11 => (intro w' hSw; (try dsimp only at hSw); go_simp; try with_reducible rfl)
    try simp only [Act.put, List.setIfInBounds_toArray, List.set_cons_zero, List.set_cons_succ]
    refine wpAnyT_take2 11 (v := ?tvu12) (by kernel_rfl) rfl (by kernel_rfl) (fun _ _ _ h => h) (Or.inl ⟨by rfl, ?tyu12⟩) HS.out ?tru12
    case tyu12 => (intro w' hSw; have p0 := HF.out w' hSw; (try dsimp only at hSw); go_simp; try with_reducible rfl)
    try simp only [Act.put, List.setIfInBounds_toArray, List.set_cons_zero, List.set_cons_succ]
    refine wpAnyT_take2 12 (v := ?tvu13) (by kernel_rfl) rfl (by kernel_rfl) (fun _ _ _ h => h) (Or.inl ⟨by rfl, ?tyu13⟩) HS.out ?tru13
    case tyu13 => (intro w' hSw; (try dsimp only at hSw); go_simp; try with_reducible rfl)
    try simp only [Act.put, List.setIfInBounds_toArray, List.set_cons_zero, List.set_cons_succ]
    refine wpAnyT_take2 13 (v := ?tvu14) (by kernel_rfl) rfl (by kernel_rfl) (fun _ _ _ h => h) (Or.inl ⟨by rfl, ?tyu14⟩) HS.out ?tru14
    case tyu14 => (intro w' hSw; (try dsimp only at hSw); go_simp; try with_reducible rfl)
    try simp only [Act.put, List.setIfInBounds_toArray, List.set_cons_zero, List.set_cons_succ]
    refine ⟨by kernel_rfl, ?_⟩
    change wpList _ _ _ [_, _] _ _
    go_wp2_with fail
    refine NoPanic.normal ?_
    go_wp2_with fail
    go_ret
    exact ⟨⟨_, HSZ.out, rfl⟩, HBE.out⟩
end Go.Proofs.YtmiacgkidldjmaaGreatDoor
namespace Go.Proofs.YtmiacgkidldjmaaGreatDoor
open Go.RowKit Go.Lib
theorem reftab_any (PA : Option Addr) (n pc : Nat) (NA : Option Addr) (m nc : Nat) (AA : Option Addr) (a ac : Nat) (w : World) :
    Calls Tryz.prog 28 #[.agg #[.slice PA n pc, .slice NA m nc, .slice AA a ac]] w fun e w' => e = .returned (.agg #[.slice PA n pc, .slice NA m nc, .slice AA a ac]) ∧ Below w.heap.size w w' := by
  have hB := below_alloc (below_alloc (Below.refl w.heap.size w) (.cells #[.slice PA n pc, .slice NA m nc, .slice AA a ac] 34)) (.cells #[.slice PA n pc, .slice NA m nc, .slice AA a ac] 72)
  have hb := heap_alloc_new2 (w.alloc (.cells #[.slice PA n pc, .slice NA m nc, .slice AA a ac] 34)) (.cells #[.slice PA n pc, .slice NA m nc, .slice AA a ac] 72) (w.heap.size + 1) _ (by show _ = (w.heap.push _).size; rw [Array.size_push])
  obtain ⟨r0, r1, r2⟩ := blk_cells3 hb
  have HR := Lib.hid (And.intro r0 (And.intro r1 r2))
  clear r0 r1 r2 hb
  go_enter Tryz.func28, Tryz.ntmps28
  go_wp2_with fail
  obtain ⟨r0, r1, r2⟩ := HR.out
  exact bodyPost_ret (v := .agg #[.slice PA n pc, .slice NA m nc, .slice AA a ac]) (by simp [results, Tryz.results28, go_sem, r0, r1, r2]) rfl ⟨rfl, hB⟩
end Go.Proofs.YtmiacgkidldjmaaGreatDoor
namespace Go.Proofs.YtmiacgkidldjmaaGreatDoor
open Go.ChangeShapes Go.WideShapes Go.RowKit Go.Lib Go.Deep
open Plain (Rg In4)
section
variable {H : Type} {enc : TypeId × Value → H} {P : Program} {w : World} {base : Nat} {held : Bool}
theorem weightsAll_mem {e : TypeId} {l : List (DataW H)} {d : DataW H} {n : Nat} (h : d ∈ l) (hn : n ∈ d.weights P e) : n ∈ DataW.weightsAll P e l := by
  induction l with
  | nil => cases h
  | cons y l ih =>
    simp only [DataW.weightsAll, List.mem_append]
    rcases List.mem_cons.1 h with rfl | h
    · exact Or.inl hn
    · exact Or.inr (ih h)
/-- a slice of elements of k cells, each opened by its own law; within the reach -/
theorem sl_of_elems_z {α : Type} (dflt : α) (en : α → List Value) (k : Nat) (hk : 0 < k) (hen : ∀ r, (en r).length = k) (Pp : α → Prop) {t e : TypeId} {fuel : Nat} {cs : List Value} {x : DataW H × List MemPlace} (ht : P.underlying t = some (.slice e)) (hc : P.cellsOf e = k)
    (hel : ∀ n cs' x, DataW.trod enc P w base (fun _ => true) held n e cs' = some x → (∀ n ∈ x.1.weights P e, n ≤ reachBytes) → cs'.length = k → ∃ r, cs' = en r ∧ Pp r) (h : DataW.trod enc P w base (fun _ => true) held fuel t cs = some x) (hz : ∀ n ∈ x.1.weights P t, n ≤ reachBytes) :
    ∃ (A : Option Addr) (L : List α) (c : Nat), cs = [.slice A L.length c] ∧ Sl w A (L.flatMap en) ∧ L.length ≤ c ∧ c ≤ maxLen ∧ L.length * P.bytesOf e ≤ reachBytes ∧ ∀ r ∈ L, Pp r := by
  rcases open_slice ht h with ⟨rfl, _⟩ | ⟨a, l, c, m, n, D, Pl, rfl, _, hl, hm, hmm, hxe, hi⟩
  · exact ⟨none, [], 0, rfl, Sl.nil _ _, Nat.le_refl _, Nat.zero_le _, by simp, fun r hr => absurd hr (by simp)⟩
  · simp only [if_true] at hmm
    subst hmm
    rw [hc] at hi
    have hxw : x.1 = .slice ((List.range l).map D) ((List.range (m - l)).map fun j => D (l + j)) := by rw [hxe]
    have hwe : ∀ i, i < l → ∀ n ∈ (D i).weights P e, n ≤ reachBytes := fun i hi n hn => hz n (by
      rw [hxw]
      simp only [DataW.weights, ht, List.mem_cons, List.mem_append]
      exact Or.inr (Or.inl (weightsAll_mem (List.mem_map.2 ⟨i, List.mem_range.2 hi, rfl⟩) hn)))
    have hwl : (l + (m - l)) * P.bytesOf e ≤ reachBytes := hz _ (by
      rw [hxw]
      simp [DataW.weights, ht])
    have hall : ∀ i, ∃ r : α, i < l → Pp r ∧ ∀ j u, (en r)[j]? = some u → w.cell? (a.add (i * k + j)) = some u := fun i => by
      by_cases hil : i < l
      · obtain ⟨cs', hcc, htt⟩ := hi i (by omega)
        obtain ⟨_, hcl, hat⟩ := World.cells?_some hcc
        obtain ⟨r, hr, hp⟩ := hel _ _ _ htt (hwe i hil) hcl
        refine ⟨r, fun _ => ⟨hp, fun j u hu => ?_⟩⟩
        subst hr
        have hj : j < k := by have := (List.getElem?_eq_some_iff.1 hu).1; rw [hen] at this; exact this
        have hq := hat j hj
        rw [Go.Deep.add_add] at hq
        rw [hq]
        exact hu
      · exact ⟨dflt, fun h => absurd h hil⟩
    obtain ⟨f, hf⟩ := Classical.axiomOfChoice hall
    have hlen : ((List.range l).map f).length = l := by simp
    refine ⟨some a, (List.range l).map f, m, by rw [hlen], ?_, by omega, hm, ?_, fun r hr => ?_⟩
    · have hfl : ∀ (L : List Nat) (b : Nat), (∀ i x, L[i]? = some x → x = b + i) → ∀ j u, ((L.map f).flatMap en)[j]? = some u → ∃ i q, b ≤ i ∧ i < b + L.length ∧ (en (f i))[q]? = some u ∧ j + b * k = i * k + q := by
        intro L
        induction L with
        | nil => intro b _ j u hu; simp at hu
        | cons y L ih =>
          intro b hb j u hu
          have hy : y = b := by have := hb 0 y rfl; simpa using this
          subst hy
          rw [List.map_cons, List.flatMap_cons] at hu
          by_cases hj : j < k
          · rw [List.getElem?_append_left (by rw [hen]; exact hj)] at hu
            exact ⟨y, j, Nat.le_refl _, by simp, hu, by omega⟩
          · rw [List.getElem?_append_right (by rw [hen]; omega), hen] at hu
            obtain ⟨i, q, h1, h2, h3, h4⟩ := ih (y + 1) (fun i x hx => by have := hb (i + 1) x (by simpa using hx); omega) (j - k) u hu
            refine ⟨i, q, by omega, by simp; omega, h3, ?_⟩
            rw [Nat.add_mul, Nat.one_mul] at h4
            omega
      refine sl_of_cells fun j u hu => ?_
      obtain ⟨i, q, _, h2, h3, h4⟩ := hfl (List.range l) 0 (fun i x hx => by
        have := List.getElem?_eq_some_iff.1 hx
        obtain ⟨h5, h6⟩ := this
        simp at h6; omega) j u hu
      have hil : i < l := by simpa using h2
      have := (hf i hil).2 q u h3
      rw [show i * k + q = j by omega] at this
      exact this
    · rw [hlen]; exact Nat.le_trans (Nat.mul_le_mul_right _ (by omega)) hwl
    · obtain ⟨i, hi', rfl⟩ := List.mem_map.1 hr
      exact (hf i (List.mem_range.1 hi')).1
end
/-- a program's slices are within the reach -/
structure Fit (L : List In4) (K : List Cs) : Prop where
  i : L.length * 32 ≤ reachBytes
  k : K.length * 24 ≤ reachBytes
  r : ∀ x ∈ K, x.R.length * 8 ≤ reachBytes
section
variable {H : Type} {enc : TypeId × Value → H} {W : World}
theorem class_el_z {n : Nat} {cs : List Value} {x : DataW H × List MemPlace} (h : DataW.trod enc Tryz.prog W 0 (fun _ => true) true n 102 cs = some x) (hz : ∀ n ∈ x.1.weights Tryz.prog 102, n ≤ reachBytes) : ∃ r : Cs, cs = [clV r] ∧ Rs W r.A r.R ∧ r.R.length ≤ maxLen ∧ r.R.length * 8 ≤ reachBytes := by
  obtain ⟨A, R, c, rfl, hs, h1, h2, h3, _⟩ := sl_of_elems_z (w := W) ((0, 0) : Rg) rgc 2 (by decide) (fun _ => rfl) (fun _ => True) Tryz.underlying102 (by kernel_rfl) (fun _ _ _ ht _ hl => range_el ht hl) h hz
  have hb : Tryz.prog.bytesOf 104 = 8 := by kernel_rfl
  rw [hb] at h3
  exact ⟨⟨A, c, R⟩, rfl, rs_of_sl hs, Nat.le_trans h1 h2, h3⟩
set_option maxRecDepth 100000 in
theorem open_code_wz {base : Nat} {v : Value} {d : DataW H} {p : List MemPlace} (hv : Value.okWide Tryz.prog W .any base 62 v) (h : DataW.Trod enc Tryz.prog W 0 (fun _ => true) true 62 v d p) (hz : ∀ n ∈ d.weights Tryz.prog 62, n ≤ reachBytes) :
    ∃ PI PL pic PC PK pcc pg own LA L lc g, v = .agg #[.slice PI PL.length pic, .slice PC PK.length pcc, .int .i64 pg, .bool own, .slice LA L.length lc, .int .u8 g] ∧ CodeAt W PI PL PC PK pg LA L g ∧ Fit PL PK := by
  obtain ⟨cs, rfl, hsz⟩ := okWide_struct Tryz.underlying62 hv
  have h6 : Tryz.prog.cellsOf 62 = 6 := by kernel_rfl
  have h3 : Tryz.prog.cellsOf 25 = 3 := by kernel_rfl
  have s4 : Tryz.prog.cellsOf 4 = 1 := by kernel_rfl
  have s26 : Tryz.prog.cellsOf 26 = 1 := by kernel_rfl
  have s5 : Tryz.prog.cellsOf 5 = 1 := by kernel_rfl
  have s22 : Tryz.prog.cellsOf 22 = 1 := by kernel_rfl
  have s23 : Tryz.prog.cellsOf 23 = 1 := by kernel_rfl
  have s3 : Tryz.prog.cellsOf 3 = 1 := by kernel_rfl
  obtain ⟨l⟩ := cs
  match l, hsz.trans h6 with
  | [c0, c1, c2, c3, c4, c5], _ =>
    obtain ⟨fuel, hf⟩ := h
    obtain ⟨xs, n, _, hx, _, hlen, hg⟩ := DataW.trod_struct Tryz.underlying62 hf
    match xs, hlen with
    | [y0, y1, y2, y3], _ =>
      have g0 : DataW.trod enc Tryz.prog W 0 (fun _ => true) true n 25 [c0, c1, c2] = some y0 := by simpa [Value.cells, h3] using hg 0 _ rfl
      have g1 : DataW.trod enc Tryz.prog W 0 (fun _ => true) true n 4 [c3] = some y1 := by simpa [Value.cells, s4] using hg 1 _ rfl
      have g2 : DataW.trod enc Tryz.prog W 0 (fun _ => true) true n 26 [c4] = some y2 := by simpa [Value.cells, s26] using hg 2 _ rfl
      have g3 : DataW.trod enc Tryz.prog W 0 (fun _ => true) true n 5 [c5] = some y3 := by simpa [Value.cells, s5] using hg 3 _ rfl
      obtain ⟨ts, m, _, hx2, _, htl, hgt⟩ := DataW.trod_struct Tryz.underlying25 g0
      match ts, htl with
      | [z0, z1, z2], _ =>
        have t0 : DataW.trod enc Tryz.prog W 0 (fun _ => true) true m 22 [c0] = some z0 := by simpa [s22] using hgt 0 _ rfl
        have t1 : DataW.trod enc Tryz.prog W 0 (fun _ => true) true m 23 [c1] = some z1 := by simpa [s23] using hgt 1 _ rfl
        have t2 : DataW.trod enc Tryz.prog W 0 (fun _ => true) true m 3 [c2] = some z2 := by simpa [s3] using hgt 2 _ rfl
        injection hx with hd _
        have hy : y0.1 = DataW.agg (List.map (fun x => x.fst) [z0, z1, z2]) := by rw [hx2]
        have hw : ∀ n, n ∈ z0.1.weights Tryz.prog 22 ∨ n ∈ z1.1.weights Tryz.prog 23 → n ≤ reachBytes := fun n hn => hz n (by
          rw [hd]
          simp only [List.map_cons, List.map_nil]
          rw [hy]
          simp only [List.map_cons, List.map_nil, DataW.weights, Tryz.underlying62, Tryz.underlying25, DataW.weightsEach, List.mem_append]
          rcases hn with hn | hn
          · exact Or.inl (Or.inl hn)
          · exact Or.inl (Or.inr (Or.inl hn)))
        obtain ⟨PI, PL, pic, e0, hI, i1, i2, iz, i3⟩ := sl_of_elems_z (w := W) ((0, 0, 0, 0) : In4) i4c 4 (by decide) (fun _ => rfl) In64 Tryz.underlying22 (by kernel_rfl) (fun _ _ _ ht _ hl => inst_el ht hl) t0 (fun n hn => hw n (Or.inl hn))
        obtain ⟨PC, PK, pcc, e1, hC, k1, k2, kz, k3⟩ := sl_of_elems_z (w := W) csD (fun x => [clV x]) 1 (by decide) (fun _ => rfl) (fun r => Rs W r.A r.R ∧ r.R.length ≤ maxLen ∧ r.R.length * 8 ≤ reachBytes) Tryz.underlying23 (by kernel_rfl) (fun _ _ _ ht hz _ => class_el_z ht hz) t1 (fun n hn => hw n (Or.inr hn))
        obtain ⟨pg, e2, _, wpg⟩ := DataW.trod_int Tryz.underlying3 t2
        obtain ⟨own, e3, _⟩ := DataW.trod_bool Tryz.underlying4 g1
        obtain ⟨LA, L, lc, e4, hL, l1, l2, lw⟩ := sl_of_ints Tryz.underlying26 Tryz.underlying48 (by kernel_rfl) g2
        obtain ⟨g, e5, _, wg⟩ := DataW.trod_int Tryz.underlying5 g3
        injection e0 with e0
        injection e1 with e1
        injection e2 with e2
        injection e3 with e3
        injection e4 with e4
        injection e5 with e5
        subst e0 e1 e2 e3 e4 e5
        have hC' : Sl W PC (PK.map clV) := by
          rw [map_flat]
          exact hC
        have hgb := wf_u8b wg
        have b94 : Tryz.prog.bytesOf 94 = 32 := by kernel_rfl
        have b102 : Tryz.prog.bytesOf 102 = 24 := by kernel_rfl
        rw [b94] at iz
        rw [b102] at kz
        exact ⟨PI, PL, pic, PC, PK, pcc, pg, own, LA, L, lc, g, rfl, ⟨⟨hI, hC', fun r hr => ⟨(k3 r hr).1, (k3 r hr).2.1⟩, Nat.le_trans i1 i2, Nat.le_trans k1 k2⟩, i3, wf_i64b wpg, hL, Nat.le_trans l1 l2, u16_bd lw, hgb.1, hgb.2⟩, ⟨iz, kz, fun r hr => (k3 r hr).2.2⟩⟩
end
end Go.Proofs.YtmiacgkidldjmaaGreatDoor
namespace Go.Proofs.YtmiacgkidldjmaaGreatDoor
open Go.RowKit Go.Lib
open Plain (Rg In4)
theorem code_fit (PI PC LA : Option Addr) (PL : List In4) (PK : List Cs) (pic pcc lc : Nat) (pg : Int) (own : Bool) (L : List Int) (g : Int) (W w : World) (hC : CodeAt W PI PL PC PK pg LA L g) (hF : Fit PL PK) (hb : Below W.heap.size W w) :
    Calls Tryz.prog 23 #[.agg #[.slice PI PL.length pic, .slice PC PK.length pcc, .int .i64 pg, .bool own, .slice LA L.length lc, .int .u8 g]] w fun e w' =>
      ∃ (I C : Option Addr) (L : List In4) (K : List Cs) (c d : Nat) (g : Int), e = .returned (pgV I L.length c C K.length d g) ∧ PgAt w' I L C K ∧ Fit L K ∧ Below w.heap.size w w' := by
  cases own
  · refine (code_not_w PI PC LA PL.length pic PK.length pcc L.length lc pg g w).mono ?_
    rintro e w' ⟨rfl, hbb⟩
    exact ⟨PI, PC, PL, PK, pic, pcc, pg, rfl, (hC.p.below hb).below hbb, hF, hbb⟩
  · refine (code_own_w PI PC LA PL.length pic PK.length pcc lc pg g L w hC.g0 hC.g1 (hC.l.below hb) hC.ll hC.lb).mono ?_
    rintro e w' ⟨I, c, gc, K, rfl, hO, hP, hK, hbb⟩
    have hk := (codeK_ok K hK).1
    refine ⟨I, some ⟨gc, 0, none⟩, codeLn L g, K, c, 3, g % 3, by rw [hk], hP, ⟨?_, ?_, fun x hx => ?_⟩, hbb⟩
    · have : (codeLn L g).length ≤ 15 := by rw [codeLn_len]; omega
      unfold reachBytes; omega
    · rw [hk]; decide
    · have h : x.R ∈ K.map Cs.R := List.mem_map.2 ⟨x, hx, rfl⟩
      rw [hK] at h
      simp only [List.mem_cons, List.not_mem_nil, or_false] at h
      rcases h with h | h | h <;> (rw [h]; decide)
/-- the answers of Put, both ways -/
def PT (L : List In4) (KR : List (List Rg)) (g : Int) : ByteArray := if pgP L KR g then str (Plain.progL L KR g) else ⟨#[]⟩
def TT (P : List Int) (N : List (List Int)) (C : List Bool) : ByteArray := if Plain.tabRight P N C.length then str (Plain.tabL P N C) else ⟨#[]⟩
theorem put14_eq (I C : Option Addr) (L : List In4) (K : List Cs) (c d : Nat) (g : Int) (w : World) (hP : PgAt w I L C K) :
    Calls Tryz.prog 14 #[pgV I L.length c C K.length d g] w fun e w' => e = .returned (.tuple #[.string (PT L (K.map Cs.R) g), .bool (pgP L (K.map Cs.R) g)]) ∧ Below w.heap.size w w' := by
  unfold PT
  cases h : pgP L (K.map Cs.R) g
  · exact putprog_not I C L K c d g w hP (by rw [pgP_eq]; exact h)
  · exact putprog_yes I C L K c d g w hP (by rw [pgP_eq]; exact h)
theorem put25_eq (I C : Option Addr) (L : List In4) (K : List Cs) (c d : Nat) (g : Int) (w : World) (hP : PgAt w I L C K) :
    Calls Tryz.prog 25 #[pgV I L.length c C K.length d g] w fun e w' => e = .returned (.tuple #[.string (PT L (K.map Cs.R) g), .bool (pgP L (K.map Cs.R) g)]) ∧ Below w.heap.size w w' := by
  unfold PT
  cases h : pgP L (K.map Cs.R) g
  · exact rputprog_not I C L K c d g w hP (by rw [pgP_eq]; exact h)
  · exact rputprog_yes I C L K c d g w hP (by rw [pgP_eq]; exact h)
theorem put16_eq (PA : Option Addr) (P : List Int) (pc : Nat) (NA : Option Addr) (R : List Row) (nc : Nat) (AA : Option Addr) (C : List Bool) (ac : Nat) (w : World) (hT : TabAt w PA P NA R AA C) :
    Calls Tryz.prog 16 #[tabV PA P pc NA R nc AA C ac] w fun e w' => e = .returned (.tuple #[.string (TT P (nums R) C), .bool (Plain.tabRight P (nums R) C.length)]) ∧ Below w.heap.size w w' := by
  unfold TT
  cases h : Plain.tabRight P (nums R) C.length
  · exact puttab_not PA P pc NA R nc AA C ac w hT h
  · exact puttab_yes PA P pc NA R nc AA C ac w hT h
theorem put27_eq (PA : Option Addr) (P : List Int) (pc : Nat) (NA : Option Addr) (R : List Row) (nc : Nat) (AA : Option Addr) (C : List Bool) (ac : Nat) (w : World) (hT : TabAt w PA P NA R AA C) :
    Calls Tryz.prog 27 #[tabV PA P pc NA R nc AA C ac] w fun e w' => e = .returned (.tuple #[.string (TT P (nums R) C), .bool (Plain.tabRight P (nums R) C.length)]) ∧ Below w.heap.size w w' := by
  unfold TT
  cases h : Plain.tabRight P (nums R) C.length
  · exact rputtab_not PA P pc NA R nc AA C ac w hT h
  · exact rputtab_yes PA P pc NA R nc AA C ac w hT h
theorem PT_size (L : List In4) (KR : List (List Rg)) (g : Int) : (PT L KR g).size ≤ 65536 := by
  unfold PT
  cases h : pgP L KR g
  · show (0 : Nat) ≤ 65536; decide
  · have hm : (KR.map fun R => (⟨none, 0, R⟩ : Cs)).map Cs.R = KR := by rw [List.map_map]; simp [Function.comp_def]
    have hf := pgR_fits (L := L) (K := KR.map fun R => (⟨none, 0, R⟩ : Cs)) (g := g) (by rw [pgP_eq, hm]; exact h)
    rw [hm] at hf
    have hlen := Plain.progL_len _ _ _ hf
    show (str _).size ≤ _
    rw [str_size]; omega
theorem TT_size (P : List Int) (N : List (List Int)) (C : List Bool) : (TT P N C).size ≤ 65536 := by
  unfold TT
  cases h : Plain.tabRight P N C.length
  · show (0 : Nat) ≤ 65536; decide
  · have hlen := Plain.tabL_len _ _ _ (Plain.tab_fits h)
    show (str _).size ≤ _
    rw [str_size]; omega
end Go.Proofs.YtmiacgkidldjmaaGreatDoor
