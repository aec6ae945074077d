/- Chapter 12: numbers, padding, sums, Seal, blob: what the code computes. Conditions: what each lemma says. -/
import Derived.Test.YtmiacgkidldjmaaGreatDoorVaryW
import Derived.Test.YtmiacgkidldjmaaGreatDoorShelfW
import Derived.Test.YtmiacgkidldjmaaGreatDoorSumW
import Derived.Test.YtmiacgkidldjmaaGreatDoorTabH
import Derived.Test.YtmiacgkidldjmaaGreatDoorCodeA
import Derived.Deep.RegionHeld3
set_option linter.unusedVariables false
set_option linter.unusedSimpArgs false
namespace Go.Proofs.YtmiacgkidldjmaaGreatDoor
open Go.RowKit Go.Lib
def i64n (ns : List Nat) : List Value := ns.map fun (n : Nat) => Value.int .i64 (n : Int)
def numsL (ns : List Nat) : List UInt8 := ns.flatMap Plain.putL
theorem numsL_snoc (ns : List Nat) (n : Nat) : numsL (ns ++ [n]) = numsL ns ++ Plain.putL n := by unfold numsL; rw [List.flatMap_append]; simp
theorem numsL_len (ns : List Nat) (h : ∀ n ∈ ns, n < 18446744073709551616) : (numsL ns).length ≤ ns.length * 10 := Plain.flat_len Plain.putL 10 ns fun n hn => (Plain.putL_len10 n (h n hn)).2
theorem isb_below {gb : Nat} {bs : List Value} {w w' : World} (h : Lib.IsBuilder 150 5 gb gb bs w) (hb : Below w.heap.size w w') : Lib.IsBuilder 150 5 gb gb bs w' := by
  rcases h with ⟨h1, v, h2, h3, h4⟩ | ⟨h1, v, h2, h3, h4⟩
  · exact .inl ⟨h1, v, blk_later h2 hb, own_below h3 hb, h4⟩
  · exact .inr ⟨h1, v, blk_later h2 hb, own_below h3 hb, h4⟩
set_option maxRecDepth 100000 in
set_option maxHeartbeats 2000000 in
theorem numbers_any (ns : List Nat) (A : Option Addr) (c : Nat) (w : World) (hX : Sl w A (i64n ns)) (hs : ∀ n ∈ ns, n < 9223372036854775808) (hl : ns.length ≤ 1000000) :
    Calls Tryz.prog 41 #[.slice A ns.length c] w fun e w' => e = .returned (.string (str (numsL ns))) ∧ Below w.heap.size w w' := by
  obtain ⟨m, hM⟩ : ∃ m, ns.length = m := ⟨_, rfl⟩
  have HN := Lib.hid hM
  have HX := Lib.hid hX
  have HS := Lib.hid hs
  rw [hM] at hl ⊢
  have CP := Lib.hid (fun n hn (W : World) => put_any n W hn)
  have hb1 : Below w.heap.size w (w.alloc (.cells #[.pointer none, .slice none 0 0] 150)) := below_alloc (Below.refl _ _) _
  have hbd : Lib.IsBuilder 150 5 w.heap.size w.heap.size [] (w.alloc (.cells #[.pointer none, .slice none 0 0] 150)) :=
    .inl ⟨Nat.le_refl _, _, heap_alloc_new2 _ _ _ _ (by simp), ⟨rfl, .inl ⟨rfl, rfl⟩⟩, by simp [Value.ownBlock]⟩
  have HB1 := Lib.hid hb1
  have HBD := Lib.hid hbd
  clear hX hM hs hb1 hbd
  go_enter Tryz.func41, Tryz.ntmps41
  go_wp2_with fail
  go_loopw [5, 8] (fun _ i wr => ∃ k : Nat, k ≤ m ∧ i = .int .i64 k ∧ Lib.IsBuilder 150 5 w.heap.size w.heap.size (Lib.byteCells (numsL (ns.take k))) wr ∧ RowKit.Below w.heap.size w wr) (fun _ i _ => m - (RowKit.intOf i).toNat)
  case atStart => exact ⟨0, Nat.zero_le _, rfl, HBD.out, HB1.out⟩
  case round =>
    obtain ⟨k, hk, rfl, hD, hB⟩ := hrel
    have HD := Lib.hid hD
    have HB := Lib.hid hB
    clear hD hB
    by_cases hlt : k < m
    · have hk1 : k < ns.length := by rw [HN.out]; exact hlt
      obtain ⟨b, off, he, hbb, hc⟩ := (HX.out.below HB.out) (by unfold i64n; rw [List.length_map]; omega)
      subst he
      have c0 := hc k (.int .i64 (ns[k] : Int)) (by unfold i64n; rw [List.getElem?_map, List.getElem?_eq_getElem hk1]; rfl)
      have hsk := HS.out ns[k] (List.getElem_mem hk1)
      have hnx : numsL (ns.take (k + 1)) = numsL (ns.take k) ++ Plain.putL ns[k] := by rw [List.take_succ_eq_append_getElem hk1, numsL_snoc]
      have hpl := numsL_len (ns.take k) fun n hn => by have := HS.out n (List.mem_of_mem_take hn); omega
      rw [List.length_take] at hpl
      obtain ⟨n, hn⟩ : ∃ n, ns[k] = n := ⟨_, rfl⟩
      rw [hn] at c0 hsk hnx
      have hp10 := (Plain.putL_len10 n (by omega)).2
      have CK := Lib.hid (fun (W : World) => CP.out n (by omega) W)
      obtain ⟨pl, hplq⟩ : ∃ pl, Plain.putL n = pl := ⟨_, rfl⟩
      rw [hplq] at CK hnx hp10
      have HNX := Lib.hid hnx
      have HPL := Lib.hid hpl
      have HP10 := Lib.hid hp10
      have hwn : (n : Int) % 18446744073709551616 = (n : Int) := by omega
      clear hnx hpl hplq hn hc hp10
      go_wp2_with fail
      refine (CK.out _).mono ?_
      rintro e w1 ⟨rfl, hb1⟩
      have HBT := Lib.hid (below_then HB.out hb1)
      have HDT := Lib.hid (isb_below HD.out hb1)
      clear hb1 c0
      go_wp2_with fail
      refine (Tryz.Builder_WriteString w.heap.size w.heap.size _ _ _ HDT.out (by rw [show (⟨pl.toArray⟩ : ByteArray).size = pl.length from str_size pl]; have := HPL.out; have := HP10.out; simp only [Lib.byteCells, List.length_map]; omega) (HBT.out.size)).mono ?_
      rintro e w9 ⟨rfl, hBA, hb9⟩
      have HB9 := Lib.hid (HBT.out.trans hb9)
      have HBA := Lib.hid hBA
      clear hBA hb9
      go_wp2
      go_roundw
      case rel => exact ⟨k + 1, by omega, by go_num, by rw [HNX.out, show Lib.byteCells (numsL (ns.take k) ++ pl) = Lib.byteCells (numsL (ns.take k)) ++ Lib.strCells ⟨pl.toArray⟩ from by simp [Lib.byteCells, Lib.strCells]]; exact .inr HBA.out, HB9.out⟩
      case measure => simp [RowKit.intOf]; omega
    · obtain rfl : m = k := by omega
      have htk : ns.take m = ns := List.take_of_length_le (by rw [HN.out]; exact Nat.le_refl _)
      have hD := HD.out
      rw [htk] at hD
      have HDD := Lib.hid hD
      clear hD htk
      go_wp2_with fail
      refine (Tryz.Builder_String_any w.heap.size w.heap.size _ _ HDD.out (HB.out.size)).mono ?_
      rintro e w9 ⟨rfl, hb9⟩
      go_wp2_with fail
      go_ret
      exact ⟨rfl, HB.out.trans hb9⟩
end Go.Proofs.YtmiacgkidldjmaaGreatDoor
namespace Go.Proofs.YtmiacgkidldjmaaGreatDoor
open Go.RowKit Go.Lib
theorem padding_any (n : Int) (w : World) : Calls Tryz.prog 56 #[.int .i64 n] w fun e w' => e = .returned (.int .i64 (Plain.padI n)) ∧ w' = w := by
  have h1 := Int.tmod_lt_of_pos n (show (0 : Int) < 4 by decide)
  have h2 : -4 < Int.tmod n 4 := by
    rcases Int.lt_or_le n 0 with h | h
    · obtain ⟨m, rfl⟩ : ∃ m : Int, n = -m := ⟨-n, by omega⟩
      rw [Int.neg_tmod]
      have := Int.tmod_lt_of_pos m (show (0 : Int) < 4 by decide)
      omega
    · have := Int.tmod_nonneg 4 h
      omega
  have hp : Plain.padI n = Int.tmod (4 - Int.tmod n 4) 4 := rfl
  obtain ⟨r, hr⟩ : ∃ r, Int.tmod n 4 = r := ⟨_, rfl⟩
  rw [hr] at h1 h2 hp
  have hr2 : Int.tmod (4 - r) 4 = Plain.padI n := hp.symm
  have hw : IntKind.i64.wrap r = r := by rw [IntKind.wrap_i64]; omega
  have hw4 : IntKind.i64.wrap (4 - r) = 4 - r := by rw [IntKind.wrap_i64]; omega
  have hwp : IntKind.i64.wrap (Plain.padI n) = Plain.padI n := by have := Plain.padI_bd n; rw [IntKind.wrap_i64]; omega
  have hb := Plain.padI_bd n
  clear hp
  go_enter Tryz.func56, Tryz.ntmps56
  go_wp2_with fail
  go_ret
  exact ⟨rfl, rfl⟩
theorem u8w (x : Int) : IntKind.u8.wrap x = x % 256 := IntKind.wrap_u8 x
def b4i (x : Int) : List Int := [x / 16777216 % 256, x / 65536 % 256, x / 256 % 256, x % 256]
theorem b4_nb (x : Int) : bstr (b4i x) = str (Plain.b4 x) := by
  have h := bstr_nb (Plain.b4 x)
  rw [show str (Plain.b4 x) = (⟨(Plain.b4 x).toArray⟩ : ByteArray) from rfl, ← h]
  congr 1
  have e : ∀ y : Int, ((UInt8.ofNat (y % 256).toNat).toNat : Int) = y % 256 := fun y => by rw [Plain.ofNat_toNat _ (by omega)]; omega
  unfold nb Plain.b4 b4i
  simp only [List.map_cons, List.map_nil, e]
theorem conv4 {w : World} (a b c d : Int) (h : ∀ x ∈ [a, b, c, d], 0 ≤ x ∧ x < 256) : (convert 35 9 (.slice (some ⟨w.heap.size, 0, none⟩) 4 4)).run Tryz.prog (w.alloc (.cells #[.int .u8 a, .int .u8 b, .int .u8 c, .int .u8 d] 5)) = .ok (.string (bstr [a, b, c, d])) (w.alloc (.cells #[.int .u8 a, .int .u8 b, .int .u8 c, .int .u8 d] 5)) := by
  rw [run_convert_bytes_string _ 35 9 5 _ 4 4 Tryz.underlying35 Tryz.underlying5 Tryz.underlying9]
  have h2 := run_loadCells_list (P := Tryz.prog) (w := w.alloc (.cells #[.int .u8 a, .int .u8 b, .int .u8 c, .int .u8 d] 5)) ⟨w.heap.size, 0, none⟩ (u8s [a, b, c, d]) (CellsAt_add (CellsAt.new w #[.int .u8 a, .int .u8 b, .int .u8 c, .int .u8 d] 5))
  exact run_bytesToString _ _ 4 4 [a, b, c, d] h2
set_option maxRecDepth 100000 in
set_option maxHeartbeats 1000000 in
theorem sealed_any (s : ByteArray) (w : World) (hs : s.size ≤ maxLen) : Calls Tryz.prog 57 #[.string s] w fun e w' => e = .returned (.string (str (Plain.sealed s.data.toList))) ∧ Below w.heap.size w w' := by
  have cO := of_sm s w hs
  obtain ⟨b0, b1⟩ := sm_bd s
  have hv : str (Plain.sealed s.data.toList) = bstr (b4i (sm s)) := (b4_nb (sm s)).symm
  rw [hv]
  unfold b4i
  obtain ⟨x, hx⟩ : ∃ x, sm s = x := ⟨_, rfl⟩
  rw [hx] at cO b0 b1 ⊢
  rw [show x / 16777216 % 256 = x / 16777216 by omega]
  have CO := Lib.hid cO
  have c4 := Lib.hid (fun W => conv4 (w := W) (x / 16777216) (x / 65536 % 256) (x / 256 % 256) (x % 256) (by intro y hy; simp only [List.mem_cons, List.not_mem_nil, or_false] at hy; rcases hy with h | h | h | h <;> (subst h; omega)))
  clear cO hv hx
  go_enter Tryz.func57, Tryz.ntmps57
  go_wp2_with fail
  refine CO.out.mono ?_
  rintro e w1 ⟨rfl, hw⟩
  subst hw
  have hc := c4.out w
  go_wp2_with fail
  go_ret
  exact ⟨rfl, below_alloc (Below.refl _ _) _⟩
end Go.Proofs.YtmiacgkidldjmaaGreatDoor
namespace Go.Proofs.YtmiacgkidldjmaaGreatDoor
open Go.RowKit Go.Lib
theorem repeat_zero (c : Nat) : Lib.repeatL [0] c = List.replicate c (0 : UInt8) := by
  induction c with
  | zero => rfl
  | succ n ih => show [0] ++ Lib.repeatL [0] n = _; rw [ih]; rfl
set_option maxRecDepth 100000 in
set_option maxHeartbeats 1000000 in
theorem seal_any (s : ByteArray) (w : World) (hs : s.size ≤ 140737488355328) : Calls Tryz.prog 29 #[.string s] w fun e w' => e = .returned (.string (str (Plain.sealL s.data.toList))) ∧ Below w.heap.size w w' := by
  have hl : s.data.toList.length = s.size := by simp
  have hp3 := Plain.padN_lt s.size
  have cR := fun W => Tryz.strings_Repeat ⟨#[0]⟩ (Plain.padN s.size) W (by omega) (by show 1 * _ ≤ _; omega)
  have er : (⟨(Lib.repeatL (⟨#[0]⟩ : ByteArray).data.toList (Plain.padN s.size)).toArray⟩ : ByteArray) = str (List.replicate (Plain.padN s.size) 0) := by
    show _ = (⟨_⟩ : ByteArray)
    rw [show (⟨#[0]⟩ : ByteArray).data.toList = [0] from rfl, repeat_zero]
  have hpad : s ++ str (List.replicate (Plain.padN s.size) 0) = str (Plain.padL s.data.toList) := by
    rw [show s ++ str (List.replicate (Plain.padN s.size) 0) = str (s.data.toList ++ List.replicate (Plain.padN s.size) 0) from by rw [← str_app, str_of]]; unfold Plain.padL; rw [hl]
  have hps : (str (Plain.padL s.data.toList)).size ≤ 140737488355331 := by rw [str_size, Plain.padL_len, hl]; omega
  have hseal : str (Plain.padL s.data.toList) ++ str (Plain.sealed (Plain.padL s.data.toList)) = str (Plain.sealL s.data.toList) := by rw [str_app]; rfl
  have cS := fun W => sealed_any (str (Plain.padL s.data.toList)) W (by unfold maxLen; omega)
  rw [str_list] at cS
  have cP := fun W => padding_any (s.size : Int) W
  rw [Plain.padI_nat] at cP
  have hz4 : (str (Plain.sealed (Plain.padL s.data.toList))).size = 4 := by rw [str_size]; rfl
  have hr3 : (str (List.replicate (Plain.padN s.size) 0)).size = Plain.padN s.size := by rw [str_size, List.length_replicate]
  rw [er] at cR
  rw [← hseal]
  obtain ⟨p, hpe⟩ : ∃ p, Plain.padN s.size = p := ⟨_, rfl⟩
  rw [hpe] at cR cP hpad hp3 hr3
  obtain ⟨z, hz⟩ : ∃ z, str (List.replicate p 0) = z := ⟨_, rfl⟩
  rw [hz] at cR hpad hr3
  obtain ⟨t, ht⟩ : ∃ t, str (Plain.padL s.data.toList) = t := ⟨_, rfl⟩
  rw [ht] at hpad cS hps ⊢
  obtain ⟨u, hu⟩ : ∃ u, str (Plain.sealed (Plain.padL s.data.toList)) = u := ⟨_, rfl⟩
  rw [hu] at cS hz4 ⊢
  have CR := Lib.hid cR
  have CS := Lib.hid cS
  have CP := Lib.hid cP
  have HPAD := Lib.hid hpad
  clear cR cS cP hpad hseal hl er hu ht hz hpe
  have g1 : ¬ (9223372036854775807 < s.size + z.size) := by omega
  have g2 : ¬ (9223372036854775807 < t.size + u.size) := by omega
  go_enter Tryz.func29, Tryz.ntmps29
  go_wp2_with fail
  refine (CP.out _).mono ?_
  rintro e w1 ⟨rfl, rfl⟩
  go_wp2_with fail
  refine (CR.out _).mono ?_
  rintro e w1 ⟨rfl, hb1⟩
  have HB1 := Lib.hid hb1
  clear hb1
  go_wp2_with fail
  rw [HPAD.out]
  refine (CS.out _).mono ?_
  rintro e w2 ⟨rfl, hb2⟩
  have HB2 := Lib.hid (below_then HB1.out hb2)
  clear hb2
  go_wp2_with fail
  go_ret
  exact ⟨rfl, HB2.out⟩
end Go.Proofs.YtmiacgkidldjmaaGreatDoor
namespace Go.Proofs.YtmiacgkidldjmaaGreatDoor
open Go.RowKit Go.Lib
/-- a blob's bytes up to a section -/
def preL (k : UInt8) (tag : Nat) (l : List (List UInt8)) (j : Nat) : List UInt8 := [87, 88, k] ++ (List.range j).flatMap fun i => Plain.secL (tag + i) (l.getD i [])
theorem preL_succ (k : UInt8) (tag : Nat) (l : List (List UInt8)) (j : Nat) : preL k tag l (j + 1) = preL k tag l j ++ Plain.secL (tag + j) (l.getD j []) := by
  unfold preL; rw [List.range_succ, List.flatMap_append, List.append_assoc]; simp
theorem preL_three (k : UInt8) (tag : Nat) (a b c : List UInt8) : preL k tag [a, b, c] 3 = Plain.bodyL k tag a b c := by
  unfold preL Plain.bodyL; simp [List.range_succ]
theorem preL_len (k : UInt8) (tag : Nat) (l : List (List UInt8)) (h : ∀ s ∈ l, s.length ≤ 65536) : ∀ j, j ≤ l.length → (preL k tag l j).length ≤ 3 + j * 65540 := by
  intro j
  induction j with
  | zero => intro _; simp [preL]
  | succ j ih =>
    intro hj
    have hs := h (l.getD j []) (by rw [Plain.getD_lt l [] j (by omega)]; exact List.getElem_mem _)
    have := ih (by omega)
    have := (Plain.secL_len (tag + j) (l.getD j []) hs).2
    rw [preL_succ, List.length_append]; omega
theorem conv1 {w : World} (a : Int) (h : 0 ≤ a ∧ a < 256) : (convert 35 9 (.slice (some ⟨w.heap.size, 0, none⟩) 1 1)).run Tryz.prog (w.alloc (.cells #[.int .u8 a] 5)) = .ok (.string (bstr [a])) (w.alloc (.cells #[.int .u8 a] 5)) := by
  rw [run_convert_bytes_string _ 35 9 5 _ 1 1 Tryz.underlying35 Tryz.underlying5 Tryz.underlying9]
  have h2 := run_loadCells_list (P := Tryz.prog) (w := w.alloc (.cells #[.int .u8 a] 5)) ⟨w.heap.size, 0, none⟩ (u8s [a]) (CellsAt_add (CellsAt.new w #[.int .u8 a] 5))
  exact run_bytesToString _ _ 1 1 [a] h2
theorem convB {w : World} {g : Nat} (a : Int) (h : 0 ≤ a ∧ a < 256) (hb : w.heap[g]? = some (.cells #[.int .u8 a] 5 (0, 0))) : (convert 35 9 (.slice (some ⟨g, 0, none⟩) 1 1)).run Tryz.prog w = .ok (.string (bstr [a])) w := by
  rw [run_convert_bytes_string _ 35 9 5 _ 1 1 Tryz.underlying35 Tryz.underlying5 Tryz.underlying9]
  have h2 := run_loadCells_list (P := Tryz.prog) (w := w) ⟨g, 0, none⟩ (u8s [a]) (CellsAt_add (g := g) ⟨lt_of_some hb, fun j u hu => by rw [cell_of_row _ _ _ _ _ _ hb]; simpa [u8s] using hu⟩)
  exact run_bytesToString _ _ 1 1 [a] h2
theorem bstr_one (n : Nat) (h : n < 256) : bstr [(n : Int)] = str [UInt8.ofNat n] := by
  have h2 := bstr_nb [UInt8.ofNat n]
  unfold nb at h2
  simp only [List.map_cons, List.map_nil] at h2
  rw [Plain.ofNat_toNat n h] at h2
  exact h2
set_option maxRecDepth 100000 in
set_option maxHeartbeats 4000000 in
theorem blob_any (kd : Nat) (kb : UInt8) (tag : Nat) (a b c : List UInt8) (A : Option Addr) (cap : Nat) (w : World) (hkd : kd ≤ 2) (hkb : (⟨#[32, 80, 84]⟩ : ByteArray).extract kd (kd + 1) = str [kb]) (ht : tag ≤ 10)
    (ha : a.length ≤ 65536) (hb : b.length ≤ 65536) (hc : c.length ≤ 65536) (hX : Sl w A [.string (str a), .string (str b), .string (str c)]) (hlen : (Plain.blobL kb tag a b c).length ≤ 65536) :
    Calls Tryz.prog 42 #[.int .i64 kd, .int .i64 tag, .slice A 3 cap] w fun e w' => e = .returned (.tuple #[.string (str (Plain.blobL kb tag a b c)), .bool true]) ∧ Below w.heap.size w w' := by
  obtain ⟨g, off, rfl, hg, hcell⟩ := hX (by simp)
  have hall : ∀ s ∈ [a, b, c], s.length ≤ 65536 := by intro s hs; simp at hs; rcases hs with rfl | rfl | rfl <;> assumption
  have HCELL := Lib.hid hcell
  have HALL := Lib.hid hall
  obtain ⟨tot, htot⟩ : ∃ t, Plain.blobL kb tag a b c = t := ⟨_, rfl⟩
  have hseal : ∀ W, Calls Tryz.prog 29 #[.string (str (preL kb tag [a, b, c] 3))] W fun e w' => e = .returned (.string (str tot)) ∧ Below W.heap.size W w' := fun W => by
    have h1 := preL_len kb tag [a, b, c] hall 3 (by simp)
    have h2 := seal_any (str (preL kb tag [a, b, c] 3)) W (by rw [str_size]; omega)
    rw [str_list, preL_three] at h2
    rw [preL_three, ← htot]
    exact h2
  have HSEAL := Lib.hid hseal
  have htl : (str tot).size ≤ 65536 := by rw [str_size, ← htot]; exact hlen
  rw [htot]
  obtain ⟨tb, htb⟩ : ∃ t, str tot = t := ⟨_, rfl⟩
  rw [htb] at HSEAL htl ⊢
  have hpre0 : (⟨#[87, 88]⟩ : ByteArray) ++ str [kb] = str (preL kb tag [a, b, c] 0) := by rw [show (⟨#[87, 88]⟩ : ByteArray) = str [87, 88] from rfl, str_app]; rfl
  have HPRE0 := Lib.hid hpre0
  have CT := Lib.hid (fun s W hs => textS_any s W hs)
  have hd3 : decide ((tb.size : Int) > 65536) = false := by simp; omega
  have hd4 : (kd : Int) + 1 ≤ 3 := by omega
  have hk1 : ((kd : Int) + 1).toNat = kd + 1 := by omega
  have g1 : ¬ (9223372036854775807 < (2 : Nat) + (str [kb]).size) := by rw [str_size]; simp
  clear hcell hall htot hseal hpre0 htb hlen
  go_enter Tryz.func42, Tryz.ntmps42
  go_wp2_with fail
  rw [HPRE0.out]
  go_loopw [8, 9, 10, 18] (fun s _ _ i wr => ∃ j : Nat, j ≤ 3 ∧ i = .int .i64 j ∧ s = .string (str (preL kb tag [a, b, c] j)) ∧ RowKit.Below w.heap.size w wr) (fun _ _ _ i _ => 3 - (RowKit.intOf i).toNat)
  case atStart => exact ⟨0, by omega, rfl, rfl, Below.refl _ _⟩
  case round =>
    obtain ⟨j, hj, rfl, rfl, hB⟩ := hrel
    have HB := Lib.hid hB
    clear hB
    by_cases hlt : j < 3
    · obtain ⟨s, hs⟩ : ∃ s, [a, b, c].getD j [] = s := ⟨_, rfl⟩
      have hsl : s.length ≤ 65536 := by rw [← hs, Plain.getD_lt _ [] j (by simp; omega)]; exact HALL.out _ (List.getElem_mem _)
      have c0 : wr.cell? ⟨g, off + j, none⟩ = some (.string (str s)) := by
        refine (HB.out.cell (p := ⟨g, off + j, none⟩) hg).trans (HCELL.out j _ ?_)
        rw [← hs]
        rcases (show j = 0 ∨ j = 1 ∨ j = 2 by omega) with rfl | rfl | rfl <;> rfl
      have hnx := preL_succ kb tag [a, b, c] j
      rw [hs] at hnx
      have hpl := preL_len kb tag [a, b, c] HALL.out j (by simp; omega)
      have CK := Lib.hid (fun W => CT.out (str s) W (by rw [str_size]; omega))
      have hsec := Plain.secL_len (tag + j) s hsl
      have hpz := (Plain.putL_len10 (str s).size (by rw [str_size]; omega)).2
      have hz : str (Plain.putL (str s).size ++ (str s).data.toList) = str (Plain.textL s) := by rw [str_size, str_list]; rfl
      have hzs : (str (Plain.textL s)).size ≤ 65550 := by rw [← hz, str_size, List.length_append, str_list]; omega
      rw [hz] at CK
      obtain ⟨pr, hpr⟩ : ∃ p, preL kb tag [a, b, c] j = p := ⟨_, rfl⟩
      obtain ⟨pn, hpn⟩ : ∃ p, preL kb tag [a, b, c] (j + 1) = p := ⟨_, rfl⟩
      rw [hpr, hpn] at hnx
      rw [hpr] at hpl
      rw [hpr]
      have hcat : str pr ++ (str [UInt8.ofNat (tag + j)] ++ str (Plain.textL s)) = str pn := by rw [str_app, str_app, hnx]; rfl
      have hps : (str pr).size ≤ 300000 := by rw [str_size]; omega
      have h1s : (str [UInt8.ofNat (tag + j)]).size = 1 := by rw [str_size]; rfl
      obtain ⟨z, hze⟩ : ∃ z, str (Plain.textL s) = z := ⟨_, rfl⟩
      rw [hze] at CK hzs hcat
      obtain ⟨o, ho⟩ : ∃ o, str [UInt8.ofNat (tag + j)] = o := ⟨_, rfl⟩
      have hc1 : ∀ (W : World) (g : Nat), W.heap[g]? = some (.cells #[.int .u8 ((tag + j : Nat) : Int)] 5 (0, 0)) → (convert 35 9 (.slice (some ⟨g, 0, none⟩) 1 1)).run Tryz.prog W = .ok (.string o) W := fun W g h => by rw [convB _ (by omega) h, bstr_one _ (by omega), ho]
      rw [ho] at hcat h1s
      obtain ⟨tj, htj⟩ : ∃ x, tag + j = x := ⟨_, rfl⟩
      rw [htj] at hc1
      have hw1 : ((tag : Int) + (j : Int)) = (tj : Int) := by omega
      have hw2 : IntKind.i64.wrap ((tag : Int) + (j : Int)) = (tj : Int) := by rw [IntKind.wrap_i64]; omega
      have hw3 : (tj : Int) % 256 = (tj : Int) := by omega
      have hw4 : IntKind.i64.wrap (tj : Int) = (tj : Int) := by rw [IntKind.wrap_i64]; omega
      have hw5 : IntKind.u8.wrap (tj : Int) = (tj : Int) := by rw [IntKind.wrap_u8]; omega
      have HCAT := Lib.hid hcat
      have HPN := Lib.hid hpn
      have HC1 := Lib.hid hc1
      obtain ⟨p0, hp0⟩ : ∃ x, str pr = x := ⟨_, rfl⟩
      rw [hp0] at HCAT hps
      rw [hp0]
      have g2 : ¬ (9223372036854775807 < o.size + z.size) := by omega
      have g3 : ¬ (9223372036854775807 < p0.size + (o ++ z).size) := by rw [ByteArray.size_append]; omega
      have g4 : ¬ (9223372036854775807 < p0.size + (o.size + z.size)) := by omega
      have g5 : ¬ (9223372036854775807 < 1 + z.size) := by omega
      have g6 : ¬ (9223372036854775807 < p0.size + (1 + z.size)) := by omega
      clear hnx hpl hz hze hsec hpz hcat hpr hpn hs hsl hc1 ho htj hp0
      go_wp2_with fail
      have HBD := Lib.hid (Below.drew (Below.refl wr.heap.size wr))
      obtain ⟨wd, hwd⟩ : ∃ x, wr.drew = x := ⟨_, rfl⟩
      rw [hwd] at HBD
      refine wp_region_noPanic ?_
      refine wp_region_T 11 (S := fun w' : World => Below wr.heap.size wr w') (by kernel_rfl) (by decide) ?_
      rw [hwd]
      clear hwd
      refine wpAnyT_take2 0 (v := ?tvb1) (by kernel_rfl) rfl (by kernel_rfl) (fun _ _ _ h => h) (Or.inl ⟨by rfl, ?tyb1⟩) HBD.out ?trb1
      case tyb1 => (intro w' hSw; (try dsimp only at hSw); go_simp; try with_reducible rfl)
      try simp only [Act.put, List.setIfInBounds_toArray, List.set_cons_zero, List.set_cons_succ]
      refine wpAnyT_take2 1 (v := ?tvb2) (by kernel_rfl) rfl (by kernel_rfl) (fun _ _ _ h => h) (Or.inl ⟨by rfl, ?tyb2⟩) HBD.out ?trb2
      case tyb2 => (intro w' hSw; (try dsimp only at hSw); go_simp; try with_reducible rfl)
      try simp only [Act.put, List.setIfInBounds_toArray, List.set_cons_zero, List.set_cons_succ]
      refine wpAnyT_take2 2 (v := ?tvb3) (by kernel_rfl) rfl (by kernel_rfl) (fun _ _ _ h => h) (Or.inl ⟨by rfl, ?tyb3⟩) HBD.out ?trb3
      case tyb3 => (intro w' hSw; (try dsimp only at hSw); go_simp; try with_reducible rfl)
      try simp only [Act.put, List.setIfInBounds_toArray, List.set_cons_zero, List.set_cons_succ]
      refine wpAnyT_take2 3 (v := ?tvb4) (by kernel_rfl) rfl (by kernel_rfl) (fun _ _ _ h => h) (Or.inl ⟨by rfl, ?tyb4⟩) HBD.out ?trb4
      case tyb4 => (intro w' hSw; (try dsimp only at hSw); go_simp; try with_reducible rfl)
      try simp only [Act.put, List.setIfInBounds_toArray, List.set_cons_zero, List.set_cons_succ]
      refine wpAnyT_take2 4 (v := ?tvb5) (by kernel_rfl) rfl (by kernel_rfl) (fun _ _ _ h => h) (Or.inl ⟨by rfl, ?tyb5⟩) HBD.out ?trb5
      case tyb5 => (intro w' hSw; (try dsimp only at hSw); go_simp; try with_reducible rfl)
      try simp only [Act.put, List.setIfInBounds_toArray, List.set_cons_zero, List.set_cons_succ]
      refine wpAnyT_take2 7 (v := ?tvb6) (by kernel_rfl) rfl (by kernel_rfl) (fun _ _ _ h => h) (Or.inl ⟨by rfl, ?tyb6⟩) HBD.out ?trb6
      case tyb6 => (intro w' hSw; (try dsimp only at hSw); go_simp; try with_reducible rfl)
      try simp only [Act.put, List.setIfInBounds_toArray, List.set_cons_zero, List.set_cons_succ]
      refine wpAnyT_all [5, 8] (by kernel_rfl) (by decide) (fun i hi => ?_)
      simp only [List.mem_cons, List.not_mem_nil, or_false] at hi
      rcases hi with rfl | rfl
      · refine ⟨_, (by rfl), fun K' hK' => ?_⟩
        rw [if_pos (by rfl)]
        have HK := Lib.hid hK'
        clear hK'
        have hnew := heap_alloc_new2 wd (.cells #[.int .u8 (tj : Int)] 5) wd.heap.size _ rfl
        go_simp
        have HBb7 := Lib.hid (below_alloc HBD.out (.cells #[.int .u8 (tj : Int)] 5))
        refine HK.out _ _ ⟨HBb7.out, ?_⟩
        clear HK K'
        try simp only [Act.put, List.setIfInBounds_toArray, List.set_cons_zero, List.set_cons_succ]
        obtain ⟨wb7, hwb7⟩ : ∃ W0, wd.alloc (.cells #[.int .u8 (tj : Int)] 5) = W0 := ⟨_, rfl⟩
        obtain ⟨gb, hgb⟩ : ∃ x, wd.heap.size = x := ⟨_, rfl⟩
        rw [hwb7] at hnew HBb7 ⊢
        rw [hgb] at hnew ⊢
        have Hblkb7 := Lib.hid hnew
        clear hnew hwb7 hgb
        refine wpAnyT_all [6, 8] (by kernel_rfl) (by decide) (fun i hi => ?_)
        simp only [List.mem_cons, List.not_mem_nil, or_false] at hi
        rcases hi with rfl | rfl
        · refine ⟨_, (by rfl), fun K' hK' => ?_⟩
          rw [if_pos (by rfl)]
          have HK := Lib.hid hK'
          clear hK'
          have hcv := HC1.out _ _ Hblkb7.out
          go_simp
          refine HK.out _ _ ⟨HBb7.out, ?_⟩
          clear HK K'
          try simp only [Act.put, List.setIfInBounds_toArray, List.set_cons_zero, List.set_cons_succ]
          refine wpAnyT_one2 8 rfl (by kernel_rfl) ?_
          intro K' hK'
          rw [if_pos (by rfl)]
          have HK := Lib.hid hK'
          clear hK'
          go_wp2_with (go_at_call 35; refine (CK.out _).mono ?_; rintro eb9 wb9 ⟨rfl, hb⟩)
          have HBb9 := Lib.hid (below_then HBb7.out hb)
          have Hblkb9 := Lib.hid (blk_later Hblkb7.out hb)
          clear hb
          refine HK.out _ _ ⟨HBb9.out, ?_⟩
          clear HK K'
          try simp only [Act.put, List.setIfInBounds_toArray, List.set_cons_zero, List.set_cons_succ]
          refine wpAnyT_take2 9 (v := ?tvb10) (by kernel_rfl) rfl (by kernel_rfl) (fun _ _ _ h => h) (Or.inl ⟨by rfl, ?tyb10⟩) HBb9.out ?trb10
          case tyb10 => (intro w' hSw; (try dsimp only at hSw); go_simp; try with_reducible rfl)
          try simp only [Act.put, List.setIfInBounds_toArray, List.set_cons_zero, List.set_cons_succ]
          refine wpAnyT_take2 10 (v := ?tvb11) (by kernel_rfl) rfl (by kernel_rfl) (fun _ _ _ h => h) (Or.inl ⟨by rfl, ?tyb11⟩) HBb9.out ?trb11
          case tyb11 => (intro w' hSw; (try dsimp only at hSw); go_simp; try with_reducible rfl)
          try simp only [Act.put, List.setIfInBounds_toArray, List.set_cons_zero, List.set_cons_succ]
          refine ⟨by kernel_rfl, ?_⟩
          change wpList _ _ _ [_] _ _
          go_wp2
          refine NoPanic.normal ?_
          go_wp2
          go_roundw
          case rel => exact ⟨j + 1, by omega, by go_num, by rw [HCAT.out, HPN.out], HB.out.trans (HBb9.out.mono HB.out.size)⟩
          case measure => simp [RowKit.intOf]; omega
        · refine ⟨_, (by rfl), fun K' hK' => ?_⟩
          rw [if_pos (by rfl)]
          have HK := Lib.hid hK'
          clear hK'
          go_wp2_with (go_at_call 35; refine (CK.out _).mono ?_; rintro eb12 wb12 ⟨rfl, hb⟩)
          have HBb12 := Lib.hid (below_then HBb7.out hb)
          have Hblkb12 := Lib.hid (blk_later Hblkb7.out hb)
          clear hb
          refine HK.out _ _ ⟨HBb12.out, ?_⟩
          clear HK K'
          try simp only [Act.put, List.setIfInBounds_toArray, List.set_cons_zero, List.set_cons_succ]
          refine wpAnyT_one2 6 rfl (by kernel_rfl) ?_
          intro K' hK'
          rw [if_pos (by rfl)]
          have HK := Lib.hid hK'
          clear hK'
          have hcv := HC1.out _ _ Hblkb12.out
          go_simp
          refine HK.out _ _ ⟨HBb12.out, ?_⟩
          clear HK K'
          try simp only [Act.put, List.setIfInBounds_toArray, List.set_cons_zero, List.set_cons_succ]
          refine wpAnyT_take2 9 (v := ?tvb14) (by kernel_rfl) rfl (by kernel_rfl) (fun _ _ _ h => h) (Or.inl ⟨by rfl, ?tyb14⟩) HBb12.out ?trb14
          case tyb14 => (intro w' hSw; (try dsimp only at hSw); go_simp; try with_reducible rfl)
          try simp only [Act.put, List.setIfInBounds_toArray, List.set_cons_zero, List.set_cons_succ]
          refine wpAnyT_take2 10 (v := ?tvb15) (by kernel_rfl) rfl (by kernel_rfl) (fun _ _ _ h => h) (Or.inl ⟨by rfl, ?tyb15⟩) HBb12.out ?trb15
          case tyb15 => (intro w' hSw; (try dsimp only at hSw); go_simp; try with_reducible rfl)
          try simp only [Act.put, List.setIfInBounds_toArray, List.set_cons_zero, List.set_cons_succ]
          refine ⟨by kernel_rfl, ?_⟩
          change wpList _ _ _ [_] _ _
          go_wp2
          refine NoPanic.normal ?_
          go_wp2
          go_roundw
          case rel => exact ⟨j + 1, by omega, by go_num, by rw [HCAT.out, HPN.out], HB.out.trans (HBb12.out.mono HB.out.size)⟩
          case measure => simp [RowKit.intOf]; omega
      · refine ⟨_, (by rfl), fun K' hK' => ?_⟩
        rw [if_pos (by rfl)]
        have HK := Lib.hid hK'
        clear hK'
        go_wp2_with (go_at_call 35; refine (CK.out _).mono ?_; rintro eb16 wb16 ⟨rfl, hb⟩)
        have HBb16 := Lib.hid (below_then HBD.out hb)
        clear hb
        refine HK.out _ _ ⟨HBb16.out, ?_⟩
        clear HK K'
        try simp only [Act.put, List.setIfInBounds_toArray, List.set_cons_zero, List.set_cons_succ]
        refine wpAnyT_one2 5 rfl (by kernel_rfl) ?_
        intro K' hK'
        rw [if_pos (by rfl)]
        have HK := Lib.hid hK'
        clear hK'
        have hnew := heap_alloc_new2 wb16 (.cells #[.int .u8 (tj : Int)] 5) wb16.heap.size _ rfl
        go_simp
        have HBb17 := Lib.hid (below_alloc HBb16.out (.cells #[.int .u8 (tj : Int)] 5))
        refine HK.out _ _ ⟨HBb17.out, ?_⟩
        clear HK K'
        try simp only [Act.put, List.setIfInBounds_toArray, List.set_cons_zero, List.set_cons_succ]
        obtain ⟨wb17, hwb17⟩ : ∃ W0, wb16.alloc (.cells #[.int .u8 (tj : Int)] 5) = W0 := ⟨_, rfl⟩
        obtain ⟨gb, hgb⟩ : ∃ x, wb16.heap.size = x := ⟨_, rfl⟩
        rw [hwb17] at hnew HBb17 ⊢
        rw [hgb] at hnew ⊢
        have Hblkb17 := Lib.hid hnew
        clear hnew hwb17 hgb
        refine wpAnyT_one2 6 rfl (by kernel_rfl) ?_
        intro K' hK'
        rw [if_pos (by rfl)]
        have HK := Lib.hid hK'
        clear hK'
        have hcv := HC1.out _ _ Hblkb17.out
        go_simp
        refine HK.out _ _ ⟨HBb17.out, ?_⟩
        clear HK K'
        try simp only [Act.put, List.setIfInBounds_toArray, List.set_cons_zero, List.set_cons_succ]
        refine wpAnyT_take2 9 (v := ?tvb19) (by kernel_rfl) rfl (by kernel_rfl) (fun _ _ _ h => h) (Or.inl ⟨by rfl, ?tyb19⟩) HBb17.out ?trb19
        case tyb19 => (intro w' hSw; (try dsimp only at hSw); go_simp; try with_reducible rfl)
        try simp only [Act.put, List.setIfInBounds_toArray, List.set_cons_zero, List.set_cons_succ]
        refine wpAnyT_take2 10 (v := ?tvb20) (by kernel_rfl) rfl (by kernel_rfl) (fun _ _ _ h => h) (Or.inl ⟨by rfl, ?tyb20⟩) HBb17.out ?trb20
        case tyb20 => (intro w' hSw; (try dsimp only at hSw); go_simp; try with_reducible rfl)
        try simp only [Act.put, List.setIfInBounds_toArray, List.set_cons_zero, List.set_cons_succ]
        refine ⟨by kernel_rfl, ?_⟩
        change wpList _ _ _ [_] _ _
        go_wp2
        refine NoPanic.normal ?_
        go_wp2
        go_roundw
        case rel => exact ⟨j + 1, by omega, by go_num, by rw [HCAT.out, HPN.out], HB.out.trans (HBb17.out.mono HB.out.size)⟩
        case measure => simp [RowKit.intOf]; omega
    · obtain rfl : j = 3 := by omega
      go_wp2_with fail
      refine (HSEAL.out _).mono ?_
      rintro e w2 ⟨rfl, hb2⟩
      go_wp2_with fail
      go_ret2
      exact ⟨rfl, HB.out.trans (hb2.mono HB.out.size)⟩
end Go.Proofs.YtmiacgkidldjmaaGreatDoor
