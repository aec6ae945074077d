/- next, Asserts, line, put: what the code computes. Conditions: what each lemma says. -/
import Derived.Test.YtpeheppiolfpfaaDoorCodeA
import Derived.Test.YtpeheppiolfpfaaDoorShelfP
import Derived.ArgAppend
import Derived.Deep.QuietTactic
import Derived.Deep.CutBlock
set_option linter.unusedVariables false
set_option linter.unusedSimpArgs false
namespace Go.Proofs.YtpeheppiolfpfaaDoor.Plain
/-- where an instruction goes to -/
def nextL (t : In4) : List Int := if t.1 = 2 then [t.2.1, t.2.2.1] else if t.1 = 1 ∨ t.1 = 3 ∨ t.1 = 4 ∨ t.1 = 5 then [t.2.1] else []
theorem nextL_len (t : In4) : (nextL t).length ≤ 2 := by unfold nextL; split <;> (try split) <;> simp
/-- a place is reached -/
def Rch (L : List In4) (k : Nat) : Prop := k < L.length ∧ ∀ S : Nat → Prop, S 0 → (∀ a m : Nat, a < L.length → S a → m < L.length → (m : Int) ∈ nextL (L.getD a (0, 0, 0, 0)) → S m) → S k
theorem Rch.zero {L : List In4} (h : 0 < L.length) : Rch L 0 := ⟨h, fun _ h0 _ => h0⟩
theorem Rch.step {L : List In4} {a m : Nat} (h : Rch L a) (hm : m < L.length) (hn : (m : Int) ∈ nextL (L.getD a (0, 0, 0, 0))) : Rch L m := ⟨hm, fun S h0 hs => hs a m h.1 (h.2 S h0 hs) hm hn⟩
def cntA (L : List In4) : Nat := L.countP fun t => decide (t.1 = 5)
theorem cntA_take (L : List In4) (k : Nat) (h : k < L.length) : cntA (L.take (k + 1)) = cntA (L.take k) + if L[k].1 = 5 then 1 else 0 := by
  unfold cntA
  rw [List.take_succ_eq_append_getElem h, List.countP_append]
  by_cases h5 : L[k].1 = 5 <;> simp [h5]
theorem cntA_le (L : List In4) : cntA L ≤ L.length := List.countP_le_length
end Go.Proofs.YtpeheppiolfpfaaDoor.Plain
namespace Go.Proofs.YtpeheppiolfpfaaDoor
open Go.RowKit Go.Lib
open Plain (Rg May mayB In Norm In4 slotsOf insB bnd riB cls cnot rightB normB nextL Rch cntA)
def NextRes (t : In4) (w : World) (e : Ending) (w' : World) : Prop :=
  Below w.heap.size w w' ∧ ((nextL t = [] ∧ e = .returned (.slice none 0 0)) ∨ ∃ g, nextL t ≠ [] ∧ e = .returned (.slice (some ⟨g, 0, none⟩) (nextL t).length (nextL t).length) ∧ CellsAt w' g (i64s (nextL t)))
set_option maxRecDepth 100000 in
set_option maxHeartbeats 1000000 in
theorem next_any (t : In4) (w : World) : Calls Tryd.prog 29 #[i4V t] w (NextRes t w) := by
  obtain ⟨op, x, y, a⟩ := t
  unfold i4V
  dsimp only
  have hb := (Below.refl w.heap.size w).alloc (Nat.le_refl _) (.cells #[.int .i64 op, .int .i64 x, .int .i64 y, .int .i64 a] 30)
  by_cases h2 : op = 2
  · subst h2
    go_enter Tryd.func29, Tryd.ntmps29
    go_wp2
    go_ret
    exact ⟨hb.alloc (by simp) _, .inr ⟨w.heap.size + 1, by simp [nextL], by simp [nextL], CellsAt.at_size (by simp) _ _⟩⟩
  · have e2 : (op == 2) = false := by simp [h2]
    by_cases h1 : op = 1 ∨ op = 3 ∨ op = 4 ∨ op = 5
    · have hn : nextL (op, x, y, a) = [x] := by unfold nextL; rw [if_neg h2, if_pos h1]
      rcases h1 with rfl | rfl | rfl | rfl
      all_goals
        go_enter Tryd.func29, Tryd.ntmps29
        go_wp2
        go_ret
        exact ⟨hb.alloc (by simp) _, .inr ⟨w.heap.size + 1, by rw [hn]; simp, by rw [hn]; rfl, by rw [hn]; exact CellsAt.at_size (by simp) _ _⟩⟩
    · have e1 : (op == 1) = false := by simp; omega
      have e3 : (op == 3) = false := by simp; omega
      have e4 : (op == 4) = false := by simp; omega
      have e5 : (op == 5) = false := by simp; omega
      have hn : nextL (op, x, y, a) = [] := by unfold nextL; rw [if_neg h2, if_neg h1]
      have HN := Lib.hid hn
      clear hn
      go_enter Tryd.func29, Tryd.ntmps29
      go_wp2
      go_ret
      exact ⟨hb, .inl ⟨HN.out, rfl⟩⟩
set_option maxRecDepth 100000 in
set_option maxHeartbeats 1000000 in
theorem asserts_any (I C : Option Addr) (L : List In4) (K : List Cs) (c d : Nat) (g : Int) (w : World) (hP : PgAt w I L C K) :
    Calls Tryd.prog 22 #[pgV I L.length c C K.length d g] w fun e w' => e = .returned (.int .i64 (cntA L : Int)) ∧ Below w.heap.size w w' := by
  obtain ⟨n, hN⟩ : ∃ n, L.length = n := ⟨_, rfl⟩
  obtain ⟨m, hM⟩ : ∃ m, K.length = m := ⟨_, rfl⟩
  have hn := hP.li
  rw [hN] at hn ⊢
  rw [hM]
  unfold maxLen at hn
  unfold pgV
  have HI := Lib.hid hP.insts
  have HN := Lib.hid hN
  clear hP hN hM
  go_enter Tryd.func22, Tryd.ntmps22
  go_wp2
  go_loopw [3, 9] (fun s i wr => ∃ k : Nat, k ≤ n ∧ i = .int .i64 k ∧ s = .int .i64 (cntA (L.take k) : Int) ∧ RowKit.Below w.heap.size w wr) (fun _ i _ => n - (RowKit.intOf i).toNat)
  case atStart => exact ⟨0, Nat.zero_le _, rfl, rfl, (RowKit.Below.refl _ _).alloc (Nat.le_refl _) _⟩
  case round =>
    obtain ⟨k, hk, rfl, rfl, hB⟩ := hrel
    by_cases hlt : k < n
    · have hk1 : k < L.length := by rw [HN.out]; exact hlt
      obtain ⟨b, off, rfl, hbb, c0, c1, c2, c3⟩ := i4_at (HI.out.below hB) k hk1
      have hs := Plain.cntA_take L k hk1
      have hle := Plain.cntA_le (L.take k)
      have hle2 : (L.take k).length ≤ k := List.length_take_le _ _
      obtain ⟨cn, hcn⟩ : ∃ cn, cntA (L.take k) = cn := ⟨_, rfl⟩
      rw [hcn] at hs hle ⊢
      obtain ⟨⟨o, x, y, a⟩, ht⟩ : ∃ t, L[k] = t := ⟨_, rfl⟩
      rw [ht] at c0 c1 c2 c3 hs
      dsimp only at c0 c1 c2 c3 hs
      have hcb : cn ≤ k := by omega
      have HS := Lib.hid hs
      have HB := Lib.hid hB
      have g0 : (0 : Int) ≤ (k : Int) := by omega
      have g1 : (k : Int) < (n : Int) := by omega
      clear hs hB hle hle2 hcn ht
      by_cases h5 : o = 5
      · subst h5
        go_wp2
        go_roundw
        case rel => exact ⟨k + 1, by omega, by go_num, by rw [HS.out]; simp, HB.out.alloc HB.out.size _⟩
        case measure => simp [RowKit.intOf]; omega
      · have e5 : (o == 5) = false := by simp [h5]
        go_wp2
        go_roundw
        case rel => exact ⟨k + 1, by omega, by go_num, by rw [HS.out]; simp [h5], HB.out.alloc HB.out.size _⟩
        case measure => simp [RowKit.intOf]; omega
    · obtain rfl : n = k := by omega
      have HB := Lib.hid hB
      clear hB
      go_wp2
      go_ret
      exact ⟨ret_int (by rw [List.take_of_length_le (by rw [HN.out]; omega)]), HB.out⟩
end Go.Proofs.YtpeheppiolfpfaaDoor
namespace Go.Proofs.YtpeheppiolfpfaaDoor.Plain
open Go.Lib (decDigits)
theorem dec_len (n : Nat) (h : n < 100) : (decDigits n).length ≤ 2 ∧ 1 ≤ (decDigits n).length := by
  unfold decDigits
  split
  · simp
  · unfold decDigits
    rw [dif_pos (by omega)]
    simp
def lineL (w : List UInt8) (ns : List Nat) : List UInt8 := w ++ ns.flatMap fun n => 32 :: decDigits n
def small (t : In4) : Prop := (0 ≤ t.1 ∧ t.1 < 100) ∧ (0 ≤ t.2.1 ∧ t.2.1 < 100) ∧ (0 ≤ t.2.2.1 ∧ t.2.2.1 < 100) ∧ 0 ≤ t.2.2.2 ∧ t.2.2.2 < 100
/-- an instruction as it is read -/
def putL (t : In4) : List UInt8 :=
  if t.1 = 0 then [109, 97, 116, 99, 104] else if t.1 = 1 then lineL [111, 110, 101] [t.2.2.2.toNat, t.2.1.toNat] else if t.1 = 2 then lineL [115, 112, 108, 105, 116] [t.2.1.toNat, t.2.2.1.toNat]
  else if t.1 = 3 then lineL [106, 117, 109, 112] [t.2.1.toNat] else if t.1 = 4 then lineL [115, 97, 118, 101] [t.2.2.2.toNat, t.2.1.toNat] else if t.1 = 5 then lineL [97, 115, 115, 101, 114, 116] [t.2.2.2.toNat, t.2.1.toNat] else [110, 111, 110, 101]
theorem line_len (w : List UInt8) : ∀ (ns : List Nat), (∀ n ∈ ns, n < 100) → (lineL w ns).length ≤ w.length + 3 * ns.length := by
  intro ns
  induction ns with
  | nil => intro _; simp [lineL]
  | cons n ns ih =>
    intro h
    have h1 := ih fun m hm => h m (by simp [hm])
    have h2 := (dec_len n (h n (by simp))).1
    unfold lineL at h1 ⊢
    simp only [List.flatMap_cons, List.length_append, List.length_cons] at h1 ⊢
    omega
theorem line_snoc (w : List UInt8) (ns : List Nat) (n : Nat) : lineL w (ns ++ [n]) = lineL w ns ++ (32 :: decDigits n) := by
  unfold lineL; rw [List.flatMap_append]; simp
theorem putL_len (t : In4) (h : small t) : (putL t).length ≤ 12 := by
  obtain ⟨h1, h2, h3, h4⟩ := h
  have e : ∀ a b : Nat, a < 100 → b < 100 → ∀ n ∈ [a, b], n < 100 := fun a b ha hb n hn => by simp at hn; omega
  have e1 : ∀ a : Nat, a < 100 → ∀ n ∈ [a], n < 100 := fun a ha n hn => by simp at hn; omega
  unfold putL
  split
  · simp
  split
  · have := line_len [111, 110, 101] _ (e t.2.2.2.toNat t.2.1.toNat (by omega) (by omega)); simp at this; omega
  split
  · have := line_len [115, 112, 108, 105, 116] _ (e t.2.1.toNat t.2.2.1.toNat (by omega) (by omega)); simp at this; omega
  split
  · have := line_len [106, 117, 109, 112] _ (e1 t.2.1.toNat (by omega)); simp at this; omega
  split
  · have := line_len [115, 97, 118, 101] _ (e t.2.2.2.toNat t.2.1.toNat (by omega) (by omega)); simp at this; omega
  split
  · have := line_len [97, 115, 115, 101, 114, 116] _ (e t.2.2.2.toNat t.2.1.toNat (by omega) (by omega)); simp at this; omega
  · simp
end Go.Proofs.YtpeheppiolfpfaaDoor.Plain
namespace Go.Proofs.YtpeheppiolfpfaaDoor
open Go.RowKit Go.Lib
open Plain (Rg May mayB In Norm In4 slotsOf insB bnd riB cls cnot rightB normB nextL Rch cntA lineL putL small)
def str (l : List UInt8) : ByteArray := ⟨l.toArray⟩
theorem str_size (l : List UInt8) : (str l).size = l.length := by simp [str, ByteArray.size]
theorem str_list (l : List UInt8) : (str l).data.toList = l := rfl
theorem str_of (s : ByteArray) : str s.data.toList = s := rfl
theorem str_ext {a b : ByteArray} (h : a.data.toList = b.data.toList) : a = b := by rw [← str_of a, ← str_of b, h]
theorem str_app (a b : List UInt8) : str a ++ str b = str (a ++ b) := str_ext (by rw [ByteArray.data_append, Array.toList_append]; rfl)
theorem itoa_s (i : Nat) (hi : i < 100) (w : World) : Calls Tryd.prog 43 #[.int .i64 i] w fun e w' => e = .returned (.string (str (decDigits i))) ∧ w' = w := Tryd.strconv_Itoa_small i hi w
def i64n (ns : List Nat) : List Value := ns.map fun (n : Nat) => Value.int .i64 (n : Int)
set_option maxRecDepth 100000 in
set_option maxHeartbeats 1000000 in
theorem line_any (wd : List UInt8) (ns : List Nat) (A : Option Addr) (c : Nat) (w : World) (hX : Sl w A (i64n ns)) (hs : ∀ n ∈ ns, n < 100) (hn : ns.length ≤ 10) (hw : wd.length ≤ 10) :
    Calls Tryd.prog 56 #[.string (str wd), .slice A ns.length c] w fun e w' => e = .returned (.string (str (lineL wd ns))) ∧ w' = w := by
  obtain ⟨n, hN⟩ : ∃ n, ns.length = n := ⟨_, rfl⟩
  rw [hN] at hn ⊢
  have HX := Lib.hid hX
  have HS := Lib.hid hs
  have HN := Lib.hid hN
  have HI := Lib.hid (fun i hi (W : World) => itoa_s i hi W)
  clear hX hs hN
  have hst : str wd = str (lineL wd (ns.take 0)) := by simp [lineL]
  rw [hst]
  go_enter Tryd.func56, Tryd.ntmps56
  go_wp2
  go_loop [0, 9] (fun s i => ∃ k : Nat, k ≤ n ∧ i = .int .i64 k ∧ s = .string (str (lineL wd (ns.take k)))) (fun _ i => n - (RowKit.intOf i).toNat)
  case atStart => exact ⟨0, Nat.zero_le _, rfl, rfl⟩
  case round =>
    obtain ⟨k, hk, rfl, rfl⟩ := hrel
    by_cases hlt : k < n
    · have hk1 : k < ns.length := by rw [HN.out]; exact hlt
      obtain ⟨b, off, rfl, hb, hc⟩ := HX.out (by rw [i64n, List.length_map]; omega)
      have c0 := hc k _ (by rw [i64n, List.getElem?_map, List.getElem?_eq_getElem hk1]; rfl)
      have hsn := HS.out ns[k] (List.getElem_mem hk1)
      have hnx : lineL wd (ns.take (k + 1)) = lineL wd (ns.take k) ++ (32 :: decDigits ns[k]) := by rw [List.take_succ_eq_append_getElem hk1, Plain.line_snoc]
      obtain ⟨x, hx⟩ : ∃ x, ns[k] = x := ⟨_, rfl⟩
      rw [hx] at c0 hsn hnx
      obtain ⟨l, hl⟩ : ∃ l, lineL wd (ns.take k) = l := ⟨_, rfl⟩
      have hll := Plain.line_len wd (ns.take k) (fun m hm => HS.out m (List.mem_of_mem_take hm))
      have htl : (ns.take k).length ≤ k := List.length_take_le _ _
      rw [hl] at hnx hll ⊢
      have hq : str l ++ (⟨#[32]⟩ ++ str (decDigits x)) = str (l ++ (32 :: decDigits x)) := by
        rw [show (⟨#[32]⟩ : ByteArray) = str [32] from rfl, str_app, str_app]; rfl
      have hd := (Plain.dec_len x hsn).1
      have z1 : (str (decDigits x)).size ≤ 2 := by rw [str_size]; exact hd
      have z2 : (str l).size ≤ 40 := by rw [str_size]; omega
      have z3 : (⟨#[32]⟩ ++ str (decDigits x) : ByteArray).size ≤ 3 := by rw [ByteArray.size_append]; show 1 + _ ≤ 3; omega
      have g1 : ¬ (9223372036854775807 < 1 + (str (decDigits x)).size) := by omega
      have g2 : ¬ (9223372036854775807 < (str l).size + (⟨#[32]⟩ ++ str (decDigits x) : ByteArray).size) := by omega
      have g3 : ¬ (9223372036854775807 < (str l).size + (1 + (str (decDigits x)).size)) := by omega
      have HNX := Lib.hid hnx
      have HQ := Lib.hid hq
      have i0 : (0 : Int) ≤ (k : Int) := by omega
      have i1 : (k : Int) < (n : Int) := by omega
      clear hnx hq hx hl hc hll htl
      go_wp2_with fail
      refine (HI.out x hsn _).mono ?_
      rintro e w1 ⟨rfl, rfl⟩
      go_wp2
      go_round
      case rel => exact ⟨k + 1, by omega, by go_num, by rw [HNX.out, HQ.out]⟩
      case measure => simp [RowKit.intOf]; omega
    · obtain rfl : n = k := by omega
      go_wp2
      go_ret
      exact ⟨ret_str (by rw [List.take_of_length_le (by rw [HN.out]; omega)]), rfl⟩
end Go.Proofs.YtpeheppiolfpfaaDoor
namespace Go.Proofs.YtpeheppiolfpfaaDoor
open Go.RowKit Go.Lib
open Plain (Rg May mayB In Norm In4 slotsOf insB bnd riB cls cnot rightB normB nextL Rch cntA lineL putL small)
set_option maxRecDepth 100000 in
set_option maxHeartbeats 4000000 in
theorem put_any (t : In4) (w : World) (hs : small t) : Calls Tryd.prog 44 #[i4V t] w fun e w' => e = .returned (.string (str (putL t))) ∧ Below w.heap.size w w' := by
  obtain ⟨op, x, y, a⟩ := t
  obtain ⟨⟨o0, o1⟩, ⟨x0, x1⟩, ⟨y0, y1⟩, a0, a1⟩ := hs
  dsimp only at o0 o1 x0 x1 y0 y1 a0 a1
  obtain ⟨x, rfl⟩ := Int.eq_ofNat_of_zero_le x0
  obtain ⟨y, rfl⟩ := Int.eq_ofNat_of_zero_le y0
  obtain ⟨a, rfl⟩ := Int.eq_ofNat_of_zero_le a0
  unfold i4V
  dsimp only
  have hb := (Below.refl w.heap.size w).alloc (Nat.le_refl _) (.cells #[.int .i64 op, .int .i64 x, .int .i64 y, .int .i64 a] 30)
  have HB := Lib.hid hb
  have C2 := Lib.hid (fun (wd : List UInt8) (hw : wd.length ≤ 10) (p q : Nat) (hp : p < 100) (hq : q < 100) (W : World) (g : Nat) (hc : CellsAt W g (i64n [p, q])) => line_any wd [p, q] (some ⟨g, 0, none⟩) 2 W (Sl.of_cells hc) (fun n hn => by simp at hn; omega) (by simp) hw)
  have C1 := Lib.hid (fun (wd : List UInt8) (hw : wd.length ≤ 10) (p : Nat) (hp : p < 100) (W : World) (g : Nat) (hc : CellsAt W g (i64n [p])) => line_any wd [p] (some ⟨g, 0, none⟩) 1 W (Sl.of_cells hc) (fun n hn => by simp at hn; omega) (by simp) hw)
  clear hb
  by_cases h0 : op = 0
  · subst h0
    go_enter Tryd.func44, Tryd.ntmps44
    go_wp2_with fail
    go_ret
    exact ⟨ret_str rfl, HB.out⟩
  by_cases h1 : op = 1
  · subst h1
    go_enter Tryd.func44, Tryd.ntmps44
    go_wp2_with fail
    refine (C2.out [111, 110, 101] (by decide) a x (by omega) (by omega) _ (w.heap.size + 1) (CellsAt.at_size (by simp) _ _)).mono ?_
    rintro e w1 ⟨rfl, rfl⟩
    go_wp2_with fail
    go_ret
    exact ⟨ret_str rfl, HB.out.alloc (by simp) _⟩
  by_cases h2 : op = 2
  · subst h2
    go_enter Tryd.func44, Tryd.ntmps44
    go_wp2_with fail
    refine (C2.out [115, 112, 108, 105, 116] (by decide) x y (by omega) (by omega) _ (w.heap.size + 1) (CellsAt.at_size (by simp) _ _)).mono ?_
    rintro e w1 ⟨rfl, rfl⟩
    go_wp2_with fail
    go_ret
    exact ⟨ret_str rfl, HB.out.alloc (by simp) _⟩
  by_cases h3 : op = 3
  · subst h3
    go_enter Tryd.func44, Tryd.ntmps44
    go_wp2_with fail
    refine (C1.out [106, 117, 109, 112] (by decide) x (by omega) _ (w.heap.size + 1) (CellsAt.at_size (by simp) _ _)).mono ?_
    rintro e w1 ⟨rfl, rfl⟩
    go_wp2_with fail
    go_ret
    exact ⟨ret_str rfl, HB.out.alloc (by simp) _⟩
  by_cases h4 : op = 4
  · subst h4
    go_enter Tryd.func44, Tryd.ntmps44
    go_wp2_with fail
    refine (C2.out [115, 97, 118, 101] (by decide) a x (by omega) (by omega) _ (w.heap.size + 1) (CellsAt.at_size (by simp) _ _)).mono ?_
    rintro e w1 ⟨rfl, rfl⟩
    go_wp2_with fail
    go_ret
    exact ⟨ret_str rfl, HB.out.alloc (by simp) _⟩
  by_cases h5 : op = 5
  · subst h5
    go_enter Tryd.func44, Tryd.ntmps44
    go_wp2_with fail
    refine (C2.out [97, 115, 115, 101, 114, 116] (by decide) a x (by omega) (by omega) _ (w.heap.size + 1) (CellsAt.at_size (by simp) _ _)).mono ?_
    rintro e w1 ⟨rfl, rfl⟩
    go_wp2_with fail
    go_ret
    exact ⟨ret_str rfl, HB.out.alloc (by simp) _⟩
  · have e0 : (op == 0) = false := by simp [h0]
    have e1 : (op == 1) = false := by simp [h1]
    have e2 : (op == 2) = false := by simp [h2]
    have e3 : (op == 3) = false := by simp [h3]
    have e4 : (op == 4) = false := by simp [h4]
    have e5 : (op == 5) = false := by simp [h5]
    have hl : putL (op, (x : Int), (y : Int), (a : Int)) = [110, 111, 110, 101] := by unfold putL; rw [if_neg h0, if_neg h1, if_neg h2, if_neg h3, if_neg h4, if_neg h5]
    have HL := Lib.hid hl
    clear hl
    go_enter Tryd.func44, Tryd.ntmps44
    go_wp2_with fail
    go_ret
    exact ⟨ret_str (by rw [HL.out]; rfl), HB.out⟩
/-- a program as it is read, from a line on -/
def putsL (L : List In4) (k : Nat) : List UInt8 := (List.range k).flatMap fun i => decDigits i ++ (32 :: putL (L.getD i (0, 0, 0, 0)) ++ [10])
theorem putsL_succ (L : List In4) (k : Nat) : putsL L (k + 1) = putsL L k ++ (decDigits k ++ (32 :: putL (L.getD k (0, 0, 0, 0)) ++ [10])) := by
  unfold putsL; rw [List.range_succ, List.flatMap_append]; simp
end Go.Proofs.YtpeheppiolfpfaaDoor
