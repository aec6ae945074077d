/- The walk of the text of few runes, and words on bytes and cells. Conditions: none but what each theorem says. -/
import Derived.Test.YtjkialgdaikijaaDoorWalksB
import Derived.WalkKit
import Derived.WalkLawsBesides
import Derived.WalkSpells
namespace Go.Proofs.YtjkialgdaikijaaDoor
open Go.RowKit Go.Lib
theorem encode_list (r : Int) : (Utf8.encode r).data.toList = encodeRune r := by
  by_cases hv : (0 ≤ r ∧ r < 55296) ∨ (57344 ≤ r ∧ r ≤ 1114111)
  · have hvalid : Utf8.valid r = true := by unfold Utf8.valid; simp; omega
    obtain ⟨n, rfl⟩ : ∃ n : Nat, r = n := ⟨r.toNat, by omega⟩
    unfold Utf8.encode encodeRune
    simp only [hvalid, if_true, Int.toNat_natCast]
    rcases (by omega : n ≤ 127 ∨ (128 ≤ n ∧ n ≤ 2047) ∨ (2048 ≤ n ∧ n ≤ 65535) ∨ 65536 ≤ n) with h | ⟨h, h'⟩ | ⟨h, h'⟩ | h
    · rw [if_pos (by omega), encodeRuneZ_one (by omega) (by omega)]
      simp
    · rw [if_neg (by omega), if_pos (by omega), encodeRuneZ_two (by omega) (by omega)]
      simp only [List.map_cons, List.map_nil]
      rw [show (192 + (n : Int) / 64).toNat = 192 + n / 64 from by omega, show (128 + (n : Int) % 64).toNat = 128 + n % 64 from by omega]
    · rw [if_neg (by omega), if_neg (by omega), if_pos (by omega), encodeRuneZ_three (by omega)]
      simp only [List.map_cons, List.map_nil]
      rw [show (224 + (n : Int) / 4096).toNat = 224 + n / 4096 from by omega, show (128 + (n : Int) / 64 % 64).toNat = 128 + n / 64 % 64 from by omega, show (128 + (n : Int) % 64).toNat = 128 + n % 64 from by omega]
    · rw [if_neg (by omega), if_neg (by omega), if_neg (by omega), encodeRuneZ_four (by omega) (by omega)]
      simp only [List.map_cons, List.map_nil]
      rw [show (240 + (n : Int) / 262144).toNat = 240 + n / 262144 from by omega, show (128 + (n : Int) / 4096 % 64).toNat = 128 + n / 4096 % 64 from by omega, show (128 + (n : Int) / 64 % 64).toNat = 128 + n / 64 % 64 from by omega, show (128 + (n : Int) % 64).toNat = 128 + n % 64 from by omega]
  · have hvalid : Utf8.valid r = false := by rw [← Bool.not_eq_true]; unfold Utf8.valid; simp; omega
    unfold Utf8.encode encodeRune
    rw [encodeRuneZ_bad (by omega)]
    simp only [hvalid, Bool.false_eq_true, if_false]
    decide +kernel
theorem ba_eq {a b : ByteArray} (h : a.data.toList = b.data.toList) : a = b := by
  cases a; cases b; congr 1; exact Array.toList_inj.1 h
theorem rcell_at : ∀ (L : List Plain.Rn) (k : Nat) (h : k < L.length) (j : Nat), j < 3 → (L.flatMap rcells)[k * 3 + j]? = (rcells L[k])[j]?
  | x :: L, 0, _, j, hj => by
    rw [List.flatMap_cons, List.getElem?_append_left (by simp [rcells]; omega)]; simp
  | x :: L, k + 1, h, j, hj => by
    rw [List.flatMap_cons, List.getElem?_append_right (by simp [rcells]; omega), List.getElem_cons_succ, ← rcell_at L k (by simpa using h) j hj]
    congr 1
    simp [rcells]; omega
theorem ret_str {a b : ByteArray} (h : a = b) : Ending.returned (.string a) = .returned (.string b) := by rw [h]
/-- a slice of bytes that came in: what its first n cells hold -/
def Bts (w : World) (A : Option Addr) (n : Nat) (X : Nat → Int) : Prop :=
  (0 < n → ∃ b off, A = some ⟨b, off, none⟩ ∧ b < w.heap.size ∧ ∀ i, i < n → w.cell? ⟨b, off + i, none⟩ = some (.int .u8 (X i))) ∧ ∀ i, i < n → 0 ≤ X i ∧ X i < 256
theorem Bts.below {w w' : World} {A : Option Addr} {n : Nat} {X : Nat → Int} (h : Bts w A n X) (hb : Below w.heap.size w w') : Bts w' A n X :=
  ⟨fun hn => by
    obtain ⟨b, off, e, hl, hc⟩ := h.1 hn
    exact ⟨b, off, e, Nat.lt_of_lt_of_le hl hb.size, fun i hi => (hb.cell (p := ⟨b, off + i, none⟩) hl).trans (hc i hi)⟩, h.2⟩
def partsB : List ByteArray := [⟨#[97]⟩, ⟨#[98]⟩, ⟨#[99]⟩, ⟨#[95]⟩, ⟨#[32]⟩, ⟨#[10]⟩, ⟨#[55]⟩, ⟨#[195, 169]⟩, ⟨#[226, 130, 172]⟩, ⟨#[240, 159, 152, 128]⟩, ⟨#[255]⟩, ⟨#[195]⟩, ⟨#[226, 130]⟩, ⟨#[237, 160, 128]⟩, ⟨#[192, 128]⟩, ⟨#[244, 144, 128, 128]⟩, ⟨#[239, 191, 189]⟩, ⟨#[90]⟩]
def part (x : Int) : ByteArray := partsB.getD (x % 18).toNat ByteArray.empty
theorem part_le (x : Int) : (part x).size ≤ 4 := by
  have h : ∀ i, i < 18 → (partsB.getD i ByteArray.empty).size ≤ 4 := by decide
  exact h _ (by omega)
/-- the text of runes by its numbers -/
def txt (X : Nat → Int) : Nat → ByteArray
  | 0 => ⟨#[]⟩
  | k + 1 => txt X k ++ part (X k)
theorem txt_le (X : Nat → Int) (k : Nat) : (txt X k).size ≤ 4 * k := by
  induction k with
  | zero => exact Nat.le_refl _
  | succ k ih => rw [txt, ByteArray.size_append]; have := part_le (X k); omega
set_option maxRecDepth 100000 in
set_option maxHeartbeats 400000 in
theorem text_any (A : Option Addr) (n cap : Nat) (X : Nat → Int) (w : World) (hX : Bts w A n X) (hn : n ≤ maxLen) :
    Calls Tryd.prog 9 #[.slice A n cap] w fun e w' => e = .returned (.string (txt X (min n 24))) ∧ Below w.heap.size w w' := by
  unfold maxLen at hn
  have HX := Lib.hid hX
  clear hX
  go_enter Tryd.func9, Tryd.ntmps9
  go_wp2
  go_loop [4, 5] (fun s i => ∃ k : Nat, k ≤ min n 24 ∧ i = .int .i64 k ∧ s = .string (txt X k)) (fun _ i => 24 - (RowKit.intOf i).toNat)
  case atStart => exact ⟨0, Nat.zero_le _, rfl, rfl⟩
  case round =>
    obtain ⟨k, hk, rfl, rfl⟩ := hrel
    have hl := txt_le X k
    have hB : Below w.heap.size w (w.alloc (.cells (partsB.map Value.string).toArray 9)) := (Below.refl _ _).alloc (Nat.le_refl _) _
    by_cases hlt : k < n
    · by_cases h24 : k < 24
      · obtain ⟨b, off, rfl, hb, hc⟩ := (HX.out.below hB).1 (by omega)
        obtain ⟨x0, x1⟩ := HX.out.2 k hlt
        have hck := hc k hlt
        have hstep : txt X (k + 1) = txt X k ++ part (X k) := rfl
        have hpl := part_le (X k)
        obtain ⟨j, hj, hj18⟩ : ∃ j : Nat, X k % 18 = (j : Int) ∧ j < 18 := ⟨(X k % 18).toNat, by omega, by omega⟩
        have hpt : (w.alloc (.cells (partsB.map Value.string).toArray 9)).cell? ⟨w.heap.size, j, none⟩ = some (.string (part (X k))) := by
          rw [cell_of_row _ _ _ _ _ _ (heap_alloc_new _ _)]
          unfold part
          rw [hj, Int.toNat_natCast]
          have : j < partsB.length := hj18
          simp [List.getD, this]
        generalize part (X k) = q at *
        generalize X k = x at *
        simp only [partsB, List.map_cons, List.map_nil] at hck hpt
        have HS := Lib.hid hstep
        clear hstep hc hB
        go_wp2
        go_round
        case rel => exact ⟨k + 1, by omega, by go_num, by rw [HS.out]⟩
        case measure => simp [RowKit.intOf]; omega
      · obtain rfl : k = 24 := by omega
        have hm : txt X (min n 24) = txt X 24 := by rw [show min n 24 = 24 from by omega]
        have HM := Lib.hid hm
        clear hm hB hl
        go_wp2
        go_ret
        exact ⟨ret_str HM.out.symm, (Below.refl _ _).alloc (Nat.le_refl _) _⟩
    · obtain rfl : n = k := by omega
      have hm : txt X (min n 24) = txt X n := by rw [show min n 24 = n from by omega]
      have HM := Lib.hid hm
      clear hm hB hl
      go_wp2
      go_ret
      exact ⟨ret_str HM.out.symm, (Below.refl _ _).alloc (Nat.le_refl _) _⟩
end Go.Proofs.YtjkialgdaikijaaDoor
