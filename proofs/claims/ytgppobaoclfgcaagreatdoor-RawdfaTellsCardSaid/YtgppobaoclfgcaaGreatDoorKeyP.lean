/- Texts, their sizes, strconv.Itoa of any number. Conditions: the table of powers lies as laid. -/
import Derived.Test.YtgppobaoclfgcaaGreatDoorKit
import Derived.Test.YtgppobaoclfgcaaGreatDoorShelfP
import Derived.Test.YtgppobaoclfgcaaGreatDoorClassP
import Derived.ArgAppend
import Derived.Deep.QuietTactic
import Derived.Deep.CutBlock
import Derived.Deep.RegionHeld3
import Derived.Deep.RegionWith
import Derived.Deep.DeepCutAuto
import Derived.WalkSmall
set_option linter.unusedVariables false
set_option linter.unusedSimpArgs false
namespace Go.Proofs.YtgppobaoclfgcaaGreatDoor.Plain
end Go.Proofs.YtgppobaoclfgcaaGreatDoor.Plain
namespace Go.Proofs.YtgppobaoclfgcaaGreatDoor
open Go.RowKit Go.Lib
end Go.Proofs.YtgppobaoclfgcaaGreatDoor
namespace Go.Proofs.YtgppobaoclfgcaaGreatDoor.Plain
open Go.Lib (decDigits)
end Go.Proofs.YtgppobaoclfgcaaGreatDoor.Plain
namespace Go.Proofs.YtgppobaoclfgcaaGreatDoor
open Go.RowKit Go.Lib
def str (l : List UInt8) : ByteArray := ⟨l.toArray⟩
theorem str_size (l : List UInt8) : (str l).size = l.length := by simp [str, ByteArray.size]
theorem str_of (s : ByteArray) : str s.data.toList = s := rfl
theorem str_ext {a b : ByteArray} (h : a.data.toList = b.data.toList) : a = b := by rw [← str_of a, ← str_of b, h]
theorem str_app (a b : List UInt8) : str a ++ str b = str (a ++ b) := str_ext (by rw [ByteArray.data_append, Array.toList_append]; rfl)
end Go.Proofs.YtgppobaoclfgcaaGreatDoor
namespace Go.Proofs.YtgppobaoclfgcaaGreatDoor
open Go.RowKit Go.Lib
end Go.Proofs.YtgppobaoclfgcaaGreatDoor
namespace Go.Proofs.YtgppobaoclfgcaaGreatDoor
open Go.RowKit Go.Lib
theorem isb_below {gb : Nat} {bs : List Value} {w w' : World} (h : Lib.IsBuilder 128 5 gb gb bs w) (hb : Below w.heap.size w w') : Lib.IsBuilder 128 5 gb gb bs w' := by
  rcases h with ⟨h1, v, h2, h3, h4⟩ | ⟨h1, v, h2, h3, h4⟩
  · exact .inl ⟨h1, v, blk_later h2 hb, own_below h3 hb, h4⟩
  · exact .inr ⟨h1, v, blk_later h2 hb, own_below h3 hb, h4⟩
end Go.Proofs.YtgppobaoclfgcaaGreatDoor
namespace Go.Proofs.YtgppobaoclfgcaaGreatDoor.Plain
open Go.Lib (decDigits itoa nDigits)
theorem dec_len20 (n : Nat) (h : n ≤ 9223372036854775808) : (decDigits n).length ≤ 19 := by
  rw [Go.Lib.decDigits_length]
  rcases Nat.lt_or_ge n 10 with h1 | h1
  · rw [Go.Lib.nDigits_small h1]; omega
  · by_cases h2 : 19 < nDigits n
    · exfalso
      have : ∀ k m : Nat, k < nDigits m → 10 ^ k ≤ m ∨ m = 0 := by
        intro k
        induction k with
        | zero => intro m _; omega
        | succ k ih =>
          intro m hk
          by_cases hm : m < 10
          · rw [Go.Lib.nDigits_small hm] at hk; omega
          · rw [Go.Lib.nDigits_big hm] at hk
            rcases ih (m / 10) (by omega) with h | h
            · left
              rw [Nat.pow_succ]
              omega
            · omega
      rcases this 19 n h2 with h3 | h3
      · have e : (10 : Nat) ^ 19 = 10000000000000000000 := by decide
        omega
      · omega
    · omega
def I64 (n : Int) : Prop := -9223372036854775808 ≤ n ∧ n ≤ 9223372036854775807
theorem itoa_len (n : Int) (h : I64 n) : (itoa n).length ≤ 20 := by
  obtain ⟨h0, h1⟩ := h
  unfold itoa
  split
  · have := dec_len20 n.natAbs (by omega)
    rw [List.length_cons]; omega
  · have := dec_len20 n.toNat (by omega)
    omega
end Go.Proofs.YtgppobaoclfgcaaGreatDoor.Plain
namespace Go.Proofs.YtgppobaoclfgcaaGreatDoor
open Go.RowKit Go.Lib
/-- the table of powers is the document's -/
def Tp (w : World) : Prop := Lib.TabIs Tryz.prog w "internal/strconv.uint64pow10" .u64 Lib.pow10Tab
theorem Tp.below {w w' : World} (h : Tp w) (hb : Below w.heap.size w w') : Tp w' := by
  unfold Tp Lib.TabIs at h ⊢
  obtain ⟨g, hg⟩ : ∃ g, Tryz.prog.globalNamed "internal/strconv.uint64pow10" = some g := by
    cases hq : Tryz.prog.globalNamed "internal/strconv.uint64pow10" with
    | none => unfold World.var? at h; rw [hq] at h; simp at h
    | some g => exact ⟨g, rfl⟩
  refine var?_below hb hg ?_ h
  unfold World.var? at h
  rw [hg] at h
  simp only [Option.bind_some] at h
  cases hq : w.heap[g]? with
  | none => rw [hq] at h; simp at h
  | some c => exact lt_of_some hq
theorem below_grow {w0 w : World} (h : Below w0.heap.size w0 w) (os : Array Obj) : Below w0.heap.size w0 (Go.Sort.grow w os) := by
  refine h.trans ⟨rfl, rfl, rfl, by unfold Go.Sort.grow; simp, fun k hk => ?_⟩
  show (w.heap ++ os)[k]? = w.heap[k]?
  rw [Array.getElem?_append_left (by have := h.size; omega)]
theorem itoag (n : Int) (hn : Plain.I64 n) (w : World) (hT : Tp w) : Calls Tryz.prog 63 #[.int .i64 n] w fun e w' => e = .returned (.string (str (itoa n))) ∧ Below w.heap.size w w' := by
  refine (Tryz.strconv_Itoa n hn.1 hn.2 w hT).mono ?_
  rintro e w' ⟨rfl, k, os, rfl⟩
  exact ⟨rfl, below_grow (below_drewN (Below.refl _ _) _) os⟩
end Go.Proofs.YtgppobaoclfgcaaGreatDoor
