/- the law's examples, parts that rise -/
import Derived.Test.YtoamjlnmpklcdaaOf
import Derived.Test.YtoamjlnmpklcdaaShelf
import Derived.Deep.RegionHeld3
import Derived.Deep.QuietTactic
import Derived.Deep.Cut
import Derived.Deep.DeepCutAuto
import Derived.Laws.AppendOwnNone
set_option linter.unusedVariables false
set_option linter.unusedSimpArgs false
namespace Go.Proofs.Ytoamjlnmpklcdaa.Plain
/-- parts that begin at nought and rise -/
structure Up (P : List Int) : Prop where
  pos : 0 < P.length
  nought : P.getD 0 0 = 0
  rise : ∀ a b, a < b → b < P.length → P.getD a 0 < P.getD b 0
theorem Up.one : Up [0] := ⟨by decide, rfl, fun a b hab hb => by simp at hb; omega⟩
theorem getD_app (P : List Int) (v : Int) (a : Nat) (h : a < P.length) : (P ++ [v]).getD a 0 = P.getD a 0 := by
  rw [List.getD_eq_getElem?_getD, List.getD_eq_getElem?_getD, List.getElem?_append_left h]
theorem getD_end (P : List Int) (v : Int) : (P ++ [v]).getD P.length 0 = v := by
  rw [List.getD_eq_getElem?_getD, List.getElem?_append_right (Nat.le_refl _), Nat.sub_self]; rfl
theorem Up.snoc {P : List Int} {k : Nat} {v : Int} (h : Up P) (hk : P.length = k + 1) (hv : P.getD k 0 < v) : Up (P ++ [v]) := by
  refine ⟨by simp, by rw [getD_app _ _ _ h.pos]; exact h.nought, fun a b hab hb => ?_⟩
  rw [List.length_append] at hb
  simp only [List.length_cons, List.length_nil] at hb
  have ha : a < P.length := by omega
  rw [getD_app _ _ _ ha]
  rcases Nat.lt_or_ge b P.length with h1 | h1
  · rw [getD_app _ _ _ h1]; exact h.rise a b hab h1
  · obtain rfl : b = P.length := by omega
    rw [getD_end]
    rcases Nat.eq_or_lt_of_le (show a ≤ k by omega) with e | e
    · subst e; exact hv
    · have := h.rise a k e (by omega); omega
theorem Up.right {P : List Int} {k : Nat} (h : Up P) (hk : P.length = k + 1) (h64 : k + 1 ≤ 64) (hl : P.getD k 0 ≤ 1114111) : partsRight P = true := by
  unfold partsRight
  rw [hk, h.nought, show k + 1 - 1 = k by omega]
  have h1 : ((k + 1 : Nat) == 0) = false := by simp
  have h2 : (List.range k).all (fun j => decide (P.getD j 0 < P.getD (j + 1) 0)) = true := by
    rw [List.all_eq_true]
    intro j hj
    have := h.rise j (j + 1) (by omega) (by rw [hk]; have := List.mem_range.1 hj; omega)
    simpa using this
  rw [h2, h1, decide_eq_true hl, decide_eq_true h64]; rfl
theorem getDrop (P : List Int) (i : Nat) (hi : i < (P.drop 1).length) : (P.drop 1)[i] = P.getD (i + 1) 0 := by
  have h3 : i + 1 < P.length := by rw [List.length_drop] at hi; omega
  rw [List.getElem_drop, List.getD_eq_getElem?_getD, List.getElem?_eq_getElem h3]
  simp [Nat.add_comm]
theorem Up.part {P : List Int} {x : Int} (h : Up P) (hx : 0 ≤ x) : partOf P x < P.length ∧ P.getD (partOf P x) 0 ≤ x ∧ (partOf P x + 1 < P.length → x < P.getD (partOf P x + 1) 0) := by
  have hlt := partOf_lt P x h.pos
  refine ⟨hlt, ?_, fun h1 => ?_⟩
  · rcases Nat.eq_zero_or_pos (partOf P x) with e | e
    · rw [e, h.nought]; exact hx
    · obtain ⟨j, hj⟩ : ∃ j, partOf P x = j + 1 := ⟨partOf P x - 1, by omega⟩
      have hjl : j < (P.drop 1).length := by rw [List.length_drop]; omega
      have h2 := List.not_of_lt_findIdx (p := fun low => decide (x < low)) (xs := P.drop 1) (i := j) (by unfold partOf at hj; omega)
      rw [hj, ← getDrop P j hjl]
      simpa using h2
  · have hjl : (P.drop 1).findIdx (fun low => decide (x < low)) < (P.drop 1).length := by rw [List.length_drop]; unfold partOf at h1; omega
    have h2 := List.findIdx_getElem (p := fun low => decide (x < low)) (xs := P.drop 1) (w := hjl)
    have h3 := getDrop P _ hjl
    rw [h3] at h2
    unfold partOf
    exact of_decide_eq_true h2
theorem Up.at_ {P : List Int} (h : Up P) (k : Nat) (hk : k < P.length) : partOf P (P.getD k 0) = k :=
  partOf_eq P _ (fun a b hab hb => h.rise a b hab hb) k hk (.inr (Int.le_refl _)) (by
    rcases Nat.lt_or_ge (k + 1) P.length with h1 | h1
    · first | exact .inr (h.rise k (k + 1) (by omega) h1) | exact fun _ => h.rise k (k + 1) (by omega) h1
    · first | exact .inl (by omega) | exact fun h2 => absurd h2 (by omega))
end Go.Proofs.Ytoamjlnmpklcdaa.Plain
namespace Go.Proofs.Ytoamjlnmpklcdaa
open Go.RowKit Go.Lib
theorem ix {A : Option Addr} {c : Nat} {w : World} (h : Sl w A (i32s exP)) (hc : 6 ≤ c) (x : Int) (k : Nat) (hk : Plain.partOf exP x = k) : Calls Try.prog 7 #[.slice A 6 c, .int .i32 x] w fun e w' => e = .returned (.int .i64 (k : Nat)) ∧ Below w.heap.size w w' := by
  have h1 := index_any exP A c x w h (by decide) (by decide) hc
  rw [hk] at h1
  exact h1
theorem lw {A : Option Addr} {c : Nat} {w : World} (h : Sl w A (i32s exP)) (i v : Int) (hk : lowAt exP i = v) : Calls Try.prog 9 #[.slice A 6 c, .int .i64 i] w fun e w' => e = .returned (.int .i32 v) ∧ Below w.heap.size w w' := by
  have h1 := low_any exP A c i w h
  rw [hk] at h1
  refine h1.mono ?_
  rintro e w' ⟨rfl, rfl⟩
  exact ⟨rfl, Below.refl _ _⟩
theorem rt {A : Option Addr} {c : Nat} {w : World} (h : Sl w A (i32s exP)) : Calls Try.prog 8 #[.slice A 6 c] w fun e w' => e = .returned (.bool true) ∧ Below w.heap.size w w' := by
  have h1 := pright_any exP A c w h (by decide)
  rw [show Plain.partsRight exP = true by decide] at h1
  exact h1
theorem rt1 (w : World) : Calls Try.prog 8 #[.slice (some ⟨w.heap.size, 0, none⟩) 1 1] (w.alloc (.cells #[.int .i32 1] 21)) fun e w' => e = .returned (.bool false) ∧ Below (w.alloc (.cells #[.int .i32 1] 21)).heap.size (w.alloc (.cells #[.int .i32 1] 21)) w' := by
  have h1 := pright_any [1] (some ⟨w.heap.size, 0, none⟩) 1 (w.alloc (.cells #[.int .i32 1] 21)) (Sl.of_blk (CellsAt.new w #[.int .i32 1] 21)) (by decide)
  rw [show Plain.partsRight [1] = false by decide] at h1
  exact h1
theorem sm {A : Option Addr} {c : Nat} {w : World} (h : Sl w A (i32s exP)) : Calls Try.prog 12 #[.slice A 6 c, .slice (some ⟨w.heap.size, 0, none⟩) 6 6] (w.alloc (.cells #[.int .i32 0, .int .i32 98, .int .i32 99, .int .i32 100, .int .i32 101, .int .i32 120] 21)) fun e w' => e = .returned (.bool true) ∧ Below (w.alloc (.cells #[.int .i32 0, .int .i32 98, .int .i32 99, .int .i32 100, .int .i32 101, .int .i32 120] 21)).heap.size (w.alloc (.cells #[.int .i32 0, .int .i32 98, .int .i32 99, .int .i32 100, .int .i32 101, .int .i32 120] 21)) w' := by
  have h1 := isame_any exP exP A (some ⟨w.heap.size, 0, none⟩) c 6 (w.alloc (.cells #[.int .i32 0, .int .i32 98, .int .i32 99, .int .i32 100, .int .i32 101, .int .i32 120] 21)) (h.below ((Below.refl _ _).alloc (Nat.le_refl _) _)) (Sl.of_blk (CellsAt.new w #[.int .i32 0, .int .i32 98, .int .i32 99, .int .i32 100, .int .i32 101, .int .i32 120] 21)) (by decide) (by decide)
  rw [decide_eq_true rfl] at h1
  exact h1
set_option maxRecDepth 100000 in
set_option maxHeartbeats 4000000 in
theorem examples_any (W : World) : Calls Try.prog 6 #[] W fun e w' => e = .returned (.bool true) ∧ Below W.heap.size W w' := by
  have C1 : Calls Try.prog 11 #[.slice (some ⟨W.heap.size + 2, 0, none⟩) 2 2] (w3 W) (fun e w' => ∃ A c, e = .returned (.tuple #[.slice A 6 c, .int .i64 0]) ∧ Sl w' A (i32s exP) ∧ 6 ≤ c ∧ Below (w3 W).heap.size (w3 W) w') := px1 W
  have C2 := fun W => px2 W
  have C3 : ∀ W, Calls Try.prog 11 #[.slice none 0 0] W (fun e w' => ∃ A c, e = .returned (.tuple #[.slice A 1 c, .int .i64 0]) ∧ Sl w' A (i32s [0]) ∧ 1 ≤ c ∧ Below W.heap.size W w') := fun W => px3 W
  unfold w3 at C1
  have HC1 := Lib.hid C1
  have HC2 := Lib.hid C2
  have HC3 := Lib.hid C3
  clear C1 C2 C3
  go_enter Try.func6, Try.ntmps6
  have HB0 := Lib.hid (Below.refl W.heap.size W)
  go_wp2_with fail
  refine (HC1.out).mono ?_
  rintro en1 w1 ⟨AP, cP, rfl, hP, hcP, hb⟩
  have HB1 := Lib.hid (below_then (below_alloc (below_alloc (below_alloc HB0.out (.cells #[.int .i32 98, .int .i32 100] 46)) (.cells #[.int .i32 99, .int .i32 99, .int .i32 120, .int .i32 1114111] 46)) (.cells #[.slice (some ⟨W.heap.size, 0, none⟩) 1 1, .slice (some ⟨W.heap.size + 1, 0, none⟩) 2 2] 40)) hb)
  clear hb
  have HP1 := Lib.hid hP
  clear hP
  go_wp2_with fail
  refine ((HC2.out w1)).mono ?_
  rintro en2 w2 ⟨rfl, hb⟩
  have HB2 := Lib.hid (below_then (below_alloc (below_alloc HB1.out (.cells #[.int .i32 5, .int .i32 1] 46)) (.cells #[.slice (some ⟨w1.heap.size, 0, none⟩) 1 1] 40)) hb)
  have HP2 := Lib.hid (((HP1.out.below ((Below.refl _ _).alloc (Nat.le_refl _) (.cells #[.int .i32 5, .int .i32 1] 46))).below ((Below.refl _ _).alloc (Nat.le_refl _) (.cells #[.slice (some ⟨w1.heap.size, 0, none⟩) 1 1] 40))).below hb)
  clear hb
  go_wp2_with fail
  refine ((HC3.out _)).mono ?_
  rintro en3 w3 ⟨AQ, cQ, rfl, hQ, hcQ, hb⟩
  have HB3 := Lib.hid (below_then HB2.out hb)
  have HP3 := Lib.hid (HP2.out.below hb)
  clear hb
  clear hQ
  go_wp2_with fail
  refine ((sm HP3.out)).mono ?_
  rintro en4 w4 ⟨rfl, hb⟩
  have HB4 := Lib.hid (below_then (below_alloc HB3.out (.cells #[.int .i32 0, .int .i32 98, .int .i32 99, .int .i32 100, .int .i32 101, .int .i32 120] 21)) hb)
  have HP4 := Lib.hid ((HP3.out.below ((Below.refl _ _).alloc (Nat.le_refl _) (.cells #[.int .i32 0, .int .i32 98, .int .i32 99, .int .i32 100, .int .i32 101, .int .i32 120] 21))).below hb)
  clear hb
  go_wp2_with fail
  refine ((ix HP4.out hcP 97 0 (by decide))).mono ?_
  rintro en5 w5 ⟨rfl, hb⟩
  have HB5 := Lib.hid (below_then HB4.out hb)
  have HP5 := Lib.hid (HP4.out.below hb)
  clear hb
  go_wp2_with fail
  refine ((ix HP5.out hcP 100 3 (by decide))).mono ?_
  rintro en6 w6 ⟨rfl, hb⟩
  have HB6 := Lib.hid (below_then HB5.out hb)
  have HP6 := Lib.hid (HP5.out.below hb)
  clear hb
  go_wp2_with fail
  refine ((ix HP6.out hcP 122 5 (by decide))).mono ?_
  rintro en7 w7 ⟨rfl, hb⟩
  have HB7 := Lib.hid (below_then HB6.out hb)
  have HP7 := Lib.hid (HP6.out.below hb)
  clear hb
  go_wp2_with fail
  refine ((lw HP7.out 2 99 (by decide))).mono ?_
  rintro en8 w8 ⟨rfl, hb⟩
  have HB8 := Lib.hid (below_then HB7.out hb)
  have HP8 := Lib.hid (HP7.out.below hb)
  clear hb
  go_wp2_with fail
  refine ((lw HP8.out 9 0 (by decide))).mono ?_
  rintro en9 w9 ⟨rfl, hb⟩
  have HB9 := Lib.hid (below_then HB8.out hb)
  have HP9 := Lib.hid (HP8.out.below hb)
  clear hb
  go_wp2_with fail
  refine ((rt HP9.out)).mono ?_
  rintro en10 w10 ⟨rfl, hb⟩
  have HB10 := Lib.hid (below_then HB9.out hb)
  have HP10 := Lib.hid (HP9.out.below hb)
  clear hb
  go_wp2_with fail
  refine ((rt1 _)).mono ?_
  rintro en11 w11 ⟨rfl, hb⟩
  have HB11 := Lib.hid (below_then (below_alloc HB10.out (.cells #[.int .i32 1] 21)) hb)
  have HP11 := Lib.hid ((HP10.out.below ((Below.refl _ _).alloc (Nat.le_refl _) (.cells #[.int .i32 1] 21))).below hb)
  clear hb
  go_wp2_with fail
  go_ret
  exact ⟨rfl, HB11.out⟩
end Go.Proofs.Ytoamjlnmpklcdaa
