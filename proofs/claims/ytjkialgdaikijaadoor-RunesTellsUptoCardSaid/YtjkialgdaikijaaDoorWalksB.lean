/- The walk of the examples of chapter 3, and words on cells. Conditions: the two tables of the library lie as laid. -/
import Derived.Test.YtjkialgdaikijaaDoorWalksA
import Derived.WalkKit
import Derived.WalkLawsBesides
import Derived.WalkSpells
namespace Go.Proofs.YtjkialgdaikijaaDoor
open Go.RowKit Go.Lib
theorem Tabs.lt {w : World} (h : Tabs w) : 1 < w.heap.size := by
  have := (h.2 0 (by omega)).1
  rcases Nat.lt_or_ge 1 w.heap.size with h' | h'
  · exact h'
  · simp [World.cell?, Array.getElem?_eq_none h'] at this
theorem Tabs.alloc {w : World} (h : Tabs w) (o : Obj) : Tabs (w.alloc o) := h.below ((Below.refl _ _).alloc (Nat.le_refl _) _)
theorem Tabs.drew {w : World} (h : Tabs w) : Tabs w.drew := h
/-- block g begins with these cells -/
def CellsAt (w : World) (g : Nat) (xs : List Value) : Prop := g < w.heap.size ∧ ∀ j u, xs[j]? = some u → w.cell? ⟨g, j, none⟩ = some u
theorem CellsAt.below {w w' : World} {g : Nat} {xs : List Value} (h : CellsAt w g xs) (hb : Below w.heap.size w w') : CellsAt w' g xs :=
  ⟨Nat.lt_of_lt_of_le h.1 hb.size, fun j u hu => (hb.cell (p := ⟨g, j, none⟩) h.1).trans (h.2 j u hu)⟩
theorem CellsAt.alloc {w : World} {g : Nat} {xs : List Value} (h : CellsAt w g xs) (o : Obj) : CellsAt (w.alloc o) g xs := h.below ((Below.refl _ _).alloc (Nat.le_refl _) _)
theorem CellsAt.new (w : World) (c : Array Value) (t : TypeId) : CellsAt (w.alloc (.cells c t)) w.heap.size c.toList :=
  ⟨by simp, fun j u hu => by rw [cell_of_row _ _ _ _ _ _ (heap_alloc_new _ _)]; simpa using hu⟩
theorem CellsAt.at_ {w : World} {g : Nat} {xs : List Value} (h : CellsAt w g xs) (j : Nat) (u : Value) (hu : xs[j]? = some u) : w.cell? ⟨g, j, none⟩ = some u := h.2 j u hu
theorem CellsAt.of_own {w : World} {base : Nat} {e : TypeId} {size n : Nat} {v : Value} {xs : List Value} (h : w.ownsRow base e size v n xs) (hn : 0 < n) :
    ∃ g cap, v = .slice (some ⟨g, 0, none⟩) n cap ∧ n ≤ cap ∧ base ≤ g ∧ CellsAt w g xs := by
  obtain ⟨hl, hv | ⟨g, cap, cur, rfl, hg, hh, hnc, hcm, hsz, htk⟩⟩ := h
  · omega
  · refine ⟨g, cap, rfl, hnc, hg, ?_, fun j u hu => ?_⟩
    · rcases Nat.lt_or_ge g w.heap.size with h' | h'
      · exact h'
      · rw [Array.getElem?_eq_none h'] at hh; cases hh
    · rw [cell_of_row _ _ _ _ _ _ hh]
      rw [← htk, List.getElem?_take] at hu
      split at hu
      · simpa using hu
      · cases hu
theorem ex_all (W : World) (hT : Tabs W) : Calls Tryd.prog 10 #[.string ⟨#[97, 195, 169, 255]⟩] W fun e w' => ∃ g cap, e = .returned (.slice (some ⟨g, 0, none⟩) 3 cap) ∧ 3 ≤ cap ∧ CellsAt w' g [.int .i32 97, .int .i64 0, .int .i64 1, .int .i32 233, .int .i64 1, .int .i64 2, .int .i32 65533, .int .i64 3, .int .i64 1] ∧ Below W.heap.size W w' := by
  refine (all_walk _ W (by decide) hT).mono ?_
  rintro e w' ⟨v, rfl, hown, hb⟩
  rw [show Plain.allA 0 (⟨#[97, 195, 169, 255]⟩ : ByteArray).data.toList = [(97, 0, 1), (233, 1, 2), (65533, 3, 1)] from by decide +kernel] at hown
  obtain ⟨g, cap, rfl, hc, _, hx⟩ := CellsAt.of_own hown (by decide)
  exact ⟨g, cap, rfl, hc, hx, hb⟩
theorem ex_at1 (W : World) (hT : Tabs W) : Calls Tryd.prog 12 #[.string ⟨#[97, 195, 169]⟩, .int .i64 1] W fun e w' => e = .returned (.tuple #[.agg #[.int .i32 233, .int .i64 1, .int .i64 2], .bool true]) ∧ Below W.heap.size W w' := by
  have := at_any ⟨#[97, 195, 169]⟩ 1 W hT
  rw [show ((Plain.allA 0 (⟨#[97, 195, 169]⟩ : ByteArray).data.toList).find? fun x => (x.2.1 : Int) == 1) = some (233, 1, 2) from by decide +kernel] at this
  exact this
theorem ex_at2 (W : World) (hT : Tabs W) : Calls Tryd.prog 12 #[.string ⟨#[97, 195, 169]⟩, .int .i64 2] W fun e w' => e = .returned (.tuple #[.agg #[.int .i32 0, .int .i64 0, .int .i64 0], .bool false]) ∧ Below W.heap.size W w' := by
  have := at_any ⟨#[97, 195, 169]⟩ 2 W hT
  rw [show ((Plain.allA 0 (⟨#[97, 195, 169]⟩ : ByteArray).data.toList).find? fun x => (x.2.1 : Int) == 2) = none from by decide +kernel] at this
  exact this
theorem ex_ah3 (W : World) (hT : Tabs W) : Calls Tryd.prog 14 #[.string ⟨#[97, 195, 169]⟩, .int .i64 3] W fun e w' => e = .returned (.tuple #[.agg #[.int .i32 233, .int .i64 1, .int .i64 2], .bool true]) ∧ Below W.heap.size W w' := by
  have := ahead_any ⟨#[97, 195, 169]⟩ 3 W (by decide) hT
  rw [show ((Plain.allA 0 (⟨#[97, 195, 169]⟩ : ByteArray).data.toList).find? fun x => (x.2.1 : Int) + x.2.2 == 3) = some (233, 1, 2) from by decide +kernel] at this
  exact this
theorem ex_edge1 (W : World) (hT : Tabs W) : Calls Tryd.prog 18 #[.string ⟨#[97, 32, 98]⟩, .int .i64 1] W fun e w' => e = .returned (.bool true) ∧ Below W.heap.size W w' := by
  have := edge_any ⟨#[97, 32, 98]⟩ 1 W (by decide) hT
  rw [show Plain.edgeB (Plain.allA 0 (⟨#[97, 32, 98]⟩ : ByteArray).data.toList) 1 = true from by decide +kernel] at this
  exact this
theorem ex_edge2 (W : World) (hT : Tabs W) : Calls Tryd.prog 18 #[.string ⟨#[97, 98]⟩, .int .i64 1] W fun e w' => e = .returned (.bool false) ∧ Below W.heap.size W w' := by
  have := edge_any ⟨#[97, 98]⟩ 1 W (by decide) hT
  rw [show Plain.edgeB (Plain.allA 0 (⟨#[97, 98]⟩ : ByteArray).data.toList) 1 = false from by decide +kernel] at this
  exact this
theorem ex_place3 (W : World) (hT : Tabs W) : Calls Tryd.prog 16 #[.string ⟨#[97, 195, 169]⟩, .int .i64 3] W fun e w' => e = .returned (.bool true) ∧ Below W.heap.size W w' := by
  have := place_any ⟨#[97, 195, 169]⟩ 3 W (by decide) hT
  rw [show Plain.placeB (Plain.allA 0 (⟨#[97, 195, 169]⟩ : ByteArray).data.toList) 3 = true from by decide +kernel] at this
  exact this
theorem ex_place2 (W : World) (hT : Tabs W) : Calls Tryd.prog 16 #[.string ⟨#[97, 195, 169]⟩, .int .i64 2] W fun e w' => e = .returned (.bool false) ∧ Below W.heap.size W w' := by
  have := place_any ⟨#[97, 195, 169]⟩ 2 W (by decide) hT
  rw [show Plain.placeB (Plain.allA 0 (⟨#[97, 195, 169]⟩ : ByteArray).data.toList) 2 = false from by decide +kernel] at this
  exact this
set_option maxRecDepth 100000 in
set_option maxHeartbeats 1000000 in
theorem examples_any (w : World) (hT : Tabs w) : Calls Tryd.prog 8 #[] w fun e w' => e = .returned (.bool true) ∧ Below w.heap.size w w' := by
  have p1 : Utf8.encode 233 = ⟨#[195, 169]⟩ := by decide +kernel
  have v1 : Lib.validRune 55296 = false := by decide +kernel
  have v2 : Lib.validRune 1114111 = true := by decide +kernel
  have d1 : Plain.wordB 95 = true := by decide +kernel
  have d2 : Plain.wordB 45 = false := by decide +kernel
  go_enter Tryd.func8, Tryd.ntmps8
  go_wp2_with fail
  refine (ex_all _ hT).mono ?_
  rintro e w1 ⟨g, cap, rfl, hcap, hx, hb1⟩
  have hT1 := hT.below hb1
  go_wp2_with fail
  refine (ex_at1 _ hT1).mono ?_
  rintro e w2 ⟨rfl, hb2⟩
  have hT2 := (hT1.below hb2).alloc (.cells #[.int .i32 233, .int .i64 1, .int .i64 2] 30)
  have hx2 := (hx.below hb2).alloc (.cells #[.int .i32 233, .int .i64 1, .int .i64 2] 30)
  have hy2 := CellsAt.new w2 #[.int .i32 233, .int .i64 1, .int .i64 2] 30
  have hB2 := (hb1.trans (hb2.mono hb1.size)).alloc (hb1.trans (hb2.mono hb1.size)).size (.cells #[.int .i32 233, .int .i64 1, .int .i64 2] 30)
  clear hx hb1 hb2 hT1
  go_wp2_with fail
  refine (ex_at2 _ hT2).mono ?_
  rintro e w3 ⟨rfl, hb3⟩
  have hT3 := (hT2.below hb3).alloc (.cells #[.int .i32 0, .int .i64 0, .int .i64 0] 30)
  have hx3 := (hx2.below hb3).alloc (.cells #[.int .i32 0, .int .i64 0, .int .i64 0] 30)
  have hy3 := (hy2.below hb3).alloc (.cells #[.int .i32 0, .int .i64 0, .int .i64 0] 30)
  have hB3 := (hB2.trans (hb3.mono hB2.size)).alloc (hB2.trans (hb3.mono hB2.size)).size (.cells #[.int .i32 0, .int .i64 0, .int .i64 0] 30)
  clear hx2 hy2 hB2 hb3 hT2
  go_wp2_with fail
  refine (ex_ah3 _ hT3).mono ?_
  rintro e w4 ⟨rfl, hb4⟩
  have hT4 := (hT3.below hb4).alloc (.cells #[.int .i32 233, .int .i64 1, .int .i64 2] 30)
  have hx4 := (hx3.below hb4).alloc (.cells #[.int .i32 233, .int .i64 1, .int .i64 2] 30)
  have hy4 := (hy3.below hb4).alloc (.cells #[.int .i32 233, .int .i64 1, .int .i64 2] 30)
  have hz4 := CellsAt.new w4 #[.int .i32 233, .int .i64 1, .int .i64 2] 30
  have hB4 := (hB3.trans (hb4.mono hB3.size)).alloc (hB3.trans (hb4.mono hB3.size)).size (.cells #[.int .i32 233, .int .i64 1, .int .i64 2] 30)
  clear hx3 hy3 hB3 hb4 hT3
  have x3 := hx4.at_ 3 _ rfl
  have x4 := hx4.at_ 4 _ rfl
  have x5 := hx4.at_ 5 _ rfl
  have x6 := hx4.at_ 6 _ rfl
  have x8 := hx4.at_ 8 _ rfl
  have y0 := hy4.at_ 0 _ rfl
  have z0 := hz4.at_ 0 _ rfl
  clear hx4 hy4 hz4
  go_wp2_with (first | (go_at_call 22; refine (put_any _ _).mono ?_; rintro e w' ⟨rfl, rfl⟩) | (go_at_call 20; refine (right_any _ _).mono ?_; rintro e w' ⟨rfl, rfl⟩) | (go_at_call 24; refine (word_any _ _).mono ?_; rintro e w' ⟨rfl, rfl⟩) | fail)
  refine (ex_edge1 _ hT4).mono ?_
  rintro e w5 ⟨rfl, hb5⟩
  have hT5 := hT4.below hb5
  have hB5 := hB4.trans (hb5.mono hB4.size)
  clear hb5 hB4 hT4
  go_wp2_with fail
  refine (ex_edge2 _ hT5).mono ?_
  rintro e w6 ⟨rfl, hb6⟩
  have hT6 := hT5.below hb6
  have hB6 := hB5.trans (hb6.mono hB5.size)
  clear hb6 hB5 hT5
  go_wp2_with fail
  refine (ex_place3 _ hT6).mono ?_
  rintro e w7 ⟨rfl, hb7⟩
  have hT7 := hT6.below hb7
  have hB7 := hB6.trans (hb7.mono hB6.size)
  clear hb7 hB6 hT6
  go_wp2_with fail
  refine (ex_place2 _ hT7).mono ?_
  rintro e w8 ⟨rfl, hb8⟩
  have hT8 := hT7.below hb8
  have hB8 := hB7.trans (hb8.mono hB7.size)
  clear hb8 hB7 hT7
  go_wp2
  go_ret
  exact ⟨rfl, hB8⟩
end Go.Proofs.YtjkialgdaikijaaDoor
