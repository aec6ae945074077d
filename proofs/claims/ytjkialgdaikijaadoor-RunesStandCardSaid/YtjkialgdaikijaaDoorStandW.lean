/- The walk of RunesStand: it returns true for every text and every numbers. Conditions: the two tables of the library lie as laid. -/
import Derived.Test.YtjkialgdaikijaaDoorWalksC
import Derived.WalkKit
import Derived.WalkLawsBesides
import Derived.WalkSpells
import Derived.Deep.QuietTactic
import Derived.BigQuiet
namespace Go.Proofs.YtjkialgdaikijaaDoor
open Go.RowKit Go.Lib
theorem nat_beq (a b : Nat) : ((a : Int) == (b : Int)) = (a == b) := by rw [Bool.eq_iff_iff, beq_iff_eq, beq_iff_eq]; omega
theorem nat_beq2 (a b c d : Nat) : ((a : Int) + (b : Int) == (c : Int) + (d : Int)) = (a + b == c + d) := by rw [Bool.eq_iff_iff, beq_iff_eq, beq_iff_eq]; omega
theorem put_same (r : Int) (w : World) : Calls Tryd.prog 22 #[.int .i32 r] w fun e w' => e = .returned (.string (Utf8.encode r)) ∧ w' = w :=
  (put_any r w).mono fun _ _ ⟨h, e⟩ => ⟨h, e.symm⟩
theorem ba_ne {a b : ByteArray} (h : a ≠ b) : (a == b) = false := by
  have e : (a == b) = (a.data == b.data) := rfl
  rw [e, beq_eq_false_iff_ne]
  intro h2
  exact h (by cases a; cases b; congr)
theorem own_form {w : World} {base : Nat} {e : TypeId} {size n : Nat} {v : Value} {xs : List Value} (h : w.ownsRow base e size v n xs) :
    ∃ a c, v = .slice a n c ∧ (0 < n → ∃ g, a = some ⟨g, 0, none⟩ ∧ base ≤ g ∧ n ≤ c ∧ CellsAt w g xs) := by
  rcases Nat.eq_zero_or_pos n with h0 | h0
  · subst h0
    rcases h.2 with ⟨rfl, _⟩ | ⟨g, c, _, rfl, _⟩
    · exact ⟨_, _, rfl, fun h => absurd h (by omega)⟩
    · exact ⟨_, _, rfl, fun h => absurd h (by omega)⟩
  · obtain ⟨g, c, rfl, h1, h2, h3⟩ := CellsAt.of_own h h0
    exact ⟨_, _, rfl, fun _ => ⟨g, rfl, h2, h1, h3⟩⟩
set_option maxRecDepth 1000000 in
set_option maxHeartbeats 2000000 in
theorem stand_false (s : ByteArray) (A : Option Addr) (n cap : Nat) (w : World) (hs : s.size ≤ maxLen) (hT : Tabs w) :
    Calls Tryd.prog 4 #[.string s, .bool false, .slice A n cap] w fun e w' => e = .returned (.bool true) ∧ Below w.heap.size w w' := by
  unfold maxLen at hs
  go_enter Tryd.func4, Tryd.ntmps4
  go_wp2_with fail
  refine (examples_any _ hT).mono ?_
  rintro e w1 ⟨rfl, hb1⟩
  have hT2 := hT.below hb1
  have hB2 := hb1
  go_wp2_with fail
  have hts : (s.extract 0 (min (s.size : Int) 200).toNat).size ≤ 200 := by rw [ByteArray.size_extract]; omega
  generalize (s.extract 0 (min (s.size : Int) 200).toNat) = t at *
  obtain ⟨w2, rfl⟩ : ∃ w2, w2 = w1 := ⟨_, rfl⟩
  clear hb1
  refine (all_walk _ _ (by omega) hT2).mono ?_
  rintro e w3 ⟨v, rfl, hown, hb3⟩
  have hF := Plain.all_fine 0 t.data.toList
  have hT3 := hT2.below hb3
  have hB3 := hB2.trans (hb3.mono hB2.size)
  obtain ⟨a, c, rfl, hcells⟩ := own_form hown
  have hlen := Plain.all_len 0 t.data.toList
  have hsz : t.data.toList.length = t.size := by simp
  obtain ⟨N, hN⟩ : ∃ N, (Plain.allA 0 t.data.toList).length = N := ⟨_, rfl⟩
  rw [hsz] at hlen
  have HF := Lib.hid hF
  have HC := Lib.hid hcells
  have HN := Lib.hid hN
  rw [hN] at hlen ⊢
  clear hF hcells hown hb3 hT2 hB2 hsz hN
  go_wp2_with fail
  go_loopw [9, 10, 11, 12, 13, 14, 15] (fun u i _ _ _ _ _ wr => ∃ k : Nat, k ≤ N ∧ i = .int .i64 k ∧ u = .int .i64 (Plain.beg 0 (Plain.allA 0 t.data.toList) k) ∧ Below w3.heap.size w3 wr) (fun _ i _ _ _ _ _ _ => N - (RowKit.intOf i).toNat)
  case atStart => exact ⟨0, Nat.zero_le _, rfl, rfl, Below.refl _ _⟩
  case round =>
    obtain ⟨k, hk, rfl, rfl, hbr⟩ := hrel
    by_cases hlt : k < N
    · obtain ⟨g, rfl, _, hcap, hx⟩ := HC.out (by rw [HN.out]; omega)
      have hx := hx.below hbr
      have hk' : k < (Plain.allA 0 t.data.toList).length := by rw [HN.out]; exact hlt
      obtain ⟨q1, q2, q3, q4, q5, q6, q7, q8⟩ := HF.out.1 k hk'
      have c0 := hx.at_ (k * 3) _ (rcell_at _ k hk' 0 (by omega))
      have c1 := hx.at_ (k * 3 + 1) _ (rcell_at _ k hk' 1 (by omega))
      have c2 := hx.at_ (k * 3 + 2) _ (rcell_at _ k hk' 2 (by omega))
      have hTr := hT3.below hbr
      have hfa := Plain.find_at 0 t.data.toList k hk'
      have hfe := Plain.find_end 0 t.data.toList k hk'
      have hpl := Plain.place_beg t.data.toList k (by omega)
      have hsu := Plain.beg_succ 0 _ k hk'
      obtain ⟨⟨r, p, m⟩, hxe⟩ : ∃ x, (Plain.allA 0 t.data.toList)[k] = x := ⟨_, rfl⟩
      rw [hxe] at q1 q2 q3 q4 q5 q6 q7 q8 c0 c1 c2 hfa hfe hsu
      dsimp only at q1 q2 q3 q4 q5 q6 q7 q8 hfa hfe hsu
      rw [← q1] at hpl hsu q4 q7 q8 ⊢
      have cAt : ∀ W, Tabs W → Calls Tryd.prog 12 #[.string t, .int .i64 p] W fun e w' => e = .returned (.tuple #[.agg #[.int .i32 r, .int .i64 p, .int .i64 m], .bool true]) ∧ Below W.heap.size W w' := fun W hW => by
        have := at_any t p W hW
        rw [show (fun x : Plain.Rn => (x.2.1 : Int) == (p : Int)) = fun x => x.2.1 == p from funext fun x => nat_beq _ _, hfa] at this
        exact this
      have cAh : ∀ W, Tabs W → Calls Tryd.prog 14 #[.string t, .int .i64 ((p : Int) + m)] W fun e w' => e = .returned (.tuple #[.agg #[.int .i32 r, .int .i64 p, .int .i64 m], .bool true]) ∧ Below W.heap.size W w' := fun W hW => by
        have := ahead_any t ((p : Int) + m) W (by omega) hW
        rw [show (fun x : Plain.Rn => (x.2.1 : Int) + x.2.2 == (p : Int) + m) = fun x => x.2.1 + x.2.2 == p + m from funext fun x => nat_beq2 _ _ _ _, hfe] at this
        exact this
      have cPl : ∀ W, Tabs W → Calls Tryd.prog 16 #[.string t, .int .i64 p] W fun e w' => e = .returned (.bool true) ∧ Below W.heap.size W w' := fun W hW => by
        have := place_any t p W (by omega) hW
        rw [hpl] at this
        exact this
      have hvr : Lib.validRune r = true := by unfold Lib.validRune; simp; omega
      have hp4 : p + m ≤ t.size := by have := q4; simp at this; omega
      have HAt := Lib.hid cAt
      have HAh := Lib.hid cAh
      have HPl := Lib.hid cPl
      have Q7 := Lib.hid q7
      have Q8 := Lib.hid q8
      have Q1 := Lib.hid q1
      have HSU := Lib.hid hsu
      clear cAt cAh cPl hfa hfe hpl q7 q8 q1 hsu hx hxe q4 hk' hcap
      go_wp2_with fail
      refine (HAt.out _ (hTr.alloc _)).mono ?_
      rintro e w4 ⟨rfl, hb4⟩
      have hT4 := ((hTr.alloc (.cells #[.int .i32 r, .int .i64 p, .int .i64 m] 30)).below hb4).alloc (.cells #[.int .i32 r, .int .i64 p, .int .i64 m] 30)
      have hx4 := ((CellsAt.new wr #[.int .i32 r, .int .i64 p, .int .i64 m] 30).below hb4).alloc (.cells #[.int .i32 r, .int .i64 p, .int .i64 m] 30)
      have hy4 := CellsAt.new w4 #[.int .i32 r, .int .i64 p, .int .i64 m] 30
      have hB4 : Below w3.heap.size w3 (w4.alloc (.cells #[.int .i32 r, .int .i64 p, .int .i64 m] 30)) := by
        have h1 := hbr.alloc hbr.size (.cells #[.int .i32 r, .int .i64 p, .int .i64 m] 30)
        have h2 := h1.trans (hb4.mono h1.size)
        exact h2.alloc h2.size _
      have x0 := hx4.at_ 0 _ rfl
      have x1 := hx4.at_ 1 _ rfl
      have x2 := hx4.at_ 2 _ rfl
      clear c0 c1 c2 hb4
      go_wp2_with fail
      refine (HAh.out _ hT4).mono ?_
      rintro e w5 ⟨rfl, hb5⟩
      have hT5 := (hT4.below hb5).alloc (.cells #[.int .i32 r, .int .i64 p, .int .i64 m] 30)
      have hx5 := (hx4.below hb5).alloc (.cells #[.int .i32 r, .int .i64 p, .int .i64 m] 30)
      have hy5 := (hy4.below hb5).alloc (.cells #[.int .i32 r, .int .i64 p, .int .i64 m] 30)
      have hz5 := CellsAt.new w5 #[.int .i32 r, .int .i64 p, .int .i64 m] 30
      have hB5 : Below w3.heap.size w3 (w5.alloc (.cells #[.int .i32 r, .int .i64 p, .int .i64 m] 30)) := by
        have h2 := hB4.trans (hb5.mono hB4.size)
        exact h2.alloc h2.size _
      clear x0 x1 x2 hb5 hx4 hy4 hB4 hT4
      have x0 := hx5.at_ 0 _ rfl
      have x1 := hx5.at_ 1 _ rfl
      have x2 := hx5.at_ 2 _ rfl
      have y0 := hy5.at_ 0 _ rfl
      have y1 := hy5.at_ 1 _ rfl
      have y2 := hy5.at_ 2 _ rfl
      have z0 := hz5.at_ 0 _ rfl
      have z1 := hz5.at_ 1 _ rfl
      have z2 := hz5.at_ 2 _ rfl
      have hx5x := hx5
      clear hx5 hy5 hz5
      go_wp2_with (go_at_call 20; refine (right_any _ _).mono ?_; rintro e w' ⟨rfl, rfl⟩)
      refine (HPl.out _ hT5).mono ?_
      rintro e w6 ⟨rfl, hb6⟩
      have hB6 := hB5.trans (hb6.mono hB5.size)
      have X0 := (hx5x.below hb6).at_ 0 _ rfl
      have X2 := (hx5x.below hb6).at_ 2 _ rfl
      clear x0 x1 x2 y0 y1 y2 z0 z1 z2 hb6 hB5 hT5 hx5x
      go_wp2_with fail
      have hxl : (t.extract p (p + m)).data.toList = (t.data.toList.drop p).take m := by rw [extract_data, Nat.add_sub_cancel_left]
      have hbig : (r = 65533 ∧ m = 1 ∧ ((t.extract p (p + m)).toList == (Utf8.encode r).toList) = false ∧ ((r : Int) == 65533) = true ∧ ((m : Int) == 1) = true) ∨ (t.extract p (p + m) = Utf8.encode r ∧ ((r : Int) == 65533) = true ∧ ((m : Int) == 1) = false) ∨ (t.extract p (p + m) = Utf8.encode r ∧ ((r : Int) == 65533) = false) := by
        by_cases h1 : r = 65533
        · by_cases h2 : m = 1
          · refine .inl ⟨h1, h2, ?_, by subst h1; rfl, by subst h2; rfl⟩
            rw [beq_eq_false_iff_ne]
            intro e
            rw [Lib.toList_data, Lib.toList_data] at e
            have := Q8.out h1 h2
            rw [Nat.sub_zero] at this
            exact this (by rw [← hxl, e, encode_list])
          · refine .inr (.inl ⟨?_, by subst h1; rfl, by rw [beq_eq_false_iff_ne]; omega⟩)
            rcases Q7.out with h | h
            · exact ba_eq (by rw [hxl, encode_list, h, Nat.sub_zero])
            · exact absurd h.2 h2
        · refine .inr (.inr ⟨?_, by rw [beq_eq_false_iff_ne]; omega⟩)
          rcases Q7.out with h | h
          · exact ba_eq (by rw [hxl, encode_list, h, Nat.sub_zero])
          · exact absurd h.1 h1
      clear hxl
      rcases hbig with ⟨-, -, hb1, hb2, hb3⟩ | ⟨hb1, hb2, hb3⟩ | ⟨hb1, hb2⟩
      all_goals
        go_quiet ((go_at_call 22; exact Calls.quiet_of_same (put_same _ _)))
        go_wp2
        go_roundw
        case rel => exact ⟨k + 1, by omega, by go_num, by rw [HSU.out]; go_num, below_drewN hB6 _⟩
        case measure => simp [RowKit.intOf]; omega
    · obtain rfl : N = k := by omega
      have hbeg : Plain.beg 0 (Plain.allA 0 t.data.toList) N = t.size := by have := HF.out.2; rw [HN.out] at this; simpa using this
      have hpl := Plain.place_beg t.data.toList N (by rw [HN.out]; exact Nat.le_refl _)
      rw [hbeg] at hpl ⊢
      have cPl : ∀ W, Tabs W → Calls Tryd.prog 16 #[.string t, .int .i64 t.size] W fun e w' => e = .returned (.bool true) ∧ Below W.heap.size W w' := fun W hW => by
        have := place_any t t.size W (by omega) hW
        rw [hpl] at this
        exact this
      have HPl := Lib.hid cPl
      have hTr := hT3.below hbr
      have hBr := hB3.trans (hbr.mono hB3.size)
      clear cPl hpl hbeg hbr
      go_wp2_with fail
      refine (HPl.out _ hTr).mono ?_
      rintro e w6 ⟨rfl, hb6⟩
      have hB6 := hBr.trans (hb6.mono hBr.size)
      clear hb6 hBr hTr
      go_wp2
      go_ret
      exact ⟨rfl, hB6⟩

set_option maxRecDepth 1000000 in
set_option maxHeartbeats 2000000 in
theorem stand_true (s : ByteArray) (A : Option Addr) (n cap : Nat) (X : Nat → Int) (w : World) (hX : Bts w A n X) (hn : n ≤ maxLen) (hT : Tabs w) :
    Calls Tryd.prog 4 #[.string s, .bool true, .slice A n cap] w fun e w' => e = .returned (.bool true) ∧ Below w.heap.size w w' := by
  have HX := Lib.hid hX
  clear hX
  have htx := txt_le X (min n 24)
  go_enter Tryd.func4, Tryd.ntmps4
  go_wp2_with fail
  refine (examples_any _ hT).mono ?_
  rintro e w1 ⟨rfl, hb1⟩
  have hT1 := hT.below hb1
  go_wp2_with fail
  refine (text_any _ _ _ _ _ (HX.out.below hb1) hn).mono ?_
  rintro e w2 ⟨rfl, hb2⟩
  have hT2 := hT1.below hb2
  have hB2 := hb1.trans (hb2.mono hb1.size)
  go_wp2_with fail
  have hts : ((txt X (min n 24)).extract 0 (min ((txt X (min n 24)).size : Int) 200).toNat).size ≤ 200 := by rw [ByteArray.size_extract]; omega
  generalize ((txt X (min n 24)).extract 0 (min ((txt X (min n 24)).size : Int) 200).toNat) = t at *
  clear hb1 hb2 htx hT1
  refine (all_walk _ _ (by omega) hT2).mono ?_
  rintro e w3 ⟨v, rfl, hown, hb3⟩
  have hF := Plain.all_fine 0 t.data.toList
  have hT3 := hT2.below hb3
  have hB3 := hB2.trans (hb3.mono hB2.size)
  obtain ⟨a, c, rfl, hcells⟩ := own_form hown
  have hlen := Plain.all_len 0 t.data.toList
  have hsz : t.data.toList.length = t.size := by simp
  obtain ⟨N, hN⟩ : ∃ N, (Plain.allA 0 t.data.toList).length = N := ⟨_, rfl⟩
  rw [hsz] at hlen
  have HF := Lib.hid hF
  have HC := Lib.hid hcells
  have HN := Lib.hid hN
  rw [hN] at hlen ⊢
  clear hF hcells hown hb3 hT2 hB2 hsz hN
  go_wp2_with fail
  go_loopw [9, 10, 11, 12, 13, 14, 15] (fun u i _ _ _ _ _ wr => ∃ k : Nat, k ≤ N ∧ i = .int .i64 k ∧ u = .int .i64 (Plain.beg 0 (Plain.allA 0 t.data.toList) k) ∧ Below w3.heap.size w3 wr) (fun _ i _ _ _ _ _ _ => N - (RowKit.intOf i).toNat)
  case atStart => exact ⟨0, Nat.zero_le _, rfl, rfl, Below.refl _ _⟩
  case round =>
    obtain ⟨k, hk, rfl, rfl, hbr⟩ := hrel
    by_cases hlt : k < N
    · obtain ⟨g, rfl, _, hcap, hx⟩ := HC.out (by rw [HN.out]; omega)
      have hx := hx.below hbr
      have hk' : k < (Plain.allA 0 t.data.toList).length := by rw [HN.out]; exact hlt
      obtain ⟨q1, q2, q3, q4, q5, q6, q7, q8⟩ := HF.out.1 k hk'
      have c0 := hx.at_ (k * 3) _ (rcell_at _ k hk' 0 (by omega))
      have c1 := hx.at_ (k * 3 + 1) _ (rcell_at _ k hk' 1 (by omega))
      have c2 := hx.at_ (k * 3 + 2) _ (rcell_at _ k hk' 2 (by omega))
      have hTr := hT3.below hbr
      have hfa := Plain.find_at 0 t.data.toList k hk'
      have hfe := Plain.find_end 0 t.data.toList k hk'
      have hpl := Plain.place_beg t.data.toList k (by omega)
      have hsu := Plain.beg_succ 0 _ k hk'
      obtain ⟨⟨r, p, m⟩, hxe⟩ : ∃ x, (Plain.allA 0 t.data.toList)[k] = x := ⟨_, rfl⟩
      rw [hxe] at q1 q2 q3 q4 q5 q6 q7 q8 c0 c1 c2 hfa hfe hsu
      dsimp only at q1 q2 q3 q4 q5 q6 q7 q8 hfa hfe hsu
      rw [← q1] at hpl hsu q4 q7 q8 ⊢
      have cAt : ∀ W, Tabs W → Calls Tryd.prog 12 #[.string t, .int .i64 p] W fun e w' => e = .returned (.tuple #[.agg #[.int .i32 r, .int .i64 p, .int .i64 m], .bool true]) ∧ Below W.heap.size W w' := fun W hW => by
        have := at_any t p W hW
        rw [show (fun x : Plain.Rn => (x.2.1 : Int) == (p : Int)) = fun x => x.2.1 == p from funext fun x => nat_beq _ _, hfa] at this
        exact this
      have cAh : ∀ W, Tabs W → Calls Tryd.prog 14 #[.string t, .int .i64 ((p : Int) + m)] W fun e w' => e = .returned (.tuple #[.agg #[.int .i32 r, .int .i64 p, .int .i64 m], .bool true]) ∧ Below W.heap.size W w' := fun W hW => by
        have := ahead_any t ((p : Int) + m) W (by omega) hW
        rw [show (fun x : Plain.Rn => (x.2.1 : Int) + x.2.2 == (p : Int) + m) = fun x => x.2.1 + x.2.2 == p + m from funext fun x => nat_beq2 _ _ _ _, hfe] at this
        exact this
      have cPl : ∀ W, Tabs W → Calls Tryd.prog 16 #[.string t, .int .i64 p] W fun e w' => e = .returned (.bool true) ∧ Below W.heap.size W w' := fun W hW => by
        have := place_any t p W (by omega) hW
        rw [hpl] at this
        exact this
      have hvr : Lib.validRune r = true := by unfold Lib.validRune; simp; omega
      have hp4 : p + m ≤ t.size := by have := q4; simp at this; omega
      have HAt := Lib.hid cAt
      have HAh := Lib.hid cAh
      have HPl := Lib.hid cPl
      have Q7 := Lib.hid q7
      have Q8 := Lib.hid q8
      have Q1 := Lib.hid q1
      have HSU := Lib.hid hsu
      clear cAt cAh cPl hfa hfe hpl q7 q8 q1 hsu hx hxe q4 hk' hcap
      go_wp2_with fail
      refine (HAt.out _ (hTr.alloc _)).mono ?_
      rintro e w4 ⟨rfl, hb4⟩
      have hT4 := ((hTr.alloc (.cells #[.int .i32 r, .int .i64 p, .int .i64 m] 30)).below hb4).alloc (.cells #[.int .i32 r, .int .i64 p, .int .i64 m] 30)
      have hx4 := ((CellsAt.new wr #[.int .i32 r, .int .i64 p, .int .i64 m] 30).below hb4).alloc (.cells #[.int .i32 r, .int .i64 p, .int .i64 m] 30)
      have hy4 := CellsAt.new w4 #[.int .i32 r, .int .i64 p, .int .i64 m] 30
      have hB4 : Below w3.heap.size w3 (w4.alloc (.cells #[.int .i32 r, .int .i64 p, .int .i64 m] 30)) := by
        have h1 := hbr.alloc hbr.size (.cells #[.int .i32 r, .int .i64 p, .int .i64 m] 30)
        have h2 := h1.trans (hb4.mono h1.size)
        exact h2.alloc h2.size _
      have x0 := hx4.at_ 0 _ rfl
      have x1 := hx4.at_ 1 _ rfl
      have x2 := hx4.at_ 2 _ rfl
      clear c0 c1 c2 hb4
      go_wp2_with fail
      refine (HAh.out _ hT4).mono ?_
      rintro e w5 ⟨rfl, hb5⟩
      have hT5 := (hT4.below hb5).alloc (.cells #[.int .i32 r, .int .i64 p, .int .i64 m] 30)
      have hx5 := (hx4.below hb5).alloc (.cells #[.int .i32 r, .int .i64 p, .int .i64 m] 30)
      have hy5 := (hy4.below hb5).alloc (.cells #[.int .i32 r, .int .i64 p, .int .i64 m] 30)
      have hz5 := CellsAt.new w5 #[.int .i32 r, .int .i64 p, .int .i64 m] 30
      have hB5 : Below w3.heap.size w3 (w5.alloc (.cells #[.int .i32 r, .int .i64 p, .int .i64 m] 30)) := by
        have h2 := hB4.trans (hb5.mono hB4.size)
        exact h2.alloc h2.size _
      clear x0 x1 x2 hb5 hx4 hy4 hB4 hT4
      have x0 := hx5.at_ 0 _ rfl
      have x1 := hx5.at_ 1 _ rfl
      have x2 := hx5.at_ 2 _ rfl
      have y0 := hy5.at_ 0 _ rfl
      have y1 := hy5.at_ 1 _ rfl
      have y2 := hy5.at_ 2 _ rfl
      have z0 := hz5.at_ 0 _ rfl
      have z1 := hz5.at_ 1 _ rfl
      have z2 := hz5.at_ 2 _ rfl
      have hx5x := hx5
      clear hx5 hy5 hz5
      go_wp2_with (go_at_call 20; refine (right_any _ _).mono ?_; rintro e w' ⟨rfl, rfl⟩)
      refine (HPl.out _ hT5).mono ?_
      rintro e w6 ⟨rfl, hb6⟩
      have hB6 := hB5.trans (hb6.mono hB5.size)
      have X0 := (hx5x.below hb6).at_ 0 _ rfl
      have X2 := (hx5x.below hb6).at_ 2 _ rfl
      clear x0 x1 x2 y0 y1 y2 z0 z1 z2 hb6 hB5 hT5 hx5x
      go_wp2_with fail
      have hxl : (t.extract p (p + m)).data.toList = (t.data.toList.drop p).take m := by rw [extract_data, Nat.add_sub_cancel_left]
      have hbig : (r = 65533 ∧ m = 1 ∧ ((t.extract p (p + m)).toList == (Utf8.encode r).toList) = false ∧ ((r : Int) == 65533) = true ∧ ((m : Int) == 1) = true) ∨ (t.extract p (p + m) = Utf8.encode r ∧ ((r : Int) == 65533) = true ∧ ((m : Int) == 1) = false) ∨ (t.extract p (p + m) = Utf8.encode r ∧ ((r : Int) == 65533) = false) := by
        by_cases h1 : r = 65533
        · by_cases h2 : m = 1
          · refine .inl ⟨h1, h2, ?_, by subst h1; rfl, by subst h2; rfl⟩
            rw [beq_eq_false_iff_ne]
            intro e
            rw [Lib.toList_data, Lib.toList_data] at e
            have := Q8.out h1 h2
            rw [Nat.sub_zero] at this
            exact this (by rw [← hxl, e, encode_list])
          · refine .inr (.inl ⟨?_, by subst h1; rfl, by rw [beq_eq_false_iff_ne]; omega⟩)
            rcases Q7.out with h | h
            · exact ba_eq (by rw [hxl, encode_list, h, Nat.sub_zero])
            · exact absurd h.2 h2
        · refine .inr (.inr ⟨?_, by rw [beq_eq_false_iff_ne]; omega⟩)
          rcases Q7.out with h | h
          · exact ba_eq (by rw [hxl, encode_list, h, Nat.sub_zero])
          · exact absurd h.1 h1
      clear hxl
      rcases hbig with ⟨-, -, hb1, hb2, hb3⟩ | ⟨hb1, hb2, hb3⟩ | ⟨hb1, hb2⟩
      all_goals
        go_quiet ((go_at_call 22; exact Calls.quiet_of_same (put_same _ _)))
        go_wp2
        go_roundw
        case rel => exact ⟨k + 1, by omega, by go_num, by rw [HSU.out]; go_num, below_drewN hB6 _⟩
        case measure => simp [RowKit.intOf]; omega
    · obtain rfl : N = k := by omega
      have hbeg : Plain.beg 0 (Plain.allA 0 t.data.toList) N = t.size := by have := HF.out.2; rw [HN.out] at this; simpa using this
      have hpl := Plain.place_beg t.data.toList N (by rw [HN.out]; exact Nat.le_refl _)
      rw [hbeg] at hpl ⊢
      have cPl : ∀ W, Tabs W → Calls Tryd.prog 16 #[.string t, .int .i64 t.size] W fun e w' => e = .returned (.bool true) ∧ Below W.heap.size W w' := fun W hW => by
        have := place_any t t.size W (by omega) hW
        rw [hpl] at this
        exact this
      have HPl := Lib.hid cPl
      have hTr := hT3.below hbr
      have hBr := hB3.trans (hbr.mono hB3.size)
      clear cPl hpl hbeg hbr
      go_wp2_with fail
      refine (HPl.out _ hTr).mono ?_
      rintro e w6 ⟨rfl, hb6⟩
      have hB6 := hBr.trans (hb6.mono hBr.size)
      clear hb6 hBr hTr
      go_wp2
      go_ret
      exact ⟨rfl, hB6⟩
end Go.Proofs.YtjkialgdaikijaaDoor
