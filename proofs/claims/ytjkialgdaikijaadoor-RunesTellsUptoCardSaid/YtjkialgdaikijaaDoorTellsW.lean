/- The walk of RunesTells: it returns true. Conditions: the text takes at most 2^20 bytes, the rune fits its kind, the two tables of the library lie as laid. -/
import Derived.Test.YtjkialgdaikijaaDoorRefB
import Derived.WalkKit
import Derived.WalkLawsBesides
import Derived.WalkSpells
import Derived.Deep.QuietTactic
import Derived.BigQuiet
import Derived.Deep.DeepCutAuto
namespace Go.Proofs.YtjkialgdaikijaaDoor
open Go.RowKit Go.Lib
theorem all_form (s : ByteArray) (W : World) (L : List Plain.Rn) (N : Nat) (hs : s.size ≤ 4398046511104) (hT : Tabs W) (hL : Plain.allA 0 s.data.toList = L) (hN : L.length = N) :
    Calls Tryd.prog 10 #[.string s] W fun e w' => ∃ a c, e = .returned (.slice a N c) ∧ (0 < N → ∃ g, a = some ⟨g, 0, none⟩ ∧ N ≤ c ∧ CellsAt w' g (L.flatMap rcells)) ∧ Below W.heap.size W w' := by
  refine (all_walk s W hs hT).mono ?_
  rintro e w' ⟨v, rfl, hown, hb⟩
  rw [hL, hN] at hown
  obtain ⟨a, c, rfl, h⟩ := own_form hown
  exact ⟨a, c, rfl, fun h0 => by obtain ⟨g, e, _, h1, h2⟩ := h h0; exact ⟨g, e, h1, h2⟩, hb⟩
theorem found_is (o : Option Plain.Rn) : ∃ (R P M : Int) (B : Bool), foundV o = .tuple #[.agg #[.int .i32 R, .int .i64 P, .int .i64 M], .bool B] := by
  cases o with
  | none => exact ⟨0, 0, 0, false, rfl⟩
  | some x => exact ⟨_, _, _, true, rfl⟩
theorem valid_right (r : Int) : Lib.validRune r = Plain.rightB r := by
  unfold Lib.validRune Plain.rightB
  rw [Bool.eq_iff_iff]; simp; omega
set_option maxRecDepth 1000000 in
set_option maxHeartbeats 4000000 in
theorem tells_walk (s : ByteArray) (own : Bool) (A : Option Addr) (n cap : Nat) (X : Nat → Int) (a : Int) (near : Bool) (r : Int) (w : World) (hX : Bts w A n X) (hn : n ≤ maxLen) (hs : s.size ≤ 1048576) (h0 : -2147483648 ≤ r) (h9 : r ≤ 2147483647) (hT : Tabs w) :
    Calls Tryd.prog 3 #[.string s, .bool own, .slice A n cap, .int .i64 a, .bool near, .int .i32 r] w fun e w' => e = .returned (.bool true) ∧ Below w.heap.size w w' := by
  have HX := Lib.hid hX
  clear hX
  go_enter Tryd.func3, Tryd.ntmps3
  go_wp2_with fail
  refine (examples_any _ hT).mono ?_
  rintro e w1 ⟨rfl, hb1⟩
  have hT1 := hT.below hb1
  go_upto_if 28 with fail
  go_cut [0] (fun u wx => ∃ t, u = .string t ∧ t.size ≤ 1048576 ∧ Below w1.heap.size w1 wx)
  case first =>
    cases own
    · go_wp2_with fail
      go_meet
      exact ⟨s, rfl, hs, Below.refl _ _⟩
    · go_wp2_with fail
      refine (text_any _ _ _ _ _ (HX.out.below hb1) hn).mono ?_
      rintro e w2 ⟨rfl, hb2⟩
      have HB2 := Lib.hid hb2
      clear hb2
      go_wp2_with fail
      go_meet
      exact ⟨_, rfl, by have := txt_le X (min n 24); omega, HB2.out⟩
  case rest =>
    obtain ⟨t, rfl, hts, hb2⟩ := hcut
    go_upto_if 31 with fail
    go_cut [3] (fun u wx => ∃ b, u = .int .i64 b ∧ Below w1.heap.size w1 wx)
    case first =>
      cases near
      · go_wp2_with fail
        go_meet
        exact ⟨a, rfl, hb2⟩
      · go_wp2_with fail
        go_meet
        exact ⟨_, rfl, hb2⟩
    case rest =>
      obtain ⟨b, rfl, hb3⟩ := hcut
      obtain ⟨w3, rfl⟩ : ∃ w3, w3 = wc := ⟨_, rfl⟩
      have hT3 := hT1.below hb3
      have hB3 := hb1.trans (hb3.mono hb1.size)
      obtain ⟨L, hL⟩ : ∃ L, Plain.allA 0 t.data.toList = L := ⟨_, rfl⟩
      obtain ⟨N, hN⟩ : ∃ N, L.length = N := ⟨_, rfl⟩
      have hlen := Plain.all_len 0 t.data.toList
      have hlS : t.data.toList.length = t.size := by simp
      rw [hL, hN, hlS] at hlen
      have cA := fun W hW => all_form t W L N (by omega) hW hL hN
      have cB := fun W => rall_form t W L N hts hL hN
      obtain ⟨R1, P1, M1, B1, hf1⟩ := found_is (L.find? fun x => (x.2.1 : Int) == b)
      obtain ⟨R2, P2, M2, B2, hf2⟩ := found_is (L.find? fun x => (x.2.1 : Int) + x.2.2 == b)
      have c12 : ∀ W, Tabs W → Calls Tryd.prog 12 #[.string t, .int .i64 b] W fun e w' => e = .returned (.tuple #[.agg #[.int .i32 R1, .int .i64 P1, .int .i64 M1], .bool B1]) ∧ Below W.heap.size W w' := fun W hW => by
        have := at_any t b W hW
        rw [hL, hf1] at this; exact this
      have c13 : ∀ W, Calls Tryd.prog 13 #[.string t, .int .i64 b] W fun e w' => e = .returned (.tuple #[.agg #[.int .i32 R1, .int .i64 P1, .int .i64 M1], .bool B1]) ∧ Below W.heap.size W w' := fun W => by
        have := rat_any t b W hts
        rw [hL, hf1] at this; exact this
      have c14 : ∀ W, Tabs W → Calls Tryd.prog 14 #[.string t, .int .i64 b] W fun e w' => e = .returned (.tuple #[.agg #[.int .i32 R2, .int .i64 P2, .int .i64 M2], .bool B2]) ∧ Below W.heap.size W w' := fun W hW => by
        have := ahead_any t b W (by omega) hW
        rw [hL, hf2] at this; exact this
      have c15 : ∀ W, Calls Tryd.prog 15 #[.string t, .int .i64 b] W fun e w' => e = .returned (.tuple #[.agg #[.int .i32 R2, .int .i64 P2, .int .i64 M2], .bool B2]) ∧ Below W.heap.size W w' := fun W => by
        have := rahead_any t b W hts
        rw [hL, hf2] at this; exact this
      obtain ⟨pl, hpl⟩ : ∃ pl, Plain.placeB L b = pl := ⟨_, rfl⟩
      obtain ⟨eg, heg⟩ : ∃ eg, Plain.edgeB L b = eg := ⟨_, rfl⟩
      obtain ⟨vr, hvr⟩ : ∃ vr, Plain.rightB r = vr := ⟨_, rfl⟩
      obtain ⟨wb, hwb⟩ : ∃ wb, Plain.wordB r = wb := ⟨_, rfl⟩
      obtain ⟨en, hen⟩ : ∃ en, Utf8.encode r = en := ⟨_, rfl⟩
      have c16 : ∀ W, Tabs W → Calls Tryd.prog 16 #[.string t, .int .i64 b] W fun e w' => e = .returned (.bool pl) ∧ Below W.heap.size W w' := fun W hW => by
        have := place_any t b W (by omega) hW
        rw [hL, hpl] at this; exact this
      have c17 : ∀ W, Calls Tryd.prog 17 #[.string t, .int .i64 b] W fun e w' => e = .returned (.bool pl) ∧ Below W.heap.size W w' := fun W => by
        have := rplace_any t b W hts
        rw [hL, hpl] at this; exact this
      have c18 : ∀ W, Tabs W → Calls Tryd.prog 18 #[.string t, .int .i64 b] W fun e w' => e = .returned (.bool eg) ∧ Below W.heap.size W w' := fun W hW => by
        have := edge_any t b W (by omega) hW
        rw [hL, heg] at this; exact this
      have c19 : ∀ W, Calls Tryd.prog 19 #[.string t, .int .i64 b] W fun e w' => e = .returned (.bool eg) ∧ Below W.heap.size W w' := fun W => by
        have := redge_any t b W hts
        rw [hL, heg] at this; exact this
      have c20 : ∀ W, Calls Tryd.prog 20 #[.int .i32 r] W fun e w' => e = .returned (.bool vr) ∧ W = w' := fun W => by
        have := right_any r W
        rw [valid_right, hvr] at this; exact this
      have c21 : ∀ W, Calls Tryd.prog 21 #[.int .i32 r] W fun e w' => e = .returned (.bool vr) ∧ W = w' := fun W => by
        have := rright_any r W
        rw [hvr] at this; exact this
      have c22 : ∀ W, Calls Tryd.prog 22 #[.int .i32 r] W fun e w' => e = .returned (.string en) ∧ W = w' := fun W => by
        have := put_any r W
        rw [hen] at this; exact this
      have c23 : ∀ W, Calls Tryd.prog 23 #[.int .i32 r] W fun e w' => e = .returned (.string en) ∧ Below W.heap.size W w' := fun W => by
        have := rput_any r W h0 h9
        rw [hen] at this; exact this
      have c24 : ∀ W, Calls Tryd.prog 24 #[.int .i32 r] W fun e w' => e = .returned (.bool wb) ∧ W = w' := fun W => by
        have := word_any r W
        rw [hwb] at this; exact this
      have c25 : ∀ W, Calls Tryd.prog 25 #[.int .i32 r] W fun e w' => e = .returned (.bool wb) ∧ W = w' := fun W => by
        have := rword_any r W
        rw [hwb] at this; exact this
      have KA := Lib.hid cA
      have KB := Lib.hid cB
      have K12 := Lib.hid c12
      have K13 := Lib.hid c13
      have K14 := Lib.hid c14
      have K15 := Lib.hid c15
      have K16 := Lib.hid c16
      have K17 := Lib.hid c17
      have K18 := Lib.hid c18
      have K19 := Lib.hid c19
      have K20 := Lib.hid c20
      have K21 := Lib.hid c21
      have K22 := Lib.hid c22
      have K23 := Lib.hid c23
      have K24 := Lib.hid c24
      have K25 := Lib.hid c25
      have HN := Lib.hid hN
      clear cA cB c12 c13 c14 c15 c16 c17 c18 c19 c20 c21 c22 c23 c24 c25 hf1 hf2 hL hN hlS hpl heg hvr hwb hen HX hb1 hb2 hb3 hT1 hT
      go_wp2_with fail
      refine (KA.out _ hT3).mono ?_
      rintro e w4 ⟨a1, c1, rfl, hx1, hb4⟩
      have hT4 := hT3.below hb4
      have hB4 := hB3.trans (hb4.mono hB3.size)
      have HX1 := Lib.hid hx1
      clear hx1 hb4 hT3 hB3
      go_wp2_with fail
      refine (KB.out _).mono ?_
      rintro e w5 ⟨a2, c2, rfl, hx2, hb5⟩
      have hT5 := hT4.below hb5
      have hB5 := hB4.trans (hb5.mono hB4.size)
      have hx1 : 0 < N → ∃ g, a1 = some ⟨g, 0, none⟩ ∧ N ≤ c1 ∧ CellsAt w5 g (L.flatMap rcells) := fun h => by
        obtain ⟨g, e, hc, hx⟩ := HX1.out h
        exact ⟨g, e, hc, hx.below hb5⟩
      have HX2 := Lib.hid hx2
      have HX1' := Lib.hid hx1
      clear hx1 hx2 hb5 hT4 hB4 HX1
      go_wp2_with fail
      go_loopw [16] (fun i wr => ∃ k : Nat, k ≤ N ∧ i = .int .i64 (k : Nat) ∧ Below w5.heap.size w5 wr) (fun i _ => N - (RowKit.intOf i).toNat)
      case atStart => exact ⟨0, Nat.zero_le _, rfl, Below.refl _ _⟩
      case round =>
        obtain ⟨k, hk, rfl, hb⟩ := hrel
        by_cases hlt : k < N
        · obtain ⟨g1, rfl, hc1, hx1⟩ := HX1'.out (by omega)
          obtain ⟨g2, rfl, hc2, hx2⟩ := HX2.out (by omega)
          have hkl : k < L.length := by rw [HN.out]; exact hlt
          obtain ⟨⟨p, q, m⟩, hxe⟩ : ∃ x, L[k] = x := ⟨_, rfl⟩
          have x0 := (hx1.below hb).at_ (k * 3) _ (rcell_at _ k hkl 0 (by omega))
          have x1 := (hx1.below hb).at_ (k * 3 + 1) _ (rcell_at _ k hkl 1 (by omega))
          have x2 := (hx1.below hb).at_ (k * 3 + 2) _ (rcell_at _ k hkl 2 (by omega))
          have y0 := ((hx2.below hb)).at_ (k * 3) _ (rcell_at _ k hkl 0 (by omega))
          have y1 := ((hx2.below hb)).at_ (k * 3 + 1) _ (rcell_at _ k hkl 1 (by omega))
          have y2 := ((hx2.below hb)).at_ (k * 3 + 2) _ (rcell_at _ k hkl 2 (by omega))
          rw [hxe] at x0 x1 x2 y0 y1 y2
          have x0 : wr.cell? ⟨g1, k * 3, none⟩ = some (.int .i32 p) := x0
          have x1 : wr.cell? ⟨g1, k * 3 + 1, none⟩ = some (.int .i64 q) := x1
          have x2 : wr.cell? ⟨g1, k * 3 + 2, none⟩ = some (.int .i64 m) := x2
          have y0 : wr.cell? ⟨g2, k * 3, none⟩ = some (.int .i32 p) := y0
          have y1 : wr.cell? ⟨g2, k * 3 + 1, none⟩ = some (.int .i64 q) := y1
          have y2 : wr.cell? ⟨g2, k * 3 + 2, none⟩ = some (.int .i64 m) := y2
          clear hxe hkl hx1 hx2
          go_wp2_with fail
          go_quiet (fail)
          go_wp2
          go_roundw
          case rel => exact ⟨k + 1, by omega, by go_num, below_drewN hb _⟩
          case measure => simp [RowKit.intOf]; omega
        · obtain rfl : N = k := by omega
          have hTr := hT5.below hb
          have hBr := hB5.trans (hb.mono hB5.size)
          clear hb hT5 hB5 HX1' HX2
          go_wp2_with fail
          refine (K12.out _ hTr).mono ?_
          rintro e w6 ⟨rfl, hb6⟩
          have hB6 := (hBr.trans (hb6.mono hBr.size)).alloc (hBr.trans (hb6.mono hBr.size)).size (.cells #[.int .i32 R1, .int .i64 P1, .int .i64 M1] 30)
          have hT6 := (hTr.below hb6).alloc (.cells #[.int .i32 R1, .int .i64 P1, .int .i64 M1] 30)
          have z6_6 := CellsAt.new w6 #[.int .i32 R1, .int .i64 P1, .int .i64 M1] 30
          clear hb6 hBr hTr 
          go_wp2_with fail
          refine (K13.out _).mono ?_
          rintro e w7 ⟨rfl, hb7⟩
          have hB7 := (hB6.trans (hb7.mono hB6.size)).alloc (hB6.trans (hb7.mono hB6.size)).size (.cells #[.int .i32 R1, .int .i64 P1, .int .i64 M1] 31)
          have hT7 := (hT6.below hb7).alloc (.cells #[.int .i32 R1, .int .i64 P1, .int .i64 M1] 31)
          have z6_7 := (z6_6.below hb7).alloc (.cells #[.int .i32 R1, .int .i64 P1, .int .i64 M1] 31)
          have z7_7 := CellsAt.new w7 #[.int .i32 R1, .int .i64 P1, .int .i64 M1] 31
          clear hb7 hB6 hT6 z6_6
          go_wp2_with fail
          refine (K14.out _ hT7).mono ?_
          rintro e w8 ⟨rfl, hb8⟩
          have hB8 := (hB7.trans (hb8.mono hB7.size)).alloc (hB7.trans (hb8.mono hB7.size)).size (.cells #[.int .i32 R2, .int .i64 P2, .int .i64 M2] 30)
          have hT8 := (hT7.below hb8).alloc (.cells #[.int .i32 R2, .int .i64 P2, .int .i64 M2] 30)
          have z6_8 := (z6_7.below hb8).alloc (.cells #[.int .i32 R2, .int .i64 P2, .int .i64 M2] 30)
          have z7_8 := (z7_7.below hb8).alloc (.cells #[.int .i32 R2, .int .i64 P2, .int .i64 M2] 30)
          have z8_8 := CellsAt.new w8 #[.int .i32 R2, .int .i64 P2, .int .i64 M2] 30
          clear hb8 hB7 hT7 z6_7 z7_7
          go_wp2_with fail
          refine (K15.out _).mono ?_
          rintro e w9 ⟨rfl, hb9⟩
          have hB9 := (hB8.trans (hb9.mono hB8.size)).alloc (hB8.trans (hb9.mono hB8.size)).size (.cells #[.int .i32 R2, .int .i64 P2, .int .i64 M2] 31)
          have hT9 := (hT8.below hb9).alloc (.cells #[.int .i32 R2, .int .i64 P2, .int .i64 M2] 31)
          have z6_9 := (z6_8.below hb9).alloc (.cells #[.int .i32 R2, .int .i64 P2, .int .i64 M2] 31)
          have z7_9 := (z7_8.below hb9).alloc (.cells #[.int .i32 R2, .int .i64 P2, .int .i64 M2] 31)
          have z8_9 := (z8_8.below hb9).alloc (.cells #[.int .i32 R2, .int .i64 P2, .int .i64 M2] 31)
          have z9_9 := CellsAt.new w9 #[.int .i32 R2, .int .i64 P2, .int .i64 M2] 31
          clear hb9 hB8 hT8 z6_8 z7_8 z8_8
          have e60 := z6_9.at_ 0 _ rfl
          have e61 := z6_9.at_ 1 _ rfl
          have e62 := z6_9.at_ 2 _ rfl
          have e70 := z7_9.at_ 0 _ rfl
          have e71 := z7_9.at_ 1 _ rfl
          have e72 := z7_9.at_ 2 _ rfl
          have e80 := z8_9.at_ 0 _ rfl
          have e81 := z8_9.at_ 1 _ rfl
          have e82 := z8_9.at_ 2 _ rfl
          have e90 := z9_9.at_ 0 _ rfl
          have e91 := z9_9.at_ 1 _ rfl
          have e92 := z9_9.at_ 2 _ rfl
          clear z6_9 z7_9 z8_9 z9_9
          go_wp2_with fail
          refine (K16.out _ hT9).mono ?_
          rintro e w10 ⟨rfl, hb10⟩
          have hB10 := hB9.trans (hb10.mono hB9.size)
          have hT10 := hT9.below hb10
          clear hb10 hB9 hT9 e60 e61 e62 e70 e71 e72 e80 e81 e82 e90 e91 e92
          go_wp2_with fail
          refine (K17.out _).mono ?_
          rintro e w11 ⟨rfl, hb11⟩
          have hB11 := hB10.trans (hb11.mono hB10.size)
          have hT11 := hT10.below hb11
          clear hb11 hB10 hT10
          go_wp2_with fail
          refine (K18.out _ hT11).mono ?_
          rintro e w12 ⟨rfl, hb12⟩
          have hB12 := hB11.trans (hb12.mono hB11.size)
          have hT12 := hT11.below hb12
          clear hb12 hB11 hT11
          go_wp2_with fail
          refine (K19.out _).mono ?_
          rintro e w13 ⟨rfl, hb13⟩
          have hB13 := hB12.trans (hb13.mono hB12.size)
          have hT13 := hT12.below hb13
          clear hb13 hB12 hT12
          go_wp2_with (first | (go_at_call 20; (with_reducible refine (K20.out _).mono ?_); rintro e w' ⟨rfl, rfl⟩) | (go_at_call 21; (with_reducible refine (K21.out _).mono ?_); rintro e w' ⟨rfl, rfl⟩) | (go_at_call 22; (with_reducible refine (K22.out _).mono ?_); rintro e w' ⟨rfl, rfl⟩))
          refine (K23.out _).mono ?_
          rintro e w14 ⟨rfl, hb14⟩
          have hB14 := hB13.trans (hb14.mono hB13.size)
          clear hb14 hB13 hT13
          go_wp2_with (first | (go_at_call 24; (with_reducible refine (K24.out _).mono ?_); rintro e w' ⟨rfl, rfl⟩) | (go_at_call 25; (with_reducible refine (K25.out _).mono ?_); rintro e w' ⟨rfl, rfl⟩))
          go_ret
          exact ⟨rfl, hB14⟩
end Go.Proofs.YtjkialgdaikijaaDoor
