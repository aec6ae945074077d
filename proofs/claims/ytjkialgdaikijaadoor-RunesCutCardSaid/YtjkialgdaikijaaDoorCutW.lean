/- The walk of RunesCut: it returns true for all numbers. Conditions: the two tables of the library lie as laid. -/
import Derived.Test.YtjkialgdaikijaaDoorWalksE
import Derived.WalkKit
import Derived.WalkLawsBesides
import Derived.WalkSpells
import Derived.Deep.QuietTactic
import Derived.BigQuiet
namespace Go.Proofs.YtjkialgdaikijaaDoor
open Go.RowKit Go.Lib
/-- where a text is cut: the runes of both parts -/
theorem cut_facts (l : List UInt8) (k : Nat) (hp : Plain.placeB (Plain.allA 0 l) k = true) :
    (Plain.allA 0 l).length = (Plain.allA 0 (l.take k)).length + (Plain.allA 0 (l.drop k)).length ∧
    (∀ i (h : i < (Plain.allA 0 l).length) (h' : i < (Plain.allA 0 (l.take k)).length), (Plain.allA 0 l)[i] = (Plain.allA 0 (l.take k))[i]) ∧
    (∀ i (h : i < (Plain.allA 0 l).length) (h' : i - (Plain.allA 0 (l.take k)).length < (Plain.allA 0 (l.drop k)).length), (Plain.allA 0 (l.take k)).length ≤ i →
      (Plain.allA 0 l)[i].1 = (Plain.allA 0 (l.drop k))[i - (Plain.allA 0 (l.take k)).length].1 ∧ (Plain.allA 0 l)[i].2.2 = (Plain.allA 0 (l.drop k))[i - (Plain.allA 0 (l.take k)).length].2.2 ∧
      (Plain.allA 0 l)[i].2.1 = (Plain.allA 0 (l.drop k))[i - (Plain.allA 0 (l.take k)).length].2.1 + k) := by
  have hF := Plain.all_fine 0 l
  have hi : ∃ i, i ≤ (Plain.allA 0 l).length ∧ Plain.beg 0 (Plain.allA 0 l) i = k := by
    unfold Plain.placeB at hp
    rw [Bool.or_eq_true, List.any_eq_true, beq_iff_eq] at hp
    rcases hp with ⟨x, hx, he⟩ | h0
    · obtain ⟨i, h, rfl⟩ := List.mem_iff_getElem.1 hx
      refine ⟨i + 1, h, ?_⟩
      rw [Plain.beg_succ _ _ _ h, ← (hF.1 i h).1]
      rw [beq_iff_eq] at he; omega
    · exact ⟨0, Nat.zero_le _, by rw [Plain.beg_zero]; omega⟩
  obtain ⟨i, hil, hik⟩ := hi
  have hc := Plain.all_cut 0 l i hil
  rw [hik, Nat.sub_zero] at hc
  have hs : Plain.allA k (l.drop k) = (Plain.allA 0 (l.drop k)).map fun x => (x.1, x.2.1 + k, x.2.2) := by
    have := Plain.all_shift k 0 (l.drop k)
    rwa [Nat.zero_add] at this
  rw [hs] at hc
  refine ⟨by rw [hc]; simp, fun j h h' => ?_, fun j h h' hj => ?_⟩
  · have : (Plain.allA 0 l)[j]? = (Plain.allA 0 (l.take k))[j]? := by rw [hc]; exact List.getElem?_append_left h'
    rw [List.getElem?_eq_getElem h, List.getElem?_eq_getElem h'] at this
    exact Option.some.inj this
  · have : (Plain.allA 0 l)[j]? = ((Plain.allA 0 (l.drop k)).map fun x => (x.1, x.2.1 + k, x.2.2))[j - (Plain.allA 0 (l.take k)).length]? := by rw [hc]; exact List.getElem?_append_right hj
    rw [List.getElem?_eq_getElem h, List.getElem?_map, List.getElem?_eq_getElem h', Option.map_some] at this
    rw [Option.some.inj this]
    exact ⟨rfl, rfl, rfl⟩
theorem all_form (s : ByteArray) (W : World) (L : List Plain.Rn) (N : Nat) (hs : s.size ≤ 4398046511104) (hT : Tabs W) (hL : Plain.allA 0 s.data.toList = L) (hN : L.length = N) :
    Calls Tryd.prog 10 #[.string s] W fun e w' => ∃ a c, e = .returned (.slice a N c) ∧ (0 < N → ∃ g, a = some ⟨g, 0, none⟩ ∧ N ≤ c ∧ CellsAt w' g (L.flatMap rcells)) ∧ Below W.heap.size W w' := by
  refine (all_walk s W hs hT).mono ?_
  rintro e w' ⟨v, rfl, hown, hb⟩
  rw [hL, hN] at hown
  obtain ⟨a, c, rfl, h⟩ := own_form hown
  exact ⟨a, c, rfl, fun h0 => by obtain ⟨g, e, _, h1, h2⟩ := h h0; exact ⟨g, e, h1, h2⟩, hb⟩
set_option maxRecDepth 1000000 in
set_option maxHeartbeats 1000000 in
theorem cut_walk (A : Option Addr) (n cap : Nat) (X : Nat → Int) (m : Nat) (w : World) (hX : Bts w A n X) (hn : n ≤ maxLen) (hm : m < 256) (hT : Tabs w) :
    Calls Tryd.prog 7 #[.slice A n cap, .int .u8 m] w fun e w' => e = .returned (.bool true) ∧ Below w.heap.size w w' := by
  have HX := Lib.hid hX
  clear hX
  have htx := txt_le X (min n 24)
  go_enter Tryd.func7, Tryd.ntmps7
  go_wp2_with fail
  refine (examples_any _ hT).mono ?_
  rintro e w1 ⟨rfl, hb1⟩
  have hT1 := hT.below hb1
  go_wp2_with fail
  refine (text_any _ _ _ _ _ (HX.out.below hb1) hn).mono ?_
  rintro e w2 ⟨rfl, hb2⟩
  have hT2 := hT1.below hb2
  have hB2 := hb1.trans (hb2.mono hb1.size)
  have hts : (txt X (min n 24)).size ≤ 96 := by omega
  generalize txt X (min n 24) = t at *
  clear htx hb1 hb2 hT1 HX
  obtain ⟨k, hk, hkt⟩ : ∃ k : Nat, (m : Int) % ((t.size : Int) + 1) = (k : Int) ∧ k ≤ t.size := ⟨m % (t.size + 1), by rw [show (t.size : Int) + 1 = ((t.size + 1 : Nat) : Int) from by omega]; omega, by have := Nat.mod_lt m (show 0 < t.size + 1 by omega); omega⟩
  have hpl := place_any t k w2 (by omega) hT2
  cases hb : Plain.placeB (Plain.allA 0 t.data.toList) k
  · rw [hb] at hpl
    have HP := Lib.hid hpl
    clear hpl hb
    go_wp2_with fail
    refine HP.out.mono ?_
    rintro e w3 ⟨rfl, hb3⟩
    have hB3 := hB2.trans (hb3.mono hB2.size)
    clear hb3
    go_wp2
    go_ret
    exact ⟨rfl, hB3⟩
  · rw [hb] at hpl
    have HP := Lib.hid hpl
    have hC := cut_facts t.data.toList k hb
    have hx1 : (t.extract 0 k).data.toList = t.data.toList.take k := by rw [extract_data]; simp
    have hx2 := extract_to_end t k
    rw [← hx1, ← hx2] at hC
    have HC := Lib.hid hC
    clear hpl hb hC hx1 hx2
    go_wp2_with fail
    refine HP.out.mono ?_
    rintro e w3 ⟨rfl, hb3⟩
    have hB3 := hB2.trans (hb3.mono hB2.size)
    have hT3 := hT2.below hb3
    clear hb3 hB2 hT2
    go_wp2_with fail
    have hs1 : (t.extract 0 k).size ≤ 96 := by rw [ByteArray.size_extract]; omega
    have hs2 : (t.extract k t.size).size ≤ 96 := by rw [ByteArray.size_extract]; omega
    have hlC := Plain.all_len 0 t.data.toList
    have hlC2 : t.data.toList.length = t.size := by simp
    obtain ⟨L, hL⟩ : ∃ L, Plain.allA 0 t.data.toList = L := ⟨_, rfl⟩
    obtain ⟨LA, hLA⟩ : ∃ LA, Plain.allA 0 (t.extract 0 k).data.toList = LA := ⟨_, rfl⟩
    obtain ⟨LB, hLB⟩ : ∃ LB, Plain.allA 0 (t.extract k t.size).data.toList = LB := ⟨_, rfl⟩
    have hC' := HC.out
    rw [hL, hLA, hLB] at hC'
    obtain ⟨NA, hNA⟩ : ∃ NA, LA.length = NA := ⟨_, rfl⟩
    obtain ⟨NB, hNB⟩ : ∃ NB, LB.length = NB := ⟨_, rfl⟩
    have hN : L.length = NA + NB := by rw [hC'.1, hNA, hNB]
    have hFB : ∀ j (h : j < L.length), L[j].2.1 ≤ t.size := by
      have hF := Plain.all_fine 0 t.data.toList
      rw [hL] at hF
      intro j h
      obtain ⟨q1, _, _, q4, _⟩ := hF.1 j h
      rw [hlC2] at q4
      omega
    have HFB := Lib.hid hFB
    clear hFB
    rw [hL, hN, hlC2] at hlC
    have cA := fun W hW => all_form (t.extract 0 k) W LA NA (by omega) hW hLA hNA
    have cB := fun W hW => all_form (t.extract k t.size) W LB NB (by omega) hW hLB hNB
    have cC := fun W hW => all_form t W L (NA + NB) (by omega) hW hL hN
    have KA := Lib.hid cA
    have KB := Lib.hid cB
    have KC := Lib.hid cC
    have HC' := Lib.hid hC'
    have HNA := Lib.hid hNA
    have HNB := Lib.hid hNB
    have HN := Lib.hid hN
    clear hNA hNB hN cA cB cC hC' hL hLA hLB hlC2 HC HP hs1 hs2
    refine (KA.out _ hT3).mono ?_
    rintro e w4 ⟨aA, cA, rfl, hA, hbA⟩
    have hT4 := hT3.below hbA
    have hB4 := hB3.trans (hbA.mono hB3.size)
    have HA := Lib.hid hA
    clear hA hbA hB3 hT3
    go_wp2_with fail
    refine (KB.out _ hT4).mono ?_
    rintro e w5 ⟨aB, cB, rfl, hB, hbB⟩
    have hT5 := hT4.below hbB
    have hB5 := hB4.trans (hbB.mono hB4.size)
    have hA' : 0 < NA → ∃ g, aA = some ⟨g, 0, none⟩ ∧ NA ≤ cA ∧ CellsAt w5 g (LA.flatMap rcells) := fun h0 => by
      obtain ⟨g, e, hc, hx⟩ := HA.out h0
      exact ⟨g, e, hc, hx.below hbB⟩
    have HA' := Lib.hid hA'
    have HB := Lib.hid hB
    clear hA' hB hbB hB4 hT4 HA
    go_wp2_with fail
    refine (KC.out _ hT5).mono ?_
    rintro e w6 ⟨aC, cC, rfl, hC, hbC⟩
    have hB6 := hB5.trans (hbC.mono hB5.size)
    have hA' : 0 < NA → ∃ g, aA = some ⟨g, 0, none⟩ ∧ NA ≤ cA ∧ CellsAt w6 g (LA.flatMap rcells) := fun h0 => by
      obtain ⟨g, e, hc, hx⟩ := HA'.out h0
      exact ⟨g, e, hc, hx.below hbC⟩
    have hB' : 0 < NB → ∃ g, aB = some ⟨g, 0, none⟩ ∧ NB ≤ cB ∧ CellsAt w6 g (LB.flatMap rcells) := fun h0 => by
      obtain ⟨g, e, hc, hx⟩ := HB.out h0
      exact ⟨g, e, hc, hx.below hbC⟩
    have HHA := Lib.hid hA'
    have HHB := Lib.hid hB'
    have HHC := Lib.hid hC
    clear hA' hB' hC HA' HB hbC hB5 hT5 KA KB KC
    go_wp2_with fail
    go_loopw [11, 12, 13] (fun i _ _ wr => ∃ j : Nat, j ≤ NA + NB ∧ i = .int .i64 (j : Nat) ∧ Below w6.heap.size w6 wr) (fun i _ _ _ => NA + NB - (RowKit.intOf i).toNat)
    case atStart => exact ⟨0, Nat.zero_le _, rfl, Below.refl _ _⟩
    case round =>
      obtain ⟨j, hj, rfl, hb⟩ := hrel
      by_cases hlt : j < NA + NB
      · obtain ⟨g, rfl, hcC, hx⟩ := HHC.out (by omega)
        have hx := hx.below hb
        have hjl : j < L.length := by rw [HN.out]; exact hlt
        have x0 := hx.at_ (j * 3) _ (rcell_at _ j hjl 0 (by omega))
        have x1 := hx.at_ (j * 3 + 1) _ (rcell_at _ j hjl 1 (by omega))
        have x2 := hx.at_ (j * 3 + 2) _ (rcell_at _ j hjl 2 (by omega))
        by_cases hA : j < NA
        · obtain ⟨ga, rfl, hcA, hy⟩ := HHA.out (by omega)
          have hjA : j < LA.length := by rw [HNA.out]; exact hA
          have he := HC'.out.2.1 j hjl hjA
          obtain ⟨⟨r, p, q⟩, hxe⟩ : ∃ x, LA[j] = x := ⟨_, rfl⟩
          rw [hxe] at he
          rw [he] at x0 x1 x2
          have hxN := CellsAt.new wr #[.int .i32 r, .int .i64 p, .int .i64 q] 30
          have hyN := (hy.below hb).alloc (.cells #[.int .i32 r, .int .i64 p, .int .i64 q] 30)
          have y0 := hyN.at_ (j * 3) (.int .i32 r) (by rw [show j * 3 = j * 3 + 0 from rfl, rcell_at _ j hjA 0 (by omega), hxe]; rfl)
          have y1 := hyN.at_ (j * 3 + 1) (.int .i64 p) (by rw [rcell_at _ j hjA 1 (by omega), hxe]; rfl)
          have y2 := hyN.at_ (j * 3 + 2) (.int .i64 q) (by rw [rcell_at _ j hjA 2 (by omega), hxe]; rfl)
          have z0 := hxN.at_ 0 _ rfl
          have z1 := hxN.at_ 1 _ rfl
          have z2 := hxN.at_ 2 _ rfl
          have hBx := hb.alloc hb.size (.cells #[.int .i32 r, .int .i64 p, .int .i64 q] 30)
          have x0 : wr.cell? ⟨g, j * 3, none⟩ = some (.int .i32 r) := x0
          have x1 : wr.cell? ⟨g, j * 3 + 1, none⟩ = some (.int .i64 p) := x1
          have x2 : wr.cell? ⟨g, j * 3 + 2, none⟩ = some (.int .i64 q) := x2
          clear hxN hyN hy hx he hxe hjA hjl
          go_wp2_with fail
          go_quiet (fail)
          go_wp2
          go_roundw
          case rel => exact ⟨j + 1, by omega, by go_num, below_drewN hBx _⟩
          case measure => simp [RowKit.intOf]; omega
        · have hAd : decide (j < NA) = false := by simpa using hA
          obtain ⟨gb, rfl, hcB, hy⟩ := HHB.out (by omega)
          have hjB : j - LA.length < LB.length := by rw [HNA.out, HNB.out]; omega
          obtain ⟨e1, e2, e3⟩ := HC'.out.2.2 j hjl hjB (by rw [HNA.out]; omega)
          obtain ⟨⟨r, p, q⟩, hxe⟩ : ∃ x, LB[j - LA.length] = x := ⟨_, rfl⟩
          obtain ⟨⟨r', p', q'⟩, hxe'⟩ : ∃ x, L[j] = x := ⟨_, rfl⟩
          have hpk := HFB.out j hjl
          rw [hxe'] at hpk
          rw [hxe, hxe'] at e1 e2 e3
          dsimp only at e1 e2 e3 hpk
          subst e1 e2 e3
          rw [hxe'] at x0 x1 x2
          have hyr := rcell_at _ _ hjB
          rw [hxe, HNA.out] at hyr
          have x0 : wr.cell? ⟨g, j * 3, none⟩ = some (.int .i32 r') := x0
          have x1 : wr.cell? ⟨g, j * 3 + 1, none⟩ = some (.int .i64 ((p : Int) + k)) := by rw [← Int.natCast_add]; exact x1
          have x2 : wr.cell? ⟨g, j * 3 + 2, none⟩ = some (.int .i64 q') := x2
          have hxN := CellsAt.new wr #[.int .i32 r', .int .i64 ((p : Int) + k), .int .i64 q'] 30
          have hyN := (hy.below hb).alloc (.cells #[.int .i32 r', .int .i64 ((p : Int) + k), .int .i64 q'] 30)
          have hBx := hb.alloc hb.size (.cells #[.int .i32 r', .int .i64 ((p : Int) + k), .int .i64 q'] 30)
          have HXN := Lib.hid hxN
          have HYN := Lib.hid hyN
          have HBX := Lib.hid hBx
          have HYR := Lib.hid hyr
          clear hxN hyN hBx hyr hy hx hxe hxe' hjl hjB hb
          go_wp2_with fail
          go_quiet (fail)
          have y0 := HYN.out.at_ ((j - NA) * 3) (.int .i32 r') (by rw [show (j - NA) * 3 = (j - NA) * 3 + 0 from rfl, HYR.out 0 (by omega)]; rfl)
          have y1 := HYN.out.at_ ((j - NA) * 3 + 1) (.int .i64 p) (by rw [HYR.out 1 (by omega)]; rfl)
          have y2 := HYN.out.at_ ((j - NA) * 3 + 2) (.int .i64 q') (by rw [HYR.out 2 (by omega)]; rfl)
          have z0 := (HXN.out.alloc (.cells #[.int .i32 r', .int .i64 p, .int .i64 q'] 30)).at_ 0 _ rfl
          have z1 := (HXN.out.alloc (.cells #[.int .i32 r', .int .i64 p, .int .i64 q'] 30)).at_ 1 _ rfl
          have z2 := (HXN.out.alloc (.cells #[.int .i32 r', .int .i64 p, .int .i64 q'] 30)).at_ 2 _ rfl
          have hpi : (p : Int) + (k : Int) ≤ 96 := by omega
          have hpi0 : 0 ≤ (p : Int) + (k : Int) := by omega
          go_wp2
          go_roundw
          case rel => exact ⟨j + 1, by omega, by go_num, (below_drewN HBX.out _).alloc (below_drewN HBX.out _).size _⟩
          case measure => simp [RowKit.intOf]; omega
      · obtain rfl : j = NA + NB := by omega
        have hBB := hB6.trans (hb.mono hB6.size)
        go_wp2
        go_ret
        exact ⟨rfl, hBB⟩
theorem cut_all (a0 : Option Addr) (l0 c0 : Nat) (z0 : List Int) (m : Int) (w : World) (h0 : (a0 = none ∧ l0 = 0 ∧ c0 = 0 ∧ z0 = []) ∨
    ∃ x, a0 = some x ∧ l0 ≤ c0 ∧ c0 ≤ maxLen ∧ z0.length = c0 ∧ (∀ i, i < z0.length → w.cell? (x.add i) = some (.int .u8 (z0.getD i 0))) ∧ ∀ n ∈ z0, (Lit.int .u8 n).wf = true) (hm : (Lit.int .u8 m).wf = true) (hT : Tabs w) :
    Calls Tryd.prog 7 #[.slice a0 l0 c0, .int .u8 m] w fun e w' => e = .returned (.bool true) ∧ Below w.heap.size w w' := by
  obtain ⟨x0, y0⟩ := bts_of a0 l0 c0 z0 w h0
  simp [Lit.wf, IntKind.min, IntKind.max, IntKind.bits, IntKind.signed] at hm
  obtain ⟨k, rfl⟩ := Int.eq_ofNat_of_zero_le hm.1
  exact cut_walk a0 l0 c0 _ k w x0 y0 (by omega) hT
end Go.Proofs.YtjkialgdaikijaaDoor
