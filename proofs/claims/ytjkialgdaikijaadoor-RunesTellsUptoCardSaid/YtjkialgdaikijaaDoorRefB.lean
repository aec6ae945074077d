/- The document's own All, At, Ahead, Place, Edge: their walks say what the plain text says. Conditions: texts of at most 2^20 bytes. -/
import Derived.Test.YtjkialgdaikijaaDoorRefA
import Derived.WalkKit
import Derived.WalkLawsBesides
import Derived.WalkSpells
import Derived.Deep.QuietTactic
import Derived.BigQuiet
namespace Go.Proofs.YtjkialgdaikijaaDoor
open Go.RowKit Go.Lib
theorem info31 : (Tryd.prog.info? 31).map (fun i => (i.zero, i.size, i.bytes)) = some (some (.agg #[.int .i32 0, .int .i64 0, .int .i64 0]), 3, 24) := by kernel_rfl
/-- what holds at the head of a round of the document's All -/
def RAllRel (s : ByteArray) (w : World) (v : Value) (wr : World) (p : Nat) (A : List Plain.Rn) : Prop :=
  Plain.allA 0 s.data.toList = A ++ Plain.allA p (s.data.toList.drop p) ∧ A.length ≤ p ∧ wr.ownsRow w.heap.size 31 3 v A.length (A.flatMap rcells) ∧ Below w.heap.size w wr
theorem RAllRel.step {s : ByteArray} {w wr w1 w2 : World} {v v' : Value} {p : Nat} {A : List Plain.Rn} {o : Obj} (h : RAllRel s w v wr p A) (hp : p < s.size)
    (hb1 : Below wr.heap.size wr w1)
    (hown : w2.ownsRow w.heap.size 31 3 v' (A.length + 1) (A.flatMap rcells ++ [.int .i32 (decodeL (s.data.toList.drop p)).1, .int .i64 p, .int .i64 (decodeL (s.data.toList.drop p)).2])) (hg : (w1.alloc o).grownBy w2 v.ownBlock) :
    RAllRel s w v' w2 (p + (decodeL (s.data.toList.drop p)).2) (A ++ [((decodeL (s.data.toList.drop p)).1, p, (decodeL (s.data.toList.drop p)).2)]) ∧ p + (decodeL (s.data.toList.drop p)).2 ≤ s.size := by
  obtain ⟨h2, h3, h4, h5⟩ := h
  have hne : s.data.toList.drop p ≠ [] := by intro e; have := congrArg List.length e; simp at this; omega
  have hs := Plain.allA_step p _ hne
  have hpos := Plain.dec_pos (s.data.toList.drop p)
  have hle := decodeL_le _ hne
  have hrow : ∀ g, v.ownBlock = some g → w.heap.size ≤ g := fun g hg => (h4.lt g hg).1
  have hB1 : Below w.heap.size w w1 := h5.trans (hb1.mono h5.size)
  refine ⟨⟨?_, ?_, ?_, ?_⟩, ?_⟩
  · rw [h2, hs, List.drop_drop]; simp
  · simp; omega
  · simpa [rcells] using hown
  · exact ((hB1.alloc hB1.size o).grown hg (by simp; have := hB1.size; omega) hrow)
  · rw [List.length_drop] at hle; simp at hle; omega
set_option maxRecDepth 100000 in
set_option maxHeartbeats 1000000 in
theorem rall_walk (s : ByteArray) (w : World) (hs : s.size ≤ 1048576) :
    Calls Tryd.prog 11 #[.string s] w fun e w' => ∃ v, e = .returned v ∧ w'.ownsRow w.heap.size 31 3 v (Plain.allA 0 s.data.toList).length ((Plain.allA 0 s.data.toList).flatMap rcells) ∧ Below w.heap.size w w' := by
  obtain ⟨i0, hi, hz0, hz1, hz2⟩ := info_parts info31
  go_enter Tryd.func11, Tryd.ntmps11
  go_wp2_with fail
  go_loopw [3, 4, 5, 6] (fun v i _ _ wr => ∃ u p A, u = v ∧ p ≤ s.size ∧ i = .int .i64 (p : Nat) ∧ RAllRel s w u wr p A) (fun _ i _ _ _ => s.size - (RowKit.intOf i).toNat)
  case atStart => exact ⟨_, 0, [], rfl, Nat.zero_le _, rfl, by simp, Nat.le_refl _, ⟨by simp, .inl ⟨rfl, rfl⟩⟩, Below.refl _ _⟩
  case round =>
    obtain ⟨v, p, A, rfl, hp, rfl, hR⟩ := hrel
    by_cases hlt : p < s.size
    · have hx := extract_to_end s p
      have hsx : (s.extract p s.size).size = s.size - p := by rw [size_eq, hx]; simp
      have hne : s.data.toList.drop p ≠ [] := by intro e; have := congrArg List.length e; simp at this; omega
      have hle : p + (decodeL (s.data.toList.drop p)).2 ≤ s.size := by have := decodeL_le _ hne; rw [List.length_drop] at this; simp at this; omega
      have cF : ∀ W, Calls Tryd.prog 27 #[.string (s.extract p s.size)] W fun e w' => e = .returned (.tuple #[.int .i32 (decodeL (s.data.toList.drop p)).1, .int .i64 (decodeL (s.data.toList.drop p)).2]) ∧ Below W.heap.size W w' := fun W => by
        have := first_any (s.extract p s.size) W (by omega) (by omega)
        rw [hx] at this; exact this
      have HS := Lib.hid cF
      have HR := Lib.hid hR
      have hl := hR.2.1
      have hown := hR.2.2.1
      have hwz := hR.2.2.2.size
      have hpos := Plain.dec_pos (s.data.toList.drop p)
      clear cF hR hx hsx hne
      go_wp2_with fail
      refine (HS.out _).mono ?_
      rintro e w1 ⟨rfl, hb1⟩
      have hown1 : w1.ownsRow w.heap.size 31 3 v A.length (A.flatMap rcells) := own_below hown hb1
      have hsz1 : w.heap.size ≤ w1.heap.size := Nat.le_trans hwz hb1.size
      have HB := Lib.hid hb1; clear hb1 hown
      go_wp2_with (at_builtin; refine wpList_append_own _ rfl (.tmp 18) (.tmp 23) _ rfl w.heap.size 31 i0 _ 3 24 Tryd.underlying27 hi hz0 hz1 hz2 rfl (by decide) v A.length (A.flatMap rcells) rfl (hown1.alloc _) ⟨w1.heap.size, 0, none⟩ 1 1 [.int .i32 (decodeL (s.data.toList.drop p)).1, .int .i64 p, .int .i64 (decodeL (s.data.toList.drop p)).2] rfl rfl ?c1 ?c2 ?c3 ?c4 ?c5 ?_)
      case c1 => exact cells_new w1 _ _
      case c2 => intro u hu; simp only [List.mem_cons, List.not_mem_nil, or_false] at hu; rcases hu with rfl | rfl | rfl <;> rfl
      case c3 => simp only [maxLen]; omega
      case c4 => omega
      case c5 => simp; omega
      intro v2 w2 hown2 hg2 _
      have hst := HR.out.step hlt HB.out hown2 hg2
      have HST := Lib.hid hst; clear hst hown2 hg2
      go_wp2
      go_roundw
      case rel => exact ⟨v2, _, _, rfl, HST.out.2, by go_num, HST.out.1⟩
      case measure => simp [RowKit.intOf]; omega
    · have hR' := Lib.hid hR
      clear hR
      go_wp2
      go_ret
      obtain ⟨h2, h3, h4, h5⟩ := hR'.out
      have he : s.data.toList.drop p = [] := List.drop_of_length_le (by simp; omega)
      rw [he, Plain.allA_nil, List.append_nil] at h2
      rw [h2]
      exact ⟨_, rfl, h4, h5⟩
theorem rall_form (s : ByteArray) (W : World) (L : List Plain.Rn) (N : Nat) (hs : s.size ≤ 1048576) (hL : Plain.allA 0 s.data.toList = L) (hN : L.length = N) :
    Calls Tryd.prog 11 #[.string s] W fun e w' => ∃ a c, e = .returned (.slice a N c) ∧ (0 < N → ∃ g, a = some ⟨g, 0, none⟩ ∧ N ≤ c ∧ CellsAt w' g (L.flatMap rcells)) ∧ Below W.heap.size W w' := by
  refine (rall_walk s W hs).mono ?_
  rintro e w' ⟨v, rfl, hown, hb⟩
  rw [hL, hN] at hown
  obtain ⟨a, c, rfl, h⟩ := own_form hown
  exact ⟨a, c, rfl, fun h0 => by obtain ⟨g, e, _, h1, h2⟩ := h h0; exact ⟨g, e, h1, h2⟩, hb⟩

set_option maxRecDepth 100000 in
set_option maxHeartbeats 1000000 in
theorem rat_any (s : ByteArray) (a : Int) (w : World) (hs : s.size ≤ 1048576) :
    Calls Tryd.prog 13 #[.string s, .int .i64 a] w fun e w' => e = .returned (foundV ((Plain.allA 0 s.data.toList).find? fun x => (x.2.1 : Int) == a)) ∧ Below w.heap.size w w' := by
  have hF := Plain.all_fine 0 s.data.toList
  have hlen := Plain.all_len 0 s.data.toList
  have hlS : s.data.toList.length = s.size := by simp
  rw [hlS] at hlen
  obtain ⟨L, hL⟩ : ∃ L, Plain.allA 0 s.data.toList = L := ⟨_, rfl⟩
  obtain ⟨N, hN⟩ : ∃ N, L.length = N := ⟨_, rfl⟩
  have cA := fun W => rall_form s W L N (by omega) hL hN
  have hbd : ∀ k (h : k < L.length), L[k].2.1 ≤ 1048576 ∧ L[k].2.2 ≤ 4 := by
    rw [hL] at hF
    intro k h
    obtain ⟨q1, _, q3, q4, _⟩ := hF.1 k h
    rw [hlS] at q4
    omega
  rw [hL] at hlen ⊢
  rw [hN] at hlen
  have KA := Lib.hid cA
  have HN := Lib.hid hN
  have HBD := Lib.hid hbd
  clear cA hN hbd hF hL hlS
  go_enter Tryd.func13, Tryd.ntmps13
  go_wp2_with fail
  refine (KA.out _).mono ?_
  rintro e w1 ⟨al, cl, rfl, hcl, hb1⟩
  have hres1 : w1.heap[w.heap.size]? = some (.cells #[.int .i32 0, .int .i64 0, .int .i64 0] 31 (0, 0)) := by
    rw [hb1.block _ (by simp)]; exact heap_alloc_new _ _
  have hB1 : Below w.heap.size w w1 := ((Below.refl _ _).alloc (Nat.le_refl _) _).trans (hb1.mono (by simp))
  have hlt1 : w.heap.size < w1.heap.size := by have := hb1.size; simp at this; omega
  have HCL := Lib.hid hcl
  have HRES := Lib.hid hres1
  clear hcl hres1 hb1
  go_wp2_with fail
  go_loopw [7] (fun i wr => ∃ k : Nat, k ≤ N ∧ i = .int .i64 (k : Nat) ∧ Below w1.heap.size w1 wr ∧ ∀ j (h : j < L.length), j < k → (fun x : Plain.Rn => (x.2.1 : Int) == a) L[j] = false) (fun i _ => N - (RowKit.intOf i).toNat)
  case atStart => exact ⟨0, Nat.zero_le _, rfl, Below.refl _ _, fun j _ h => absurd h (by omega)⟩
  case round =>
    obtain ⟨k, hk, rfl, hb, hno⟩ := hrel
    have hres := (hb.block _ hlt1).trans HRES.out
    have m0 := cell_of_row wr w.heap.size 0 _ _ _ hres
    have m1 := cell_of_row wr w.heap.size 1 _ _ _ hres
    have m2 := cell_of_row wr w.heap.size 2 _ _ _ hres
    have f0 := frozen_of_row wr w.heap.size 0 _ _ hres
    have f1 := frozen_of_row wr w.heap.size 1 _ _ hres
    have f2 := frozen_of_row wr w.heap.size 2 _ _ hres
    simp at m0 m1 m2
    have hBr := hB1.trans (hb.mono hB1.size)
    have HNO := Lib.hid hno
    clear hres hno
    by_cases hlt : k < N
    · obtain ⟨g, rfl, hc, hx⟩ := HCL.out (by omega)
      have hx := hx.below hb
      have hkl : k < L.length := by rw [HN.out]; exact hlt
      obtain ⟨b1, b2⟩ := HBD.out k hkl
      have x0 := hx.at_ (k * 3) _ (rcell_at _ k hkl 0 (by omega))
      have x1 := hx.at_ (k * 3 + 1) _ (rcell_at _ k hkl 1 (by omega))
      have x2 := hx.at_ (k * 3 + 2) _ (rcell_at _ k hkl 2 (by omega))
      obtain ⟨⟨r, p, n⟩, hxe⟩ : ∃ x, L[k] = x := ⟨_, rfl⟩
      rw [hxe] at x0 x1 x2 b1 b2
      dsimp only at b1 b2
      have x0 : wr.cell? ⟨g, k * 3, none⟩ = some (.int .i32 r) := x0
      have x1 : wr.cell? ⟨g, k * 3 + 1, none⟩ = some (.int .i64 p) := x1
      have x2 : wr.cell? ⟨g, k * 3 + 2, none⟩ = some (.int .i64 n) := x2
      by_cases hq : ((p : Int) == a) = true
      · have hf : L.find? (fun x => (x.2.1 : Int) == a) = some (r, p, n) := by
          rw [List.find?_eq_some_iff_getElem]
          refine ⟨hq, k, hkl, hxe, fun j hj => ?_⟩
          have := HNO.out j (by omega) hj
          simpa using this
        have HFD := Lib.hid hf
        clear hf hxe hx hb hkl
        go_wp2_with fail
        refine bodyPost_ret (v := .tuple #[.agg #[.int .i32 r, .int .i64 p, .int .i64 n], .bool true]) (by simp [results, Tryd.results13, go_sem, m0, m1, m2]) rfl ⟨by rw [HFD.out]; rfl, ?_⟩
        exact ((hBr.setCell (Nat.le_refl _) _).setCell (Nat.le_refl _) _).setCell (Nat.le_refl _) _
      · rw [Bool.not_eq_true] at hq
        have hno2 : ∀ j (h : j < L.length), j < k + 1 → (fun x : Plain.Rn => (x.2.1 : Int) == a) L[j] = false := fun j h hj => by
          by_cases e : j = k
          · subst e; rw [hxe]; exact hq
          · exact HNO.out j h (by omega)
        have HNO2 := Lib.hid hno2
        clear hno2 hxe hx hkl
        go_wp2_with fail
        go_roundw
        case rel => exact ⟨k + 1, by omega, by go_num, hb, HNO2.out⟩
        case measure => simp [RowKit.intOf]; omega
    · obtain rfl : N = k := by omega
      have hf : L.find? (fun x => (x.2.1 : Int) == a) = none := by
        rw [List.find?_eq_none]
        intro x hx
        obtain ⟨j, hj, rfl⟩ := List.mem_iff_getElem.1 hx
        have := HNO.out j hj (by rw [← HN.out]; exact hj)
        simpa using this
      have HFD := Lib.hid hf
      clear hf hb
      go_wp2
      refine bodyPost_ret (v := .tuple #[.agg #[.int .i32 0, .int .i64 0, .int .i64 0], .bool false]) (by simp [results, Tryd.results13, go_sem, m0, m1, m2]) rfl ⟨by rw [HFD.out]; rfl, ?_⟩
      exact ((hBr.setCell (Nat.le_refl _) _).setCell (Nat.le_refl _) _).setCell (Nat.le_refl _) _

set_option maxRecDepth 100000 in
set_option maxHeartbeats 1000000 in
theorem rahead_any (s : ByteArray) (a : Int) (w : World) (hs : s.size ≤ 1048576) :
    Calls Tryd.prog 15 #[.string s, .int .i64 a] w fun e w' => e = .returned (foundV ((Plain.allA 0 s.data.toList).find? fun x => (x.2.1 : Int) + x.2.2 == a)) ∧ Below w.heap.size w w' := by
  have hF := Plain.all_fine 0 s.data.toList
  have hlen := Plain.all_len 0 s.data.toList
  have hlS : s.data.toList.length = s.size := by simp
  rw [hlS] at hlen
  obtain ⟨L, hL⟩ : ∃ L, Plain.allA 0 s.data.toList = L := ⟨_, rfl⟩
  obtain ⟨N, hN⟩ : ∃ N, L.length = N := ⟨_, rfl⟩
  have cA := fun W => rall_form s W L N (by omega) hL hN
  have hbd : ∀ k (h : k < L.length), L[k].2.1 ≤ 1048576 ∧ L[k].2.2 ≤ 4 := by
    rw [hL] at hF
    intro k h
    obtain ⟨q1, _, q3, q4, _⟩ := hF.1 k h
    rw [hlS] at q4
    omega
  rw [hL] at hlen ⊢
  rw [hN] at hlen
  have KA := Lib.hid cA
  have HN := Lib.hid hN
  have HBD := Lib.hid hbd
  clear cA hN hbd hF hL hlS
  go_enter Tryd.func15, Tryd.ntmps15
  go_wp2_with fail
  refine (KA.out _).mono ?_
  rintro e w1 ⟨al, cl, rfl, hcl, hb1⟩
  have hres1 : w1.heap[w.heap.size]? = some (.cells #[.int .i32 0, .int .i64 0, .int .i64 0] 31 (0, 0)) := by
    rw [hb1.block _ (by simp)]; exact heap_alloc_new _ _
  have hB1 : Below w.heap.size w w1 := ((Below.refl _ _).alloc (Nat.le_refl _) _).trans (hb1.mono (by simp))
  have hlt1 : w.heap.size < w1.heap.size := by have := hb1.size; simp at this; omega
  have HCL := Lib.hid hcl
  have HRES := Lib.hid hres1
  clear hcl hres1 hb1
  go_wp2_with fail
  go_loopw [7] (fun i wr => ∃ k : Nat, k ≤ N ∧ i = .int .i64 (k : Nat) ∧ Below w1.heap.size w1 wr ∧ ∀ j (h : j < L.length), j < k → (fun x : Plain.Rn => (x.2.1 : Int) + x.2.2 == a) L[j] = false) (fun i _ => N - (RowKit.intOf i).toNat)
  case atStart => exact ⟨0, Nat.zero_le _, rfl, Below.refl _ _, fun j _ h => absurd h (by omega)⟩
  case round =>
    obtain ⟨k, hk, rfl, hb, hno⟩ := hrel
    have hres := (hb.block _ hlt1).trans HRES.out
    have m0 := cell_of_row wr w.heap.size 0 _ _ _ hres
    have m1 := cell_of_row wr w.heap.size 1 _ _ _ hres
    have m2 := cell_of_row wr w.heap.size 2 _ _ _ hres
    have f0 := frozen_of_row wr w.heap.size 0 _ _ hres
    have f1 := frozen_of_row wr w.heap.size 1 _ _ hres
    have f2 := frozen_of_row wr w.heap.size 2 _ _ hres
    simp at m0 m1 m2
    have hBr := hB1.trans (hb.mono hB1.size)
    have HNO := Lib.hid hno
    clear hres hno
    by_cases hlt : k < N
    · obtain ⟨g, rfl, hc, hx⟩ := HCL.out (by omega)
      have hx := hx.below hb
      have hkl : k < L.length := by rw [HN.out]; exact hlt
      obtain ⟨b1, b2⟩ := HBD.out k hkl
      have x0 := hx.at_ (k * 3) _ (rcell_at _ k hkl 0 (by omega))
      have x1 := hx.at_ (k * 3 + 1) _ (rcell_at _ k hkl 1 (by omega))
      have x2 := hx.at_ (k * 3 + 2) _ (rcell_at _ k hkl 2 (by omega))
      obtain ⟨⟨r, p, n⟩, hxe⟩ : ∃ x, L[k] = x := ⟨_, rfl⟩
      rw [hxe] at x0 x1 x2 b1 b2
      dsimp only at b1 b2
      have x0 : wr.cell? ⟨g, k * 3, none⟩ = some (.int .i32 r) := x0
      have x1 : wr.cell? ⟨g, k * 3 + 1, none⟩ = some (.int .i64 p) := x1
      have x2 : wr.cell? ⟨g, k * 3 + 2, none⟩ = some (.int .i64 n) := x2
      by_cases hq : ((p : Int) + n == a) = true
      · have hf : L.find? (fun x => (x.2.1 : Int) + x.2.2 == a) = some (r, p, n) := by
          rw [List.find?_eq_some_iff_getElem]
          refine ⟨hq, k, hkl, hxe, fun j hj => ?_⟩
          have := HNO.out j (by omega) hj
          simpa using this
        have HFD := Lib.hid hf
        clear hf hxe hx hb hkl
        go_wp2_with fail
        go_quiet (fail)
        go_wp2
        refine bodyPost_ret (v := .tuple #[.agg #[.int .i32 r, .int .i64 p, .int .i64 n], .bool true]) (by simp [results, Tryd.results15, go_sem, m0, m1, m2]) rfl ⟨by rw [HFD.out]; rfl, ?_⟩
        exact (((below_drewN hBr _).setCell (Nat.le_refl _) _).setCell (Nat.le_refl _) _).setCell (Nat.le_refl _) _
      · rw [Bool.not_eq_true] at hq
        have hno2 : ∀ j (h : j < L.length), j < k + 1 → (fun x : Plain.Rn => (x.2.1 : Int) + x.2.2 == a) L[j] = false := fun j h hj => by
          by_cases e : j = k
          · subst e; rw [hxe]; exact hq
          · exact HNO.out j h (by omega)
        have HNO2 := Lib.hid hno2
        clear hno2 hxe hx hkl
        go_wp2_with fail
        go_quiet (fail)
        go_wp2
        go_roundw
        case rel => exact ⟨k + 1, by omega, by go_num, below_drewN hb _, HNO2.out⟩
        case measure => simp [RowKit.intOf]; omega
    · obtain rfl : N = k := by omega
      have hf : L.find? (fun x => (x.2.1 : Int) + x.2.2 == a) = none := by
        rw [List.find?_eq_none]
        intro x hx
        obtain ⟨j, hj, rfl⟩ := List.mem_iff_getElem.1 hx
        have := HNO.out j hj (by rw [← HN.out]; exact hj)
        simpa using this
      have HFD := Lib.hid hf
      clear hf hb
      go_wp2
      refine bodyPost_ret (v := .tuple #[.agg #[.int .i32 0, .int .i64 0, .int .i64 0], .bool false]) (by simp [results, Tryd.results15, go_sem, m0, m1, m2]) rfl ⟨by rw [HFD.out]; rfl, ?_⟩
      exact ((hBr.setCell (Nat.le_refl _) _).setCell (Nat.le_refl _) _).setCell (Nat.le_refl _) _
set_option maxRecDepth 100000 in
theorem rplace_any (s : ByteArray) (a : Int) (w : World) (hs : s.size ≤ 1048576) :
    Calls Tryd.prog 17 #[.string s, .int .i64 a] w fun e w' => e = .returned (.bool (Plain.placeB (Plain.allA 0 s.data.toList) a)) ∧ Below w.heap.size w w' := by
  have cA := rahead_any s a w hs
  cases ho : (Plain.allA 0 s.data.toList).find? fun x => (x.2.1 : Int) + x.2.2 == a with
  | none =>
    rw [ho] at cA
    have cA : Calls Tryd.prog 15 #[.string s, .int .i64 a] w fun e w' => e = .returned (.tuple #[.agg #[.int .i32 0, .int .i64 0, .int .i64 0], .bool false]) ∧ Below w.heap.size w w' := cA
    have hany : (Plain.allA 0 s.data.toList).any (fun x => (x.2.1 : Int) + x.2.2 == a) = false := by rw [← find_isSome, ho]; rfl
    have HA := Lib.hid cA
    have HY := Lib.hid hany
    clear cA hany ho
    go_enter Tryd.func17, Tryd.ntmps17
    go_wp2_with fail
    refine HA.out.mono ?_
    rintro e w1 ⟨rfl, hb1⟩
    have HB1 := Lib.hid hb1
    clear hb1
    go_wp2_with fail
    go_ret
    refine ⟨?_, HB1.out.alloc HB1.out.size _⟩
    unfold Plain.placeB
    rw [HY.out]; rfl
  | some x =>
    rw [ho] at cA
    have cA : Calls Tryd.prog 15 #[.string s, .int .i64 a] w fun e w' => e = .returned (.tuple #[.agg #[.int .i32 x.1, .int .i64 x.2.1, .int .i64 x.2.2], .bool true]) ∧ Below w.heap.size w w' := cA
    have hany : (Plain.allA 0 s.data.toList).any (fun x => (x.2.1 : Int) + x.2.2 == a) = true := by rw [← find_isSome, ho]; rfl
    have HA := Lib.hid cA
    have HY := Lib.hid hany
    clear cA hany ho
    go_enter Tryd.func17, Tryd.ntmps17
    go_wp2_with fail
    refine HA.out.mono ?_
    rintro e w1 ⟨rfl, hb1⟩
    have HB1 := Lib.hid hb1
    clear hb1
    go_wp2_with fail
    go_ret
    refine ⟨?_, HB1.out.alloc HB1.out.size _⟩
    unfold Plain.placeB
    rw [HY.out]; rfl

set_option maxRecDepth 100000 in
theorem redge_none_none (s : ByteArray) (a : Int) (w : World) (hs : s.size ≤ 1048576) (h1 : (Plain.allA 0 s.data.toList).find? (fun x => (x.2.1 : Int) + x.2.2 == a) = none) (h2 : (Plain.allA 0 s.data.toList).find? (fun x => (x.2.1 : Int) == a) = none) :
    Calls Tryd.prog 19 #[.string s, .int .i64 a] w fun e w' => e = .returned (.bool (Plain.edgeB (Plain.allA 0 s.data.toList) a)) ∧ Below w.heap.size w w' := by
  have cA := rahead_any s a w hs
  rw [h1] at cA
  have cA : Calls Tryd.prog 15 #[.string s, .int .i64 a] w fun e w' => e = .returned (.tuple #[.agg #[.int .i32 0, .int .i64 0, .int .i64 0], .bool false]) ∧ Below w.heap.size w w' := cA
  have cB : ∀ W, Calls Tryd.prog 13 #[.string s, .int .i64 a] W fun e w' => e = .returned (.tuple #[.agg #[.int .i32 0, .int .i64 0, .int .i64 0], .bool false]) ∧ Below W.heap.size W w' := fun W => by
    have := rat_any s a W hs
    rw [h2] at this
    exact this
  have hfin : Plain.edgeB (Plain.allA 0 s.data.toList) a = (false != false) := by unfold Plain.edgeB; rw [h1, h2]; rfl
  have HA := Lib.hid cA
  have HC := Lib.hid cB
  have HF := Lib.hid hfin
  clear cA cB hfin h1 h2
  go_enter Tryd.func19, Tryd.ntmps19
  go_wp2_with fail
  refine HA.out.mono ?_
  rintro e w1 ⟨rfl, hb1⟩
  have hB1 : Below w.heap.size w (w1.alloc (.cells #[.int .i32 0, .int .i64 0, .int .i64 0] 31)) := hb1.alloc hb1.size _
  have hz1 : w.heap.size ≤ w1.heap.size := hb1.size
  have HB1 := Lib.hid hB1
  clear hb1 hB1
  go_wp2_with fail
  refine (HC.out _).mono ?_
  rintro e w2 ⟨rfl, hb2⟩
  have hx0 : w2.cell? ⟨w1.heap.size, 0, none⟩ = some (.int .i32 0) := by
    rw [hb2.cell (p := ⟨w1.heap.size, 0, none⟩) (by simp), cell_of_row _ _ _ _ _ _ (heap_alloc_new _ _)]; rfl
  have hx1 : ∀ O, (w2.alloc O).cell? ⟨w1.heap.size, 0, none⟩ = some (.int .i32 0) := fun O => by
    rw [World.cell?_alloc_lt w2 O ⟨w1.heap.size, 0, none⟩ (by have := hb2.size; simp at this; show w1.heap.size < w2.heap.size; omega)]; exact hx0
  have hB2 := HB1.out.trans (hb2.mono (by simp; omega))
  have HB2 := Lib.hid hB2
  clear hb2 hB2
  go_wp2_with (go_at_call 25; refine (rword_any _ _).mono ?_; rintro e w' ⟨rfl, rfl⟩)
  go_ret
  refine ⟨?_, HB2.out.alloc HB2.out.size _⟩
  rw [HF.out]
  all_goals first | rfl | (cases h : Plain.wordB x.1 <;> rfl) | (cases h : Plain.wordB y.1 <;> rfl) | (cases h : Plain.wordB x.1 <;> cases h' : Plain.wordB y.1 <;> rfl)

set_option maxRecDepth 100000 in
theorem redge_none_some (s : ByteArray) (a : Int) (y : Plain.Rn) (w : World) (hs : s.size ≤ 1048576) (h1 : (Plain.allA 0 s.data.toList).find? (fun x => (x.2.1 : Int) + x.2.2 == a) = none) (h2 : (Plain.allA 0 s.data.toList).find? (fun x => (x.2.1 : Int) == a) = some y) :
    Calls Tryd.prog 19 #[.string s, .int .i64 a] w fun e w' => e = .returned (.bool (Plain.edgeB (Plain.allA 0 s.data.toList) a)) ∧ Below w.heap.size w w' := by
  have cA := rahead_any s a w hs
  rw [h1] at cA
  have cA : Calls Tryd.prog 15 #[.string s, .int .i64 a] w fun e w' => e = .returned (.tuple #[.agg #[.int .i32 0, .int .i64 0, .int .i64 0], .bool false]) ∧ Below w.heap.size w w' := cA
  have cB : ∀ W, Calls Tryd.prog 13 #[.string s, .int .i64 a] W fun e w' => e = .returned (.tuple #[.agg #[.int .i32 y.1, .int .i64 y.2.1, .int .i64 y.2.2], .bool true]) ∧ Below W.heap.size W w' := fun W => by
    have := rat_any s a W hs
    rw [h2] at this
    exact this
  have hfin : Plain.edgeB (Plain.allA 0 s.data.toList) a = (false != Plain.wordB y.1) := by unfold Plain.edgeB; rw [h1, h2]; rfl
  have HA := Lib.hid cA
  have HC := Lib.hid cB
  have HF := Lib.hid hfin
  clear cA cB hfin h1 h2
  go_enter Tryd.func19, Tryd.ntmps19
  go_wp2_with fail
  refine HA.out.mono ?_
  rintro e w1 ⟨rfl, hb1⟩
  have hB1 : Below w.heap.size w (w1.alloc (.cells #[.int .i32 0, .int .i64 0, .int .i64 0] 31)) := hb1.alloc hb1.size _
  have hz1 : w.heap.size ≤ w1.heap.size := hb1.size
  have HB1 := Lib.hid hB1
  clear hb1 hB1
  go_wp2_with fail
  refine (HC.out _).mono ?_
  rintro e w2 ⟨rfl, hb2⟩
  have hx0 : w2.cell? ⟨w1.heap.size, 0, none⟩ = some (.int .i32 0) := by
    rw [hb2.cell (p := ⟨w1.heap.size, 0, none⟩) (by simp), cell_of_row _ _ _ _ _ _ (heap_alloc_new _ _)]; rfl
  have hx1 : ∀ O, (w2.alloc O).cell? ⟨w1.heap.size, 0, none⟩ = some (.int .i32 0) := fun O => by
    rw [World.cell?_alloc_lt w2 O ⟨w1.heap.size, 0, none⟩ (by have := hb2.size; simp at this; show w1.heap.size < w2.heap.size; omega)]; exact hx0
  have hB2 := HB1.out.trans (hb2.mono (by simp; omega))
  have HB2 := Lib.hid hB2
  clear hb2 hB2
  go_wp2_with (go_at_call 25; refine (rword_any _ _).mono ?_; rintro e w' ⟨rfl, rfl⟩)
  go_ret
  refine ⟨?_, HB2.out.alloc HB2.out.size _⟩
  rw [HF.out]
  all_goals first | rfl | (cases h : Plain.wordB x.1 <;> rfl) | (cases h : Plain.wordB y.1 <;> rfl) | (cases h : Plain.wordB x.1 <;> cases h' : Plain.wordB y.1 <;> rfl)

set_option maxRecDepth 100000 in
theorem redge_some_none (s : ByteArray) (a : Int) (x : Plain.Rn) (w : World) (hs : s.size ≤ 1048576) (h1 : (Plain.allA 0 s.data.toList).find? (fun x => (x.2.1 : Int) + x.2.2 == a) = some x) (h2 : (Plain.allA 0 s.data.toList).find? (fun x => (x.2.1 : Int) == a) = none) :
    Calls Tryd.prog 19 #[.string s, .int .i64 a] w fun e w' => e = .returned (.bool (Plain.edgeB (Plain.allA 0 s.data.toList) a)) ∧ Below w.heap.size w w' := by
  have cA := rahead_any s a w hs
  rw [h1] at cA
  have cA : Calls Tryd.prog 15 #[.string s, .int .i64 a] w fun e w' => e = .returned (.tuple #[.agg #[.int .i32 x.1, .int .i64 x.2.1, .int .i64 x.2.2], .bool true]) ∧ Below w.heap.size w w' := cA
  have cB : ∀ W, Calls Tryd.prog 13 #[.string s, .int .i64 a] W fun e w' => e = .returned (.tuple #[.agg #[.int .i32 0, .int .i64 0, .int .i64 0], .bool false]) ∧ Below W.heap.size W w' := fun W => by
    have := rat_any s a W hs
    rw [h2] at this
    exact this
  have hfin : Plain.edgeB (Plain.allA 0 s.data.toList) a = (Plain.wordB x.1 != false) := by unfold Plain.edgeB; rw [h1, h2]; rfl
  have HA := Lib.hid cA
  have HC := Lib.hid cB
  have HF := Lib.hid hfin
  clear cA cB hfin h1 h2
  go_enter Tryd.func19, Tryd.ntmps19
  go_wp2_with fail
  refine HA.out.mono ?_
  rintro e w1 ⟨rfl, hb1⟩
  have hB1 : Below w.heap.size w (w1.alloc (.cells #[.int .i32 x.1, .int .i64 x.2.1, .int .i64 x.2.2] 31)) := hb1.alloc hb1.size _
  have hz1 : w.heap.size ≤ w1.heap.size := hb1.size
  have HB1 := Lib.hid hB1
  clear hb1 hB1
  go_wp2_with fail
  refine (HC.out _).mono ?_
  rintro e w2 ⟨rfl, hb2⟩
  have hx0 : w2.cell? ⟨w1.heap.size, 0, none⟩ = some (.int .i32 x.1) := by
    rw [hb2.cell (p := ⟨w1.heap.size, 0, none⟩) (by simp), cell_of_row _ _ _ _ _ _ (heap_alloc_new _ _)]; rfl
  have hx1 : ∀ O, (w2.alloc O).cell? ⟨w1.heap.size, 0, none⟩ = some (.int .i32 x.1) := fun O => by
    rw [World.cell?_alloc_lt w2 O ⟨w1.heap.size, 0, none⟩ (by have := hb2.size; simp at this; show w1.heap.size < w2.heap.size; omega)]; exact hx0
  have hB2 := HB1.out.trans (hb2.mono (by simp; omega))
  have HB2 := Lib.hid hB2
  clear hb2 hB2
  go_wp2_with (go_at_call 25; refine (rword_any _ _).mono ?_; rintro e w' ⟨rfl, rfl⟩)
  go_ret
  refine ⟨?_, HB2.out.alloc HB2.out.size _⟩
  rw [HF.out]
  all_goals first | rfl | (cases h : Plain.wordB x.1 <;> rfl) | (cases h : Plain.wordB y.1 <;> rfl) | (cases h : Plain.wordB x.1 <;> cases h' : Plain.wordB y.1 <;> rfl)

set_option maxRecDepth 100000 in
theorem redge_some_some (s : ByteArray) (a : Int) (x : Plain.Rn) (y : Plain.Rn) (w : World) (hs : s.size ≤ 1048576) (h1 : (Plain.allA 0 s.data.toList).find? (fun x => (x.2.1 : Int) + x.2.2 == a) = some x) (h2 : (Plain.allA 0 s.data.toList).find? (fun x => (x.2.1 : Int) == a) = some y) :
    Calls Tryd.prog 19 #[.string s, .int .i64 a] w fun e w' => e = .returned (.bool (Plain.edgeB (Plain.allA 0 s.data.toList) a)) ∧ Below w.heap.size w w' := by
  have cA := rahead_any s a w hs
  rw [h1] at cA
  have cA : Calls Tryd.prog 15 #[.string s, .int .i64 a] w fun e w' => e = .returned (.tuple #[.agg #[.int .i32 x.1, .int .i64 x.2.1, .int .i64 x.2.2], .bool true]) ∧ Below w.heap.size w w' := cA
  have cB : ∀ W, Calls Tryd.prog 13 #[.string s, .int .i64 a] W fun e w' => e = .returned (.tuple #[.agg #[.int .i32 y.1, .int .i64 y.2.1, .int .i64 y.2.2], .bool true]) ∧ Below W.heap.size W w' := fun W => by
    have := rat_any s a W hs
    rw [h2] at this
    exact this
  have hfin : Plain.edgeB (Plain.allA 0 s.data.toList) a = (Plain.wordB x.1 != Plain.wordB y.1) := by unfold Plain.edgeB; rw [h1, h2]; rfl
  have HA := Lib.hid cA
  have HC := Lib.hid cB
  have HF := Lib.hid hfin
  clear cA cB hfin h1 h2
  go_enter Tryd.func19, Tryd.ntmps19
  go_wp2_with fail
  refine HA.out.mono ?_
  rintro e w1 ⟨rfl, hb1⟩
  have hB1 : Below w.heap.size w (w1.alloc (.cells #[.int .i32 x.1, .int .i64 x.2.1, .int .i64 x.2.2] 31)) := hb1.alloc hb1.size _
  have hz1 : w.heap.size ≤ w1.heap.size := hb1.size
  have HB1 := Lib.hid hB1
  clear hb1 hB1
  go_wp2_with fail
  refine (HC.out _).mono ?_
  rintro e w2 ⟨rfl, hb2⟩
  have hx0 : w2.cell? ⟨w1.heap.size, 0, none⟩ = some (.int .i32 x.1) := by
    rw [hb2.cell (p := ⟨w1.heap.size, 0, none⟩) (by simp), cell_of_row _ _ _ _ _ _ (heap_alloc_new _ _)]; rfl
  have hx1 : ∀ O, (w2.alloc O).cell? ⟨w1.heap.size, 0, none⟩ = some (.int .i32 x.1) := fun O => by
    rw [World.cell?_alloc_lt w2 O ⟨w1.heap.size, 0, none⟩ (by have := hb2.size; simp at this; show w1.heap.size < w2.heap.size; omega)]; exact hx0
  have hB2 := HB1.out.trans (hb2.mono (by simp; omega))
  have HB2 := Lib.hid hB2
  clear hb2 hB2
  go_wp2_with (go_at_call 25; refine (rword_any _ _).mono ?_; rintro e w' ⟨rfl, rfl⟩)
  go_ret
  refine ⟨?_, HB2.out.alloc HB2.out.size _⟩
  rw [HF.out]
  all_goals first | rfl | (cases h : Plain.wordB x.1 <;> rfl) | (cases h : Plain.wordB y.1 <;> rfl) | (cases h : Plain.wordB x.1 <;> cases h' : Plain.wordB y.1 <;> rfl)

theorem redge_any (s : ByteArray) (a : Int) (w : World) (hs : s.size ≤ 1048576) :
    Calls Tryd.prog 19 #[.string s, .int .i64 a] w fun e w' => e = .returned (.bool (Plain.edgeB (Plain.allA 0 s.data.toList) a)) ∧ Below w.heap.size w w' := by
  cases h1 : (Plain.allA 0 s.data.toList).find? fun x => (x.2.1 : Int) + x.2.2 == a <;> cases h2 : (Plain.allA 0 s.data.toList).find? fun x => (x.2.1 : Int) == a
  · exact redge_none_none s a w hs h1 h2
  · exact redge_none_some s a _ w hs h1 h2
  · exact redge_some_none s a _ w hs h1 h2
  · exact redge_some_some s a _ _ w hs h1 h2
end Go.Proofs.YtjkialgdaikijaaDoor
