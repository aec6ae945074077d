/- The examples walked; what is laid of a right table. Conditions: what each lemma says. -/
import Derived.Deep.CutBlock
import Derived.Deep.DeepCutAuto
import Derived.Test.YtdonginboioocaaDoorWalksH
set_option linter.unusedVariables false
set_option linter.unusedSimpArgs false
namespace Go.Proofs.YtdonginboioocaaDoor.Plain
theorem cells_bd (P : List Int) (N : List (List Int)) (a : Nat) (h : tabRight P N a = true) : ∀ k, k < (cellsOf N).length → 0 ≤ (cellsOf N).getD k 0 ∧ (cellsOf N).getD k 0 ≤ 4096 := fun k hk => by
  obtain ⟨hp, hn, hn0, hn64, hrow⟩ := tab_right _ _ _ h
  obtain ⟨⟨b0, b64, hz⟩, hb⟩ := parts_bound P hp
  rw [getD_lt _ _ _ hk]
  have hm := List.getElem_mem hk
  unfold cellsOf at hm
  obtain ⟨r, hr, hx⟩ := List.mem_flatMap.1 hm
  obtain ⟨x, hx, he⟩ := List.mem_map.1 hx
  obtain ⟨hl, hb2⟩ := hrow r hr
  have h2 := hb2 x hx
  unfold cellsOf
  rw [← he, hl]
  obtain ⟨y, rfl⟩ : ∃ y : Nat, x = y := ⟨x.toNat, by omega⟩
  have : y * P.length ≤ 64 * 64 := Nat.mul_le_mul (by omega) b64
  rw [← Int.natCast_mul]
  omega
theorem accs_bd (C : List Bool) : ∀ k, k < (accsOf C).length → 0 ≤ (accsOf C).getD k 0 ∧ (accsOf C).getD k 0 ≤ 1 := fun k hk => by
  rw [getD_lt _ _ _ hk]
  have hm := List.getElem_mem hk
  generalize (accsOf C)[k] = x at *
  unfold accsOf at hm
  obtain ⟨b, _, rfl⟩ := List.mem_map.1 hm
  cases b <;> simp
theorem accs_len (C : List Bool) : (accsOf C).length = C.length := by simp [accsOf]
theorem accs_get (C : List Bool) (k : Nat) (hk : k < C.length) : ((accsOf C).getD k 0 == 1) = C.getD k false := by
  rw [getD_lt _ _ _ (by rw [accs_len]; exact hk), getD_lt _ _ _ hk]
  unfold accsOf
  rw [List.getElem_map]
  cases C[k] <;> rfl
end Go.Proofs.YtdonginboioocaaDoor.Plain
namespace Go.Proofs.YtdonginboioocaaDoor
open Go.RowKit Go.Lib
theorem own_le {w : World} {base : Nat} {e : TypeId} {size n c : Nat} {A : Option Addr} {xs : List Value} (h : w.ownsRow base e size (.slice A n c) n xs) : n ≤ c := by
  rcases Nat.eq_zero_or_pos n with h0 | h0
  · omega
  · obtain ⟨g, cap, hv, hc, _, _⟩ := own_at h h0
    injection hv with _ _ h3
    omega
/-- cells that were made -/
structure OwnFlat (base : Nat) (w : World) (FA : Option Addr) (F : List Int) (fc : Nat) (KA : Option Addr) (K : List Int) (kc : Nat) (AA : Option Addr) (A : List Int) (ac : Nat) : Prop where
  o0 : w.ownsRow base 42 1 (.slice FA F.length fc) F.length (u32s F)
  o1 : w.ownsRow base 42 1 (.slice KA K.length kc) K.length (u32s K)
  o2 : w.ownsRow base 42 1 (.slice AA A.length ac) A.length (u32s A)
  a01 : apart (.slice FA F.length fc) (.slice KA K.length kc)
  a02 : apart (.slice FA F.length fc) (.slice AA A.length ac)
  a12 : apart (.slice KA K.length kc) (.slice AA A.length ac)
theorem OwnFlat.flat {base : Nat} {w : World} {FA KA AA : Option Addr} {F K A : List Int} {fc kc ac : Nat} (h : OwnFlat base w FA F fc KA K kc AA A ac) : FlatAt w FA F KA K AA A :=
  ⟨own_Sl h.o0 (by simp [u32s]), own_Sl h.o1 (by simp [u32s]), own_Sl h.o2 (by simp [u32s])⟩
theorem OwnFlat.kept {base : Nat} {w w' : World} {FA KA AA : Option Addr} {F K A : List Int} {fc kc ac : Nat} (h : OwnFlat base w FA F fc KA K kc AA A ac) (hb : Below w.heap.size w w') : OwnFlat base w' FA F fc KA K kc AA A ac :=
  ⟨own_below h.o0 hb, own_below h.o1 hb, own_below h.o2 hb, h.a01, h.a02, h.a12⟩
/-- what OfTable hands back of a right table -/
def LaidRes (P : List Int) (N : List (List Int)) (C : List Bool) (w : World) (e : Ending) (w' : World) : Prop :=
  ∃ FA fc KA kc AA ac, e = .returned (.tuple #[flatV FA P fc KA (Plain.cellsOf N) kc AA (Plain.accsOf C) ac, .int .i64 0]) ∧ OwnFlat w.heap.size w' FA P fc KA (Plain.cellsOf N) kc AA (Plain.accsOf C) ac ∧ FlatNums P (Plain.cellsOf N) (Plain.accsOf C) kc ∧ Below w.heap.size w w'
theorem laid_any (PA : Option Addr) (P : List Int) (pc : Nat) (NA : Option Addr) (R : List Row) (nc : Nat) (AA : Option Addr) (C : List Bool) (ac : Nat) (w : World) (hT : TabAt w PA P NA R AA C)
    (hq : Plain.tabRight P (nums R) C.length = true) : Calls Tryd.prog 10 #[tabV PA P pc NA R nc AA C ac] w (LaidRes P (nums R) C w) := by
  obtain ⟨hp, hn, hn0, hn64, hrow⟩ := Plain.tab_right _ _ _ hq
  obtain ⟨⟨b0, b64, _⟩, hb⟩ := Plain.parts_bound P hp
  have hkl := Plain.cellsOf_len_le (nums R) P.length (fun r hr => (hrow r hr).1) b64 hn64
  refine (oftable_right PA P pc NA R nc AA C ac w hT hq).mono ?_
  rintro e w' ⟨v0, v1, v2, rfl, o0, o1, o2, a01, a02, a12, hbl⟩
  rw [← Plain.accs_len C] at o2
  obtain ⟨A0, c0, rfl⟩ := own_slice o0
  obtain ⟨A1, c1, rfl⟩ := own_slice o1
  obtain ⟨A2, c2, rfl⟩ := own_slice o2
  refine ⟨A0, c0, A1, c1, A2, c2, rfl, ⟨o0, o1, o2, a01, a02, a12⟩, ⟨by omega, by unfold maxLen; omega, by rw [Plain.accs_len, ← hn]; omega, own_le o1, fun k hk => ?_, fun k hk => ?_, fun k hk => ?_⟩, hbl⟩
  · have := hb k hk; omega
  · have := Plain.cells_bd P (nums R) C.length hq k hk; omega
  · have := Plain.accs_bd C k hk; omega
end Go.Proofs.YtdonginboioocaaDoor
namespace Go.Proofs.YtdonginboioocaaDoor
open Go.RowKit Go.Lib
def exP : List Int := [0, 98, 99]
def exN : List (List Int) := [[0, 1, 0], [1, 1, 1]]
def exC : List Bool := [false, true]
theorem ex_right : Plain.tabRight exP exN exC.length = true := by decide
theorem ex_flat : Plain.flatRight exP (Plain.cellsOf exN) (Plain.accsOf exC) = true := by decide
theorem ex_find1 : Plain.findN exP (Plain.cellsOf exN) (Plain.accsOf exC) 3 [97, 97, 98] 0 0 = some 3 := by decide +kernel
theorem ex_find2 : Plain.findN exP (Plain.cellsOf exN) (Plain.accsOf exC) 2 [97, 99] 0 0 = none := by decide +kernel
theorem ex_state1 : Plain.stateN exP (Plain.cellsOf exN) 3 [97, 97, 98] 0 / 3 = 1 := by decide +kernel
theorem ex_state2 : Plain.stateN exP (Plain.cellsOf exN) 1 [97] 0 / 3 = 0 := by decide +kernel
theorem Sl.of_cells {w : World} {g : Nat} {xs : List Value} (h : CellsAt w g xs) : Sl w (some ⟨g, 0, none⟩) xs := fun _ => ⟨g, 0, rfl, h.1, fun i u hu => by rw [Nat.zero_add]; exact h.2 i u hu⟩
theorem CellsAt.at_size {w : World} {n : Nat} (h : w.heap.size = n) (c : Array Value) (t : TypeId) : CellsAt (w.alloc (.cells c t)) n c.toList := by rw [← h]; exact CellsAt.new w c t
/-- Find, State of right cells, in whatever later world -/
theorem find_later {base : Nat} {W : World} {FA KA AA : Option Addr} {F K A : List Int} {fc kc ac : Nat} (hO : OwnFlat base W FA F fc KA K kc AA A ac) (hN : FlatNums F K A kc) (hT : Tabs W) (s : ByteArray) (hs : s.size ≤ 4398046511104) (hq : Plain.flatRight F K A = true) (W' : World) (hb : Below W.heap.size W W') :
    Calls Tryd.prog 11 #[flatV FA F fc KA K kc AA A ac, .string s] W' fun e w' => e = .returned (foundV (Plain.findN F K A s.size s.data.toList 0 0)) ∧ Below W'.heap.size W' w' := by
  have h := find_any FA F fc KA K kc AA A ac s W' ((hO.kept hb).flat) hN hs (hT.below hb)
  rw [hq] at h
  exact h
theorem state_later {base : Nat} {W : World} {FA KA AA : Option Addr} {F K A : List Int} {fc kc ac : Nat} (hO : OwnFlat base W FA F fc KA K kc AA A ac) (hN : FlatNums F K A kc) (hT : Tabs W) (s : ByteArray) (hs : s.size ≤ 4398046511104) (hq : Plain.flatRight F K A = true) (W' : World) (hb : Below W.heap.size W W') :
    Calls Tryd.prog 12 #[flatV FA F fc KA K kc AA A ac, .string s] W' fun e w' => e = .returned (.int .i64 ((Plain.stateN F K s.size s.data.toList 0 / F.length : Nat) : Int)) ∧ Below W'.heap.size W' w' := by
  have h := state_any FA F fc KA K kc AA A ac s W' ((hO.kept hb).flat) hN hs (hT.below hb)
  rw [hq] at h
  exact h
theorem state_none (s : ByteArray) (hs : s.size ≤ 4398046511104) (W : World) (hT : Tabs W) :
    Calls Tryd.prog 12 #[.agg #[.slice none 0 0, .slice none 0 0, .slice none 0 0], .string s] W fun e w' => e = .returned (.int .i64 (-1)) ∧ Below W.heap.size W w' := by
  have h := state_any none [] 0 none [] 0 none [] 0 s W ⟨Sl.nil _ _, Sl.nil _ _, Sl.nil _ _⟩ ⟨by simp, by simp, by simp, by simp, by simp, by simp, by simp⟩ hs hT
  exact h
set_option maxRecDepth 1000000 in
set_option maxHeartbeats 4000000 in
theorem examples_any (w : World) (hT : Tabs w) : Calls Tryd.prog 7 #[] w fun e w' => e = .returned (.bool true) ∧ Below w.heap.size w w' := by
  have HT := Lib.hid hT
  clear hT
  go_enter Tryd.func7, Tryd.ntmps7
  go_wp2_with fail
  generalize hW : (((((w.alloc (.cells #[.int .i32 0, .int .i32 98, .int .i32 99] 21)).alloc (.cells #[.int .i64 0, .int .i64 1, .int .i64 0] 3)).alloc (.cells #[.int .i64 1, .int .i64 1, .int .i64 1] 3)).alloc (.cells #[.slice (some ⟨w.heap.size + 1, 0, none⟩) 3 3, .slice (some ⟨w.heap.size + 1 + 1, 0, none⟩) 3 3] 49)).alloc (.cells #[.bool false, .bool true] 4)) = W
  have hBW : Below w.heap.size w W := by rw [← hW]; exact (((((Below.refl _ _).alloc (Nat.le_refl _) _).alloc (by simp) _).alloc (by simp; omega) _).alloc (by simp; omega) _).alloc (by simp; omega) _
  have hTab : TabAt W (some ⟨w.heap.size, 0, none⟩) exP (some ⟨w.heap.size + 1 + 1 + 1, 0, none⟩) [(some ⟨w.heap.size + 1, 0, none⟩, 3, [0, 1, 0]), (some ⟨w.heap.size + 1 + 1, 0, none⟩, 3, [1, 1, 1])] (some ⟨w.heap.size + 1 + 1 + 1 + 1, 0, none⟩) exC := by
    rw [← hW]
    refine ⟨Sl.of_cells ((((((CellsAt.new w _ _).alloc _).alloc _).alloc _).alloc _)), Sl.of_cells ((CellsAt.at_size (by simp) _ _).alloc _), fun r hr => ?_, Sl.of_cells (CellsAt.at_size (by simp) _ _), by unfold maxLen; simp [exP], by unfold maxLen; simp, by unfold maxLen; simp [exC]⟩
    simp only [List.mem_cons, List.not_mem_nil, or_false] at hr
    rcases hr with rfl | rfl
    · exact ⟨Sl.of_cells ((((CellsAt.at_size (by simp) _ _).alloc _).alloc _).alloc _), by unfold maxLen; simp⟩
    · exact ⟨Sl.of_cells (((CellsAt.at_size (by simp) _ _).alloc _).alloc _), by unfold maxLen; simp⟩
  clear hW
  have hL := laid_any _ exP 3 _ _ 2 _ exC 2 W hTab ex_right
  rw [show nums [((some ⟨w.heap.size + 1, 0, none⟩ : Option Addr), 3, [0, 1, 0]), (some ⟨w.heap.size + 1 + 1, 0, none⟩, 3, [1, 1, 1])] = exN from rfl] at hL
  refine hL.mono ?_
  rintro e w1 ⟨FA, fc, KA, kc, AA, ac, rfl, hO, hN, hb1⟩
  have hB1 := hBW.trans (hb1.mono hBW.size)
  have c1 : ∀ W', Below w1.heap.size w1 W' → Calls Tryd.prog 11 #[.agg #[.slice FA 3 fc, .slice KA 6 kc, .slice AA 2 ac], .string ⟨#[97, 97, 98]⟩] W' fun e w' => e = .returned (.tuple #[.int .i64 3, .bool true]) ∧ Below W'.heap.size W' w' := fun W' hb =>
    (find_later hO hN (HT.out.below hB1) ⟨#[97, 97, 98]⟩ (by decide) ex_flat W' hb).mono fun e w' ⟨he, hb'⟩ => ⟨by rw [he]; exact congrArg (fun x => Ending.returned (foundV x)) ex_find1, hb'⟩
  have c2 : ∀ W', Below w1.heap.size w1 W' → Calls Tryd.prog 11 #[.agg #[.slice FA 3 fc, .slice KA 6 kc, .slice AA 2 ac], .string ⟨#[97, 99]⟩] W' fun e w' => e = .returned (.tuple #[.int .i64 0, .bool false]) ∧ Below W'.heap.size W' w' := fun W' hb =>
    (find_later hO hN (HT.out.below hB1) ⟨#[97, 99]⟩ (by decide) ex_flat W' hb).mono fun e w' ⟨he, hb'⟩ => ⟨by rw [he]; exact congrArg (fun x => Ending.returned (foundV x)) ex_find2, hb'⟩
  have s1 : ∀ W', Below w1.heap.size w1 W' → Calls Tryd.prog 12 #[.agg #[.slice FA 3 fc, .slice KA 6 kc, .slice AA 2 ac], .string ⟨#[97, 97, 98]⟩] W' fun e w' => e = .returned (.int .i64 1) ∧ Below W'.heap.size W' w' := fun W' hb =>
    (state_later hO hN (HT.out.below hB1) ⟨#[97, 97, 98]⟩ (by decide) ex_flat W' hb).mono fun e w' ⟨he, hb'⟩ => ⟨by rw [he]; exact congrArg (fun x => Ending.returned (.int .i64 ((x : Nat) : Int))) ex_state1, hb'⟩
  have s2 : ∀ W', Below w1.heap.size w1 W' → Calls Tryd.prog 12 #[.agg #[.slice FA 3 fc, .slice KA 6 kc, .slice AA 2 ac], .string ⟨#[97]⟩] W' fun e w' => e = .returned (.int .i64 0) ∧ Below W'.heap.size W' w' := fun W' hb =>
    (state_later hO hN (HT.out.below hB1) ⟨#[97]⟩ (by decide) ex_flat W' hb).mono fun e w' ⟨he, hb'⟩ => ⟨by rw [he]; exact congrArg (fun x => Ending.returned (.int .i64 ((x : Nat) : Int))) ex_state2, hb'⟩
  have s3 : ∀ W', Below w1.heap.size w1 W' → Calls Tryd.prog 12 #[.agg #[.slice none 0 0, .slice none 0 0, .slice none 0 0], .string ⟨#[97]⟩] W' fun e w' => e = .returned (.int .i64 (-1)) ∧ Below W'.heap.size W' w' := fun W' hb =>
    state_none ⟨#[97]⟩ (by decide) W' ((HT.out.below hB1).below hb)
  have C1 := Lib.hid c1
  have C2 := Lib.hid c2
  have S1 := Lib.hid s1
  have S2 := Lib.hid s2
  have S3 := Lib.hid s3
  have HB1 := Lib.hid hB1
  have hc0 : CellsAt (w1.alloc (.cells #[.slice FA 3 fc, .slice KA 6 kc, .slice AA 2 ac] 36)) w1.heap.size [.slice FA 3 fc, .slice KA 6 kc, .slice AA 2 ac] := CellsAt.new w1 _ _
  have hb0 : Below w1.heap.size w1 (w1.alloc (.cells #[.slice FA 3 fc, .slice KA 6 kc, .slice AA 2 ac] 36)) := (Below.refl _ _).alloc (Nat.le_refl _) _
  have HC0 := Lib.hid hc0
  have HB0 := Lib.hid hb0
  clear c1 c2 s1 s2 s3 hB1 hc0 hb0 hO hN hL hTab hBW hb1
  unfold flatV
  rw [show exP.length = 3 from rfl, show (Plain.cellsOf exN).length = 6 from rfl, show (Plain.accsOf exC).length = 2 from rfl]
  go_wp2_with fail
  refine (C1.out _ HB0.out).mono ?_
  rintro e w2 ⟨rfl, hb⟩
  have HB2 := Lib.hid (HB0.out.trans (hb.mono HB0.out.size))
  have HC2 := Lib.hid (HC0.out.below hb)
  have k0 := HC2.out.at_ 0 _ rfl
  have k1 := HC2.out.at_ 1 _ rfl
  have k2 := HC2.out.at_ 2 _ rfl
  clear hb
  go_wp2_with fail
  refine (C2.out _ HB2.out).mono ?_
  rintro e w3 ⟨rfl, hb⟩
  have HB3 := Lib.hid (HB2.out.trans (hb.mono HB2.out.size))
  have HC3 := Lib.hid (HC2.out.below hb)
  clear k0 k1 k2
  have k0 := HC3.out.at_ 0 _ rfl
  have k1 := HC3.out.at_ 1 _ rfl
  have k2 := HC3.out.at_ 2 _ rfl
  clear hb
  go_wp2_with fail
  refine (S1.out _ HB3.out).mono ?_
  rintro e w4 ⟨rfl, hb⟩
  have HB4 := Lib.hid (HB3.out.trans (hb.mono HB3.out.size))
  have HC4 := Lib.hid (HC3.out.below hb)
  clear k0 k1 k2
  have k0 := HC4.out.at_ 0 _ rfl
  have k1 := HC4.out.at_ 1 _ rfl
  have k2 := HC4.out.at_ 2 _ rfl
  clear hb
  go_wp2_with fail
  refine (S2.out _ HB4.out).mono ?_
  rintro e w5 ⟨rfl, hb⟩
  have HB5 := Lib.hid (HB4.out.trans (hb.mono HB4.out.size))
  have HC5 := Lib.hid (HC4.out.below hb)
  clear k0 k1 k2
  have k0 := HC5.out.at_ 0 _ rfl
  have k1 := HC5.out.at_ 1 _ rfl
  have k2 := HC5.out.at_ 2 _ rfl
  clear hb
  go_wp2_with fail
  refine (S3.out _ HB5.out).mono ?_
  rintro e w6 ⟨rfl, hb⟩
  have HB6 := Lib.hid (HB5.out.trans (hb.mono HB5.out.size))
  have HC6 := Lib.hid (HC5.out.below hb)
  clear k0 k1 k2
  have k0 := HC6.out.at_ 0 _ rfl
  have k1 := HC6.out.at_ 1 _ rfl
  have k2 := HC6.out.at_ 2 _ rfl
  clear hb
  go_wp2_with fail
  go_ret
  exact ⟨rfl, HB1.out.trans (HB6.out.mono HB1.out.size)⟩
end Go.Proofs.YtdonginboioocaaDoor
