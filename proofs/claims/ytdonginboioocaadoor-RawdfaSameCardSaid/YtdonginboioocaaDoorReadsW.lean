/- The walk of RawdfaReads. Conditions: what the lemma says. -/
import Derived.Deep.CutBlock
import Derived.Deep.DeepCutAuto
import Derived.Test.YtdonginboioocaaDoorWalksI
set_option linter.unusedVariables false
set_option linter.unusedSimpArgs false
namespace Go.Proofs.YtdonginboioocaaDoor
open Go.RowKit Go.Lib
def pieceL (x : Int) : List UInt8 := (piece x).data.toList
theorem piece_one (x : Int) : Plain.OneRune (pieceL x) := by
  unfold pieceL piece
  obtain ⟨j, hj, h8⟩ : ∃ j, (x % 8).toNat = j ∧ j < 8 := ⟨_, rfl, by omega⟩
  rw [hj]
  have : j = 0 ∨ j = 1 ∨ j = 2 ∨ j = 3 ∨ j = 4 ∨ j = 5 ∨ j = 6 ∨ j = 7 := by omega
  rcases this with rfl | rfl | rfl | rfl | rfl | rfl | rfl | rfl
  · exact Plain.one_ascii 97 (by decide)
  · exact Plain.one_ascii 98 (by decide)
  · exact Plain.one_ascii 99 (by decide)
  · exact Plain.one_ascii 97 (by decide)
  · exact Plain.one_ascii 98 (by decide)
  · exact Plain.one_ascii 32 (by decide)
  · exact Plain.one_e
  · exact Plain.one_ff
def piecesL (X : Nat → Int) (k : Nat) : List (List UInt8) := (List.range k).map fun i => pieceL (X i)
theorem pieces_one (X : Nat → Int) (k : Nat) : ∀ p ∈ piecesL X k, Plain.OneRune p := fun p hp => by
  unfold piecesL at hp
  obtain ⟨i, _, rfl⟩ := List.mem_map.1 hp
  exact piece_one _
theorem txt_flat (X : Nat → Int) (k : Nat) : (txt X k).data.toList = (piecesL X k).flatten := by
  induction k with
  | zero => rfl
  | succ k ih =>
    rw [txt, ByteArray.data_append, Array.toList_append, ih]
    unfold piecesL
    rw [List.range_succ, List.map_append, List.flatten_append, List.map_singleton, List.flatten_singleton]
    rfl
theorem size_list (s : ByteArray) : s.size = s.data.toList.length := by simp
theorem reads_more (F K A : List Int) (X Y : Nat → Int) (k m r : Nat) (h : Plain.findN F K A (txt X k).size (txt X k).data.toList 0 0 = some r) :
    Plain.findN F K A (txt X k ++ (⟨#[97]⟩ ++ txt Y m)).size (txt X k ++ (⟨#[97]⟩ ++ txt Y m)).data.toList 0 0 = some r := by
  have e : (txt X k ++ ((⟨#[97]⟩ : ByteArray) ++ txt Y m)).data.toList = (piecesL X k ++ ([97] :: piecesL Y m)).flatten := by
    rw [ByteArray.data_append, ByteArray.data_append, Array.toList_append, Array.toList_append, txt_flat, txt_flat, List.flatten_append, List.flatten_cons]
  rw [size_list, e, Plain.findN_P F K A _ (fun p hp => ?_) _ _ _ (Nat.le_refl _)]
  · rw [size_list, txt_flat, Plain.findN_P F K A _ (pieces_one X k) _ _ _ (Nat.le_refl _)] at h
    exact Plain.findP_more F K A _ _ _ _ _ h
  · rcases List.mem_append.1 hp with h' | h'
    · exact pieces_one X k p h'
    · rcases List.mem_cons.1 h' with rfl | h'
      · exact Plain.one_ascii 97 (by decide)
      · exact pieces_one Y m p h'
end Go.Proofs.YtdonginboioocaaDoor
namespace Go.Proofs.YtdonginboioocaaDoor
open Go.RowKit Go.Lib
def atOf : Option Nat → Int
  | some r => r
  | none => 0
theorem foundV_eq (t : Option Nat) : foundV t = .tuple #[.int .i64 (atOf t), .bool t.isSome] := by cases t <;> rfl
set_option maxRecDepth 1000000 in
set_option maxHeartbeats 8000000 in
theorem reads_walk (TP : Option Addr) (tp tpc : Nat) (TN : Option Addr) (tn tnc : Nat) (TA : Option Addr) (ta tac : Nat) (own : Bool) (PA : Option Addr) (PL : List Int) (pc : Nat) (NA : Option Addr) (NL : List Int) (nc : Nat) (AA : Option Addr) (AL : List Bool) (ac : Nat)
    (XA : Option Addr) (X : List Int) (xc : Nat) (YA : Option Addr) (Y : List Int) (yc : Nat) (w : World) (hG : GridAt w PA PL NA NL AA AL) (hX : Sl w XA (u8s X)) (hY : Sl w YA (u8s Y)) (hxl : X.length ≤ maxLen) (hyl : Y.length ≤ maxLen)
    (hx8 : ∀ k, k < X.length → 0 ≤ X.getD k 0 ∧ X.getD k 0 < 256) (hy8 : ∀ k, k < Y.length → 0 ≤ Y.getD k 0 ∧ Y.getD k 0 < 256) (hT : Tabs w) :
    Calls Tryd.prog 3 #[.agg #[.slice TP tp tpc, .slice TN tn tnc, .slice TA ta tac, .bool own, .slice PA PL.length pc, .slice NA NL.length nc, .slice AA AL.length ac], .slice XA X.length xc, .slice YA Y.length yc] w fun e w' => e = .returned (.bool true) ∧ Below w.heap.size w w' := by
  have cG := fun (W : World) (hb : Below w.heap.size w W) => grid_own TP tp tpc TN tn tnc TA ta tac PA PL pc NA NL nc AA AL ac W (hG.below hb)
  have cX := fun (W : World) (hb : Below w.heap.size w W) => text_any XA X xc 8 W (hX.below hb) hxl hx8 (by decide)
  have cY := fun (W : World) (hb : Below w.heap.size w W) => text_any YA Y yc 8 W (hY.below hb) hyl hy8 (by decide)
  have la1 := txt_le (fun i => X.getD i 0) (min X.length 8)
  have lb1 := txt_le (fun i => Y.getD i 0) (min Y.length 8)
  have hsA : (txt (fun i => X.getD i 0) (min X.length 8)).size ≤ 16 := by omega
  have hsB : (txt (fun i => Y.getD i 0) (min Y.length 8)).size ≤ 16 := by omega
  obtain ⟨sa, hsa⟩ : ∃ s, txt (fun i => X.getD i 0) (min X.length 8) = s := ⟨_, rfl⟩
  obtain ⟨sb, hsb⟩ : ∃ s, txt (fun i => Y.getD i 0) (min Y.length 8) = s := ⟨_, rfl⟩
  rw [hsa] at hsA cX
  rw [hsb] at hsB cY
  have HSA := Lib.hid hsa
  have HSB := Lib.hid hsb
  clear la1 lb1 hsa hsb
  have HT := Lib.hid hT
  have HG := Lib.hid cG
  have HX := Lib.hid cX
  have HY := Lib.hid cY
  have lp := hG.hp
  have ln := hG.hn
  have la := hG.ha
  unfold maxLen at lp ln la
  clear hG hX hY hT cG cX cY hx8 hy8 hxl hyl
  go_enter Tryd.func3, Tryd.ntmps3
  go_wp2_with fail
  have hb0 : Below w.heap.size w (w.alloc (.cells #[.slice TP tp tpc, .slice TN tn tnc, .slice TA ta tac, .bool own, .slice PA PL.length pc, .slice NA NL.length nc, .slice AA AL.length ac] 30)) := (Below.refl _ _).alloc (Nat.le_refl _) _
  refine (examples_any _ (HT.out.below hb0)).mono ?_
  rintro e w1 ⟨rfl, hb1⟩
  have hbk : w1.heap[w.heap.size]? = some (.cells #[.slice TP tp tpc, .slice TN tn tnc, .slice TA ta tac, .bool own, .slice PA PL.length pc, .slice NA NL.length nc, .slice AA AL.length ac] 30 (0, 0)) := by rw [hb1.block _ (by simp)]; exact heap_alloc_new _ _
  have hC1 : CellsAt w1 w.heap.size [.slice TP tp tpc, .slice TN tn tnc, .slice TA ta tac, .bool own, .slice PA PL.length pc, .slice NA NL.length nc, .slice AA AL.length ac] := (CellsAt.new w _ _).below hb1
  have k0 := hC1.at_ 0 _ rfl
  have k1 := hC1.at_ 1 _ rfl
  have k2 := hC1.at_ 2 _ rfl
  have k3 := hC1.at_ 3 _ rfl
  have k4 := hC1.at_ 4 _ rfl
  have k5 := hC1.at_ 5 _ rfl
  have k6 := hC1.at_ 6 _ rfl
  have f3 := blk_frozen hbk 3
  have hB1 := (hb0.trans (hb1.mono (by simp))).setCell (p := ⟨w.heap.size, 3, none⟩) (Nat.le_refl _) (.bool true)
  have HB1 := Lib.hid hB1
  clear hb0 hb1 hbk hC1 hB1
  go_wp2_with fail
  refine (HG.out _ HB1.out).mono ?_
  rintro e w2 ⟨a0, n0, a1, R, n1, a2, n2, rfl, hR, hO, hb2⟩
  have hq : Plain.tabRight (Plain.partsG (fun i => PL.getD i 0) (min PL.length 4)) (nums R) (Plain.accG (fun i => AL.getD i false) AL.length (1 + min AL.length 5)).length = true := by
    rw [hR]; exact Plain.grid_right _ _ _ _ _ _ _ (by omega) (by omega) (by omega)
  have hB2 := HB1.out.trans (hb2.mono HB1.out.size)
  generalize Plain.partsG (fun i => PL.getD i 0) (min PL.length 4) = P at hO hq ⊢
  generalize Plain.accG (fun i => AL.getD i false) AL.length (1 + min AL.length 5) = C at hO hq ⊢
  clear hR
  obtain ⟨hpr, hnl, hm0, hm64, hrows⟩ := Plain.tab_right _ _ _ hq
  obtain ⟨⟨hp0, hp64, _⟩, hpb⟩ := Plain.parts_bound P hpr
  have hRl : R.length ≤ 64 := by have : (nums R).length = R.length := by simp [nums]
                                 omega
  have hTab : TabAt w2 a0 P a1 R a2 C := hO.tab (by unfold maxLen; omega) (by unfold maxLen; omega) (by unfold maxLen; omega) fun r hr => by
    have := (hrows r.2.2 (by unfold nums; exact List.mem_map.2 ⟨r, hr, rfl⟩)).1
    unfold maxLen; omega
  have cL : ∀ W', Below w2.heap.size w2 W' → Calls Tryd.prog 10 #[.agg #[.slice a0 P.length n0, .slice a1 R.length n1, .slice a2 C.length n2]] W' (LaidRes P (nums R) C W') := fun W' hb => laid_any a0 P n0 a1 R n1 a2 C n2 W' (hTab.below hb) hq
  have hflat := Plain.flat_of_table P (nums R) C hq
  have HL := Lib.hid cL
  have HF := Lib.hid hflat
  have HB2 := Lib.hid hB2
  have hb0 : Below w2.heap.size w2 (w2.alloc (.cells #[.slice a0 P.length n0, .slice a1 R.length n1, .slice a2 C.length n2] 27)) := (Below.refl _ _).alloc (Nat.le_refl _) _
  have hC2 : CellsAt (w2.alloc (.cells #[.slice a0 P.length n0, .slice a1 R.length n1, .slice a2 C.length n2] 27)) w2.heap.size [.slice a0 P.length n0, .slice a1 R.length n1, .slice a2 C.length n2] := CellsAt.new w2 _ _
  have HQ2 := Lib.hid hb0
  have HC2 := Lib.hid hC2
  have HLEN := Lib.hid (And.intro hp64 (And.intro hm64 hnl))
  clear hb0 hC2 k0 k1 k2 k3 k4 k5 k6 f3 hO hq hB2 hTab cL hflat hb2 hpr hnl hm0 hm64 hrows hp0 hp64 hpb hRl
  unfold tabV
  go_wp2_with fail
  refine (HX.out _ (HB2.out.trans (HQ2.out.mono HB2.out.size))).mono ?_
  rintro e w3 ⟨rfl, hb⟩
  have HQ3 := Lib.hid (HQ2.out.trans (hb.mono HQ2.out.size))
  have HC3 := Lib.hid (HC2.out.below hb)
  clear hb
  go_wp2_with fail
  refine (HY.out _ (HB2.out.trans (HQ3.out.mono HB2.out.size))).mono ?_
  rintro e w4 ⟨rfl, hb⟩
  have HQ4 := Lib.hid (HQ3.out.trans (hb.mono HQ3.out.size))
  have HC4 := Lib.hid (HC3.out.below hb)
  have k0 := HC4.out.at_ 0 _ rfl
  have k1 := HC4.out.at_ 1 _ rfl
  have k2 := HC4.out.at_ 2 _ rfl
  clear hb
  go_wp2_with fail
  refine (HL.out _ HQ4.out).mono ?_
  rintro e w5 ⟨FA, fc, KA, kc, A3, ac3, rfl, hO, hN, hb⟩
  have HQ5 := Lib.hid (HQ4.out.trans (hb.mono HQ4.out.size))
  have HC5 := Lib.hid (HC4.out.below hb)
  have hT5 := HT.out.below (HB2.out.trans (HQ5.out.mono HB2.out.size))
  have hmore : ∀ F K A r, Plain.findN F K A sa.size sa.data.toList 0 0 = some r → Plain.findN F K A (sa ++ ((⟨#[97]⟩ : ByteArray) ++ sb)).size (sa ++ ((⟨#[97]⟩ : ByteArray) ++ sb)).data.toList 0 0 = some r := fun F K A r h => by
    rw [← HSA.out] at h ⊢; rw [← HSB.out]; exact reads_more F K A _ _ _ _ r h
  have hflat := HF.out
  have hKl : (Plain.cellsOf (nums R)).length = P.length * C.length := by
    obtain ⟨_, _, hl, _⟩ := Plain.flat_right P _ _ (fun k hk => (hN.bF k hk).1) (fun k hk => (hN.bK k hk).1) hflat
    rw [hl, Plain.accs_len]
  have hK64 : (Plain.cellsOf (nums R)).length ≤ 4096 := by
    have h1 := HLEN.out.2.1
    have h2 := HLEN.out.2.2
    have : P.length * C.length ≤ 64 * 64 := Nat.mul_le_mul HLEN.out.1 (by omega)
    omega
  clear hKl
  generalize hKe : Plain.cellsOf (nums R) = K at hO hN hflat hK64 HL ⊢
  generalize hAc : Plain.accsOf C = A at hO hN hflat HL ⊢
  have cf := fun s hs => find_later hO hN hT5 s hs hflat
  have cs := fun s hs => state_later hO hN hT5 s hs hflat
  obtain ⟨t1, ht1⟩ : ∃ t, Plain.findN P K A sa.size sa.data.toList 0 0 = t := ⟨_, rfl⟩
  obtain ⟨t2, ht2⟩ : ∃ t, Plain.findN P K A (sa ++ ((⟨#[97]⟩ : ByteArray) ++ sb)).size (sa ++ ((⟨#[97]⟩ : ByteArray) ++ sb)).data.toList 0 0 = t := ⟨_, rfl⟩
  have c1 := cf sa (by omega)
  have c2 := cf (sa ++ ((⟨#[97]⟩ : ByteArray) ++ sb)) (by rw [ByteArray.size_append, ByteArray.size_append]; show sa.size + (1 + sb.size) ≤ _; omega)
  have c3 := cs (⟨#[]⟩ : ByteArray) (by decide)
  rw [ht1, foundV_eq] at c1
  rw [ht2, foundV_eq] at c2
  have c3 : ∀ W', Below w5.heap.size w5 W' → Calls Tryd.prog 12 #[flatV FA P fc KA K kc A3 A ac3, .string ⟨#[]⟩] W' fun e w' => e = .returned (.int .i64 0) ∧ Below W'.heap.size W' w' := fun W' hb =>
    (c3 W' hb).mono fun e w' ⟨he, hb'⟩ => ⟨by rw [he]; show Ending.returned (.int .i64 ((0 / P.length : Nat) : Int)) = _; rw [Nat.zero_div]; rfl, hb'⟩
  have hm12 : ∀ r, t1 = some r → t2 = some r := fun r hr => by rw [← ht2]; exact hmore P K A r (by rw [ht1]; exact hr)
  unfold flatV at c1 c2 c3
  obtain ⟨p, hp⟩ : ∃ p, P.length = p := ⟨_, rfl⟩
  obtain ⟨n, hn⟩ : ∃ n, K.length = n := ⟨_, rfl⟩
  obtain ⟨a, ha⟩ : ∃ a, A.length = a := ⟨_, rfl⟩
  have hget : ∀ W', Below w5.heap.size w5 W' → ∀ k, k < n → ∃ b off, KA = some ⟨b, off, none⟩ ∧ W'.cell? ⟨b, off + k, none⟩ = some (.int .u32 (K.getD k 0)) := fun W' hb k hk => by
    obtain ⟨b, off, e, _, hc⟩ := ((hO.kept hb).flat.cells).get k (by omega)
    exact ⟨b, off, e, hc⟩
  have hnc : n ≤ kc := by have := hN.hkc; omega
  rw [hn] at hK64
  rw [hp, hn, ha] at c1 c2 c3
  have HKE := Lib.hid hKe
  have HAE := Lib.hid hAc
  have C1 := Lib.hid c1
  have C2 := Lib.hid c2
  have C3 := Lib.hid c3
  have HM := Lib.hid hm12
  have HGK := Lib.hid hget
  have HKN := Lib.hid hn
  have HPL := Lib.hid hp
  have HAL := Lib.hid ha
  have hc0 : CellsAt (w5.alloc (.cells #[.slice FA p fc, .slice KA n kc, .slice A3 a ac3] 36)) w5.heap.size [.slice FA p fc, .slice KA n kc, .slice A3 a ac3] := CellsAt.new w5 _ _
  have hb0 : Below w5.heap.size w5 (w5.alloc (.cells #[.slice FA p fc, .slice KA n kc, .slice A3 a ac3] 36)) := (Below.refl _ _).alloc (Nat.le_refl _) _
  have HD0 := Lib.hid hc0
  have HR0 := Lib.hid hb0
  have HD5 := Lib.hid (HC5.out.below hb0)
  clear c1 c2 c3 hm12 hget cf cs hmore hflat ht1 ht2 hO hN hT5 hc0 hb0 hb k0 k1 k2 hn ha hKe hAc
  have k0 := HD5.out.at_ 0 _ rfl
  have k1 := HD5.out.at_ 1 _ rfl
  have k2 := HD5.out.at_ 2 _ rfl
  unfold flatV
  rw [hp, HKN.out, HAL.out]
  clear hp
  go_wp2_with fail
  refine (HL.out _ (HQ5.out.trans (HR0.out.mono HQ5.out.size))).mono ?_
  rintro e w6 ⟨GA, gc, LA, lc, B3, bc3, rfl, hO2, hN2, hb⟩
  have HR6 := Lib.hid (HR0.out.trans (hb.mono HR0.out.size))
  have HD6 := Lib.hid (HD0.out.below hb)
  rw [HKE.out, HAE.out] at hO2 hN2 ⊢
  have hget2 : ∀ W', Below w6.heap.size w6 W' → ∀ k, k < n → ∃ b off, LA = some ⟨b, off, none⟩ ∧ W'.cell? ⟨b, off + k, none⟩ = some (.int .u32 (K.getD k 0)) := fun W' hb k hk => by
    obtain ⟨b, off, e, _, hc⟩ := ((hO2.kept hb).flat.cells).get k (by rw [HKN.out]; exact hk)
    exact ⟨b, off, e, hc⟩
  have hnl : n ≤ lc := by have := hN2.hkc; rw [HKN.out] at this; exact this
  have HGL := Lib.hid hget2
  have hc0 : CellsAt (w6.alloc (.cells #[.slice GA p gc, .slice LA n lc, .slice B3 a bc3] 36)) w6.heap.size [.slice GA p gc, .slice LA n lc, .slice B3 a bc3] := CellsAt.new w6 _ _
  have hb0 : Below w6.heap.size w6 (w6.alloc (.cells #[.slice GA p gc, .slice LA n lc, .slice B3 a bc3] 36)) := (Below.refl _ _).alloc (Nat.le_refl _) _
  have HE0 := Lib.hid hc0
  have HS0 := Lib.hid hb0
  have HDb := Lib.hid (HD6.out.below hb0)
  clear hO2 hN2 hb hget2 hc0 hb0 k0 k1 k2
  unfold flatV
  rw [HPL.out, HKN.out, HAL.out]
  have k0 := HDb.out.at_ 0 _ rfl
  have k1 := HDb.out.at_ 1 _ rfl
  have k2 := HDb.out.at_ 2 _ rfl
  go_wp2_with fail
  refine (C1.out _ (HR6.out.trans (HS0.out.mono HR6.out.size))).mono ?_
  rintro e w7 ⟨rfl, hb⟩
  have HS7 := Lib.hid (HS0.out.trans (hb.mono HS0.out.size))
  have HD7 := Lib.hid (HDb.out.below hb)
  have HE7 := Lib.hid (HE0.out.below hb)
  clear hb k0 k1 k2
  have k0 := HD7.out.at_ 0 _ rfl
  have k1 := HD7.out.at_ 1 _ rfl
  have k2 := HD7.out.at_ 2 _ rfl
  go_wp2_with fail
  refine (C2.out _ (HR6.out.trans (HS7.out.mono HR6.out.size))).mono ?_
  rintro e w8 ⟨rfl, hb⟩
  have HS8 := Lib.hid (HS7.out.trans (hb.mono HS7.out.size))
  have HD8 := Lib.hid (HD7.out.below hb)
  have HE8 := Lib.hid (HE7.out.below hb)
  clear hb k0 k1 k2
  have k0 := HD8.out.at_ 0 _ rfl
  have k1 := HD8.out.at_ 1 _ rfl
  have k2 := HD8.out.at_ 2 _ rfl
  have l1 := HE8.out.at_ 1 _ rfl
  have hnn : (!((n : Int) == (n : Int))) = false := by simp
  go_wp2_with fail
  go_loopw [19] (fun i wr => ∃ k : Nat, k ≤ n ∧ i = .int .i64 k ∧ Below w8.heap.size w8 wr) (fun i _ => n - (RowKit.intOf i).toNat)
  case atStart => exact ⟨0, Nat.zero_le _, rfl, Below.refl _ _⟩
  case round =>
    obtain ⟨k, hk, rfl, hB⟩ := hrel
    clear k0 k1 k2 l1
    have k0 := (HD8.out.below hB).at_ 0 _ rfl
    have k1 := (HD8.out.below hB).at_ 1 _ rfl
    have k2 := (HD8.out.below hB).at_ 2 _ rfl
    have l1 := (HE8.out.below hB).at_ 1 _ rfl
    have hS9 := HS8.out.trans (hB.mono HS8.out.size)
    have HS9 := Lib.hid hS9
    have HBB := Lib.hid hB
    clear hB hS9
    by_cases hlt : k < n
    · obtain ⟨kb, ko, rfl, hkc⟩ := HGK.out wr (HR6.out.trans (HS9.out.mono HR6.out.size)) k hlt
      obtain ⟨lb, lo, rfl, hlc⟩ := HGL.out wr HS9.out k hlt
      generalize K.getD k 0 = x at hkc hlc
      have hz0 : (0 : Int) ≤ (k : Int) := by omega
      have hz1 : (k : Int) < (n : Int) := by omega
      have hxx : (!(x == x)) = false := by simp
      go_wp2_with fail
      go_quiet (fail)
      go_wp2
      go_roundw
      case rel => exact ⟨k + 1, by omega, by go_num, below_drewN HBB.out _⟩
      case measure => simp [RowKit.intOf]; omega
    · obtain rfl : n = k := by omega
      have hM := HM.out
      clear hlt
      cases t1 with
      | none =>
        simp only [show atOf none = 0 from rfl, Option.isSome_none]
        go_wp2_with fail
        refine (C3.out _ (HR6.out.trans (HS9.out.mono HR6.out.size))).mono ?_
        rintro e w9 ⟨rfl, hb⟩
        have hF := HB2.out.trans ((HQ5.out.trans ((HR6.out.trans ((HS9.out.trans (hb.mono HS9.out.size)).mono HR6.out.size)).mono HQ5.out.size)).mono HB2.out.size)
        have HF9 := Lib.hid hF
        clear hF hb
        go_wp2
        go_ret
        exact ⟨rfl, HF9.out⟩
      | some r =>
        have h2 := hM r rfl
        subst h2
        clear hM
        simp only [atOf, Option.isSome_some]
        have hrr : ((r : Int) == (r : Int)) = true := by simp
        go_wp2_with fail
        refine (C3.out _ (HR6.out.trans (HS9.out.mono HR6.out.size))).mono ?_
        rintro e w9 ⟨rfl, hb⟩
        have hF := HB2.out.trans ((HQ5.out.trans ((HR6.out.trans ((HS9.out.trans (hb.mono HS9.out.size)).mono HR6.out.size)).mono HQ5.out.size)).mono HB2.out.size)
        have HF9 := Lib.hid hF
        clear hF hb
        go_wp2
        go_ret
        exact ⟨rfl, HF9.out⟩
end Go.Proofs.YtdonginboioocaaDoor
