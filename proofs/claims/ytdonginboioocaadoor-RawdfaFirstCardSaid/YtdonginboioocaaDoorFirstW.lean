/- The walk of RawdfaFirst. Conditions: what the lemma says. -/
import Derived.Deep.CutBlock
import Derived.Deep.DeepCutAuto
import Derived.Laws.BytesString
import Derived.Laws.Cells
import Derived.Test.YtdonginboioocaaDoorReadsW
set_option linter.unusedVariables false
set_option linter.unusedSimpArgs false
namespace Go.Proofs.YtdonginboioocaaDoor
open Go.RowKit Go.Lib
def bstr (ns : List Int) : ByteArray := ns.foldl (fun r n => r.push (UInt8.ofNat n.toNat)) ByteArray.empty
theorem bstr_list (ns : List Int) : (bstr ns).data.toList = ns.map fun n => UInt8.ofNat n.toNat := by
  have h : ∀ (ns : List Int) (s : ByteArray), (ns.foldl (fun r n => r.push (UInt8.ofNat n.toNat)) s).data.toList = s.data.toList ++ ns.map fun n => UInt8.ofNat n.toNat := by
    intro ns
    induction ns with
    | nil => intro s; simp
    | cons n ns ih => intro s; rw [List.foldl_cons, ih]; simp
  unfold bstr
  rw [h]; rfl
theorem conv_bytes {w : World} {base n c : Nat} {A : Option Addr} {ns : List Int} (h : w.ownsRow base 5 1 (.slice A n c) n (u8s ns)) : (convert 28 9 (.slice A n c)).run Tryd.prog w = .ok (.string (bstr ns)) w := by
  rw [run_convert_bytes_string w 28 9 5 A n c Tryd.underlying28 Tryd.underlying5 Tryd.underlying9]
  have hl := h.1
  rcases h.2 with ⟨hv, hn⟩ | ⟨g, cap, cur, hv, _⟩
  · injection hv with h1 h2 h3
    subst h1 h2 h3
    have : ns = [] := List.eq_nil_of_length_eq_zero (by simpa [u8s] using hl)
    subst this
    rfl
  · injection hv with h1 h2 h3
    subst h1
    have hc := h.cells (g := g) rfl
    have hlen : (u8s ns).length = n := by rw [hl, Nat.mul_one]
    have h2 := run_loadCells_list (P := Tryd.prog) (w := w) ⟨g, 0, none⟩ (u8s ns) hc
    rw [hlen] at h2
    exact run_bytesToString w _ n c ns h2
end Go.Proofs.YtdonginboioocaaDoor
namespace Go.Proofs.YtdonginboioocaaDoor.Plain
open Go.Lib
/-- letters -/
def letterB (X : Nat → Int) (i : Nat) : UInt8 := UInt8.ofNat (97 + X i % 10).toNat
def letters (X : Nat → Int) (k : Nat) : List (List UInt8) := (List.range k).map fun i => [letterB X i]
theorem letters_one (X : Nat → Int) (k : Nat) : ∀ p ∈ letters X k, OneRune p := fun p hp => by
  unfold letters at hp
  obtain ⟨i, _, rfl⟩ := List.mem_map.1 hp
  refine one_ascii _ ?_
  unfold letterB
  rw [UInt8.toNat_ofNat']
  omega
theorem letters_len (X : Nat → Int) (k : Nat) : ∀ p ∈ letters X k, p.length = 1 := fun p hp => by
  unfold letters at hp
  obtain ⟨i, _, rfl⟩ := List.mem_map.1 hp
  rfl
theorem letters_take (X : Nat → Int) (k i : Nat) (h : i ≤ k) : (letters X k).take i = letters X i := by
  unfold letters
  rw [← List.map_take, List.take_range, Nat.min_eq_left h]
theorem letters_flat (X : Nat → Int) (k : Nat) : (letters X k).flatten = (List.range k).map (letterB X) := by
  unfold letters
  induction k with
  | zero => rfl
  | succ k ih => rw [List.range_succ, List.map_append, List.flatten_append, ih]; simp
end Go.Proofs.YtdonginboioocaaDoor.Plain
namespace Go.Proofs.YtdonginboioocaaDoor
open Go.RowKit Go.Lib
/-- the text of letters -/
def lets (X : Nat → Int) (k : Nat) : List Int := (List.range k).map fun i => 97 + X i % 10
theorem lets_len (X : Nat → Int) (k : Nat) : (lets X k).length = k := by simp [lets]
theorem lets_succ (X : Nat → Int) (k : Nat) : lets X (k + 1) = lets X k ++ [97 + X k % 10] := by unfold lets; rw [List.range_succ, List.map_append]; rfl
theorem lets_bytes (X : Nat → Int) (k : Nat) : (bstr (lets X k)).data.toList = (Plain.letters X k).flatten := by
  rw [bstr_list, Plain.letters_flat]; unfold lets; rw [List.map_map]; rfl
theorem lets_size (X : Nat → Int) (k : Nat) : (bstr (lets X k)).size = k := by
  have := congrArg List.length (bstr_list (lets X k))
  rw [List.length_map, lets_len] at this
  simpa using this
/-- what holds of the first -/
theorem first_of (F K A : List Int) (X : Nat → Int) (k : Nat) : Plain.FirstAt F K A (Plain.letters X k) 0 0 (Plain.findN F K A (bstr (lets X k)).size (bstr (lets X k)).data.toList 0 0) := by
  have h := Plain.findP_first F K A (Plain.letters X k) (Plain.letters_len X k) 0 0
  rw [lets_bytes, Plain.findN_P F K A _ (Plain.letters_one X k) _ _ _ (by rw [← lets_bytes]; simp)]
  exact h
theorem state_of (F K : List Int) (X : Nat → Int) (k i : Nat) (h : i ≤ k) : Plain.stateN F K ((bstr (lets X k)).extract 0 i).size ((bstr (lets X k)).extract 0 i).data.toList 0 = Plain.stateP F K ((Plain.letters X k).take i) 0 := by
  have e : ((bstr (lets X k)).extract 0 i).data.toList = (Plain.letters X i).flatten := by
    rw [← lets_bytes X i, bstr_list]
    have h2 := bstr_list (lets X k)
    have : ((bstr (lets X k)).extract 0 i).data.toList = (bstr (lets X k)).data.toList.take i := by simp [ByteArray.data_extract]
    rw [this, h2]
    unfold lets
    rw [← List.map_take, ← List.map_take, List.take_range, Nat.min_eq_left h]
  rw [e, Plain.letters_take X k i h, Plain.stateN_P F K _ (Plain.letters_one X i) _ _ (by rw [← e]; simp)]
end Go.Proofs.YtdonginboioocaaDoor
namespace Go.Proofs.YtdonginboioocaaDoor
theorem info5 : (Tryd.prog.info? 5).map (fun i => (i.zero, i.size, i.bytes)) = some (some (.int .u8 0), 1, 1) := by kernel_rfl
end Go.Proofs.YtdonginboioocaaDoor
namespace Go.Proofs.YtdonginboioocaaDoor.Plain
theorem stateP_row {F K A : List Int} (hR : Right F K A) (ps : List (List UInt8)) : ∀ y q, y = F.length * q → q < A.length → ∃ q', stateP F K ps y = F.length * q' ∧ q' < A.length := by
  induction ps with
  | nil => intro y q hy hq; exact ⟨q, hy, hq⟩
  | cons p ps ih =>
    intro y q hy hq
    obtain ⟨⟨q', h1, h2⟩, _⟩ := goes_right hR y (runeOf p) q hy hq
    exact ih _ q' h1 h2
end Go.Proofs.YtdonginboioocaaDoor.Plain
namespace Go.Proofs.YtdonginboioocaaDoor
open Go.RowKit Go.Lib
set_option maxRecDepth 1000000 in
set_option maxHeartbeats 8000000 in
theorem first_walk (TP : Option Addr) (tp tpc : Nat) (TN : Option Addr) (tn tnc : Nat) (TA : Option Addr) (ta tac : Nat) (own : Bool) (PA : Option Addr) (PL : List Int) (pc : Nat) (NA : Option Addr) (NL : List Int) (nc : Nat) (AA : Option Addr) (AL : List Bool) (ac : Nat)
    (XA : Option Addr) (X : List Int) (xc : Nat) (w : World) (hG : GridAt w PA PL NA NL AA AL) (hX : Sl w XA (u8s X)) (hxl : X.length ≤ maxLen)
    (hx8 : ∀ k, k < X.length → 0 ≤ X.getD k 0 ∧ X.getD k 0 < 256) (hT : Tabs w) :
    Calls Tryd.prog 4 #[.agg #[.slice TP tp tpc, .slice TN tn tnc, .slice TA ta tac, .bool own, .slice PA PL.length pc, .slice NA NL.length nc, .slice AA AL.length ac], .slice XA X.length xc] w fun e w' => e = .returned (.bool true) ∧ Below w.heap.size w w' := by
  have cG := fun (W : World) (hb : Below w.heap.size w W) => grid_own TP tp tpc TN tn tnc TA ta tac PA PL pc NA NL nc AA AL ac W (hG.below hb)
  obtain ⟨Z, hZ⟩ : ∃ Z : Nat → Int, (fun i => X.getD i 0) = Z := ⟨_, rfl⟩
  obtain ⟨nx, hnx⟩ : ∃ n, X.length = n := ⟨_, rfl⟩
  have cX : ∀ W, Below w.heap.size w W → ∀ k, k < nx → ∃ b off, XA = some ⟨b, off, none⟩ ∧ W.cell? ⟨b, off + k, none⟩ = some (.int .u8 (Z k)) ∧ 0 ≤ Z k ∧ Z k < 256 := fun W hb k hk => by
    obtain ⟨b, off, e, _, hc⟩ := (hX.below hb).get k (by omega)
    exact ⟨b, off, e, by rw [← hZ]; exact hc, by rw [← hZ]; exact hx8 k (by omega)⟩
  rw [hnx] at hxl ⊢
  unfold maxLen at hxl
  have HT := Lib.hid hT
  have HG := Lib.hid cG
  have HX := Lib.hid cX
  have lp := hG.hp
  have ln := hG.hn
  have la := hG.ha
  unfold maxLen at lp ln la
  clear hG hX hT cG cX hx8 hZ hnx
  go_enter Tryd.func4, Tryd.ntmps4
  go_wp2_with fail
  have hb0 : Below w.heap.size w (w.alloc (.cells #[.slice TP tp tpc, .slice TN tn tnc, .slice TA ta tac, .bool own, .slice PA PL.length pc, .slice NA NL.length nc, .slice AA AL.length ac] 30)) := (Below.refl _ _).alloc (Nat.le_refl _) _
  refine (examples_any _ (HT.out.below hb0)).mono ?_
  rintro e w1 ⟨rfl, hb1⟩
  have hbk : w1.heap[w.heap.size]? = some (.cells #[.slice TP tp tpc, .slice TN tn tnc, .slice TA ta tac, .bool own, .slice PA PL.length pc, .slice NA NL.length nc, .slice AA AL.length ac] 30 (0, 0)) := by rw [hb1.block _ (by simp)]; exact heap_alloc_new _ _
  have hC1 : CellsAt w1 w.heap.size [.slice TP tp tpc, .slice TN tn tnc, .slice TA ta tac, .bool own, .slice PA PL.length pc, .slice NA NL.length nc, .slice AA AL.length ac] := (CellsAt.new w _ _).below hb1
  have k0 := hC1.at_ 0 _ rfl
  have k1 := hC1.at_ 1 _ rfl
  have k2 := hC1.at_ 2 _ rfl
  have k3 := hC1.at_ 3 _ rfl
  have k4 := hC1.at_ 4 _ rfl
  have k5 := hC1.at_ 5 _ rfl
  have k6 := hC1.at_ 6 _ rfl
  have f3 := blk_frozen hbk 3
  have hB1 := (hb0.trans (hb1.mono (by simp))).setCell (p := ⟨w.heap.size, 3, none⟩) (Nat.le_refl _) (.bool true)
  have HB1 := Lib.hid hB1
  clear hb0 hb1 hbk hC1 hB1
  go_wp2_with fail
  refine (HG.out _ HB1.out).mono ?_
  rintro e w2 ⟨a0, n0, a1, R, n1, a2, n2, rfl, hR, hO, hb2⟩
  have hq : Plain.tabRight (Plain.partsG (fun i => PL.getD i 0) (min PL.length 4)) (nums R) (Plain.accG (fun i => AL.getD i false) AL.length (1 + min AL.length 5)).length = true := by
    rw [hR]; exact Plain.grid_right _ _ _ _ _ _ _ (by omega) (by omega) (by omega)
  have hB2 := HB1.out.trans (hb2.mono HB1.out.size)
  generalize Plain.partsG (fun i => PL.getD i 0) (min PL.length 4) = P at hO hq ⊢
  generalize Plain.accG (fun i => AL.getD i false) AL.length (1 + min AL.length 5) = C at hO hq ⊢
  clear hR
  obtain ⟨hpr, hnl, hm0, hm64, hrows⟩ := Plain.tab_right _ _ _ hq
  obtain ⟨⟨hp0, hp64, _⟩, hpb⟩ := Plain.parts_bound P hpr
  have hRl : R.length ≤ 64 := by have : (nums R).length = R.length := by simp [nums]
                                 omega
  have hTab : TabAt w2 a0 P a1 R a2 C := hO.tab (by unfold maxLen; omega) (by unfold maxLen; omega) (by unfold maxLen; omega) fun r hr => by
    have := (hrows r.2.2 (by unfold nums; exact List.mem_map.2 ⟨r, hr, rfl⟩)).1
    unfold maxLen; omega
  have cL : ∀ W', Below w2.heap.size w2 W' → Calls Tryd.prog 10 #[.agg #[.slice a0 P.length n0, .slice a1 R.length n1, .slice a2 C.length n2]] W' (LaidRes P (nums R) C W') := fun W' hb => laid_any a0 P n0 a1 R n1 a2 C n2 W' (hTab.below hb) hq
  have hflat := Plain.flat_of_table P (nums R) C hq
  have HL := Lib.hid cL
  have HF := Lib.hid hflat
  have HB2 := Lib.hid hB2
  have hb0 : Below w2.heap.size w2 (w2.alloc (.cells #[.slice a0 P.length n0, .slice a1 R.length n1, .slice a2 C.length n2] 27)) := (Below.refl _ _).alloc (Nat.le_refl _) _
  have hC2 : CellsAt (w2.alloc (.cells #[.slice a0 P.length n0, .slice a1 R.length n1, .slice a2 C.length n2] 27)) w2.heap.size [.slice a0 P.length n0, .slice a1 R.length n1, .slice a2 C.length n2] := CellsAt.new w2 _ _
  have HQ2 := Lib.hid hb0
  have HC2 := Lib.hid hC2
  have HLEN := Lib.hid (And.intro hp64 (And.intro hm64 hnl))
  have HTB := Lib.hid hTab
  clear hb0 hC2 k0 k1 k2 k3 k4 k5 k6 f3 hO hq hB2 hTab cL hflat hb2 hpr hnl hm0 hm64 hrows hp0 hp64 hpb hRl
  unfold tabV
  have k0 := HC2.out.at_ 0 _ rfl
  have k1 := HC2.out.at_ 1 _ rfl
  have k2 := HC2.out.at_ 2 _ rfl
  go_wp2_with fail
  refine (HL.out _ HQ2.out).mono ?_
  rintro e w5 ⟨FA, fc, KA, kc, A3, ac3, rfl, hO, hN, hb⟩
  have HQ5 := Lib.hid (HQ2.out.trans (hb.mono HQ2.out.size))
  have HC5 := Lib.hid (HC2.out.below hb)
  have hT5 := HT.out.below (HB2.out.trans (HQ5.out.mono HB2.out.size))
  have hflat := HF.out
  have hRt := Plain.flat_right P _ _ (fun k hk => (hN.bF k hk).1) (fun k hk => (hN.bK k hk).1) hflat
  generalize Plain.cellsOf (nums R) = K at hO hN hflat hRt ⊢
  generalize hAc : Plain.accsOf C = A at hO hN hflat hRt ⊢
  have cf := fun s hs => find_later hO hN hT5 s hs hflat
  have cs := fun s hs => state_later hO hN hT5 s hs hflat
  have CF := Lib.hid cf
  have CS := Lib.hid cs
  have HRT := Lib.hid hRt
  have HAC := Lib.hid hAc
  have hCl : A.length = C.length := by rw [← hAc, Plain.accs_len]
  have HCL := Lib.hid hCl
  have hc0 : CellsAt (w5.alloc (.cells #[.slice FA P.length fc, .slice KA K.length kc, .slice A3 A.length ac3] 36)) w5.heap.size [.slice FA P.length fc, .slice KA K.length kc, .slice A3 A.length ac3] := CellsAt.new w5 _ _
  have hb0 : Below w5.heap.size w5 (w5.alloc (.cells #[.slice FA P.length fc, .slice KA K.length kc, .slice A3 A.length ac3] 36)) := (Below.refl _ _).alloc (Nat.le_refl _) _
  have HD0 := Lib.hid hc0
  have HR0 := Lib.hid hb0
  have HD5 := Lib.hid (HC5.out.below hb0)
  clear hO hN hT5 hc0 hb0 hb k0 k1 k2 hflat hRt cf cs hAc hCl
  unfold flatV
  obtain ⟨M, hM⟩ : ∃ M, min nx 14 = M := ⟨_, rfl⟩
  have hM1 : M ≤ nx := by omega
  have hM2 : M ≤ 14 := by omega
  have hM3 : M = nx ∨ M = 14 := by omega
  clear hM
  obtain ⟨i8, hi8, y0, y1, y2⟩ := info_parts info5
  go_upto_block 0 with fail
  generalize hw6 : w5.alloc (.cells #[.slice FA P.length fc, .slice KA K.length kc, .slice A3 A.length ac3] 36) = w6 at HD0 HR0 HD5 ⊢
  clear hw6
  go_cut [9] (fun u wx => Below w6.heap.size w6 wx ∧ wx.ownsRow w6.heap.size 5 1 u M (u8s (lets Z M)))
  case first =>
    go_wp2_with fail
    go_loopw [9, 10] (fun b i wr => ∃ (u : Value) (k : Nat), u = b ∧ k ≤ M ∧ i = .int .i64 k ∧ Below w6.heap.size w6 wr ∧ wr.ownsRow w6.heap.size 5 1 u k (u8s (lets Z k))) (fun _ i _ => M - (RowKit.intOf i).toNat)
    case atStart => exact ⟨_, 0, rfl, Nat.zero_le _, rfl, Below.refl _ _, World.ownsRow_nil _ _ _ _⟩
    case round =>
      obtain ⟨u, k, rfl, hk, rfl, hB, hU⟩ := hrel
      have HB := Lib.hid hB
      have HU := Lib.hid hU
      clear hB hU
      by_cases hlt : k < M
      · obtain ⟨xb, xo, rfl, hcx, x0, x1⟩ := HX.out wr ((HB2.out.trans ((HQ5.out.trans ((HR0.out.trans (HB.out.mono HR0.out.size)).mono HQ5.out.size)).mono HB2.out.size))) k (by omega)
        have hst : u8s (lets Z (k + 1)) = u8s (lets Z k) ++ [.int .u8 (97 + Z k % 10)] := by rw [lets_succ]; simp [u8s]
        have htm : Int.tmod (Z k) 10 = Z k % 10 := Int.tmod_eq_emod_of_nonneg x0
        obtain ⟨x30, x31⟩ : 0 ≤ Z k % 10 ∧ Z k % 10 < 10 := by omega
        obtain ⟨xs, hxs⟩ : ∃ xs, u8s (lets Z k) = xs := ⟨_, rfl⟩
        have hU := HU.out
        rw [hxs] at hst hU
        have hxl2 : xs.length ≤ 14 := by have := hU.1; omega
        generalize Z k % 10 = y at *
        generalize Z k = x at *
        have HST := Lib.hid hst
        have HU2 := Lib.hid hU
        have hsz := HB.out.size
        clear hst hU hxs HU
        go_wp2_with (at_builtin; refine wpList_append_own2 _ rfl (.tmp 37) (.tmp 44) _ rfl w6.heap.size 5 i8 _ 1 1 Tryd.underlying28 hi8 y0 y1 y2 rfl (by decide) u k xs rfl (HU2.out.alloc _) ⟨wr.heap.size, 0, none⟩ 1 1 [.int .u8 (97 + y)] rfl rfl ?c1 ?c2 ?c3 ?c4 ?c5 ?_)
        case c1 => exact CellsAt_add (CellsAt.new wr _ _)
        case c2 => intro u hu; simp only [List.mem_cons, List.not_mem_nil, or_false] at hu; subst hu; rfl
        case c3 => simp only [maxLen]; omega
        case c4 => omega
        case c5 => simp; omega
        intro v3 w7 hown2 hg2 _
        have hBn : Below w6.heap.size w6 w7 := (HB.out.alloc HB.out.size _).grown hg2 (by simp; omega) (fun g hg => (HU2.out.lt g hg).1)
        have HBn := Lib.hid hBn
        have HO := Lib.hid hown2
        clear hBn hg2 hown2
        go_wp2
        go_roundw
        case rel => exact ⟨_, k + 1, rfl, by omega, by go_num, HBn.out, by rw [HST.out]; exact HO.out⟩
        case measure => simp [RowKit.intOf]; omega
      · obtain rfl : M = k := by omega
        by_cases h4 : 14 < nx
        · go_wp2_with fail
          go_meet
          exact ⟨HB.out, HU.out⟩
        · obtain rfl : M = nx := by omega
          go_wp2_with fail
          go_meet
          exact ⟨HB.out, HU.out⟩
  case rest =>
    obtain ⟨hB, hU⟩ := hcut
    obtain ⟨ua, uc, rfl⟩ := own_slice hU
    have hcv := conv_bytes hU
    have hsz := lets_size Z M
    have hfst := first_of P K A Z M
    have hsto := state_of P K Z M
    obtain ⟨s, hs⟩ : ∃ s, bstr (lets Z M) = s := ⟨_, rfl⟩
    rw [hs] at hcv hsz hfst hsto
    obtain ⟨tot, htot⟩ : ∃ t, Plain.findN P K A s.size s.data.toList 0 0 = t := ⟨_, rfl⟩
    rw [htot] at hfst
    have c1 := CF.out s (by rw [hsz]; omega)
    rw [htot, foundV_eq] at c1
    unfold flatV at c1
    have C1 := Lib.hid c1
    have HSZ := Lib.hid hsz
    have HFS := Lib.hid hfst
    have HSO := Lib.hid hsto
    have HBR := Lib.hid (HR0.out.trans (hB.mono HR0.out.size))
    have HDc := Lib.hid (HD0.out.below hB)
    have HEc := Lib.hid (HD5.out.below hB)
    clear hU hsz hfst hsto c1 htot hs hB
    have k0 := HDc.out.at_ 0 _ rfl
    have k1 := HDc.out.at_ 1 _ rfl
    have k2 := HDc.out.at_ 2 _ rfl
    go_wp2_with fail
    refine (C1.out _ HBR.out).mono ?_
    rintro e w8 ⟨rfl, hb⟩
    have HB8 := Lib.hid hb
    have HD8 := Lib.hid (HDc.out.below hb)
    have HE8 := Lib.hid (HEc.out.below hb)
    clear hb k0 k1 k2 hcv
    cases tot with
    | none =>
      have hn : atOf none = 0 := rfl
      simp only [hn, Option.isSome_none]
      clear hn
      go_wp2_with fail
      go_loopw [14, 15] (fun i _ wr => ∃ k : Nat, k ≤ M + 1 ∧ i = .int .i64 k ∧ Below w8.heap.size w8 wr) (fun i _ _ => M + 1 - (RowKit.intOf i).toNat)
      case atStart => exact ⟨0, Nat.zero_le _, rfl, Below.refl _ _⟩
      case round =>
        obtain ⟨k, hk, rfl, hB⟩ := hrel
        by_cases hlt : k ≤ M
        · have hrow := Plain.stateP_row HRT.out ((Plain.letters Z M).take k) 0 0 rfl HRT.out.a0
          have hso := HSO.out k hlt
          have hacc : ∀ y, Plain.stateP P K ((Plain.letters Z M).take k) 0 = y → ∃ b, C.getD (y / P.length) false = b ∧ Plain.accd P A y = b := fun y hy => ⟨_, rfl, by
            unfold Plain.accd
            obtain ⟨q, h1, h2⟩ := hrow
            rw [← HAC.out]
            refine Plain.accs_get C _ ?_
            rw [← hy, h1, Nat.mul_div_cancel_left _ HRT.out.p0, ← HCL.out]; exact h2⟩
          obtain ⟨q, hq1, hq2⟩ := hrow
          obtain ⟨b, hb1, hb2⟩ := hacc _ rfl
          have cS := CS.out (s.extract 0 k) (by rw [size_list]; simp; have := HSZ.out; omega)
          rw [hso] at cS
          have hz : Plain.stateP P K ((Plain.letters Z M).take k) 0 / P.length = q := by rw [hq1, Nat.mul_div_cancel_left _ HRT.out.p0]
          rw [hz] at cS hb1
          unfold flatV at cS
          rw [HCL.out] at hq2
          obtain ⟨ab, ao, rfl, hab, hcl⟩ := HTB.out.acc (by rw [List.length_map]; omega)
          have hbig := HQ5.out.trans ((HBR.out.trans ((HB8.out.trans (hB.mono HB8.out.size)).mono HBR.out.size)).mono HQ5.out.size)
          have hce := (hbig.cell (p := ⟨ab, ao + q, none⟩) hab).trans (hcl q (.bool b) (by rw [List.getElem?_map, List.getElem?_eq_getElem hq2, ← hb1, Plain.getD_lt _ _ _ hq2]; rfl))
          have k0 := (HD8.out.below hB).at_ 0 _ rfl
          have k1 := (HD8.out.below hB).at_ 1 _ rfl
          have k2 := (HD8.out.below hB).at_ 2 _ rfl
          have e2 := (HE8.out.below hB).at_ 2 _ rfl
          have hg1 := (HD8.out.below hB).1
          have hg2 := (HE8.out.below hB).1
          have hg3 : ab < wr.heap.size := Nat.lt_of_lt_of_le hab hbig.size
          have hsz := HSZ.out
          have hi0 : (0 : Int) ≤ (k : Int) := by omega
          have hi1 : (k : Int) ≤ (s.size : Int) := by omega
          have hB2 : Below w5.heap.size w5 wr := HBR.out.trans ((HB8.out.trans (hB.mono HB8.out.size)).mono HBR.out.size)
          have HCS := Lib.hid cS
          have HBB := Lib.hid hB
          have HB5 := Lib.hid hB2
          have HAB := Lib.hid hb2
          clear hso hacc hq1 hb1 hb2 cS hz hcl hbig hB hB2
          go_wp2_with fail
          have HB5d := Lib.hid (HB5.out.drew)
          go_region_held3 (fun w' => w'.cell? ⟨w5.heap.size, 0, none⟩ = some (.slice FA P.length fc) ∧ w'.cell? ⟨w5.heap.size, 1, none⟩ = some (.slice KA K.length kc) ∧ w'.cell? ⟨w5.heap.size, 2, none⟩ = some (.slice A3 A.length ac3)) (first | go_keep | exact ⟨(hb9.cell (p := ⟨w5.heap.size, 0, none⟩) hg1).trans k0, (hb9.cell (p := ⟨w5.heap.size, 1, none⟩) hg1).trans k1, (hb9.cell (p := ⟨w5.heap.size, 2, none⟩) hg1).trans k2⟩) (first | (go_at_call 12; (with_reducible refine (HCS.out _ HB5d.out).mono ?_); rintro e w9 ⟨rfl, hb9⟩))
          have e2' := (hb9.cell (p := ⟨w2.heap.size, 2, none⟩) hg2).trans e2
          have hce' := (hb9.cell (p := ⟨ab, ao + q, none⟩) hg3).trans hce
          have hB9 : Below w8.heap.size w8 w9 := HBB.out.trans (Below.mono (show Below wr.heap.size wr w9 from ⟨hb9.os, hb9.tape, hb9.output, hb9.size, hb9.block⟩) HBB.out.size)
          have HB9 := Lib.hid hB9
          clear hb9 hB9 e2 hce k0 k1 k2
          have hq0 : (0 : Int) ≤ (q : Int) := by omega
          have hq1 : (q : Int) < (C.length : Int) := by omega
          have hb : b = false := by rw [← HAB.out]; exact HFS.out k (by rw [show (Plain.letters Z M).length = M from by simp [Plain.letters]]; exact hlt)
          subst hb
          go_wp2_with fail
          go_roundw
          case rel => exact ⟨k + 1, by omega, by go_num, HB9.out⟩
          case measure => simp [RowKit.intOf]; omega
        · obtain rfl : k = M + 1 := by omega
          have hsz := HSZ.out
          have hBx := HB2.out.trans ((HQ5.out.trans ((HBR.out.trans ((HB8.out.trans (hB.mono HB8.out.size)).mono HBR.out.size)).mono HQ5.out.size)).mono HB2.out.size)
          have HBX := Lib.hid hBx
          clear hBx hB
          go_wp2_with fail
          go_ret
          exact ⟨rfl, HBX.out⟩
    | some r =>
      have hn : atOf (some r) = (r : Int) := rfl
      simp only [hn, Option.isSome_some]
      clear hn
      go_wp2_with fail
      go_loopw [14, 15] (fun i _ wr => ∃ k : Nat, k ≤ M + 1 ∧ i = .int .i64 k ∧ Below w8.heap.size w8 wr) (fun i _ _ => M + 1 - (RowKit.intOf i).toNat)
      case atStart => exact ⟨0, Nat.zero_le _, rfl, Below.refl _ _⟩
      case round =>
        obtain ⟨k, hk, rfl, hB⟩ := hrel
        by_cases hlt : k ≤ M
        · have hrow := Plain.stateP_row HRT.out ((Plain.letters Z M).take k) 0 0 rfl HRT.out.a0
          have hso := HSO.out k hlt
          have hacc : ∀ y, Plain.stateP P K ((Plain.letters Z M).take k) 0 = y → ∃ b, C.getD (y / P.length) false = b ∧ Plain.accd P A y = b := fun y hy => ⟨_, rfl, by
            unfold Plain.accd
            obtain ⟨q, h1, h2⟩ := hrow
            rw [← HAC.out]
            refine Plain.accs_get C _ ?_
            rw [← hy, h1, Nat.mul_div_cancel_left _ HRT.out.p0, ← HCL.out]; exact h2⟩
          obtain ⟨q, hq1, hq2⟩ := hrow
          obtain ⟨b, hb1, hb2⟩ := hacc _ rfl
          have cS := CS.out (s.extract 0 k) (by rw [size_list]; simp; have := HSZ.out; omega)
          rw [hso] at cS
          have hz : Plain.stateP P K ((Plain.letters Z M).take k) 0 / P.length = q := by rw [hq1, Nat.mul_div_cancel_left _ HRT.out.p0]
          rw [hz] at cS hb1
          unfold flatV at cS
          rw [HCL.out] at hq2
          obtain ⟨ab, ao, rfl, hab, hcl⟩ := HTB.out.acc (by rw [List.length_map]; omega)
          have hbig := HQ5.out.trans ((HBR.out.trans ((HB8.out.trans (hB.mono HB8.out.size)).mono HBR.out.size)).mono HQ5.out.size)
          have hce := (hbig.cell (p := ⟨ab, ao + q, none⟩) hab).trans (hcl q (.bool b) (by rw [List.getElem?_map, List.getElem?_eq_getElem hq2, ← hb1, Plain.getD_lt _ _ _ hq2]; rfl))
          have k0 := (HD8.out.below hB).at_ 0 _ rfl
          have k1 := (HD8.out.below hB).at_ 1 _ rfl
          have k2 := (HD8.out.below hB).at_ 2 _ rfl
          have e2 := (HE8.out.below hB).at_ 2 _ rfl
          have hg1 := (HD8.out.below hB).1
          have hg2 := (HE8.out.below hB).1
          have hg3 : ab < wr.heap.size := Nat.lt_of_lt_of_le hab hbig.size
          have hsz := HSZ.out
          have hi0 : (0 : Int) ≤ (k : Int) := by omega
          have hi1 : (k : Int) ≤ (s.size : Int) := by omega
          have hB2 : Below w5.heap.size w5 wr := HBR.out.trans ((HB8.out.trans (hB.mono HB8.out.size)).mono HBR.out.size)
          have HCS := Lib.hid cS
          have HBB := Lib.hid hB
          have HB5 := Lib.hid hB2
          have HAB := Lib.hid hb2
          clear hso hacc hq1 hb1 hb2 cS hz hcl hbig hB hB2
          go_wp2_with fail
          have HB5d := Lib.hid (HB5.out.drew)
          go_region_held3 (fun w' => w'.cell? ⟨w5.heap.size, 0, none⟩ = some (.slice FA P.length fc) ∧ w'.cell? ⟨w5.heap.size, 1, none⟩ = some (.slice KA K.length kc) ∧ w'.cell? ⟨w5.heap.size, 2, none⟩ = some (.slice A3 A.length ac3)) (first | go_keep | exact ⟨(hb9.cell (p := ⟨w5.heap.size, 0, none⟩) hg1).trans k0, (hb9.cell (p := ⟨w5.heap.size, 1, none⟩) hg1).trans k1, (hb9.cell (p := ⟨w5.heap.size, 2, none⟩) hg1).trans k2⟩) (first | (go_at_call 12; (with_reducible refine (HCS.out _ HB5d.out).mono ?_); rintro e w9 ⟨rfl, hb9⟩))
          have e2' := (hb9.cell (p := ⟨w2.heap.size, 2, none⟩) hg2).trans e2
          have hce' := (hb9.cell (p := ⟨ab, ao + q, none⟩) hg3).trans hce
          have hB9 : Below w8.heap.size w8 w9 := HBB.out.trans (Below.mono (show Below wr.heap.size wr w9 from ⟨hb9.os, hb9.tape, hb9.output, hb9.size, hb9.block⟩) HBB.out.size)
          have HB9 := Lib.hid hB9
          clear hb9 hB9 e2 hce k0 k1 k2
          have hq0 : (0 : Int) ≤ (q : Int) := by omega
          have hq1 : (q : Int) < (C.length : Int) := by omega
          obtain ⟨j, hj, hrj, ha1, ha2⟩ := HFS.out
          rw [Nat.zero_add] at hrj
          have HA1 := Lib.hid ha1
          have HA2 := Lib.hid ha2
          clear ha1 ha2
          rcases Nat.lt_trichotomy k j with hkj | hkj | hkj
          · have hb : b = false := by rw [← HAB.out]; exact HA2.out k hkj
            subst hb
            have t1 : decide ((k : Int) < (r : Int)) = true := by simp; omega
            have t3 : decide (k < r) = true := by simp; omega
            have t2 : ((k : Int) == (r : Int)) = false := by simp; omega
            have t4 : (k == r) = false := by simp; omega
            clear hrj
            go_wp2_with fail
            go_roundw
            case rel => exact ⟨k + 1, by omega, by go_num, HB9.out⟩
            case measure => simp [RowKit.intOf]; omega
          · have hb : b = true := by rw [← HAB.out, hkj]; exact HA1.out
            subst hb
            have t1 : decide ((k : Int) < (r : Int)) = false := by simp; omega
            have t3 : decide (k < r) = false := by simp; omega
            have t2 : ((k : Int) == (r : Int)) = true := by simp; omega
            have t4 : (k == r) = true := by simp; omega
            clear hrj hkj
            go_wp2_with fail
            go_roundw
            case rel => exact ⟨k + 1, by omega, by go_num, HB9.out⟩
            case measure => simp [RowKit.intOf]; omega
          · have t1 : decide ((k : Int) < (r : Int)) = false := by simp; omega
            have t3 : decide (k < r) = false := by simp; omega
            have t2 : ((k : Int) == (r : Int)) = false := by simp; omega
            have t4 : (k == r) = false := by simp; omega
            clear hrj
            go_wp2_with fail
            go_roundw
            case rel => exact ⟨k + 1, by omega, by go_num, HB9.out⟩
            case measure => simp [RowKit.intOf]; omega
        · obtain rfl : k = M + 1 := by omega
          have hsz := HSZ.out
          have hBx := HB2.out.trans ((HQ5.out.trans ((HBR.out.trans ((HB8.out.trans (hB.mono HB8.out.size)).mono HBR.out.size)).mono HQ5.out.size)).mono HB2.out.size)
          have HBX := Lib.hid hBx
          clear hBx hB
          go_wp2_with fail
          go_ret
          exact ⟨rfl, HBX.out⟩
end Go.Proofs.YtdonginboioocaaDoor
