/- State walked; the table of a grid, plain. Conditions: what each lemma says. -/
import Derived.Test.YtdonginboioocaaDoorWalksF
set_option linter.unusedVariables false
namespace Go.Proofs.YtdonginboioocaaDoor
open Go.RowKit Go.Lib
/-- what holds at a jump to label l: 1 again, 0 the end -/
def StateAt (w0 : World) (FA KA AA : Option Addr) (F K A : List Int) (fc kc ac : Nat) (s : ByteArray) (tot : Nat) (qq : Bool) (l : Nat) (a : Act) (w : World) : Prop :=
  ∃ (w1 : World) (g : Nat) (u6 u7 u8 u9 u10 u11 u12 u13 u14 u15 u16 u17 u18 u19 u20 u21 u22 u23 u24 u25 u26 u27 u28 u29 u30 u31 u32 u33 u34 u35 u36 u37 u38 u39 : Value) (i y : Nat), a = ⟨#[.agg #[.slice FA F.length fc, .slice KA K.length kc, .slice AA A.length ac], .string s, .pointer (some ⟨w0.heap.size, 0, none⟩), undef, .int .i64 0, .pointer (some ⟨g, 0, none⟩), u6, u7, u8, u9, u10, u11, u12, u13, u14, u15, u16, u17, u18, u19, u20, u21, u22, u23, u24, u25, u26, u27, u28, u29, u30, u31, u32, u33, u34, u35, u36, u37, u38, u39], []⟩ ∧
    Mach w1 w g FA KA AA F.length K.length A.length fc kc ac s i y ∧ FlatAt w1 FA F KA K AA A ∧ Plain.Right F K A ∧ qq = true ∧ w0.heap.size < w1.heap.size ∧ (∀ j u, [Value.slice FA F.length fc, .slice KA K.length kc, .slice AA A.length ac][j]? = some u → w1.cell? ⟨w0.heap.size, j, none⟩ = some u) ∧ Below w0.heap.size w0 w1 ∧ Tabs w1 ∧ (∃ q, y = F.length * q ∧ q < A.length) ∧ i ≤ s.data.toList.length ∧ l ≤ 1 ∧ (l = 1 → Plain.StateSt F K A s.data.toList tot i y) ∧ (l = 0 → tot = y)
set_option maxRecDepth 100000 in
set_option maxHeartbeats 4000000 in
theorem state_any (FA : Option Addr) (F : List Int) (fc : Nat) (KA : Option Addr) (K : List Int) (kc : Nat) (AA : Option Addr) (A : List Int) (ac : Nat) (s : ByteArray) (w : World) (hX : FlatAt w FA F KA K AA A) (hN : FlatNums F K A kc)
    (hs : s.size ≤ 4398046511104) (hT : Tabs w) :
    Calls Tryd.prog 12 #[flatV FA F fc KA K kc AA A ac, .string s] w fun e w' => e = .returned (.int .i64 (if Plain.flatRight F K A then ((Plain.stateN F K s.size s.data.toList 0 / F.length : Nat) : Int) else -1)) ∧ Below w.heap.size w w' := by
  have hB0 : ∀ c t, Below w.heap.size w (w.alloc (.cells c t)) := fun c t => (Below.refl _ _).alloc (Nat.le_refl _) _
  have cR := fun (c : Array Value) (t : TypeId) => rightflat_any FA F fc KA K kc AA A ac (w.alloc (.cells c t)) (hX.below (hB0 c t)) hN
  have hsl : s.data.toList.length = s.size := by simp
  unfold flatV at cR ⊢
  obtain ⟨q, hq⟩ : ∃ q, Plain.flatRight F K A = q := ⟨_, rfl⟩
  rw [hq] at cR ⊢
  have hRt := fun (h : q = true) => Plain.flat_right F K A (fun k hk => (hN.bF k hk).1) (fun k hk => (hN.bK k hk).1) (hq.trans h)
  obtain ⟨tot, htot⟩ : ∃ x, Plain.stateN F K s.size s.data.toList 0 = x := ⟨_, rfl⟩
  have hst0 := fun (hR : Plain.Right F K A) => Plain.StateSt.start hR s.data.toList s.size (by rw [hsl]; exact Nat.le_refl _)
  rw [htot] at hst0 ⊢
  have HB0 := Lib.hid hB0
  have HX := Lib.hid hX
  have HT := Lib.hid hT
  have HN := Lib.hid hN
  have HC := Lib.hid cR
  have HRT := Lib.hid hRt
  have HST0 := Lib.hid hst0
  have HSL := Lib.hid hsl
  clear cR hB0 hX hT hN hq hRt hst0 htot hsl
  go_enter Tryd.func12, Tryd.ntmps12
  go_wp2_with fail
  refine wp_scope_jumpsN (StateAt w FA KA AA F K A fc kc ac s tot q) (findMu s.size 5) ?first ?pass
  case first =>
    go_wp2_with fail
    refine (HC.out _ _).mono ?_
    rintro e w1 ⟨rfl, hb⟩
    have hb1 := (HB0.out _ _).trans (hb.mono (by simp))
    have HBW := Lib.hid hb1
    have hC := (CellsAt.new w #[.slice FA F.length fc, .slice KA K.length kc, .slice AA A.length ac] 36).below hb
    have HB2 := Lib.hid hC.1
    have HB3 := Lib.hid hC.2
    have b0 := hC.at_ 0 _ rfl
    have b1 := hC.at_ 1 _ rfl
    have b2 := hC.at_ 2 _ rfl
    clear hC
    clear hb hb1
    cases q
    · go_wp2_with fail
      simp only [Exit.jumps]
      go_ret
      exact ⟨rfl, HBW.out⟩
    · have hR := HRT.out rfl
      have HR := Lib.hid hR
      clear hR
      go_wp2_with fail
      go_step3
      obtain ⟨i, y, hM, hS⟩ : ∃ i y : Nat, Mach w1 (w1.alloc (.cells #[.slice FA F.length fc, .slice KA K.length kc, .slice AA A.length ac, .string s, .int .i64 0, .int .u32 0] 56)) w1.heap.size FA KA AA F.length K.length A.length fc kc ac s i y ∧ Plain.StateSt F K A s.data.toList tot i y :=
        ⟨0, 0, ⟨heap_alloc_new _ _, (Below.refl _ _).alloc (Nat.le_refl _) _, Nat.le_refl _⟩, HST0.out HR.out⟩
      have HM := Lib.hid hM
      have HF1 := Lib.hid (HX.out.below HBW.out)
      have HT1 := Lib.hid (HT.out.below HBW.out)
      have HS := Lib.hid hS
      have hrow := HS.out.row
      clear hM hS b0 b1 b2 HX HT HST0 HRT HC
      generalize w1.alloc (.cells #[.slice FA F.length fc, .slice KA K.length kc, .slice AA A.length ac, .string s, .int .i64 0, .int .u32 0] 56) = wr at HM ⊢
      obtain ⟨c0, c1, c2, c3, c4, c5⟩ := HM.out.cells
      by_cases hend : i = s.size
      · have ht := HS.out.fin (by rw [hend, HSL.out])
        have he : ((i : Int) == (s.size : Int)) = true := by simp [hend]
        have HTT := Lib.hid ht
        clear ht hend
        go_wp2_with fail
        go_step3
        exact ⟨w1, _, _, _, _, _, _, _, _, _, _, _, _, _, _, _, _, _, _, _, _, _, _, _, _, _, _, _, _, _, _, _, _, _, _, _, i, y, rfl, HM.out, HF1.out, HR.out, rfl, HB2.out, HB3.out, HBW.out, HT1.out, HS.out.row, HS.out.le, Nat.zero_le _, (fun h => absurd h (by decide)), fun _ => HTT.out⟩
      have hi : i < s.size := by have := HS.out.le; rw [HSL.out] at this; omega
      have he : ((i : Int) == (s.size : Int)) = false := by simp; omega
      have hst := HS.out.step HR.out (by rw [HSL.out]; exact hi)
      obtain ⟨d1, d2⟩ := Plain.dec_le s.data.toList i (by rw [HSL.out]; exact hi)
      have HST := Lib.hid hst
      have cS := step_go HM.out HF1.out HR.out HS.out.row hi hs HT1.out
      generalize Plain.goes F K y (Go.Lib.decodeL (s.data.toList.drop i)).1 = y' at HST cS
      generalize (Go.Lib.decodeL (s.data.toList.drop i)).2 = sz at HST cS d1 d2
      obtain ⟨i', hi'⟩ : ∃ i', i + sz = i' := ⟨_, rfl⟩
      rw [hi'] at HST cS d2
      have hlt : i < i' := by omega
      have HCS := Lib.hid cS
      clear hst cS hi' d1 hend
      go_wp2_with fail
      refine HCS.out.mono ?_
      rintro e w3 ⟨rfl, hM3⟩
      have HM := Lib.hid hM3
      have HS := HST
      clear hM3 HCS HST c0 c1 c2 c3 c4 c5 he
      have hrow := HS.out.row
      obtain ⟨c0, c1, c2, c3, c4, c5⟩ := HM.out.cells
      by_cases hend : i' = s.size
      · have ht := HS.out.fin (by rw [hend, HSL.out])
        have he : ((i' : Int) == (s.size : Int)) = true := by simp [hend]
        have HTT := Lib.hid ht
        clear ht hend
        go_wp2_with fail
        go_step3
        exact ⟨w1, _, _, _, _, _, _, _, _, _, _, _, _, _, _, _, _, _, _, _, _, _, _, _, _, _, _, _, _, _, _, _, _, _, _, _, i', y', rfl, HM.out, HF1.out, HR.out, rfl, HB2.out, HB3.out, HBW.out, HT1.out, HS.out.row, HS.out.le, Nat.zero_le _, (fun h => absurd h (by decide)), fun _ => HTT.out⟩
      have hi2 : i' < s.size := by have := HS.out.le; rw [HSL.out] at this; omega
      have he : ((i' : Int) == (s.size : Int)) = false := by simp; omega
      have hst := HS.out.step HR.out (by rw [HSL.out]; exact hi2)
      obtain ⟨e1, e2⟩ := Plain.dec_le s.data.toList i' (by rw [HSL.out]; exact hi2)
      have HST := Lib.hid hst
      have cS := step_go HM.out HF1.out HR.out HS.out.row hi2 hs HT1.out
      generalize Plain.goes F K y' (Go.Lib.decodeL (s.data.toList.drop i')).1 = y'' at HST cS
      generalize (Go.Lib.decodeL (s.data.toList.drop i')).2 = sz2 at HST cS e1 e2
      obtain ⟨i'', hi''⟩ : ∃ i'', i' + sz2 = i'' := ⟨_, rfl⟩
      rw [hi''] at HST cS e2
      have hlt2 : i' < i'' := by omega
      have HCS := Lib.hid cS
      clear hst cS hi'' e1 hend
      go_wp2_with fail
      refine HCS.out.mono ?_
      rintro e w3 ⟨rfl, hM3⟩
      have HM := Lib.hid hM3
      have HS := HST
      clear hM3 HCS HST c0 c1 c2 c3 c4 c5 he
      have hrow := HS.out.row
      go_wp2_with fail
      go_step3
      exact ⟨w1, _, _, _, _, _, _, _, _, _, _, _, _, _, _, _, _, _, _, _, _, _, _, _, _, _, _, _, _, _, _, _, _, _, _, _, i'', y'', rfl, HM.out, HF1.out, HR.out, rfl, HB2.out, HB3.out, HBW.out, HT1.out, HS.out.row, HS.out.le, Nat.le_refl _, fun _ => HS.out, (fun h => absurd h (by decide))⟩
  case pass =>
    intro l a' wr hJ
    obtain ⟨w1, g, u6, u7, u8, u9, u10, u11, u12, u13, u14, u15, u16, u17, u18, u19, u20, u21, u22, u23, u24, u25, u26, u27, u28, u29, u30, u31, u32, u33, u34, u35, u36, u37, u38, u39, i, y, rfl, hM, hF1, hR, rfl, hB2, hB3, hBW, hT1, hrow, hle, hl, hS, hE⟩ := hJ
    have HM := Lib.hid hM
    have HF1 := Lib.hid hF1
    have HR := Lib.hid hR
    have HBW := Lib.hid hBW
    have HB2 := Lib.hid hB2
    have HB3 := Lib.hid hB3
    have HT1 := Lib.hid hT1
    clear hM hF1 hR hBW hB2 hB3 hT1 HX HT HST0 HRT HC
    by_cases h1 : l = 1
    · subst h1
      have HS := Lib.hid (hS rfl)
      clear hS hE hl hle
      refine ⟨_, rfl, ?_⟩
      have HM0 := HM
      obtain ⟨c0, c1, c2, c3, c4, c5⟩ := HM.out.cells
      by_cases hend : i = s.size
      · have ht := HS.out.fin (by rw [hend, HSL.out])
        have he : ((i : Int) == (s.size : Int)) = true := by simp [hend]
        have HTT := Lib.hid ht
        clear ht hend
        go_wp2_with fail
        go_step3
        exact ⟨⟨w1, _, _, _, _, _, _, _, _, _, _, _, _, _, _, _, _, _, _, _, _, _, _, _, _, _, _, _, _, _, _, _, _, _, _, _, i, y, rfl, HM.out, HF1.out, HR.out, rfl, HB2.out, HB3.out, HBW.out, HT1.out, HS.out.row, HS.out.le, Nat.zero_le _, (fun h => absurd h (by decide)), fun _ => HTT.out⟩, by simp [findMu]⟩
      have hi : i < s.size := by have := HS.out.le; rw [HSL.out] at this; omega
      have he : ((i : Int) == (s.size : Int)) = false := by simp; omega
      have hst := HS.out.step HR.out (by rw [HSL.out]; exact hi)
      obtain ⟨d1, d2⟩ := Plain.dec_le s.data.toList i (by rw [HSL.out]; exact hi)
      have HST := Lib.hid hst
      have cS := step_go HM.out HF1.out HR.out HS.out.row hi hs HT1.out
      generalize Plain.goes F K y (Go.Lib.decodeL (s.data.toList.drop i)).1 = y' at HST cS
      generalize (Go.Lib.decodeL (s.data.toList.drop i)).2 = sz at HST cS d1 d2
      obtain ⟨i', hi'⟩ : ∃ i', i + sz = i' := ⟨_, rfl⟩
      rw [hi'] at HST cS d2
      have hlt : i < i' := by omega
      have HCS := Lib.hid cS
      clear hst cS hi' d1 hend
      go_wp2_with fail
      refine HCS.out.mono ?_
      rintro e w3 ⟨rfl, hM3⟩
      have HM := Lib.hid hM3
      have HS := HST
      clear hM3 HCS HST c0 c1 c2 c3 c4 c5 he
      have hrow := HS.out.row
      obtain ⟨c0, c1, c2, c3, c4, c5⟩ := HM.out.cells
      by_cases hend : i' = s.size
      · have ht := HS.out.fin (by rw [hend, HSL.out])
        have he : ((i' : Int) == (s.size : Int)) = true := by simp [hend]
        have HTT := Lib.hid ht
        clear ht hend
        go_wp2_with fail
        go_step3
        exact ⟨⟨w1, _, _, _, _, _, _, _, _, _, _, _, _, _, _, _, _, _, _, _, _, _, _, _, _, _, _, _, _, _, _, _, _, _, _, _, i', y', rfl, HM.out, HF1.out, HR.out, rfl, HB2.out, HB3.out, HBW.out, HT1.out, HS.out.row, HS.out.le, Nat.zero_le _, (fun h => absurd h (by decide)), fun _ => HTT.out⟩, by simp [findMu]⟩
      have hi2 : i' < s.size := by have := HS.out.le; rw [HSL.out] at this; omega
      have he : ((i' : Int) == (s.size : Int)) = false := by simp; omega
      have hst := HS.out.step HR.out (by rw [HSL.out]; exact hi2)
      obtain ⟨e1, e2⟩ := Plain.dec_le s.data.toList i' (by rw [HSL.out]; exact hi2)
      have HST := Lib.hid hst
      have cS := step_go HM.out HF1.out HR.out HS.out.row hi2 hs HT1.out
      generalize Plain.goes F K y' (Go.Lib.decodeL (s.data.toList.drop i')).1 = y'' at HST cS
      generalize (Go.Lib.decodeL (s.data.toList.drop i')).2 = sz2 at HST cS e1 e2
      obtain ⟨i'', hi''⟩ : ∃ i'', i' + sz2 = i'' := ⟨_, rfl⟩
      rw [hi''] at HST cS e2
      have hlt2 : i' < i'' := by omega
      have HCS := Lib.hid cS
      clear hst cS hi'' e1 hend
      go_wp2_with fail
      refine HCS.out.mono ?_
      rintro e w3 ⟨rfl, hM3⟩
      have HM := Lib.hid hM3
      have HS := HST
      clear hM3 HCS HST c0 c1 c2 c3 c4 c5 he
      have hrow := HS.out.row
      go_wp2_with fail
      go_step3
      refine ⟨⟨w1, _, _, _, _, _, _, _, _, _, _, _, _, _, _, _, _, _, _, _, _, _, _, _, _, _, _, _, _, _, _, _, _, _, _, _, i'', y'', rfl, HM.out, HF1.out, HR.out, rfl, HB2.out, HB3.out, HBW.out, HT1.out, HS.out.row, HS.out.le, Nat.le_refl _, fun _ => HS.out, (fun h => absurd h (by decide))⟩, ?_⟩
      have m1 := HM.out.cells.2.2.2.2.1
      have m0 := HM0.out.cells.2.2.2.2.1
      simp [findMu, ptrOf, m1, m0, RowKit.intOf]
      omega
    · obtain rfl : l = 0 := by omega
      have ht := hE rfl
      have HTT := Lib.hid ht
      clear hS hE ht
      obtain ⟨c0, c1, c2, c3, c4, c5⟩ := HM.out.cells
      refine ⟨_, rfl, ?_⟩
      have hp : 0 < F.length := HR.out.p0
      have hp64 := HR.out.p64
      have k0 := ((CellsAt.below ⟨HB2.out, HB3.out⟩ (HM.out.below)).at_ 0 (.slice FA F.length fc) rfl)
      obtain ⟨z, hz⟩ : ∃ z, y / F.length = z := ⟨_, rfl⟩
      have hz2 : Int.tdiv (y : Int) (F.length : Int) = (z : Int) := by rw [← hz]; rfl
      have hyb : (y : Int) ≤ 4294967295 := by
        obtain ⟨qq, h1, h2⟩ := hrow
        have h3 := HR.out.a64
        have : F.length * qq ≤ 64 * 64 := Nat.mul_le_mul hp64 (by omega)
        omega
      have hzb : (z : Int) ≤ 4294967295 := by have := Nat.div_le_self y F.length; omega
      have HZ := Lib.hid hz
      clear hz hrow hle
      generalize hP : F.length = p at *
      have HP := Lib.hid hP
      clear hP
      go_wp2_with fail
      go_quiet (fail)
      go_wp2
      simp only [Exit.jumps]
      go_ret
      exact ⟨ret_int (by rw [if_pos rfl, HTT.out, HP.out, HZ.out]), below_drewN (HBW.out.trans (HM.out.below.mono HBW.out.size)) _⟩
end Go.Proofs.YtdonginboioocaaDoor
namespace Go.Proofs.YtdonginboioocaaDoor.Plain
/-- the table of a grid by its numbers -/
def lastG (X : Nat → Int) : Nat → Int
  | 0 => 96
  | k + 1 => lastG X k + 1 + X k % 3
def partsG (X : Nat → Int) (k : Nat) : List Int := 0 :: (List.range k).map fun i => lastG X (i + 1)
def cellG (Y : Nat → Int) (n m k : Nat) : Int := if k < n then Y k % (m : Int) else 0
def rowG (Y : Nat → Int) (n m p i j : Nat) : List Int := (List.range j).map fun x => cellG Y n m (i * p + x)
def rowsG (Y : Nat → Int) (n m p k : Nat) : List (List Int) := (List.range k).map fun i => rowG Y n m p i p
def accG (Z : Nat → Bool) (n k : Nat) : List Bool := (List.range k).map fun i => decide (i < n) && Z i
theorem lastG_bd (X : Nat → Int) (k : Nat) : 96 + (k : Int) ≤ lastG X k ∧ lastG X k ≤ 96 + 3 * (k : Int) := by
  induction k with
  | zero => simp [lastG]
  | succ k ih => rw [lastG]; omega
theorem partsG_succ (X : Nat → Int) (k : Nat) : partsG X (k + 1) = partsG X k ++ [lastG X (k + 1)] := by
  unfold partsG; rw [List.range_succ, List.map_append, List.map_singleton, List.cons_append]
theorem partsG_len (X : Nat → Int) (k : Nat) : (partsG X k).length = k + 1 := by simp [partsG]
theorem partsG_get (X : Nat → Int) (k j : Nat) (h : j < k) : (partsG X k).getD (j + 1) 0 = lastG X (j + 1) := by
  unfold partsG
  rw [List.getD_cons_succ, List.getD, List.getElem?_map, List.getElem?_range h]; rfl
theorem rowG_succ (Y : Nat → Int) (n m p i j : Nat) : rowG Y n m p i (j + 1) = rowG Y n m p i j ++ [cellG Y n m (i * p + j)] := by
  unfold rowG; rw [List.range_succ, List.map_append, List.map_singleton]
theorem rowG_len (Y : Nat → Int) (n m p i j : Nat) : (rowG Y n m p i j).length = j := by simp [rowG]
theorem rowsG_succ (Y : Nat → Int) (n m p k : Nat) : rowsG Y n m p (k + 1) = rowsG Y n m p k ++ [rowG Y n m p k p] := by
  unfold rowsG; rw [List.range_succ, List.map_append, List.map_singleton]
theorem rowsG_len (Y : Nat → Int) (n m p k : Nat) : (rowsG Y n m p k).length = k := by simp [rowsG]
theorem accG_succ (Z : Nat → Bool) (n k : Nat) : accG Z n (k + 1) = accG Z n k ++ [decide (k < n) && Z k] := by
  unfold accG; rw [List.range_succ, List.map_append, List.map_singleton]
theorem accG_len (Z : Nat → Bool) (n k : Nat) : (accG Z n k).length = k := by simp [accG]
theorem cellG_bd (Y : Nat → Int) (n m k : Nat) (hm : 0 < m) : 0 ≤ cellG Y n m k ∧ cellG Y n m k < m := by
  unfold cellG
  split
  · exact ⟨Int.emod_nonneg _ (by omega), Int.emod_lt_of_pos _ (by omega)⟩
  · omega
theorem grid_right (X Y : Nat → Int) (Z : Nat → Bool) (k n m a : Nat) (hk : k ≤ 4) (hm : 0 < m) (hm6 : m ≤ 6) : tabRight (partsG X k) (rowsG Y n m (k + 1) m) (accG Z a m).length = true := by
  unfold tabRight
  rw [rowsG_len, accG_len, partsG_len]
  have hp : partsRight (partsG X k) = true := by
    unfold partsRight
    rw [partsG_len, Nat.add_sub_cancel]
    simp only [Bool.and_eq_true, List.all_eq_true, List.mem_range, decide_eq_true_eq, Bool.not_eq_true', beq_eq_false_iff_ne, beq_iff_eq]
    refine ⟨⟨⟨⟨by omega, by omega⟩, rfl⟩, ?_⟩, fun j hj => ?_⟩
    · cases k with
      | zero => show (0 : Int) ≤ _; omega
      | succ k => rw [partsG_get X (k + 1) k (by omega)]; have := lastG_bd X (k + 1); omega
    · rw [partsG_get X k j hj]
      cases j with
      | zero => have := lastG_bd X 1; show (0 : Int) < lastG X 1; omega
      | succ j => rw [partsG_get X k j (by omega)]; have : lastG X (j + 1 + 1) = lastG X (j + 1) + 1 + X (j + 1) % 3 := rfl; omega
  rw [hp]
  simp only [BEq.rfl, Bool.true_and, Bool.and_eq_true, decide_eq_true_eq, Bool.not_eq_true', List.any_eq_false]
  refine ⟨⟨hm, by omega⟩, fun r hr => ?_⟩
  unfold rowsG at hr
  obtain ⟨i, _, rfl⟩ := List.mem_map.1 hr
  unfold rowWrong
  rw [rowG_len]
  simp only [BEq.rfl, Bool.not_true, Bool.false_or, Bool.not_eq_true, List.any_eq_false, Bool.or_eq_true, decide_eq_true_eq, not_or]
  intro x hx
  unfold rowG at hx
  obtain ⟨j, _, rfl⟩ := List.mem_map.1 hx
  have := cellG_bd Y n m (i * (k + 1) + j) hm
  omega
end Go.Proofs.YtdonginboioocaaDoor.Plain
