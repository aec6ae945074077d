/- rawdfa.State. Conditions: what each lemma says. -/
import Derived.Test.YtgppobaoclfgcaaGreatDoorMacC
import Derived.Deep.CutBlock
import Derived.Deep.DeepCutAuto
set_option linter.unusedVariables false
set_option linter.unusedSimpArgs false
namespace Go.Proofs.YtgppobaoclfgcaaGreatDoor
open Go.RowKit Go.Lib
/-- what holds at a jump to label l: 1 again, 0 the end -/
def StateAt (w0 : World) (FA KA AA : Option Addr) (F K A : List Int) (fc kc ac : Nat) (s : ByteArray) (tot : Nat) (qq : Bool) (l : Nat) (a : Act) (w : World) : Prop :=
  ∃ (w1 : World) (g : Nat) (u6 u7 u8 u9 u10 u11 u12 u13 u14 u15 u16 u17 u18 u19 u20 u21 u22 u23 u24 u25 u26 u27 u28 u29 u30 u31 u32 u33 u34 u35 u36 u37 u38 u39 : Value) (i y : Nat), a = ⟨#[.agg #[.slice FA F.length fc, .slice KA K.length kc, .slice AA A.length ac], .string s, .pointer (some ⟨w0.heap.size, 0, none⟩), undef, .int .i64 0, .pointer (some ⟨g, 0, none⟩), u6, u7, u8, u9, u10, u11, u12, u13, u14, u15, u16, u17, u18, u19, u20, u21, u22, u23, u24, u25, u26, u27, u28, u29, u30, u31, u32, u33, u34, u35, u36, u37, u38, u39], []⟩ ∧
    Mach w1 w g FA KA AA F.length K.length A.length fc kc ac s i y ∧ FlatAt w1 FA F KA K AA A ∧ Plain.Right F K A ∧ qq = true ∧ w0.heap.size < w1.heap.size ∧ (∀ j u, [Value.slice FA F.length fc, .slice KA K.length kc, .slice AA A.length ac][j]? = some u → w1.cell? ⟨w0.heap.size, j, none⟩ = some u) ∧ Below w0.heap.size w0 w1 ∧ Tabs w1 ∧ (∃ q, y = F.length * q ∧ q < A.length) ∧ i ≤ s.data.toList.length ∧ l ≤ 1 ∧ (l = 1 → Plain.StateSt F K A s.data.toList tot i y) ∧ (l = 0 → tot = y)
set_option maxRecDepth 100000 in
set_option maxHeartbeats 4000000 in
theorem fstate_any (FA : Option Addr) (F : List Int) (fc : Nat) (KA : Option Addr) (K : List Int) (kc : Nat) (AA : Option Addr) (A : List Int) (ac : Nat) (s : ByteArray) (w : World) (hX : FlatAt w FA F KA K AA A) (hN : FlatNums F K A kc)
    (hs : s.size ≤ 4398046511104) (hT : Tabs w) :
    Calls Tryz.prog 12 #[flatV FA F fc KA K kc AA A ac, .string s] w fun e w' => e = .returned (.int .i64 (if Plain.flatRight F K A then ((Plain.stateN F K s.size s.data.toList 0 / F.length : Nat) : Int) else -1)) ∧ Below w.heap.size w w' := by
  have hB0 : ∀ c t, Below w.heap.size w (w.alloc (.cells c t)) := fun c t => (Below.refl _ _).alloc (Nat.le_refl _) _
  have cR := fun (c : Array Value) (t : TypeId) => rightflat_any FA F fc KA K kc AA A ac (w.alloc (.cells c t)) (hX.below (hB0 c t)) hN
  have hsl : s.data.toList.length = s.size := by simp
  unfold flatV at cR ⊢
  obtain ⟨q, hq⟩ : ∃ q, Plain.flatRight F K A = q := ⟨_, rfl⟩
  rw [hq] at cR ⊢
  have hRt := fun (h : q = true) => Plain.flat_right F K A (fun k hk => (hN.bF k hk).1) (fun k hk => (hN.bK k hk).1) (hq.trans h)
  obtain ⟨tot, htot⟩ : ∃ x, Plain.stateN F K s.size s.data.toList 0 = x := ⟨_, rfl⟩
  have hst0 := fun (hR : Plain.Right F K A) => Plain.StateSt.start hR s.data.toList s.size (by rw [hsl]; exact Nat.le_refl _)
  rw [htot] at hst0 ⊢
  have HB0 := Lib.hid hB0
  have HX := Lib.hid hX
  have HT := Lib.hid hT
  have HN := Lib.hid hN
  have HC := Lib.hid cR
  have HRT := Lib.hid hRt
  have HST0 := Lib.hid hst0
  have HSL := Lib.hid hsl
  clear cR hB0 hX hT hN hq hRt hst0 htot hsl
  go_enter Tryz.func12, Tryz.ntmps12
  go_wp2_with fail
  refine wp_scope_jumpsN (StateAt w FA KA AA F K A fc kc ac s tot q) (findMu s.size 5) ?first ?pass
  case first =>
    go_wp2_with fail
    refine (HC.out _ _).mono ?_
    rintro e w1 ⟨rfl, hb⟩
    have hb1 := (HB0.out _ _).trans (hb.mono (by simp))
    have HBW := Lib.hid hb1
    have hC := (CellsAt.new w #[.slice FA F.length fc, .slice KA K.length kc, .slice AA A.length ac] 47).below hb
    have HB2 := Lib.hid hC.1
    have HB3 := Lib.hid hC.2
    have b0 := hC.at_ 0 _ rfl
    have b1 := hC.at_ 1 _ rfl
    have b2 := hC.at_ 2 _ rfl
    clear hC
    clear hb hb1
    cases q
    · go_wp2_with fail
      simp only [Exit.jumps]
      go_ret
      exact ⟨rfl, HBW.out⟩
    · have hR := HRT.out rfl
      have HR := Lib.hid hR
      clear hR
      go_wp2_with fail
      go_step3
      obtain ⟨i, y, hM, hS⟩ : ∃ i y : Nat, Mach w1 (w1.alloc (.cells #[.slice FA F.length fc, .slice KA K.length kc, .slice AA A.length ac, .string s, .int .i64 0, .int .u32 0] 83)) w1.heap.size FA KA AA F.length K.length A.length fc kc ac s i y ∧ Plain.StateSt F K A s.data.toList tot i y :=
        ⟨0, 0, ⟨heap_alloc_new _ _, (Below.refl _ _).alloc (Nat.le_refl _) _, Nat.le_refl _⟩, HST0.out HR.out⟩
      have HM := Lib.hid hM
      have HF1 := Lib.hid (HX.out.below HBW.out)
      have HT1 := Lib.hid (HT.out.below HBW.out)
      have HS := Lib.hid hS
      have hrow := HS.out.row
      clear hM hS b0 b1 b2 HX HT HST0 HRT HC
      generalize w1.alloc (.cells #[.slice FA F.length fc, .slice KA K.length kc, .slice AA A.length ac, .string s, .int .i64 0, .int .u32 0] 83) = wr at HM ⊢
      obtain ⟨c0, c1, c2, c3, c4, c5⟩ := HM.out.cells
      by_cases hend : i = s.size
      · have ht := HS.out.fin (by rw [hend, HSL.out])
        have he : ((i : Int) == (s.size : Int)) = true := by simp [hend]
        have HTT := Lib.hid ht
        clear ht hend
        go_wp2_with fail
        go_step3
        exact ⟨w1, _, _, _, _, _, _, _, _, _, _, _, _, _, _, _, _, _, _, _, _, _, _, _, _, _, _, _, _, _, _, _, _, _, _, _, i, y, rfl, HM.out, HF1.out, HR.out, rfl, HB2.out, HB3.out, HBW.out, HT1.out, HS.out.row, HS.out.le, Nat.zero_le _, (fun h => absurd h (by decide)), fun _ => HTT.out⟩
      have hi : i < s.size := by have := HS.out.le; rw [HSL.out] at this; omega
      have he : ((i : Int) == (s.size : Int)) = false := by simp; omega
      have hst := HS.out.step HR.out (by rw [HSL.out]; exact hi)
      obtain ⟨d1, d2⟩ := Plain.dec_le s.data.toList i (by rw [HSL.out]; exact hi)
      have HST := Lib.hid hst
      have cS := step_go HM.out HF1.out HR.out HS.out.row hi hs HT1.out
      generalize Plain.goes F K y (Go.Lib.decodeL (s.data.toList.drop i)).1 = y' at HST cS
      generalize (Go.Lib.decodeL (s.data.toList.drop i)).2 = sz at HST cS d1 d2
      obtain ⟨i', hi'⟩ : ∃ i', i + sz = i' := ⟨_, rfl⟩
      rw [hi'] at HST cS d2
      have hlt : i < i' := by omega
      have HCS := Lib.hid cS
      clear hst cS hi' d1 hend
      go_wp2_with fail
      refine HCS.out.mono ?_
      rintro e w3 ⟨rfl, hM3⟩
      have HM := Lib.hid hM3
      have HS := HST
      clear hM3 HCS HST c0 c1 c2 c3 c4 c5 he
      have hrow := HS.out.row
      obtain ⟨c0, c1, c2, c3, c4, c5⟩ := HM.out.cells
      by_cases hend : i' = s.size
      · have ht := HS.out.fin (by rw [hend, HSL.out])
        have he : ((i' : Int) == (s.size : Int)) = true := by simp [hend]
        have HTT := Lib.hid ht
        clear ht hend
        go_wp2_with fail
        go_step3
        exact ⟨w1, _, _, _, _, _, _, _, _, _, _, _, _, _, _, _, _, _, _, _, _, _, _, _, _, _, _, _, _, _, _, _, _, _, _, _, i', y', rfl, HM.out, HF1.out, HR.out, rfl, HB2.out, HB3.out, HBW.out, HT1.out, HS.out.row, HS.out.le, Nat.zero_le _, (fun h => absurd h (by decide)), fun _ => HTT.out⟩
      have hi2 : i' < s.size := by have := HS.out.le; rw [HSL.out] at this; omega
      have he : ((i' : Int) == (s.size : Int)) = false := by simp; omega
      have hst := HS.out.step HR.out (by rw [HSL.out]; exact hi2)
      obtain ⟨e1, e2⟩ := Plain.dec_le s.data.toList i' (by rw [HSL.out]; exact hi2)
      have HST := Lib.hid hst
      have cS := step_go HM.out HF1.out HR.out HS.out.row hi2 hs HT1.out
      generalize Plain.goes F K y' (Go.Lib.decodeL (s.data.toList.drop i')).1 = y'' at HST cS
      generalize (Go.Lib.decodeL (s.data.toList.drop i')).2 = sz2 at HST cS e1 e2
      obtain ⟨i'', hi''⟩ : ∃ i'', i' + sz2 = i'' := ⟨_, rfl⟩
      rw [hi''] at HST cS e2
      have hlt2 : i' < i'' := by omega
      have HCS := Lib.hid cS
      clear hst cS hi'' e1 hend
      go_wp2_with fail
      refine HCS.out.mono ?_
      rintro e w3 ⟨rfl, hM3⟩
      have HM := Lib.hid hM3
      have HS := HST
      clear hM3 HCS HST c0 c1 c2 c3 c4 c5 he
      have hrow := HS.out.row
      go_wp2_with fail
      go_step3
      exact ⟨w1, _, _, _, _, _, _, _, _, _, _, _, _, _, _, _, _, _, _, _, _, _, _, _, _, _, _, _, _, _, _, _, _, _, _, _, i'', y'', rfl, HM.out, HF1.out, HR.out, rfl, HB2.out, HB3.out, HBW.out, HT1.out, HS.out.row, HS.out.le, Nat.le_refl _, fun _ => HS.out, (fun h => absurd h (by decide))⟩
  case pass =>
    intro l a' wr hJ
    obtain ⟨w1, g, u6, u7, u8, u9, u10, u11, u12, u13, u14, u15, u16, u17, u18, u19, u20, u21, u22, u23, u24, u25, u26, u27, u28, u29, u30, u31, u32, u33, u34, u35, u36, u37, u38, u39, i, y, rfl, hM, hF1, hR, rfl, hB2, hB3, hBW, hT1, hrow, hle, hl, hS, hE⟩ := hJ
    have HM := Lib.hid hM
    have HF1 := Lib.hid hF1
    have HR := Lib.hid hR
    have HBW := Lib.hid hBW
    have HB2 := Lib.hid hB2
    have HB3 := Lib.hid hB3
    have HT1 := Lib.hid hT1
    clear hM hF1 hR hBW hB2 hB3 hT1 HX HT HST0 HRT HC
    by_cases h1 : l = 1
    · subst h1
      have HS := Lib.hid (hS rfl)
      clear hS hE hl hle
      refine ⟨_, rfl, ?_⟩
      have HM0 := HM
      obtain ⟨c0, c1, c2, c3, c4, c5⟩ := HM.out.cells
      by_cases hend : i = s.size
      · have ht := HS.out.fin (by rw [hend, HSL.out])
        have he : ((i : Int) == (s.size : Int)) = true := by simp [hend]
        have HTT := Lib.hid ht
        clear ht hend
        go_wp2_with fail
        go_step3
        exact ⟨⟨w1, _, _, _, _, _, _, _, _, _, _, _, _, _, _, _, _, _, _, _, _, _, _, _, _, _, _, _, _, _, _, _, _, _, _, _, i, y, rfl, HM.out, HF1.out, HR.out, rfl, HB2.out, HB3.out, HBW.out, HT1.out, HS.out.row, HS.out.le, Nat.zero_le _, (fun h => absurd h (by decide)), fun _ => HTT.out⟩, by simp [findMu]⟩
      have hi : i < s.size := by have := HS.out.le; rw [HSL.out] at this; omega
      have he : ((i : Int) == (s.size : Int)) = false := by simp; omega
      have hst := HS.out.step HR.out (by rw [HSL.out]; exact hi)
      obtain ⟨d1, d2⟩ := Plain.dec_le s.data.toList i (by rw [HSL.out]; exact hi)
      have HST := Lib.hid hst
      have cS := step_go HM.out HF1.out HR.out HS.out.row hi hs HT1.out
      generalize Plain.goes F K y (Go.Lib.decodeL (s.data.toList.drop i)).1 = y' at HST cS
      generalize (Go.Lib.decodeL (s.data.toList.drop i)).2 = sz at HST cS d1 d2
      obtain ⟨i', hi'⟩ : ∃ i', i + sz = i' := ⟨_, rfl⟩
      rw [hi'] at HST cS d2
      have hlt : i < i' := by omega
      have HCS := Lib.hid cS
      clear hst cS hi' d1 hend
      go_wp2_with fail
      refine HCS.out.mono ?_
      rintro e w3 ⟨rfl, hM3⟩
      have HM := Lib.hid hM3
      have HS := HST
      clear hM3 HCS HST c0 c1 c2 c3 c4 c5 he
      have hrow := HS.out.row
      obtain ⟨c0, c1, c2, c3, c4, c5⟩ := HM.out.cells
      by_cases hend : i' = s.size
      · have ht := HS.out.fin (by rw [hend, HSL.out])
        have he : ((i' : Int) == (s.size : Int)) = true := by simp [hend]
        have HTT := Lib.hid ht
        clear ht hend
        go_wp2_with fail
        go_step3
        exact ⟨⟨w1, _, _, _, _, _, _, _, _, _, _, _, _, _, _, _, _, _, _, _, _, _, _, _, _, _, _, _, _, _, _, _, _, _, _, _, i', y', rfl, HM.out, HF1.out, HR.out, rfl, HB2.out, HB3.out, HBW.out, HT1.out, HS.out.row, HS.out.le, Nat.zero_le _, (fun h => absurd h (by decide)), fun _ => HTT.out⟩, by simp [findMu]⟩
      have hi2 : i' < s.size := by have := HS.out.le; rw [HSL.out] at this; omega
      have he : ((i' : Int) == (s.size : Int)) = false := by simp; omega
      have hst := HS.out.step HR.out (by rw [HSL.out]; exact hi2)
      obtain ⟨e1, e2⟩ := Plain.dec_le s.data.toList i' (by rw [HSL.out]; exact hi2)
      have HST := Lib.hid hst
      have cS := step_go HM.out HF1.out HR.out HS.out.row hi2 hs HT1.out
      generalize Plain.goes F K y' (Go.Lib.decodeL (s.data.toList.drop i')).1 = y'' at HST cS
      generalize (Go.Lib.decodeL (s.data.toList.drop i')).2 = sz2 at HST cS e1 e2
      obtain ⟨i'', hi''⟩ : ∃ i'', i' + sz2 = i'' := ⟨_, rfl⟩
      rw [hi''] at HST cS e2
      have hlt2 : i' < i'' := by omega
      have HCS := Lib.hid cS
      clear hst cS hi'' e1 hend
      go_wp2_with fail
      refine HCS.out.mono ?_
      rintro e w3 ⟨rfl, hM3⟩
      have HM := Lib.hid hM3
      have HS := HST
      clear hM3 HCS HST c0 c1 c2 c3 c4 c5 he
      have hrow := HS.out.row
      go_wp2_with fail
      go_step3
      refine ⟨⟨w1, _, _, _, _, _, _, _, _, _, _, _, _, _, _, _, _, _, _, _, _, _, _, _, _, _, _, _, _, _, _, _, _, _, _, _, i'', y'', rfl, HM.out, HF1.out, HR.out, rfl, HB2.out, HB3.out, HBW.out, HT1.out, HS.out.row, HS.out.le, Nat.le_refl _, fun _ => HS.out, (fun h => absurd h (by decide))⟩, ?_⟩
      have m1 := HM.out.cells.2.2.2.2.1
      have m0 := HM0.out.cells.2.2.2.2.1
      simp [findMu, ptrOf, m1, m0, RowKit.intOf]
      omega
    · obtain rfl : l = 0 := by omega
      have ht := hE rfl
      have HTT := Lib.hid ht
      clear hS hE ht
      obtain ⟨c0, c1, c2, c3, c4, c5⟩ := HM.out.cells
      refine ⟨_, rfl, ?_⟩
      have hp : 0 < F.length := HR.out.p0
      have hp64 := HR.out.p64
      have k0 := ((CellsAt.below ⟨HB2.out, HB3.out⟩ (HM.out.below)).at_ 0 (.slice FA F.length fc) rfl)
      obtain ⟨z, hz⟩ : ∃ z, y / F.length = z := ⟨_, rfl⟩
      have hz2 : Int.tdiv (y : Int) (F.length : Int) = (z : Int) := by rw [← hz]; rfl
      have hyb : (y : Int) ≤ 4294967295 := by
        obtain ⟨qq, h1, h2⟩ := hrow
        have h3 := HR.out.a64
        have : F.length * qq ≤ 64 * 64 := Nat.mul_le_mul hp64 (by omega)
        omega
      have hzb : (z : Int) ≤ 4294967295 := by have := Nat.div_le_self y F.length; omega
      have HZ := Lib.hid hz
      clear hz hrow hle
      generalize hP : F.length = p at *
      have HP := Lib.hid hP
      clear hP
      go_wp2_with fail
      go_quiet (fail)
      go_wp2
      simp only [Exit.jumps]
      go_ret
      exact ⟨ret_int (by rw [if_pos rfl, HTT.out, HP.out, HZ.out]), below_drewN (HBW.out.trans (HM.out.below.mono HBW.out.size)) _⟩
end Go.Proofs.YtgppobaoclfgcaaGreatDoor
namespace Go.Proofs.YtgppobaoclfgcaaGreatDoor.Plain
end Go.Proofs.YtgppobaoclfgcaaGreatDoor.Plain
namespace Go.Proofs.YtgppobaoclfgcaaGreatDoor.Plain
end Go.Proofs.YtgppobaoclfgcaaGreatDoor.Plain
namespace Go.Proofs.YtgppobaoclfgcaaGreatDoor
open Go.RowKit Go.Lib
end Go.Proofs.YtgppobaoclfgcaaGreatDoor
namespace Go.Proofs.YtgppobaoclfgcaaGreatDoor
open Go.RowKit Go.Lib
def exP : List Int := [0, 98, 99]
def exN : List (List Int) := [[0, 1, 0], [1, 1, 1]]
def exC : List Bool := [false, true]
theorem ex_right : Plain.tabRight exP exN exC.length = true := by decide
theorem ex_flat : Plain.flatRight exP (Plain.cellsOf exN) (Plain.accsOf exC) = true := by decide
theorem ex_find1 : Plain.findN exP (Plain.cellsOf exN) (Plain.accsOf exC) 3 [97, 97, 98] 0 0 = some 3 := by decide +kernel
theorem ex_find2 : Plain.findN exP (Plain.cellsOf exN) (Plain.accsOf exC) 2 [97, 99] 0 0 = none := by decide +kernel
theorem ex_state1 : Plain.stateN exP (Plain.cellsOf exN) 3 [97, 97, 98] 0 / 3 = 1 := by decide +kernel
theorem ex_state2 : Plain.stateN exP (Plain.cellsOf exN) 1 [97] 0 / 3 = 0 := by decide +kernel
/-- Find, State of right cells, in whatever later world -/
theorem find_later {base : Nat} {W : World} {FA KA AA : Option Addr} {F K A : List Int} {fc kc ac : Nat} (hO : OwnFlat base W FA F fc KA K kc AA A ac) (hN : FlatNums F K A kc) (hT : Tabs W) (s : ByteArray) (hs : s.size ≤ 4398046511104) (hq : Plain.flatRight F K A = true) (W' : World) (hb : Below W.heap.size W W') :
    Calls Tryz.prog 10 #[flatV FA F fc KA K kc AA A ac, .string s] W' fun e w' => e = .returned (foundV (Plain.findN F K A s.size s.data.toList 0 0)) ∧ Below W'.heap.size W' w' := by
  have h := find_any FA F fc KA K kc AA A ac s W' ((hO.kept hb).flat) hN hs (hT.below hb)
  rw [hq] at h
  exact h
theorem state_later {base : Nat} {W : World} {FA KA AA : Option Addr} {F K A : List Int} {fc kc ac : Nat} (hO : OwnFlat base W FA F fc KA K kc AA A ac) (hN : FlatNums F K A kc) (hT : Tabs W) (s : ByteArray) (hs : s.size ≤ 4398046511104) (hq : Plain.flatRight F K A = true) (W' : World) (hb : Below W.heap.size W W') :
    Calls Tryz.prog 12 #[flatV FA F fc KA K kc AA A ac, .string s] W' fun e w' => e = .returned (.int .i64 ((Plain.stateN F K s.size s.data.toList 0 / F.length : Nat) : Int)) ∧ Below W'.heap.size W' w' := by
  have h := fstate_any FA F fc KA K kc AA A ac s W' ((hO.kept hb).flat) hN hs (hT.below hb)
  rw [hq] at h
  exact h
theorem state_none (s : ByteArray) (hs : s.size ≤ 4398046511104) (W : World) (hT : Tabs W) :
    Calls Tryz.prog 12 #[.agg #[.slice none 0 0, .slice none 0 0, .slice none 0 0], .string s] W fun e w' => e = .returned (.int .i64 (-1)) ∧ Below W.heap.size W w' := by
  have h := fstate_any none [] 0 none [] 0 none [] 0 s W ⟨Sl.nil _ _, Sl.nil _ _, Sl.nil _ _⟩ ⟨by simp, by simp, by simp, by simp, by simp, by simp, by simp⟩ hs hT
  exact h
set_option maxRecDepth 1000000 in
set_option maxHeartbeats 4000000 in
theorem examples_any (w : World) (hT : Tabs w) : Calls Tryz.prog 4 #[] w fun e w' => e = .returned (.bool true) ∧ Below w.heap.size w w' := by
  have HT := Lib.hid hT
  clear hT
  go_enter Tryz.func4, Tryz.ntmps4
  go_wp2_with fail
  generalize hW : (((((w.alloc (.cells #[.int .i32 0, .int .i32 98, .int .i32 99] 21)).alloc (.cells #[.int .i64 0, .int .i64 1, .int .i64 0] 3)).alloc (.cells #[.int .i64 1, .int .i64 1, .int .i64 1] 3)).alloc (.cells #[.slice (some ⟨w.heap.size + 1, 0, none⟩) 3 3, .slice (some ⟨w.heap.size + 1 + 1, 0, none⟩) 3 3] 58)).alloc (.cells #[.bool false, .bool true] 4)) = W
  have hBW : Below w.heap.size w W := by rw [← hW]; exact (((((Below.refl _ _).alloc (Nat.le_refl _) _).alloc (by simp) _).alloc (by simp; omega) _).alloc (by simp; omega) _).alloc (by simp; omega) _
  have hTab : TabAt W (some ⟨w.heap.size, 0, none⟩) exP (some ⟨w.heap.size + 1 + 1 + 1, 0, none⟩) [(some ⟨w.heap.size + 1, 0, none⟩, 3, [0, 1, 0]), (some ⟨w.heap.size + 1 + 1, 0, none⟩, 3, [1, 1, 1])] (some ⟨w.heap.size + 1 + 1 + 1 + 1, 0, none⟩) exC := by
    rw [← hW]
    refine ⟨Sl.of_cells ((((((CellsAt.new w _ _).alloc _).alloc _).alloc _).alloc _)), Sl.of_cells ((CellsAt.at_size (by simp) _ _).alloc _), fun r hr => ?_, Sl.of_cells (CellsAt.at_size (by simp) _ _), by unfold maxLen; simp [exP], by unfold maxLen; simp, by unfold maxLen; simp [exC]⟩
    simp only [List.mem_cons, List.not_mem_nil, or_false] at hr
    rcases hr with rfl | rfl
    · exact ⟨Sl.of_cells ((((CellsAt.at_size (by simp) _ _).alloc _).alloc _).alloc _), by unfold maxLen; simp⟩
    · exact ⟨Sl.of_cells (((CellsAt.at_size (by simp) _ _).alloc _).alloc _), by unfold maxLen; simp⟩
  clear hW
  have hL := laid_any _ exP 3 _ _ 2 _ exC 2 W hTab ex_right
  rw [show nums [((some ⟨w.heap.size + 1, 0, none⟩ : Option Addr), 3, [0, 1, 0]), (some ⟨w.heap.size + 1 + 1, 0, none⟩, 3, [1, 1, 1])] = exN from rfl] at hL
  refine hL.mono ?_
  rintro e w1 ⟨FA, fc, KA, kc, AA, ac, rfl, hO, hN, hb1⟩
  have hB1 := hBW.trans (hb1.mono hBW.size)
  have c1 : ∀ W', Below w1.heap.size w1 W' → Calls Tryz.prog 10 #[.agg #[.slice FA 3 fc, .slice KA 6 kc, .slice AA 2 ac], .string ⟨#[97, 97, 98]⟩] W' fun e w' => e = .returned (.tuple #[.int .i64 3, .bool true]) ∧ Below W'.heap.size W' w' := fun W' hb =>
    (find_later hO hN (HT.out.below hB1) ⟨#[97, 97, 98]⟩ (by decide) ex_flat W' hb).mono fun e w' ⟨he, hb'⟩ => ⟨by rw [he]; exact congrArg (fun x => Ending.returned (foundV x)) ex_find1, hb'⟩
  have c2 : ∀ W', Below w1.heap.size w1 W' → Calls Tryz.prog 10 #[.agg #[.slice FA 3 fc, .slice KA 6 kc, .slice AA 2 ac], .string ⟨#[97, 99]⟩] W' fun e w' => e = .returned (.tuple #[.int .i64 0, .bool false]) ∧ Below W'.heap.size W' w' := fun W' hb =>
    (find_later hO hN (HT.out.below hB1) ⟨#[97, 99]⟩ (by decide) ex_flat W' hb).mono fun e w' ⟨he, hb'⟩ => ⟨by rw [he]; exact congrArg (fun x => Ending.returned (foundV x)) ex_find2, hb'⟩
  have s1 : ∀ W', Below w1.heap.size w1 W' → Calls Tryz.prog 12 #[.agg #[.slice FA 3 fc, .slice KA 6 kc, .slice AA 2 ac], .string ⟨#[97, 97, 98]⟩] W' fun e w' => e = .returned (.int .i64 1) ∧ Below W'.heap.size W' w' := fun W' hb =>
    (state_later hO hN (HT.out.below hB1) ⟨#[97, 97, 98]⟩ (by decide) ex_flat W' hb).mono fun e w' ⟨he, hb'⟩ => ⟨by rw [he]; exact congrArg (fun x => Ending.returned (.int .i64 ((x : Nat) : Int))) ex_state1, hb'⟩
  have s2 : ∀ W', Below w1.heap.size w1 W' → Calls Tryz.prog 12 #[.agg #[.slice FA 3 fc, .slice KA 6 kc, .slice AA 2 ac], .string ⟨#[97]⟩] W' fun e w' => e = .returned (.int .i64 0) ∧ Below W'.heap.size W' w' := fun W' hb =>
    (state_later hO hN (HT.out.below hB1) ⟨#[97]⟩ (by decide) ex_flat W' hb).mono fun e w' ⟨he, hb'⟩ => ⟨by rw [he]; exact congrArg (fun x => Ending.returned (.int .i64 ((x : Nat) : Int))) ex_state2, hb'⟩
  have s3 : ∀ W', Below w1.heap.size w1 W' → Calls Tryz.prog 12 #[.agg #[.slice none 0 0, .slice none 0 0, .slice none 0 0], .string ⟨#[97]⟩] W' fun e w' => e = .returned (.int .i64 (-1)) ∧ Below W'.heap.size W' w' := fun W' hb =>
    state_none ⟨#[97]⟩ (by decide) W' ((HT.out.below hB1).below hb)
  have C1 := Lib.hid c1
  have C2 := Lib.hid c2
  have S1 := Lib.hid s1
  have S2 := Lib.hid s2
  have S3 := Lib.hid s3
  have HB1 := Lib.hid hB1
  have hc0 : CellsAt (w1.alloc (.cells #[.slice FA 3 fc, .slice KA 6 kc, .slice AA 2 ac] 47)) w1.heap.size [.slice FA 3 fc, .slice KA 6 kc, .slice AA 2 ac] := CellsAt.new w1 _ _
  have hb0 : Below w1.heap.size w1 (w1.alloc (.cells #[.slice FA 3 fc, .slice KA 6 kc, .slice AA 2 ac] 47)) := (Below.refl _ _).alloc (Nat.le_refl _) _
  have HC0 := Lib.hid hc0
  have HB0 := Lib.hid hb0
  clear c1 c2 s1 s2 s3 hB1 hc0 hb0 hO hN hL hTab hBW hb1
  unfold flatV
  rw [show exP.length = 3 from rfl, show (Plain.cellsOf exN).length = 6 from rfl, show (Plain.accsOf exC).length = 2 from rfl]
  go_wp2_with fail
  refine (C1.out _ HB0.out).mono ?_
  rintro e w2 ⟨rfl, hb⟩
  have HB2 := Lib.hid (HB0.out.trans (hb.mono HB0.out.size))
  have HC2 := Lib.hid (HC0.out.below hb)
  have k0 := HC2.out.at_ 0 _ rfl
  have k1 := HC2.out.at_ 1 _ rfl
  have k2 := HC2.out.at_ 2 _ rfl
  clear hb
  go_wp2_with fail
  refine (C2.out _ HB2.out).mono ?_
  rintro e w3 ⟨rfl, hb⟩
  have HB3 := Lib.hid (HB2.out.trans (hb.mono HB2.out.size))
  have HC3 := Lib.hid (HC2.out.below hb)
  clear k0 k1 k2
  have k0 := HC3.out.at_ 0 _ rfl
  have k1 := HC3.out.at_ 1 _ rfl
  have k2 := HC3.out.at_ 2 _ rfl
  clear hb
  go_wp2_with fail
  refine (S1.out _ HB3.out).mono ?_
  rintro e w4 ⟨rfl, hb⟩
  have HB4 := Lib.hid (HB3.out.trans (hb.mono HB3.out.size))
  have HC4 := Lib.hid (HC3.out.below hb)
  clear k0 k1 k2
  have k0 := HC4.out.at_ 0 _ rfl
  have k1 := HC4.out.at_ 1 _ rfl
  have k2 := HC4.out.at_ 2 _ rfl
  clear hb
  go_wp2_with fail
  refine (S2.out _ HB4.out).mono ?_
  rintro e w5 ⟨rfl, hb⟩
  have HB5 := Lib.hid (HB4.out.trans (hb.mono HB4.out.size))
  have HC5 := Lib.hid (HC4.out.below hb)
  clear k0 k1 k2
  have k0 := HC5.out.at_ 0 _ rfl
  have k1 := HC5.out.at_ 1 _ rfl
  have k2 := HC5.out.at_ 2 _ rfl
  clear hb
  go_wp2_with fail
  refine (S3.out _ HB5.out).mono ?_
  rintro e w6 ⟨rfl, hb⟩
  have HB6 := Lib.hid (HB5.out.trans (hb.mono HB5.out.size))
  have HC6 := Lib.hid (HC5.out.below hb)
  clear k0 k1 k2
  have k0 := HC6.out.at_ 0 _ rfl
  have k1 := HC6.out.at_ 1 _ rfl
  have k2 := HC6.out.at_ 2 _ rfl
  clear hb
  go_wp2_with fail
  go_ret
  exact ⟨rfl, HB1.out.trans (HB6.out.mono HB1.out.size)⟩
end Go.Proofs.YtgppobaoclfgcaaGreatDoor
