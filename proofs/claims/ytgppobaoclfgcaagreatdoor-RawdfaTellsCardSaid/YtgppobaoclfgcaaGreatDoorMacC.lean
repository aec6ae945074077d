/- rawdfa.Find. Conditions: what each lemma says. -/
import Derived.Test.YtgppobaoclfgcaaGreatDoorMacA
import Derived.ScopeJumps
import Derived.WalkMore
set_option linter.unusedVariables false
set_option linter.unusedSimpArgs false
namespace Go.Proofs.YtgppobaoclfgcaaGreatDoor
open Go.RowKit Go.Lib
end Go.Proofs.YtgppobaoclfgcaaGreatDoor
namespace Go
/-- As Q; by a goto to a label l: J l. -/
def Exit.jumps (J : Nat → Act → World → Prop) (Q : Exit → Act → World → Prop) : Exit → Act → World → Prop
  | .goto l, a, w => J l a w
  | e, a, w => Q e a w
/-- a scope of several labels: what holds at each jump, and a measure that falls -/
theorem wp_scope_jumpsN {P : Program} {a : Act} {w : World} {Q : Exit → Act → World → Prop} {c : Code} (J : Nat → Act → World → Prop) (μ : Nat → Act → World → Nat)
    (first : c.wp P (Exit.jumps J Q) a w)
    (pass : ∀ l a w, J l a w → ∃ rest, findLabel c l = some rest ∧ rest.wp P (Exit.jumps (fun l' a' w' => J l' a' w' ∧ μ l' a' w' < μ l a w) Q) a w) : (Code.scope c).wp P Q a w := by
  intro b k cs
  have key : ∀ n l rest a w, μ l a w = n → J l a w → findLabel c l = some rest → ∃ e a' w', Q e a' w' ∧ Arrives P (lone (b.at a (.code rest :: .inScope c :: k)) cs w) b k cs e a' w' := by
    intro n
    induction n using Nat.strongRecOn with
    | _ n ih =>
      intro l rest a w hn hJ hf
      obtain ⟨rest', hf', hp⟩ := pass l a w hJ
      rw [hf] at hf'
      cases hf'
      obtain ⟨e, a₁, w₁, hq, harr⟩ := hp b (.inScope c :: k) cs
      cases e with
      | normal => exact ⟨.normal, a₁, w₁, hq, Steps.trans harr (.one step_inScope)⟩
      | exit id => exact ⟨.exit id, a₁, w₁, hq, fun k' hk => harr k' (by simp [exitTo, hk])⟩
      | goto l' =>
        obtain ⟨hJ', hlt⟩ := hq
        obtain ⟨r2, hf2, _⟩ := pass l' a₁ w₁ hJ'
        have hg : gotoIn l' (.inScope c :: k) = some (.code r2 :: .inScope c :: k) := by simp [gotoIn, hf2]
        obtain ⟨e₂, a₂, w₂, hq₂, harr₂⟩ := ih _ (by omega) l' r2 a₁ w₁ rfl hJ' hf2
        exact ⟨e₂, a₂, w₂, hq₂, .of_steps (harr _ hg) harr₂⟩
      | ret => exact ⟨_, a₁, w₁, hq, harr⟩
      | panic ch => exact ⟨_, a₁, w₁, hq, harr⟩
      | outgrown => exact ⟨_, a₁, w₁, hq, harr⟩
  obtain ⟨e, a₁, w₁, hq, harr⟩ := first b (.inScope c :: k) cs
  cases e with
  | normal => exact ⟨.normal, a₁, w₁, hq, .head step_scope (Steps.trans harr (.one step_inScope))⟩
  | exit id => exact ⟨.exit id, a₁, w₁, hq, fun k' hk => .head step_scope (harr k' (by simp [exitTo, hk]))⟩
  | goto l' =>
    obtain ⟨r2, hf2, _⟩ := pass l' a₁ w₁ hq
    have hg : gotoIn l' (.inScope c :: k) = some (.code r2 :: .inScope c :: k) := by simp [gotoIn, hf2]
    obtain ⟨e₂, a₂, w₂, hq₂, harr₂⟩ := key _ l' r2 a₁ w₁ rfl hq hf2
    exact ⟨e₂, a₂, w₂, hq₂, .of_steps (.head step_scope (harr _ hg)) harr₂⟩
  | ret => exact ⟨_, a₁, w₁, hq, .of_steps (.one step_scope) harr⟩
  | panic ch => exact ⟨_, a₁, w₁, hq, .of_steps (.one step_scope) harr⟩
  | outgrown => exact ⟨_, a₁, w₁, hq, .of_steps (.one step_scope) harr⟩
end Go
namespace Go.Proofs.YtgppobaoclfgcaaGreatDoor.Plain
open Go.Lib
/-- a place of a text, and a cell, from where on all is found that is found -/
structure FindSt (F K A : List Int) (l : List UInt8) (tot : Option Nat) (i y : Nat) : Prop where
  le : i ≤ l.length
  row : ∃ q, y = F.length * q ∧ q < A.length
  run : ∃ n, l.length - i ≤ n ∧ findN F K A n (l.drop i) y i = tot
theorem FindSt.start {F K A : List Int} (hR : Right F K A) (l : List UInt8) (n : Nat) (hn : l.length ≤ n) : FindSt F K A l (findN F K A n l 0 0) 0 0 :=
  ⟨Nat.zero_le _, ⟨0, rfl, hR.a0⟩, n, by omega, by simp⟩
theorem FindSt.acc {F K A : List Int} {l : List UInt8} {tot : Option Nat} {i y : Nat} (h : FindSt F K A l tot i y) (ha : accd F A y = true) : tot = some i := by
  obtain ⟨n, _, h2⟩ := h.run
  rw [← h2]; exact findN_acc F K A n _ y i ha
theorem FindSt.fin {F K A : List Int} {l : List UInt8} {tot : Option Nat} {i y : Nat} (h : FindSt F K A l tot i y) (ha : accd F A y = false) (he : i = l.length) : tot = none := by
  obtain ⟨n, _, h2⟩ := h.run
  rw [← h2, he, List.drop_length]; exact findN_end F K A n y l.length ha
theorem dec_le (l : List UInt8) (i : Nat) (h : i < l.length) : 1 ≤ (decodeL (l.drop i)).2 ∧ i + (decodeL (l.drop i)).2 ≤ l.length := by
  have h1 := dec_pos (l.drop i)
  have h2 := decodeL_le (l.drop i) (by intro e; have := congrArg List.length e; simp at this; omega)
  rw [List.length_drop] at h2
  exact ⟨h1, by omega⟩
theorem FindSt.step {F K A : List Int} {l : List UInt8} {tot : Option Nat} {i y : Nat} (hR : Right F K A) (h : FindSt F K A l tot i y) (ha : accd F A y = false) (hi : i < l.length) :
    FindSt F K A l tot (i + (decodeL (l.drop i)).2) (goes F K y (decodeL (l.drop i)).1) := by
  obtain ⟨n, h1, h2⟩ := h.run
  obtain ⟨q, hq, hqa⟩ := h.row
  obtain ⟨d1, d2⟩ := dec_le l i hi
  have hne : l.drop i ≠ [] := by intro e; have := congrArg List.length e; simp at this; omega
  rw [findN_step F K A n _ y i ha hne (by rw [List.length_drop]; exact h1), List.drop_drop] at h2
  exact ⟨d2, (goes_right hR y _ q hq hqa).1, n - 1, by omega, h2⟩
/-- the same of where it comes to -/
structure StateSt (F K A : List Int) (l : List UInt8) (tot : Nat) (i y : Nat) : Prop where
  le : i ≤ l.length
  row : ∃ q, y = F.length * q ∧ q < A.length
  run : ∃ n, l.length - i ≤ n ∧ stateN F K n (l.drop i) y = tot
theorem StateSt.start {F K A : List Int} (hR : Right F K A) (l : List UInt8) (n : Nat) (hn : l.length ≤ n) : StateSt F K A l (stateN F K n l 0) 0 0 :=
  ⟨Nat.zero_le _, ⟨0, rfl, hR.a0⟩, n, by omega, by simp⟩
theorem StateSt.fin {F K A : List Int} {l : List UInt8} {tot : Nat} {i y : Nat} (h : StateSt F K A l tot i y) (he : i = l.length) : tot = y := by
  obtain ⟨n, _, h2⟩ := h.run
  rw [← h2, he, List.drop_length]; exact stateN_end F K n y
theorem StateSt.step {F K A : List Int} {l : List UInt8} {tot : Nat} {i y : Nat} (hR : Right F K A) (h : StateSt F K A l tot i y) (hi : i < l.length) :
    StateSt F K A l tot (i + (decodeL (l.drop i)).2) (goes F K y (decodeL (l.drop i)).1) := by
  obtain ⟨n, h1, h2⟩ := h.run
  obtain ⟨q, hq, hqa⟩ := h.row
  obtain ⟨d1, d2⟩ := dec_le l i hi
  have hne : l.drop i ≠ [] := by intro e; have := congrArg List.length e; simp at this; omega
  rw [stateN_step F K n _ y hne (by rw [List.length_drop]; exact h1), List.drop_drop] at h2
  exact ⟨d2, (goes_right hR y _ q hq hqa).1, n - 1, by omega, h2⟩
end Go.Proofs.YtgppobaoclfgcaaGreatDoor.Plain
namespace Go.Proofs.YtgppobaoclfgcaaGreatDoor
open Go.RowKit Go.Lib
theorem accepted_go {w0 w : World} {g : Nat} {FA KA AA : Option Addr} {fc kc ac : Nat} {F K A : List Int} {s : ByteArray} {i : Int} {y : Nat} (hM : Mach w0 w g FA KA AA F.length K.length A.length fc kc ac s i y) (hF : FlatAt w0 FA F KA K AA A)
    (hR : Plain.Right F K A) (hy : ∃ q, y = F.length * q ∧ q < A.length) (bA : ∀ k, k < A.length → 0 ≤ A.getD k 0 ∧ A.getD k 0 < 4294967296) :
    Calls Tryz.prog 23 #[.pointer (some ⟨g, 0, none⟩)] w fun e w' => e = .returned (.bool (Plain.accd F A y)) ∧ Mach w0 w' g FA KA AA F.length K.length A.length fc kc ac s i y := by
  obtain ⟨q, hq, hqa⟩ := hy
  have hd : y / F.length < A.length := by rw [hq, Nat.mul_div_cancel_left _ hR.p0]; exact hqa
  refine (accepted_any w0 w g FA KA AA F.length K.length fc kc ac F K A s i y hM hF hR.p0 hR.p64 hd (by have := hR.a64; omega) (bA _ hd)).mono ?_
  rintro e w' ⟨rfl, hb⟩
  exact ⟨rfl, hM.kept hb⟩
theorem step_go {w0 w : World} {g : Nat} {FA KA AA : Option Addr} {fc kc ac : Nat} {F K A : List Int} {s : ByteArray} {i : Nat} {y : Nat} (hM : Mach w0 w g FA KA AA F.length K.length A.length fc kc ac s i y) (hF : FlatAt w0 FA F KA K AA A)
    (hR : Plain.Right F K A) (hy : ∃ q, y = F.length * q ∧ q < A.length) (hi : i < s.size) (hs : s.size ≤ 4398046511104) (hT : Tabs w0) :
    Calls Tryz.prog 24 #[.pointer (some ⟨g, 0, none⟩)] w fun e w' => e = .returned (.tuple #[]) ∧ Mach w0 w' g FA KA AA F.length K.length A.length fc kc ac s (i + (decodeL (s.data.toList.drop i)).2 : Nat) (Plain.goes F K y (decodeL (s.data.toList.drop i)).1 : Nat) := by
  obtain ⟨q, hq, hqa⟩ := hy
  obtain ⟨_, hle, _, hg⟩ := Plain.goes_right hR y (decodeL (s.data.toList.drop i)).1 q hq hqa
  have hK : K.length ≤ 4096 := by rw [hR.len]; exact Nat.le_trans (Nat.mul_le_mul hR.p64 hR.a64) (Nat.le_refl _)
  refine (step_any w0 w g FA KA AA A.length fc kc ac F K A s i y hM hF hR.p0 hR.p64 hR.mono hR.low hi hs hT hK hle fun k hk => ?_).mono ?_
  · obtain ⟨x, hx, hxa⟩ := hR.cell k hk
    rw [hx]
    have : F.length * x ≤ 64 * 64 := Nat.mul_le_mul hR.p64 (by have := hR.a64; omega)
    omega
  · rintro e w' ⟨rfl, hm⟩
    rw [hg] at hm
    exact ⟨rfl, hm⟩
end Go.Proofs.YtgppobaoclfgcaaGreatDoor
namespace Go.Proofs.YtgppobaoclfgcaaGreatDoor
open Go.RowKit Go.Lib
/-- what Find hands back -/
def foundV : Option Nat → Value
  | some r => .tuple #[.int .i64 r, .bool true]
  | none => .tuple #[.int .i64 0, .bool false]
def ptrOf : Value → Nat
  | .pointer (some p) => p.block
  | _ => 0
def findMu (n slot : Nat) (l : Nat) (a : Act) (w : World) : Nat := if l = 1 then n - (RowKit.intOf ((w.cell? ⟨ptrOf (a.tmps.getD slot undef), 4, none⟩).getD undef)).toNat + 1 else 0
/-- what holds at a jump to label l: 1 again, 0 found -/
def FindAt (w0 : World) (FA KA AA : Option Addr) (F K A : List Int) (fc kc ac : Nat) (s : ByteArray) (tot : Option Nat) (qq : Bool) (l : Nat) (a : Act) (w : World) : Prop :=
  ∃ (w1 : World) (g : Nat) (u7 u8 u9 u10 u11 u12 u13 u14 u15 u16 u17 u18 u19 u20 u21 u22 u23 u24 u25 u26 u27 u28 u29 u30 u31 u32 u33 u34 u35 u36 u37 u38 u39 : Value) (i y : Nat), a = ⟨#[.agg #[.slice FA F.length fc, .slice KA K.length kc, .slice AA A.length ac], .string s, .pointer (some ⟨w0.heap.size, 0, none⟩), undef, .int .i64 0, .bool false, .pointer (some ⟨g, 0, none⟩), u7, u8, u9, u10, u11, u12, u13, u14, u15, u16, u17, u18, u19, u20, u21, u22, u23, u24, u25, u26, u27, u28, u29, u30, u31, u32, u33, u34, u35, u36, u37, u38, u39], []⟩ ∧
    Mach w1 w g FA KA AA F.length K.length A.length fc kc ac s i y ∧ FlatAt w1 FA F KA K AA A ∧ Plain.Right F K A ∧ qq = true ∧ Below w0.heap.size w0 w1 ∧ Tabs w1 ∧ (∃ q, y = F.length * q ∧ q < A.length) ∧ i ≤ s.data.toList.length ∧ l ≤ 1 ∧ (l = 1 → Plain.FindSt F K A s.data.toList tot i y) ∧ (l = 0 → tot = some i)
set_option maxRecDepth 100000 in
set_option maxHeartbeats 4000000 in
theorem find_any (FA : Option Addr) (F : List Int) (fc : Nat) (KA : Option Addr) (K : List Int) (kc : Nat) (AA : Option Addr) (A : List Int) (ac : Nat) (s : ByteArray) (w : World) (hX : FlatAt w FA F KA K AA A) (hN : FlatNums F K A kc)
    (hs : s.size ≤ 4398046511104) (hT : Tabs w) :
    Calls Tryz.prog 10 #[flatV FA F fc KA K kc AA A ac, .string s] w fun e w' => e = .returned (if Plain.flatRight F K A then foundV (Plain.findN F K A s.size s.data.toList 0 0) else foundV none) ∧ Below w.heap.size w w' := by
  have hB0 : ∀ c t, Below w.heap.size w (w.alloc (.cells c t)) := fun c t => (Below.refl _ _).alloc (Nat.le_refl _) _
  have cR := fun (c : Array Value) (t : TypeId) => rightflat_any FA F fc KA K kc AA A ac (w.alloc (.cells c t)) (hX.below (hB0 c t)) hN
  have hsl : s.data.toList.length = s.size := by simp
  unfold flatV at cR ⊢
  obtain ⟨q, hq⟩ : ∃ q, Plain.flatRight F K A = q := ⟨_, rfl⟩
  rw [hq] at cR ⊢
  have hRt := fun (h : q = true) => Plain.flat_right F K A (fun k hk => (hN.bF k hk).1) (fun k hk => (hN.bK k hk).1) (hq.trans h)
  obtain ⟨tot, htot⟩ : ∃ x, Plain.findN F K A s.size s.data.toList 0 0 = x := ⟨_, rfl⟩
  have hst0 := fun (hR : Plain.Right F K A) => Plain.FindSt.start hR s.data.toList s.size (by rw [hsl]; exact Nat.le_refl _)
  rw [htot] at hst0 ⊢
  have HB0 := Lib.hid hB0
  have HX := Lib.hid hX
  have HT := Lib.hid hT
  have HN := Lib.hid hN
  have HC := Lib.hid cR
  have HRT := Lib.hid hRt
  have HST0 := Lib.hid hst0
  have HSL := Lib.hid hsl
  clear cR hB0 hX hT hN hq hRt hst0 htot hsl
  go_enter Tryz.func10, Tryz.ntmps10
  go_wp2_with fail
  refine wp_scope_jumpsN (FindAt w FA KA AA F K A fc kc ac s tot q) (findMu s.size 6) ?first ?pass
  case first =>
    go_wp2_with fail
    refine (HC.out _ _).mono ?_
    rintro e w1 ⟨rfl, hb⟩
    have hb1 := (HB0.out _ _).trans (hb.mono (by simp))
    have HBW := Lib.hid hb1
    have hcell : w1.cell? ⟨w.heap.size, 0, none⟩ = some (.slice FA F.length fc) ∧ w1.cell? ⟨w.heap.size, 1, none⟩ = some (.slice KA K.length kc) ∧ w1.cell? ⟨w.heap.size, 2, none⟩ = some (.slice AA A.length ac) :=
      ⟨(hb.cell (p := ⟨w.heap.size, 0, none⟩) (by simp)).trans ((CellsAt.new w _ _).at_ 0 _ rfl), (hb.cell (p := ⟨w.heap.size, 1, none⟩) (by simp)).trans ((CellsAt.new w _ _).at_ 1 _ rfl), (hb.cell (p := ⟨w.heap.size, 2, none⟩) (by simp)).trans ((CellsAt.new w _ _).at_ 2 _ rfl)⟩
    obtain ⟨b0, b1, b2⟩ := hcell
    clear hb hb1
    cases q
    · go_wp2_with fail
      simp only [Exit.jumps]
      go_ret2
      exact ⟨rfl, HBW.out⟩
    · have hR := HRT.out rfl
      have HR := Lib.hid hR
      clear hR
      go_wp2_with fail
      go_step3
      obtain ⟨i, y, hM, hS⟩ : ∃ i y : Nat, Mach w1 (w1.alloc (.cells #[.slice FA F.length fc, .slice KA K.length kc, .slice AA A.length ac, .string s, .int .i64 0, .int .u32 0] 83)) w1.heap.size FA KA AA F.length K.length A.length fc kc ac s i y ∧ Plain.FindSt F K A s.data.toList tot i y :=
        ⟨0, 0, ⟨heap_alloc_new _ _, (Below.refl _ _).alloc (Nat.le_refl _) _, Nat.le_refl _⟩, HST0.out HR.out⟩
      have HM := Lib.hid hM
      have HF1 := Lib.hid (HX.out.below HBW.out)
      have HT1 := Lib.hid (HT.out.below HBW.out)
      have HS := Lib.hid hS
      have hrow := HS.out.row
      clear hM hS b0 b1 b2 HX HT HST0 HRT HC
      generalize w1.alloc (.cells #[.slice FA F.length fc, .slice KA K.length kc, .slice AA A.length ac, .string s, .int .i64 0, .int .u32 0] 83) = wr at HM ⊢
      go_wp2_with fail
      refine (accepted_go HM.out HF1.out HR.out hrow HN.out.bA).mono ?_
      rintro e w2 ⟨rfl, hM2⟩
      have HM := Lib.hid hM2
      clear hM2
      cases ha : Plain.accd F A y
      case true =>
        have ht := HS.out.acc ha
        have HTT := Lib.hid ht
        clear ha ht
        go_wp2_with fail
        go_step3
        exact ⟨w1, _, _, _, _, _, _, _, _, _, _, _, _, _, _, _, _, _, _, _, _, _, _, _, _, _, _, _, _, _, _, _, _, _, _, i, y, rfl, HM.out, HF1.out, HR.out, rfl, HBW.out, HT1.out, HS.out.row, HS.out.le, Nat.zero_le _, (fun h => absurd h (by decide)), fun _ => HTT.out⟩
      case false =>
      have HA := Lib.hid ha
      clear ha
      obtain ⟨c0, c1, c2, c3, c4, c5⟩ := HM.out.cells
      by_cases hend : i = s.size
      · have ht := HS.out.fin HA.out (by rw [hend, HSL.out])
        have he : ((i : Int) == (s.size : Int)) = true := by simp [hend]
        have HTT := Lib.hid ht
        clear ht hend
        go_wp2_with fail
        simp only [Exit.jumps]
        go_ret2
        exact ⟨by rw [HTT.out]; simp [foundV], HBW.out.trans (HM.out.below.mono HBW.out.size)⟩
      have hi : i < s.size := by have := HS.out.le; rw [HSL.out] at this; omega
      have he : ((i : Int) == (s.size : Int)) = false := by simp; omega
      have hst := HS.out.step HR.out HA.out (by rw [HSL.out]; exact hi)
      obtain ⟨d1, d2⟩ := Plain.dec_le s.data.toList i (by rw [HSL.out]; exact hi)
      have HST := Lib.hid hst
      have cS := step_go HM.out HF1.out HR.out HS.out.row hi hs HT1.out
      generalize Plain.goes F K y (Go.Lib.decodeL (s.data.toList.drop i)).1 = y' at HST cS
      generalize (Go.Lib.decodeL (s.data.toList.drop i)).2 = sz at HST cS d1 d2
      obtain ⟨i', hi'⟩ : ∃ i', i + sz = i' := ⟨_, rfl⟩
      rw [hi'] at HST cS d2
      have hlt : i < i' := by omega
      have HCS := Lib.hid cS
      clear hst cS hi' d1 hend
      go_wp2_with fail
      refine HCS.out.mono ?_
      rintro e w3 ⟨rfl, hM3⟩
      have HM := Lib.hid hM3
      have HS := HST
      clear hM3 HCS HST c0 c1 c2 c3 c4 c5 he HA
      have hrow := HS.out.row
      go_wp2_with fail
      refine (accepted_go HM.out HF1.out HR.out hrow HN.out.bA).mono ?_
      rintro e w2 ⟨rfl, hM2⟩
      have HM := Lib.hid hM2
      clear hM2
      cases ha : Plain.accd F A y'
      case true =>
        have ht := HS.out.acc ha
        have HTT := Lib.hid ht
        clear ha ht
        go_wp2_with fail
        go_step3
        exact ⟨w1, _, _, _, _, _, _, _, _, _, _, _, _, _, _, _, _, _, _, _, _, _, _, _, _, _, _, _, _, _, _, _, _, _, _, i', y', rfl, HM.out, HF1.out, HR.out, rfl, HBW.out, HT1.out, HS.out.row, HS.out.le, Nat.zero_le _, (fun h => absurd h (by decide)), fun _ => HTT.out⟩
      case false =>
      have HA := Lib.hid ha
      clear ha
      obtain ⟨c0, c1, c2, c3, c4, c5⟩ := HM.out.cells
      by_cases hend : i' = s.size
      · have ht := HS.out.fin HA.out (by rw [hend, HSL.out])
        have he : ((i' : Int) == (s.size : Int)) = true := by simp [hend]
        have HTT := Lib.hid ht
        clear ht hend
        go_wp2_with fail
        simp only [Exit.jumps]
        go_ret2
        exact ⟨by rw [HTT.out]; simp [foundV], HBW.out.trans (HM.out.below.mono HBW.out.size)⟩
      have hi2 : i' < s.size := by have := HS.out.le; rw [HSL.out] at this; omega
      have he : ((i' : Int) == (s.size : Int)) = false := by simp; omega
      have hst := HS.out.step HR.out HA.out (by rw [HSL.out]; exact hi2)
      obtain ⟨e1, e2⟩ := Plain.dec_le s.data.toList i' (by rw [HSL.out]; exact hi2)
      have HST := Lib.hid hst
      have cS := step_go HM.out HF1.out HR.out HS.out.row hi2 hs HT1.out
      generalize Plain.goes F K y' (Go.Lib.decodeL (s.data.toList.drop i')).1 = y'' at HST cS
      generalize (Go.Lib.decodeL (s.data.toList.drop i')).2 = sz2 at HST cS e1 e2
      obtain ⟨i'', hi''⟩ : ∃ i'', i' + sz2 = i'' := ⟨_, rfl⟩
      rw [hi''] at HST cS e2
      have hlt2 : i' < i'' := by omega
      have HCS := Lib.hid cS
      clear hst cS hi'' e1 hend
      go_wp2_with fail
      refine HCS.out.mono ?_
      rintro e w3 ⟨rfl, hM3⟩
      have HM := Lib.hid hM3
      have HS := HST
      clear hM3 HCS HST c0 c1 c2 c3 c4 c5 he HA
      have hrow := HS.out.row
      go_wp2_with fail
      go_step3
      exact ⟨w1, _, _, _, _, _, _, _, _, _, _, _, _, _, _, _, _, _, _, _, _, _, _, _, _, _, _, _, _, _, _, _, _, _, _, i'', y'', rfl, HM.out, HF1.out, HR.out, rfl, HBW.out, HT1.out, HS.out.row, HS.out.le, Nat.le_refl _, fun _ => HS.out, (fun h => absurd h (by decide))⟩
  case pass =>
    intro l a' wr hJ
    obtain ⟨w1, g, u7, u8, u9, u10, u11, u12, u13, u14, u15, u16, u17, u18, u19, u20, u21, u22, u23, u24, u25, u26, u27, u28, u29, u30, u31, u32, u33, u34, u35, u36, u37, u38, u39, i, y, rfl, hM, hF1, hR, rfl, hBW, hT1, hrow, hle, hl, hS, hE⟩ := hJ
    have HM := Lib.hid hM
    have HF1 := Lib.hid hF1
    have HR := Lib.hid hR
    have HBW := Lib.hid hBW
    have HT1 := Lib.hid hT1
    clear hM hF1 hR hBW hT1 HX HT HST0 HRT HC
    by_cases h1 : l = 1
    · subst h1
      have HS := Lib.hid (hS rfl)
      clear hS hE hl hle
      refine ⟨_, rfl, ?_⟩
      have HM0 := HM
      go_wp2_with fail
      refine (accepted_go HM.out HF1.out HR.out hrow HN.out.bA).mono ?_
      rintro e w2 ⟨rfl, hM2⟩
      have HM := Lib.hid hM2
      clear hM2
      cases ha : Plain.accd F A y
      case true =>
        have ht := HS.out.acc ha
        have HTT := Lib.hid ht
        clear ha ht
        go_wp2_with fail
        go_step3
        exact ⟨⟨w1, _, _, _, _, _, _, _, _, _, _, _, _, _, _, _, _, _, _, _, _, _, _, _, _, _, _, _, _, _, _, _, _, _, _, i, y, rfl, HM.out, HF1.out, HR.out, rfl, HBW.out, HT1.out, HS.out.row, HS.out.le, Nat.zero_le _, (fun h => absurd h (by decide)), fun _ => HTT.out⟩, by simp [findMu]⟩
      case false =>
      have HA := Lib.hid ha
      clear ha
      obtain ⟨c0, c1, c2, c3, c4, c5⟩ := HM.out.cells
      by_cases hend : i = s.size
      · have ht := HS.out.fin HA.out (by rw [hend, HSL.out])
        have he : ((i : Int) == (s.size : Int)) = true := by simp [hend]
        have HTT := Lib.hid ht
        clear ht hend
        go_wp2_with fail
        simp only [Exit.jumps]
        go_ret2
        exact ⟨by rw [HTT.out]; simp [foundV], HBW.out.trans (HM.out.below.mono HBW.out.size)⟩
      have hi : i < s.size := by have := HS.out.le; rw [HSL.out] at this; omega
      have he : ((i : Int) == (s.size : Int)) = false := by simp; omega
      have hst := HS.out.step HR.out HA.out (by rw [HSL.out]; exact hi)
      obtain ⟨d1, d2⟩ := Plain.dec_le s.data.toList i (by rw [HSL.out]; exact hi)
      have HST := Lib.hid hst
      have cS := step_go HM.out HF1.out HR.out HS.out.row hi hs HT1.out
      generalize Plain.goes F K y (Go.Lib.decodeL (s.data.toList.drop i)).1 = y' at HST cS
      generalize (Go.Lib.decodeL (s.data.toList.drop i)).2 = sz at HST cS d1 d2
      obtain ⟨i', hi'⟩ : ∃ i', i + sz = i' := ⟨_, rfl⟩
      rw [hi'] at HST cS d2
      have hlt : i < i' := by omega
      have HCS := Lib.hid cS
      clear hst cS hi' d1 hend
      go_wp2_with fail
      refine HCS.out.mono ?_
      rintro e w3 ⟨rfl, hM3⟩
      have HM := Lib.hid hM3
      have HS := HST
      clear hM3 HCS HST c0 c1 c2 c3 c4 c5 he HA
      have hrow := HS.out.row
      go_wp2_with fail
      refine (accepted_go HM.out HF1.out HR.out hrow HN.out.bA).mono ?_
      rintro e w2 ⟨rfl, hM2⟩
      have HM := Lib.hid hM2
      clear hM2
      cases ha : Plain.accd F A y'
      case true =>
        have ht := HS.out.acc ha
        have HTT := Lib.hid ht
        clear ha ht
        go_wp2_with fail
        go_step3
        exact ⟨⟨w1, _, _, _, _, _, _, _, _, _, _, _, _, _, _, _, _, _, _, _, _, _, _, _, _, _, _, _, _, _, _, _, _, _, _, i', y', rfl, HM.out, HF1.out, HR.out, rfl, HBW.out, HT1.out, HS.out.row, HS.out.le, Nat.zero_le _, (fun h => absurd h (by decide)), fun _ => HTT.out⟩, by simp [findMu]⟩
      case false =>
      have HA := Lib.hid ha
      clear ha
      obtain ⟨c0, c1, c2, c3, c4, c5⟩ := HM.out.cells
      by_cases hend : i' = s.size
      · have ht := HS.out.fin HA.out (by rw [hend, HSL.out])
        have he : ((i' : Int) == (s.size : Int)) = true := by simp [hend]
        have HTT := Lib.hid ht
        clear ht hend
        go_wp2_with fail
        simp only [Exit.jumps]
        go_ret2
        exact ⟨by rw [HTT.out]; simp [foundV], HBW.out.trans (HM.out.below.mono HBW.out.size)⟩
      have hi2 : i' < s.size := by have := HS.out.le; rw [HSL.out] at this; omega
      have he : ((i' : Int) == (s.size : Int)) = false := by simp; omega
      have hst := HS.out.step HR.out HA.out (by rw [HSL.out]; exact hi2)
      obtain ⟨e1, e2⟩ := Plain.dec_le s.data.toList i' (by rw [HSL.out]; exact hi2)
      have HST := Lib.hid hst
      have cS := step_go HM.out HF1.out HR.out HS.out.row hi2 hs HT1.out
      generalize Plain.goes F K y' (Go.Lib.decodeL (s.data.toList.drop i')).1 = y'' at HST cS
      generalize (Go.Lib.decodeL (s.data.toList.drop i')).2 = sz2 at HST cS e1 e2
      obtain ⟨i'', hi''⟩ : ∃ i'', i' + sz2 = i'' := ⟨_, rfl⟩
      rw [hi''] at HST cS e2
      have hlt2 : i' < i'' := by omega
      have HCS := Lib.hid cS
      clear hst cS hi'' e1 hend
      go_wp2_with fail
      refine HCS.out.mono ?_
      rintro e w3 ⟨rfl, hM3⟩
      have HM := Lib.hid hM3
      have HS := HST
      clear hM3 HCS HST c0 c1 c2 c3 c4 c5 he HA
      have hrow := HS.out.row
      go_wp2_with fail
      go_step3
      refine ⟨⟨w1, _, _, _, _, _, _, _, _, _, _, _, _, _, _, _, _, _, _, _, _, _, _, _, _, _, _, _, _, _, _, _, _, _, _, i'', y'', rfl, HM.out, HF1.out, HR.out, rfl, HBW.out, HT1.out, HS.out.row, HS.out.le, Nat.le_refl _, fun _ => HS.out, (fun h => absurd h (by decide))⟩, ?_⟩
      have m1 := HM.out.cells.2.2.2.2.1
      have m0 := HM0.out.cells.2.2.2.2.1
      simp [findMu, ptrOf, m1, m0, RowKit.intOf]
      omega
    · obtain rfl : l = 0 := by omega
      have ht := hE rfl
      have HTT := Lib.hid ht
      clear hS hE ht
      obtain ⟨c0, c1, c2, c3, c4, c5⟩ := HM.out.cells
      refine ⟨_, rfl, ?_⟩
      go_wp2_with fail
      simp only [Exit.jumps]
      go_ret2
      exact ⟨by rw [HTT.out]; simp [foundV], HBW.out.trans (HM.out.below.mono HBW.out.size)⟩
end Go.Proofs.YtgppobaoclfgcaaGreatDoor
