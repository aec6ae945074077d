/- dfa: a row of the table. Conditions: what each lemma says. -/
import Derived.Test.YtgppobaoclfgcaaGreatDoorDfaE
import Derived.Deep.CutBlock
import Derived.Deep.DeepCutAuto
set_option linter.unusedVariables false
set_option linter.unusedSimpArgs false
namespace Go.Proofs.YtgppobaoclfgcaaGreatDoor
open Go.RowKit Go.Lib Go.Maps
open Plain (In4 insB bnd riB Rg May)
def RwPost (W w : World) (b mb m : Nat) (lv : Value) (I C : Option Addr) (n c kn d : Nat) (g : Int) (N : List Row) (A : List Bool) (S : List Row) (R : List Th) (e : Ending) (w' : World) : Prop :=
  e = .returned (.tuple #[]) ∧ ∃ (nv av sv : Value) (N' : List Row) (A' : List Bool) (S' : List Row) (m' : Nat), Bd W w' b mb m' lv nv av sv I C n c kn d g N' A' S' R ∧ (∃ rn : Row, N' = N ++ [rn] ∧ rn.2.2.length ≤ 64) ∧ A'.length = A.length + 1 ∧ S.length ≤ S'.length ∧ S'.length ≤ S.length + 64 ∧ m' ≤ m + 64
set_option maxRecDepth 1000000 in
set_option maxHeartbeats 8000000 in
theorem brow_any (W w : World) (b mb m : Nat) (nv av sv : Value) (I C : Option Addr) (L : List In4) (K : List Cs) (n c kn d : Nat) (g : Int) (N : List Row) (A : List Bool) (S : List Row) (R : List Th) (pA : Option Addr) (P : List Int) (pc k : Nat)
    (hB : Bd W w b mb m (.slice pA P.length pc) nv av sv I C n c kn d g N A S R) (hT : Tp W) (hP : PgAt W I L C K) (hLn : L.length = n) (hK : K.length = kn) (hRi : ∀ t ∈ L, riB n kn g t = true) (hn : n ≤ 512) (hPx : Sl W pA (i32s P)) (hp1 : 1 ≤ P.length) (hp2 : P.length ≤ 64) (hk : k < S.length) (hm : m ≤ 900000) (hS : S.length ≤ 900000) (hN : N.length ≤ 1000) (hA : A.length ≤ 1000) :
    Calls Tryz.prog 19 #[.pointer (some ⟨b, 0, none⟩), .int .i64 (k : Int)] w (RwPost W w b mb m (.slice pA P.length pc) I C n c kn d g N A S R) := by
  obtain ⟨pl, hpl⟩ : ∃ x, P.length = x := ⟨_, rfl⟩
  rw [hpl] at hB hp1 hp2 ⊢
  have HPL := Lib.hid hpl
  have HT := Lib.hid hT
  have HP := Lib.hid hP
  have HLN := Lib.hid hLn
  have HKN := Lib.hid hK
  have HRI := Lib.hid hRi
  have HPX := Lib.hid hPx
  obtain ⟨r, hr⟩ : ∃ r, S[k] = r := ⟨_, rfl⟩
  have hrS := hB.lines r (by rw [← hr]; exact List.getElem_mem hk)
  have HR := Lib.hid hrS
  obtain ⟨l, hll⟩ : ∃ l, r.2.2.length = l := ⟨_, rfl⟩
  obtain ⟨A1, hA1⟩ : ∃ l, r.1 = l := ⟨_, rfl⟩
  obtain ⟨c1, hc1⟩ : ∃ l, r.2.1 = l := ⟨_, rfl⟩
  have hrv : rowV r = .slice A1 l c1 := by unfold rowV; rw [hA1, hll, hc1]
  have HRV := Lib.hid hrv
  have HRE := Lib.hid (And.intro hA1 (And.intro hll hc1))
  have hl512 : l ≤ 512 := by have := hrS.2.2; omega
  obtain ⟨sp, sc, hsv⟩ := own_form (hB.sep.row 3 _ _ _ _ _ rfl)
  subst hsv
  obtain ⟨sg, scap, hsv2, _, _, hscl⟩ := own_at (hB.sep.row 3 _ _ _ _ _ rfl) (by omega)
  injection hsv2 with hsp _ _
  subst hsp
  have hsk := hscl.2 k (rowV r) (by rw [List.getElem?_map, List.getElem?_eq_getElem hk, hr]; rfl)
  have hsgl := hscl.1
  rw [hrv] at hsk
  have hB0 := hB.box #[.pointer (some ⟨b, 0, none⟩)] 63
  have hb0 := below_alloc (Below.refl w.heap.size w) (.cells #[.pointer (some ⟨b, 0, none⟩)] 63)
  obtain ⟨w0, hw0⟩ : ∃ v, w.alloc (.cells #[.pointer (some ⟨b, 0, none⟩)] 63) = v := ⟨_, rfl⟩
  have hsk0 := (hb0.cell (p := ⟨sg, k, none⟩) hsgl).trans hsk
  have hlg := Nat.lt_of_lt_of_le hsgl hb0.size
  rw [hw0] at hB0 hb0 hsk0 hlg
  obtain ⟨rb, hrb⟩ : ∃ v, w.heap.size = v := ⟨_, rfl⟩
  rw [hrb] at hB0
  obtain ⟨sn, hsn⟩ : ∃ x, S.length = x := ⟨_, rfl⟩
  have HSN := Lib.hid hsn
  have HB0 := Lib.hid hB0
  have hbx := hB0.sep.box 0 _ _ _ rfl
  have lb := lt_of_some hbx.2
  have x6 : w0.cell? ⟨b, 6, none⟩ = some (.slice (some ⟨sg, 0, none⟩) sn sc) := by rw [cell_of_row _ _ _ _ _ _ hbx.2, ← hsn]; rfl
  have x3 : w0.cell? ⟨b, 3, none⟩ = some (.slice I n c) := by rw [cell_of_row _ _ _ _ _ _ hbx.2]; rfl
  have hrx := hB0.sep.box 4 _ _ _ rfl
  have lr := lt_of_some hrx.2
  have y0 : w0.cell? ⟨rb, 0, none⟩ = some (.pointer (some ⟨b, 0, none⟩)) := by rw [cell_of_row _ _ _ _ _ _ hrx.2]; rfl
  have g0 : (0 : Int) ≤ (k : Int) := by omega
  have g1 : (k : Int) < (sn : Int) := by omega
  have hln0 := hrS.1.ki (.below hb0)
  have HLN0 := Lib.hid hln0
  have ch := has39_any r.2.2 r.1 r.2.1 rb b I L n c w0 hln0.sl hrS.2.1 (by omega) lb lr y0 x3 (hP.insts.below hB0.sep.2) hLn (by omega)
  rw [hA1, hll, hc1] at ch
  have HCH := Lib.hid ch
  clear hB hT hP hLn hK hRi hPx hr hrS hll hA1 hc1 hrv hscl hsk hB0 hb0 hsn hbx hrx hln0 ch hpl hsgl
  have HW0 := Lib.hid hw0
  have HRB := Lib.hid hrb
  clear hw0 hrb
  go_enter Tryz.func19, Tryz.ntmps19
  go_upto_region 1 with fail
  rw [HW0.out, HRB.out]
  clear HW0
  go_wp2_with fail
  refine HCH.out.mono ?_
  rintro e w1 ⟨found, rfl, hb⟩
  have HB1 := Lib.hid (HB0.out.below hb)
  have HLN1 := Lib.hid (HLN0.out.ki (.below hb))
  have hbx := HB1.out.sep.box 0 _ _ _ rfl
  have hrx := HB1.out.sep.box 4 _ _ _ rfl
  clear x6 x3 y0 lb lr hb hsk0 hlg g0 g1
  have lb := lt_of_some hbx.2
  have lr := lt_of_some hrx.2
  have y0 : w1.cell? ⟨rb, 0, none⟩ = some (.pointer (some ⟨b, 0, none⟩)) := by rw [cell_of_row _ _ _ _ _ _ hrx.2]; rfl
  have x0 : w1.cell? ⟨b, 0, none⟩ = some (.slice pA pl pc) := by rw [cell_of_row _ _ _ _ _ _ hbx.2]; rfl
  have hxa := heap_alloc_new2 w1 (.cells #[.int .i64 (k : Int)] 3) w1.heap.size _ rfl
  have hba := below_alloc (Below.refl w1.heap.size w1) (.cells #[.int .i64 (k : Int)] 3)
  have HRP := Lib.hid (repeat_any w1.heap.size k pl (w1.alloc (.cells #[.int .i64 (k : Int)] 3)) hxa hp1 (by omega))
  have HBA := Lib.hid hba
  clear hbx hrx hxa hba
  go_wp2_with fail
  refine HRP.out.mono ?_
  rintro e w2 ⟨gx, X, rfl, hXl, hXc, hgx, hb⟩
  have hb12 : Below w1.heap.size w1 w2 := HBA.out.trans (hb.mono (by simp))
  have hgx1 : w1.heap.size ≤ gx := Nat.le_trans (by simp) hgx
  have hrow : w2.ownsRow w1.heap.size 3 1 (.slice (some ⟨gx, 0, none⟩) pl pl) pl (i64s X) :=
    ⟨by rw [i64s_len, hXl]; omega, .inr ⟨gx, pl, (i64s X).toArray, rfl, hgx1, hXc, Nat.le_refl _, by simp only [maxLen]; omega, by simp [i64s_len, hXl], List.take_of_length_le (by simp [i64s_len, hXl])⟩⟩
  have HB2 := Lib.hid (HB1.out.row hb12 hrow)
  have HLN2 := Lib.hid (HLN1.out.ki (.below hb12))
  have HFS := Lib.hid (show ∀ x ∈ S, far x gx from fun x hx => (HB1.out.lines x hx).1.lt hgx1)
  have HFN := Lib.hid (show ∀ x ∈ N, far x gx from fun x hx => (HB1.out.nexts x hx).lt hgx1)
  have HGX := Lib.hid (lt_of_some hXc)
  have HXL := Lib.hid hXl
  have HBX := Lib.hid (show far r gx from HLN1.out.lt hgx1)
  clear hXl hXc hgx hb hb12 hgx1 hrow lb lr y0 x0
  have hbx := HB2.out.sep.box 0 _ _ _ rfl
  have hrx := HB2.out.sep.box 5 _ _ _ rfl
  have lb := lt_of_some hbx.2
  have lr := lt_of_some hrx.2
  have y0 : w2.cell? ⟨rb, 0, none⟩ = some (.pointer (some ⟨b, 0, none⟩)) := by rw [cell_of_row _ _ _ _ _ _ hrx.2]; rfl
  have x0 : w2.cell? ⟨b, 0, none⟩ = some (.slice pA pl pc) := by rw [cell_of_row _ _ _ _ _ _ hbx.2]; rfl
  clear hbx hrx
  go_wp2_with fail
  clear lb lr y0 x0
  go_loopw [7, 8, 34] (fun _ _ i wr => ∃ (q : Nat) (X : List Int) (sv : Value) (S' : List Row) (m' : Nat), q ≤ pl ∧ i = .int .i64 q ∧ X.length = pl ∧ Bd W wr b mb m' (.slice pA pl pc) nv av sv I C n c kn d g N A S' (rowT 3 1 (.slice (some ⟨gx, 0, none⟩) pl pl) pl (i64s X) :: boxT rb #[.pointer (some ⟨b, 0, none⟩)] 63 :: R) ∧ (∀ x ∈ S', far x gx) ∧ S.length ≤ S'.length ∧ S'.length ≤ S.length + q ∧ m' ≤ m + q ∧ gx < wr.heap.size ∧ Ln wr r) (fun _ _ i _ => pl - (RowKit.intOf i).toNat)
  case atStart => exact ⟨0, X, _, S, m, Nat.zero_le _, rfl, HXL.out, HB2.out, HFS.out, Nat.le_refl _, Nat.le_refl _, Nat.le_refl _, HGX.out, HLN2.out⟩
  case round =>
    obtain ⟨q, X, sv, S1, m1, hq, rfl, hXl, hB, hFS, hs1, hs2, hm1, hgx, hln⟩ := hrel
    have HB := Lib.hid hB
    have HF := Lib.hid (And.intro hFS hln)
    have HQ := Lib.hid (And.intro hXl (And.intro hs1 (And.intro hs2 (And.intro hm1 hgx))))
    clear hXl hB hFS hs1 hs2 hm1 hgx hln
    by_cases hlt : q < pl
    · have hqP : q < P.length := by rw [HPL.out]; exact hlt
      obtain ⟨pb, po, hpe, hpb, hpc⟩ := (HPX.out.below HB.out.sep.2) (by rw [i32s, List.length_map]; omega)
      subst hpe
      have c0 := hpc q (.int .i32 P[q]) (by unfold i32s; rw [List.getElem?_map, List.getElem?_eq_getElem hqP]; rfl)
      obtain ⟨z, hz⟩ : ∃ z, P[q] = z := ⟨_, rfl⟩
      rw [hz] at c0
      have d0 : decide ((q : Int) < (pl : Int)) = true := decide_eq_true (by omega)
      have d1 : decide (q < pl) = true := decide_eq_true hlt
      have g0 : (0 : Int) ≤ (q : Int) := by omega
      have g1 : (q : Int) < (pl : Int) := by omega
      clear hz hpc
      cases found
      case true =>
        go_wp2_with fail
        go_roundw
        case rel => exact ⟨q + 1, X, sv, S1, m1, by omega, by go_num, HQ.out.1, HB.out, HF.out.1, HQ.out.2.1, by have := HQ.out.2.2.1; omega, by have := HQ.out.2.2.2.1; omega, HQ.out.2.2.2.2, HF.out.2⟩
        case measure => simp [RowKit.intOf]; omega
      have cg := goes_any W wr b mb m1 _ nv av sv I C L K n c kn d g N A S1 _ r z HB.out HT.out HP.out HLN.out HKN.out HRI.out hn HF.out.2 HR.out.2.1 HR.out.2.2 (by have := HQ.out.2.2.2.1; omega) (by have := HQ.out.2.2.1; omega)
      rw [HRV.out] at cg
      have HCG := Lib.hid cg
      have hrx := HB.out.sep.box 5 _ _ _ rfl
      have lr := lt_of_some hrx.2
      have y0 : wr.cell? ⟨rb, 0, none⟩ = some (.pointer (some ⟨b, 0, none⟩)) := by rw [cell_of_row _ _ _ _ _ _ hrx.2]; rfl
      clear cg hrx
      go_wp2_with fail
      refine HCG.out.mono ?_
      rintro e w3 ⟨zz, sv2, S2, m2, rfl, hB3, hm2, hS2, hk3⟩
      have hFS2 : ∀ x ∈ S2, far x gx := by
        intro x hx
        rcases hS2 with rfl | ⟨r', hr', rfl⟩
        · exact HF.out.1 x hx
        · rcases List.mem_append.1 hx with hx | hx
          · exact HF.out.1 x hx
          · rw [List.mem_singleton.1 hx]; exact hr'.far HQ.out.2.2.2.2
      have hlS2 : S1.length ≤ S2.length ∧ S2.length ≤ S1.length + 1 := by
        rcases hS2 with rfl | ⟨r', hr', rfl⟩
        · omega
        · simp
      have ho := hB3.sep.row 4 _ _ _ _ _ rfl
      have hol := ho.lt gx rfl
      have hcell : w3.cell? ⟨gx, q, none⟩ = (i64s X)[q]? := ho.cellAt q (by omega)
      have hqX : q < X.length := by rw [HQ.out.1]; exact hlt
      rw [i64s_get X q hqX] at hcell
      have hfr : w3.frozen? ⟨gx, q, none⟩ = false := ho.frozenAt q
      have lgx := hol.2
      have hB4 := hB3.next q zz hFS2 HFN.out
      have hln4 : Ln (w3.setCell ⟨gx, q, none⟩ (.int .i64 zz)) r := (HF.out.2.ki hk3).gr (gr_set _ _ _ _) HBX.out
      have HB4 := Lib.hid hB4
      have HF4 := Lib.hid (And.intro hFS2 hln4)
      have HL4 := Lib.hid (And.intro hlS2 hm2)
      have HG4 := Lib.hid (show gx < (w3.setCell ⟨gx, q, none⟩ (.int .i64 zz)).heap.size by rw [World.size_setCell]; exact lgx)
      clear hB3 hm2 hS2 hk3 hFS2 hlS2 ho hol hB4 hln4 y0 lr c0 hpb
      go_wp2_with fail
      go_roundw
      case rel => exact ⟨q + 1, X.set q zz, sv2, S2, m2, by omega, by go_num, by rw [List.length_set]; exact HQ.out.1, HB4.out, HF4.out.1, by have := HL4.out; have := HQ.out; omega, by have := HL4.out; have := HQ.out; omega, by have := HL4.out; have := HQ.out; omega, HG4.out, HF4.out.2⟩
      case measure => simp [RowKit.intOf]; omega
    · have d0 : decide ((q : Int) < (pl : Int)) = false := decide_eq_false (by omega)
      have d1 : decide (q < pl) = false := decide_eq_false hlt
      obtain ⟨i58, hi58, z0, z1, z2⟩ := info_parts info58
      obtain ⟨i4, hi4, u0, u1, u2⟩ := info_parts info4b
      have hXq := HQ.out.1
      have hrn : rowV ((some ⟨gx, 0, none⟩, pl, X) : Row) = .slice (some ⟨gx, 0, none⟩) pl pl := by unfold rowV; rw [hXq]
      have HRN := Lib.hid hrn
      clear hXq hrn
      obtain ⟨np, nc, hnv⟩ := own_form (HB.out.sep.row 1 _ _ _ _ _ rfl)
      obtain ⟨ap, ac, hav⟩ := own_form (HB.out.sep.row 2 _ _ _ _ _ rfl)
      subst hnv
      subst hav
      go_upto_region 10 with fail
      have hBd := HB.out.below (Below.drew (Below.refl wr.heap.size wr))
      obtain ⟨wd, hwd⟩ : ∃ v, wr.drew = v := ⟨_, rfl⟩
      rw [hwd] at hBd
      have HWD := Lib.hid hwd
      have HBd := Lib.hid hBd
      have hbx := hBd.sep.box 0 _ _ _ rfl
      have hrx := hBd.sep.box 5 _ _ _ rfl
      have hln : Ln wd ((some ⟨gx, 0, none⟩, pl, X) : Row) := by
        obtain ⟨r9, e9, t9, l9, _⟩ := Ln.of_own (T := X) (v := .slice (some ⟨gx, 0, none⟩) pl pl) (by have h := hBd.sep.row 4 3 1 (.slice (some ⟨gx, 0, none⟩) pl pl) pl (i64s X) rfl; rw [← HQ.out.1] at h ⊢; exact h)
        obtain ⟨a9, c9, t9'⟩ := r9
        dsimp only at t9
        subst t9
        unfold rowV at e9
        dsimp only at e9
        injection e9 with e1 _ e3
        subst e1 e3
        exact l9
      have HLNN := Lib.hid hln
      clear hwd hBd hln

      have hS0 : (fun w' : World => w'.cell? ⟨rb, 0, none⟩ = some (.pointer (some ⟨b, 0, none⟩)) ∧ w'.cell? ⟨b, 1, none⟩ = some (.slice np N.length nc)) wd := ⟨by rw [cell_of_row _ _ _ _ _ _ hrx.2]; rfl, by rw [cell_of_row _ _ _ _ _ _ hbx.2]; rfl⟩
      have HS0 := Lib.hid hS0
      have HID := Lib.hid (fun (w' : World) (h : (fun w' : World => w'.cell? ⟨rb, 0, none⟩ = some (.pointer (some ⟨b, 0, none⟩)) ∧ w'.cell? ⟨b, 1, none⟩ = some (.slice np N.length nc)) w') => h)
      clear hS0
      refine wp_region_noPanic ?_
      refine wp_region_T 9 (S := (fun w' : World => w'.cell? ⟨rb, 0, none⟩ = some (.pointer (some ⟨b, 0, none⟩)) ∧ w'.cell? ⟨b, 1, none⟩ = some (.slice np N.length nc))) (by kernel_rfl) (by decide) ?_
      rw [HWD.out]
      refine wpAnyT_take2 0 (v := ?tvxa0) (by kernel_rfl) rfl (by kernel_rfl) (fun _ _ _ h => h) (Or.inl ⟨by rfl, ?tyxa0⟩) HS0.out ?trxa0
      case tyxa0 => (intro w' hSw; obtain ⟨f0, f1⟩ := HID.out w' hSw; (try dsimp only at hSw); go_simp; try with_reducible rfl)
      try simp only [Act.put, List.setIfInBounds_toArray, List.set_cons_zero, List.set_cons_succ]
      refine wpAnyT_take2 1 (v := ?tvxa1) (by kernel_rfl) rfl (by kernel_rfl) (fun _ _ _ h => h) (Or.inl ⟨by rfl, ?tyxa1⟩) HS0.out ?trxa1
      case tyxa1 => (intro w' hSw; obtain ⟨f0, f1⟩ := HID.out w' hSw; (try dsimp only at hSw); go_simp; try with_reducible rfl)
      try simp only [Act.put, List.setIfInBounds_toArray, List.set_cons_zero, List.set_cons_succ]
      refine wpAnyT_take2 2 (v := ?tvxa2) (by kernel_rfl) rfl (by kernel_rfl) (fun _ _ _ h => h) (Or.inl ⟨by rfl, ?tyxa2⟩) HS0.out ?trxa2
      case tyxa2 => (intro w' hSw; (try dsimp only at hSw); go_simp; try with_reducible rfl)
      try simp only [Act.put, List.setIfInBounds_toArray, List.set_cons_zero, List.set_cons_succ]
      refine wpAnyT_take2 3 (v := ?tvxa3) (by kernel_rfl) rfl (by kernel_rfl) (fun _ _ _ h => h) (Or.inl ⟨by rfl, ?tyxa3⟩) HS0.out ?trxa3
      case tyxa3 => (intro w' hSw; (try dsimp only at hSw); go_simp; try with_reducible rfl)
      try simp only [Act.put, List.setIfInBounds_toArray, List.set_cons_zero, List.set_cons_succ]
      refine wpAnyT_take2 4 (v := ?tvxa4) (by kernel_rfl) rfl (by kernel_rfl) (fun _ _ _ h => h) (Or.inl ⟨by rfl, ?tyxa4⟩) HS0.out ?trxa4
      case tyxa4 => (intro w' hSw; (try dsimp only at hSw); go_simp; try with_reducible rfl)
      try simp only [Act.put, List.setIfInBounds_toArray, List.set_cons_zero, List.set_cons_succ]
      refine wpAnyT_take2 5 (v := ?tvxa5) (by kernel_rfl) rfl (by kernel_rfl) (fun _ _ _ h => h) (Or.inl ⟨by rfl, ?tyxa5⟩) HS0.out ?trxa5
      case tyxa5 => (intro w' hSw; obtain ⟨f0, f1⟩ := HID.out w' hSw; (try dsimp only at hSw); go_simp; try with_reducible rfl)
      try simp only [Act.put, List.setIfInBounds_toArray, List.set_cons_zero, List.set_cons_succ]
      refine wpAnyT_take2 6 (v := ?tvxa6) (by kernel_rfl) rfl (by kernel_rfl) (fun _ _ _ h => h) (Or.inl ⟨by rfl, ?tyxa6⟩) HS0.out ?trxa6
      case tyxa6 => (intro w' hSw; (try dsimp only at hSw); go_simp; try with_reducible rfl)
      try simp only [Act.put, List.setIfInBounds_toArray, List.set_cons_zero, List.set_cons_succ]
      refine wpAnyT_one2 7 rfl (by kernel_rfl) ?_
      intro K' hK'
      rw [if_pos (by rfl)]
      have HK := Lib.hid hK'
      clear hK'
      go_simp
      have hsa : (fun w' : World => w'.cell? ⟨rb, 0, none⟩ = some (.pointer (some ⟨b, 0, none⟩)) ∧ w'.cell? ⟨b, 1, none⟩ = some (.slice np N.length nc)) (wd.alloc (.cells #[.slice (some ⟨gx, 0, none⟩) pl pl] 58)) := ⟨(Below.cell (below_alloc (Below.refl wd.heap.size wd) _) (p := ⟨rb, 0, none⟩) (lt_of_some hrx.2)).trans HS0.out.1, (Below.cell (below_alloc (Below.refl wd.heap.size wd) _) (p := ⟨b, 1, none⟩) (lt_of_some hbx.2)).trans HS0.out.2⟩
      have HSA := Lib.hid hsa
      clear hsa
      refine HK.out _ _ ⟨HSA.out, ?_⟩
      clear HK K'
      try simp only [Act.put, List.setIfInBounds_toArray, List.set_cons_zero, List.set_cons_succ]
      refine wpAnyT_one2 8 rfl (by kernel_rfl) ?_
      intro K' hK'
      rw [if_pos (by rfl)]
      have HK := Lib.hid hK'
      clear hK'
      refine oper_append_own2 _ (.tmp 54) (.tmp 56) 24 (by rfl) W.heap.size 58 i58 _ 1 24 Tryz.underlying24 hi58 z0 z1 z2 rfl (by decide) (.slice np N.length nc) N.length (N.map rowV) (by rfl) ((HBd.out.below (below_alloc (Below.refl wd.heap.size wd) (.cells #[.slice (some ⟨gx, 0, none⟩) pl pl] 58))).sep.row 1 _ _ _ _ _ rfl) ⟨wd.heap.size, 0, none⟩ 1 1 [.slice (some ⟨gx, 0, none⟩) pl pl] (by rfl) rfl (CellsAt_add (CellsAt.new wd _ _)) (fun u hu => by simp only [List.mem_cons, List.not_mem_nil, or_false] at hu; rw [hu]; rfl) (by simp only [maxLen]; omega) (by omega) (by have := HBd.out.sep.2.size; simp; omega) ?_
      intro v7 w7 hown hgr hvb
      obtain ⟨gv, uc, rfl, _, _, _⟩ := own_at hown (by omega)
      have hp := HBd.out.pushN (rn := ((some ⟨gx, 0, none⟩, pl, X) : Row)) (v' := .slice (some ⟨gv, 0, none⟩) (N.length + 1) uc) (by rw [HRN.out]; exact hown) (by rw [HRN.out]; exact hgr) (by rw [HRN.out]; exact hvb) HLNN.out
      have hr7 : W.heap.size ≤ rb ∧ w7.heap[rb]? = some (.cells #[.pointer (some ⟨b, 0, none⟩)] 63 (0, 0)) := (HBd.out.sep.push 1 58 1 _ _ N.length (N.length + 1) _ _ rfl (below_alloc (Below.refl wd.heap.size wd) _) hgr hown hvb).box 5 _ _ _ rfl
      have hS7 : (fun w' : World => w'.cell? ⟨rb, 0, none⟩ = some (.pointer (some ⟨b, 0, none⟩)) ∧ w'.cell? ⟨b, 1, none⟩ = some (.slice np N.length nc)) w7 := ⟨by rw [cell_of_row _ _ _ _ _ _ hr7.2]; rfl, by rw [cell_of_row _ _ _ _ _ _ hp.1]; rfl⟩
      refine HK.out _ _ ⟨hS7, ?_⟩
      clear HK K'
      try simp only [Act.put, List.setIfInBounds_toArray, List.set_cons_zero, List.set_cons_succ]

      refine ⟨by kernel_rfl, ?_⟩
      change wpList _ _ _ [_, _, _, _] _ _
      have f7 : w7.frozen? ⟨b, 1, none⟩ = false := blk_frozen hp.1 1
      have l7 := lt_of_some hp.1
      obtain ⟨c7a, c7b⟩ := hS7
      have HP7 := Lib.hid hp.2
      clear hp hown hgr hvb hr7 hbx hrx
      go_wp2
      refine NoPanic.normal ?_
      clear f7 l7 c7a c7b
      obtain ⟨w8, hw8⟩ : ∃ v, w7.setCell ⟨b, 1, none⟩ (.slice (some ⟨gv, 0, none⟩) (N.length + 1) uc) = v := ⟨_, rfl⟩
      rw [hw8] at HP7 ⊢
      clear hw8 HLNN HWD HS0 HSA HID HBd
      go_upto_region 11 with fail
      have hBd := HP7.out.1.below (Below.drew (Below.refl w8.heap.size w8))
      obtain ⟨wd, hwd⟩ : ∃ v, w8.drew = v := ⟨_, rfl⟩
      rw [hwd] at hBd
      have HWD := Lib.hid hwd
      have HBd := Lib.hid hBd
      have hbx := hBd.sep.box 0 _ _ _ rfl
      have hrx := hBd.sep.box 5 _ _ _ rfl
      clear hwd hBd
      have hS0 : (fun w' : World => w'.cell? ⟨rb, 0, none⟩ = some (.pointer (some ⟨b, 0, none⟩)) ∧ w'.cell? ⟨b, 2, none⟩ = some (.slice ap A.length ac)) wd := ⟨by rw [cell_of_row _ _ _ _ _ _ hrx.2]; rfl, by rw [cell_of_row _ _ _ _ _ _ hbx.2]; rfl⟩
      have HS0 := Lib.hid hS0
      have HID := Lib.hid (fun (w' : World) (h : (fun w' : World => w'.cell? ⟨rb, 0, none⟩ = some (.pointer (some ⟨b, 0, none⟩)) ∧ w'.cell? ⟨b, 2, none⟩ = some (.slice ap A.length ac)) w') => h)
      clear hS0
      refine wp_region_noPanic ?_
      refine wp_region_T 9 (S := (fun w' : World => w'.cell? ⟨rb, 0, none⟩ = some (.pointer (some ⟨b, 0, none⟩)) ∧ w'.cell? ⟨b, 2, none⟩ = some (.slice ap A.length ac))) (by kernel_rfl) (by decide) ?_
      rw [HWD.out]
      refine wpAnyT_take2 0 (v := ?tvxb0) (by kernel_rfl) rfl (by kernel_rfl) (fun _ _ _ h => h) (Or.inl ⟨by rfl, ?tyxb0⟩) HS0.out ?trxb0
      case tyxb0 => (intro w' hSw; obtain ⟨f0, f1⟩ := HID.out w' hSw; (try dsimp only at hSw); go_simp; try with_reducible rfl)
      try simp only [Act.put, List.setIfInBounds_toArray, List.set_cons_zero, List.set_cons_succ]
      refine wpAnyT_take2 1 (v := ?tvxb1) (by kernel_rfl) rfl (by kernel_rfl) (fun _ _ _ h => h) (Or.inl ⟨by rfl, ?tyxb1⟩) HS0.out ?trxb1
      case tyxb1 => (intro w' hSw; obtain ⟨f0, f1⟩ := HID.out w' hSw; (try dsimp only at hSw); go_simp; try with_reducible rfl)
      try simp only [Act.put, List.setIfInBounds_toArray, List.set_cons_zero, List.set_cons_succ]
      refine wpAnyT_take2 2 (v := ?tvxb2) (by kernel_rfl) rfl (by kernel_rfl) (fun _ _ _ h => h) (Or.inl ⟨by rfl, ?tyxb2⟩) HS0.out ?trxb2
      case tyxb2 => (intro w' hSw; (try dsimp only at hSw); go_simp; try with_reducible rfl)
      try simp only [Act.put, List.setIfInBounds_toArray, List.set_cons_zero, List.set_cons_succ]
      refine wpAnyT_take2 3 (v := ?tvxb3) (by kernel_rfl) rfl (by kernel_rfl) (fun _ _ _ h => h) (Or.inl ⟨by rfl, ?tyxb3⟩) HS0.out ?trxb3
      case tyxb3 => (intro w' hSw; (try dsimp only at hSw); go_simp; try with_reducible rfl)
      try simp only [Act.put, List.setIfInBounds_toArray, List.set_cons_zero, List.set_cons_succ]
      refine wpAnyT_take2 4 (v := ?tvxb4) (by kernel_rfl) rfl (by kernel_rfl) (fun _ _ _ h => h) (Or.inl ⟨by rfl, ?tyxb4⟩) HS0.out ?trxb4
      case tyxb4 => (intro w' hSw; (try dsimp only at hSw); go_simp; try with_reducible rfl)
      try simp only [Act.put, List.setIfInBounds_toArray, List.set_cons_zero, List.set_cons_succ]
      refine wpAnyT_take2 5 (v := ?tvxb5) (by kernel_rfl) rfl (by kernel_rfl) (fun _ _ _ h => h) (Or.inl ⟨by rfl, ?tyxb5⟩) HS0.out ?trxb5
      case tyxb5 => (intro w' hSw; obtain ⟨f0, f1⟩ := HID.out w' hSw; (try dsimp only at hSw); go_simp; try with_reducible rfl)
      try simp only [Act.put, List.setIfInBounds_toArray, List.set_cons_zero, List.set_cons_succ]
      refine wpAnyT_take2 6 (v := ?tvxb6) (by kernel_rfl) rfl (by kernel_rfl) (fun _ _ _ h => h) (Or.inl ⟨by rfl, ?tyxb6⟩) HS0.out ?trxb6
      case tyxb6 => (intro w' hSw; (try dsimp only at hSw); go_simp; try with_reducible rfl)
      try simp only [Act.put, List.setIfInBounds_toArray, List.set_cons_zero, List.set_cons_succ]
      refine wpAnyT_one2 7 rfl (by kernel_rfl) ?_
      intro K' hK'
      rw [if_pos (by rfl)]
      have HK := Lib.hid hK'
      clear hK'
      go_simp
      have hsa : (fun w' : World => w'.cell? ⟨rb, 0, none⟩ = some (.pointer (some ⟨b, 0, none⟩)) ∧ w'.cell? ⟨b, 2, none⟩ = some (.slice ap A.length ac)) (wd.alloc (.cells #[.bool found] 4)) := ⟨(Below.cell (below_alloc (Below.refl wd.heap.size wd) _) (p := ⟨rb, 0, none⟩) (lt_of_some hrx.2)).trans HS0.out.1, (Below.cell (below_alloc (Below.refl wd.heap.size wd) _) (p := ⟨b, 2, none⟩) (lt_of_some hbx.2)).trans HS0.out.2⟩
      have HSA := Lib.hid hsa
      clear hsa
      refine HK.out _ _ ⟨HSA.out, ?_⟩
      clear HK K'
      try simp only [Act.put, List.setIfInBounds_toArray, List.set_cons_zero, List.set_cons_succ]
      refine wpAnyT_one2 8 rfl (by kernel_rfl) ?_
      intro K' hK'
      rw [if_pos (by rfl)]
      have HK := Lib.hid hK'
      clear hK'
      refine oper_append_own2 _ (.tmp 66) (.tmp 68) 25 (by rfl) W.heap.size 4 i4 _ 1 1 Tryz.underlying25 hi4 u0 u1 u2 rfl (by decide) (.slice ap A.length ac) A.length (A.map Value.bool) (by rfl) ((HBd.out.below (below_alloc (Below.refl wd.heap.size wd) (.cells #[.bool found] 4))).sep.row 2 _ _ _ _ _ rfl) ⟨wd.heap.size, 0, none⟩ 1 1 [.bool found] (by rfl) rfl (CellsAt_add (CellsAt.new wd _ _)) (fun u hu => by simp only [List.mem_cons, List.not_mem_nil, or_false] at hu; rw [hu]; rfl) (by simp only [maxLen]; omega) (by omega) (by have := HBd.out.sep.2.size; simp; omega) ?_
      intro v9 w9 hown hgr hvb
      obtain ⟨gw, ud, rfl, _, _, _⟩ := own_at hown (by omega)
      have hp := HBd.out.pushA (q := found) (v' := .slice (some ⟨gw, 0, none⟩) (A.length + 1) ud) hown hgr hvb
      have hr7 : W.heap.size ≤ rb ∧ w9.heap[rb]? = some (.cells #[.pointer (some ⟨b, 0, none⟩)] 63 (0, 0)) := (HBd.out.sep.push 2 4 1 _ _ A.length (A.length + 1) _ _ rfl (below_alloc (Below.refl wd.heap.size wd) _) hgr hown hvb).box 5 _ _ _ rfl
      have hS7 : (fun w' : World => w'.cell? ⟨rb, 0, none⟩ = some (.pointer (some ⟨b, 0, none⟩)) ∧ w'.cell? ⟨b, 2, none⟩ = some (.slice ap A.length ac)) w9 := ⟨by rw [cell_of_row _ _ _ _ _ _ hr7.2]; rfl, by rw [cell_of_row _ _ _ _ _ _ hp.1]; rfl⟩
      refine HK.out _ _ ⟨hS7, ?_⟩
      clear HK K'
      try simp only [Act.put, List.setIfInBounds_toArray, List.set_cons_zero, List.set_cons_succ]

      refine ⟨by kernel_rfl, ?_⟩
      change wpList _ _ _ [_, _, _, _] _ _
      have f7 : w9.frozen? ⟨b, 2, none⟩ = false := blk_frozen hp.1 2
      have l7 := lt_of_some hp.1
      obtain ⟨c7a, c7b⟩ := hS7
      have HP9 := Lib.hid hp.2
      clear hp hown hgr hvb hr7 hbx hrx
      go_wp2
      refine NoPanic.normal ?_
      clear f7 l7 c7a c7b
      have HFIN := Lib.hid (show RwPost W w b mb m (.slice pA pl pc) I C n c kn d g N A S R (.returned (.tuple #[])) _ from ⟨rfl, _, _, _, _, _, S1, m1, HP9.out.1.drop.drop, ⟨_, rfl, by rw [HQ.out.1]; exact hp2⟩, by simp, HQ.out.2.1, by have := HQ.out.2.2.1; omega, by have := HQ.out.2.2.2.1; omega⟩)
      go_end0
      exact HFIN.out
end Go.Proofs.YtgppobaoclfgcaaGreatDoor
