/- The sort of runes. Conditions: what each lemma says. -/
import Derived.Test.YtgppobaoclfgcaaGreatDoorSortS
import Derived.Sort.Walk13a
import Derived.Deep.CutBlock
set_option linter.unusedVariables false
set_option linter.unusedSimpArgs false
namespace Go.Proofs.YtgppobaoclfgcaaGreatDoor
open Go.RowKit Go.Lib
open Go.Sort (ltInt Hint pdq rd Rd breakPatterns choosePivot reverseRange partialInsertionSort partition partitionEqual insertionSort heapSort)
/-- what a round of the sort stands on: the values ahead of the partition, each by its own name -/
structure Rnd (a b lim : Nat) (wb wp : Bool) (dk d1 : Array Int) (lim1 p : Nat) (hint : Hint) (d2 : Array Int) (pv : Nat) (ht : Hint) (d3 : Array Int) (done : Bool) (RES : Array Int) : Prop where
  brk : wb = false → d1 = breakPatterns dk a b ∧ lim1 = lim - 1
  nobrk : wb = true → d1 = dk ∧ lim1 = lim
  piv : (p, hint) = choosePivot ltInt d1 a b
  dec : hint = .decreasing → d2 = reverseRange d1 a b ∧ pv = (b - 1) - (p - a) ∧ ht = .increasing
  ndec : hint ≠ .decreasing → d2 = d1 ∧ pv = p ∧ ht = hint
  part : (wb && wp && decide (ht = .increasing)) = true → (d3, done) = partialInsertionSort ltInt d2 a b
  npart : (wb && wp && decide (ht = .increasing)) = false → (d3, done) = (d2, false)
  s1 : d1.size = dk.size
  pr : a ≤ p ∧ p < b
  s2 : d2.size = dk.size
  pvr : a ≤ pv ∧ pv < b
  s3 : d3.size = dk.size
  b3 : Go.Sort.Below ltInt a b d3
  fin : done = true → d3 = RES
  eql : done = false → (decide (a > 0) && !ltInt d3[a - 1]! d3[pv]!) = true → ∀ mid d4, partitionEqual ltInt d3 a b pv = (mid, d4) → a < mid ∧ mid ≤ b ∧ d4.size = d3.size ∧ Go.Sort.Below ltInt mid b d4 ∧ pdq ltInt d4 mid b lim1 wb wp = RES
  oth : done = false → (decide (a > 0) && !ltInt d3[a - 1]! d3[pv]!) = false → ∀ mid ap d4, partition ltInt d3 a b pv = (mid, ap, d4) → a ≤ mid ∧ mid < b ∧ d4.size = d3.size ∧
    (mid - a < b - mid → Go.Sort.Below ltInt a mid d4 ∧ Go.Sort.Below ltInt (mid + 1) b (pdq ltInt d4 a mid lim1 true true) ∧ (pdq ltInt d4 a mid lim1 true true).size = d4.size ∧
      pdq ltInt (pdq ltInt d4 a mid lim1 true true) (mid + 1) b lim1 (decide (mid - a ≥ (b - a) / 8)) ap = RES) ∧
    (¬ mid - a < b - mid → Go.Sort.Below ltInt (mid + 1) b d4 ∧ Go.Sort.Below ltInt a mid (pdq ltInt d4 (mid + 1) b lim1 true true) ∧ (pdq ltInt d4 (mid + 1) b lim1 true true).size = d4.size ∧
      pdq ltInt (pdq ltInt d4 (mid + 1) b lim1 true true) a mid lim1 (decide (b - mid ≥ (b - a) / 8)) ap = RES)
theorem rnd_of (a b lim : Nat) (wb wp : Bool) (dk RES : Array Int) (h12 : ¬ b - a ≤ 12) (hl : ¬ lim = 0) (hb : b ≤ dk.size) (hB : Go.Sort.Below ltInt a b dk) (hR : pdq ltInt dk a b lim wb wp = RES) :
    ∃ d1 lim1 p hint d2 pv ht d3 done, Rnd a b lim wb wp dk d1 lim1 p hint d2 pv ht d3 done RES := by
  have S := Go.Sort.swo_ltInt
  have hab : a < b := by omega
  have f := Go.Sort.rd_facts (limit := lim) (wb := wb) (wp := wp) S Go.Sort.partialInsertionSort_holds Go.Sort.reverseRange_holds hab hb hB
  have f1 := Go.Sort.rd_c (lt := ltInt) (d := dk) (a := a) (b := b) (limit := lim) (wb := wb) (wp := wp)
  have f2 := Go.Sort.rd_dec (lt := ltInt) (d := dk) (a := a) (b := b) (limit := lim) (wb := wb) (wp := wp)
  have f3 := Go.Sort.rd_not (lt := ltInt) (d := dk) (a := a) (b := b) (limit := lim) (wb := wb) (wp := wp)
  have f4 := Go.Sort.rd_pi_yes (lt := ltInt) (d := dk) (a := a) (b := b) (limit := lim) (wb := wb) (wp := wp)
  have f5 := Go.Sort.rd_pi_no (lt := ltInt) (d := dk) (a := a) (b := b) (limit := lim) (wb := wb) (wp := wp)
  have f6 := Go.Sort.pdq_done (lt := ltInt) (d := dk) (a := a) (b := b) (limit := lim) (wb := wb) (wp := wp) h12 hl
  have f7 := Go.Sort.pdq_eq (lt := ltInt) (d := dk) (a := a) (b := b) (limit := lim) (wb := wb) (wp := wp) h12 hl
  have f8 := Go.Sort.pdq_left (lt := ltInt) (d := dk) (a := a) (b := b) (limit := lim) (wb := wb) (wp := wp) h12 hl
  have f9 := Go.Sort.pdq_right (lt := ltInt) (d := dk) (a := a) (b := b) (limit := lim) (wb := wb) (wp := wp) h12 hl
  have fa : wb = false → (rd ltInt dk a b lim wb wp).d1 = breakPatterns dk a b ∧ (rd ltInt dk a b lim wb wp).lim = lim - 1 := by rintro rfl; exact Go.Sort.rd_false
  have fb : wb = true → (rd ltInt dk a b lim wb wp).d1 = dk ∧ (rd ltInt dk a b lim wb wp).lim = lim := by rintro rfl; exact Go.Sort.rd_true
  rw [hR] at f6 f7 f8 f9
  obtain ⟨R, hRd⟩ : ∃ R, rd ltInt dk a b lim wb wp = R := ⟨_, rfl⟩
  rw [hRd] at f f1 f2 f3 f4 f5 f6 f7 f8 f9 fa fb
  obtain ⟨d1, lim1, ⟨p, hint⟩, d2, pv, ht, ⟨d3, done⟩⟩ := R
  dsimp only at f f1 f2 f3 f4 f5 f6 f7 f8 f9 fa fb
  obtain ⟨s1, B1, hc1, s2, B2, hpv, s3, B3⟩ := f
  refine ⟨d1, lim1, p, hint, d2, pv, ht, d3, done, ⟨fa, fb, f1, f2, f3, f4, f5, s1, hc1, s2, hpv, s3, B3, fun h => (f6 h).symm, ?_, ?_⟩⟩
  · intro hd h2 mid d4 hx
    have h2' := h2
    simp only [Bool.and_eq_true, decide_eq_true_eq, Bool.not_eq_true'] at h2'
    obtain ⟨r1, r2, r3, r4, _⟩ := Go.Sort.round_eq S (Go.Sort.partitionEqual_holds ltInt) h2'.1 hpv.1 hpv.2 (by omega) B3 h2'.2 hx
    rw [hx] at f7
    exact ⟨r1, r2, r3, r4, (f7 hd h2 ⟨r1, r2⟩).symm⟩
  · intro hd h2 mid ap d4 hx
    obtain ⟨r1, r2, r3, r4, r5, r6, r7⟩ := Go.Sort.round_part S (Go.Sort.partition_holds ltInt) hpv.1 hpv.2 (by omega) B3 hx
    rw [hx] at f8 f9
    refine ⟨r1, r2, r3, fun h4 => ?_, fun h4 => ?_⟩
    · obtain ⟨pL, sL⟩ := Go.Sort.pdq_sorts ltInt S d4 a mid lim1 true true (by omega) (by omega) r4
      exact ⟨r4, (r6 _ pL sL).1, pL.1, (f8 hd h2 ⟨r1, r2⟩ h4).symm⟩
    · obtain ⟨pL, sL⟩ := Go.Sort.pdq_sorts ltInt S d4 (mid + 1) b lim1 true true (by omega) (by omega) r5
      exact ⟨r5, (r7 _ pL sL).1, pL.1, (f9 hd h2 ⟨r1, r2⟩ h4).symm⟩
end Go.Proofs.YtgppobaoclfgcaaGreatDoor
namespace Go.Proofs.YtgppobaoclfgcaaGreatDoor
open Go.RowKit Go.Lib
open Go.Sort (ltInt Hint pdq breakPatterns choosePivot reverseRange partialInsertionSort partition partitionEqual insertionSort heapSort)
theorem hintI_two {h : Hint} : (hintI h == 2) = decide (h = .decreasing) := by cases h <;> rfl
theorem hintI_one {h : Hint} : (hintI h == 1) = decide (h = .increasing) := by cases h <;> rfl
theorem eighth_of {x y p q l t : Nat} (h1 : q ≤ p) (h2 : y ≤ x) (hl : x - y = l) (ht : l / 8 = t) (m : Nat) (hm : p - q = m) : decide ((t : Int) ≤ (m : Int)) = decide (p - q ≥ (x - y) / 8) := by
  rw [hl, ht, hm]
  exact decide_eq_decide.2 ⟨fun h => by omega, fun h => by omega⟩
set_option maxRecDepth 1000000 in
set_option maxHeartbeats 8000000 in
theorem pdqr_any (base g c n : Nat) (hn : n ≤ 1000000) : ∀ (N a b limit : Nat) (d : Array Int) (w : World), b - a < N → Ow base g c n w d → a ≤ b → b ≤ n → limit ≤ 1000000 → Go.Sort.Below ltInt a b d → base ≤ w.heap.size →
    Calls Tryz.prog 60 #[.slice (some ⟨g, 0, none⟩) n c, .int .i64 (a : Int), .int .i64 (b : Int), .int .i64 (limit : Int)] w fun e w' => e = .returned (.tuple #[]) ∧ Ow base g c n w' (pdq ltInt d a b limit true true) ∧ RowKit.Below base w w' := by
  intro N
  induction N with
  | zero => intro _ _ _ _ _ h; exact absurd h (Nat.not_lt_zero _)
  | succ N ih =>
    intro a b limit d w hN hO hab hb hlimit hBel hbw
    obtain ⟨RES, hRES⟩ : ∃ x, pdq ltInt d a b limit true true = x := ⟨_, rfl⟩
    rw [hRES]
    have HRES := Lib.hid hRES
    have HO := Lib.hid hO
    have HBel := Lib.hid hBel
    have HI := Lib.hid ih
    have cL := Lib.hid (fun x y w => (less_any x y w).mono (fun _ _ h => And.intro h.1 h.2.symm))
    clear hRES hO hBel ih
    go_enter Tryz.func60, Tryz.ntmps60
    go_wp2_with fail
    go_loopw [1, 2, 3, 8, 9] (fun s1 s2 s3 s8 s9 wr => ∃ (a' b' lim : Nat) (wb wp : Bool) (dk : Array Int), s1 = .int .i64 (a' : Int) ∧ s2 = .int .i64 (b' : Int) ∧ s3 = .int .i64 (lim : Int) ∧ s8 = .bool wb ∧ s9 = .bool wp ∧
      a' ≤ b' ∧ b' ≤ n ∧ b' - a' ≤ b - a ∧ lim ≤ 1000000 ∧ Go.Sort.Below ltInt a' b' dk ∧ pdq ltInt dk a' b' lim wb wp = RES ∧ Ow base g c n wr dk ∧ RowKit.Below base w wr) (fun s1 s2 _ _ _ _ => (RowKit.intOf s2).toNat - (RowKit.intOf s1).toNat)
    case atStart => exact ⟨a, b, limit, true, true, d, rfl, rfl, rfl, rfl, rfl, hab, hb, Nat.le_refl _, hlimit, HBel.out, HRES.out, HO.out, RowKit.Below.refl _ _⟩
    case round =>
      obtain ⟨a', b', lim, wb, wp, dk, rfl, rfl, rfl, rfl, rfl, hab', hb', hk, hlim, hBel, hR, hO, hB⟩ := hrel
      obtain ⟨w0, rfl⟩ : ∃ x, x = wr := ⟨_, rfl⟩
      obtain ⟨l, hl⟩ : ∃ x, b' - a' = x := ⟨_, rfl⟩
      have el : IntKind.i64.wrap ((b' : Int) - (a' : Int)) = (l : Int) := by rw [IntKind.wrap_i64]; omega
      have HL := Lib.hid hl
      have HR := Lib.hid hR
      have HO1 := Lib.hid hO
      have HB1 := Lib.hid hB
      have hsz := hO.size
      have hbw0 : base ≤ w0.heap.size := Nat.le_trans hbw hB.size
      by_cases h12 : l ≤ 12
      · have d12 : decide ((l : Int) ≤ 12) = true := decide_eq_true (by omega)
        have d12n : decide (l ≤ 12) = true := decide_eq_true h12
        have hc := insr_any base g c n a' b' dk w0 hO (by omega) (by omega) hn
        rw [show insertionSort ltInt dk a' b' = RES by rw [← hR, Go.Sort.pdq_small (by omega)]] at hc
        have HC := Lib.hid hc
        clear hc hl hR hO hB hBel hsz
        go_wp2_with fail
        refine Calls.mono HC.out ?_
        rintro e w1 ⟨rfl, h1, h2⟩
        have H1 := Lib.hid h1
        have H2 := Lib.hid (HB1.out.trans h2)
        clear h1 h2
        go_wp2_with fail
        refine bodyPost_ret (v := .tuple #[]) (results_none (fn := Tryz.f60) rfl _ _ _) rfl ?_
        exact ⟨rfl, H1.out, H2.out⟩
      have d12 : decide ((l : Int) ≤ 12) = false := decide_eq_false (by omega)
      have d12n : decide (l ≤ 12) = false := decide_eq_false h12
      by_cases hl0 : lim = 0
      · subst hl0
        have hc := heap_any base g c n a' b' dk w0 hO (by omega) (by omega) hn
        rw [show heapSort ltInt dk a' b' = RES by rw [← hR, Go.Sort.pdq_heap (by omega) rfl]] at hc
        have HC := Lib.hid hc
        clear hc hl hR hO hB hBel hsz
        go_wp2_with fail
        refine Calls.mono HC.out ?_
        rintro e w1 ⟨rfl, h1, h2⟩
        have H1 := Lib.hid h1
        have H2 := Lib.hid (HB1.out.trans h2)
        clear h1 h2
        go_wp2_with fail
        refine bodyPost_ret (v := .tuple #[]) (results_none (fn := Tryz.f60) rfl _ _ _) rfl ?_
        exact ⟨rfl, H1.out, H2.out⟩
      have d0 : ((lim : Int) == 0) = false := beq_eq_false_iff_ne.2 (by omega)
      obtain ⟨d1, lim1, p, hint, d2, pv, ht, d3, done, hrnd⟩ := rnd_of a' b' lim wb wp dk RES (by omega) hl0 (by omega) hBel hR
      have HRD := Lib.hid hrnd
      have hlim1 : lim1 ≤ 1000000 := by
        cases wb
        · have := (hrnd.brk rfl).2; omega
        · have := (hrnd.nobrk rfl).2; omega
      have a12 : a' + 12 < b' := by omega
      have hpr := hrnd.pr
      have hpvr := hrnd.pvr
      have hs3 : d3.size = n := hrnd.s3.trans hsz
      clear hl hR hO hB hBel hsz hrnd
      go_upto_if 35 with fail
      go_cut [3] (fun s3 wx => s3 = .int .i64 (lim1 : Int) ∧ Ow base g c n wx d1 ∧ RowKit.Below base w wx)
      case first =>
        cases wb
        · obtain ⟨e1, e2⟩ := HRD.out.brk rfl
          have eli : IntKind.i64.wrap ((lim : Int) - 1) = (lim1 : Int) := by rw [IntKind.wrap_i64]; omega
          have HC := Lib.hid (break_any base g c n a' b' dk w0 HO1.out a12 hb' hn hbw0)
          rw [← e1] at HC
          clear e1 e2
          go_wp2_with fail
          refine Calls.mono HC.out ?_
          rintro e w1 ⟨rfl, h1, h2⟩
          have H1 := Lib.hid h1
          have H2 := Lib.hid (HB1.out.trans h2)
          clear h1 h2
          go_wp2_with fail
          go_meet
          case rel => exact ⟨rfl, H1.out, H2.out⟩
        · obtain ⟨e1, e2⟩ := HRD.out.nobrk rfl
          have HE := Lib.hid (And.intro e1 e2)
          clear e1 e2
          go_wp2_with fail
          go_meet
          case rel => exact ⟨by rw [HE.out.2], by rw [HE.out.1]; exact HO1.out, HB1.out⟩
      case rest =>
        obtain ⟨rfl, hO, hB⟩ := hcut
        obtain ⟨w1, rfl⟩ : ∃ x, x = wc := ⟨_, rfl⟩
        have HO2 := Lib.hid hO
        have HB2 := Lib.hid hB
        have HP := Lib.hid (pivot_any base g c n a' b' d1 w1 hO a12 hb' hn (Nat.le_trans hbw hB.size))
        rw [← HRD.out.piv] at HP
        dsimp only at HP
        clear hO hB HO1 HB1
        go_upto_if 50 with (go_at_call 83; refine Calls.mono HP.out ?_; rintro e w2 ⟨rfl, hp1, hp2⟩)
        have HO3 := Lib.hid hp1
        have HB3 := Lib.hid (HB2.out.trans hp2)
        clear hp1 hp2 HO2 HB2 HP
        obtain ⟨b1, hb1⟩ : ∃ x, b' - 1 = x := ⟨_, rfl⟩
        obtain ⟨pa, hpa⟩ : ∃ x, p - a' = x := ⟨_, rfl⟩
        have eb1 : IntKind.i64.wrap ((b' : Int) - 1) = (b1 : Int) := by rw [IntKind.wrap_i64]; omega
        have epa : IntKind.i64.wrap ((p : Int) - (a' : Int)) = (pa : Int) := by rw [IntKind.wrap_i64]; omega
        have HBP := Lib.hid (And.intro hb1 hpa)
        clear hb1 hpa
        go_cut [11, 12] (fun s11 s12 wx => s11 = .int .i64 (pv : Int) ∧ s12 = .int .i64 (hintI ht) ∧ Ow base g c n wx d2 ∧ RowKit.Below base w wx)
        case first =>
          by_cases hd : hint = .decreasing
          · have hc2 : (hintI hint == 2) = true := by rw [hintI_two, hd]; rfl
            obtain ⟨e1, e2, e3⟩ := HRD.out.dec hd
            have ep : IntKind.i64.wrap ((b1 : Int) - (pa : Int)) = (pv : Int) := by have := HBP.out; rw [IntKind.wrap_i64]; omega
            have HC := Lib.hid (reverse_any base g c n a' b' d1 w2 HO3.out (by omega) hb' hn)
            rw [← e1] at HC
            have HT := Lib.hid e3
            clear e1 e2 e3 hd
            go_wp2_with fail
            refine Calls.mono HC.out ?_
            rintro e w1 ⟨rfl, h1, h2⟩
            have H1 := Lib.hid h1
            have H2 := Lib.hid (HB3.out.trans h2)
            clear h1 h2
            go_wp2_with fail
            go_meet
            case rel => exact ⟨rfl, by rw [HT.out]; rfl, H1.out, H2.out⟩
          · have hc2 : (hintI hint == 2) = false := by rw [hintI_two]; exact decide_eq_false hd
            have HT := Lib.hid (HRD.out.ndec hd)
            clear hd
            go_wp2_with fail
            go_meet
            case rel => exact ⟨by rw [HT.out.2.1], by rw [HT.out.2.2], by rw [HT.out.1]; exact HO3.out, HB3.out⟩
        case rest =>
          obtain ⟨rfl, rfl, hO, hB⟩ := hcut
          obtain ⟨w3, rfl⟩ : ∃ x, x = wc := ⟨_, rfl⟩
          have HO4 := Lib.hid hO
          have HB4 := Lib.hid hB
          have hsz4 := hO.size
          clear hO hB HO3 HB3 eb1 epa
          obtain ⟨t68, ht68⟩ : ∃ t, (wb && wp && decide (ht = .increasing)) = t := ⟨_, rfl⟩
          have HT := Lib.hid ht68
          have h1eq := hintI_one (h := ht)
          clear ht68
          go_upto_region 15 with fail
          go_cut [8, 9, 12, 68] (fun s8 s9 s12 s68 wx => s8 = .bool wb ∧ s9 = .bool wp ∧ s12 = .int .i64 (hintI ht) ∧ s68 = .bool t68 ∧ wx = w3)
          case first =>
            obtain ⟨hi, hhi⟩ : ∃ x, hintI ht = x := ⟨_, rfl⟩
            obtain ⟨dd, hdd⟩ : ∃ x, decide (ht = .increasing) = x := ⟨_, rfl⟩
            have ht68 := HT.out
            rw [hhi, hdd] at h1eq
            rw [hdd] at ht68
            have HT2 := Lib.hid (And.intro ht68 hhi)
            clear ht68 hdd
            rw [hhi]
            clear hhi
            cases wb <;> cases wp <;> cases dd <;>
              (go_wp2_with fail
               go_meet
               exact ⟨rfl, rfl, by rw [HT2.out.2], by rw [← HT2.out.1]; rfl, rfl⟩)
          case rest =>
            obtain ⟨rfl, rfl, rfl, rfl, rfl⟩ := hcut
            clear h1eq
            go_upto_if 68 with fail
            go_cut [] (fun wx => done = false ∧ Ow base g c n wx d3 ∧ RowKit.Below base w wx)
            case first =>
              cases t68
              · have e := HRD.out.npart HT.out
                injection e with e1 e2
                have HE := Lib.hid (And.intro e1 e2)
                clear e1 e2
                go_wp2_with fail
                go_meet
                case rel => exact ⟨HE.out.2, by rw [HE.out.1]; exact HO4.out, HB4.out⟩
              · have e := HRD.out.part HT.out
                have HC := Lib.hid (partial_any base g c n a' b' d2 wc HO4.out (by omega) hb' hn)
                rw [← e] at HC
                dsimp only at HC
                clear e
                cases done
                · go_wp2_with fail
                  refine Calls.mono HC.out ?_
                  rintro e w4 ⟨rfl, h1, h2⟩
                  have H1 := Lib.hid h1
                  have H2 := Lib.hid (HB4.out.trans h2)
                  clear h1 h2
                  go_wp2_with fail
                  go_meet
                  case rel => exact ⟨by first | rfl | trivial, H1.out, H2.out⟩
                · have HF := Lib.hid (HRD.out.fin rfl)
                  go_wp2_with fail
                  refine Calls.mono HC.out ?_
                  rintro e w4 ⟨rfl, h1, h2⟩
                  have H1 := Lib.hid h1
                  have H2 := Lib.hid (HB4.out.trans h2)
                  clear h1 h2
                  go_wp2_with fail
                  refine bodyPost_ret (v := .tuple #[]) (results_none (fn := Tryz.f60) rfl _ _ _) rfl ?_
                  exact ⟨rfl, by rw [← HF.out]; exact H1.out, H2.out⟩
            case rest =>
              obtain ⟨hdone, hO, hB⟩ := hcut
              obtain ⟨w4, rfl⟩ : ∃ x, x = wc := ⟨_, rfl⟩
              have HO5 := Lib.hid hO
              have HB5 := Lib.hid hB
              have HDN := Lib.hid hdone
              clear hO hB HO4 HB4 hdone
              obtain ⟨t87, ht87⟩ : ∃ t, (decide (a' > 0) && !ltInt d3[a' - 1]! d3[pv]!) = t := ⟨_, rfl⟩
              have H87 := Lib.hid ht87
              clear ht87
              go_upto_region 17 with fail
              go_cut [87] (fun s87 wx => s87 = .bool t87 ∧ Ow base g c n wx d3 ∧ RowKit.Below base w wx)
              case first =>
                obtain ⟨k, hk⟩ : ∃ k, a' - 1 = k := ⟨_, rfl⟩
                obtain ⟨x, hx⟩ : ∃ z, d3[k]! = z := ⟨_, rfl⟩
                obtain ⟨y, hy⟩ : ∃ z, d3[pv]! = z := ⟨_, rfl⟩
                have h87 := H87.out
                rw [hk, hx, hy] at h87
                have HX := Lib.hid hx
                have HY := Lib.hid hy
                have HK := Lib.hid hk
                have HT8 := Lib.hid h87
                clear hk hx hy h87
                have pvn : pv < n := by omega
                have kn : k < n := by have := HK.out; omega
                have c0 := HO5.out.cell kn
                have c1 := HO5.out.cell pvn
                have lg := HO5.out.lt
                rw [HX.out] at c0
                rw [HY.out] at c1
                by_cases ha0 : a' = 0
                · have da : decide ((a' : Int) > 0) = false := decide_eq_false (by omega)
                  have dan : decide (0 < a') = false := decide_eq_false (by omega)
                  have HTT := Lib.hid (show t87 = false by rw [← HT8.out]; simp [ha0])
                  go_quiet ((go_at_call 86; exact Calls.quiet_of_same (cL.out _ _ _)))
                  go_wp2_with fail
                  go_meet
                  case rel => exact ⟨by rw [HTT.out], HO5.out.nq _, bnq HB5.out _⟩
                have da : decide ((a' : Int) > 0) = true := decide_eq_true (by omega)
                have dan : decide (0 < a') = true := decide_eq_true (by omega)
                have ek : IntKind.i64.wrap ((a' : Int) - 1) = (k : Int) := by have := HK.out; rw [IntKind.wrap_i64]; omega
                have CL := Lib.hid (fun w => cL.out x y w)
                by_cases hc : x < y
                · rw [decide_eq_true hc] at CL
                  have HTT := Lib.hid (show t87 = false by rw [← HT8.out]; unfold ltInt; simp [hc])
                  go_quiet ((go_at_call 86; exact Calls.quiet_of_same (CL.out _)))
                  go_wp2_with fail
                  go_meet
                  case rel => exact ⟨by rw [HTT.out], HO5.out.nq _, bnq HB5.out _⟩
                · rw [decide_eq_false hc] at CL
                  have HTT := Lib.hid (show t87 = true by rw [← HT8.out]; unfold ltInt; simp [hc]; omega)
                  go_quiet ((go_at_call 86; exact Calls.quiet_of_same (CL.out _)))
                  go_wp2_with fail
                  go_meet
                  case rel => exact ⟨by rw [HTT.out], HO5.out.nq _, bnq HB5.out _⟩
              case rest =>
                obtain ⟨rfl, hO, hB⟩ := hcut
                obtain ⟨w5, rfl⟩ : ∃ x, x = wc := ⟨_, rfl⟩
                have HO6 := Lib.hid hO
                have HB6 := Lib.hid hB
                have hbw5 : base ≤ w5.heap.size := Nat.le_trans hbw hB.size
                clear hO hB HO5 HB5
                cases t87
                · have hq := HRD.out.oth HDN.out H87.out
                  have HC := Lib.hid (part_any base g c n a' b' pv d3 w5 HO6.out hpvr.1 hpvr.2 hb' hn)
                  obtain ⟨mid, ap, d4, hx⟩ : ∃ mid ap d4, partition ltInt d3 a' b' pv = (mid, ap, d4) := ⟨(partition ltInt d3 a' b' pv).1, (partition ltInt d3 a' b' pv).2.1, (partition ltInt d3 a' b' pv).2.2, rfl⟩
                  rw [hx] at HC
                  obtain ⟨m1, m2, m3, m4, m5⟩ := hq mid ap d4 hx
                  clear hq hx
                  have hl := HL.out
                  obtain ⟨ll, hll⟩ : ∃ x, mid - a' = x := ⟨_, rfl⟩
                  obtain ⟨rl, hrl⟩ : ∃ x, b' - mid = x := ⟨_, rfl⟩
                  obtain ⟨th, hth⟩ : ∃ x, l / 8 = x := ⟨_, rfl⟩
                  obtain ⟨mid1, hmid1⟩ : ∃ x, mid + 1 = x := ⟨_, rfl⟩
                  have g1 : IntKind.i64.wrap ((mid : Int) - (a' : Int)) = (ll : Int) := by rw [IntKind.wrap_i64]; omega
                  have g2 : IntKind.i64.wrap ((b' : Int) - (mid : Int)) = (rl : Int) := by rw [IntKind.wrap_i64]; omega
                  have g3 : Int.tdiv (l : Int) 8 = (th : Int) := by rw [Int.tdiv_eq_ediv_of_nonneg (by omega)]; omega
                  have g4 : IntKind.i64.wrap (th : Int) = (th : Int) := by rw [IntKind.wrap_i64]; omega
                  have g5 : IntKind.i64.wrap ((mid : Int) + 1) = (mid1 : Int) := by rw [IntKind.wrap_i64]; omega
                  dsimp only at HC
                  go_upto_if 113 with (go_at_call 88; refine Calls.mono HC.out ?_; rintro e w6 ⟨rfl, h1, h2⟩)
                  have HO7 := Lib.hid h1
                  have HB7 := Lib.hid (HB6.out.trans h2)
                  have hbw6 : base ≤ w6.heap.size := Nat.le_trans hbw5 h2.size
                  clear h1 h2
                  by_cases h4 : ll < rl
                  · have d113 : decide ((ll : Int) < (rl : Int)) = true := decide_eq_true (by omega)
                    have d113n : decide (ll < rl) = true := decide_eq_true h4
                    obtain ⟨q1, q2, q3, q4⟩ := m4 (by omega)
                    obtain ⟨nb, hnb⟩ : ∃ t, decide (mid - a' ≥ (b' - a') / 8) = t := ⟨_, rfl⟩
                    have hb8 := eighth_of (x := b') (y := a') (p := mid) (q := a') (by omega) (by omega) hl hth ll hll
                    rw [hnb] at hb8
                    have hb8n : decide (th ≤ ll) = nb := by rw [← hb8]; exact decide_eq_decide.2 ⟨fun h => by omega, fun h => by omega⟩
                    rw [hnb] at q4
                    obtain ⟨d5, hd5⟩ : ∃ x, pdq ltInt d4 a' mid lim1 true true = x := ⟨_, rfl⟩
                    rw [hd5] at q2 q3 q4
                    have hih := HI.out a' mid lim1 d4 w6 (by omega) HO7.out (by omega) (by omega) hlim1 q1 hbw6
                    rw [hd5] at hih
                    rw [hmid1] at q2 q4
                    have HC2 := Lib.hid hih
                    have HQ := Lib.hid (And.intro q2 (And.intro q3 q4))
                    have HXQ := Lib.hid (And.intro hmid1 (And.intro hll (And.intro hrl (And.intro m1 m2))))
                    clear hih q1 q2 q3 q4 hd5 hnb hl hth hll hrl hmid1 m4 m5
                    go_wp2_with fail
                    refine Calls.mono HC2.out ?_
                    rintro e w7 ⟨rfl, h1, h2⟩
                    have H1 := Lib.hid h1
                    have H2 := Lib.hid (HB7.out.trans h2)
                    clear h1 h2
                    go_wp2_with fail
                    go_roundw
                    case rel => exact ⟨mid1, b', lim1, nb, ap, d5, rfl, rfl, rfl, rfl, rfl, by have := HXQ.out; omega, by have := HXQ.out; omega, by have := HXQ.out; omega, hlim1, HQ.out.1, HQ.out.2.2, H1.out, H2.out⟩
                    case measure => simp [RowKit.intOf]; have := HXQ.out; omega
                  · have d113 : decide ((ll : Int) < (rl : Int)) = false := decide_eq_false (by omega)
                    have d113n : decide (ll < rl) = false := decide_eq_false h4
                    obtain ⟨q1, q2, q3, q4⟩ := m5 (by omega)
                    obtain ⟨nb, hnb⟩ : ∃ t, decide (b' - mid ≥ (b' - a') / 8) = t := ⟨_, rfl⟩
                    have hb8 := eighth_of (x := b') (y := a') (p := b') (q := mid) (by omega) (by omega) hl hth rl hrl
                    rw [hnb] at hb8
                    have hb8n : decide (th ≤ rl) = nb := by rw [← hb8]; exact decide_eq_decide.2 ⟨fun h => by omega, fun h => by omega⟩
                    rw [hnb] at q4
                    obtain ⟨d5, hd5⟩ : ∃ x, pdq ltInt d4 (mid + 1) b' lim1 true true = x := ⟨_, rfl⟩
                    rw [hd5] at q2 q3 q4
                    have hih := HI.out (mid + 1) b' lim1 d4 w6 (by omega) HO7.out (by omega) (by omega) hlim1 q1 hbw6
                    rw [hd5] at hih
                    rw [hmid1] at hih
                    have HC2 := Lib.hid hih
                    have HQ := Lib.hid (And.intro q2 (And.intro q3 q4))
                    have HXQ := Lib.hid (And.intro hmid1 (And.intro hll (And.intro hrl (And.intro m1 m2))))
                    clear hih q1 q2 q3 q4 hd5 hnb hl hth hll hrl hmid1 m4 m5
                    go_wp2_with fail
                    refine Calls.mono HC2.out ?_
                    rintro e w7 ⟨rfl, h1, h2⟩
                    have H1 := Lib.hid h1
                    have H2 := Lib.hid (HB7.out.trans h2)
                    clear h1 h2
                    go_wp2_with fail
                    go_roundw
                    case rel => exact ⟨a', mid, lim1, nb, ap, d5, rfl, rfl, rfl, rfl, rfl, by have := HXQ.out; omega, by have := HXQ.out; omega, by have := HXQ.out; omega, hlim1, HQ.out.1, HQ.out.2.2, H1.out, H2.out⟩
                    case measure => simp [RowKit.intOf]; have := HXQ.out; omega
                · have hq := HRD.out.eql HDN.out H87.out
                  have HC := Lib.hid (peq_any base g c n a' b' pv d3 w5 HO6.out hpvr.1 hpvr.2 hb' hn)
                  obtain ⟨mid, d4, hx⟩ : ∃ mid d4, partitionEqual ltInt d3 a' b' pv = (mid, d4) := ⟨(partitionEqual ltInt d3 a' b' pv).1, (partitionEqual ltInt d3 a' b' pv).2, rfl⟩
                  rw [hx] at HC
                  dsimp only at HC
                  have HQ := Lib.hid (hq mid d4 hx)
                  clear hq hx
                  go_wp2_with fail
                  refine Calls.mono HC.out ?_
                  rintro e w6 ⟨rfl, h1, h2⟩
                  have H1 := Lib.hid h1
                  have H2 := Lib.hid (HB6.out.trans h2)
                  clear h1 h2
                  go_wp2_with fail
                  go_roundw
                  case rel => exact ⟨mid, b', lim1, wb, wp, d4, rfl, rfl, rfl, rfl, rfl, HQ.out.2.1, hb', by have := HQ.out; have := HL.out; omega, hlim1, HQ.out.2.2.2.1, HQ.out.2.2.2.2, H1.out, H2.out⟩
                  case measure => simp [RowKit.intOf]; have := HQ.out; omega
end Go.Proofs.YtgppobaoclfgcaaGreatDoor
namespace Go.Proofs.YtgppobaoclfgcaaGreatDoor
open Go.RowKit Go.Lib
open Go.Sort (ltInt pdq bitsLen)
open Plain (Sor)
/-- the runes in their order -/
def srt (R : List Int) : List Int := R.mergeSort fun x y => decide (x ≤ y)
theorem srt_perm (R : List Int) : (srt R).Perm R := List.mergeSort_perm _ _
theorem srt_pair (R : List Int) : (srt R).Pairwise (· ≤ ·) := by
  have h := List.pairwise_mergeSort (le := fun x y : Int => decide (x ≤ y)) (fun a b c h1 h2 => by simp at *; omega) (fun a b => by simp; omega) R
  exact h.imp fun h => by simpa using h
theorem srt_sor (R : List Int) (n : Nat) (hR : R.length = n) : Sor (srt R) n := by
  intro a b hab hb
  have hl : (srt R).length = n := by rw [(srt_perm R).length_eq, hR]
  have h := List.pairwise_iff_getElem.1 (srt_pair R) a b (by omega) (by omega) hab
  simp only [List.getD_eq_getElem?_getD, List.getElem?_eq_getElem (show a < (srt R).length by omega), List.getElem?_eq_getElem (show b < (srt R).length by omega), Option.getD_some]
  exact h
set_option maxRecDepth 100000 in
set_option maxHeartbeats 4000000 in
theorem sortr_any (R : List Int) (base g c n : Nat) (w : World) (hO : w.ownsRow base 21 1 (.slice (some ⟨g, 0, none⟩) n c) n (i32s R)) (hR : R.length = n) (h1 : 1 ≤ n) (hn : n ≤ 1000000) :
    Calls Tryz.prog 34 #[.slice (some ⟨g, 0, none⟩) n c] w fun e w' => e = .returned (.tuple #[]) ∧ w'.ownsRow base 21 1 (.slice (some ⟨g, 0, none⟩) n c) n (i32s (srt R)) ∧ Below base w w' := by
  have hOw : Ow base g c n w R.toArray := ⟨by simpa using hO, by simpa using hR⟩
  have h20 : bitsLen n ≤ 20 := (Go.Sort.bitsLen_le_iff n 20).2 (by omega)
  have hbw : base ≤ w.heap.size := Nat.le_of_lt (Nat.lt_of_le_of_lt (hOw.base_le h1) hOw.lt)
  have cP := pdqr_any base g c n hn (n + 1) 0 n (bitsLen n) R.toArray w (by omega) hOw (by omega) (Nat.le_refl _) (by omega) (.inl rfl) hbw
  have hs : (pdq ltInt R.toArray 0 n (bitsLen n) true true).toList = srt R := by
    have h := Go.Sort.sortInt R
    unfold Go.Sort.sort at h
    rw [show R.toArray.size = n by simpa using hR] at h
    exact h
  have hbl : Lib.bitLen n = bitsLen n := by
    first | exact bitLen_eq n (by omega) | exact Go.Sort.bitLen_eq n (by omega)
  have cL := Tryz.bits_Len (n : Int) w (by omega) (by omega)
  rw [Int.toNat_natCast, hbl] at cL
  have e1 : IntKind.u64.wrap (n : Int) = (n : Int) := by rw [IntKind.wrap_u64]; omega
  have CL := Lib.hid cL
  have CP := Lib.hid cP
  have HS := Lib.hid hs
  clear hO hOw cL cP hs h20 hbl
  go_enter Tryz.func34, Tryz.ntmps34
  go_wp2_with fail
  refine CL.out.mono ?_
  rintro e w1 ⟨rfl, rfl⟩
  go_wp2_with fail
  refine CP.out.mono ?_
  rintro e w2 ⟨rfl, h2, h3⟩
  have H2 := Lib.hid h2.own
  have H3 := Lib.hid h3
  clear h2 h3
  go_wp2_with fail
  go_end0
  exact ⟨rfl, by rw [← HS.out]; exact H2.out, H3.out⟩
end Go.Proofs.YtgppobaoclfgcaaGreatDoor
