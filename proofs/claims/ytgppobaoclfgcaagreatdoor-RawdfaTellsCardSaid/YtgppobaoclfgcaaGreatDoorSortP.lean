/- The sort of runes: heap sort, reverse. Conditions: what each lemma says. -/
import Derived.Test.YtgppobaoclfgcaaGreatDoorSortO
import Derived.Sort.Lot0
import Derived.OneCell
import Derived.Sort.AssemblyPlain
set_option linter.unusedVariables false
set_option linter.unusedSimpArgs false
namespace Go.Proofs.YtgppobaoclfgcaaGreatDoor
open Go.RowKit Go.Lib
open Go.Sort (swp ltInt)
/-- the row of runes, as an array -/
structure Ow (base g c n : Nat) (w : World) (d : Array Int) : Prop where
  own : w.ownsRow base 21 1 (.slice (some ⟨g, 0, none⟩) n c) n (i32s d.toList)
  size : d.size = n
theorem getBang (d : Array Int) (k : Nat) : d[k]! = d.toList.getD k 0 := by
  simp only [List.getD, getElem!_def, Array.getElem?_toList]
  cases d[k]? <;> rfl
theorem Ow.cell {base g c n : Nat} {w : World} {d : Array Int} (h : Ow base g c n w d) {k : Nat} (hk : k < n) : w.cell? ⟨g, k, none⟩ = some (.int .i32 d[k]!) := by
  rw [getBang]
  exact own_cell h.own k _ (i32s_at d.toList k (by rw [Array.length_toList, h.size]; exact hk))
theorem Ow.frozen {base g c n : Nat} {w : World} {d : Array Int} (h : Ow base g c n w d) (k : Nat) : w.frozen? ⟨g, k, none⟩ = false := own_frozen h.own k
theorem Ow.lt {base g c n : Nat} {w : World} {d : Array Int} (h : Ow base g c n w d) : g < w.heap.size := lt_of_some (own_blk h.own).choose_spec
theorem Ow.base_le {base g c n : Nat} {w : World} {d : Array Int} (h : Ow base g c n w d) (hn : 0 < n) : base ≤ g := by
  rcases h.own.2 with ⟨hv, _⟩ | ⟨g', cap', cur, hv, hbg, hg, _⟩
  · cases hv
  · injection hv with hv1
    injection hv1 with hv1
    injection hv1 with hv1
    rw [hv1]; exact hbg
theorem Ow.below {base g c n : Nat} {w w' : World} {d : Array Int} (h : Ow base g c n w d) (hb : Below w.heap.size w w') : Ow base g c n w' d := ⟨own_below h.own hb, h.size⟩
theorem swp_list (d : Array Int) (i j : Nat) : (swp d i j).toList = (d.toList.set i d[j]!).set j d[i]! := by
  unfold swp; simp
theorem Ow.swp {base g c n : Nat} {w : World} {d : Array Int} (h : Ow base g c n w d) (i j : Nat) : Ow base g c n ((w.setCell ⟨g, i, none⟩ (.int .i32 d[j]!)).setCell ⟨g, j, none⟩ (.int .i32 d[i]!)) (swp d i j) := by
  refine ⟨?_, by rw [Go.Sort.size_swp, h.size]⟩
  have h1 := (World.ownsRow.stored h.own i (.int .i32 d[j]!)).1
  rw [i32s_set] at h1
  have h2 := (World.ownsRow.stored h1 j (.int .i32 d[i]!)).1
  rw [i32s_set] at h2
  rw [swp_list]
  exact h2
theorem Ow.swpB {base g c n : Nat} {w : World} {d : Array Int} (h : Ow base g c n w d) (hn : 0 < n) (i j : Nat) (u v : Value) : Below base w ((w.setCell ⟨g, i, none⟩ u).setCell ⟨g, j, none⟩ v) :=
  ((Below.refl base w).setCell (p := ⟨g, i, none⟩) (h.base_le hn) u).setCell (p := ⟨g, j, none⟩) (h.base_le hn) v
end Go.Proofs.YtgppobaoclfgcaaGreatDoor
namespace Go.Proofs.YtgppobaoclfgcaaGreatDoor
open Go.RowKit Go.Lib
open Go.Sort (swp)
theorem Ow.sw {base g c n : Nat} {w : World} {d : Array Int} (h : Ow base g c n w d) (hn : 0 < n) {i j : Nat} {x y : Int} (hx : d[i]! = x) (hy : d[j]! = y) :
    Ow base g c n (((w.setCell ⟨g, i, none⟩ (.int .i32 y)).setCell ⟨g, j, none⟩ (.int .i32 x)).drew) (Go.Sort.swp d i j) ∧ Below base w (((w.setCell ⟨g, i, none⟩ (.int .i32 y)).setCell ⟨g, j, none⟩ (.int .i32 x)).drew) := by
  have h1 := h.swp i j
  rw [hx, hy] at h1
  exact ⟨h1.below (Below.refl _ _).drew, (h.swpB hn i j _ _).drew⟩
theorem Ow.nq {base g c n : Nat} {w : World} {d : Array Int} (h : Ow base g c n w d) (k : Nat) : Ow base g c n (w.drewN k) d := h.below (below_drewN (Below.refl _ _) _)
theorem bnq {base : Nat} {w0 w : World} (h : Below base w0 w) (k : Nat) : Below base w0 (w.drewN k) := below_drewN h k
end Go.Proofs.YtgppobaoclfgcaaGreatDoor
namespace Go.Proofs.YtgppobaoclfgcaaGreatDoor
open Go.RowKit Go.Lib
open Go.Sort (swp ltInt siftDown)
theorem sift_out (hi first k : Nat) (d : Array Int) (h : ¬ 2 * k + 1 < hi) : siftDown ltInt hi first k d = d := by
  rw [siftDown, dif_pos (by omega)]
theorem sift_step (hi first k ch : Nat) (d : Array Int) (h : 2 * k + 1 < hi) (hc : ch = if 2 * k + 1 + 1 < hi ∧ d[first + (2 * k + 1)]! < d[first + (2 * k + 1) + 1]! then 2 * k + 2 else 2 * k + 1) :
    siftDown ltInt hi first k d = if d[first + k]! < d[first + ch]! then siftDown ltInt hi first ch (swp d (first + k) (first + ch)) else d := by
  rw [siftDown, dif_neg (by omega)]
  by_cases c : 2 * k + 1 + 1 < hi ∧ d[first + (2 * k + 1)]! < d[first + (2 * k + 1) + 1]!
  · rw [if_pos c] at hc
    subst hc
    have e : (decide (2 * k + 1 + 1 < hi) && ltInt d[first + (2 * k + 1)]! d[first + (2 * k + 1) + 1]!) = true := by unfold ltInt; simp [c.1, c.2]
    rw [if_pos e, dif_pos (by omega)]
    by_cases c2 : d[first + k]! < d[first + (2 * k + 2)]!
    · rw [if_neg (by unfold ltInt; simp [c2]), if_pos c2]
    · rw [if_pos (by unfold ltInt; simpa using c2), if_neg c2]
  · rw [if_neg c] at hc
    subst hc
    have e : ¬ (decide (2 * k + 1 + 1 < hi) && ltInt d[first + (2 * k + 1)]! d[first + (2 * k + 1) + 1]!) = true := by unfold ltInt; simpa using c
    rw [if_neg e]
    by_cases c2 : d[first + k]! < d[first + (2 * k + 1)]!
    · rw [if_neg (by unfold ltInt; simp [c2]), if_pos c2]
    · rw [if_pos (by unfold ltInt; simpa using c2), if_neg c2]
set_option maxRecDepth 100000 in
set_option maxHeartbeats 4000000 in
theorem sift_any (base g c n hi first lo : Nat) (d : Array Int) (w : World) (hO : Ow base g c n w d) (hf : first + hi ≤ n) (hn : n ≤ 1000000) (hl : lo ≤ 1000000) :
    Calls Tryz.prog 111 #[.slice (some ⟨g, 0, none⟩) n c, .int .i64 (lo : Int), .int .i64 (hi : Int), .int .i64 (first : Int)] w fun e w' => e = .returned (.tuple #[]) ∧ Ow base g c n w' (siftDown ltInt hi first lo d) ∧ Below base w w' := by
  obtain ⟨RES, hRES⟩ : ∃ x, siftDown ltInt hi first lo d = x := ⟨_, rfl⟩
  rw [hRES]
  have HRES := Lib.hid hRES
  have HO := Lib.hid hO
  have cL := Lib.hid (fun x y w => (less_any x y w).mono (fun _ _ h => And.intro h.1 h.2.symm))
  clear hRES hO
  go_enter Tryz.func111, Tryz.ntmps111
  go_wp2_with fail
  go_loopw [8, 9] (fun r _ wr => ∃ (k : Nat) (d' : Array Int), r = .int .i64 (k : Int) ∧ k ≤ 1000000 ∧ siftDown ltInt hi first k d' = RES ∧ Ow base g c n wr d' ∧ RowKit.Below base w wr) (fun r _ _ => hi - (RowKit.intOf r).toNat)
  case atStart => exact ⟨lo, d, rfl, hl, HRES.out, HO.out, Below.refl _ _⟩
  case round =>
    obtain ⟨k, d', rfl, hk, hR, hO, hB⟩ := hrel
    have HR := Lib.hid hR
    have HOk := Lib.hid hO
    have HB := Lib.hid hB
    clear hR hO hB
    obtain ⟨m, hm⟩ : ∃ m, 2 * k + 1 = m := ⟨_, rfl⟩
    have e1 : IntKind.i64.wrap (2 * (k : Int)) = 2 * (k : Int) := by rw [IntKind.wrap_i64]; omega
    have e2 : IntKind.i64.wrap (2 * (k : Int) + 1) = (m : Int) := by rw [IntKind.wrap_i64]; omega
    have e2' : 2 * (k : Int) + 1 = (m : Int) := by omega
    have HM := Lib.hid hm
    clear hm
    by_cases hlt : m < hi
    case neg =>
      have hd : decide ((hi : Int) ≤ (m : Int)) = true := decide_eq_true (by omega)
      have hdn : decide (hi ≤ m) = true := decide_eq_true (by omega)
      have hr : d' = RES := by rw [← HR.out, sift_out _ _ _ _ (by have := HM.out; omega)]
      have HRR := Lib.hid hr
      clear hr
      go_wp2_with fail
      go_end0
      exact ⟨rfl, by rw [← HRR.out]; exact HOk.out, HB.out⟩
    have hd : decide ((hi : Int) ≤ (m : Int)) = false := decide_eq_false (by omega)
    have hdn : decide (hi ≤ m) = false := decide_eq_false (by omega)
    obtain ⟨m1, hm1⟩ : ∃ z, m + 1 = z := ⟨_, rfl⟩
    obtain ⟨fm, hfm⟩ : ∃ z, first + m = z := ⟨_, rfl⟩
    obtain ⟨fm1, hfm1⟩ : ∃ z, first + m1 = z := ⟨_, rfl⟩
    obtain ⟨fk, hfk⟩ : ∃ z, first + k = z := ⟨_, rfl⟩
    have e3 : IntKind.i64.wrap ((m : Int) + 1) = (m1 : Int) := by rw [IntKind.wrap_i64]; omega
    have e4 : IntKind.i64.wrap ((first : Int) + (m : Int)) = (fm : Int) := by rw [IntKind.wrap_i64]; omega
    have e5 : IntKind.i64.wrap ((fm : Int) + 1) = (fm1 : Int) := by rw [IntKind.wrap_i64]; omega
    have e6 : IntKind.i64.wrap ((first : Int) + (k : Int)) = (fk : Int) := by rw [IntKind.wrap_i64]; omega
    have e7 : IntKind.i64.wrap ((first : Int) + (m1 : Int)) = (fm1 : Int) := by rw [IntKind.wrap_i64]; omega
    have HE := Lib.hid (And.intro hm1 (And.intro hfm (And.intro hfm1 hfk)))
    have hkm : k < m := by have := HM.out; omega
    by_cases h1 : m1 < hi
    case neg =>
      have dA : decide ((m1 : Int) < (hi : Int)) = false := decide_eq_false (by omega)
      have dAn : decide (m1 < hi) = false := decide_eq_false (by omega)
      clear hm1 hfm hfm1 hfk
      go_upto_region 3 with fail
      go_quiet (fail)
      obtain ⟨w3, hw3⟩ : ∃ x, wr.drewN nq = x := ⟨_, rfl⟩
      have hb3 : Below wr.heap.size wr w3 := by rw [← hw3]; exact below_drewN (Below.refl _ _) _
      rw [hw3]
      have HB3 := Lib.hid hb3
      clear hw3 hb3
      have h0 := HE.out
      have hn0 : 0 < n := by omega
      have HBL := Lib.hid (Nat.le_of_lt (Nat.lt_of_le_of_lt (HOk.out.base_le hn0) HOk.out.lt))
      have k0 : fk < n := by omega
      have k1 : fm < n := by omega
      have kne : fk ≠ fm := by have := HM.out; have := HE.out; omega
      obtain ⟨p, hp⟩ : ∃ z, d'[fk]! = z := ⟨_, rfl⟩
      obtain ⟨q, hq⟩ : ∃ z, d'[fm]! = z := ⟨_, rfl⟩
      have hst := sift_step hi first k (2 * k + 1) d' (by have := HM.out; have := HE.out; omega) (by rw [if_neg (by have := HM.out; have := HE.out.1; omega)])
      rw [h0.2.2.2, show first + (2 * k + 1) = fm from (by have := HM.out; have := HE.out; omega), hp, hq] at hst
      have HP := Lib.hid hp
      have HQ := Lib.hid hq
      have HST := Lib.hid hst
      clear hp hq hst h0
      have HF5 := Lib.hid (fun (w' : World) (h : Below wr.heap.size wr w') => (⟨by rw [← HP.out]; exact (HOk.out.below h).cell k0, by rw [← HQ.out]; exact (HOk.out.below h).cell k1, (HOk.out.below h).lt⟩ : w'.cell? ⟨g, fk, none⟩ = some (.int .i32 p) ∧ w'.cell? ⟨g, fm, none⟩ = some (.int .i32 q) ∧ g < w'.heap.size))
      by_cases hpq : p < q
      · have CL5 := Lib.hid (fun w => cL.out p q w)
        rw [decide_eq_true hpq] at CL5
        obtain ⟨p0, q0, lg⟩ := HF5.out w3 HB3.out
        go_upto_region 5 with fail
        go_quiet ((go_at_call 86; exact Calls.quiet_of_same (CL5.out _)))
        obtain ⟨wz, hwz⟩ : ∃ x, w3.drewN nq = x := ⟨_, rfl⟩
        have hbz : Below wr.heap.size wr wz := by rw [← hwz]; exact below_drewN HB3.out _
        rw [hwz]
        clear hwz p0 q0 lg
        obtain ⟨p0, q0, lg⟩ := HF5.out _ hbz
        have f0 := (HOk.out.below hbz).frozen fk
        have f1 := (HOk.out.below hbz).frozen fm
        have HS := Lib.hid ((HOk.out.below hbz).swp fk fm)
        have HSB := Lib.hid ((HOk.out.below hbz).swpB hn0 fk fm (.int .i32 d'[fm]!) (.int .i32 d'[fk]!))
        rw [HP.out, HQ.out] at HS HSB
        have HBz := Lib.hid (HB.out.trans (hbz.mono HBL.out))
        clear hbz
        go_upto_region 6 with fail
        go_region
        obtain ⟨wy, hwy⟩ : ∃ z, ((wz.setCell ⟨g, fk, none⟩ (.int .i32 q)).setCell ⟨g, fm, none⟩ (.int .i32 p)).drew = z := ⟨_, rfl⟩
        rw [hwy]
        have hbd := (Below.refl ((wz.setCell ⟨g, fk, none⟩ (.int .i32 q)).setCell ⟨g, fm, none⟩ (.int .i32 p)).heap.size ((wz.setCell ⟨g, fk, none⟩ (.int .i32 q)).setCell ⟨g, fm, none⟩ (.int .i32 p))).drew
        have hoy := HS.out.below hbd
        have hby := HBz.out.trans HSB.out.drew
        rw [hwy] at hoy hby
        have HOY := Lib.hid hoy
        have HBY := Lib.hid hby
        clear hbd hoy hby hwy p0 q0 lg f0 f1
        have hres : siftDown ltInt hi first m (swp d' fk fm) = RES := by rw [← HR.out, HST.out, if_pos hpq, show m = (2 * k + 1) from by have := HM.out; have := HE.out; omega]
        have HRS := Lib.hid hres
        clear hres
        go_wp2_with fail
        go_roundw
        case rel => exact ⟨m, _, rfl, by omega, HRS.out, HOY.out, HBY.out⟩
        case measure => simp [RowKit.intOf]; have := HM.out; have := HE.out; omega
      · have CL5 := Lib.hid (fun w => cL.out p q w)
        rw [decide_eq_false hpq] at CL5
        obtain ⟨p0, q0, lg⟩ := HF5.out w3 HB3.out
        go_upto_region 5 with fail
        go_quiet ((go_at_call 86; exact Calls.quiet_of_same (CL5.out _)))
        go_wp2_with fail
        have hres : d' = RES := by rw [← HR.out, HST.out, if_neg (by omega)]
        refine bodyPost_ret (v := .tuple #[]) (results_none (fn := Tryz.f111) rfl _ _ _) rfl ?_
        exact ⟨rfl, by rw [← hres]; exact HOk.out.below (below_drewN HB3.out _), HB.out.trans ((below_drewN HB3.out _).mono HBL.out)⟩
    have dA : decide ((m1 : Int) < (hi : Int)) = true := decide_eq_true (by omega)
    have dAn : decide (m1 < hi) = true := decide_eq_true (by omega)
    have l0 : fm < n := by omega
    have l1 : fm1 < n := by omega
    obtain ⟨x, hx⟩ : ∃ z, d'[fm]! = z := ⟨_, rfl⟩
    obtain ⟨y, hy⟩ : ∃ z, d'[fm1]! = z := ⟨_, rfl⟩
    have p0 := HOk.out.cell l0
    have q0 := HOk.out.cell l1
    have lg := HOk.out.lt
    rw [hx] at p0
    rw [hy] at q0
    have hi1 : first + (2 * k + 1) = fm := by have := HM.out; omega
    have hi2 : first + (2 * k + 1) + 1 = fm1 := by have := HM.out; omega
    have HXY := Lib.hid (And.intro (show d'[first + (2 * k + 1)]! = x by rw [hi1, hx]) (show d'[first + (2 * k + 1) + 1]! = y by rw [hi2, hy]))
    clear hx hy hi1 hi2 hm1 hfm hfm1 hfk
    by_cases hxy : x < y
    · have CL3 := Lib.hid (fun w => cL.out x y w)
      rw [decide_eq_true hxy] at CL3
      go_upto_region 3 with fail
      go_quiet ((go_at_call 86; exact Calls.quiet_of_same (CL3.out _)))
      obtain ⟨w3, hw3⟩ : ∃ x, wr.drewN nq = x := ⟨_, rfl⟩
      have hb3 : Below wr.heap.size wr w3 := by rw [← hw3]; exact below_drewN (Below.refl _ _) _
      rw [hw3]
      have HB3 := Lib.hid hb3
      clear hw3 hb3 p0 q0 lg
      have h0 := HE.out
      have hn0 : 0 < n := by omega
      have HBL := Lib.hid (Nat.le_of_lt (Nat.lt_of_le_of_lt (HOk.out.base_le hn0) HOk.out.lt))
      have k0 : fk < n := by omega
      have k1 : fm1 < n := by omega
      have kne : fk ≠ fm1 := by have := HM.out; have := HE.out; omega
      obtain ⟨p, hp⟩ : ∃ z, d'[fk]! = z := ⟨_, rfl⟩
      obtain ⟨q, hq⟩ : ∃ z, d'[fm1]! = z := ⟨_, rfl⟩
      have hst := sift_step hi first k (2 * k + 2) d' (by have := HM.out; have := HE.out; omega) (by rw [if_pos ⟨by have := HM.out; have := HE.out.1; omega, by rw [HXY.out.1, HXY.out.2]; exact hxy⟩])
      rw [h0.2.2.2, show first + (2 * k + 2) = fm1 from (by have := HM.out; have := HE.out; omega), hp, hq] at hst
      have HP := Lib.hid hp
      have HQ := Lib.hid hq
      have HST := Lib.hid hst
      clear hp hq hst h0
      have HF5 := Lib.hid (fun (w' : World) (h : Below wr.heap.size wr w') => (⟨by rw [← HP.out]; exact (HOk.out.below h).cell k0, by rw [← HQ.out]; exact (HOk.out.below h).cell k1, (HOk.out.below h).lt⟩ : w'.cell? ⟨g, fk, none⟩ = some (.int .i32 p) ∧ w'.cell? ⟨g, fm1, none⟩ = some (.int .i32 q) ∧ g < w'.heap.size))
      by_cases hpq : p < q
      · have CL5 := Lib.hid (fun w => cL.out p q w)
        rw [decide_eq_true hpq] at CL5
        obtain ⟨p0, q0, lg⟩ := HF5.out w3 HB3.out
        go_upto_region 5 with fail
        go_quiet ((go_at_call 86; exact Calls.quiet_of_same (CL5.out _)))
        obtain ⟨wz, hwz⟩ : ∃ x, w3.drewN nq = x := ⟨_, rfl⟩
        have hbz : Below wr.heap.size wr wz := by rw [← hwz]; exact below_drewN HB3.out _
        rw [hwz]
        clear hwz p0 q0 lg
        obtain ⟨p0, q0, lg⟩ := HF5.out _ hbz
        have f0 := (HOk.out.below hbz).frozen fk
        have f1 := (HOk.out.below hbz).frozen fm1
        have HS := Lib.hid ((HOk.out.below hbz).swp fk fm1)
        have HSB := Lib.hid ((HOk.out.below hbz).swpB hn0 fk fm1 (.int .i32 d'[fm1]!) (.int .i32 d'[fk]!))
        rw [HP.out, HQ.out] at HS HSB
        have HBz := Lib.hid (HB.out.trans (hbz.mono HBL.out))
        clear hbz
        go_upto_region 6 with fail
        go_region
        obtain ⟨wy, hwy⟩ : ∃ z, ((wz.setCell ⟨g, fk, none⟩ (.int .i32 q)).setCell ⟨g, fm1, none⟩ (.int .i32 p)).drew = z := ⟨_, rfl⟩
        rw [hwy]
        have hbd := (Below.refl ((wz.setCell ⟨g, fk, none⟩ (.int .i32 q)).setCell ⟨g, fm1, none⟩ (.int .i32 p)).heap.size ((wz.setCell ⟨g, fk, none⟩ (.int .i32 q)).setCell ⟨g, fm1, none⟩ (.int .i32 p))).drew
        have hoy := HS.out.below hbd
        have hby := HBz.out.trans HSB.out.drew
        rw [hwy] at hoy hby
        have HOY := Lib.hid hoy
        have HBY := Lib.hid hby
        clear hbd hoy hby hwy p0 q0 lg f0 f1
        have hres : siftDown ltInt hi first m1 (swp d' fk fm1) = RES := by rw [← HR.out, HST.out, if_pos hpq, show m1 = (2 * k + 2) from by have := HM.out; have := HE.out; omega]
        have HRS := Lib.hid hres
        clear hres
        go_wp2_with fail
        go_roundw
        case rel => exact ⟨m1, _, rfl, by omega, HRS.out, HOY.out, HBY.out⟩
        case measure => simp [RowKit.intOf]; have := HM.out; have := HE.out; omega
      · have CL5 := Lib.hid (fun w => cL.out p q w)
        rw [decide_eq_false hpq] at CL5
        obtain ⟨p0, q0, lg⟩ := HF5.out w3 HB3.out
        go_upto_region 5 with fail
        go_quiet ((go_at_call 86; exact Calls.quiet_of_same (CL5.out _)))
        go_wp2_with fail
        have hres : d' = RES := by rw [← HR.out, HST.out, if_neg (by omega)]
        refine bodyPost_ret (v := .tuple #[]) (results_none (fn := Tryz.f111) rfl _ _ _) rfl ?_
        exact ⟨rfl, by rw [← hres]; exact HOk.out.below (below_drewN HB3.out _), HB.out.trans ((below_drewN HB3.out _).mono HBL.out)⟩
    · have CL3 := Lib.hid (fun w => cL.out x y w)
      rw [decide_eq_false hxy] at CL3
      go_upto_region 3 with fail
      go_quiet ((go_at_call 86; exact Calls.quiet_of_same (CL3.out _)))
      obtain ⟨w3, hw3⟩ : ∃ x, wr.drewN nq = x := ⟨_, rfl⟩
      have hb3 : Below wr.heap.size wr w3 := by rw [← hw3]; exact below_drewN (Below.refl _ _) _
      rw [hw3]
      have HB3 := Lib.hid hb3
      clear hw3 hb3 p0 q0 lg
      have h0 := HE.out
      have hn0 : 0 < n := by omega
      have HBL := Lib.hid (Nat.le_of_lt (Nat.lt_of_le_of_lt (HOk.out.base_le hn0) HOk.out.lt))
      have k0 : fk < n := by omega
      have k1 : fm < n := by omega
      have kne : fk ≠ fm := by have := HM.out; have := HE.out; omega
      obtain ⟨p, hp⟩ : ∃ z, d'[fk]! = z := ⟨_, rfl⟩
      obtain ⟨q, hq⟩ : ∃ z, d'[fm]! = z := ⟨_, rfl⟩
      have hst := sift_step hi first k (2 * k + 1) d' (by have := HM.out; have := HE.out; omega) (by rw [if_neg (by intro h; rw [HXY.out.1, HXY.out.2] at h; exact hxy h.2)])
      rw [h0.2.2.2, show first + (2 * k + 1) = fm from (by have := HM.out; have := HE.out; omega), hp, hq] at hst
      have HP := Lib.hid hp
      have HQ := Lib.hid hq
      have HST := Lib.hid hst
      clear hp hq hst h0
      have HF5 := Lib.hid (fun (w' : World) (h : Below wr.heap.size wr w') => (⟨by rw [← HP.out]; exact (HOk.out.below h).cell k0, by rw [← HQ.out]; exact (HOk.out.below h).cell k1, (HOk.out.below h).lt⟩ : w'.cell? ⟨g, fk, none⟩ = some (.int .i32 p) ∧ w'.cell? ⟨g, fm, none⟩ = some (.int .i32 q) ∧ g < w'.heap.size))
      by_cases hpq : p < q
      · have CL5 := Lib.hid (fun w => cL.out p q w)
        rw [decide_eq_true hpq] at CL5
        obtain ⟨p0, q0, lg⟩ := HF5.out w3 HB3.out
        go_upto_region 5 with fail
        go_quiet ((go_at_call 86; exact Calls.quiet_of_same (CL5.out _)))
        obtain ⟨wz, hwz⟩ : ∃ x, w3.drewN nq = x := ⟨_, rfl⟩
        have hbz : Below wr.heap.size wr wz := by rw [← hwz]; exact below_drewN HB3.out _
        rw [hwz]
        clear hwz p0 q0 lg
        obtain ⟨p0, q0, lg⟩ := HF5.out _ hbz
        have f0 := (HOk.out.below hbz).frozen fk
        have f1 := (HOk.out.below hbz).frozen fm
        have HS := Lib.hid ((HOk.out.below hbz).swp fk fm)
        have HSB := Lib.hid ((HOk.out.below hbz).swpB hn0 fk fm (.int .i32 d'[fm]!) (.int .i32 d'[fk]!))
        rw [HP.out, HQ.out] at HS HSB
        have HBz := Lib.hid (HB.out.trans (hbz.mono HBL.out))
        clear hbz
        go_upto_region 6 with fail
        go_region
        obtain ⟨wy, hwy⟩ : ∃ z, ((wz.setCell ⟨g, fk, none⟩ (.int .i32 q)).setCell ⟨g, fm, none⟩ (.int .i32 p)).drew = z := ⟨_, rfl⟩
        rw [hwy]
        have hbd := (Below.refl ((wz.setCell ⟨g, fk, none⟩ (.int .i32 q)).setCell ⟨g, fm, none⟩ (.int .i32 p)).heap.size ((wz.setCell ⟨g, fk, none⟩ (.int .i32 q)).setCell ⟨g, fm, none⟩ (.int .i32 p))).drew
        have hoy := HS.out.below hbd
        have hby := HBz.out.trans HSB.out.drew
        rw [hwy] at hoy hby
        have HOY := Lib.hid hoy
        have HBY := Lib.hid hby
        clear hbd hoy hby hwy p0 q0 lg f0 f1
        have hres : siftDown ltInt hi first m (swp d' fk fm) = RES := by rw [← HR.out, HST.out, if_pos hpq, show m = (2 * k + 1) from by have := HM.out; have := HE.out; omega]
        have HRS := Lib.hid hres
        clear hres
        go_wp2_with fail
        go_roundw
        case rel => exact ⟨m, _, rfl, by omega, HRS.out, HOY.out, HBY.out⟩
        case measure => simp [RowKit.intOf]; have := HM.out; have := HE.out; omega
      · have CL5 := Lib.hid (fun w => cL.out p q w)
        rw [decide_eq_false hpq] at CL5
        obtain ⟨p0, q0, lg⟩ := HF5.out w3 HB3.out
        go_upto_region 5 with fail
        go_quiet ((go_at_call 86; exact Calls.quiet_of_same (CL5.out _)))
        go_wp2_with fail
        have hres : d' = RES := by rw [← HR.out, HST.out, if_neg (by omega)]
        refine bodyPost_ret (v := .tuple #[]) (results_none (fn := Tryz.f111) rfl _ _ _) rfl ?_
        exact ⟨rfl, by rw [← hres]; exact HOk.out.below (below_drewN HB3.out _), HB.out.trans ((below_drewN HB3.out _).mono HBL.out)⟩
end Go.Proofs.YtgppobaoclfgcaaGreatDoor
namespace Go.Proofs.YtgppobaoclfgcaaGreatDoor
open Go.RowKit Go.Lib
open Go.Sort (swp ltInt siftDown heapBuild heapPop heapSort)
set_option maxRecDepth 100000 in
set_option maxHeartbeats 4000000 in
theorem heap_any (base g c n a b : Nat) (d : Array Int) (w : World) (hO : Ow base g c n w d) (hab : a < b) (hb : b ≤ n) (hn : n ≤ 1000000) :
    Calls Tryz.prog 81 #[.slice (some ⟨g, 0, none⟩) n c, .int .i64 (a : Int), .int .i64 (b : Int)] w fun e w' => e = .returned (.tuple #[]) ∧ Ow base g c n w' (heapSort ltInt d a b) ∧ Below base w w' := by
  obtain ⟨hi, hhi⟩ : ∃ x, b - a = x := ⟨_, rfl⟩
  obtain ⟨q, hq⟩ : ∃ x, (hi - 1) / 2 = x := ⟨_, rfl⟩
  unfold heapSort
  rw [hhi, hq]
  obtain ⟨BU, hBU⟩ : ∃ x, heapBuild ltInt hi a (q + 1) d = x := ⟨_, rfl⟩
  rw [hBU]
  obtain ⟨RES, hRES⟩ : ∃ x, heapPop ltInt a hi BU = x := ⟨_, rfl⟩
  rw [hRES]
  have hn0 : 0 < n := by omega
  have HBU := Lib.hid hBU
  have HRES := Lib.hid hRES
  have HBL := Lib.hid (Nat.le_of_lt (Nat.lt_of_le_of_lt (hO.base_le hn0) hO.lt))
  have HO := Lib.hid hO
  have CS := Lib.hid (fun (lo hi : Nat) (d : Array Int) (w : World) (h : Ow base g c n w d) (hf : a + hi ≤ n) (hl : lo ≤ 1000000) => sift_any base g c n hi a lo d w h hf hn hl)
  have e1 : IntKind.i64.wrap ((b : Int) - (a : Int)) = (hi : Int) := by rw [IntKind.wrap_i64]; omega
  have e2 : IntKind.i64.wrap ((hi : Int) - 1) = (hi : Int) - 1 := by rw [IntKind.wrap_i64]; omega
  have e3 : Int.tdiv ((hi : Int) - 1) 2 = (q : Int) := by rw [Int.tdiv_eq_ediv_of_nonneg (by omega)]; omega
  have e4 : IntKind.i64.wrap (q : Int) = (q : Int) := by rw [IntKind.wrap_i64]; omega
  clear hBU hRES hO
  go_enter Tryz.func81, Tryz.ntmps81
  go_wp2_with fail
  go_loopw [9] (fun i wr => ∃ (d' : Array Int), Ow base g c n wr d' ∧ RowKit.Below base w wr ∧ ((i = .int .i64 (-1) ∧ d' = BU) ∨ ∃ j : Nat, j ≤ q ∧ i = .int .i64 (j : Int) ∧ heapBuild ltInt hi a (j + 1) d' = BU)) (fun i _ => (RowKit.intOf i + 1).toNat)
  case atStart => exact ⟨d, HO.out, Below.refl _ _, Or.inr ⟨q, Nat.le_refl _, rfl, HBU.out⟩⟩
  case round =>
    obtain ⟨w0, rfl⟩ : ∃ x, x = wr := ⟨_, rfl⟩
    obtain ⟨d', hO, hB, ⟨rfl, rfl⟩ | ⟨j, hj, rfl, hd⟩⟩ := hrel
    · have HOk := Lib.hid hO
      have HB := Lib.hid hB
      clear hO hB
      obtain ⟨t, ht⟩ : ∃ t, hi = t + 1 := ⟨hi - 1, by omega⟩
      have e5 : (hi : Int) - 1 = (t : Int) := by omega
      have e6 : IntKind.i64.wrap ((hi : Int) - 1) = (t : Int) := by rw [IntKind.wrap_i64]; omega
      have HTT := Lib.hid ht
      have HBx := Lib.hid HB.out
      clear e2 e3 e4 ht
      rw [e5] at e6
      go_wp2_with fail
      clear HBU HO HB e5 e6
      have HBW := Lib.hid (And.intro HOk.out (show heapPop ltInt a (t + 1) d' = RES from by rw [← HTT.out]; exact HRES.out))
      go_loopw [10] (fun i wr => ∃ (d' : Array Int), Ow base g c n wr d' ∧ RowKit.Below base w wr ∧ ((i = .int .i64 (-1) ∧ d' = RES) ∨ ∃ j : Nat, j < hi ∧ i = .int .i64 (j : Int) ∧ heapPop ltInt a (j + 1) d' = RES)) (fun i _ => (RowKit.intOf i + 1).toNat)
      case atStart => exact ⟨d', HBW.out.1, HBx.out, Or.inr ⟨t, by have := HTT.out; omega, rfl, HBW.out.2⟩⟩
      case round =>
        clear HBW HBx HOk
        obtain ⟨w0, rfl⟩ : ∃ x, x = wr := ⟨_, rfl⟩
        obtain ⟨d', hO, hB, ⟨rfl, rfl⟩ | ⟨j, hj, rfl, hd⟩⟩ := hrel
        · go_wp2_with fail
          go_end0
          exact ⟨rfl, hO, hB⟩
        have HOk := Lib.hid hO
        have HB := Lib.hid hB
        have HD := Lib.hid hd
        clear hO hB hd
        rcases Nat.eq_zero_or_pos j with h0 | h0
        · subst h0
          have hj0 : a + 0 = a := Nat.add_zero a
          obtain ⟨x, hx⟩ : ∃ z, d'[a]! = z := ⟨_, rfl⟩
          have l0 : a < n := by omega
          have p0 := HOk.out.cell l0
          have lg := HOk.out.lt
          have f0 := HOk.out.frozen a
          have HS := Lib.hid (HOk.out.swp a a)
          have HSB := Lib.hid (HOk.out.swpB hn0 a a (.int .i32 d'[a]!) (.int .i32 d'[a]!))
          rw [hx] at p0 HS HSB
          have ea : IntKind.i64.wrap ((a : Int) + ((0 : Nat) : Int)) = (a : Int) := by rw [IntKind.wrap_i64]; omega
          have ea' : IntKind.i64.wrap (a : Int) = (a : Int) := by rw [IntKind.wrap_i64]; omega
          have g2 : (0 : Int) ≤ (a : Int) := by omega
          have g3 : (a : Int) < (n : Int) := by omega
          have hres : heapPop ltInt a 0 (siftDown ltInt 0 a 0 (swp d' a a)) = RES := by rw [← HD.out]; rfl
          have HRS := Lib.hid hres
          clear hx hres
          go_upto_region 10 with fail
          go_region
          obtain ⟨wy, hwy⟩ : ∃ z, ((w0.setCell ⟨g, a, none⟩ (.int .i32 x)).setCell ⟨g, a, none⟩ (.int .i32 x)).drew = z := ⟨_, rfl⟩
          rw [hwy]
          have hbd := (Below.refl ((w0.setCell ⟨g, a, none⟩ (.int .i32 x)).setCell ⟨g, a, none⟩ (.int .i32 x)).heap.size ((w0.setCell ⟨g, a, none⟩ (.int .i32 x)).setCell ⟨g, a, none⟩ (.int .i32 x))).drew
          have hoy := HS.out.below hbd
          have hby := HB.out.trans HSB.out.drew
          rw [hwy] at hoy hby
          have HOY := Lib.hid hoy
          have HBY := Lib.hid hby
          clear hbd hoy hby hwy p0 lg f0 
          have CS0 := Lib.hid (show Calls Tryz.prog 111 #[.slice (some ⟨g, 0, none⟩) n c, .int .i64 0, .int .i64 0, .int .i64 (a : Int)] wy _ from CS.out 0 0 _ wy HOY.out (by omega) (by omega))
          go_wp2_with fail
          refine Calls.mono CS0.out ?_
          rintro e w1 ⟨rfl, ho, hb1⟩
          have HO1 := Lib.hid ho
          have HB1 := Lib.hid (HBY.out.trans hb1)
          clear ho hb1
          go_wp2_with fail
          go_roundw
          case rel => exact ⟨_, HO1.out, HB1.out, Or.inl ⟨by first | rfl | (go_num), HRS.out⟩⟩
          case measure => simp [RowKit.intOf]
        · obtain ⟨t, rfl⟩ : ∃ t, j = t + 1 := ⟨j - 1, by omega⟩
          obtain ⟨j1, hj1⟩ : ∃ z, t + 1 = z := ⟨_, rfl⟩
          obtain ⟨aj, haj⟩ : ∃ z, a + j1 = z := ⟨_, rfl⟩
          rw [hj1] at hj HD ⊢
          obtain ⟨x, hx⟩ : ∃ z, d'[a]! = z := ⟨_, rfl⟩
          obtain ⟨y, hy⟩ : ∃ z, d'[aj]! = z := ⟨_, rfl⟩
          have l0 : a < n := by omega
          have l1 : aj < n := by omega
          have p0 := HOk.out.cell l0
          have q0 := HOk.out.cell l1
          have lg := HOk.out.lt
          have f0 := HOk.out.frozen a
          have f1 := HOk.out.frozen aj
          have hne : a ≠ aj := by omega
          have HS := Lib.hid (HOk.out.swp a aj)
          have HSB := Lib.hid (HOk.out.swpB hn0 a aj (.int .i32 d'[aj]!) (.int .i32 d'[a]!))
          rw [hx] at p0 HS HSB
          rw [hy] at q0 HS HSB
          have ea : IntKind.i64.wrap ((a : Int) + (j1 : Int)) = (aj : Int) := by rw [IntKind.wrap_i64]; omega
          have hres : heapPop ltInt a j1 (siftDown ltInt j1 a 0 (swp d' a aj)) = RES := by rw [← HD.out, ← haj]; rfl
          have HRS := Lib.hid hres
          have e7 : IntKind.i64.wrap ((j1 : Int) - 1) = (t : Int) := by rw [IntKind.wrap_i64]; omega
          have d1 : decide ((0 : Int) ≤ (j1 : Int)) = true := decide_eq_true (by omega)
          have HTJ := Lib.hid hj1
          clear hx hy hres hj1 haj
          go_upto_region 10 with fail
          go_region
          obtain ⟨wy, hwy⟩ : ∃ z, ((w0.setCell ⟨g, a, none⟩ (.int .i32 y)).setCell ⟨g, aj, none⟩ (.int .i32 x)).drew = z := ⟨_, rfl⟩
          rw [hwy]
          have hbd := (Below.refl ((w0.setCell ⟨g, a, none⟩ (.int .i32 y)).setCell ⟨g, aj, none⟩ (.int .i32 x)).heap.size ((w0.setCell ⟨g, a, none⟩ (.int .i32 y)).setCell ⟨g, aj, none⟩ (.int .i32 x))).drew
          have hoy := HS.out.below hbd
          have hby := HB.out.trans HSB.out.drew
          rw [hwy] at hoy hby
          have HOY := Lib.hid hoy
          have HBY := Lib.hid hby
          clear hbd hoy hby hwy p0 lg f0 q0 f1
          have CS0 := Lib.hid (show Calls Tryz.prog 111 #[.slice (some ⟨g, 0, none⟩) n c, .int .i64 0, .int .i64 (j1 : Int), .int .i64 (a : Int)] wy _ from CS.out 0 j1 _ wy HOY.out (by omega) (by omega))
          go_wp2_with fail
          refine Calls.mono CS0.out ?_
          rintro e w1 ⟨rfl, ho, hb1⟩
          have HO1 := Lib.hid ho
          have HB1 := Lib.hid (HBY.out.trans hb1)
          clear ho hb1
          go_wp2_with fail
          go_roundw
          case rel => exact ⟨_, HO1.out, HB1.out, Or.inr ⟨t, by have := HTJ.out; omega, by first | rfl | (go_num), by rw [HTJ.out]; exact HRS.out⟩⟩
          case measure => simp [RowKit.intOf]; have := HTJ.out; omega
    · have HOk := Lib.hid hO
      have HB := Lib.hid hB
      have HD := Lib.hid hd
      clear hO hB hd
      have d1 : decide ((0 : Int) ≤ (j : Int)) = true := decide_eq_true (by omega)
      have CSj := Lib.hid (CS.out j hi d' w0 HOk.out (by omega) (by omega))
      go_wp2_with fail
      refine Calls.mono CSj.out ?_
      rintro e w1 ⟨rfl, ho, hb1⟩
      have HO1 := Lib.hid ho
      have HB1 := Lib.hid (HB.out.trans hb1)
      have HD1 := Lib.hid (show heapBuild ltInt hi a j (siftDown ltInt hi a j d') = BU from HD.out)
      clear ho hb1
      rcases Nat.eq_zero_or_pos j with h0 | h0
      · subst h0
        have e7 : IntKind.i64.wrap (((0 : Nat) : Int) - 1) = -1 := by decide
        go_wp2_with fail
        go_roundw
        case rel => exact ⟨_, HO1.out, HB1.out, Or.inl ⟨by first | rfl | (go_num), HD1.out⟩⟩
        case measure => simp [RowKit.intOf]
      · obtain ⟨z, rfl⟩ : ∃ z, j = z + 1 := ⟨j - 1, by omega⟩
        have e7 : IntKind.i64.wrap (((z + 1 : Nat) : Int) - 1) = (z : Int) := by rw [IntKind.wrap_i64]; omega
        have e7' : IntKind.i64.wrap ((z : Int) + 1 - 1) = (z : Int) := by rw [IntKind.wrap_i64]; omega
        go_wp2_with fail
        go_roundw
        case rel => exact ⟨_, HO1.out, HB1.out, Or.inr ⟨z, by omega, by first | rfl | (go_num), HD1.out⟩⟩
        case measure => simp [RowKit.intOf]; omega
end Go.Proofs.YtgppobaoclfgcaaGreatDoor
namespace Go.Proofs.YtgppobaoclfgcaaGreatDoor
open Go.RowKit Go.Lib
open Go.Sort (swp reverseLoop reverseRange)
set_option maxRecDepth 100000 in
set_option maxHeartbeats 4000000 in
theorem reverse_any (base g c n a b : Nat) (d : Array Int) (w : World) (hO : Ow base g c n w d) (hab : a < b) (hb : b ≤ n) (hn : n ≤ 1000000) :
    Calls Tryz.prog 84 #[.slice (some ⟨g, 0, none⟩) n c, .int .i64 (a : Int), .int .i64 (b : Int)] w fun e w' => e = .returned (.tuple #[]) ∧ Ow base g c n w' (reverseRange d a b) ∧ Below base w w' := by
  unfold reverseRange
  obtain ⟨z, rfl⟩ : ∃ z, b = z + 1 := ⟨b - 1, by omega⟩
  rw [Nat.add_sub_cancel]
  obtain ⟨b, hbz⟩ : ∃ b, z + 1 = b := ⟨_, rfl⟩
  rw [hbz] at hab hb ⊢
  obtain ⟨RES, hRES⟩ : ∃ x, reverseLoop a z d = x := ⟨_, rfl⟩
  rw [hRES]
  have hn0 : 0 < n := by omega
  have HRES := Lib.hid hRES
  have HO := Lib.hid hO
  have HZ := Lib.hid hbz
  have e1 : IntKind.i64.wrap ((b : Int) - 1) = (z : Int) := by rw [IntKind.wrap_i64]; omega
  clear hRES hO hbz
  go_enter Tryz.func84, Tryz.ntmps84
  go_wp2_with fail
  clear e1
  go_loopw [6, 7] (fun x y wr => ∃ (i j : Nat) (d' : Array Int), x = .int .i64 (i : Int) ∧ y = .int .i64 (j : Int) ∧ i ≤ n ∧ j < n ∧ reverseLoop i j d' = RES ∧ Ow base g c n wr d' ∧ RowKit.Below base w wr) (fun _ y _ => (RowKit.intOf y).toNat)
  case atStart => exact ⟨a, z, d, rfl, rfl, by omega, by have := HZ.out; omega, HRES.out, HO.out, Below.refl _ _⟩
  case round =>
    obtain ⟨w0, rfl⟩ : ∃ x, x = wr := ⟨_, rfl⟩
    obtain ⟨i, j, d', rfl, rfl, hi, hj, hR, hO, hB⟩ := hrel
    have HR := Lib.hid hR
    have HOk := Lib.hid hO
    have HB := Lib.hid hB
    clear hR hO hB
    by_cases hij : i < j
    case neg =>
      have d1 : decide ((i : Int) < (j : Int)) = false := decide_eq_false (by omega)
      have hr : d' = RES := by rw [← HR.out, reverseLoop, if_neg hij]
      have HRR := Lib.hid hr
      clear hr
      go_wp2_with fail
      go_end0
      exact ⟨rfl, by rw [← HRR.out]; exact HOk.out, HB.out⟩
    have d1 : decide ((i : Int) < (j : Int)) = true := decide_eq_true (by omega)
    obtain ⟨t, rfl⟩ : ∃ t, j = t + 1 := ⟨j - 1, by omega⟩
    obtain ⟨i1, hi1⟩ : ∃ z, i + 1 = z := ⟨_, rfl⟩
    have hres : reverseLoop i1 t (swp d' i (t + 1)) = RES := by rw [← HR.out, reverseLoop.eq_def i (t + 1) d', if_pos hij, hi1, Nat.add_sub_cancel]
    have HRS := Lib.hid hres
    obtain ⟨j, htj⟩ : ∃ j, t + 1 = j := ⟨_, rfl⟩
    rw [htj] at hij hj d1 HR HRS ⊢
    obtain ⟨x, hx⟩ : ∃ z, d'[i]! = z := ⟨_, rfl⟩
    obtain ⟨y, hy⟩ : ∃ z, d'[j]! = z := ⟨_, rfl⟩
    have l0 : i < n := by omega
    have p0 := HOk.out.cell l0
    have q0 := HOk.out.cell hj
    have lg := HOk.out.lt
    have f0 := HOk.out.frozen i
    have f1 := HOk.out.frozen j
    have hne : i ≠ j := by omega
    have HS := Lib.hid (HOk.out.swp i j)
    have HSB := Lib.hid (HOk.out.swpB hn0 i j (.int .i32 d'[j]!) (.int .i32 d'[i]!))
    rw [hx] at p0 HS HSB
    rw [hy] at q0 HS HSB
    have HTJ := Lib.hid (And.intro htj hi1)
    clear hx hy hres htj hi1
    go_upto_region 3 with fail
    go_region
    obtain ⟨wy, hwy⟩ : ∃ z, ((w0.setCell ⟨g, i, none⟩ (.int .i32 y)).setCell ⟨g, j, none⟩ (.int .i32 x)).drew = z := ⟨_, rfl⟩
    rw [hwy]
    have hbd := (Below.refl ((w0.setCell ⟨g, i, none⟩ (.int .i32 y)).setCell ⟨g, j, none⟩ (.int .i32 x)).heap.size ((w0.setCell ⟨g, i, none⟩ (.int .i32 y)).setCell ⟨g, j, none⟩ (.int .i32 x))).drew
    have hoy := HS.out.below hbd
    have hby := HB.out.trans HSB.out.drew
    rw [hwy] at hoy hby
    have HOY := Lib.hid hoy
    have HBY := Lib.hid hby
    clear hbd hoy hby hwy p0 q0 lg f0 f1
    have e2 : IntKind.i64.wrap ((j : Int) - 1) = (t : Int) := by have := HTJ.out; rw [IntKind.wrap_i64]; omega
    have e3 : IntKind.i64.wrap ((i : Int) + 1) = (i1 : Int) := by have := HTJ.out; rw [IntKind.wrap_i64]; omega
    go_wp2_with fail
    go_roundw
    case rel => exact ⟨i1, t, _, rfl, rfl, by have := HTJ.out; omega, by have := HTJ.out; omega, HRS.out, HOY.out, HBY.out⟩
    case measure => simp [RowKit.intOf]; have := HTJ.out; omega
end Go.Proofs.YtgppobaoclfgcaaGreatDoor
