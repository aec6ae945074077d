/- The sort of runes: the pivot. Conditions: what each lemma says. -/
import Derived.Test.YtgppobaoclfgcaaGreatDoorSortP
import Derived.Sort.LotD7
import Derived.Sort.WalkA14
set_option linter.unusedVariables false
set_option linter.unusedSimpArgs false
namespace Go.Proofs.YtgppobaoclfgcaaGreatDoor
open Go.RowKit Go.Lib
open Go.Sort (ltInt order2)
/-- the box of a number -/
def Bx (w : World) (sb : Nat) (s : Nat) : Prop := w.heap[sb]? = some (.cells #[.int .i64 (s : Int)] 3 (0, 0))
theorem Ow.other {base g c n : Nat} {w : World} {d : Array Int} (h : Ow base g c n w d) {sb : Nat} (hne : sb ≠ g) (v : Value) : Ow base g c n (w.setCell ⟨sb, 0, none⟩ v) d :=
  ⟨ownsRow_setCell_other h.own (by
    show (some g : Option Nat) ≠ some sb
    intro e; injection e with e; exact hne e.symm) v, h.size⟩
theorem Bx.set {w : World} {sb s : Nat} (h : Bx w sb s) (t : Nat) : Bx (w.setCell ⟨sb, 0, none⟩ (.int .i64 (t : Int))) sb t := by
  unfold Bx at h ⊢
  show (w.heap.modify sb _)[sb]? = _
  rw [Array.getElem?_modify, if_pos rfl, h]
  rfl
set_option maxRecDepth 100000 in
set_option maxHeartbeats 4000000 in
theorem order2_any (base g c n a b sb s : Nat) (d : Array Int) (w : World) (hO : Ow base g c n w d) (ha : a < n) (hb : b < n) (hn : n ≤ 1000000) (hs : s ≤ 1000) (hB : Bx w sb s) (hne : sb ≠ g) (hsb : base ≤ sb) :
    Calls Tryz.prog 131 #[.slice (some ⟨g, 0, none⟩) n c, .int .i64 (a : Int), .int .i64 (b : Int), .pointer (some ⟨sb, 0, none⟩)] w fun e w' =>
      e = .returned (.tuple #[.int .i64 ((order2 ltInt d a b s).1 : Int), .int .i64 ((order2 ltInt d a b s).2.1 : Int)]) ∧ Ow base g c n w' d ∧ Bx w' sb (order2 ltInt d a b s).2.2 ∧ Below base w w' := by
  have cL := Lib.hid (fun x y w => (less_any x y w).mono (fun _ _ h => And.intro h.1 h.2.symm))
  obtain ⟨x, hx⟩ : ∃ z, d[b]! = z := ⟨_, rfl⟩
  obtain ⟨y, hy⟩ : ∃ z, d[a]! = z := ⟨_, rfl⟩
  have p0 := hO.cell hb
  have q0 := hO.cell ha
  have lg := hO.lt
  rw [hx] at p0
  rw [hy] at q0
  unfold order2
  rw [hx, hy]
  have HO := Lib.hid hO
  have HB := Lib.hid hB
  clear hO hB hx hy
  by_cases hxy : x < y
  · rw [if_pos (by unfold ltInt; simpa using hxy)]
    dsimp only
    have CL := Lib.hid (fun w => cL.out x y w)
    rw [decide_eq_true hxy] at CL
    have e1 : IntKind.i64.wrap ((s : Int) + 1) = ((s + 1 : Nat) : Int) := by rw [IntKind.wrap_i64]; omega
    go_enter Tryz.func131, Tryz.ntmps131
    go_upto_region 1 with fail
    go_quiet ((go_at_call 86; exact Calls.quiet_of_same (CL.out _)))
    obtain ⟨w3, hw3⟩ : ∃ x, w.drewN nq = x := ⟨_, rfl⟩
    have hb3 : Below w.heap.size w w3 := by rw [← hw3]; exact below_drewN (Below.refl _ _) _
    have hB3 : Below base w w3 := by rw [← hw3]; exact below_drewN (Below.refl _ _) _
    rw [hw3]
    have HO3 := Lib.hid (HO.out.below hb3)
    have hbx : Bx w3 sb s := blk_later HB.out hb3
    have HB3 := Lib.hid hbx
    have HBB := Lib.hid hB3
    clear hw3 hb3 hB3 p0 q0 lg
    have x0 : w3.cell? ⟨sb, 0, none⟩ = some (.int .i64 (s : Int)) := by rw [cell_of_row _ _ _ _ _ _ hbx]; rfl
    have f0 := blk_frozen hbx 0
    have ls := lt_of_some hbx
    have HO4 := Lib.hid (HO3.out.other hne (.int .i64 ((s + 1 : Nat) : Int)))
    have HB4 := Lib.hid (hbx.set (s + 1))
    have HBE := Lib.hid (HBB.out.setCell (p := ⟨sb, 0, none⟩) hsb (.int .i64 ((s + 1 : Nat) : Int)))
    clear hbx
    go_wp2_with fail
    go_ret2
    exact ⟨rfl, HO4.out, HB4.out, HBE.out⟩
  · rw [if_neg (by unfold ltInt; simpa using hxy)]
    dsimp only
    have CL := Lib.hid (fun w => cL.out x y w)
    rw [decide_eq_false hxy] at CL
    go_enter Tryz.func131, Tryz.ntmps131
    go_upto_region 1 with fail
    go_quiet ((go_at_call 86; exact Calls.quiet_of_same (CL.out _)))
    have HB3 := Lib.hid (show Bx (w.drewN nq) sb s from blk_later HB.out (below_drewN (Below.refl _ _) _))
    go_wp2_with fail
    go_ret2
    exact ⟨rfl, HO.out.below (below_drewN (Below.refl _ _) _), HB3.out, below_drewN (Below.refl _ _) _⟩
end Go.Proofs.YtgppobaoclfgcaaGreatDoor
namespace Go.Proofs.YtgppobaoclfgcaaGreatDoor
open Go.RowKit Go.Lib
open Go.Sort (ltInt order2 median medianAdjacent)
theorem order2_bd (d : Array Int) (a b s n : Nat) (ha : a < n) (hb : b < n) : (order2 ltInt d a b s).1 < n ∧ (order2 ltInt d a b s).2.1 < n ∧ (order2 ltInt d a b s).2.2 ≤ s + 1 := by
  unfold order2
  split
  · exact ⟨hb, ha, Nat.le_refl _⟩
  · exact ⟨ha, hb, Nat.le_succ _⟩
set_option maxRecDepth 100000 in
set_option maxHeartbeats 4000000 in
theorem median_any (base g c n a b e0 sb s : Nat) (d : Array Int) (w : World) (hO : Ow base g c n w d) (ha : a < n) (hb : b < n) (he : e0 < n) (hn : n ≤ 1000000) (hs : s ≤ 900) (hB : Bx w sb s) (hne : sb ≠ g) (hsb : base ≤ sb) :
    Calls Tryz.prog 115 #[.slice (some ⟨g, 0, none⟩) n c, .int .i64 (a : Int), .int .i64 (b : Int), .int .i64 (e0 : Int), .pointer (some ⟨sb, 0, none⟩)] w fun e w' =>
      e = .returned (.int .i64 ((median ltInt d a b e0 s).1 : Int)) ∧ Ow base g c n w' d ∧ Bx w' sb (median ltInt d a b e0 s).2 ∧ (median ltInt d a b e0 s).1 < n ∧ (median ltInt d a b e0 s).2 ≤ s + 3 ∧ Below base w w' := by
  have CO := Lib.hid (fun (a b s : Nat) (w : World) (hO : Ow base g c n w d) (ha : a < n) (hb : b < n) (hs : s ≤ 1000) (hB : Bx w sb s) => order2_any base g c n a b sb s d w hO ha hb hn hs hB hne hsb)
  unfold median
  dsimp only
  have c1 := CO.out a b s w hO ha hb (by omega) hB
  obtain ⟨b1, b2, b3⟩ := order2_bd d a b s n ha hb
  obtain ⟨⟨x1, y1, s1⟩, hr1⟩ : ∃ r, order2 ltInt d a b s = r := ⟨_, rfl⟩
  rw [hr1] at c1 b1 b2 b3 ⊢
  dsimp only at c1 b1 b2 b3 ⊢
  obtain ⟨b4, b5, b6⟩ := order2_bd d y1 e0 s1 n b2 he
  have c2 := fun w hO hB => CO.out y1 e0 s1 w hO b2 he (by omega) hB
  obtain ⟨⟨x2, y2, s2⟩, hr2⟩ : ∃ r, order2 ltInt d y1 e0 s1 = r := ⟨_, rfl⟩
  simp only [hr2] at c2
  rw [hr2] at b4 b5 b6 ⊢
  dsimp only at b4 b5 b6 ⊢
  obtain ⟨b7, b8, b9⟩ := order2_bd d x1 x2 s2 n b1 b4
  have c3 := fun w hO hB => CO.out x1 x2 s2 w hO b1 b4 (by omega) hB
  obtain ⟨⟨x3, y3, s3⟩, hr3⟩ : ∃ r, order2 ltInt d x1 x2 s2 = r := ⟨_, rfl⟩
  simp only [hr3] at c3
  rw [hr3] at b7 b8 b9 ⊢
  dsimp only at b7 b8 b9 ⊢
  have C1 := Lib.hid c1
  have C2 := Lib.hid c2
  have C3 := Lib.hid c3
  have HBD := Lib.hid (And.intro b8 (show s3 ≤ s + 3 by omega))
  clear c1 c2 c3 hr1 hr2 hr3 b1 b2 b3 b4 b5 b6 b7 b8 b9 hO hB CO
  go_enter Tryz.func115, Tryz.ntmps115
  go_wp2_with fail
  refine Calls.mono C1.out ?_
  rintro e w1 ⟨rfl, h1, h2, h3⟩
  have D2 := Lib.hid (C2.out w1 h1 h2)
  have HB1 := Lib.hid h3
  clear h1 h2 h3
  go_wp2_with fail
  refine Calls.mono D2.out ?_
  rintro e w2 ⟨rfl, h1, h2, h3⟩
  have D3 := Lib.hid (C3.out w2 h1 h2)
  have HB2 := Lib.hid (HB1.out.trans h3)
  clear h1 h2 h3
  go_wp2_with fail
  refine Calls.mono D3.out ?_
  rintro e w3 ⟨rfl, h1, h2, h3⟩
  have H1 := Lib.hid h1
  have H2 := Lib.hid h2
  have HB3 := Lib.hid (HB2.out.trans h3)
  clear h1 h2 h3
  go_wp2_with fail
  go_ret
  exact ⟨rfl, H1.out, H2.out, HBD.out.1, HBD.out.2, HB3.out⟩
set_option maxRecDepth 100000 in
theorem medadj_any (base g c n a sb s : Nat) (d : Array Int) (w : World) (hO : Ow base g c n w d) (ha0 : 0 < a) (ha : a + 1 < n) (hn : n ≤ 1000000) (hs : s ≤ 900) (hB : Bx w sb s) (hne : sb ≠ g) (hsb : base ≤ sb) :
    Calls Tryz.prog 114 #[.slice (some ⟨g, 0, none⟩) n c, .int .i64 (a : Int), .pointer (some ⟨sb, 0, none⟩)] w fun e w' =>
      e = .returned (.int .i64 ((medianAdjacent ltInt d a s).1 : Int)) ∧ Ow base g c n w' d ∧ Bx w' sb (medianAdjacent ltInt d a s).2 ∧ (medianAdjacent ltInt d a s).1 < n ∧ (medianAdjacent ltInt d a s).2 ≤ s + 3 ∧ Below base w w' := by
  obtain ⟨z, rfl⟩ : ∃ z, a = z + 1 := ⟨a - 1, by omega⟩
  have cM := median_any base g c n z (z + 1) (z + 1 + 1) sb s d w hO (by omega) (by omega) (by omega) hn hs hB hne hsb
  unfold medianAdjacent
  rw [Nat.add_sub_cancel]
  obtain ⟨r, hr⟩ : ∃ r, median ltInt d z (z + 1) (z + 1 + 1) s = r := ⟨_, rfl⟩
  rw [hr] at cM ⊢
  obtain ⟨a, hza⟩ : ∃ a, z + 1 = a := ⟨_, rfl⟩
  obtain ⟨a1, hza1⟩ : ∃ a1, a + 1 = a1 := ⟨_, rfl⟩
  rw [hza, hza1] at cM
  rw [hza]
  have e1 : IntKind.i64.wrap ((a : Int) - 1) = (z : Int) := by rw [IntKind.wrap_i64]; omega
  have e2 : IntKind.i64.wrap ((a : Int) + 1) = (a1 : Int) := by rw [IntKind.wrap_i64]; omega
  have CM := Lib.hid cM
  clear cM hr hza hza1 hO hB ha0 ha
  go_enter Tryz.func114, Tryz.ntmps114
  go_wp2_with fail
  refine Calls.mono CM.out ?_
  rintro e w1 ⟨rfl, h1, h2, h3, h4, h5⟩
  have H := Lib.hid (And.intro h1 (And.intro h2 (And.intro h3 (And.intro h4 h5))))
  clear h1 h2 h3 h4 h5
  go_wp2_with fail
  go_ret
  exact ⟨rfl, H.out⟩
end Go.Proofs.YtgppobaoclfgcaaGreatDoor
namespace Go.Proofs.YtgppobaoclfgcaaGreatDoor
open Go.RowKit Go.Lib
open Go.Sort (bitsLen)
set_option maxRecDepth 100000 in
set_option maxHeartbeats 4000000 in
theorem next2_any (n : Nat) (w : World) (hn : n ≤ 1000000) :
    Calls Tryz.prog 112 #[.int .i64 (n : Int)] w fun e w' => e = .returned (.int .u64 ((2 ^ bitsLen n : Nat) : Int)) ∧ Below w.heap.size w w' := by
  have cL := Lib.hid (Tryz.bits_Len (n : Int) w (by omega) (by omega))
  have e1 : IntKind.u64.wrap (n : Int) = (n : Int) := by rw [IntKind.wrap_u64]; omega
  go_enter Tryz.func112, Tryz.ntmps112
  go_wp2_with fail
  refine cL.out.mono ?_
  rintro e w1 ⟨rfl, rfl⟩
  go_wp2_with fail
  have hbl : Lib.bitLen n = bitsLen n := by
    first | exact bitLen_eq n (by omega) | exact Go.Sort.bitLen_eq n (by omega)
  have h20 : bitsLen n ≤ 20 := (Go.Sort.bitsLen_le_iff n 20).2 (by omega)
  have hp : 2 ^ bitsLen n ≤ 2 ^ 20 := Nat.pow_le_pow_right (by decide) h20
  have hv : IntKind.u64.wrap (2 ^ min (Lib.bitLen n) 64) = ((2 ^ bitsLen n : Nat) : Int) := by
    rw [hbl, Nat.min_eq_left (by omega), show ((2 : Int) ^ bitsLen n) = ((2 ^ bitsLen n : Nat) : Int) by simp]
    have h2 : (2 : Nat) ^ 20 = 1048576 := by decide
    rw [h2] at hp
    obtain ⟨p, hpe⟩ : ∃ p, 2 ^ bitsLen n = p := ⟨_, rfl⟩
    rw [hpe] at hp ⊢
    rw [IntKind.wrap_u64]
    omega
  rw [hv]
  go_ret
  exact ⟨rfl, Below.refl _ _⟩
end Go.Proofs.YtgppobaoclfgcaaGreatDoor
namespace Go.Proofs.YtgppobaoclfgcaaGreatDoor
open Go.RowKit Go.Lib
open Go.Sort (ltInt median medianAdjacent choosePivot Hint)
def hintI : Hint → Int
  | .unknown => 0
  | .increasing => 1
  | .decreasing => 2
set_option maxRecDepth 100000 in
set_option maxHeartbeats 4000000 in
theorem pivot_any (base g c n a b : Nat) (d : Array Int) (w : World) (hO : Ow base g c n w d) (hab : a + 12 < b) (hb : b ≤ n) (hn : n ≤ 1000000) (hbw : base ≤ w.heap.size) :
    Calls Tryz.prog 83 #[.slice (some ⟨g, 0, none⟩) n c, .int .i64 (a : Int), .int .i64 (b : Int)] w fun e w' =>
      e = .returned (.tuple #[.int .i64 ((choosePivot ltInt d a b).1 : Int), .int .i64 (hintI (choosePivot ltInt d a b).2)]) ∧ Ow base g c n w' d ∧ Below base w w' := by
  obtain ⟨l, hl⟩ : ∃ x, b - a = x := ⟨_, rfl⟩
  obtain ⟨q, hq⟩ : ∃ x, l / 4 = x := ⟨_, rfl⟩
  obtain ⟨i, hi⟩ : ∃ x, a + q * 1 = x := ⟨_, rfl⟩
  obtain ⟨j, hj⟩ : ∃ x, a + q * 2 = x := ⟨_, rfl⟩
  obtain ⟨k, hk⟩ : ∃ x, a + q * 3 = x := ⟨_, rfl⟩
  unfold choosePivot
  dsimp only
  rw [hl, hq, hi, hj, hk]
  have l8 : 8 ≤ l := by omega
  rw [if_pos l8]
  have e1 : IntKind.i64.wrap ((b : Int) - (a : Int)) = (l : Int) := by rw [IntKind.wrap_i64]; omega
  have e2 : Int.tdiv (l : Int) 4 = (q : Int) := by rw [Int.tdiv_eq_ediv_of_nonneg (by omega)]; omega
  have e3 : IntKind.i64.wrap (q : Int) = (q : Int) := by rw [IntKind.wrap_i64]; omega
  have e4 : IntKind.i64.wrap ((q : Int) * 2) = (q : Int) * 2 := by rw [IntKind.wrap_i64]; omega
  have e5 : IntKind.i64.wrap ((q : Int) * 3) = (q : Int) * 3 := by rw [IntKind.wrap_i64]; omega
  have e6 : IntKind.i64.wrap ((a : Int) + (q : Int)) = (i : Int) := by rw [IntKind.wrap_i64]; omega
  have e7 : IntKind.i64.wrap ((a : Int) + (q : Int) * 2) = (j : Int) := by rw [IntKind.wrap_i64]; omega
  have e8 : IntKind.i64.wrap ((a : Int) + (q : Int) * 3) = (k : Int) := by rw [IntKind.wrap_i64]; omega
  have d8 : decide ((8 : Int) ≤ (l : Int)) = true := decide_eq_true (by omega)
  have hne : w.heap.size ≠ g := by have := hO.lt; omega
  have hb0 := below_alloc (Below.refl w.heap.size w) (.cells #[.int .i64 0] 3)
  have hO0 := hO.below hb0
  have hB0 : Bx (w.alloc (.cells #[.int .i64 0] 3)) w.heap.size 0 := heap_alloc_new2 _ _ _ _ rfl
  have hbb := Below.mono hb0 hbw
  have HI := Lib.hid (And.intro hl (And.intro hq (And.intro hi (And.intro hj hk))))
  have i1 : i < n := by omega
  have j1 : j < n := by omega
  have k1 : k < n := by omega
  by_cases l50 : l ≥ 50
  · rw [if_pos l50]
    have d50 : decide ((50 : Int) ≤ (l : Int)) = true := decide_eq_true (by omega)
    have A := Lib.hid (fun (x s : Nat) (W : World) (hx : 0 < x) (hx2 : x + 1 < n) (hs : s ≤ 900) (hO : Ow base g c n W d) (hB : Bx W w.heap.size s) => medadj_any base g c n x w.heap.size s d W hO hx hx2 hn hs hB hne hbw)
    have M := Lib.hid (fun (x y z s : Nat) (W : World) (h1 : x < n) (h2 : y < n) (h3 : z < n) (hs : s ≤ 900) (hO : Ow base g c n W d) (hB : Bx W w.heap.size s) => median_any base g c n x y z w.heap.size s d W hO h1 h2 h3 hn hs hB hne hbw)
    have c1 := A.out i 0 _ (by omega) (by omega) (by omega) hO0 hB0
    have c2 := fun s W hs hO hB => A.out j s W (by omega) (by omega) hs hO hB
    have c3 := fun s W hs hO hB => A.out k s W (by omega) (by omega) hs hO hB
    obtain ⟨⟨m1, s1⟩, hr1⟩ : ∃ r, medianAdjacent ltInt d i 0 = r := ⟨_, rfl⟩
    rw [hr1] at c1 ⊢
    dsimp only at c1 ⊢
    obtain ⟨⟨m2, s2⟩, hr2⟩ : ∃ r, medianAdjacent ltInt d j s1 = r := ⟨_, rfl⟩
    have c2 := c2 s1
    rw [hr2] at c2 ⊢
    dsimp only at c2 ⊢
    obtain ⟨⟨m3, s3⟩, hr3⟩ : ∃ r, medianAdjacent ltInt d k s2 = r := ⟨_, rfl⟩
    have c3 := c3 s2
    rw [hr3] at c3 ⊢
    dsimp only at c3 ⊢
    have c4 := M.out m1 m2 m3 s3
    obtain ⟨⟨r1, r2⟩, hr⟩ : ∃ r, median ltInt d m1 m2 m3 s3 = r := ⟨_, rfl⟩
    rw [hr] at c4 ⊢
    dsimp only at c4 ⊢
    have HBB := Lib.hid hbb
    have C1 := Lib.hid c1
    have C2 := Lib.hid c2
    have C3 := Lib.hid c3
    have C4 := Lib.hid c4
    clear hr hr1 hr2 hr3 hl hq hi hj hk hO hO0 hB0 hbb hb0 c1 c2 c3 c4 A M
    go_enter Tryz.func83, Tryz.ntmps83
    go_wp2_with fail
    refine Calls.mono C1.out ?_
    rintro e w1 ⟨rfl, h1, h2, h3, h4, h5⟩
    have D2 := Lib.hid (C2.out w1 (by omega) h1 h2)
    have HB1 := Lib.hid (HBB.out.trans h5)
    have HM1 := Lib.hid (And.intro h3 h4)
    clear h1 h2 h3 h4 h5
    go_wp2_with fail
    refine Calls.mono D2.out ?_
    rintro e w2 ⟨rfl, h1, h2, h3, h4, h5⟩
    have D3 := Lib.hid (C3.out w2 (by have := HM1.out; omega) h1 h2)
    have HB2 := Lib.hid (HB1.out.trans h5)
    have HM2 := Lib.hid (And.intro h3 h4)
    clear h1 h2 h3 h4 h5
    go_wp2_with fail
    refine Calls.mono D3.out ?_
    rintro e w3 ⟨rfl, h1, h2, h3, h4, h5⟩
    have D4 := Lib.hid (C4.out w3 HM1.out.1 HM2.out.1 h3 (by have := HM1.out; have := HM2.out; omega) h1 h2)
    have HB3 := Lib.hid (HB2.out.trans h5)
    clear h1 h2 h3 h4 h5
    go_wp2_with fail
    refine Calls.mono D4.out ?_
    rintro e w4 ⟨rfl, u1, u2, u3, u4, u5⟩
    have x0 : w4.cell? ⟨w.heap.size, 0, none⟩ = some (.int .i64 (r2 : Int)) := by rw [cell_of_row _ _ _ _ _ _ u2]; rfl
    have xl := lt_of_some u2
    have H := Lib.hid (And.intro u1 (HB3.out.trans u5))
    clear u1 u2 u3 u4 u5
    by_cases r0 : r2 = 0
    · subst r0
      go_wp2_with fail
      go_ret2
      exact ⟨rfl, H.out⟩
    · have f0 : ((r2 : Int) == 0) = false := by simpa using r0
      by_cases r12 : r2 = 12
      · subst r12
        go_wp2_with fail
        go_ret2
        exact ⟨rfl, H.out⟩
      · have f1 : ((r2 : Int) == 12) = false := by rw [beq_eq_false_iff_ne]; omega
        go_wp2_with fail
        go_ret2
        exact ⟨by first | rfl | simp [hintI], H.out⟩
  · rw [if_neg l50]
    have d50 : decide ((50 : Int) ≤ (l : Int)) = false := decide_eq_false (by omega)
    have cM := Lib.hid (median_any base g c n i j k w.heap.size 0 d _ hO0 i1 j1 k1 hn (by omega) hB0 hne hbw)
    obtain ⟨⟨r1, r2⟩, hr⟩ : ∃ r, median ltInt d i j k 0 = r := ⟨_, rfl⟩
    rw [hr] at cM ⊢
    dsimp only at cM ⊢
    have HBB := Lib.hid hbb
    clear hr hl hq hi hj hk hO hO0 hB0 hbb hb0
    go_enter Tryz.func83, Tryz.ntmps83
    go_wp2_with fail
    refine Calls.mono cM.out ?_
    rintro e w1 ⟨rfl, h1, h2, h3, h4, h5⟩
    have x0 : w1.cell? ⟨w.heap.size, 0, none⟩ = some (.int .i64 (r2 : Int)) := by rw [cell_of_row _ _ _ _ _ _ h2]; rfl
    have xl := lt_of_some h2
    have H := Lib.hid (And.intro h1 (HBB.out.trans h5))
    clear h1 h2 h3 h4 h5
    by_cases r0 : r2 = 0
    · subst r0
      go_wp2_with fail
      go_ret2
      exact ⟨rfl, H.out⟩
    · have f0 : ((r2 : Int) == 0) = false := by simpa using r0
      by_cases r12 : r2 = 12
      · subst r12
        go_wp2_with fail
        go_ret2
        exact ⟨rfl, H.out⟩
      · have f1 : ((r2 : Int) == 12) = false := by rw [beq_eq_false_iff_ne]; omega
        go_wp2_with fail
        go_ret2
        exact ⟨by first | rfl | simp [hintI], H.out⟩
end Go.Proofs.YtgppobaoclfgcaaGreatDoor
