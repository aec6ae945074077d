/- rawdfa: the machine. Conditions: the two tables of the library lie as laid. -/
import Derived.Test.YtgppobaoclfgcaaGreatDoorMacP
import Derived.Test.YtgppobaoclfgcaaGreatDoorShelfN
import Derived.Deep.RegionHeld3
import Derived.Deep.RegionWith
set_option linter.unusedVariables false
set_option linter.unusedSimpArgs false
namespace Go.Proofs.YtgppobaoclfgcaaGreatDoor
open Go.RowKit Go.Lib
/-- a machine: its block g, made behind the world w0 -/
structure Mach (w0 w : World) (g : Nat) (FA KA AA : Option Addr) (p n a fc kc ac : Nat) (s : ByteArray) (at_ cell : Int) : Prop where
  blk : w.heap[g]? = some (.cells #[.slice FA p fc, .slice KA n kc, .slice AA a ac, .string s, .int .i64 at_, .int .u32 cell] 83 (0, 0))
  below : Below w0.heap.size w0 w
  ge : w0.heap.size ≤ g
theorem Mach.cells {w0 w : World} {g : Nat} {FA KA AA : Option Addr} {p n a fc kc ac : Nat} {s : ByteArray} {at_ cell : Int} (h : Mach w0 w g FA KA AA p n a fc kc ac s at_ cell) :
    w.cell? ⟨g, 0, none⟩ = some (.slice FA p fc) ∧ w.cell? ⟨g, 1, none⟩ = some (.slice KA n kc) ∧ w.cell? ⟨g, 2, none⟩ = some (.slice AA a ac) ∧ w.cell? ⟨g, 3, none⟩ = some (.string s) ∧ w.cell? ⟨g, 4, none⟩ = some (.int .i64 at_) ∧ w.cell? ⟨g, 5, none⟩ = some (.int .u32 cell) :=
  ⟨by rw [cell_of_row _ _ _ _ _ _ h.blk]; rfl, by rw [cell_of_row _ _ _ _ _ _ h.blk]; rfl, by rw [cell_of_row _ _ _ _ _ _ h.blk]; rfl, by rw [cell_of_row _ _ _ _ _ _ h.blk]; rfl, by rw [cell_of_row _ _ _ _ _ _ h.blk]; rfl, by rw [cell_of_row _ _ _ _ _ _ h.blk]; rfl⟩
theorem accepted_any (w0 w : World) (g : Nat) (FA KA AA : Option Addr) (p n fc kc ac : Nat) (F K A : List Int) (s : ByteArray) (at_ : Int) (y : Nat) (hM : Mach w0 w g FA KA AA p n A.length fc kc ac s at_ y) (hF : FlatAt w0 FA F KA K AA A)
    (hp : 0 < p) (hp2 : p ≤ 64) (hy : y / p < A.length) (ha : A.length ≤ 4096) (hz : 0 ≤ A.getD (y / p) 0 ∧ A.getD (y / p) 0 < 4294967296) :
    Calls Tryz.prog 23 #[.pointer (some ⟨g, 0, none⟩)] w fun e w' => e = .returned (.bool (A.getD (y / p) 0 == 1)) ∧ Below w.heap.size w w' := by
  obtain ⟨c0, c1, c2, c3, c4, c5⟩ := hM.cells
  obtain ⟨b, off, rfl, hb, hc⟩ := (hF.acc.below hM.below).get (y / p) hy
  obtain ⟨a, hA⟩ : ∃ a, A.length = a := ⟨_, rfl⟩
  obtain ⟨q, hq⟩ : ∃ q, y / p = q := ⟨_, rfl⟩
  have hq2 : Int.tdiv (y : Int) (p : Int) = (q : Int) := by rw [← hq]; rfl
  rw [hA] at c2 hy ha
  rw [hq] at hc hy hz ⊢
  obtain ⟨z, hzz⟩ : ∃ z, A.getD q 0 = z := ⟨_, rfl⟩
  rw [hzz] at hc hz ⊢
  clear hq hzz hA hM hF
  go_enter Tryz.func23, Tryz.ntmps23
  go_wp2_with fail
  go_quiet (fail)
  go_wp2
  go_ret
  exact ⟨rfl, below_drewN (Below.refl _ _) _⟩
end Go.Proofs.YtgppobaoclfgcaaGreatDoor
namespace Go.Proofs.YtgppobaoclfgcaaGreatDoor
open Go.RowKit Go.Lib
set_option maxHeartbeats 1000000 in
theorem mpart_any (w0 w : World) (g : Nat) (FA KA AA : Option Addr) (n a fc kc ac : Nat) (F K A : List Int) (s : ByteArray) (at_ cell : Int) (r : Int) (hM : Mach w0 w g FA KA AA F.length n a fc kc ac s at_ cell) (hF : FlatAt w0 FA F KA K AA A)
    (hp : 0 < F.length) (hp2 : F.length ≤ 64) (hm : ∀ k j, k < j → j < F.length → F.getD k 0 < F.getD j 0) (hb : ∀ k, k < F.length → 0 ≤ F.getD k 0 ∧ F.getD k 0 ≤ 1114111) (hr : 0 ≤ r) (hr2 : r ≤ 1114111) :
    Calls Tryz.prog 50 #[.pointer (some ⟨g, 0, none⟩), .int .i32 r] w fun e w' => e = .returned (.int .u32 (Plain.partOf F r : Nat)) ∧ Below w.heap.size w w' := by
  have hpart := Plain.partOf_eq F r hm
  obtain ⟨c0, c1, c2, c3, c4, c5⟩ := hM.cells
  have hg := (Array.getElem?_eq_some_iff.1 hM.blk).1
  obtain ⟨p, hP⟩ : ∃ p, F.length = p := ⟨_, rfl⟩
  have HS := Lib.hid (hF.parts.below hM.below)
  have HPT := Lib.hid hpart
  have HB := Lib.hid hb
  have HP := Lib.hid hP
  rw [hP] at c0 hp hp2
  clear hM hF hpart hm hb hP
  go_enter Tryz.func50, Tryz.ntmps50
  go_wp2_with fail
  go_quiet (fail)
  go_wp2_with fail
  go_loopw [5, 6, 7] (fun lo hi _ wr => ∃ l h : Nat, l < h ∧ h ≤ p ∧ lo = .int .i64 l ∧ hi = .int .i64 h ∧ (l = 0 ∨ F.getD l 0 ≤ r) ∧ (h = p ∨ r < F.getD h 0) ∧ Below w.heap.size w wr) (fun lo hi _ _ => (RowKit.intOf hi).toNat - (RowKit.intOf lo).toNat)
  case atStart => exact ⟨0, p, hp, Nat.le_refl _, rfl, rfl, .inl rfl, .inl rfl, below_drewN (Below.refl _ _) _⟩
  case round =>
    obtain ⟨l, h, hlh, hhp, rfl, rfl, h1, h2, hB⟩ := hrel
    have H1 := Lib.hid h1
    have H2 := Lib.hid h2
    clear h1 h2
    have d0 := (hB.cell (p := ⟨g, 0, none⟩) hg).trans c0
    by_cases hlt : 1 < h - l
    · obtain ⟨mid, hmid⟩ : ∃ m, (l + h) / 2 = m := ⟨_, rfl⟩
      have hm1 : l < mid := by omega
      have hm2 : mid < h := by omega
      have htd : Int.tdiv ((l : Int) + (h : Int)) 2 = (mid : Int) := by rw [← hmid]; rfl
      obtain ⟨b, off, rfl, hbk, hc⟩ := (HS.out).get mid (by rw [HP.out]; omega)
      have hbw : b < w.heap.size := hbk
      have cm := (hB.cell (p := ⟨b, off + mid, none⟩) hbw).trans hc
      obtain ⟨x0, x1⟩ := HB.out mid (by rw [HP.out]; omega)
      obtain ⟨x, hx⟩ : ∃ x, F.getD mid 0 = x := ⟨_, rfl⟩
      rw [hx] at cm x0 x1
      have HX := Lib.hid hx
      clear hx hmid hc
      by_cases hle : x ≤ r
      · go_wp2
        go_roundw
        case rel => exact ⟨mid, h, hm2, hhp, rfl, rfl, .inr (by rw [HX.out]; exact hle), H2.out, hB⟩
        case measure => simp [RowKit.intOf]; omega
      · go_wp2
        go_roundw
        case rel => exact ⟨l, mid, hm1, by omega, rfl, rfl, H1.out, .inr (by rw [HX.out]; omega), hB⟩
        case measure => simp [RowKit.intOf]; omega
    · obtain rfl : h = l + 1 := by omega
      have hv := HPT.out l (by rw [HP.out]; omega) H1.out (by rw [HP.out]; exact H2.out)
      have HV := Lib.hid hv
      clear hv
      go_wp2
      go_ret
      exact ⟨ret_int (by rw [HV.out]), hB⟩
end Go.Proofs.YtgppobaoclfgcaaGreatDoor
namespace Go.Proofs.YtgppobaoclfgcaaGreatDoor
open Go.RowKit Go.Lib
def Tabs (w : World) : Prop := Lib.Utf8Tabs 0 1 w
theorem Tabs.below {w w' : World} (h : Tabs w) (hb : Below w.heap.size w w') : Tabs w' := Utf8Tabs_below h hb
theorem decodeGo_L (s : ByteArray) (h : 0 < s.size) : Lib.decodeGo s = decodeL s.data.toList := by
  unfold Lib.decodeGo
  rw [if_neg (by omega), ← decodeL_drop, List.drop_zero]
theorem Mach.lt {w0 w : World} {g : Nat} {FA KA AA : Option Addr} {p n a fc kc ac : Nat} {s : ByteArray} {at_ cell : Int} (h : Mach w0 w g FA KA AA p n a fc kc ac s at_ cell) : g < w.heap.size := (Array.getElem?_eq_some_iff.1 h.blk).1
theorem Mach.kept {w0 w w' : World} {g : Nat} {FA KA AA : Option Addr} {p n a fc kc ac : Nat} {s : ByteArray} {at_ cell : Int} (h : Mach w0 w g FA KA AA p n a fc kc ac s at_ cell) (hb : Below w.heap.size w w') : Mach w0 w' g FA KA AA p n a fc kc ac s at_ cell :=
  ⟨by rw [hb.block g h.lt]; exact h.blk, h.below.trans (hb.mono h.below.size), h.ge⟩
theorem Mach.set5 {w0 w : World} {g : Nat} {FA KA AA : Option Addr} {p n a fc kc ac : Nat} {s : ByteArray} {at_ cell : Int} (h : Mach w0 w g FA KA AA p n a fc kc ac s at_ cell) (y : Int) : Mach w0 (w.setCell ⟨g, 5, none⟩ (.int .u32 y)) g FA KA AA p n a fc kc ac s at_ y :=
  ⟨heap_setCell_same _ _ 5 _ _ _ h.blk, h.below.setCell h.ge _, h.ge⟩
theorem Mach.set4 {w0 w : World} {g : Nat} {FA KA AA : Option Addr} {p n a fc kc ac : Nat} {s : ByteArray} {at_ cell : Int} (h : Mach w0 w g FA KA AA p n a fc kc ac s at_ cell) (y : Int) : Mach w0 (w.setCell ⟨g, 4, none⟩ (.int .i64 y)) g FA KA AA p n a fc kc ac s y cell :=
  ⟨heap_setCell_same _ _ 4 _ _ _ h.blk, h.below.setCell h.ge _, h.ge⟩
set_option maxRecDepth 100000 in
set_option maxHeartbeats 4000000 in
theorem step_any (w0 w : World) (g : Nat) (FA KA AA : Option Addr) (a fc kc ac : Nat) (F K A : List Int) (s : ByteArray) (at_ : Nat) (cell : Nat) (hM : Mach w0 w g FA KA AA F.length K.length a fc kc ac s at_ cell) (hF : FlatAt w0 FA F KA K AA A)
    (hp : 0 < F.length) (hp2 : F.length ≤ 64) (hm : ∀ k j, k < j → j < F.length → F.getD k 0 < F.getD j 0) (hb : ∀ k, k < F.length → 0 ≤ F.getD k 0 ∧ F.getD k 0 ≤ 1114111)
    (hat : at_ < s.size) (hs : s.size ≤ 4398046511104) (hT0 : Tabs w0) (hK : K.length ≤ 4096) (hc : cell + F.length ≤ K.length)
    (hy : ∀ k, k < K.length → 0 ≤ K.getD k 0 ∧ K.getD k 0 ≤ 4096) :
    Calls Tryz.prog 24 #[.pointer (some ⟨g, 0, none⟩)] w fun e w' => e = .returned (.tuple #[]) ∧ Mach w0 w' g FA KA AA F.length K.length a fc kc ac s (at_ + (decodeL (s.data.toList.drop at_)).2 : Nat) (K.getD (cell + Plain.partOf F (decodeL (s.data.toList.drop at_)).1) 0) := by
  have hT : Tabs w := hT0.below hM.below
  obtain ⟨c0, c1, c2, c3, c4, c5⟩ := hM.cells
  have hg := hM.lt
  have hx := extract_to_end s at_
  have hsx : (s.extract at_ s.size).size = s.size - at_ := by rw [size_eq, hx]; simp
  have hdec : Lib.decodeGo (s.extract at_ s.size) = decodeL (s.data.toList.drop at_) := by rw [decodeGo_L _ (by omega), hx]
  have cD := fun (W : World) (hTW : Tabs W) => Tryz.utf8_DecodeRuneInString (s.extract at_ s.size) W hTW
  rw [hdec] at cD
  have hr := (Plain.dec_right (s.data.toList.drop at_)).1
  have h4 := decodeL_le (s.data.toList.drop at_) (by intro e; have := congrArg List.length e; simp at this; omega)
  rw [List.length_drop] at h4
  have h4 : (decodeL (s.data.toList.drop at_)).2 ≤ s.size := by simp at h4; omega
  obtain ⟨⟨r, sz⟩, hd⟩ : ∃ x, decodeL (s.data.toList.drop at_) = x := ⟨_, rfl⟩
  rw [hd] at cD hr h4 ⊢
  dsimp only at cD hr h4 ⊢
  have hpl := Plain.partOf_lt F r hp
  obtain ⟨k, hk⟩ : ∃ k, Plain.partOf F r = k := ⟨_, rfl⟩
  have cP := fun (W : World) (hBW : Below w.heap.size w W) => mpart_any w0 W g FA KA AA K.length a fc kc ac F K A s at_ cell r (hM.kept hBW) hF hp hp2 hm hb (by omega) (by omega)
  rw [hk] at cP hpl ⊢
  obtain ⟨kb, ko, rfl, hkb, hkc⟩ := hF.cells.get (cell + k) (by omega)
  have hkc := (hM.below.cell (p := ⟨kb, ko + (cell + k), none⟩) hkb).trans hkc
  have hkb : kb < w.heap.size := Nat.lt_of_lt_of_le hkb hM.below.size
  have hy := hy (cell + k) (by omega)
  obtain ⟨y, hyy⟩ : ∃ y, K.getD (cell + k) 0 = y := ⟨_, rfl⟩
  rw [hyy] at hkc hy ⊢
  obtain ⟨p, hP⟩ : ∃ p, F.length = p := ⟨_, rfl⟩
  obtain ⟨n, hN⟩ : ∃ n, K.length = n := ⟨_, rfl⟩
  rw [hP] at hp hp2 hc hM c0 hpl ⊢
  rw [hN] at hc hK hM c1 ⊢
  have cP2 : ∀ W, Below w.heap.size w W → Calls Tryz.prog 50 #[.pointer (some ⟨g, 0, none⟩), .int .i32 r] W fun e w' => e = .returned (.int .u32 k) ∧ Below w.heap.size w w' ∧ w'.cell? ⟨g, 1, none⟩ = some (.slice (some ⟨kb, ko, none⟩) n kc) ∧ w'.cell? ⟨g, 5, none⟩ = some (.int .u32 cell) ∧ w'.frozen? ⟨g, 5, none⟩ = false ∧ w'.cell? ⟨kb, ko + (cell + k), none⟩ = some (.int .u32 y) := fun W hBW =>
    (cP W hBW).mono fun e w' ⟨he, hb'⟩ => by
      have hB2 : Below w.heap.size w w' := hBW.trans (hb'.mono hBW.size)
      exact ⟨he, hB2, (hB2.cell (p := ⟨g, 1, none⟩) hg).trans c1, (hB2.cell (p := ⟨g, 5, none⟩) hg).trans c5, blk_frozen (hM.kept hB2).blk 5, (hB2.cell (p := ⟨kb, ko + (cell + k), none⟩) hkb).trans hkc⟩
  have ha0 : (0 : Int) ≤ (at_ : Int) := by omega
  have ha1 : (at_ : Int) ≤ (s.size : Int) := by omega
  have hj1 : cell + k < n := by omega
  have hw : IntKind.u32.wrap ((cell : Int) + (k : Int)) = ((cell + k : Nat) : Int) := by rw [IntKind.wrap_u32]; omega
  obtain ⟨j, hj⟩ : ∃ j, cell + k = j := ⟨_, rfl⟩
  rw [hj] at cP2 hj1 hw
  have hj2 : (0 : Int) ≤ (j : Int) := by omega
  have hj3 : (j : Int) < (n : Int) := by omega
  clear hkc hj
  have HD := Lib.hid cD
  have HM := Lib.hid hM
  have HP := Lib.hid cP2
  clear cD hM hF hdec hx cP cP2 hP hN hm hb hd hk hyy
  go_enter Tryz.func24, Tryz.ntmps24
  go_wp2_with fail
  have hTd : Tabs w.drew := hT
  go_region_held3 (fun w' => w'.cell? ⟨g, 3, none⟩ = some (.string s) ∧ w'.cell? ⟨g, 4, none⟩ = some (.int .i64 at_)) (first | go_keep | exact ⟨(hb1.cell (p := ⟨g, 3, none⟩) hg).trans c3, (hb1.cell (p := ⟨g, 4, none⟩) hg).trans c4⟩) (first | (go_at_call 49; (with_reducible refine (HD.out _ hTd).mono ?_); rintro e w' ⟨rfl, hb1⟩))
  obtain ⟨w1, hw1⟩ : ∃ w1, w1 = w' := ⟨_, rfl⟩
  have hB1 : Below w.heap.size w w' := ((Below.refl _ _).drew).trans hb1
  subst hw1
  have d1 := (hB1.cell (p := ⟨g, 1, none⟩) hg).trans c1
  have d5 := (hB1.cell (p := ⟨g, 5, none⟩) hg).trans c5
  have hBd : Below w.heap.size w w1.drew := hB1.drew
  clear hb1 c0 c1 c2 c3 c4 c5 hTd
  go_wp2_with fail
  go_region_with ((go_at_call 50; (with_reducible refine (HP.out _ hBd).mono ?_); rintro e w' ⟨rfl, hb2, e1, e5, ef5, ek⟩))
  all_goals
    have hM2 := (HM.out.kept hb2).set5 y
    generalize w'.setCell ⟨g, 5, none⟩ (.int .u32 y) = w2 at hM2 ⊢
    obtain ⟨m0, m1, m2, m3, m4, m5⟩ := hM2.cells
    have f4 := blk_frozen hM2.blk 4
    have HM2 := Lib.hid hM2
    clear hM2 hb2 e1 e5 ef5 ek
    go_wp2
    go_end0
    exact ⟨rfl, by simpa using HM2.out.set4 ((at_ : Int) + (sz : Int))⟩
end Go.Proofs.YtgppobaoclfgcaaGreatDoor
namespace Go.Proofs.YtgppobaoclfgcaaGreatDoor
open Go.RowKit Go.Lib
end Go.Proofs.YtgppobaoclfgcaaGreatDoor
namespace Go.Proofs.YtgppobaoclfgcaaGreatDoor
open Go.RowKit Go.Lib
end Go.Proofs.YtgppobaoclfgcaaGreatDoor
namespace Go.Proofs.YtgppobaoclfgcaaGreatDoor
open Go.RowKit Go.Lib
def partsB : List ByteArray := [⟨#[97]⟩, ⟨#[98]⟩, ⟨#[99]⟩, ⟨#[97]⟩, ⟨#[98]⟩, ⟨#[32]⟩, ⟨#[195, 169]⟩, ⟨#[255]⟩]
def piece (x : Int) : ByteArray := partsB.getD (x % 8).toNat ByteArray.empty
theorem piece_le (x : Int) : (piece x).size ≤ 2 := by
  have h : ∀ i, i < 8 → (partsB.getD i ByteArray.empty).size ≤ 2 := by decide
  exact h _ (by omega)
/-- the text of few runes by its numbers -/
def txt (X : Nat → Int) : Nat → ByteArray
  | 0 => ⟨#[]⟩
  | k + 1 => txt X k ++ piece (X k)
theorem txt_le (X : Nat → Int) (k : Nat) : (txt X k).size ≤ 2 * k := by
  induction k with
  | zero => exact Nat.le_refl _
  | succ k ih => rw [txt, ByteArray.size_append]; have := piece_le (X k); omega
set_option maxRecDepth 100000 in
set_option maxHeartbeats 1000000 in
theorem text_any (A : Option Addr) (L : List Int) (cap M : Nat) (w : World) (hX : Sl w A (u8s L)) (hn : L.length ≤ maxLen) (h8 : ∀ k, k < L.length → 0 ≤ L.getD k 0 ∧ L.getD k 0 < 256) (hM : M ≤ 16) :
    Calls Tryz.prog 9 #[.slice A L.length cap, .int .i64 M] w fun e w' => e = .returned (.string (txt (fun i => L.getD i 0) (min L.length M))) ∧ Below w.heap.size w w' := by
  unfold maxLen at hn
  obtain ⟨n, hN⟩ : ∃ n, L.length = n := ⟨_, rfl⟩
  obtain ⟨X, hXX⟩ : ∃ X : Nat → Int, (fun i => L.getD i 0) = X := ⟨_, rfl⟩
  have hget : ∀ k, L.getD k 0 = X k := fun k => by rw [← hXX]
  have HX := Lib.hid hX
  have HG := Lib.hid hget
  have HN := Lib.hid hN
  have H8 := Lib.hid h8
  rw [hN] at hn ⊢
  rw [hXX]
  clear hX hXX hget hN h8
  go_enter Tryz.func9, Tryz.ntmps9
  go_wp2
  go_loopw [5, 6] (fun s i wr => ∃ k : Nat, k ≤ min n M ∧ i = .int .i64 k ∧ s = .string (txt X k) ∧ Below w.heap.size w wr) (fun _ i _ => M - (RowKit.intOf i).toNat)
  case atStart => exact ⟨0, Nat.zero_le _, rfl, rfl, Below.refl _ _⟩
  case round =>
    obtain ⟨k, hk, rfl, rfl, hB⟩ := hrel
    have hl := txt_le X k
    by_cases hlt : k < n
    · by_cases h24 : k < M
      · obtain ⟨b, off, rfl, hb, hck⟩ := (HX.out.below hB).get k (by rw [HN.out]; exact hlt)
        obtain ⟨x0, x1⟩ := H8.out k (by rw [HN.out]; exact hlt)
        rw [HG.out] at hck x0 x1
        have hstep : txt X (k + 1) = txt X k ++ piece (X k) := rfl
        have hpl := piece_le (X k)
        obtain ⟨j, hj, hj18⟩ : ∃ j : Nat, X k % 8 = (j : Int) ∧ j < 8 := ⟨(X k % 8).toNat, by omega, by omega⟩
        have hpt : (wr.alloc (.cells (partsB.map Value.string).toArray 9)).cell? ⟨wr.heap.size, j, none⟩ = some (.string (piece (X k))) := by
          rw [cell_of_row _ _ _ _ _ _ (heap_alloc_new _ _)]
          unfold piece
          rw [hj, Int.toNat_natCast]
          have : j < partsB.length := hj18
          simp [List.getD, this]
        generalize piece (X k) = q at *
        generalize X k = x at *
        simp only [partsB, List.map_cons, List.map_nil] at hpt
        have HS := Lib.hid hstep
        clear hstep
        go_wp2
        go_roundw
        case rel => exact ⟨k + 1, by omega, by go_num, by rw [HS.out], hB.alloc hB.size _⟩
        case measure => simp [RowKit.intOf]; omega
      · obtain rfl : k = M := by omega
        have hm : txt X (min n k) = txt X k := by rw [show min n k = k from by omega]
        have HM := Lib.hid hm
        clear hm hl
        go_wp2
        go_ret
        exact ⟨ret_str HM.out.symm, hB⟩
    · obtain rfl : n = k := by omega
      have hm : txt X (min n M) = txt X n := by rw [show min n M = n from by omega]
      have HM := Lib.hid hm
      clear hm hl
      go_wp2
      go_ret
      exact ⟨ret_str HM.out.symm, hB⟩
end Go.Proofs.YtgppobaoclfgcaaGreatDoor
