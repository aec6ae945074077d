/- Chapter 4: Has, the law's runs, a class as a function. Conditions: what each lemma says. -/
import Derived.Test.YtoamjlnmpklcdaaClassC
import Derived.Laws.StructEq
import Derived.Deep.RegionHeld3
import Derived.Deep.QuietTactic
import Derived.Deep.Cut
set_option linter.unusedVariables false
set_option linter.unusedSimpArgs false
namespace Go.Proofs.Ytoamjlnmpklcdaa
open Go.RowKit Go.Lib
open Plain (Rg May mayB In Norm put1 mergeL)
end Go.Proofs.Ytoamjlnmpklcdaa
namespace Go.Proofs.Ytoamjlnmpklcdaa
open Go.RowKit Go.Lib
open Plain (Rg May mayB In Norm put1 mergeL)
end Go.Proofs.Ytoamjlnmpklcdaa
namespace Go.Proofs.Ytoamjlnmpklcdaa
open Go.RowKit Go.Lib
open Plain (Rg May mayB In Norm put1 mergeL)
def inB (x : Int) (r : Rg) : Bool := decide (r.1 ≤ x) && decide (x ≤ r.2)
def hasB (R : List Rg) (x : Int) : Bool := R.any (inB x)
theorem hasB_iff (R : List Rg) (x : Int) : hasB R x = true ↔ In R x := by
  unfold hasB inB In
  rw [List.any_eq_true]
  constructor
  · rintro ⟨r, h, h2⟩; exact ⟨r, h, by simpa using h2⟩
  · rintro ⟨r, h, h2⟩; exact ⟨r, h, by simpa using h2⟩
theorem in64_any (lo hi x : Int) (b : Nat) (w : World) (hc : w.cell? ⟨b, 0, none⟩ = some (.int .i32 x)) (hb : b < w.heap.size) :
    Calls Try.prog 22 #[.agg #[.int .i32 lo, .int .i32 hi], .pointer (some ⟨b, 0, none⟩)] w fun e w' => e = .returned (.bool (inB x (lo, hi))) ∧ RowKit.Below w.heap.size w w' := by
  unfold inB
  dsimp only
  by_cases h1 : lo ≤ x
  · by_cases h2 : x ≤ hi
    · have d1 : decide (lo ≤ x) = true := by simp [h1]
      have d2 : decide (x ≤ hi) = true := by simp [h2]
      go_enter Try.func22, Try.ntmps22
      go_wp2
      go_ret
      exact ⟨ret_bool (by simp [*]), (RowKit.Below.refl _ _).alloc (Nat.le_refl _) _⟩
    · have d1 : decide (lo ≤ x) = true := by simp [h1]
      have d2 : decide (x ≤ hi) = false := by simp; omega
      go_enter Try.func22, Try.ntmps22
      go_wp2
      go_ret
      exact ⟨ret_bool (by simp [*]), (RowKit.Below.refl _ _).alloc (Nat.le_refl _) _⟩
  · have d1 : decide (lo ≤ x) = false := by simp; omega
    go_enter Try.func22, Try.ntmps22
    go_wp2
    go_ret
    exact ⟨ret_bool (by simp [*]), (RowKit.Below.refl _ _).alloc (Nat.le_refl _) _⟩
set_option maxRecDepth 100000 in
set_option maxHeartbeats 1000000 in
theorem idx81_any (R : List Rg) (A : Option Addr) (cap b : Nat) (x : Int) (w : World) (hX : Rs w A R) (hn : R.length ≤ maxLen) (hc : w.cell? ⟨b, 0, none⟩ = some (.int .i32 x)) (hb : b < w.heap.size) :
    Calls Try.prog 33 #[.slice A R.length cap, .func (Fn.func 22) #[] #[.pointer (some ⟨b, 0, none⟩)]] w fun e w' => e = .returned (.int .i64 (cidx (inB x) R)) ∧ RowKit.Below w.heap.size w w' := by
  unfold maxLen at hn
  obtain ⟨n, hN⟩ : ∃ n, R.length = n := ⟨_, rfl⟩
  have HX := Lib.hid hX
  have HNN := Lib.hid hN
  have HC := Lib.hid hc
  rw [hN] at hn ⊢
  clear hX hN hc
  go_enter Try.func33, Try.ntmps33
  go_wp2
  go_loopw [5, 8] (fun _ i wr => ∃ k : Nat, k ≤ n ∧ i = .int .i64 k ∧ Hid (∀ j (hj : j < R.length), j < k → inB x R[j] = false) ∧ RowKit.Below w.heap.size w wr) (fun _ i _ => n - (RowKit.intOf i).toNat)
  case atStart => exact ⟨0, Nat.zero_le _, rfl, Lib.hid (fun j _ h => absurd h (by omega)), RowKit.Below.refl _ _⟩
  case round =>
    obtain ⟨k, hk, rfl, HA, hB⟩ := hrel
    by_cases hlt : k < n
    · have hkl : k < R.length := by rw [HNN.out]; exact hlt
      obtain ⟨ba, off, rfl, hba, c0, c1⟩ := (HX.out.below hB).get k hkl
      obtain ⟨r, hr⟩ : ∃ r, R[k] = r := ⟨_, rfl⟩
      rw [hr] at c0 c1
      obtain ⟨lo, hi⟩ := r
      dsimp only at c0 c1
      have HR := Lib.hid hr
      have hcb := (hB.cell (p := ⟨b, 0, none⟩) hb).trans HC.out
      have hbr : b < wr.heap.size := Nat.lt_of_lt_of_le hb hB.size
      obtain ⟨q, hq⟩ : ∃ q, inB x (lo, hi) = q := ⟨_, rfl⟩
      have cS := fun (W : World) (h1 : W.cell? ⟨b, 0, none⟩ = some (.int .i32 x)) (h2 : b < W.heap.size) => in64_any lo hi x b W h1 h2
      rw [hq] at cS
      have HQ := Lib.hid hq
      have HS := Lib.hid cS
      clear hq cS hr
      cases q
      · go_wp2_with (go_at_call 22; refine (HS.out _ hcb hbr).mono ?_; rintro e w' ⟨rfl, hb1⟩)
        go_roundw
        case rel =>
          refine ⟨k + 1, by omega, by go_num, Lib.hid (fun j hj hjk => ?_), hB.trans ((by assumption : RowKit.Below wr.heap.size wr _).mono hB.size)⟩
          rcases Nat.lt_or_ge j k with h | h
          · exact HA.out j hj h
          · obtain rfl : j = k := by omega
            rw [HR.out]; exact HQ.out
        case measure => simp [RowKit.intOf]; omega
      · have hv := cidx_some (inB x) R k hkl HA.out (by rw [HR.out]; exact HQ.out)
        have HV := Lib.hid hv
        clear hv
        go_wp2_with (go_at_call 22; refine (HS.out _ hcb hbr).mono ?_; rintro e w' ⟨rfl, hb1⟩)
        go_ret
        exact ⟨ret_int HV.out.symm, hB.trans ((by assumption : RowKit.Below wr.heap.size wr _).mono hB.size)⟩
    · obtain rfl : n = k := by omega
      have hv := cidx_none (inB x) R (fun j hj => HA.out j hj (by rw [← HNN.out]; exact hj))
      have HV := Lib.hid hv
      clear hv
      go_wp2
      go_ret
      exact ⟨ret_int HV.out.symm, hB⟩
theorem idx_has (R : List Rg) (x : Int) : decide (0 ≤ cidx (inB x) R) = hasB R x := by
  unfold cidx hasB
  cases h : R.any (inB x)
  · rfl
  · simp
theorem contains_any (R : List Rg) (A : Option Addr) (cap b : Nat) (x : Int) (w : World) (hX : Rs w A R) (hn : R.length ≤ maxLen) (hc : w.cell? ⟨b, 0, none⟩ = some (.int .i32 x)) (hb : b < w.heap.size) :
    Calls Try.prog 21 #[.slice A R.length cap, .func (Fn.func 22) #[] #[.pointer (some ⟨b, 0, none⟩)]] w fun e w' => e = .returned (.bool (hasB R x)) ∧ RowKit.Below w.heap.size w w' := by
  have HI := Lib.hid (idx81_any R A cap b x w hX hn hc hb)
  have hh := idx_has R x
  obtain ⟨i, hi⟩ : ∃ i, cidx (inB x) R = i := ⟨_, rfl⟩
  rw [hi] at HI hh
  rw [← hh]
  clear hX hc hh hi
  go_enter Try.func21, Try.ntmps21
  go_wp2_with fail
  refine HI.out.mono ?_
  rintro e w1 ⟨rfl, h⟩
  have HB := Lib.hid h
  clear h
  go_wp2
  go_ret
  exact ⟨rfl, HB.out⟩
theorem has_any (R : List Rg) (A : Option Addr) (n cap : Nat) (x : Int) (w : World) (hX : Rs w A R) (hR : R.length = n) (hn : n ≤ maxLen) :
    Calls Try.prog 13 #[.slice A n cap, .int .i32 x] w fun e w' => e = .returned (.bool (hasB R x)) ∧ RowKit.Below w.heap.size w w' := by
  have hba : RowKit.Below w.heap.size w (w.alloc (.cells #[.int .i32 x] 21)) := (RowKit.Below.refl _ _).alloc (Nat.le_refl _) _
  have HI := Lib.hid (contains_any R A cap w.heap.size x (w.alloc (.cells #[.int .i32 x] 21)) (hX.below hba) (by rw [hR]; exact hn) (by rw [cell_of_row _ _ _ _ _ _ (heap_alloc_new2 _ _ _ _ rfl)]; rfl) (by simp))
  rw [hR] at HI
  obtain ⟨q, hq⟩ : ∃ q, hasB R x = q := ⟨_, rfl⟩
  rw [hq] at HI ⊢
  clear hX hR hba hq
  go_enter Try.func13, Try.ntmps13
  go_wp2_with fail
  refine HI.out.mono ?_
  rintro e w1 ⟨rfl, h⟩
  have HB := Lib.hid (below_then (below_alloc (RowKit.Below.refl _ _) _) h)
  clear h
  go_wp2
  go_ret
  exact ⟨rfl, HB.out⟩
end Go.Proofs.Ytoamjlnmpklcdaa
namespace Go.Proofs.Ytoamjlnmpklcdaa
open Go.RowKit Go.Lib
open Plain (Rg May mayB In Norm put1 mergeL)
end Go.Proofs.Ytoamjlnmpklcdaa
namespace Go.Proofs.Ytoamjlnmpklcdaa
open Go.RowKit Go.Lib
open Plain (Rg May mayB In Norm)
end Go.Proofs.Ytoamjlnmpklcdaa
namespace Go.Proofs.Ytoamjlnmpklcdaa.Plain
end Go.Proofs.Ytoamjlnmpklcdaa.Plain
namespace Go.Proofs.Ytoamjlnmpklcdaa
open Go.RowKit Go.Lib
open Plain (Rg)
end Go.Proofs.Ytoamjlnmpklcdaa
namespace Go.Proofs.Ytoamjlnmpklcdaa.Plain
/-- a range by its parts: one of few, or as it is -/
structure Rn where
  lo : Int
  hi : Int
  own : Bool
  l : Int
  n : Int
def runOf (x : Rn) : Rg := if x.own then (if 240 ≤ x.l then (1114111 - (x.l - 240), 1114111 - (x.l - 240) + x.n % 5) else (97 + x.l % 26, 97 + x.l % 26 + x.n % 5)) else (x.lo, x.hi)
end Go.Proofs.Ytoamjlnmpklcdaa.Plain
namespace Go.Proofs.Ytoamjlnmpklcdaa
open Go.RowKit Go.Lib
open Plain (Rg Rn runOf)
def rnc (x : Rn) : List Value := [.int .i32 x.lo, .int .i32 x.hi, .bool x.own, .int .u8 x.l, .int .u8 x.n]
def RnOk (x : Rn) : Prop := -2147483648 ≤ x.lo ∧ x.lo < 2147483648 ∧ -2147483648 ≤ x.hi ∧ x.hi < 2147483648 ∧ 0 ≤ x.l ∧ x.l < 256 ∧ 0 ≤ x.n ∧ x.n < 256
set_option maxRecDepth 100000 in
set_option maxHeartbeats 2000000 in
theorem run_any (x : Rn) (hx : RnOk x) (w : World) : Calls Try.prog 23 #[.agg #[.int .i32 x.lo, .int .i32 x.hi, .bool x.own, .int .u8 x.l, .int .u8 x.n]] w fun e w' => e = .returned (.agg #[.int .i32 (runOf x).1, .int .i32 (runOf x).2]) ∧ Below w.heap.size w w' := by
  obtain ⟨lo, hi, own, l, n⟩ := x
  obtain ⟨a1, a2, a3, a4, a5, a6, a7, a8⟩ := hx
  unfold runOf
  dsimp only at *
  cases own
  · go_enter Try.func23, Try.ntmps23
    go_wp2_with fail
    have hb : ((w.alloc (.cells #[.int .i32 lo, .int .i32 hi, .bool false, .int .u8 l, .int .u8 n] 56)).alloc (.cells #[.int .i32 lo, .int .i32 hi] 46)).heap[w.heap.size + 1]? = some (.cells #[.int .i32 lo, .int .i32 hi] 46 (0, 0)) := heap_alloc_new2 _ _ _ _ (by simp)
    obtain ⟨m0, m1, _, _⟩ := box2 hb
    exact bodyPost_ret (v := .agg #[.int .i32 lo, .int .i32 hi]) (by simp [results, Try.results23, go_sem, m0, m1]) rfl ⟨rfl, ((Below.refl _ _).alloc (Nat.le_refl _) _).alloc (by simp) _⟩
  · by_cases h : 240 ≤ l
    · rw [if_pos rfl, if_pos h]
      have d1 : decide (l ≥ 240) = true := by simp [h]
      have e0 : Int.tmod n 5 = n % 5 := Int.tmod_eq_emod_of_nonneg a7
      have e1 : IntKind.u8.wrap (l - 240) = l - 240 := by simp [IntKind.wrap, IntKind.signed, IntKind.bits]; omega
      have e2 : IntKind.i32.wrap (l - 240) = l - 240 := by rw [IntKind.wrap_i32]; omega
      have e3 : IntKind.i32.wrap (1114111 - (l - 240)) = 1114111 - (l - 240) := by rw [IntKind.wrap_i32]; omega
      have e4 : IntKind.i32.wrap (n % 5) = n % 5 := by rw [IntKind.wrap_i32]; omega
      have e5 : IntKind.i32.wrap (1114111 - (l - 240) + n % 5) = 1114111 - (l - 240) + n % 5 := by rw [IntKind.wrap_i32]; omega
      go_enter Try.func23, Try.ntmps23
      go_wp2_with fail
      have hb : ((w.alloc (.cells #[.int .i32 lo, .int .i32 hi, .bool true, .int .u8 l, .int .u8 n] 56)).alloc (.cells #[.int .i32 (1114111 - (l - 240)), .int .i32 (1114111 - (l - 240) + n % 5)] 46)).heap[w.heap.size + 1]? = some (.cells #[.int .i32 (1114111 - (l - 240)), .int .i32 (1114111 - (l - 240) + n % 5)] 46 (0, 0)) := heap_alloc_new2 _ _ _ _ (by simp)
      obtain ⟨m0, m1, _, _⟩ := box2 hb
      exact bodyPost_ret (v := .agg #[.int .i32 (1114111 - (l - 240)), .int .i32 (1114111 - (l - 240) + n % 5)]) (by simp [results, Try.results23, go_sem, m0, m1]) rfl ⟨rfl, ((Below.refl _ _).alloc (Nat.le_refl _) _).alloc (by simp) _⟩
    · rw [if_pos rfl, if_neg h]
      have d1 : decide (l ≥ 240) = false := by simp; omega
      have e0 : Int.tmod n 5 = n % 5 := Int.tmod_eq_emod_of_nonneg a7
      have e1 : Int.tmod l 26 = l % 26 := Int.tmod_eq_emod_of_nonneg a5
      have e2 : IntKind.i32.wrap (l % 26) = l % 26 := by rw [IntKind.wrap_i32]; omega
      have e3 : IntKind.i32.wrap (97 + l % 26) = 97 + l % 26 := by rw [IntKind.wrap_i32]; omega
      have e4 : IntKind.i32.wrap (n % 5) = n % 5 := by rw [IntKind.wrap_i32]; omega
      have e5 : IntKind.i32.wrap (97 + l % 26 + n % 5) = 97 + l % 26 + n % 5 := by rw [IntKind.wrap_i32]; omega
      go_enter Try.func23, Try.ntmps23
      go_wp2_with fail
      have hb : ((w.alloc (.cells #[.int .i32 lo, .int .i32 hi, .bool true, .int .u8 l, .int .u8 n] 56)).alloc (.cells #[.int .i32 (97 + l % 26), .int .i32 (97 + l % 26 + n % 5)] 46)).heap[w.heap.size + 1]? = some (.cells #[.int .i32 (97 + l % 26), .int .i32 (97 + l % 26 + n % 5)] 46 (0, 0)) := heap_alloc_new2 _ _ _ _ (by simp)
      obtain ⟨m0, m1, _, _⟩ := box2 hb
      exact bodyPost_ret (v := .agg #[.int .i32 (97 + l % 26), .int .i32 (97 + l % 26 + n % 5)]) (by simp [results, Try.results23, go_sem, m0, m1]) rfl ⟨rfl, ((Below.refl _ _).alloc (Nat.le_refl _) _).alloc (by simp) _⟩
end Go.Proofs.Ytoamjlnmpklcdaa
namespace Go.Proofs.Ytoamjlnmpklcdaa
open Go.RowKit Go.Lib
open Plain (Rg Rn runOf)
/-- parts of ranges that lie somewhere -/
def Rns (w : World) (A : Option Addr) (X : List Rn) : Prop :=
  0 < X.length → ∃ b off, A = some ⟨b, off, none⟩ ∧ b < w.heap.size ∧ ∀ i (x : Rn), X[i]? = some x → ∀ j u, (rnc x)[j]? = some u → w.cell? ⟨b, off + i * 5 + j, none⟩ = some u
theorem Rns.below {w w' : World} {A : Option Addr} {X : List Rn} (h : Rns w A X) (hb : Below w.heap.size w w') : Rns w' A X := fun hn => by
  obtain ⟨b, off, e, hl, hc⟩ := h hn
  exact ⟨b, off, e, Nat.lt_of_lt_of_le hl hb.size, fun i r hi j u hu => (hb.cell (p := ⟨b, off + i * 5 + j, none⟩) hl).trans (hc i r hi j u hu)⟩
theorem Rns.get {w : World} {A : Option Addr} {X : List Rn} (h : Rns w A X) (k : Nat) (hk : k < X.length) : ∃ b off, A = some ⟨b, off, none⟩ ∧ b < w.heap.size ∧ ∀ j u, (rnc X[k])[j]? = some u → w.cell? ⟨b, off + k * 5 + j, none⟩ = some u := by
  obtain ⟨b, off, e, hl, hc⟩ := h (by omega)
  exact ⟨b, off, e, hl, hc k _ (List.getElem?_eq_getElem hk)⟩
def runsOf (X : List Rn) (m : Nat) : List Rg := (X.take m).map runOf
def RunsRel (w : World) (n m : Nat) (X : List Rn) (v i : Value) (wr : World) : Prop :=
  ∃ k : Nat, k ≤ n ∧ k ≤ m ∧ i = .int .i64 k ∧ wr.ownsRow w.heap.size 46 2 v k (rgs (runsOf X k)) ∧ Below w.heap.size w wr
set_option maxRecDepth 100000 in
set_option maxHeartbeats 4000000 in
theorem runs_any (X : List Rn) (A : Option Addr) (n c m : Nat) (w : World) (hX : Rns w A X) (hR : X.length = n) (hm : m ≤ 1000) (hn : n ≤ maxLen) (hok : ∀ x ∈ X, RnOk x) :
    Calls Try.prog 16 #[.slice A n c, .int .i64 m] w (OwnPost w.heap.size 46 (runsOf X m) w) := by
  unfold maxLen at hn
  obtain ⟨i82, hi82, y0, y1, y2⟩ := info_parts info82
  have HX := Lib.hid hX
  have HR := Lib.hid hR
  have HOK := Lib.hid hok
  clear hX hR hok
  go_enter Try.func16, Try.ntmps16
  go_wp2_with fail
  go_loopw [5, 6] (fun v i wr => RunsRel w n m X v i wr) (fun _ i _ => m - (RowKit.intOf i).toNat)
  case atStart => exact ⟨0, Nat.zero_le _, Nat.zero_le _, rfl, World.ownsRow_nil _ _ _ _, Below.refl _ _⟩
  case round =>
    obtain ⟨k, hk, hkm, rfl, hO, hB⟩ := hrel
    obtain ⟨ua, uc, rfl⟩ := own_slice hO
    have HO := Lib.hid hO
    have HB := Lib.hid hB
    clear hO hB
    by_cases hlt : k < n
    · have d1 : decide (k < n) = true := by simp [hlt]
      by_cases hlm : k < m
      · have d2 : decide (k < m) = true := by simp [hlm]
        have hkl : k < X.length := by rw [HR.out]; exact hlt
        obtain ⟨ba, off, rfl, hba, hc⟩ := (HX.out.below HB.out).get k hkl
        obtain ⟨x, hx⟩ : ∃ x, X[k] = x := ⟨_, rfl⟩
        have hox := HOK.out x (by rw [← hx]; exact List.getElem_mem hkl)
        have hnext : rgs (runsOf X (k + 1)) = rgs (runsOf X k) ++ [.int .i32 (runOf x).1, .int .i32 (runOf x).2] := by
          unfold runsOf
          rw [List.take_succ_eq_append_getElem hkl, hx, List.map_append, rgs_append]; rfl
        rw [hx] at hc
        have CR := Lib.hid (fun (W : World) => run_any x hox W)
        have c0 : wr.cell? ⟨ba, off + k * 5, none⟩ = some (.int .i32 x.lo) := hc 0 _ rfl
        have c1 : wr.cell? ⟨ba, off + k * 5 + 1, none⟩ = some (.int .i32 x.hi) := hc 1 _ rfl
        have c2 : wr.cell? ⟨ba, off + k * 5 + 2, none⟩ = some (.bool x.own) := hc 2 _ rfl
        have c3 : wr.cell? ⟨ba, off + k * 5 + 3, none⟩ = some (.int .u8 x.l) := hc 3 _ rfl
        have c4 : wr.cell? ⟨ba, off + k * 5 + 4, none⟩ = some (.int .u8 x.n) := hc 4 _ rfl
        obtain ⟨ra, hra⟩ : ∃ z, (runOf x).1 = z := ⟨_, rfl⟩
        obtain ⟨rb, hrb⟩ : ∃ z, (runOf x).2 = z := ⟨_, rfl⟩
        rw [hra, hrb] at CR hnext
        have HNX := Lib.hid hnext
        clear hc hnext hx hra hrb hox
        go_wp2_with fail
        refine (CR.out _).mono ?_
        rintro e w2 ⟨rfl, hb⟩
        have HB2 := Lib.hid (below_then HB.out hb)
        have HO2 := Lib.hid (own_below HO.out hb)
        clear c0 c1 c2 c3 c4 hb hba
        go_wp2_with (at_builtin; refine wpList_append_own2 _ rfl (.tmp 18) (.tmp 24) _ rfl w.heap.size 46 i82 _ 2 8 Try.underlying39 hi82 y0 y1 y2 rfl (by decide) (.slice ua k uc) k (rgs (runsOf X k)) rfl (HO2.out.alloc _) ⟨w2.heap.size, 0, none⟩ 1 1 [.int .i32 ra, .int .i32 rb] rfl rfl (CellsAt_add (CellsAt.new w2 _ _)) ?c2 ?c3 ?c4 ?c5 ?_)
        case c2 => first | exact ⟨rfl, rfl⟩ | (intro u hu; simp only [List.mem_cons, List.not_mem_nil, or_false] at hu; rcases hu with rfl | rfl <;> rfl)
        case c3 => simp only [maxLen]; omega
        case c4 => omega
        case c5 => have := HB2.out.size; simp; omega
        intro v3 w7 hown2 hg2 hvb
        have hBn : Below w.heap.size w w7 := (HB2.out.alloc HB2.out.size _).grown hg2 (by have := HB2.out.size; simp; omega) (fun g hg => (HO2.out.lt g hg).1)
        have HBn := Lib.hid hBn
        have HO7 := Lib.hid hown2
        clear hBn hg2 hown2 hvb
        go_wp2
        go_roundw
        case rel =>
          refine ⟨k + 1, by omega, by omega, by go_num, ?_, HBn.out⟩
          rw [HNX.out]
          exact HO7.out
        case measure => simp [RowKit.intOf]; omega
      · have d2 : decide (k < m) = false := by simp; omega
        obtain rfl : k = m := by omega
        go_wp2
        go_ret
        have hl : (runsOf X k).length = k := by unfold runsOf; rw [List.length_map, List.length_take, HR.out]; omega
        refine ⟨ua, uc, ?_, ?_, HB.out⟩
        · rw [hl]; rfl
        · rw [hl]; exact HO.out
    · have d1 : decide (k < n) = false := by simp; omega
      obtain rfl : k = n := by omega
      have he : runsOf X m = runsOf X k := by unfold runsOf; rw [List.take_of_length_le (by rw [HR.out]; omega), List.take_of_length_le (by rw [HR.out]; exact Nat.le_refl _)]
      have HE := Lib.hid he
      clear he
      go_wp2
      go_ret
      have hl : (runsOf X k).length = k := by unfold runsOf; rw [List.length_map, List.length_take, HR.out]; omega
      rw [HE.out]
      refine ⟨ua, uc, ?_, ?_, HB.out⟩
      · rw [hl]; rfl
      · rw [hl]; exact HO.out
end Go.Proofs.Ytoamjlnmpklcdaa
namespace Go.Proofs.Ytoamjlnmpklcdaa.Plain
/-- the class of some ranges -/
def cls (R : List Rg) : List Rg := mergeL ((R.filter mayB).mergeSort fun a b => decide (a.1 ≤ b.1))
theorem cls_holds (R : List Rg) : Norm (cls R) ∧ (∀ x, In (cls R) x ↔ In (R.filter mayB) x) ∧ (cls R).length ≤ R.length := by
  have hp := List.mergeSort_perm (R.filter mayB) fun a b => decide (a.1 ≤ b.1)
  have hs := List.pairwise_mergeSort (le := fun (a b : Rg) => decide (a.1 ≤ b.1)) (fun a b c h1 h2 => by simp at *; omega) (fun a b => by simp; omega) (R.filter mayB)
  have hm := merge_holds _ _ rfl (fun r hr => (mayB_iff r).1 (List.mem_filter.1 (hp.mem_iff.1 hr)).2) (hs.imp fun h => by simpa using h)
  refine ⟨hm.1, fun x => ?_, ?_⟩
  · show In (mergeL _) x ↔ _
    rw [hm.2.1 x]
    constructor
    · rintro ⟨r, h1, h2⟩; exact ⟨r, hp.mem_iff.1 h1, h2⟩
    · rintro ⟨r, h1, h2⟩; exact ⟨r, hp.mem_iff.2 h1, h2⟩
  · have h1 := hm.2.2.2
    rw [hp.length_eq] at h1
    exact Nat.le_trans h1 (List.length_filter_le _ _)
theorem cls_is {R C : List Rg} (hN : Norm C) (hI : ∀ x, In C x ↔ In (R.filter mayB) x) : C = cls R :=
  Norm_unique hN (cls_holds R).1 fun x => (hI x).trans ((cls_holds R).2.1 x).symm
theorem cls_norm (R : List Rg) : Norm (cls R) := (cls_holds R).1
theorem cls_in (R : List Rg) (x : Int) : In (cls R) x ↔ In (R.filter mayB) x := (cls_holds R).2.1 x
theorem cls_len (R : List Rg) : (cls R).length ≤ R.length := (cls_holds R).2.2
theorem Norm_filter {R : List Rg} (h : Norm R) : R.filter mayB = R := List.filter_eq_self.2 fun r hr => (mayB_iff r).2 (Norm_may h r hr)
theorem cls_self {R : List Rg} (h : Norm R) : cls R = R := (cls_is h fun x => by rw [Norm_filter h]).symm
end Go.Proofs.Ytoamjlnmpklcdaa.Plain
namespace Go.Proofs.Ytoamjlnmpklcdaa
open Go.RowKit Go.Lib
open Plain (Rg Rn May mayB In Norm cls runOf)
/-- a class that lies somewhere -/
def Cl (w : World) (A : Option Addr) (n c : Nat) (C : List Rg) : Prop := Rs w A C ∧ C.length = n ∧ (A = none → c = 0)
theorem Cl.below {w w' : World} {A : Option Addr} {n c : Nat} {C : List Rg} (h : Cl w A n c C) (hb : Below w.heap.size w w') : Cl w' A n c C := ⟨h.1.below hb, h.2.1, h.2.2⟩
theorem Cl.of_own {w : World} {base n c : Nat} {A : Option Addr} {C : List Rg} (h : w.ownsRow base 46 2 (.slice A n c) n (rgs C)) (hl : C.length = n) : Cl w A n c C :=
  ⟨Rs.of_own h hl, hl, fun hA => by
    subst hA
    rcases h.2 with ⟨hv, _⟩ | ⟨g, cap, cur, hv, _⟩
    · injection hv
    · cases hv⟩
def ClPost (C : List Rg) (w : World) (en : Ending) (w' : World) : Prop := ∃ A n c, en = .returned (.slice A n c) ∧ Cl w' A n c C ∧ Below w.heap.size w w'
theorem of_cl {R : List Rg} {A : Option Addr} {n c : Nat} {w : World} (h : Cl w A n c R) (hn : R.length ≤ 10000) : Calls Try.prog 17 #[.slice A n c] w (ClPost (cls R) w) := by
  obtain ⟨h1, h2, _⟩ := h
  refine (cof_any R A n c w h1 h2 (by omega)).mono ?_
  rintro e w' ⟨C, A', c', rfl, hN, hI, _, hO, hB⟩
  obtain rfl := Plain.cls_is hN hI
  exact ⟨A', _, c', rfl, Cl.of_own hO rfl, hB⟩
theorem has_cl {R : List Rg} {A : Option Addr} {n c : Nat} (x : Int) {w : World} (h : Cl w A n c R) (hn : R.length ≤ 10000) : Calls Try.prog 13 #[.slice A n c, .int .i32 x] w fun e w' => e = .returned (.bool (hasB R x)) ∧ Below w.heap.size w w' :=
  has_any R A n c x w h.1 h.2.1 (by have := h.2.1; unfold maxLen; omega)
theorem runs_cl {X : List Rn} {A : Option Addr} {n c : Nat} {w : World} (m : Nat) (hX : Rns w A X) (hR : X.length = n) (hm : m ≤ 1000) (hn : n ≤ maxLen) (hok : ∀ x ∈ X, RnOk x) : Calls Try.prog 16 #[.slice A n c, .int .i64 m] w (ClPost (runsOf X m) w) := by
  refine (runs_any X A n c m w hX hR hm hn hok).mono ?_
  rintro e w' ⟨A', c', rfl, hO, hB⟩
  exact ⟨A', _, c', rfl, Cl.of_own hO rfl, hB⟩
end Go.Proofs.Ytoamjlnmpklcdaa
namespace Go.Proofs.Ytoamjlnmpklcdaa.Plain
end Go.Proofs.Ytoamjlnmpklcdaa.Plain
namespace Go.Proofs.Ytoamjlnmpklcdaa
open Go.RowKit Go.Lib
open Plain (Rg Rn May mayB In Norm cls runOf)
end Go.Proofs.Ytoamjlnmpklcdaa
