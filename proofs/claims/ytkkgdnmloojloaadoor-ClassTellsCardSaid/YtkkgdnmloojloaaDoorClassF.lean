/- Chapter 4: slices.Grow and slices.Concat at two classes; a number base sixteen (strconv): what the code computes. Conditions: what each lemma says. -/
import Derived.Test.YtkkgdnmloojloaaDoorClassE
import Derived.Laws.AppendOwnNone
import Derived.ArgAppend
import Derived.Deep.Cut
import Derived.BigQuiet
import Derived.Shelf.Spec.SlicesGrow
set_option linter.unusedVariables false
set_option linter.unusedSimpArgs false
namespace Go.Proofs
open Go.Shelf
def Tryd.grow_ren : Go.Shelf.Ren := ⟨fun | 4 => 80 | n => n, fun | 22 => 64 | 25 => 82 | n => n, fun | n => n⟩
set_option maxRecDepth 100000
theorem Tryd.grow : Lays8.n4 Tryd.prog Tryd.grow_ren := {
  mixed := by kernel_rfl
  f4 := ⟨Tryd.f80.name, by decide, Tryd.func80.trans (congrArg some (by kernel_rfl))⟩
  t0 := Tryd.underlying0
  a0 := Tryd.isAgg0
  z0 := Tryd.sizeOf0
  v0 := Tryd.zeroValue0
  t3 := Tryd.underlying3
  a3 := Tryd.isAgg3
  z3 := Tryd.sizeOf3
  v3 := Tryd.zeroValue3
  t4 := Tryd.underlying4
  a4 := Tryd.isAgg4
  z4 := Tryd.sizeOf4
  v4 := Tryd.zeroValue4
  t9 := Tryd.underlying9
  a9 := Tryd.isAgg9
  z9 := Tryd.sizeOf9
  v9 := Tryd.zeroValue9
  t20 := Tryd.underlying20
  a20 := Tryd.isAgg20
  z20 := Tryd.sizeOf20
  v20 := Tryd.zeroValue20
  t22 := Tryd.underlying64
  a22 := Tryd.isAgg64
  z22 := Tryd.sizeOf64
  v22 := Tryd.zeroValue64 }
end Go.Proofs
namespace Go.Proofs.YtkkgdnmloojloaaDoor
open Go.RowKit Go.Lib
open Plain (Rg May mayB In Norm)
/-- slices.Grow at nil -/
theorem grow_any (N : Nat) (hN : N ≤ 1000000) (w : World) :
    Calls Tryd.prog 80 #[.slice none 0 0, .int .i64 N] w fun e w' => ∃ v, e = .returned v ∧ w'.ownsRow w.heap.size 82 2 v 0 [] ∧ Below w.heap.size w w' := by
  rcases Nat.eq_zero_or_pos N with h0 | h0
  · subst h0
    have c := Any8.slices_Grow_room Tryd.grow none 0 0 0 w (Nat.le_refl _) (by omega) (by omega) (Nat.le_refl _)
    change Calls Tryd.prog 80 _ _ _ at c
    refine c.mono ?_
    rintro e w' ⟨rfl, rfl⟩
    exact ⟨_, rfl, World.ownsRow_nil _ _ _ _, Below.refl _ _⟩
  · obtain ⟨i82, hi82, y0, y1, y2⟩ := info_parts info82
    have hi : Tryd.prog.info? (Tryd.grow_ren.t 25) = some i82 := hi82
    have c := Any8.slices_Grow_grow Tryd.grow i82 _ hi y0 (by omega) none 0 0 N [] w (Nat.le_refl _) (by omega) (by rw [y2]; omega) (by omega) (by simp) (fun _ => rfl) (fun a ha => by cases ha)
    change Calls Tryd.prog 80 _ _ _ at c
    refine c.mono ?_
    rintro e w' ⟨rfl, rfl⟩
    have hge : 0 + N ≤ grownCap w (0 + N) 0 (Tryd.grow_ren.t 25) := grownCap_ge w _ _ _
    have hle := grownCap_le_maxLen w (0 + N) 0 (Tryd.grow_ren.t 25) (by unfold maxLen; omega)
    obtain ⟨G, hG⟩ : ∃ G, grownCap w (0 + N) 0 (Tryd.grow_ren.t 25) = G := ⟨_, rfl⟩
    rw [hG] at hge hle ⊢
    refine ⟨_, rfl, ⟨rfl, .inr ⟨w.heap.size, G, _, rfl, Nat.le_refl _, heap_alloc_new2 _ _ _ _ rfl, Nat.zero_le _, hle, ?_, by simp⟩⟩, ?_⟩
    · simp [Builtin.zeroCells, Value.cells]
      omega
    · exact ((Below.refl _ _).drew).alloc (by simp) _
def part2 (n m k : Nat) : Nat := if k = 0 then 0 else if k = 1 then n else n + m
def parts2 (R S : List Rg) (k : Nat) : List Rg := if k = 0 then [] else if k = 1 then R else R ++ S
def ConRel (w : World) (R S : List Rg) (n m : Nat) (v i : Value) (wr : World) : Prop :=
  ∃ k : Nat, k ≤ 2 ∧ i = .int .i64 k ∧ wr.ownsRow w.heap.size 82 2 v (part2 n m k) (rgs (parts2 R S k)) ∧ Below w.heap.size w wr
set_option maxRecDepth 100000 in
set_option maxHeartbeats 4000000 in
theorem concat2_any (R S : List Rg) (A B : Option Addr) (n m c d g : Nat) (w : World) (hX : Rs w A R) (hY : Rs w B S) (hR : R.length = n) (hS : S.length = m) (hn : n ≤ 100000) (hm : m ≤ 100000) (hA : A = none → c = 0) (hB : B = none → d = 0)
    (hg : CellsAt w g [.slice A n c, .slice B m d]) :
    Calls Tryd.prog 62 #[.slice (some ⟨g, 0, none⟩) 2 2] w (OwnPost w.heap.size 82 (R ++ S) w) := by
  obtain ⟨i82, hi82, y0, y1, y2⟩ := info_parts info82
  have cG : ∀ w, Calls Tryd.prog 80 #[.slice none 0 0, .int .i64 ((n : Int) + (m : Int))] w fun e w' => ∃ v, e = .returned v ∧ w'.ownsRow w.heap.size 82 2 v 0 [] ∧ Below w.heap.size w w' := fun w => by
    have := grow_any (n + m) (by omega) w
    rw [Int.natCast_add] at this
    exact this
  have CG := Lib.hid cG
  have HX := Lib.hid hX
  have HY := Lib.hid hY
  have HR := Lib.hid hR
  have HS := Lib.hid hS
  have HA := Lib.hid hA
  have HBn := Lib.hid hB
  have HG := Lib.hid hg
  have HN := Lib.hid hn
  have HM := Lib.hid hm
  clear cG hX hY hR hS hA hB hg
  go_enter Tryd.func62, Tryd.ntmps62
  go_wp2_with fail
  go_loopw [3, 11] (fun z i wr => ∃ k : Nat, k ≤ 2 ∧ i = .int .i64 k ∧ z = .int .i64 (part2 n m k : Nat) ∧ wr = w) (fun _ i _ => 2 - (RowKit.intOf i).toNat)
  case atStart => exact ⟨0, by omega, rfl, rfl, rfl⟩
  case round =>
    obtain ⟨k, hk, rfl, rfl, rfl⟩ := hrel
    have c0 := HG.out.at_ 0 _ rfl
    have c1 := HG.out.at_ 1 _ rfl
    have lg := HG.out.1
    obtain rfl | rfl | rfl : k = 0 ∨ k = 1 ∨ k = 2 := by omega
    · have e1 : ((part2 n m 0 : Nat) : Int) = 0 := rfl
      have d0 : decide ((n : Int) < 0) = false := by simp
      have e2 : IntKind.i64.wrap (n : Int) = (n : Int) := by rw [IntKind.wrap_i64]; omega
      rw [e1]
      go_wp2_with fail
      go_roundw
      case rel => exact ⟨1, by omega, rfl, rfl, trivial⟩
      case measure => simp [RowKit.intOf]
    · have e1 : ((part2 n m 1 : Nat) : Int) = (n : Int) := rfl
      have d0 : decide (((n : Int) + (m : Int)) < 0) = false := by simp; omega
      have e2 : IntKind.i64.wrap ((n : Int) + (m : Int)) = (n : Int) + (m : Int) := by rw [IntKind.wrap_i64]; omega
      rw [e1]
      go_wp2_with fail
      go_roundw
      case rel => exact ⟨2, by omega, rfl, by show _ = Value.int .i64 ((n + m : Nat) : Int); rw [Int.natCast_add], trivial⟩
      case measure => simp [RowKit.intOf]
    · have e1 : ((part2 n m 2 : Nat) : Int) = ((n + m : Nat) : Int) := rfl
      rw [e1]
      clear c0 c1 lg hk
      obtain ⟨w0, rfl⟩ : ∃ w0, w0 = wr := ⟨_, rfl⟩
      go_wp2_with fail
      refine (CG.out _).mono ?_
      rintro e w3 ⟨v0, rfl, hO3, hB3⟩
      have HO3 := Lib.hid hO3
      have HB3 := Lib.hid hB3
      clear hO3 hB3
      go_wp2_with fail
      go_loopw [6, 27] (fun v i wq => ConRel w0 R S n m v i wq) (fun _ i _ => 2 - (RowKit.intOf i).toNat)
      case atStart => exact ⟨0, by omega, rfl, HO3.out, HB3.out⟩
      case round =>
        obtain ⟨k, hk, rfl, hO, hB⟩ := hrel
        have HB := Lib.hid hB
        have HO := Lib.hid hO
        have hg3 := HG.out.below hB
        have c0 := hg3.at_ 0 _ rfl
        have c1 := hg3.at_ 1 _ rfl
        have lg := hg3.1
        clear hB hg3
        obtain rfl | rfl | rfl : k = 0 ∨ k = 1 ∨ k = 2 := by omega
        · change World.ownsRow _ _ _ _ _ 0 [] at hO
          obtain ⟨ua, uc, rfl⟩ := own_slice hO
          have HO := Lib.hid hO
          clear hO
          cases A with
          | none =>
            have hc := HA.out rfl
            subst hc
            have hnil : R = [] := by
              cases hr : R with
              | nil => rfl
              | cons r T => obtain ⟨b, off, e, _⟩ := HX.out (by rw [hr]; simp); cases e
            have hn0 : n = 0 := by rw [← HR.out, hnil]; rfl
            have HNIL := Lib.hid hnil
            have HN0 := Lib.hid hn0
            clear hnil
            rw [hn0] at c0
            clear hn0
            go_wp2_with (at_builtin; refine wpList_append_own_none rfl (.tmp 31) (.tmp 32) _ rfl w0.heap.size 82 i82 2 Tryd.underlying64 hi82 (.slice ua 0 uc) 0 [] rfl HO.out rfl ?_)
            go_roundw
            case rel => exact ⟨1, by omega, rfl, by show World.ownsRow _ _ _ _ _ n (rgs R); rw [HN0.out, HNIL.out]; exact HO.out, HB.out⟩
            case measure => simp [RowKit.intOf]
          | some ad =>
            obtain ⟨i82, hi82, y0, y1, y2⟩ := info_parts info82
            go_wp2_with (at_builtin; refine wpList_append_own2 _ rfl (.tmp 31) (.tmp 32) _ rfl w0.heap.size 82 i82 _ 2 8 Tryd.underlying64 hi82 y0 y1 y2 rfl (by decide) (.slice ua 0 uc) 0 [] rfl HO.out ad n c (rgs R) rfl (by rw [rgs_len, HR.out]) (HX.out.below HB.out).flat (rgs_one R) ?c30 ?c40 ?c50 ?_)
            case c30 => simp only [maxLen]; omega
            case c40 => omega
            case c50 => exact HB.out.size
            intro v3 w7 hown2 hg2 hvb
            have hBn : Below w0.heap.size w0 w7 := HB.out.grown hg2 HB.out.size (fun g hg => (HO.out.lt g hg).1)
            have HBn := Lib.hid hBn
            have HO7 := Lib.hid hown2
            clear hBn hg2 hown2 hvb
            go_wp2
            go_roundw
            case rel => exact ⟨1, by omega, rfl, by show World.ownsRow _ _ _ _ _ n (rgs R); exact HO7.out, HBn.out⟩
            case measure => simp [RowKit.intOf]
        · change World.ownsRow _ _ _ _ _ n (rgs R) at hO
          obtain ⟨ua, uc, rfl⟩ := own_slice hO
          have HO := Lib.hid hO
          clear hO
          cases B with
          | none =>
            have hc := HBn.out rfl
            subst hc
            have hnil : S = [] := by
              cases hr : S with
              | nil => rfl
              | cons r T => obtain ⟨b, off, e, _⟩ := HY.out (by rw [hr]; simp); cases e
            have hn0 : m = 0 := by rw [← HS.out, hnil]; rfl
            have HNIL := Lib.hid hnil
            have HN0 := Lib.hid hn0
            clear hnil
            rw [hn0] at c1
            clear hn0
            go_wp2_with (at_builtin; refine wpList_append_own_none rfl (.tmp 31) (.tmp 32) _ rfl w0.heap.size 82 i82 2 Tryd.underlying64 hi82 (.slice ua n uc) n (rgs R) rfl HO.out rfl ?_)
            go_roundw
            case rel => exact ⟨2, by omega, rfl, by show World.ownsRow _ _ _ _ _ (n + m) (rgs (R ++ S)); rw [HN0.out, HNIL.out, List.append_nil]; exact HO.out, HB.out⟩
            case measure => simp [RowKit.intOf]
          | some ad =>
            obtain ⟨i82, hi82, y0, y1, y2⟩ := info_parts info82
            go_wp2_with (at_builtin; refine wpList_append_own2 _ rfl (.tmp 31) (.tmp 32) _ rfl w0.heap.size 82 i82 _ 2 8 Tryd.underlying64 hi82 y0 y1 y2 rfl (by decide) (.slice ua n uc) n (rgs R) rfl HO.out ad m d (rgs S) rfl (by rw [rgs_len, HS.out]) (HY.out.below HB.out).flat (rgs_one S) ?c31 ?c41 ?c51 ?_)
            case c31 => simp only [maxLen]; omega
            case c41 => omega
            case c51 => exact HB.out.size
            intro v3 w7 hown2 hg2 hvb
            have hBn : Below w0.heap.size w0 w7 := HB.out.grown hg2 HB.out.size (fun g hg => (HO.out.lt g hg).1)
            have HBn := Lib.hid hBn
            have HO7 := Lib.hid hown2
            clear hBn hg2 hown2 hvb
            go_wp2
            go_roundw
            case rel => exact ⟨2, by omega, rfl, by show World.ownsRow _ _ _ _ _ (n + m) (rgs (R ++ S)); rw [rgs_append]; exact HO7.out, HBn.out⟩
            case measure => simp [RowKit.intOf]
        · change World.ownsRow _ _ _ _ _ (n + m) (rgs (R ++ S)) at hO
          obtain ⟨ua, uc, rfl⟩ := own_slice hO
          clear c0 c1 lg hO
          go_wp2
          go_ret
          have hl : (R ++ S).length = n + m := by rw [List.length_append, HR.out, HS.out]
          refine ⟨ua, uc, ?_, ?_, HB.out⟩
          · rw [hl]; rfl
          · rw [hl]; exact HO.out
end Go.Proofs.YtkkgdnmloojloaaDoor
namespace Go.Proofs.YtkkgdnmloojloaaDoor
open Go.RowKit Go.Lib
/-- the one cell of the library's table that is read at sixteen -/
def Tz (w : World) : Prop := w.cell? ⟨5, 15, none⟩ = some (.int .u8 4)
theorem Tz.below {w w' : World} (h : Tz w) (hb : Below w.heap.size w w') : Tz w' := (hb.cell (World.block_lt_of_cell? w _ h)).trans h
theorem tz64_any (w : World) (hT : Tz w) : Calls Tryd.prog 129 #[.int .u64 16] w fun e w' => e = .returned (.int .i64 4) ∧ w' = w := by
  have key : IntKind.u64.wrap (bits BinOp.and IntKind.u64 16 (IntKind.u64.wrap (-16)) * 285870213051353865) / 288230376151711744 = 15 := by decide
  have c0 : w.cell? ⟨5, 15, none⟩ = some (.int .u8 4) := hT
  go_enter Tryd.func129, Tryd.ntmps129
  go_wp2_with fail
  go_ret
  exact ⟨rfl, rfl⟩
theorem pow2_any (w : World) : Calls Tryd.prog 125 #[.int .i64 16] w fun e w' => e = .returned (.bool true) ∧ w' = w := by
  go_enter Tryd.func125, Tryd.ntmps125
  go_wp2_with fail
  go_ret
  exact ⟨rfl, rfl⟩
theorem tz_any (w : World) (hT : Tz w) : Calls Tryd.prog 126 #[.int .u64 16] w fun e w' => e = .returned (.int .i64 4) ∧ w' = w := by
  have c := tz64_any w hT
  go_enter Tryd.func126, Tryd.ntmps126
  go_wp2_with (go_at_call 129; refine c.mono ?_; rintro e w' ⟨rfl, rfl⟩)
  go_ret
  exact ⟨rfl, rfl⟩
end Go.Proofs.YtkkgdnmloojloaaDoor
namespace Go.Proofs.YtkkgdnmloojloaaDoor.Plain
/-- a digit of sixteen -/
def dg (k : Nat) : UInt8 := if k < 10 then UInt8.ofNat (48 + k) else UInt8.ofNat (87 + k)
def hexF : Nat → Nat → List UInt8
  | 0, _ => []
  | f + 1, u => if u < 16 then [dg u] else hexF f (u / 16) ++ [dg (u % 16)]
def hexN (u : Nat) : List UInt8 := hexF 16 u
theorem hexF_more : ∀ (f u : Nat), u < 16 ^ f → 0 < f → hexF (f + 1) u = hexF f u := by
  intro f
  induction f with
  | zero => intro u _ h; omega
  | succ f ih =>
    intro u hu _
    unfold hexF
    by_cases h : u < 16
    · rw [if_pos h, if_pos h]
    · rw [if_neg h, if_neg h]
      have h0 : 0 < f := by
        rcases Nat.eq_zero_or_pos f with e | e
        · subst e; simp at hu; omega
        · exact e
      rw [ih (u / 16) (by rw [Nat.pow_succ] at hu; omega) h0]
theorem hexN_lt {u : Nat} (h : u < 16) : hexN u = [dg u] := by unfold hexN hexF; rw [if_pos h]
theorem hexN_ge {u : Nat} (h : 16 ≤ u) (hu : u < 1152921504606846976) : hexN u = hexN (u / 16) ++ [dg (u % 16)] := by
  have := hexF_more 15 (u / 16) (by omega) (by omega)
  unfold hexN
  rw [this]
  conv => lhs; unfold hexF
  rw [if_neg (by omega)]
end Go.Proofs.YtkkgdnmloojloaaDoor.Plain
namespace Go.Proofs.YtkkgdnmloojloaaDoor
open Go.RowKit Go.Lib
open Plain (dg hexN)
def bys (t : List UInt8) : List Value := t.map fun b => .int .u8 (b.toNat : Int)
def bufL (k : Nat) (t : List UInt8) : List Value := List.replicate (65 - k) (.int .u8 0) ++ bys t
theorem bufL_set (k : Nat) (t : List UInt8) (b : UInt8) (hk : k < 65) : (bufL k t).set (64 - k) (.int .u8 (b.toNat : Int)) = bufL (k + 1) (b :: t) := by
  unfold bufL bys
  rw [List.set_append_left _ _ (by simp; omega), show 65 - k = (64 - k) + 1 by omega, List.replicate_succ', List.set_append_right _ _ (by simp), show 65 - (k + 1) = 64 - k by omega]
  simp
def fbRel (w : World) (g n : Nat) (u i : Value) (wr : World) : Prop :=
  ∃ (k q : Nat) (t : List UInt8), i = .int .i64 ((65 - k : Nat) : Int) ∧ u = .int .u64 q ∧ t.length = k ∧ q * 16 ^ k ≤ n ∧ hexN q ++ t = hexN n ∧
    k ≤ 7 ∧ wr.ownsRow w.heap.size 171 1 (.slice (some ⟨g, 0, none⟩) 65 65) 65 (bufL k t) ∧ Below w.heap.size w wr
theorem zero171 : Tryd.zeroCells171.toList = List.replicate 65 (.int .u8 0) := by kernel_rfl
theorem own171 (w : World) : (w.alloc (.cells Tryd.zeroCells171 171)).ownsRow w.heap.size 171 1 (.slice (some ⟨w.heap.size, 0, none⟩) 65 65) 65 (bufL 0 []) := by
  refine ⟨by simp [bufL, bys], .inr ⟨w.heap.size, 65, Tryd.zeroCells171, rfl, Nat.le_refl _, heap_alloc_new2 _ _ _ _ rfl, Nat.le_refl _, by unfold maxLen; omega, by kernel_rfl, ?_⟩⟩
  rw [zero171]; rfl
theorem dgs_fin : ∀ r : Fin 16, (ByteArray.mk #[48, 49, 50, 51, 52, 53, 54, 55, 56, 57, 97, 98, 99, 100, 101, 102, 103, 104, 105, 106, 107, 108, 109, 110, 111, 112, 113, 114, 115, 116, 117, 118, 119, 120, 121, 122])[r.1]'(by have := r.2; show r.1 < 36; omega) = dg r.1 := by decide
theorem dgs_at (r : Nat) (h : r < 36) (h16 : r < 16) : (ByteArray.mk #[48, 49, 50, 51, 52, 53, 54, 55, 56, 57, 97, 98, 99, 100, 101, 102, 103, 104, 105, 106, 107, 108, 109, 110, 111, 112, 113, 114, 115, 116, 117, 118, 119, 120, 121, 122])[r]'h = dg r := by
  exact dgs_fin ⟨r, h16⟩
theorem fb_conv {w : World} {base g : Nat} {k m : Nat} {t : List UInt8} (c : Nat) (h : w.ownsRow base 171 1 (.slice (some ⟨g, 0, none⟩) 65 65) 65 (bufL k t)) (ht : t.length = k) (hm : m + k = 65) :
    (convert 53 9 (.slice (some ⟨g, m, none⟩) k c)).run Tryd.prog w = .ok (.string (str t)) w := by
  subst ht
  refine run_convert_bytes_back (P := Tryd.prog) w 53 9 5 ⟨g, m, none⟩ c t Tryd.underlying53 Tryd.underlying5 Tryd.underlying9 fun j hj => ?_
  rw [show (⟨g, m, none⟩ : Addr).add j = ⟨g, m + j, none⟩ by unfold Addr.add; split <;> simp_all]
  refine own_cell h (m + j) _ ?_
  unfold bufL bys
  rw [List.getElem?_append_right (by simp; omega), List.length_replicate, show m + j - (65 - t.length) = j by omega, List.getElem?_map, List.getElem?_eq_getElem hj]
  rfl
theorem fb_slice (w : World) (g m : Nat) (hm : m < 65) : (Instr.sliceAt 171 (.pointer (some ⟨g, 0, none⟩)) (some (.int .i64 (m : Int))) none none).run Tryd.prog w = .ok (.slice (some ⟨g, m, none⟩) (65 - m) (65 - m)) w := by
  have ha : Tryd.prog.arrayLen 171 = 65 := by kernel_rfl
  have he : Tryd.prog.elem 171 = 5 := by kernel_rfl
  have hz : (sizeOf 5).run Tryd.prog w = .ok 1 w := by kernel_rfl
  rw [run_sliceAt_array_l (P := Tryd.prog) w 171 ⟨g, 0, none⟩ (by kernel_rfl) .i64 (m : Int) (by omega) (by rw [ha]; omega), ha, he, hz]
  simp only [Result.andThen, slicedAt, Int.toNat_natCast]
  rw [if_neg (by omega), show (⟨g, 0, none⟩ : Addr).add (m * 1) = ⟨g, m, none⟩ by unfold Addr.add; split <;> simp_all]
theorem fb_zero (k : Nat) (t : List UInt8) (hk : k ≤ 64) : (bufL k t)[64 - k]? = some (.int .u8 0) := by
  unfold bufL
  rw [List.getElem?_append_left (by simp; omega), List.getElem?_replicate, if_pos (by omega)]
end Go.Proofs.YtkkgdnmloojloaaDoor
namespace Go.Proofs.YtkkgdnmloojloaaDoor
open Go.RowKit Go.Lib
open Plain (dg hexN)
set_option maxRecDepth 100000 in
set_option maxHeartbeats 4000000 in
theorem fb_pos (n : Nat) (hn : n < 4294967296) (w : World) (hT : Tz w) :
    Calls Tryd.prog 115 #[.slice none 0 0, .int .u64 n, .int .i64 16, .bool false, .bool false] w fun e w' => e = .returned (.tuple #[.slice none 0 0, .string (str (hexN n))]) ∧ Below w.heap.size w w' := by
  have cP := fun w => pow2_any w
  have cT := fun w (h : Tz w) => tz_any w h
  have CP := Lib.hid cP
  have CT := Lib.hid cT
  have HT := Lib.hid hT
  clear cP cT hT
  go_enter Tryd.func115, Tryd.ntmps115
  go_wp2_with fail
  refine (CP.out _).mono ?_
  rintro e w1 ⟨rfl, rfl⟩
  obtain ⟨wa, hwa⟩ : ∃ x, w.alloc (.cells Tryd.zeroCells171 171) = x := ⟨_, rfl⟩
  have hO := own171 w
  have hB : Below w.heap.size w (w.alloc (.cells Tryd.zeroCells171 171)) := (Below.refl _ _).alloc (Nat.le_refl _) _
  rw [hwa] at hO hB ⊢
  have HB := Lib.hid hB
  have HO := Lib.hid hO
  have HTa := Lib.hid (HT.out.below hB)
  clear hO hB hwa
  go_wp2_with fail
  refine (CT.out _ HTa.out).mono ?_
  rintro e w1 ⟨rfl, rfl⟩
  go_wp2_with fail
  go_loopw [1, 13] (fun u i wr => fbRel w w.heap.size n u i wr) (fun u _ _ => (RowKit.intOf u).toNat)
  case atStart => exact ⟨0, n, [], rfl, rfl, rfl, by omega, by simp, by omega, HO.out, HB.out⟩
  case round =>
    obtain ⟨k, q, t, rfl, rfl, ht, hq, hx, hk, hO, hB⟩ := hrel
    have HO := Lib.hid hO
    have HB := Lib.hid hB
    have HX := Lib.hid hx
    have hqn : q ≤ n := Nat.le_trans (Nat.le_mul_of_pos_right q (Nat.pow_pos (by decide))) hq
    have HQ := Lib.hid hq
    clear hO hB hx hq
    obtain ⟨j, hj⟩ : ∃ j, 65 - k = j := ⟨_, rfl⟩
    obtain ⟨m, hm⟩ : ∃ m, j = m + 1 := ⟨j - 1, by omega⟩
    have e1 : (j : Int) - 1 = (m : Int) := by omega
    have e2 : IntKind.i64.wrap ((j : Int) - 1) = (m : Int) := by rw [e1, IntKind.wrap_i64]; omega
    have e3 : m < 65 := by omega
    have e4 : (0 : Int) ≤ (m : Int) ∧ (m : Int) < 65 := by omega
    have hm64 : 64 - k = m := by omega
    have v1 := own_cell HO.out m (.int .u8 0) (by rw [← hm64]; exact fb_zero k t (by omega))
    have vf := own_frozen HO.out m
    have lg := lt_of_some (own_blk HO.out).choose_spec
    rw [hj]
    by_cases h16 : 16 ≤ q
    · have d1 : decide ((q : Int) ≥ 16) = true := by simp; omega
      obtain ⟨r, hr⟩ : ∃ r, q % 16 = r := ⟨_, rfl⟩
      have hr16 : r < 16 := by omega
      have hb : bits BinOp.and IntKind.u64 (q : Int) 15 = (r : Int) := by
        rw [show (15 : Int) = ((15 : Nat) : Int) from rfl, bits_and_u64_nat q 15 (by omega) (by omega), ← hr, show (15 : Nat) = 2 ^ 4 - 1 from rfl, Nat.and_two_pow_sub_one_eq_mod]
      have e5 : (0 : Int) ≤ (r : Int) ∧ (r : Int) < 36 := by omega
      have e6 : r < 36 := by omega
      go_wp2_with (simp only [hb])
      go_roundw
      case rel =>
        have hst := (World.ownsRow.stored HO.out m (.int .u8 ((dg r).toNat : Int))).1
        rw [← hm64, bufL_set k t (dg r) (by omega), hm64] at hst
        have hxx := Plain.hexN_ge h16 (by omega)
        rw [hr] at hxx
        have hq := HQ.out
        have hk7 : k + 1 ≤ 7 := by
          have h3 : 16 ^ (k + 1) < 16 ^ 8 := by
            rw [Nat.pow_succ, Nat.mul_comm]
            exact Nat.lt_of_le_of_lt (Nat.le_trans (Nat.mul_le_mul_right _ h16) hq) hn
          have := (Nat.pow_lt_pow_iff_right (by decide : 1 < 16)).1 h3
          omega
        refine ⟨k + 1, q / 16, dg r :: t, ?_, rfl, by simp [ht], ?_, ?_, hk7, ?_, ?_⟩
        · rw [show 65 - (k + 1) = m by omega]
        · rw [Nat.pow_succ, Nat.mul_comm (16 ^ k) 16, ← Nat.mul_assoc]
          exact Nat.le_trans (Nat.mul_le_mul_right _ (Nat.div_mul_le_self q 16)) hq
        · rw [← HX.out, hxx, List.append_assoc]; rfl
        · rw [dgs_at r e6 hr16]; exact hst
        · exact HB.out.setCell (p := ⟨w.heap.size, m, none⟩) (Nat.le_refl _) _
      case measure => simp [RowKit.intOf]; omega
    · have d1 : decide ((q : Int) ≥ 16) = false := by simp; omega
      have e5 : (0 : Int) ≤ (q : Int) ∧ (q : Int) < 36 := by omega
      have e6 : q < 36 := by omega
      have hst := (World.ownsRow.stored HO.out m (.int .u8 ((dg q).toNat : Int))).1
      rw [← hm64, bufL_set k t (dg q) (by omega), hm64] at hst
      rw [show dg q :: t = hexN n by rw [← HX.out, Plain.hexN_lt (by omega)]; rfl] at hst
      have hl : (hexN n).length = k + 1 := by rw [← HX.out, Plain.hexN_lt (by omega)]; simp [ht]
      have hb2 := HB.out.setCell (p := ⟨w.heap.size, m, none⟩) (Nat.le_refl _) (.int .u8 ((dg q).toNat : Int))
      have HST := Lib.hid hst
      have HB2 := Lib.hid hb2
      clear hst hb2
      go_upto_region 17 with fail
      rw [dgs_at q e6 (by omega)]
      obtain ⟨ws, hws⟩ : ∃ x, wr.setCell ⟨w.heap.size, m, none⟩ (.int .u8 ((dg q).toNat : Int)) = x := ⟨_, rfl⟩
      rw [hws] at HST HB2 ⊢
      clear hws v1 vf lg
      have e7 : 65 - m = k + 1 := by omega
      have hcv := fb_conv (m := m) (k + 1) HST.out hl (by omega)
      have hsl := fb_slice ws w.heap.size m (by omega)
      rw [e7] at hsl
      go_wp2_with (simp only [hsl, hcv])
      go_ret2
      exact ⟨rfl, HB2.out⟩
end Go.Proofs.YtkkgdnmloojloaaDoor
namespace Go.Proofs.YtkkgdnmloojloaaDoor
open Go.RowKit Go.Lib
open Plain (dg hexN)
set_option maxRecDepth 100000 in
set_option maxHeartbeats 4000000 in
theorem fb_neg (n : Nat) (h1 : 1 ≤ n) (hn : n < 4294967296) (w : World) (hT : Tz w) :
    Calls Tryd.prog 115 #[.slice none 0 0, .int .u64 (18446744073709551616 - n), .int .i64 16, .bool true, .bool false] w fun e w' => e = .returned (.tuple #[.slice none 0 0, .string (str (45 :: hexN n))]) ∧ Below w.heap.size w w' := by
  have cP := fun w => pow2_any w
  have cT := fun w (h : Tz w) => tz_any w h
  have CP := Lib.hid cP
  have CT := Lib.hid cT
  have HT := Lib.hid hT
  have hng : IntKind.u64.wrap (-(18446744073709551616 - (n : Int))) = (n : Int) := by rw [IntKind.wrap_u64]; omega
  clear cP cT hT
  go_enter Tryd.func115, Tryd.ntmps115
  go_wp2_with fail
  refine (CP.out _).mono ?_
  rintro e w1 ⟨rfl, rfl⟩
  obtain ⟨wa, hwa⟩ : ∃ x, w.alloc (.cells Tryd.zeroCells171 171) = x := ⟨_, rfl⟩
  have hO := own171 w
  have hB : Below w.heap.size w (w.alloc (.cells Tryd.zeroCells171 171)) := (Below.refl _ _).alloc (Nat.le_refl _) _
  rw [hwa] at hO hB ⊢
  have HB := Lib.hid hB
  have HO := Lib.hid hO
  have HTa := Lib.hid (HT.out.below hB)
  clear hO hB hwa
  go_wp2_with fail
  refine (CT.out _ HTa.out).mono ?_
  rintro e w1 ⟨rfl, rfl⟩
  go_wp2_with (simp only [hng])
  go_loopw [1, 13] (fun u i wr => fbRel w w.heap.size n u i wr) (fun u _ _ => (RowKit.intOf u).toNat)
  case atStart => exact ⟨0, n, [], rfl, rfl, rfl, by omega, by simp, by omega, HO.out, HB.out⟩
  case round =>
    obtain ⟨k, q, t, rfl, rfl, ht, hq, hx, hk, hO, hB⟩ := hrel
    have HO := Lib.hid hO
    have HB := Lib.hid hB
    have HX := Lib.hid hx
    have hqn : q ≤ n := Nat.le_trans (Nat.le_mul_of_pos_right q (Nat.pow_pos (by decide))) hq
    have HQ := Lib.hid hq
    clear hO hB hx hq
    obtain ⟨j, hj⟩ : ∃ j, 65 - k = j := ⟨_, rfl⟩
    obtain ⟨m, hm⟩ : ∃ m, j = m + 1 := ⟨j - 1, by omega⟩
    have e1 : (j : Int) - 1 = (m : Int) := by omega
    have e2 : IntKind.i64.wrap ((j : Int) - 1) = (m : Int) := by rw [e1, IntKind.wrap_i64]; omega
    have e3 : m < 65 := by omega
    have e4 : (0 : Int) ≤ (m : Int) ∧ (m : Int) < 65 := by omega
    have hm64 : 64 - k = m := by omega
    have v1 := own_cell HO.out m (.int .u8 0) (by rw [← hm64]; exact fb_zero k t (by omega))
    have vf := own_frozen HO.out m
    have lg := lt_of_some (own_blk HO.out).choose_spec
    rw [hj]
    by_cases h16 : 16 ≤ q
    · have d1 : decide ((q : Int) ≥ 16) = true := by simp; omega
      obtain ⟨r, hr⟩ : ∃ r, q % 16 = r := ⟨_, rfl⟩
      have hr16 : r < 16 := by omega
      have hb : bits BinOp.and IntKind.u64 (q : Int) 15 = (r : Int) := by
        rw [show (15 : Int) = ((15 : Nat) : Int) from rfl, bits_and_u64_nat q 15 (by omega) (by omega), ← hr, show (15 : Nat) = 2 ^ 4 - 1 from rfl, Nat.and_two_pow_sub_one_eq_mod]
      have e5 : (0 : Int) ≤ (r : Int) ∧ (r : Int) < 36 := by omega
      have e6 : r < 36 := by omega
      go_wp2_with (simp only [hb])
      go_roundw
      case rel =>
        have hst := (World.ownsRow.stored HO.out m (.int .u8 ((dg r).toNat : Int))).1
        rw [← hm64, bufL_set k t (dg r) (by omega), hm64] at hst
        have hxx := Plain.hexN_ge h16 (by omega)
        rw [hr] at hxx
        have hq := HQ.out
        have hk7 : k + 1 ≤ 7 := by
          have h3 : 16 ^ (k + 1) < 16 ^ 8 := by
            rw [Nat.pow_succ, Nat.mul_comm]
            exact Nat.lt_of_le_of_lt (Nat.le_trans (Nat.mul_le_mul_right _ h16) hq) hn
          have := (Nat.pow_lt_pow_iff_right (by decide : 1 < 16)).1 h3
          omega
        refine ⟨k + 1, q / 16, dg r :: t, ?_, rfl, by simp [ht], ?_, ?_, hk7, ?_, ?_⟩
        · rw [show 65 - (k + 1) = m by omega]
        · rw [Nat.pow_succ, Nat.mul_comm (16 ^ k) 16, ← Nat.mul_assoc]
          exact Nat.le_trans (Nat.mul_le_mul_right _ (Nat.div_mul_le_self q 16)) hq
        · rw [← HX.out, hxx, List.append_assoc]; rfl
        · rw [dgs_at r e6 hr16]; exact hst
        · exact HB.out.setCell (p := ⟨w.heap.size, m, none⟩) (Nat.le_refl _) _
      case measure => simp [RowKit.intOf]; omega
    · have d1 : decide ((q : Int) ≥ 16) = false := by simp; omega
      have e5 : (0 : Int) ≤ (q : Int) ∧ (q : Int) < 36 := by omega
      have e6 : q < 36 := by omega
      have hst := (World.ownsRow.stored HO.out m (.int .u8 ((dg q).toNat : Int))).1
      rw [← hm64, bufL_set k t (dg q) (by omega), hm64] at hst
      rw [show dg q :: t = hexN n by rw [← HX.out, Plain.hexN_lt (by omega)]; rfl] at hst
      have hl : (hexN n).length = k + 1 := by rw [← HX.out, Plain.hexN_lt (by omega)]; simp [ht]
      have hb2 := HB.out.setCell (p := ⟨w.heap.size, m, none⟩) (Nat.le_refl _) (.int .u8 ((dg q).toNat : Int))
      have HST := Lib.hid hst
      have HB2 := Lib.hid hb2
      clear hst hb2
      go_upto_region 25 with fail
      rw [dgs_at q e6 (by omega)]
      obtain ⟨ws, hws⟩ : ∃ x, wr.setCell ⟨w.heap.size, m, none⟩ (.int .u8 ((dg q).toNat : Int)) = x := ⟨_, rfl⟩
      rw [hws] at HST HB2 ⊢
      clear hws v1 vf lg
      obtain ⟨p, hp⟩ : ∃ p, m = p + 1 := ⟨m - 1, by omega⟩
      have f1 : (m : Int) - 1 = (p : Int) := by omega
      have f2 : IntKind.i64.wrap ((m : Int) - 1) = (p : Int) := by rw [f1, IntKind.wrap_i64]; omega
      have f3 : p < 65 := by omega
      have f4 : (0 : Int) ≤ (p : Int) ∧ (p : Int) < 65 := by omega
      have hp64 : 64 - (k + 1) = p := by omega
      have v1 := own_cell HST.out p (.int .u8 0) (by rw [← hp64]; exact fb_zero (k + 1) (hexN n) (by omega))
      have vf := own_frozen HST.out p
      have lg := lt_of_some (own_blk HST.out).choose_spec
      have hst := (World.ownsRow.stored HST.out p (.int .u8 45)).1
      have hset := bufL_set (k + 1) (hexN n) 45 (by omega)
      rw [hp64] at hset
      rw [show ((45 : UInt8).toNat : Int) = 45 from rfl] at hset
      rw [hset] at hst
      have e7 : 65 - p = k + 1 + 1 := by omega
      have hcv := fb_conv (m := p) (k + 1 + 1) hst (by rw [List.length_cons, hl]) (by omega)
      have hb3 := HB2.out.setCell (p := ⟨w.heap.size, p, none⟩) (Nat.le_refl _) (.int .u8 45)
      have hsl := fb_slice (ws.setCell ⟨w.heap.size, p, none⟩ (.int .u8 45)) w.heap.size p (by omega)
      rw [e7] at hsl
      have HB3 := Lib.hid hb3
      clear hb3 hst hset
      go_wp2_with (simp only [hsl, hcv])
      go_ret2
      exact ⟨rfl, HB3.out⟩
end Go.Proofs.YtkkgdnmloojloaaDoor
namespace Go.Proofs.YtkkgdnmloojloaaDoor.Plain
/-- a number as it is read, base sixteen -/
def hexZ (n : Int) : List UInt8 := if n < 0 then 45 :: hexN n.natAbs else hexN n.natAbs
end Go.Proofs.YtkkgdnmloojloaaDoor.Plain
namespace Go.Proofs.YtkkgdnmloojloaaDoor
open Go.RowKit Go.Lib
open Plain (dg hexN hexZ)
set_option maxRecDepth 100000 in
set_option maxHeartbeats 2000000 in
theorem fint_any (n : Int) (h0 : -4294967296 < n) (h1 : n < 4294967296) (w : World) (hT : Tz w) :
    Calls Tryd.prog 101 #[.int .i64 n, .int .i64 16] w fun e w' => e = .returned (.string (str (hexZ n))) ∧ Below w.heap.size w w' := by
  unfold hexZ
  by_cases hn : n < 0
  · have d1 : decide (n < 0) = true := by simp [hn]
    obtain ⟨m, rfl⟩ : ∃ m : Nat, n = -(m : Int) := ⟨n.natAbs, by omega⟩
    have d2 : decide (0 < m) = true := by simp; omega
    have hw : IntKind.u64.wrap (-(m : Int)) = 18446744073709551616 - m := by rw [IntKind.wrap_u64]; omega
    have c := fb_neg m (by omega) (by omega) w hT
    rw [if_pos hn, Int.natAbs_neg, Int.natAbs_natCast]
    go_enter Tryd.func101, Tryd.ntmps101
    go_wp2_with (first | simp only [hw] | simp only [d2] | (go_at_call 115; with_reducible refine c.mono ?_; rintro e w' ⟨rfl, hb⟩))
    go_ret
    exact ⟨rfl, by assumption⟩
  · have d1 : decide (n < 0) = false := by simp; omega
    obtain ⟨m, rfl⟩ : ∃ m : Nat, n = (m : Int) := ⟨n.natAbs, by omega⟩
    have hw : IntKind.u64.wrap (m : Int) = m := by rw [IntKind.wrap_u64]; omega
    have c := fb_pos m (by omega) w hT
    rw [if_neg hn, Int.natAbs_natCast]
    go_enter Tryd.func101, Tryd.ntmps101
    go_wp2_with (first | simp only [hw] | (go_at_call 115; with_reducible refine c.mono ?_; rintro e w' ⟨rfl, hb⟩))
    go_ret
    exact ⟨rfl, by assumption⟩
theorem fint2_any (n : Int) (h0 : -4294967296 < n) (h1 : n < 4294967296) (w : World) (hT : Tz w) :
    Calls Tryd.prog 82 #[.int .i64 n, .int .i64 16] w fun e w' => e = .returned (.string (str (hexZ n))) ∧ Below w.heap.size w w' := by
  have c := fint_any n h0 h1 w hT
  go_enter Tryd.func82, Tryd.ntmps82
  go_wp2_with (go_at_call 101; refine c.mono ?_; rintro e w' ⟨rfl, hb⟩)
  go_ret
  exact ⟨rfl, by assumption⟩
theorem hex_any (n : Int) (h0 : -4294967296 < n) (h1 : n < 4294967296) (w : World) (hT : Tz w) :
    Calls Tryd.prog 66 #[.int .i32 n] w fun e w' => e = .returned (.string (str (hexZ n))) ∧ Below w.heap.size w w' := by
  have c := fint2_any n h0 h1 w hT
  have hw : IntKind.i64.wrap n = n := by rw [IntKind.wrap_i64]; omega
  go_enter Tryd.func66, Tryd.ntmps66
  go_wp2_with (first | simp only [hw] | (go_at_call 82; refine c.mono ?_; rintro e w' ⟨rfl, hb⟩))
  go_ret
  exact ⟨rfl, by assumption⟩
end Go.Proofs.YtkkgdnmloojloaaDoor
