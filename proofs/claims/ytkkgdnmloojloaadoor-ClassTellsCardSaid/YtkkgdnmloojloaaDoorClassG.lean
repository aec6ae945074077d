/- Chapter 4: Union, Put, a range by its parts: what the code computes. Conditions: what each lemma says. -/
import Derived.Test.YtkkgdnmloojloaaDoorClassF
import Derived.Test.YtkkgdnmloojloaaDoorShelfJ
import Derived.Deep.RegionHeld3
import Derived.Deep.QuietTactic
import Derived.Deep.Cut
set_option linter.unusedVariables false
set_option linter.unusedSimpArgs false
namespace Go.Proofs.YtkkgdnmloojloaaDoor
open Go.RowKit Go.Lib
open Plain (Rg May mayB In Norm)
def UnionPost (R S : List Rg) (w : World) (en : Ending) (w' : World) : Prop :=
  ∃ (C : List Rg) (A' : Option Addr) (c' : Nat), en = .returned (.slice A' C.length c') ∧ Norm C ∧ (∀ x, In C x ↔ In (R.filter mayB) x ∨ In (S.filter mayB) x) ∧ C.length ≤ R.length + S.length ∧ w'.ownsRow w.heap.size 82 2 (.slice A' C.length c') C.length (rgs C) ∧ Below w.heap.size w w'
set_option maxRecDepth 100000 in
set_option maxHeartbeats 2000000 in
theorem union_any (R S : List Rg) (A B : Option Addr) (n m c d : Nat) (w : World) (hX : Rs w A R) (hY : Rs w B S) (hR : R.length = n) (hS : S.length = m) (hn : n ≤ 10000) (hm : m ≤ 10000) (hA : A = none → c = 0) (hB : B = none → d = 0) :
    Calls Tryd.prog 36 #[.slice A n c, .slice B m d] w (UnionPost R S w) := by
  have hbw : Below w.heap.size w (w.alloc (.cells #[.slice A n c, .slice B m d] 64)) := (Below.refl _ _).alloc (Nat.le_refl _) _
  have cc := concat2_any R S A B n m c d w.heap.size (w.alloc (.cells #[.slice A n c, .slice B m d] 64)) (hX.below hbw) (hY.below hbw) hR hS (by omega) (by omega) hA hB (CellsAt.new _ _ _)
  have CC := Lib.hid cc
  have HBW := Lib.hid hbw
  clear cc hX hY hA hB hbw
  go_enter Tryd.func36, Tryd.ntmps36
  go_wp2_with fail
  refine CC.out.mono ?_
  rintro e w1 ⟨A1, c1, rfl, hO1, hB1⟩
  have hl : (R ++ S).length = n + m := by rw [List.length_append, hR, hS]
  rw [hl] at hO1 ⊢
  have HB1 := Lib.hid (below_then HBW.out hB1)
  have CO := Lib.hid (of_any (R ++ S) A1 (n + m) c1 w1 (Rs.of_own hO1 hl) hl (by omega))
  clear hO1 hB1
  go_wp2_with fail
  refine CO.out.mono ?_
  rintro e w2 ⟨C, A2, c2, rfl, h1, h2, h3, h4, h5⟩
  have HB2 := Lib.hid (below_then HB1.out h5)
  have HO := Lib.hid (own_base h4 HB1.out.size)
  have H1 := Lib.hid h1
  have H2 := Lib.hid h2
  have H3 := Lib.hid h3
  clear h1 h2 h3 h4 h5
  go_wp2_with fail
  go_ret
  refine ⟨C, A2, c2, rfl, H1.out, fun x => ?_, ?_, HO.out, HB2.out⟩
  · rw [H2.out x, List.filter_append, Plain.In_append]
  · have := H3.out; rw [List.length_append] at this; exact this
end Go.Proofs.YtkkgdnmloojloaaDoor
namespace Go.Proofs.YtkkgdnmloojloaaDoor.Plain
def putR (r : Rg) : List UInt8 := if r.2 = r.1 then hexZ r.1 else hexZ r.1 ++ 45 :: hexZ r.2
def cputL (R : List Rg) : List UInt8 := Go.Lib.join (R.map putR) [44]
theorem hexF_len : ∀ f u, (hexF f u).length ≤ f := by
  intro f
  induction f with
  | zero => intro u; simp [hexF]
  | succ f ih =>
    intro u
    unfold hexF
    split
    · simp
    · rw [List.length_append]
      have := ih (u / 16)
      simp; omega
theorem hexZ_len (n : Int) : (hexZ n).length ≤ 17 := by
  unfold hexZ
  have := hexF_len 16 n.natAbs
  split
  · simp [hexN]; omega
  · simp [hexN]; omega
theorem putR_len (r : Rg) : (putR r).length ≤ 35 := by
  unfold putR
  have := hexZ_len r.1
  have := hexZ_len r.2
  split
  · omega
  · simp; omega
theorem lens_le : ∀ (R : List Rg), Go.Lib.lens (R.map putR) ≤ 35 * R.length := by
  intro R
  induction R with
  | nil => simp [Go.Lib.lens]
  | cons r R ih =>
    have := putR_len r
    simp [Go.Lib.lens] at ih ⊢
    omega
theorem cputL_len (R : List Rg) : (cputL R).length ≤ 36 * R.length := by
  unfold cputL
  cases R with
  | nil => simp [Go.Lib.join_nil]
  | cons r R =>
    rw [List.map_cons, Go.Lib.join_length]
    have := lens_le (r :: R)
    rw [List.map_cons] at this
    simp at this ⊢
    omega
end Go.Proofs.YtkkgdnmloojloaaDoor.Plain
namespace Go.Proofs.YtkkgdnmloojloaaDoor
open Go.RowKit Go.Lib
open Plain (Rg putR cputL hexZ)
def strs (R : List Rg) : List Value := R.map fun r => .string (str (putR r))
theorem info9 : (Tryd.prog.info? 9).map (fun i => (i.zero, i.size, i.bytes)) = some (some (.string ⟨#[]⟩), 1, 16) := by kernel_rfl
def CPutRel (w : World) (n : Nat) (R : List Rg) (v i : Value) (wr : World) : Prop :=
  ∃ k : Nat, k ≤ n ∧ i = .int .i64 k ∧ wr.ownsRow w.heap.size 9 1 v k (strs (R.take k)) ∧ Below w.heap.size w wr
def Wide (R : List Rg) : Prop := ∀ r ∈ R, -2147483648 ≤ r.1 ∧ r.1 < 2147483648 ∧ -2147483648 ≤ r.2 ∧ r.2 < 2147483648
set_option maxRecDepth 100000 in
set_option maxHeartbeats 4000000 in
theorem cput_any (R : List Rg) (A : Option Addr) (n c : Nat) (w : World) (hX : Rs w A R) (hR : R.length = n) (hn : n ≤ 100000) (hW : Wide R) (hT : Tz w) :
    Calls Tryd.prog 47 #[.slice A n c] w fun e w' => e = .returned (.string (str (cputL R))) ∧ Below w.heap.size w w' := by
  obtain ⟨i9, hi9, y0, y1, y2⟩ := info_parts info9
  have HX := Lib.hid hX
  have HR := Lib.hid hR
  have HW := Lib.hid hW
  have HT := Lib.hid hT
  clear hX hR hW hT
  go_enter Tryd.func47, Tryd.ntmps47
  go_wp2_with fail
  go_loopw [3, 9] (fun v i wr => CPutRel w n R v i wr) (fun _ i _ => n - (RowKit.intOf i).toNat)
  case atStart => exact ⟨0, Nat.zero_le _, rfl, World.ownsRow_nil _ _ _ _, Below.refl _ _⟩
  case round =>
    obtain ⟨k, hk, rfl, hO, hB⟩ := hrel
    obtain ⟨ua, uc, rfl⟩ := own_slice hO
    have HO := Lib.hid hO
    have HB := Lib.hid hB
    clear hO hB
    by_cases hlt : k < n
    · have hkl : k < R.length := by rw [HR.out]; exact hlt
      obtain ⟨ba, off, rfl, hba, c0, c1⟩ := (HX.out.below HB.out).get k hkl
      obtain ⟨r, hr⟩ : ∃ r, R[k] = r := ⟨_, rfl⟩
      have hwd := HW.out r (by rw [← hr]; exact List.getElem_mem hkl)
      have hnext : strs (R.take (k + 1)) = strs (R.take k) ++ [.string (str (putR r))] := by
        rw [List.take_succ_eq_append_getElem hkl, hr]; unfold strs; rw [List.map_append]; rfl
      rw [hr] at c0 c1
      obtain ⟨lo, hi⟩ := r
      obtain ⟨b1, b2, b3, b4⟩ := hwd
      dsimp only at c0 c1 b1 b2 b3 b4
      have HNX := Lib.hid hnext
      have HLO := Lib.hid (fun (W : World) (h : Tz W) => hex_any lo (by omega) (by omega) W h)
      have HHI := Lib.hid (fun (W : World) (h : Tz W) => hex_any hi (by omega) (by omega) W h)
      clear hr hnext
      go_upto_region 5 with fail
      obtain ⟨wa, hwa⟩ : ∃ x, wr.alloc (.cells #[.int .i32 lo, .int .i32 hi] 82) = x := ⟨_, rfl⟩
      have hba2 : Below wr.heap.size wr wa := by rw [← hwa]; exact (Below.refl _ _).alloc (Nat.le_refl _) _
      have hxa : wa.heap[wr.heap.size]? = some (.cells #[.int .i32 lo, .int .i32 hi] 82 (0, 0)) := by rw [← hwa]; exact heap_alloc_new2 _ _ _ _ rfl
      rw [hwa]
      obtain ⟨x0, x1, x2, x3⟩ := box2 hxa
      have lx := lt_of_some hxa
      have HXA := Lib.hid hxa
      have HBA := Lib.hid (below_then HB.out hba2)
      have HOA := Lib.hid (own_below HO.out hba2)
      clear hwa hba2 hxa c0 c1 hba
      go_wp2_with fail
      refine (HLO.out _ (HT.out.below HBA.out)).mono ?_
      rintro e w2 ⟨rfl, hb⟩
      have hx2 := blk_later HXA.out hb
      have HB2 := Lib.hid (below_then HBA.out hb)
      have HO2 := Lib.hid (own_below HOA.out hb)
      clear x0 x1 x2 x3 lx
      obtain ⟨x0, x1, x2, x3⟩ := box2 hx2
      have lx := lt_of_some hx2
      have HX2 := Lib.hid hx2
      clear hb hx2
      by_cases he : hi = lo
      · subst he
        have hs : Plain.putR (hi, hi) = hexZ hi := if_pos rfl
        rw [hs] at HNX
        go_upto_region 8 with fail
        clear x0 x1 x2 x3 lx
        go_wp2_with (at_builtin; refine wpList_append_own2 _ rfl (.tmp 27) (.tmp 29) _ rfl w.heap.size 9 i9 _ 1 16 Tryd.underlying102 hi9 y0 y1 y2 rfl (by decide) (.slice ua k uc) k (strs (R.take k)) rfl (HO2.out.alloc _) ⟨w2.heap.size, 0, none⟩ 1 1 [.string (str (hexZ hi))] rfl rfl (CellsAt_add (CellsAt.new w2 _ _)) ?c2a ?c3a ?c4a ?c5a ?_)
        case c2a => intro u hu; simp only [List.mem_cons, List.not_mem_nil, or_false] at hu; subst hu; rfl
        case c3a => simp only [maxLen]; omega
        case c4a => omega
        case c5a => have := HB2.out.size; simp; omega
        intro v3 w7 hown2 hg2 hvb
        have hBn : Below w.heap.size w w7 := (HB2.out.alloc HB2.out.size _).grown hg2 (by have := HB2.out.size; simp; omega) (fun g hg => (HO2.out.lt g hg).1)
        have HBn := Lib.hid hBn
        have HO7 := Lib.hid hown2
        clear hBn hg2 hown2 hvb
        go_wp2
        go_roundw
        case rel =>
          refine ⟨k + 1, by omega, by go_num, ?_, HBn.out⟩
          rw [HNX.out]
          exact HO7.out
        case measure => simp [RowKit.intOf]; omega
      · have hne : (hi == lo) = false := beq_eq_false_iff_ne.2 he
        have hs : Plain.putR (lo, hi) = hexZ lo ++ 45 :: hexZ hi := if_neg he
        have hq : str (hexZ lo) ++ (⟨#[45]⟩ ++ str (hexZ hi)) = str (hexZ lo ++ 45 :: hexZ hi) := by
          rw [show (⟨#[45]⟩ : ByteArray) = str [45] from rfl, str_app, str_app]; rfl
        rw [hs] at HNX
        have z1 : (str (hexZ hi)).size ≤ 17 := by rw [str_size]; exact Plain.hexZ_len hi
        have z2 : (str (hexZ lo)).size ≤ 17 := by rw [str_size]; exact Plain.hexZ_len lo
        have z3 : (⟨#[45]⟩ ++ str (hexZ hi) : ByteArray).size ≤ 18 := by rw [ByteArray.size_append]; show 1 + _ ≤ 18; omega
        have g1 : ¬ (9223372036854775807 < 1 + (str (hexZ hi)).size) := by omega
        have g2 : ¬ (9223372036854775807 < (str (hexZ lo)).size + (⟨#[45]⟩ ++ str (hexZ hi) : ByteArray).size) := by omega
        have g3 : ¬ (9223372036854775807 < (str (hexZ lo)).size + (1 + (str (hexZ hi)).size)) := by omega
        go_upto_region 8 with fail
        refine (HHI.out _ (HT.out.below HB2.out)).mono ?_
        rintro e w3 ⟨rfl, hb⟩
        have HB3 := Lib.hid (below_then HB2.out hb)
        have HO3 := Lib.hid (own_below HO2.out hb)
        clear x0 x1 x2 x3 lx hb
        go_upto_region 8 with fail
        go_wp2_with (at_builtin; refine wpList_append_own2 _ rfl (.tmp 27) (.tmp 29) _ rfl w.heap.size 9 i9 _ 1 16 Tryd.underlying102 hi9 y0 y1 y2 rfl (by decide) (.slice ua k uc) k (strs (R.take k)) rfl (HO3.out.alloc _) ⟨w3.heap.size, 0, none⟩ 1 1 [.string (str (hexZ lo ++ 45 :: hexZ hi))] rfl rfl (CellsAt_add (CellsAt.new w3 _ _)) ?c2b ?c3b ?c4b ?c5b ?_)
        case c2b => intro u hu; simp only [List.mem_cons, List.not_mem_nil, or_false] at hu; subst hu; rfl
        case c3b => simp only [maxLen]; omega
        case c4b => omega
        case c5b => have := HB3.out.size; simp; omega
        intro v3 w7 hown2 hg2 hvb
        have hBn : Below w.heap.size w w7 := (HB3.out.alloc HB3.out.size _).grown hg2 (by have := HB3.out.size; simp; omega) (fun g hg => (HO3.out.lt g hg).1)
        have HBn := Lib.hid hBn
        have HO7 := Lib.hid hown2
        clear hBn hg2 hown2 hvb
        go_wp2
        go_roundw
        case rel =>
          refine ⟨k + 1, by omega, by go_num, ?_, HBn.out⟩
          rw [HNX.out]
          exact HO7.out
        case measure => simp [RowKit.intOf]; omega
    · obtain rfl : n = k := by omega
      have hT : R.take n = R := List.take_of_length_le (by rw [HR.out]; exact Nat.le_refl _)
      have hO := HO.out
      rw [hT] at hO
      clear hT
      rcases Nat.eq_zero_or_pos n with h0 | h0
      · subst h0
        have hnil : R = [] := List.eq_nil_of_length_eq_zero HR.out
        have cJ := fun (W : World) => Tryd.strings_Join_none ua uc ⟨#[44]⟩ W
        have CJ := Lib.hid cJ
        clear hO cJ
        go_wp2_with (go_at_call 67; refine (CJ.out _).mono ?_; rintro e w' ⟨rfl, rfl⟩)
        go_ret
        refine ⟨?_, HB.out⟩
        rw [hnil]; rfl
      · obtain ⟨g, cap, hv, hnc, hbg, hcl⟩ := own_at hO h0
        injection hv with hv1 hv2 hv3
        subst hv1 hv3
        clear hv2
        have hxl : (R.map fun r => str (putR r)).length = n := by rw [List.length_map]; exact HR.out
        have hjoin : (Lib.join ((R.map fun r => str (putR r)).map (·.data.toList)) (⟨#[44]⟩ : ByteArray).data.toList) = cputL R := by
          unfold cputL; rw [List.map_map]; rfl
        have cJ := fun (W : World) (hc : CellsAt W g (strs R)) => Tryd.strings_Join g 0 uc (R.map fun r => str (putR r)) ⟨#[44]⟩ W
          (fun j x hj => by rw [Nat.zero_add]; exact hc.2 j _ (by unfold strs; rw [List.getElem?_map] at hj ⊢; obtain ⟨r, h1, h2⟩ := Option.map_eq_some_iff.1 hj; rw [h1, ← h2]; rfl))
          hc.1 (by rw [hxl]; omega) (by rw [hxl]; exact hnc) (by rw [hjoin]; have := Plain.cputL_len R; rw [HR.out] at this; omega)
        rw [hxl, hjoin] at cJ
        have CJ := Lib.hid cJ
        have HCL := Lib.hid hcl
        clear hO cJ hcl hjoin hxl
        go_wp2_with fail
        refine (CJ.out _ HCL.out).mono ?_
        rintro e w' ⟨rfl, hb⟩
        have HB9 := Lib.hid (below_then HB.out hb)
        clear hb
        go_wp2_with fail
        go_ret
        exact ⟨rfl, HB9.out⟩
end Go.Proofs.YtkkgdnmloojloaaDoor
namespace Go.Proofs.YtkkgdnmloojloaaDoor.Plain
/-- a range by its parts: one of few, or as it is -/
structure Rn where
  lo : Int
  hi : Int
  own : Bool
  l : Int
  n : Int
def runOf (x : Rn) : Rg := if x.own then (if 240 ≤ x.l then (1114111 - (x.l - 240), 1114111 - (x.l - 240) + x.n % 5) else (97 + x.l % 26, 97 + x.l % 26 + x.n % 5)) else (x.lo, x.hi)
end Go.Proofs.YtkkgdnmloojloaaDoor.Plain
namespace Go.Proofs.YtkkgdnmloojloaaDoor
open Go.RowKit Go.Lib
open Plain (Rg Rn runOf)
def rnc (x : Rn) : List Value := [.int .i32 x.lo, .int .i32 x.hi, .bool x.own, .int .u8 x.l, .int .u8 x.n]
def RnOk (x : Rn) : Prop := -2147483648 ≤ x.lo ∧ x.lo < 2147483648 ∧ -2147483648 ≤ x.hi ∧ x.hi < 2147483648 ∧ 0 ≤ x.l ∧ x.l < 256 ∧ 0 ≤ x.n ∧ x.n < 256
set_option maxRecDepth 100000 in
set_option maxHeartbeats 2000000 in
theorem run_any (x : Rn) (hx : RnOk x) (w : World) : Calls Tryd.prog 52 #[.agg #[.int .i32 x.lo, .int .i32 x.hi, .bool x.own, .int .u8 x.l, .int .u8 x.n]] w fun e w' => e = .returned (.agg #[.int .i32 (runOf x).1, .int .i32 (runOf x).2]) ∧ Below w.heap.size w w' := by
  obtain ⟨lo, hi, own, l, n⟩ := x
  obtain ⟨a1, a2, a3, a4, a5, a6, a7, a8⟩ := hx
  unfold runOf
  dsimp only at *
  cases own
  · go_enter Tryd.func52, Tryd.ntmps52
    go_wp2_with fail
    have hb : ((w.alloc (.cells #[.int .i32 lo, .int .i32 hi, .bool false, .int .u8 l, .int .u8 n] 89)).alloc (.cells #[.int .i32 lo, .int .i32 hi] 82)).heap[w.heap.size + 1]? = some (.cells #[.int .i32 lo, .int .i32 hi] 82 (0, 0)) := heap_alloc_new2 _ _ _ _ (by simp)
    obtain ⟨m0, m1, _, _⟩ := box2 hb
    exact bodyPost_ret (v := .agg #[.int .i32 lo, .int .i32 hi]) (by simp [results, Tryd.results52, go_sem, m0, m1]) rfl ⟨rfl, ((Below.refl _ _).alloc (Nat.le_refl _) _).alloc (by simp) _⟩
  · by_cases h : 240 ≤ l
    · rw [if_pos rfl, if_pos h]
      have d1 : decide (l ≥ 240) = true := by simp [h]
      have e0 : Int.tmod n 5 = n % 5 := Int.tmod_eq_emod_of_nonneg a7
      have e1 : IntKind.u8.wrap (l - 240) = l - 240 := by simp [IntKind.wrap, IntKind.signed, IntKind.bits]; omega
      have e2 : IntKind.i32.wrap (l - 240) = l - 240 := by rw [IntKind.wrap_i32]; omega
      have e3 : IntKind.i32.wrap (1114111 - (l - 240)) = 1114111 - (l - 240) := by rw [IntKind.wrap_i32]; omega
      have e4 : IntKind.i32.wrap (n % 5) = n % 5 := by rw [IntKind.wrap_i32]; omega
      have e5 : IntKind.i32.wrap (1114111 - (l - 240) + n % 5) = 1114111 - (l - 240) + n % 5 := by rw [IntKind.wrap_i32]; omega
      go_enter Tryd.func52, Tryd.ntmps52
      go_wp2_with fail
      have hb : ((w.alloc (.cells #[.int .i32 lo, .int .i32 hi, .bool true, .int .u8 l, .int .u8 n] 89)).alloc (.cells #[.int .i32 (1114111 - (l - 240)), .int .i32 (1114111 - (l - 240) + n % 5)] 82)).heap[w.heap.size + 1]? = some (.cells #[.int .i32 (1114111 - (l - 240)), .int .i32 (1114111 - (l - 240) + n % 5)] 82 (0, 0)) := heap_alloc_new2 _ _ _ _ (by simp)
      obtain ⟨m0, m1, _, _⟩ := box2 hb
      exact bodyPost_ret (v := .agg #[.int .i32 (1114111 - (l - 240)), .int .i32 (1114111 - (l - 240) + n % 5)]) (by simp [results, Tryd.results52, go_sem, m0, m1]) rfl ⟨rfl, ((Below.refl _ _).alloc (Nat.le_refl _) _).alloc (by simp) _⟩
    · rw [if_pos rfl, if_neg h]
      have d1 : decide (l ≥ 240) = false := by simp; omega
      have e0 : Int.tmod n 5 = n % 5 := Int.tmod_eq_emod_of_nonneg a7
      have e1 : Int.tmod l 26 = l % 26 := Int.tmod_eq_emod_of_nonneg a5
      have e2 : IntKind.i32.wrap (l % 26) = l % 26 := by rw [IntKind.wrap_i32]; omega
      have e3 : IntKind.i32.wrap (97 + l % 26) = 97 + l % 26 := by rw [IntKind.wrap_i32]; omega
      have e4 : IntKind.i32.wrap (n % 5) = n % 5 := by rw [IntKind.wrap_i32]; omega
      have e5 : IntKind.i32.wrap (97 + l % 26 + n % 5) = 97 + l % 26 + n % 5 := by rw [IntKind.wrap_i32]; omega
      go_enter Tryd.func52, Tryd.ntmps52
      go_wp2_with fail
      have hb : ((w.alloc (.cells #[.int .i32 lo, .int .i32 hi, .bool true, .int .u8 l, .int .u8 n] 89)).alloc (.cells #[.int .i32 (97 + l % 26), .int .i32 (97 + l % 26 + n % 5)] 82)).heap[w.heap.size + 1]? = some (.cells #[.int .i32 (97 + l % 26), .int .i32 (97 + l % 26 + n % 5)] 82 (0, 0)) := heap_alloc_new2 _ _ _ _ (by simp)
      obtain ⟨m0, m1, _, _⟩ := box2 hb
      exact bodyPost_ret (v := .agg #[.int .i32 (97 + l % 26), .int .i32 (97 + l % 26 + n % 5)]) (by simp [results, Tryd.results52, go_sem, m0, m1]) rfl ⟨rfl, ((Below.refl _ _).alloc (Nat.le_refl _) _).alloc (by simp) _⟩
end Go.Proofs.YtkkgdnmloojloaaDoor
namespace Go.Proofs.YtkkgdnmloojloaaDoor
open Go.RowKit Go.Lib
open Plain (Rg Rn runOf)
/-- parts of ranges that lie somewhere -/
def Rns (w : World) (A : Option Addr) (X : List Rn) : Prop :=
  0 < X.length → ∃ b off, A = some ⟨b, off, none⟩ ∧ b < w.heap.size ∧ ∀ i (x : Rn), X[i]? = some x → ∀ j u, (rnc x)[j]? = some u → w.cell? ⟨b, off + i * 5 + j, none⟩ = some u
theorem Rns.below {w w' : World} {A : Option Addr} {X : List Rn} (h : Rns w A X) (hb : Below w.heap.size w w') : Rns w' A X := fun hn => by
  obtain ⟨b, off, e, hl, hc⟩ := h hn
  exact ⟨b, off, e, Nat.lt_of_lt_of_le hl hb.size, fun i r hi j u hu => (hb.cell (p := ⟨b, off + i * 5 + j, none⟩) hl).trans (hc i r hi j u hu)⟩
theorem Rns.get {w : World} {A : Option Addr} {X : List Rn} (h : Rns w A X) (k : Nat) (hk : k < X.length) : ∃ b off, A = some ⟨b, off, none⟩ ∧ b < w.heap.size ∧ ∀ j u, (rnc X[k])[j]? = some u → w.cell? ⟨b, off + k * 5 + j, none⟩ = some u := by
  obtain ⟨b, off, e, hl, hc⟩ := h (by omega)
  exact ⟨b, off, e, hl, hc k _ (List.getElem?_eq_getElem hk)⟩
def runsOf (X : List Rn) (m : Nat) : List Rg := (X.take m).map runOf
def RunsRel (w : World) (n m : Nat) (X : List Rn) (v i : Value) (wr : World) : Prop :=
  ∃ k : Nat, k ≤ n ∧ k ≤ m ∧ i = .int .i64 k ∧ wr.ownsRow w.heap.size 82 2 v k (rgs (runsOf X k)) ∧ Below w.heap.size w wr
set_option maxRecDepth 100000 in
set_option maxHeartbeats 4000000 in
theorem runs_any (X : List Rn) (A : Option Addr) (n c m : Nat) (w : World) (hX : Rns w A X) (hR : X.length = n) (hm : m ≤ 1000) (hn : n ≤ maxLen) (hok : ∀ x ∈ X, RnOk x) :
    Calls Tryd.prog 31 #[.slice A n c, .int .i64 m] w (OwnPost w.heap.size 82 (runsOf X m) w) := by
  unfold maxLen at hn
  obtain ⟨i82, hi82, y0, y1, y2⟩ := info_parts info82
  have HX := Lib.hid hX
  have HR := Lib.hid hR
  have HOK := Lib.hid hok
  clear hX hR hok
  go_enter Tryd.func31, Tryd.ntmps31
  go_wp2_with fail
  go_loopw [5, 6] (fun v i wr => RunsRel w n m X v i wr) (fun _ i _ => m - (RowKit.intOf i).toNat)
  case atStart => exact ⟨0, Nat.zero_le _, Nat.zero_le _, rfl, World.ownsRow_nil _ _ _ _, Below.refl _ _⟩
  case round =>
    obtain ⟨k, hk, hkm, rfl, hO, hB⟩ := hrel
    obtain ⟨ua, uc, rfl⟩ := own_slice hO
    have HO := Lib.hid hO
    have HB := Lib.hid hB
    clear hO hB
    by_cases hlt : k < n
    · have d1 : decide (k < n) = true := by simp [hlt]
      by_cases hlm : k < m
      · have d2 : decide (k < m) = true := by simp [hlm]
        have hkl : k < X.length := by rw [HR.out]; exact hlt
        obtain ⟨ba, off, rfl, hba, hc⟩ := (HX.out.below HB.out).get k hkl
        obtain ⟨x, hx⟩ : ∃ x, X[k] = x := ⟨_, rfl⟩
        have hox := HOK.out x (by rw [← hx]; exact List.getElem_mem hkl)
        have hnext : rgs (runsOf X (k + 1)) = rgs (runsOf X k) ++ [.int .i32 (runOf x).1, .int .i32 (runOf x).2] := by
          unfold runsOf
          rw [List.take_succ_eq_append_getElem hkl, hx, List.map_append, rgs_append]; rfl
        rw [hx] at hc
        have CR := Lib.hid (fun (W : World) => run_any x hox W)
        have c0 : wr.cell? ⟨ba, off + k * 5, none⟩ = some (.int .i32 x.lo) := hc 0 _ rfl
        have c1 : wr.cell? ⟨ba, off + k * 5 + 1, none⟩ = some (.int .i32 x.hi) := hc 1 _ rfl
        have c2 : wr.cell? ⟨ba, off + k * 5 + 2, none⟩ = some (.bool x.own) := hc 2 _ rfl
        have c3 : wr.cell? ⟨ba, off + k * 5 + 3, none⟩ = some (.int .u8 x.l) := hc 3 _ rfl
        have c4 : wr.cell? ⟨ba, off + k * 5 + 4, none⟩ = some (.int .u8 x.n) := hc 4 _ rfl
        obtain ⟨ra, hra⟩ : ∃ z, (runOf x).1 = z := ⟨_, rfl⟩
        obtain ⟨rb, hrb⟩ : ∃ z, (runOf x).2 = z := ⟨_, rfl⟩
        rw [hra, hrb] at CR hnext
        have HNX := Lib.hid hnext
        clear hc hnext hx hra hrb hox
        go_wp2_with fail
        refine (CR.out _).mono ?_
        rintro e w2 ⟨rfl, hb⟩
        have HB2 := Lib.hid (below_then HB.out hb)
        have HO2 := Lib.hid (own_below HO.out hb)
        clear c0 c1 c2 c3 c4 hb hba
        go_wp2_with (at_builtin; refine wpList_append_own2 _ rfl (.tmp 18) (.tmp 24) _ rfl w.heap.size 82 i82 _ 2 8 Tryd.underlying59 hi82 y0 y1 y2 rfl (by decide) (.slice ua k uc) k (rgs (runsOf X k)) rfl (HO2.out.alloc _) ⟨w2.heap.size, 0, none⟩ 1 1 [.int .i32 ra, .int .i32 rb] rfl rfl (CellsAt_add (CellsAt.new w2 _ _)) ?c2 ?c3 ?c4 ?c5 ?_)
        case c2 => first | exact ⟨rfl, rfl⟩ | (intro u hu; simp only [List.mem_cons, List.not_mem_nil, or_false] at hu; rcases hu with rfl | rfl <;> rfl)
        case c3 => simp only [maxLen]; omega
        case c4 => omega
        case c5 => have := HB2.out.size; simp; omega
        intro v3 w7 hown2 hg2 hvb
        have hBn : Below w.heap.size w w7 := (HB2.out.alloc HB2.out.size _).grown hg2 (by have := HB2.out.size; simp; omega) (fun g hg => (HO2.out.lt g hg).1)
        have HBn := Lib.hid hBn
        have HO7 := Lib.hid hown2
        clear hBn hg2 hown2 hvb
        go_wp2
        go_roundw
        case rel =>
          refine ⟨k + 1, by omega, by omega, by go_num, ?_, HBn.out⟩
          rw [HNX.out]
          exact HO7.out
        case measure => simp [RowKit.intOf]; omega
      · have d2 : decide (k < m) = false := by simp; omega
        obtain rfl : k = m := by omega
        go_wp2
        go_ret
        have hl : (runsOf X k).length = k := by unfold runsOf; rw [List.length_map, List.length_take, HR.out]; omega
        refine ⟨ua, uc, ?_, ?_, HB.out⟩
        · rw [hl]; rfl
        · rw [hl]; exact HO.out
    · have d1 : decide (k < n) = false := by simp; omega
      obtain rfl : k = n := by omega
      have he : runsOf X m = runsOf X k := by unfold runsOf; rw [List.take_of_length_le (by rw [HR.out]; omega), List.take_of_length_le (by rw [HR.out]; exact Nat.le_refl _)]
      have HE := Lib.hid he
      clear he
      go_wp2
      go_ret
      have hl : (runsOf X k).length = k := by unfold runsOf; rw [List.length_map, List.length_take, HR.out]; omega
      rw [HE.out]
      refine ⟨ua, uc, ?_, ?_, HB.out⟩
      · rw [hl]; rfl
      · rw [hl]; exact HO.out
end Go.Proofs.YtkkgdnmloojloaaDoor
