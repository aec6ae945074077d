/- The walk of RunesBack: it returns true for all numbers. Conditions: the two tables of the library lie as laid. -/
import Derived.Test.YtjkialgdaikijaaDoorWalksE
import Derived.WalkKit
import Derived.WalkLawsBesides
import Derived.WalkSpells
import Derived.Deep.QuietTactic
import Derived.BigQuiet
import Derived.OwnWalk
namespace Go.Proofs.YtjkialgdaikijaaDoor
open Go.RowKit Go.Lib
/-- a slice of 32-bit numbers that came in: what its first n cells hold -/
def Wds (w : World) (A : Option Addr) (n : Nat) (X : Nat → Int) : Prop :=
  (0 < n → ∃ b off, A = some ⟨b, off, none⟩ ∧ b < w.heap.size ∧ ∀ i, i < n → w.cell? ⟨b, off + i, none⟩ = some (.int .u32 (X i))) ∧ ∀ i, i < n → 0 ≤ X i ∧ X i < 4294967296
theorem Wds.below {w w' : World} {A : Option Addr} {n : Nat} {X : Nat → Int} (h : Wds w A n X) (hb : Below w.heap.size w w') : Wds w' A n X :=
  ⟨fun hn => by
    obtain ⟨b, off, e, hl, hc⟩ := h.1 hn
    exact ⟨b, off, e, Nat.lt_of_lt_of_le hl hb.size, fun i hi => (hb.cell (p := ⟨b, off + i, none⟩) hl).trans (hc i hi)⟩, h.2⟩
/-- the rune of a number -/
def rn (x : Int) : Int := if x % 3 = 0 then x % 1114112 % 300 else x % 1114112
def rs (X : Nat → Int) (k : Nat) : List Int := (List.range k).map fun i => rn (X i)
def bs (X : Nat → Int) : Nat → ByteArray
  | 0 => ⟨#[]⟩
  | k + 1 => bs X k ++ Utf8.encode (rn (X k))
theorem rs_succ (X : Nat → Int) (k : Nat) : rs X (k + 1) = rs X k ++ [rn (X k)] := by simp [rs, List.range_succ]
theorem bs_list (X : Nat → Int) (k : Nat) : (bs X k).data.toList = (rs X k).flatMap encodeRune := by
  induction k with
  | zero => rfl
  | succ k ih => rw [rs_succ, List.flatMap_append, ← ih, bs, ByteArray.data_append, Array.toList_append, encode_list]; simp
theorem enc_le (r : Int) : (Utf8.encode r).size ≤ 4 := by rw [size_eq, encode_list]; rw [← runeCells_length]; exact (runeCells_le r).2
theorem bs_le (X : Nat → Int) (k : Nat) : (bs X k).size ≤ 4 * k := by
  induction k with
  | zero => exact Nat.le_refl _
  | succ k ih => rw [bs, ByteArray.size_append]; have := enc_le (rn (X k)); omega
theorem info21 : (Tryd.prog.info? 21).map (fun i => (i.zero, i.size, i.bytes)) = some (some (.int .i32 0), 1, 4) := by kernel_rfl
def wcells (L : List Int) : List Value := L.map fun r => .int .i32 (Plain.fixR r)
theorem fix_len (r : Int) : (encodeRune r).length = (encodeRune (Plain.fixR r)).length := by
  unfold Plain.fixR
  split
  · rw [Int.toNat_of_nonneg (by omega)]
  · rw [show encodeRune r = [239, 191, 189] from by unfold encodeRune; rw [encodeRuneZ_bad (by omega)]; decide]
    decide +kernel
theorem fix_valid (r : Int) (h : Lib.validRune r = true) : (Plain.fixR r : Int) = r := by
  unfold Lib.validRune at h
  simp at h
  unfold Plain.fixR
  rw [if_pos (by omega)]; omega
theorem fix_bad (r : Int) (h : Lib.validRune r = false) : (Plain.fixR r : Int) = 65533 := by
  unfold Lib.validRune at h
  simp at h
  unfold Plain.fixR
  rw [if_neg (by omega)]; rfl
/-- what holds at the head of a round of the first loop -/
def BackRel (w : World) (X : Nat → Int) (wr : World) (v : Value) (k : Nat) : Prop :=
  wr.ownsRow w.heap.size 21 1 v k (wcells (rs X k)) ∧ Below w.heap.size w wr
theorem BackRel.step {w wr w2 : World} {X : Nat → Int} {v v' : Value} {k : Nat} {o : Obj} (h : BackRel w X wr v k) {f : Int} (hf : (Plain.fixR (rn (X k)) : Int) = f)
    (hown : w2.ownsRow w.heap.size 21 1 v' (k + 1) (wcells (rs X k) ++ [.int .i32 f])) (hg : (wr.alloc o).grownBy w2 v.ownBlock) : BackRel w X w2 v' (k + 1) := by
  refine ⟨?_, (h.2.alloc h.2.size o).grown hg (by simp; have := h.2.size; omega) (fun g hg' => (h.1.lt g hg').1)⟩
  rw [rs_succ, wcells, List.map_append, ← wcells, List.map_singleton, hf]
  exact hown
/-- what is told of a slice of bytes that came in gives what the walk asks -/
theorem wds_of (a : Option Addr) (len cap : Nat) (zs : List Int) (w : World) (h : (a = none ∧ len = 0 ∧ cap = 0 ∧ zs = []) ∨
    ∃ x, a = some x ∧ len ≤ cap ∧ cap ≤ maxLen ∧ zs.length = cap ∧ (∀ i, i < zs.length → w.cell? (x.add i) = some (.int .u32 (zs.getD i 0))) ∧ ∀ n ∈ zs, (Lit.int .u32 n).wf = true) :
    Wds w a len (fun i => zs.getD i 0) ∧ len ≤ maxLen := by
  rcases h with ⟨rfl, rfl, rfl, rfl⟩ | ⟨x, rfl, hl, hm, hz, hcell, hwz⟩
  · exact ⟨⟨fun h => absurd h (by omega), fun i h => absurd h (by omega)⟩, Nat.zero_le _⟩
  · refine ⟨⟨fun hn => ?_, fun i hi => ?_⟩, Nat.le_trans hl hm⟩
    · obtain ⟨b, off, spot⟩ := x
      have hc := hcell 0 (by omega)
      have hspot : spot = none := by simpa [Addr.add] using World.cell?_spot hc
      subst hspot
      have hadd : ∀ i, (⟨b, off, none⟩ : Addr).add i = ⟨b, off + i, none⟩ := fun i => by unfold Addr.add; split <;> simp_all
      refine ⟨b, off, rfl, ?_, fun i hi => by rw [← hadd]; exact hcell i (by omega)⟩
      have := block_lt_of_cell hc
      simpa [Addr.add] using this
    · have e : zs.getD i 0 = zs[i]'(by omega) := by simp [List.getD, List.getElem?_eq_getElem (show i < zs.length by omega)]
      have := hwz _ (List.getElem_mem (show i < zs.length by omega))
      simp only [e]
      simp [Lit.wf, IntKind.min, IntKind.max, IntKind.bits, IntKind.signed] at this
      omega
set_option maxRecDepth 1000000 in
set_option maxHeartbeats 1000000 in
theorem back_walk (A : Option Addr) (n cap : Nat) (X : Nat → Int) (w : World) (hX : Wds w A n X) (hn : n ≤ maxLen) (hT : Tabs w) :
    Calls Tryd.prog 5 #[.slice A n cap] w fun e w' => e = .returned (.bool true) ∧ Below w.heap.size w w' := by
  unfold maxLen at hn
  have HX := Lib.hid hX
  clear hX
  obtain ⟨i0, hi, hz0, hz1, hz2⟩ := info_parts info21
  go_enter Tryd.func5, Tryd.ntmps5
  go_wp2_with fail
  refine (examples_any _ hT).mono ?_
  rintro e w1 ⟨rfl, hb1⟩
  have hT1 := hT.below hb1
  have HX1 := Lib.hid (HX.out.below hb1)
  clear HX
  go_wp2_with fail
  go_loopw [4, 5, 6, 7] (fun s v i _ wr => ∃ u k, u = v ∧ k ≤ min n 20 ∧ i = .int .i64 (k : Nat) ∧ s = .string (bs X k) ∧ BackRel w1 X wr u k) (fun _ _ i _ _ => 20 - (RowKit.intOf i).toNat)
  case atStart => exact ⟨_, 0, rfl, Nat.zero_le _, rfl, rfl, ⟨by simp [rs, wcells], .inl ⟨rfl, rfl⟩⟩, Below.refl _ _⟩
  case round =>
    obtain ⟨v, k, rfl, hk, rfl, rfl, hR⟩ := hrel
    by_cases hlt2 : k < n ∧ k < 20
    · obtain ⟨hlt, h20⟩ := hlt2
      · obtain ⟨b, off, rfl, _, hc⟩ := (HX1.out.below hR.2).1 (by omega)
        have hck := hc k hlt
        obtain ⟨x0, x1⟩ := HX1.out.2 k hlt
        have hbl := bs_le X k
        have hel := enc_le (rn (X k))
        have hbs : bs X (k + 1) = bs X k ++ Utf8.encode (rn (X k)) := rfl
        have hst := fun (w2 : World) (v' : Value) (o : Obj) (f : Int) => hR.step (w2 := w2) (v' := v') (o := o) (f := f)
        have hown := hR.1
        have hsz := hR.2.size
        have hfv := fix_valid (rn (X k))
        have hfb := fix_bad (rn (X k))
        have hrn : rn (X k) = if X k % 3 = 0 then X k % 1114112 % 300 else X k % 1114112 := rfl
        generalize X k = x at *
        generalize hrr : rn x = r at *
        have HBS := Lib.hid hbs
        have HST := Lib.hid hst
        have HFV := Lib.hid hfv
        have HFB := Lib.hid hfb
        have HRR := Lib.hid hrr
        have HR := Lib.hid hR
        clear hbs hst hfv hfb hc hrr hR
        have hthree : (x % 3 = 0 ∧ r = x % 1114112 % 300 ∧ Lib.validRune r = true) ∨ (¬ x % 3 = 0 ∧ r = x % 1114112 ∧ Lib.validRune r = true) ∨ (¬ x % 3 = 0 ∧ r = x % 1114112 ∧ Lib.validRune r = false) := by
          by_cases h3 : x % 3 = 0
          · rw [if_pos h3] at hrn
            refine .inl ⟨h3, hrn, ?_⟩
            unfold Lib.validRune; simp; omega
          · rw [if_neg h3] at hrn
            cases h : Lib.validRune r
            · exact .inr (.inr ⟨h3, hrn, rfl⟩)
            · exact .inr (.inl ⟨h3, hrn, rfl⟩)
        clear hrn
        rcases hthree with ⟨h3, hr, hv⟩ | ⟨h3, hr, hv⟩ | ⟨h3, hr, hv⟩
        · have h3b : (x % 3 == 0) = true := by simp [h3]
          have hr' := hr.symm
          clear h3 hr
          go_wp2_with (first | (go_at_call 22; refine (put_any _ _).mono ?_; rintro e w' ⟨rfl, rfl⟩) | (go_at_call 20; refine (right_any _ _).mono ?_; rintro e w' ⟨rfl, rfl⟩) | (at_builtin; refine wpList_append_own _ rfl (.tmp 44) (.tmp 46) _ rfl w1.heap.size 21 i0 _ 1 4 Tryd.underlying42 hi hz0 hz1 hz2 rfl (by decide) v k (wcells (rs X k)) rfl (hown.alloc _) ⟨wr.heap.size, 0, none⟩ 1 1 [.int .i32 r] rfl rfl ?c1 ?c2 ?c3 ?c4 ?c5 ?_))
          case c1 => exact cells_new wr _ _
          case c2 => intro u hu; simp only [List.mem_cons, List.not_mem_nil, or_false] at hu; subst hu; rfl
          case c3 => simp only [maxLen]; omega
          case c4 => omega
          case c5 => simp; omega
          intro v2 w2 hown2 hg2 _
          have hS := HST.out w2 v2 _ r (HFV.out hv) hown2 hg2
          have HS := Lib.hid hS
          clear hS hown2 hg2
          go_wp2
          go_roundw
          case rel => exact ⟨v2, k + 1, rfl, by omega, by go_num, by rw [HBS.out], HS.out⟩
          case measure => simp [RowKit.intOf]; omega
        · have h3b : (x % 3 == 0) = false := by simp [h3]
          have hr' := hr.symm
          clear h3 hr
          go_wp2_with (first | (go_at_call 22; refine (put_any _ _).mono ?_; rintro e w' ⟨rfl, rfl⟩) | (go_at_call 20; refine (right_any _ _).mono ?_; rintro e w' ⟨rfl, rfl⟩) | (at_builtin; refine wpList_append_own _ rfl (.tmp 44) (.tmp 46) _ rfl w1.heap.size 21 i0 _ 1 4 Tryd.underlying42 hi hz0 hz1 hz2 rfl (by decide) v k (wcells (rs X k)) rfl (hown.alloc _) ⟨wr.heap.size, 0, none⟩ 1 1 [.int .i32 r] rfl rfl ?c1 ?c2 ?c3 ?c4 ?c5 ?_))
          case c1 => exact cells_new wr _ _
          case c2 => intro u hu; simp only [List.mem_cons, List.not_mem_nil, or_false] at hu; subst hu; rfl
          case c3 => simp only [maxLen]; omega
          case c4 => omega
          case c5 => simp; omega
          intro v2 w2 hown2 hg2 _
          have hS := HST.out w2 v2 _ r (HFV.out hv) hown2 hg2
          have HS := Lib.hid hS
          clear hS hown2 hg2
          go_wp2
          go_roundw
          case rel => exact ⟨v2, k + 1, rfl, by omega, by go_num, by rw [HBS.out], HS.out⟩
          case measure => simp [RowKit.intOf]; omega
        · have h3b : (x % 3 == 0) = false := by simp [h3]
          have hr' := hr.symm
          clear h3 hr
          go_wp2_with (first | (go_at_call 22; refine (put_any _ _).mono ?_; rintro e w' ⟨rfl, rfl⟩) | (go_at_call 20; refine (right_any _ _).mono ?_; rintro e w' ⟨rfl, rfl⟩) | (at_builtin; refine wpList_append_own _ rfl (.tmp 44) (.tmp 46) _ rfl w1.heap.size 21 i0 _ 1 4 Tryd.underlying42 hi hz0 hz1 hz2 rfl (by decide) v k (wcells (rs X k)) rfl (hown.alloc _) ⟨wr.heap.size, 0, none⟩ 1 1 [.int .i32 65533] rfl rfl ?c1 ?c2 ?c3 ?c4 ?c5 ?_))
          case c1 => exact cells_new wr _ _
          case c2 => intro u hu; simp only [List.mem_cons, List.not_mem_nil, or_false] at hu; subst hu; rfl
          case c3 => simp only [maxLen]; omega
          case c4 => omega
          case c5 => simp; omega
          intro v2 w2 hown2 hg2 _
          have hS := HST.out w2 v2 _ 65533 (HFB.out hv) hown2 hg2
          have HS := Lib.hid hS
          clear hS hown2 hg2
          go_wp2
          go_roundw
          case rel => exact ⟨v2, k + 1, rfl, by omega, by go_num, by rw [HBS.out], HS.out⟩
          case measure => simp [RowKit.intOf]; omega
    · have hex : (¬ k < n) ∨ (k < n ∧ ¬ k < 20) := by omega
      have hk20 : k ≤ 20 := by omega
      have hbl := bs_le X k
      have hT3 := hT1.below hR.2
      have hBw := hb1.trans (hR.2.mono hb1.size)
      obtain ⟨a5, c5, rfl, h5⟩ := own_form hR.1
      have H5 := Lib.hid h5
      clear h5 hR hlt2
      rcases hex with h | ⟨h, h2⟩
      all_goals
        go_wp2_with fail
        refine (all_walk _ _ (by omega) hT3).mono ?_
        rintro e w3 ⟨v8, rfl, hown8, hb3⟩
        have hps := Plain.all_puts (rs X k) 0
        rw [← bs_list] at hps
        have hN : (Plain.allA 0 (bs X k).data.toList).length = k := by
          have := congrArg List.length hps
          simpa [rs] using this
        rw [hN] at hown8
        obtain ⟨a8, c8, rfl, h8⟩ := own_form hown8
        have hB3 := hBw.trans (hb3.mono hBw.size)
        have h5' : 0 < k → ∃ g, a5 = some ⟨g, 0, none⟩ ∧ k ≤ c5 ∧ CellsAt w3 g (wcells (rs X k)) := fun h0 => by
          obtain ⟨g, e, _, hc, hx⟩ := H5.out h0
          exact ⟨g, e, hc, hx.below hb3⟩
        have H5' := Lib.hid h5'
        have H8 := Lib.hid h8
        have HN := Lib.hid hN
        have HPS := Lib.hid hps
        clear h5' h8 hN hps hown8 hb3 hT3 hbl
        go_wp2_with fail
        go_loopw [9] (fun i wr' => ∃ j : Nat, j ≤ k ∧ i = .int .i64 (j : Nat) ∧ Below w3.heap.size w3 wr') (fun i _ => k - (RowKit.intOf i).toNat)
        case atStart => exact ⟨0, Nat.zero_le _, rfl, Below.refl _ _⟩
        case round =>
          obtain ⟨j, hj, rfl, hb⟩ := hrel
          by_cases hjk : j < k
          · obtain ⟨g5, rfl, hc5, hx5⟩ := H5'.out (by omega)
            obtain ⟨g8, rfl, _, hc8, hx8⟩ := H8.out (by omega)
            have hjl : j < (Plain.allA 0 (bs X k).data.toList).length := by rw [HN.out]; exact hjk
            have hjr : j < (rs X k).length := by simpa [rs] using hjk
            have hpj : (((Plain.allA 0 (bs X k).data.toList)[j]).1, ((Plain.allA 0 (bs X k).data.toList)[j]).2.2) = (Plain.fixR (rs X k)[j], (encodeRune (rs X k)[j]).length) := by
              have h1 := congrArg (fun l => l[j]?) HPS.out
              simp only [List.getElem?_map, List.getElem?_eq_getElem hjl, List.getElem?_eq_getElem hjr, Option.map_some, Option.some.injEq] at h1
              exact h1
            have x0 := (hx8.below hb).at_ (j * 3) _ (rcell_at _ j hjl 0 (by omega))
            have x2 := (hx8.below hb).at_ (j * 3 + 2) _ (rcell_at _ j hjl 2 (by omega))
            have y0 := (hx5.below hb).at_ j (.int .i32 (Plain.fixR (rs X k)[j])) (by unfold wcells; rw [List.getElem?_map, List.getElem?_eq_getElem hjr]; rfl)
            obtain ⟨⟨r, p, m⟩, hxe⟩ : ∃ x, (Plain.allA 0 (bs X k).data.toList)[j] = x := ⟨_, rfl⟩
            rw [hxe] at hpj x0 x2
            dsimp only at hpj
            simp only [Prod.mk.injEq] at hpj
            obtain ⟨e1, e2⟩ := hpj
            rw [← e1] at y0
            have hm : (Utf8.encode (r : Int)).size = m := by rw [size_eq, encode_list, e1, ← fix_len, e2]
            have x0 : wr.cell? ⟨g8, j * 3, none⟩ = some (.int .i32 r) := x0
            have x2 : wr.cell? ⟨g8, j * 3 + 2, none⟩ = some (.int .i64 m) := x2
            clear e1 e2 hxe hjl hjr hx5 hx8
            go_wp2_with fail
            go_quiet ((go_at_call 22; exact Calls.quiet_of_same (put_same _ _)))
            go_wp2
            go_roundw
            case rel => exact ⟨j + 1, by omega, by go_num, below_drewN hb _⟩
            case measure => simp [RowKit.intOf]; omega
          · obtain rfl : k = j := by omega
            have hBB := hB3.trans (hb.mono hB3.size)
            go_wp2
            go_ret
            exact ⟨rfl, hBB⟩
theorem back_all (a : Option Addr) (len cap : Nat) (zs : List Int) (w : World) (h : (a = none ∧ len = 0 ∧ cap = 0 ∧ zs = []) ∨
    ∃ x, a = some x ∧ len ≤ cap ∧ cap ≤ maxLen ∧ zs.length = cap ∧ (∀ i, i < zs.length → w.cell? (x.add i) = some (.int .u32 (zs.getD i 0))) ∧ ∀ n ∈ zs, (Lit.int .u32 n).wf = true) (hT : Tabs w) :
    Calls Tryd.prog 5 #[.slice a len cap] w fun e w' => e = .returned (.bool true) ∧ Below w.heap.size w w' := by
  obtain ⟨h1, h2⟩ := wds_of a len cap zs w h
  exact back_walk a len cap _ w h1 h2 hT
end Go.Proofs.YtjkialgdaikijaaDoor
