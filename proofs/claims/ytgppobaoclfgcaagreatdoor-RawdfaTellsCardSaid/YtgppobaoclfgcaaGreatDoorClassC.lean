/- class.Of, Not. Conditions: what each lemma says. -/
import Derived.Test.YtgppobaoclfgcaaGreatDoorClassA
import Derived.Test.YtgppobaoclfgcaaGreatDoorShelfC
import Derived.Shelf.SlSortCmp.NoneTotal
import Derived.Laws.StructEq
set_option linter.unusedVariables false
set_option linter.unusedSimpArgs false
namespace Go.Proofs.YtgppobaoclfgcaaGreatDoor
open Go.RowKit Go.Lib Go.Sort
open Plain (Rg May mayB In Norm put1 mergeL)
theorem compare_any2 (x y : Int) (w : World) : Calls Tryz.prog 74 #[.int .i32 x, .int .i32 y] w fun e w' => e = .returned (.int .i64 (Lib.compareInt x y)) ∧ w = w' := compare_any x y w
theorem cmp_grow (x y : Rg) (W : World) : Calls Tryz.prog 73 #[.agg #[.int .i32 x.1, .int .i32 x.2], .agg #[.int .i32 y.1, .int .i32 y.2]] W fun e w' => e = .returned (.int .i64 (Lib.compareInt x.1 y.1)) ∧ ∃ q os', w' = grow (W.drewN q) os' := by
  have hcon := fun W' => compare_any x.1 y.1 W'
  generalize Lib.compareInt x.1 y.1 = r at hcon ⊢
  go_enter Tryz.func73, Tryz.ntmps73
  go_wp2_with (go_at_call 74; refine (hcon _).mono ?_; rintro e w' ⟨rfl, rfl⟩)
  go_ret
  exact ⟨rfl, 0, _, by rw [alloc_eq_grow, alloc_eq_grow, grow_grow]; rfl⟩
theorem cmpLays58 (blk off size : Nat) (w : World) : CmpLays Tryz.prog 73 #[] rgc 2 (fun x y : Rg => Lib.compareInt x.1 y.1) blk off size w :=
  fun _ _ _ _ x y => cmp_grow x y _
theorem ltLo (x y : Rg) : ltOf (fun x y : Rg => Lib.compareInt x.1 y.1) x y = decide (x.1 < y.1) := by
  unfold ltOf Lib.compareInt
  by_cases h1 : x.1 < y.1
  · simp [h1]
  · by_cases h2 : y.1 < x.1 <;> simp [h1, h2]
theorem swoLo : SWO (ltOf fun x y : Rg => Lib.compareInt x.1 y.1) where
  irrefl x := by rw [ltLo]; simp
  trans x y z h1 h2 := by rw [ltLo] at *; simp at *; omega
  ntrans x y z h1 h2 := by rw [ltLo] at *; simp at *; omega
theorem flatK_rgs (R : List Rg) (j : Nat) (hj : j < R.length * 2) : (flatK rgc 2 R.toArray)[j]! = (rgs R)[j]'(by rw [rgs_len]; exact hj) := by
  rw [get_flatK _ _ _ _ (by simpa using hj)]
  obtain ⟨r, h1, h2⟩ := rgs_at R j _ (List.getElem?_eq_getElem (by rw [rgs_len]; exact hj))
  have hr : R.toArray[j / 2]! = r := by
    rw [getElem!_pos _ _ (by simp; omega)]
    simp
    have := List.getElem?_eq_some_iff.1 h1
    exact this.2
  rw [hr]
  rcases h2 with ⟨h2, h3⟩ | ⟨h2, h3⟩
  · rw [h2, h3]; rfl
  · rw [h2, h3]; rfl
theorem holds_own {w : World} {base g n c : Nat} {R : List Rg} (h : w.ownsRow base 71 2 (.slice (some ⟨g, 0, none⟩) n c) n (rgs R)) (hR : R.length = n) (h1 : 1 ≤ n) : HoldsK rgc 2 w g 0 R.toArray := by
  intro j hj
  rw [size_flatK] at hj
  simp at hj
  obtain ⟨_, _, hv, _, _, hcl⟩ := own_at h (by omega)
  injection hv with hv1
  injection hv1 with hv1
  injection hv1 with hv1
  subst hv1
  rw [Nat.zero_add, flatK_rgs R j hj]
  exact ⟨hcl.2 j _ (List.getElem?_eq_getElem (by rw [rgs_len]; exact hj)), own_frozen h j⟩
end Go.Proofs.YtgppobaoclfgcaaGreatDoor
namespace Go.Proofs.YtgppobaoclfgcaaGreatDoor
open Go.RowKit Go.Lib Go.Sort
open Plain (Rg May mayB In Norm put1 mergeL)
theorem own_sorted {w : World} {base g n c m : Nat} {R : List Rg} (h : w.ownsRow base 71 2 (.slice (some ⟨g, 0, none⟩) n c) n (rgs R)) (d : Array Rg) (hd : d.size = n) (os : Array Obj) :
    (sortWorldK rgc 2 w g 0 m d os).ownsRow base 71 2 (.slice (some ⟨g, 0, none⟩) n c) n (rgs d.toList) ∧ RowKit.Below base w (sortWorldK rgc 2 w g 0 m d os) := by
  rcases h.2 with ⟨hv, _⟩ | ⟨g', cap', cur, hv, hbg, hg, hnc, hcm, hcs, htake⟩
  · cases hv
  · injection hv with hv1 hv2 hv3
    injection hv1 with hv1
    injection hv1 with hv1
    subst hv1 hv3
    have hlt := lt_of_some hg
    have hheap : (sortWorldK rgc 2 w g 0 m d os).heap[g]? = some (.cells (putCells id 0 (flatK rgc 2 d) cur) 71 (0, 0)) := by
      unfold sortWorldK grow putRowK putRow mapBlock Go.Sort.ahead
      dsimp only
      rw [Array.getElem?_append_left (by simpa using hlt), Array.getElem?_modify, if_pos rfl, hg]
      rfl
    have hother : ∀ k, k < base → (sortWorldK rgc 2 w g 0 m d os).heap[k]? = w.heap[k]? := by
      intro k hk
      unfold sortWorldK grow putRowK putRow mapBlock Go.Sort.ahead
      dsimp only
      rw [Array.getElem?_append_left (by simp; omega), Array.getElem?_modify, if_neg (by omega)]
    refine ⟨⟨by rw [rgs_len, Array.length_toList, hd], .inr ⟨g, c, _, rfl, hbg, hheap, hnc, hcm, by simp [putCells, hcs], ?_⟩⟩, ⟨rfl, rfl, rfl, ?_, hother⟩⟩
    · apply List.ext_getElem
      · rw [List.length_take, rgs_len]; simp [putCells, hd]; omega
      · intro j h1 h2
        rw [rgs_len] at h2
        have hj : j < d.toList.length * 2 := h2
        have hj2 : j < cur.size := by rw [hcs]; simp at hj; omega
        rw [List.getElem_take]
        have e1 := flatK_rgs d.toList j hj
        simp only [putCells, Array.getElem_toList, Array.getElem_mapIdx]
        rw [if_pos ⟨Nat.zero_le _, by rw [size_flatK]; simp at hj; omega⟩, Nat.sub_zero]
        exact e1
    · unfold sortWorldK grow putRowK putRow mapBlock Go.Sort.ahead
      simp
def SortPost (base : Nat) (A : Option Addr) (n c : Nat) (R : List Rg) (w : World) (e : Ending) (w' : World) : Prop :=
  e = .returned (.tuple #[]) ∧ ∃ S : List Rg, S.Perm R ∧ S.Pairwise (fun a b => a.1 ≤ b.1) ∧ w'.ownsRow base 71 2 (.slice A n c) n (rgs S) ∧ RowKit.Below base w w'
theorem sort_any (R : List Rg) (A : Option Addr) (n c base : Nat) (w : World) (hown : w.ownsRow base 71 2 (.slice A n c) n (rgs R)) (hR : R.length = n) (h1 : 1 ≤ n) (hn : n ≤ 1000000) :
    Calls Tryz.prog 72 #[.slice A n c, .func (Fn.func 73) #[] #[]] w (SortPost base A n c R w) := by
  have eg : ∀ args w, (callFunc 73 args).run Tryz.prog w = .ok (.enter 73 args) w := enters_of Tryz.func73 (by kernel_rfl) rfl
  obtain ⟨g, cap, hv, hcc, hbg, hcl⟩ := own_at hown (by omega)
  injection hv with hv1 hv2 hv3
  subst hv1 hv3
  have hcon := AnyQ.slices_SortFunc Tryz.sortRg 2 Tryz.isAgg71 Tryz.sizeOf71 rgc (fun _ => rfl) (fun x v hv => by simp [rgc] at hv; rcases hv with rfl | rfl <;> rfl) (fun x y : Rg => Lib.compareInt x.1 y.1) swoLo 73 #[] g 0 c R.toArray w eg (cmpLays58 g 0 R.toArray.size w) (holds_own hown hR h1) hcl.1 (by simp; omega)
  have hsz : R.toArray.size = n := by simpa using hR
  change Calls Tryz.prog 72 _ _ _ at hcon
  rw [hsz] at hcon
  refine hcon.mono ?_
  rintro e w' ⟨rfl, d', m, os, hp, hs, rfl⟩
  have hd : d'.size = n := by rw [hp.1, hsz]
  have ho := own_sorted hown (m := m) d' hd os
  refine ⟨rfl, d'.toList, ?_, ?_, ho.1, ho.2⟩
  · have h2 := hp.2.2
    have e1 : d'.extract 0 n = d' := by rw [← hd]; exact Array.extract_size
    have e2 : R.toArray.extract 0 n = R.toArray := by rw [← hsz]; exact Array.extract_size
    rw [e1, e2] at h2
    exact h2
  · rw [List.pairwise_iff_getElem]
    intro i j hi hj hij
    have h3 := hs i j (Nat.zero_le _) hij (by simp at hj; omega)
    rw [ltLo] at h3
    have hi' : i < d'.size := by simpa using hi
    have hj' : j < d'.size := by simpa using hj
    rw [getElem!_pos d' i hi', getElem!_pos d' j hj'] at h3
    simp only [Array.getElem_toList]
    simp at h3
    exact h3
end Go.Proofs.YtgppobaoclfgcaaGreatDoor
namespace Go.Proofs.YtgppobaoclfgcaaGreatDoor
open Go.RowKit Go.Lib
open Plain (Rg May mayB In Norm put1 mergeL)
theorem sort_none (A : Option Addr) (c : Nat) (w : World) : Calls Tryz.prog 72 #[.slice A 0 c, .func (Fn.func 73) #[] #[]] w fun e w' => e = .returned (.tuple #[]) ∧ w' = w :=
  AnyF.slices_SortFunc_none Tryz.sortRg A c _ w
theorem sort_all (R : List Rg) (A : Option Addr) (n c base : Nat) (w : World) (hown : w.ownsRow base 71 2 (.slice A n c) n (rgs R)) (hR : R.length = n) (hn : n ≤ 1000000) :
    Calls Tryz.prog 72 #[.slice A n c, .func (Fn.func 73) #[] #[]] w (SortPost base A n c R w) := by
  rcases Nat.eq_zero_or_pos n with h0 | h0
  · subst h0
    refine (sort_none A c w).mono ?_
    rintro e w' ⟨rfl, rfl⟩
    have : R = [] := List.eq_nil_of_length_eq_zero hR
    subst this
    exact ⟨rfl, [], List.Perm.refl _, List.Pairwise.nil, hown, RowKit.Below.refl _ _⟩
  · exact sort_any R A n c base w hown hR h0 hn
theorem rgs_set_hi (O : List Rg) (l : Rg) (h : Int) : (rgs (O ++ [l])).set (O.length * 2 + 1) (.int .i32 h) = rgs (O ++ [(l.1, h)]) := by
  rw [rgs_append, rgs_append, List.set_append_right _ _ (by rw [rgs_len]; omega), rgs_len, show O.length * 2 + 1 - O.length * 2 = 1 by omega]
  rfl
theorem own_cell {w : World} {base g n c : Nat} {e : TypeId} {s : Nat} {xs : List Value} (h : w.ownsRow base e s (.slice (some ⟨g, 0, none⟩) n c) n xs) (j : Nat) (u : Value) (hu : xs[j]? = some u) : w.cell? ⟨g, j, none⟩ = some u := by
  rcases h.2 with ⟨hv, _⟩ | ⟨g', cap', cur, hv, hbg, hg, hnc, hcm, hcs, htake⟩
  · cases hv
  · injection hv with hv1
    injection hv1 with hv1
    injection hv1 with hv1
    subst hv1
    rw [cell_of_row _ _ _ _ _ _ hg]
    rw [← htake, List.getElem?_take] at hu
    split at hu
    · simpa using hu
    · cases hu
theorem own_blk {w : World} {base g n c : Nat} {e : TypeId} {s : Nat} {xs : List Value} (h : w.ownsRow base e s (.slice (some ⟨g, 0, none⟩) n c) n xs) : ∃ cur, w.heap[g]? = some (.cells cur e (0, 0)) := by
  rcases h.2 with ⟨hv, _⟩ | ⟨g', cap', cur, hv, hbg, hg, _⟩
  · cases hv
  · injection hv with hv1
    injection hv1 with hv1
    injection hv1 with hv1
    subst hv1
    exact ⟨cur, hg⟩
def OfPost (R : List Rg) (w : World) (en : Ending) (w' : World) : Prop :=
  ∃ (C : List Rg) (A' : Option Addr) (c' : Nat), en = .returned (.slice A' C.length c') ∧ Norm C ∧ (∀ x, In C x ↔ In (R.filter mayB) x) ∧ C.length ≤ R.length ∧ w'.ownsRow w.heap.size 71 2 (.slice A' C.length c') C.length (rgs C) ∧ Below w.heap.size w w'
def OfRel (w : World) (u : Value) (m : Nat) (S : List Rg) (v i : Value) (wr : World) : Prop :=
  ∃ k : Nat, i = .int .i64 k ∧ k ≤ m ∧ wr.ownsRow w.heap.size 71 2 v (mergeL (S.take k)).length (rgs (mergeL (S.take k))) ∧ wr.ownsRow w.heap.size 71 2 u m (rgs S) ∧ apart v u ∧ Below w.heap.size w wr
set_option maxRecDepth 100000 in
set_option maxHeartbeats 4000000 in
theorem of_any (R : List Rg) (A : Option Addr) (n c : Nat) (w : World) (hX : Rs w A R) (hR : R.length = n) (hn : n ≤ 100000) :
    Calls Tryz.prog 43 #[.slice A n c] w (OfPost R w) := by
  have CC := Lib.hid (clone_any R A n c w hX hR (by omega))
  have HR := Lib.hid hR
  clear hX hR
  obtain ⟨i82, hi82, y0, y1, y2⟩ := info_parts info82
  go_enter Tryz.func43, Tryz.ntmps43
  go_wp2_with fail
  refine CC.out.mono ?_
  rintro e w1 ⟨A1, c1, rfl, hO1, hB1⟩
  have CD := Lib.hid (del_any R A1 R.length c1 w.heap.size w1 hO1 rfl hB1.size (by rw [HR.out]; unfold maxLen; omega))
  have HB1 := Lib.hid hB1
  clear hO1 hB1
  go_wp2_with fail
  refine CD.out.mono ?_
  rintro e w2 ⟨A2, c2, rfl, hO2, hB2⟩
  obtain ⟨F, hF⟩ : ∃ F, R.filter mayB = F := ⟨_, rfl⟩
  have hFl : F.length ≤ n := by rw [← hF, ← HR.out]; exact List.length_filter_le _ _
  have hFm : ∀ r ∈ F, May r := by
    intro r hr
    rw [← hF] at hr
    exact (Plain.mayB_iff r).1 (List.mem_filter.1 hr).2
  rw [hF] at hO2 ⊢
  obtain ⟨m, hm⟩ : ∃ m, F.length = m := ⟨_, rfl⟩
  rw [hm] at hO2 hFl ⊢
  have CS := Lib.hid (sort_all F A2 m c2 w.heap.size w2 hO2 hm (by omega))
  have HB2 := Lib.hid (HB1.out.trans hB2)
  have HF := Lib.hid hF
  have HM := Lib.hid hm
  have HFM := Lib.hid hFm
  clear hO2 hB2 hF hm hFm
  go_wp2_with fail
  refine CS.out.mono ?_
  rintro e w3 ⟨rfl, S, hp, hpw, hO3, hB3⟩
  have hSm : ∀ r ∈ S, May r := fun r hr => HFM.out r (hp.mem_iff.1 hr)
  have hSl : S.length = m := by rw [hp.length_eq]; exact HM.out
  have HB3 := Lib.hid (HB2.out.trans hB3)
  have HO3 := Lib.hid hO3
  have HSM := Lib.hid hSm
  have HSL := Lib.hid hSl
  have HP := Lib.hid hp
  have HPW := Lib.hid hpw
  clear hp hpw hO3 hB3 hSm hSl
  go_wp2_with fail
  go_loopw [4, 15] (fun v i wr => OfRel w (.slice A2 m c2) m S v i wr) (fun _ i _ => m - (RowKit.intOf i).toNat)
  case atStart => exact ⟨0, rfl, Nat.zero_le _, World.ownsRow_nil _ _ _ _, HO3.out, (fun k h => by cases h), HB3.out⟩
  case round =>
    obtain ⟨k, rfl, hk, hO, hS, hap, hB⟩ := hrel
    have hml := (Plain.merge_holds (S.take k).length (S.take k) rfl (fun r hr => HSM.out r (List.mem_of_mem_take hr)) (HPW.out.sublist (List.take_sublist _ _)))
    obtain ⟨Out, hOut⟩ : ∃ O, mergeL (S.take k) = O := ⟨_, rfl⟩
    rw [hOut] at hO hml
    have hol : Out.length ≤ k := by have := hml.2.2.2; rw [List.length_take] at this; omega
    have HB := Lib.hid hB
    have HO := Lib.hid hO
    have HS := Lib.hid hS
    have HAP := Lib.hid hap
    have HML := Lib.hid hml
    have HOUT := Lib.hid hOut
    by_cases hlt : k < m
    · have hkS : k < S.length := by rw [HSL.out]; exact hlt
      obtain ⟨r, hr⟩ : ∃ r, S[k] = r := ⟨_, rfl⟩
      have hrm : May r := by rw [← hr]; exact HSM.out _ (List.getElem_mem hkS)
      have hnext : mergeL (S.take (k + 1)) = put1 Out r := by rw [List.take_succ_eq_append_getElem hkS, Plain.merge_snoc, hOut, hr]
      have hgk := rgs_get S k r (by rw [List.getElem?_eq_getElem hkS, hr])
      obtain ⟨gs, cs, hv, hmc, _, hcl⟩ := own_at hS (by omega)
      injection hv with hv1 hv2 hv3
      subst hv1
      clear hv2 hv3
      have c0 := hcl.2 _ _ hgk.1
      have c1 := hcl.2 _ _ hgk.2
      have lgs := hcl.1
      obtain ⟨lo, hi⟩ := r
      obtain ⟨b1, b2, b3⟩ := hrm
      dsimp only at c0 c1 b1 b2 b3
      have HNX := Lib.hid hnext
      clear hgk hcl hr hnext hml hOut
      rcases List.eq_nil_or_concat Out with e | ⟨Q, l, e⟩
      · subst e
        obtain ⟨ua, uc, rfl⟩ := own_slice hO
        clear hO hS hap hB
        go_upto_region 8 with fail
        obtain ⟨wa, hwa⟩ : ∃ x, wr.alloc (.cells #[.int .i32 lo, .int .i32 hi] 71) = x := ⟨_, rfl⟩
        have hba : RowKit.Below wr.heap.size wr wa := by rw [← hwa]; exact (RowKit.Below.refl _ _).alloc (Nat.le_refl _) _
        have hxa : wa.heap[wr.heap.size]? = some (.cells #[.int .i32 lo, .int .i32 hi] 71 (0, 0)) := by rw [← hwa]; exact heap_alloc_new2 _ _ _ _ rfl
        rw [hwa]
        obtain ⟨x0, x1, x2, x3⟩ := box2 hxa
        have lx := lt_of_some hxa
        have HBA := Lib.hid hba
        have HXA := Lib.hid hxa
        clear hwa hba hxa c0 c1
        go_quiet (fail)
        have hbb : RowKit.Below wa.heap.size wa (wa.drewN nq) := ⟨rfl, rfl, rfl, Nat.le_refl _, fun _ _ => rfl⟩
        obtain ⟨wb, hwb⟩ : ∃ x, wa.drewN nq = x := ⟨_, rfl⟩
        rw [hwb] at hbb ⊢
        have hxb := blk_later HXA.out hbb
        have hb2 := below_then HBA.out hbb
        clear hwb hbb x0 x1 x2 x3 lx
        obtain ⟨x0, x1, x2, x3⟩ := box2 hxb
        have lx := lt_of_some hxb
        have HOb := Lib.hid (own_below HO.out hb2)
        have HSb := Lib.hid (own_below HS.out hb2)
        have HBb := Lib.hid (below_then HB.out hb2)
        clear hxb hb2
        go_wp2_with (at_builtin; refine wpList_append_own2 _ rfl (.tmp 49) (.tmp 51) _ rfl w.heap.size 71 i82 _ 2 8 Tryz.underlying73 hi82 y0 y1 y2 rfl (by decide) (.slice ua 0 uc) 0 (rgs []) rfl (HOb.out.alloc _) ⟨wb.heap.size, 0, none⟩ 1 1 [.int .i32 lo, .int .i32 hi] rfl rfl (CellsAt_add (CellsAt.new wb _ _)) ?c2 ?c3 ?c4 ?c5 ?_)
        case c2 => first | exact ⟨rfl, rfl⟩ | (intro u hu; simp only [List.mem_cons, List.not_mem_nil, or_false] at hu; rcases hu with rfl | rfl <;> rfl)
        case c3 => simp only [maxLen]; omega
        case c4 => omega
        case c5 => have := HBb.out.size; simp; omega
        intro v3 w7 hown2 hg2 hvb
        have hBn : RowKit.Below w.heap.size w w7 := (HBb.out.alloc HBb.out.size _).grown hg2 (by have := HBb.out.size; simp; omega) (fun g hg => (HOb.out.lt g hg).1)
        have hap3 : apart v3 (.slice (some ⟨gs, 0, none⟩) m c2) := HAP.out.push HSb.out (by simpa using hvb)
        have hS7 := own_push HSb.out hg2 HAP.out
        have HBn := Lib.hid hBn
        have HO7 := Lib.hid hown2
        have HS7 := Lib.hid hS7
        have HAP7 := Lib.hid hap3
        clear hBn hg2 hown2 hvb hS7 hap3
        go_wp2
        go_roundw
        case rel =>
          have h7 := HO7.out
          refine ⟨k + 1, by go_num, by omega, ?_, HS7.out, HAP7.out, HBn.out⟩
          rw [HNX.out]
          exact h7
        case measure => simp [RowKit.intOf]; omega
      · rw [List.concat_eq_append] at e
        subst e
        have hql : (Q ++ [l]).length = Q.length + 1 := by simp
        obtain ⟨q, hq⟩ : ∃ q, Q.length = q := ⟨_, rfl⟩
        rw [hq] at hql
        rw [hql] at hO hol
        have hlm : May l := Plain.Norm_may HML.out.1 l (by simp)
        obtain ⟨gv, uc, rfl, hvc, hbg, hcv⟩ := own_at hO (by omega)
        have hgl := rgs_get (Q ++ [l]) q l (by rw [← hq, List.getElem?_append_right (Nat.le_refl _), Nat.sub_self]; rfl)
        have v0 := hcv.2 _ _ hgl.1
        have v1 := hcv.2 _ _ hgl.2
        have vf := own_frozen hO (q * 2 + 1)
        have lgv := hcv.1
        have hne : gv ≠ gs := fun e => hap gv rfl (by rw [e]; rfl)
        obtain ⟨ll, lh⟩ := l
        obtain ⟨d1, d2, d3⟩ := hlm
        dsimp only at v0 v1 d1 d2 d3
        have HO2 := Lib.hid hO
        have HQ := Lib.hid hq
        have HQL := Lib.hid hql
        clear hO hS hap hB hgl hcv hq HO hql
        have hn1 : ((q + 1 : Nat) : Int) - 1 = (q : Int) := by omega
        obtain ⟨nn, hnn⟩ : ∃ nn, q + 1 = nn := ⟨_, rfl⟩
        rw [hnn] at hn1 HO2 HQL hol hvc HAP ⊢
        have HNN := Lib.hid hnn
        have hw1 : IntKind.i64.wrap ((nn : Int) - 1) = (q : Int) := by rw [hn1, IntKind.wrap_i64]; omega
        have hw2 : IntKind.i32.wrap (lh + 1) = lh + 1 := by rw [IntKind.wrap_i32]; omega
        have hq0 : (0 : Int) ≤ (q : Int) := by omega
        have hq1 : (q : Int) < (nn : Int) := by omega
        have hw3 : IntKind.i64.wrap (q : Int) = (q : Int) := by rw [IntKind.wrap_i64]; omega
        have hn0 : decide ((0 : Int) < (nn : Int)) = true := by simp; omega
        have hn00 : decide (0 < nn) = true := by simp; omega
        clear hnn
        by_cases hc : lo ≤ lh + 1
        · have dc : decide (lo ≤ lh + 1) = true := by simp [hc]
          go_upto_region 8 with fail
          obtain ⟨wa, hwa⟩ : ∃ x, wr.alloc (.cells #[.int .i32 lo, .int .i32 hi] 71) = x := ⟨_, rfl⟩
          have hba : RowKit.Below wr.heap.size wr wa := by rw [← hwa]; exact (RowKit.Below.refl _ _).alloc (Nat.le_refl _) _
          have hxa : wa.heap[wr.heap.size]? = some (.cells #[.int .i32 lo, .int .i32 hi] 71 (0, 0)) := by rw [← hwa]; exact heap_alloc_new2 _ _ _ _ rfl
          rw [hwa]
          obtain ⟨x0, x1, x2, x3⟩ := box2 hxa
          have lx := lt_of_some hxa
          have v0 := (hba.cell (p := ⟨gv, q * 2, none⟩) lgv).trans v0
          have v1 := (hba.cell (p := ⟨gv, q * 2 + 1, none⟩) lgv).trans v1
          have lgv := Nat.lt_of_lt_of_le lgv hba.size
          have HBA := Lib.hid hba
          have HXA := Lib.hid hxa
          clear hwa hba hxa c0 c1
          go_quiet (fail)
          have HO := HO2
          have hbb : RowKit.Below wa.heap.size wa (wa.drewN nq) := ⟨rfl, rfl, rfl, Nat.le_refl _, fun _ _ => rfl⟩
          obtain ⟨wb, hwb⟩ : ∃ x, wa.drewN nq = x := ⟨_, rfl⟩
          rw [hwb] at hbb ⊢
          have hxb := blk_later HXA.out hbb
          have hb2 := below_then HBA.out hbb
          clear hwb hbb x0 x1 x2 x3 lx
          obtain ⟨x0, x1, x2, x3⟩ := box2 hxb
          have lx := lt_of_some hxb
          have HOb := Lib.hid (own_below HO.out hb2)
          have HSb := Lib.hid (own_below HS.out hb2)
          have HBb := Lib.hid (below_then HB.out hb2)
          clear hxb hb2
          have v1 := own_cell HOb.out (q * 2 + 1) (.int .i32 lh) (by have := (rgs_get (Q ++ [(ll, lh)]) q (ll, lh) (by rw [← HQ.out, List.getElem?_append_right (Nat.le_refl _), Nat.sub_self]; rfl)).2; exact this)
          have vf := own_frozen HOb.out (q * 2 + 1)
          have lgv := lt_of_some (own_blk HOb.out).choose_spec
          have hq2 : q ≤ 1000000 := by omega
          go_wp2_with fail
          go_region
          all_goals
            have hst := (World.ownsRow.stored HOb.out (q * 2 + 1) (.int .i32 (max lh hi))).1
            have hset : (rgs (Q ++ [(ll, lh)])).set (q * 2 + 1) (.int .i32 (max lh hi)) = rgs (Q ++ [(ll, max lh hi)]) := by rw [← HQ.out]; exact rgs_set_hi _ _ _
            rw [hset] at hst
            have hS7 : (wb.setCell ⟨gv, q * 2 + 1, none⟩ (.int .i32 (max lh hi))).ownsRow w.heap.size 71 2 (.slice (some ⟨gs, 0, none⟩) m c2) m (rgs S) := ownsRow_setCell_other HSb.out (fun e => hne (by injection e with e; exact e.symm)) _
            have HBn := Lib.hid ((HBb.out.setCell (p := ⟨gv, q * 2 + 1, none⟩) hbg (.int .i32 (max lh hi))).drew)
            have HO7 := Lib.hid (own_below hst (RowKit.Below.refl _ _).drew)
            have HS7 := Lib.hid (own_below hS7 (RowKit.Below.refl _ _).drew)
            clear hst hset hS7 v1 vf
            go_wp2
            go_roundw
            case rel =>
              refine ⟨k + 1, by go_num, by omega, ?_, HS7.out, HAP.out, HBn.out⟩
              rw [HNX.out, Plain.put1_snoc, if_pos hc]
              have e1 : (Q ++ [(ll, max lh hi)]).length = nn := by rw [List.length_append, HQ.out]; exact HNN.out
              rw [e1]
              exact HO7.out
            case measure => simp [RowKit.intOf]; omega
        · have dc : decide (lo ≤ lh + 1) = false := by simp; omega
          go_upto_region 8 with fail
          obtain ⟨wa, hwa⟩ : ∃ x, wr.alloc (.cells #[.int .i32 lo, .int .i32 hi] 71) = x := ⟨_, rfl⟩
          have hba : RowKit.Below wr.heap.size wr wa := by rw [← hwa]; exact (RowKit.Below.refl _ _).alloc (Nat.le_refl _) _
          have hxa : wa.heap[wr.heap.size]? = some (.cells #[.int .i32 lo, .int .i32 hi] 71 (0, 0)) := by rw [← hwa]; exact heap_alloc_new2 _ _ _ _ rfl
          rw [hwa]
          obtain ⟨x0, x1, x2, x3⟩ := box2 hxa
          have lx := lt_of_some hxa
          have v0 := (hba.cell (p := ⟨gv, q * 2, none⟩) lgv).trans v0
          have v1 := (hba.cell (p := ⟨gv, q * 2 + 1, none⟩) lgv).trans v1
          have lgv := Nat.lt_of_lt_of_le lgv hba.size
          have HBA := Lib.hid hba
          have HXA := Lib.hid hxa
          clear hwa hba hxa c0 c1
          go_quiet (fail)
          have HO := HO2
          have hbb : RowKit.Below wa.heap.size wa (wa.drewN nq) := ⟨rfl, rfl, rfl, Nat.le_refl _, fun _ _ => rfl⟩
          obtain ⟨wb, hwb⟩ : ∃ x, wa.drewN nq = x := ⟨_, rfl⟩
          rw [hwb] at hbb ⊢
          have hxb := blk_later HXA.out hbb
          have hb2 := below_then HBA.out hbb
          clear hwb hbb x0 x1 x2 x3 lx
          obtain ⟨x0, x1, x2, x3⟩ := box2 hxb
          have lx := lt_of_some hxb
          have HOb := Lib.hid (own_below HO.out hb2)
          have HSb := Lib.hid (own_below HS.out hb2)
          have HBb := Lib.hid (below_then HB.out hb2)
          clear hxb hb2
          go_wp2_with (at_builtin; refine wpList_append_own2 _ rfl (.tmp 49) (.tmp 51) _ rfl w.heap.size 71 i82 _ 2 8 Tryz.underlying73 hi82 y0 y1 y2 rfl (by decide) (.slice (some ⟨gv, 0, none⟩) nn uc) nn (rgs (Q ++ [(ll, lh)])) rfl (HOb.out.alloc _) ⟨wb.heap.size, 0, none⟩ 1 1 [.int .i32 lo, .int .i32 hi] rfl rfl (CellsAt_add (CellsAt.new wb _ _)) ?c2x ?c3x ?c4x ?c5x ?_)
          case c2x => first | exact ⟨rfl, rfl⟩ | (intro u hu; simp only [List.mem_cons, List.not_mem_nil, or_false] at hu; rcases hu with rfl | rfl <;> rfl)
          case c3x => simp only [maxLen]; omega
          case c4x => omega
          case c5x => have := HBb.out.size; simp; omega
          intro v3 w7 hown2 hg2 hvb
          have hBn : RowKit.Below w.heap.size w w7 := (HBb.out.alloc HBb.out.size _).grown hg2 (by have := HBb.out.size; simp; omega) (fun g hg => (HOb.out.lt g hg).1)
          have hap3 : apart v3 (.slice (some ⟨gs, 0, none⟩) m c2) := HAP.out.push HSb.out (by simpa using hvb)
          have hS7 := own_push HSb.out hg2 HAP.out
          have HBn := Lib.hid hBn
          have HO7 := Lib.hid hown2
          have HS7 := Lib.hid hS7
          have HAP7 := Lib.hid hap3
          clear hBn hg2 hown2 hvb hS7 hap3
          go_wp2
          go_roundw
          case rel =>
            have h7 := HO7.out
            refine ⟨k + 1, by go_num, by omega, ?_, HS7.out, HAP7.out, HBn.out⟩
            rw [HNX.out]
            rw [Plain.put1_snoc, if_neg (by show ¬ lo ≤ lh + 1; omega)]
            have e1 : (Q ++ [(ll, lh)] ++ [(lo, hi)]).length = nn + 1 := by rw [List.length_append, HQL.out]; rfl
            rw [e1, rgs_append (Q ++ [(ll, lh)])]
            exact h7
          case measure => simp [RowKit.intOf]; omega
    · obtain rfl : k = m := by omega
      have hT : S.take k = S := List.take_of_length_le (by rw [HSL.out]; exact Nat.le_refl _)
      rw [hT] at hml hOut
      obtain ⟨ua, uc, rfl⟩ := own_slice hO
      have HML2 := Lib.hid hml
      clear hO hS hap hB hml hOut hT
      go_wp2
      go_ret
      refine ⟨Out, ua, uc, rfl, HML2.out.1, fun x => ?_, ?_, HO.out, HB.out⟩
      · rw [HML2.out.2.1 x]
        have hf : R.filter mayB = F := HF.out
        rw [hf]
        constructor
        · rintro ⟨r, h1, h2⟩; exact ⟨r, HP.out.mem_iff.1 h1, h2⟩
        · rintro ⟨r, h1, h2⟩; exact ⟨r, HP.out.mem_iff.2 h1, h2⟩
      · have h1 := HML2.out.2.2.2
        rw [HSL.out] at h1
        have h2 : k ≤ R.length := by rw [← HM.out, ← HF.out]; exact List.length_filter_le _ _
        omega
end Go.Proofs.YtgppobaoclfgcaaGreatDoor
namespace Go.Proofs.YtgppobaoclfgcaaGreatDoor
open Go.RowKit Go.Lib
open Plain (Rg May mayB In Norm put1 mergeL gapF gaps)
theorem gapF_snoc (C : List Rg) (r : Rg) (st : List Rg × Int) : (C ++ [r]).foldl gapF st = gapF (C.foldl gapF st) r := by rw [List.foldl_append]; rfl
theorem gapF_len : ∀ (C : List Rg) (st : List Rg × Int), (C.foldl gapF st).1.length = st.1.length + C.length := by
  intro C
  induction C with
  | nil => intro st; rfl
  | cons r C ih => intro st; rw [List.foldl_cons, ih]; unfold gapF; simp; omega
def NotRel (w : World) (u : Value) (m : Nat) (D : List Rg) (v lo i : Value) (wr : World) : Prop :=
  ∃ k : Nat, i = .int .i64 k ∧ k ≤ m ∧ lo = .int .i32 ((D.take k).foldl gapF ([], 0)).2 ∧ wr.ownsRow w.heap.size 71 2 v k (rgs ((D.take k).foldl gapF ([], 0)).1) ∧ wr.ownsRow w.heap.size 71 2 u m (rgs D) ∧ apart v u ∧ RowKit.Below w.heap.size w wr
def NotPost (R : List Rg) (w : World) (en : Ending) (w' : World) : Prop :=
  ∃ (C : List Rg) (A' : Option Addr) (c' : Nat), en = .returned (.slice A' C.length c') ∧ Norm C ∧ (∀ x, In C x ↔ 0 ≤ x ∧ x ≤ 1114111 ∧ ¬ In (R.filter mayB) x) ∧ C.length ≤ R.length + 1 ∧ w'.ownsRow w.heap.size 71 2 (.slice A' C.length c') C.length (rgs C) ∧ RowKit.Below w.heap.size w w'
set_option maxRecDepth 100000 in
set_option maxHeartbeats 4000000 in
theorem not_any (R : List Rg) (A : Option Addr) (n c : Nat) (w : World) (hX : Rs w A R) (hR : R.length = n) (hn : n ≤ 10000) :
    Calls Tryz.prog 20 #[.slice A n c] w (NotPost R w) := by
  have CO := Lib.hid (of_any R A n c w hX hR (by omega))
  have HR := Lib.hid hR
  clear hX hR
  obtain ⟨i82, hi82, y0, y1, y2⟩ := info_parts info82
  go_enter Tryz.func20, Tryz.ntmps20
  go_wp2_with fail
  refine CO.out.mono ?_
  rintro e w1 ⟨D, A1, c1, rfl, hND, hID, hDl, hO1, hB1⟩
  obtain ⟨m, hm⟩ : ∃ m, D.length = m := ⟨_, rfl⟩
  rw [hm] at hO1 hDl ⊢
  have hmn : m ≤ n := by rw [HR.out] at hDl; exact hDl
  have HB1 := Lib.hid hB1
  have HO1 := Lib.hid hO1
  have HM := Lib.hid hm
  have HND := Lib.hid hND
  have HID := Lib.hid hID
  clear hO1 hB1 hm hND hID hDl
  go_wp2_with fail
  go_loopw [3, 4, 10] (fun v lo i wr => NotRel w (.slice A1 m c1) m D v lo i wr) (fun _ _ i _ => m - (RowKit.intOf i).toNat)
  case atStart => exact ⟨0, rfl, Nat.zero_le _, rfl, World.ownsRow_nil _ _ _ _, HO1.out, (fun k h => by cases h), HB1.out⟩
  case round =>
    obtain ⟨k, rfl, hk, rfl, hO, hS, hap, hB⟩ := hrel
    obtain ⟨st, hst⟩ : ∃ st, (D.take k).foldl gapF ([], 0) = st := ⟨_, rfl⟩
    rw [hst] at hO ⊢
    obtain ⟨Out, low⟩ := st
    dsimp only at hO ⊢
    have hol : Out.length = k := by
      have := gapF_len (D.take k) ([], 0)
      rw [hst, List.length_take, HM.out] at this
      simp at this; omega
    have HOL := Lib.hid hol
    have HST := Lib.hid hst
    have HB := Lib.hid hB
    have HO := Lib.hid hO
    have HS := Lib.hid hS
    have HAP := Lib.hid hap
    clear hol hst
    by_cases hlt : k < m
    · have hkS : k < D.length := by rw [HM.out]; exact hlt
      obtain ⟨r, hr⟩ : ∃ r, D[k] = r := ⟨_, rfl⟩
      have hrm : May r := by rw [← hr]; exact Plain.Norm_may HND.out _ (List.getElem_mem hkS)
      have hnext : (D.take (k + 1)).foldl gapF ([], 0) = (Out ++ [(low, r.1 - 1)], r.2 + 1) := by rw [List.take_succ_eq_append_getElem hkS, gapF_snoc, HST.out, hr]; rfl
      have hgk := rgs_get D k r (by rw [List.getElem?_eq_getElem hkS, hr])
      obtain ⟨gs, cs, hv, hmc, _, hcl⟩ := own_at hS (by omega)
      injection hv with hv1 hv2 hv3
      subst hv1
      clear hv2 hv3
      have c0 := hcl.2 _ _ hgk.1
      have c1 := hcl.2 _ _ hgk.2
      have lgs := hcl.1
      obtain ⟨lo, hi⟩ := r
      obtain ⟨b1, b2, b3⟩ := hrm
      dsimp only at c0 c1 b1 b2 b3 hnext
      have HNX := Lib.hid hnext
      clear hgk hcl hr hnext
      obtain ⟨ua, uc, rfl⟩ := own_slice hO
      clear hO hS hap hB
      go_upto_region 6 with fail
      obtain ⟨wb, hwa⟩ : ∃ x, wr.alloc (.cells #[.int .i32 lo, .int .i32 hi] 71) = x := ⟨_, rfl⟩
      have hba : RowKit.Below wr.heap.size wr wb := by rw [← hwa]; exact (RowKit.Below.refl _ _).alloc (Nat.le_refl _) _
      have hxa : wb.heap[wr.heap.size]? = some (.cells #[.int .i32 lo, .int .i32 hi] 71 (0, 0)) := by rw [← hwa]; exact heap_alloc_new2 _ _ _ _ rfl
      rw [hwa]
      obtain ⟨x0, x1, x2, x3⟩ := box2 hxa
      have lx := lt_of_some hxa
      have HXA := Lib.hid hxa
      have HOb := Lib.hid (own_below HO.out hba)
      have HSb := Lib.hid (own_below HS.out hba)
      have HBb := Lib.hid (below_then HB.out hba)
      clear hwa hba hxa c0 c1
      go_wp2_with (at_builtin; refine wpList_append_own2 _ rfl (.tmp 14) (.tmp 20) _ rfl w.heap.size 71 i82 _ 2 8 Tryz.underlying72 hi82 y0 y1 y2 rfl (by decide) (.slice ua k uc) k (rgs Out) rfl (HOb.out.alloc _) ⟨wb.heap.size, 0, none⟩ 1 1 [.int .i32 low, .int .i32 (lo - 1)] rfl rfl (CellsAt_add (CellsAt.new wb _ _)) ?c2 ?c3 ?c4 ?c5 ?_)
      case c2 => first | exact ⟨rfl, rfl⟩ | (intro u hu; simp only [List.mem_cons, List.not_mem_nil, or_false] at hu; rcases hu with rfl | rfl <;> rfl)
      case c3 => simp only [maxLen]; omega
      case c4 => omega
      case c5 => have := HBb.out.size; simp; omega
      intro v3 w7 hown2 hg2 hvb
      have hBn : RowKit.Below w.heap.size w w7 := (HBb.out.alloc HBb.out.size _).grown hg2 (by have := HBb.out.size; simp; omega) (fun g hg => (HOb.out.lt g hg).1)
      have hx7 : w7.heap[wr.heap.size]? = some (.cells #[.int .i32 lo, .int .i32 hi] 71 (0, 0)) := blk_grown HXA.out hg2 (fun e => by have := (HO.out.lt _ e).2; omega)
      obtain ⟨z0, z1, z2, z3⟩ := box2 hx7
      have hap3 : apart v3 (.slice (some ⟨gs, 0, none⟩) m c1) := HAP.out.push HSb.out (by simpa using hvb)
      have hS7 := own_push HSb.out hg2 HAP.out
      have HBn := Lib.hid hBn
      have HO7 := Lib.hid hown2
      have HS7 := Lib.hid hS7
      have HAP7 := Lib.hid hap3
      clear hBn hg2 hown2 hvb hS7 hap3 x0 x1 x2 x3 lx hx7
      go_wp2
      go_roundw
      case rel =>
        refine ⟨k + 1, by go_num, by omega, ?_, ?_, HS7.out, HAP7.out, HBn.out⟩
        · rw [HNX.out]
        · rw [HNX.out, rgs_append]; exact HO7.out
      case measure => simp [RowKit.intOf]; omega
    · obtain rfl : k = m := by omega
      have hT : D.take k = D := List.take_of_length_le (by rw [HM.out]; exact Nat.le_refl _)
      have hga := Plain.gapF_all D [] 0
      rw [← hT, HST.out, hT] at hga
      dsimp only at hga
      rw [List.nil_append] at hga
      obtain ⟨ua, uc, rfl⟩ := own_slice hO
      have HGA := Lib.hid hga
      clear hO hS hap hB hT hga
      go_wp2_with (at_builtin; refine wpList_append_own2 _ rfl (.tmp 26) (.tmp 29) _ rfl w.heap.size 71 i82 _ 2 8 Tryz.underlying72 hi82 y0 y1 y2 rfl (by decide) (.slice ua k uc) k (rgs Out) rfl (HO.out.alloc _) ⟨wr.heap.size, 0, none⟩ 1 1 [.int .i32 low, .int .i32 1114111] rfl rfl (CellsAt_add (CellsAt.new wr _ _)) ?d2 ?d3 ?d4 ?d5 ?_)
      case d2 => first | exact ⟨rfl, rfl⟩ | (intro u hu; simp only [List.mem_cons, List.not_mem_nil, or_false] at hu; rcases hu with rfl | rfl <;> rfl)
      case d3 => simp only [maxLen]; omega
      case d4 => omega
      case d5 => have := HB.out.size; simp; omega
      intro v3 w7 hown2 hg2 hvb
      have hBn : RowKit.Below w.heap.size w w7 := (HB.out.alloc HB.out.size _).grown hg2 (by have := HB.out.size; simp; omega) (fun g hg => (HO.out.lt g hg).1)
      have hrg : rgs Out ++ [.int .i32 low, .int .i32 1114111] = rgs (gaps 0 D) := by rw [← HGA.out, rgs_append]; rfl
      rw [hrg] at hown2
      obtain ⟨va, vc, rfl⟩ := own_slice hown2
      have hgl : (gaps 0 D).length = k + 1 := by rw [Plain.gaps_len, HM.out]
      have CO2 := Lib.hid (of_any (gaps 0 D) va (k + 1) vc w7 (Rs.of_own hown2 hgl) hgl (by omega))
      have HBn := Lib.hid hBn
      clear hBn hown2 hg2 hvb hrg hgl
      go_wp2_with fail
      refine CO2.out.mono ?_
      rintro e w8 ⟨C, A8, c8, rfl, h1, h2, h3, h4, h5⟩
      have HP : Hid (NotPost R w (.returned (.slice A8 C.length c8)) w8) := Lib.hid ⟨C, A8, c8, rfl, h1, fun x => by
        rw [h2 x, Plain.gaps_in D 0 (Int.le_refl _) HND.out (fun r hr => (Plain.Norm_may HND.out r hr).1) x, HID.out x], by rw [Plain.gaps_len, HM.out] at h3; rw [HR.out]; omega, own_base h4 HBn.out.size, HBn.out.trans (h5.mono HBn.out.size)⟩
      clear h1 h2 h3 h4 h5
      go_wp2
      go_ret
      exact HP.out
end Go.Proofs.YtgppobaoclfgcaaGreatDoor
namespace Go.Proofs.YtgppobaoclfgcaaGreatDoor
open Go.RowKit Go.Lib
open Plain (Rg May mayB In Norm put1 mergeL gapF gaps)
theorem neq82 (a b c d : Int) (w : World) : (binOp .neq 71 (.agg #[.int .i32 a, .int .i32 b]) (.agg #[.int .i32 c, .int .i32 d])).run Tryz.prog w = .ok (.bool (!decide ((a, b) = (c, d)))) w := by
  have hm : Tryz.prog.fieldsOf 71 = #[{ name := "Low", type := 21, offset := 0, embedded := false, tag := "", pkgPath := "", byteOffset := 0 }, { name := "High", type := 21, offset := 1, embedded := false, tag := "", pkgPath := "", byteOffset := 4 }] := by kernel_rfl
  rw [run_neq_struct, run_equalIn_agg (d := 9999) w 71 _ _ (by rw [hm]; exact Tryz.underlying71) (by kernel_rfl), hm]
  by_cases h1 : a = c
  · by_cases h2 : b = d
    · simp [Op.eqFields, part, go_sem, Tryz.sizeOf21, Tryz.isAgg21, h1, h2]
    · simp [Op.eqFields, part, go_sem, Tryz.sizeOf21, Tryz.isAgg21, h1, h2]
  · simp [Op.eqFields, part, go_sem, Tryz.sizeOf21, Tryz.isAgg21, h1]
end Go.Proofs.YtgppobaoclfgcaaGreatDoor
namespace Go.Proofs.YtgppobaoclfgcaaGreatDoor
open Go.RowKit Go.Lib
open Plain (Rg May mayB In Norm put1 mergeL gapF gaps)
end Go.Proofs.YtgppobaoclfgcaaGreatDoor
