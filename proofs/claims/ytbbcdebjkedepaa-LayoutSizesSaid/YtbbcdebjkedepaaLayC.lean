/- layout: an arena's classes. Conditions: what each lemma says. -/
import Derived.Test.YtbbcdebjkedepaaLayB
set_option linter.unusedVariables false
set_option linter.unusedSimpArgs false
namespace Go.Proofs.Ytbbcdebjkedepaa
open Go.RowKit Go.Lib
open Plain (Rg May mayB In Norm In4 slotsOf insB bnd riB cls cnot rightB normB)
theorem ru2s_get : ∀ (R : List Rg) (k : Nat) (r : Rg), R[k]? = some r → (ru2s R)[k * 2]? = some (.int .u32 (w32 r.1)) ∧ (ru2s R)[k * 2 + 1]? = some (.int .u32 (w32 r.2))
  | [], k, r, h => by simp at h
  | x :: R, 0, r, h => by simp at h; subst h; exact ⟨rfl, rfl⟩
  | x :: R, k + 1, r, h => by
    have := ru2s_get R k r (by simpa using h)
    have e : ru2s (x :: R) = .int .u32 (w32 x.1) :: .int .u32 (w32 x.2) :: ru2s R := rfl
    rw [e, show (k + 1) * 2 = k * 2 + 1 + 1 by omega]
    exact this
theorem w32_id {x : Int} (h : 0 ≤ x ∧ x < 16777216) : w32 x = x := by unfold w32; omega
theorem info86b : (Try.prog.info? 86).map (fun i => (i.zero, i.size, i.bytes)) = some (some (.agg #[.int .i32 0, .int .i32 0]), 2, 8) := by kernel_rfl
theorem info74b : (Try.prog.info? 74).map (fun i => (i.zero, i.size, i.bytes)) = some (some (.slice none 0 0), 1, 24) := by kernel_rfl
theorem own_Rs {w : World} {base n c : Nat} {A : Option Addr} {R : List Rg} (h : w.ownsRow base 86 2 (.slice A n c) n (rgs R)) (hn : R.length = n) : Rs w A R := fun hl => by
  obtain ⟨g, cap, hv, _, _, hc⟩ := own_at h (by omega)
  injection hv with h1 h2 h3
  exact ⟨g, 0, h1, hc.1, fun i r hr => by rw [Nat.zero_add]; exact ⟨hc.2 _ _ (rgs_get R i r hr).1, hc.2 _ _ (rgs_get R i r hr).2⟩⟩
/-- classes so far: a row of its own, of slices that lie elsewhere -/
structure Clss (B w : World) (v : Value) (M : List Cs) : Prop where
  own : w.ownsRow B.heap.size 74 1 v M.length (M.map clV)
  each : ∀ x ∈ M, Rs w x.A x.R ∧ x.R.length ≤ maxLen
  far : ∀ x ∈ M, ∀ b o, 0 < x.R.length → x.A = some ⟨b, o, none⟩ → v.ownBlock ≠ some b
theorem Clss.kept {B w w' : World} {v : Value} {M : List Cs} (h : Clss B w v M) (hb : Below w.heap.size w w') : Clss B w' v M :=
  ⟨own_below h.own hb, fun x hx => ⟨(h.each x hx).1.below hb, (h.each x hx).2⟩, h.far⟩
theorem Clss.push {B w w2 : World} {v v' : Value} {M : List Cs} {x : Cs} {m : Nat} (h : Clss B w v M) (ho : w2.ownsRow B.heap.size 74 1 v' m (M.map clV ++ [clV x])) (hg : w.grownBy w2 v.ownBlock) (hb : v'.ownBlock = v.ownBlock ∨ v'.ownBlock = some w.heap.size)
    (hx : Rs w x.A x.R ∧ x.R.length ≤ maxLen) (hf : ∀ b o, 0 < x.R.length → x.A = some ⟨b, o, none⟩ → v.ownBlock ≠ some b) : Clss B w2 v' (M ++ [x]) := by
  have hm : m = (M ++ [x]).length := by have := ho.1; simp at this ⊢; omega
  have hr : ∀ y : Cs, Rs w y.A y.R → (∀ b o, 0 < y.R.length → y.A = some ⟨b, o, none⟩ → v.ownBlock ≠ some b) → Rs w2 y.A y.R := fun y hy hfy hn => by
    obtain ⟨b, off, e, hl, hc⟩ := hy hn
    have hbk := hg.block b hl (fun e2 => hfy b off hn e e2.symm)
    exact ⟨b, off, e, Nat.lt_of_lt_of_le hl hg.size, fun i r hi => ⟨(World.cell?_of_block (a := ⟨b, _, none⟩) hbk).trans (hc i r hi).1, (World.cell?_of_block (a := ⟨b, _, none⟩) hbk).trans (hc i r hi).2⟩⟩
  have hfar : ∀ y : Cs, Rs w y.A y.R → (∀ b o, 0 < y.R.length → y.A = some ⟨b, o, none⟩ → v.ownBlock ≠ some b) → ∀ b o, 0 < y.R.length → y.A = some ⟨b, o, none⟩ → v'.ownBlock ≠ some b := fun y hy hfy b o hn e e2 => by
    obtain ⟨b', off, e', hl, hc⟩ := hy hn
    rw [e] at e'
    injection e' with e'
    injection e' with e' _
    subst e'
    rcases hb with h1 | h1
    · exact hfy b o hn e (h1.symm.trans e2)
    · rw [h1] at e2; injection e2 with e2; omega
  subst hm
  refine ⟨by rw [List.map_append]; exact ho, fun y hy => ?_, fun y hy => ?_⟩
  · rcases List.mem_append.1 hy with h1 | h1
    · exact ⟨hr y (h.each y h1).1 (h.far y h1), (h.each y h1).2⟩
    · rw [List.mem_singleton] at h1; subst h1; exact ⟨hr _ hx.1 hf, hx.2⟩
  · rcases List.mem_append.1 hy with h1 | h1
    · exact hfar y (h.each y h1).1 (h.far y h1)
    · rw [List.mem_singleton] at h1; subst h1; exact hfar _ hx.1 hf
set_option maxRecDepth 1000000 in
set_option maxHeartbeats 8000000 in
theorem classes_any (RA GA EA : Option Addr) (rn rc gd ef : Nat) (s : Int) (K : List (List Rg)) (X : List Rg) (w : World) (hG : Sl w GA (ru2s (allR K ++ X))) (hE : Sl w EA (u32s (endsR K)))
    (hb : ∀ r ∈ allR K, (0 ≤ r.1 ∧ r.1 < 16777216) ∧ 0 ≤ r.2 ∧ r.2 < 16777216) (hN : (allR K ++ X).length ≤ 1048576) (hK : K.length ≤ 1048576) (hgd : (allR K ++ X).length ≤ gd) (hne : ∀ R ∈ K, 0 < R.length) :
    Calls Try.prog 38 #[arV RA rn rc GA (allR K ++ X).length gd EA K.length ef s] w fun e w' => ∃ (CA : Option Addr) (cc : Nat) (M : List Cs), e = .returned (.tuple #[.slice CA K.length cc, .bool (X.length == 0)]) ∧ Sl w' CA (M.map clV) ∧
      (∀ x ∈ M, Rs w' x.A x.R ∧ x.R.length ≤ maxLen) ∧ M.map Cs.R = K ∧ Below w.heap.size w w' := by
  obtain ⟨i86, hi86, y0, y1, y2⟩ := info_parts info86b
  obtain ⟨i74, hi74, z0, z1, z2⟩ := info_parts info74b
  unfold arV
  obtain ⟨m, hm⟩ : ∃ m, K.length = m := ⟨_, rfl⟩
  obtain ⟨nx, hnx⟩ : ∃ nx, X.length = nx := ⟨_, rfl⟩
  obtain ⟨na, hna⟩ : ∃ na, (allR K).length = na := ⟨_, rfl⟩
  have hAX : (allR K ++ X).length = na + nx := by rw [List.length_append, hna, hnx]
  rw [hAX] at hN hgd ⊢
  rw [hm] at hK ⊢
  rw [hnx]
  obtain ⟨B, hBe⟩ : ∃ W0, w.alloc (.cells #[.slice RA rn rc, .slice GA (na + nx) gd, .slice EA m ef, .int .u32 s] 43) = W0 := ⟨_, rfl⟩
  have hB0 : Below w.heap.size w B := by rw [← hBe]; exact (Below.refl _ _).alloc (Nat.le_refl _) _
  have hC0 : B.heap[w.heap.size]? = some (.cells #[.slice RA rn rc, .slice GA (na + nx) gd, .slice EA m ef, .int .u32 s] 43 (0, 0)) := by rw [← hBe]; exact heap_alloc_new2 _ _ _ _ rfl
  have HB0 := Lib.hid hB0
  have HC0 := Lib.hid hC0
  have HG := Lib.hid (hG.below hB0)
  have HE := Lib.hid (hE.below hB0)
  have HBD := Lib.hid hb
  have HNE := Lib.hid hne
  have HM := Lib.hid hm
  have HNX := Lib.hid hnx
  have HNA := Lib.hid hna
  have HAX := Lib.hid hAX
  have HBE := Lib.hid hBe
  clear hG hE hb hne hm hnx hna hAX hB0 hC0 hBe
  go_enter Try.func38, Try.ntmps38
  go_upto_region 1 with fail
  rw [HBE.out]
  obtain ⟨p0, p1, p2, p3⟩ := blk_cells4 HC0.out
  go_wp2_with fail
  go_loopw [2, 4, 6, 7, 9, 13] (fun l fr _ _ _ i wr => ∃ (k : Nat) (M : List Cs) (v : Value), v = l ∧ k ≤ m ∧ i = .int .i64 k ∧ fr = .int .u32 ((allR (K.take k)).length : Int) ∧ M.map Cs.R = K.take k ∧ Clss B wr l M ∧ Below B.heap.size B wr) (fun _ _ _ _ _ i _ => m - (RowKit.intOf i).toNat)
  case atStart => exact ⟨0, [], _, rfl, Nat.zero_le _, rfl, rfl, rfl, ⟨World.ownsRow_nil _ _ _ _, fun x hx => absurd hx (by simp), fun x hx => absurd hx (by simp)⟩, Below.refl _ _⟩
  clear p0 p1 p2 p3
  case round =>
    obtain ⟨k, M, v, rfl, hk, rfl, rfl, hMK, hCl, hBw⟩ := hrel
    have HMK := Lib.hid hMK
    have HCl := Lib.hid hCl
    have HBw := Lib.hid hBw
    clear hMK hCl hBw
    obtain ⟨p0, p1, p2, p3⟩ := blk_cells4 (blk_later HC0.out HBw.out)
    by_cases hlt : k < m
    · have hkl : k < K.length := by rw [HM.out]; exact hlt
      have hRne := HNE.out K[k] (List.getElem_mem hkl)
      have hts := Plain.take_snoc K k K[k] (List.getElem?_eq_getElem hkl)
      have hle := allR_take_le K (k + 1)
      have hek := (HE.out.below HBw.out).get k (by rw [endsR_len]; exact hkl)
      have hge : (endsR K).getD k 0 = ((allR (K.take (k + 1))).length : Int) := by
        rw [List.getD_eq_getElem?_getD, show (endsR K)[k]? = some _ from by unfold endsR; rw [List.getElem?_map, List.getElem?_range hkl]; rfl]; rfl
      rw [hge] at hek
      obtain ⟨R, hR⟩ : ∃ R, K[k] = R := ⟨_, rfl⟩
      rw [hR] at hRne hts
      have hpre : ∃ Y, allR K = allR (K.take k) ++ (R ++ Y) := ⟨allR (K.drop (k + 1)), by
        have : K = K.take k ++ (R :: K.drop (k + 1)) := by rw [← hR, List.getElem_cons_drop hkl, List.take_append_drop]
        conv => lhs; rw [this]
        simp [allR]⟩
      obtain ⟨Y, hY⟩ := hpre
      rw [hts, allR_snoc, List.length_append] at hle hek
      obtain ⟨Z, hZ⟩ : ∃ Z, K.take k = Z := ⟨_, rfl⟩
      have hMK := HMK.out
      rw [hZ] at hle hts hY hek hMK ⊢
      obtain ⟨r, hr⟩ : ∃ r, R.length = r := ⟨_, rfl⟩
      obtain ⟨q, hqq⟩ : ∃ q, (allR Z).length = q := ⟨_, rfl⟩
      rw [hr, hqq, HNA.out] at hle
      rw [hr, hqq] at hek
      rw [hr] at hRne
      rw [hqq]
      obtain ⟨be, oe, rfl, hbe, ce⟩ := hek
      have hgl : 0 < (ru2s (allR K ++ X)).length := by rw [ru2s_len, HAX.out]; omega
      obtain ⟨gb, go, rfl, hgb, hcg⟩ := HG.out hgl
      have hget : ∀ j, (h : j < R.length) → (ru2s (allR K ++ X))[(q + j) * 2]? = some (.int .u32 (R[j]'h).1) ∧ (ru2s (allR K ++ X))[(q + j) * 2 + 1]? = some (.int .u32 (R[j]'h).2) := fun j h => by
        have hin : R[j] ∈ allR K := by rw [hY]; exact List.mem_append_right _ (List.mem_append_left _ (List.getElem_mem h))
        have hb := HBD.out _ hin
        have := ru2s_get (allR K ++ X) (q + j) R[j] (by rw [hY, List.append_assoc, List.getElem?_append_right (by omega), hqq, Nat.add_sub_cancel_left, List.append_assoc, List.getElem?_append_left h, List.getElem?_eq_getElem h])
        rwa [w32_id hb.1, w32_id hb.2] at this
      have hbR : ∀ j, (h : j < R.length) → (0 ≤ (R[j]'h).1 ∧ (R[j]'h).1 < 16777216) ∧ 0 ≤ (R[j]'h).2 ∧ (R[j]'h).2 < 16777216 := fun j h => HBD.out _ (by rw [hY]; exact List.mem_append_right _ (List.mem_append_left _ (List.getElem_mem h)))
      have HGET := Lib.hid hget
      have HCG := Lib.hid hcg
      have HBR := Lib.hid hbR
      have HTS := Lib.hid hts
      have HMZ := Lib.hid hMK
      have HR := Lib.hid hr
      have HQ := Lib.hid hqq
      have h32 : ((((na + nx : Nat) : Int)) % 4294967296) = ((na + nx : Nat) : Int) := by omega
      have h33 : (((na : Int) + (nx : Int)) % 4294967296) = ((na : Int) + (nx : Int)) := by omega
      clear hget hcg hbR hts hMK hr hqq hY hZ hR hge hgl HMK
      go_wp2_with fail
      obtain ⟨w3, rfl⟩ : ∃ w3, w3 = wr := ⟨_, rfl⟩
      simp only [Nat.add_sub_cancel_left]
      go_loopw [2, 7, 9, 34] (fun l c _ i w4 => ∃ (j : Nat) (vc : Value), v = l ∧ vc = c ∧ j ≤ r ∧ i = .int .i64 j ∧ Below w3.heap.size w3 w4 ∧ w4.ownsRow w3.heap.size 86 2 vc j (rgs (R.take j))) (fun _ _ _ i _ => r - (RowKit.intOf i).toNat)
      case atStart => exact ⟨0, _, rfl, rfl, Nat.zero_le _, rfl, Below.refl _ _, World.ownsRow_nil _ _ _ _⟩
      clear p0 p1 p2 p3
      case round =>
        obtain ⟨j, vc, rfl, rfl, hj, rfl, hB, hU⟩ := hrel
        have HB := Lib.hid hB
        have HU := Lib.hid hU
        clear hB hU
        by_cases hjlt : j < r
        · have hjl : j < R.length := by rw [HR.out]; exact hjlt
          obtain ⟨ga, gc⟩ := HGET.out j hjl
          have hbj := HBR.out j hjl
          have htk := Plain.take_snoc R j R[j] (List.getElem?_eq_getElem hjl)
          obtain ⟨⟨lo, hi⟩, hx⟩ : ∃ x, R[j] = x := ⟨_, rfl⟩
          rw [hx] at ga gc hbj htk
          dsimp only at ga gc hbj
          obtain ⟨⟨x0, x1⟩, x2, x3⟩ := hbj
          have hgw : gb < wr.heap.size := Nat.lt_of_lt_of_le hgb (HBw.out.trans (HB.out.mono HBw.out.size)).size
          have c0 := ((HBw.out.trans (HB.out.mono HBw.out.size)).cell (p := ⟨gb, go + (q + j) * 2, none⟩) hgb).trans (HCG.out _ _ ga)
          have c1 := ((HBw.out.trans (HB.out.mono HBw.out.size)).cell (p := ⟨gb, go + ((q + j) * 2 + 1), none⟩) hgb).trans (HCG.out _ _ gc)
          rw [show go + (q + j) * 2 = go + q * 2 + j * 2 by omega] at c0
          rw [show go + ((q + j) * 2 + 1) = go + q * 2 + j * 2 + 1 by omega] at c1
          have hst : rgs (R.take (j + 1)) = rgs (R.take j) ++ [.int .i32 lo, .int .i32 hi] := by rw [htk]; unfold rgs; rw [List.flatMap_append]; rfl
          have hw0 : IntKind.i32.wrap lo = lo := by rw [IntKind.wrap_i32]; omega
          have hw1 : IntKind.i32.wrap hi = hi := by rw [IntKind.wrap_i32]; omega
          have HST := Lib.hid hst
          clear hst hx htk ga gc
          go_upto_region 13 with fail
          obtain ⟨wt, hwt⟩ : ∃ W0, wr.alloc (.cells #[.int .u32 lo, .int .u32 hi] 80) = W0 := ⟨_, rfl⟩
          have hbt : Below wr.heap.size wr wt := by rw [← hwt]; exact (Below.refl _ _).alloc (Nat.le_refl _) _
          have hTt : wt.heap[wr.heap.size]? = some (.cells #[.int .u32 lo, .int .u32 hi] 80 (0, 0)) := by rw [← hwt]; exact heap_alloc_new2 _ _ _ _ rfl
          rw [hwt]
          obtain ⟨gt, hgt⟩ : ∃ x, wr.heap.size = x := ⟨_, rfl⟩
          rw [hgt] at hTt ⊢
          have HUt := Lib.hid (own_below HU.out hbt)
          have HBt := Lib.hid (below_then HB.out hbt)
          obtain ⟨t0, t1⟩ : wt.cell? ⟨gt, 0, none⟩ = some (.int .u32 lo) ∧ wt.cell? ⟨gt, 1, none⟩ = some (.int .u32 hi) := ⟨by rw [cell_of_row _ _ _ _ _ _ hTt]; rfl, by rw [cell_of_row _ _ _ _ _ _ hTt]; rfl⟩
          clear hwt hbt hTt c0 c1 hgt hgw HU HB
          go_wp2_with (at_builtin; refine wpList_append_own2 _ rfl (.tmp 46) (.tmp 54) _ rfl w3.heap.size 86 i86 _ 2 8 Try.underlying74 hi86 y0 y1 y2 rfl (by decide) vc j (rgs (R.take j)) rfl (HUt.out.alloc _) ⟨wt.heap.size, 0, none⟩ 1 1 [.int .i32 lo, .int .i32 hi] rfl rfl ?c1 ?c2 ?c3 ?c4 ?c5 ?_)
          case c1 => exact CellsAt_add (CellsAt.new wt _ _)
          case c2 => intro u hu; simp only [List.mem_cons, List.not_mem_nil, or_false] at hu; rcases hu with rfl | rfl <;> rfl
          case c3 => simp only [maxLen]; omega
          case c4 => omega
          case c5 => have := HBt.out.size; simp; omega
          intro v2 w5 hown hgr _
          have hB5 := (below_alloc HBt.out (.cells #[.int .i32 lo, .int .i32 hi] 86)).grown hgr (by have := HBt.out.size; simp; omega) (fun g hg => (HUt.out.lt g hg).1)
          rw [← HST.out] at hown
          have HB5 := Lib.hid hB5
          have HU5 := Lib.hid hown
          clear hB5 hown hgr t0 t1
          go_wp2
          go_roundw
          case rel => exact ⟨j + 1, _, rfl, rfl, by omega, by go_num, HB5.out, HU5.out⟩
          case measure => simp [RowKit.intOf]; omega
        · obtain rfl : r = j := by omega
          have hRt : R.take r = R := List.take_of_length_le (by rw [HR.out]; exact Nat.le_refl _)
          have hU := HU.out
          rw [hRt] at hU
          obtain ⟨cA, cc, rfl⟩ := own_slice hU
          obtain ⟨gc, capc, hv, _, hgc, _⟩ := own_at hU hRne
          injection hv with hv1 hv2 hv3
          subst hv1 hv3
          have HU9 := Lib.hid hU
          have HC9 := Lib.hid (HCl.out.kept HB.out)
          have hml : M.length = k := by have := congrArg List.length HMZ.out; rw [List.length_map] at this; rw [this]; have := congrArg List.length HTS.out; rw [List.length_take, List.length_append, List.length_singleton] at this; have := HM.out; omega
          have HML := Lib.hid hml
          clear hU hRt HU hml
          go_wp2_with (at_builtin; refine wpList_append_own2 _ rfl (.tmp 57) (.tmp 59) _ rfl B.heap.size 74 i74 _ 1 24 Try.underlying23 hi74 z0 z1 z2 rfl (by decide) v M.length (M.map clV) rfl (HC9.out.own.alloc _) ⟨wr.heap.size, 0, none⟩ 1 1 [.slice (some ⟨gc, 0, none⟩) r cc] rfl rfl ?d1 ?d2 ?d3 ?d4 ?d5 ?_)
          case d2 => first | rfl | (intro u hu; simp only [List.mem_cons, List.not_mem_nil, or_false] at hu; subst hu; rfl)
          case d3 => have := HML.out; simp only [maxLen]; omega
          case d4 => have := HML.out; omega
          case d5 => have := (HBw.out.trans (HB.out.mono HBw.out.size)).size; simp; omega
          intro v2 w5 hown hgr hvb
          have hba := below_alloc (Below.refl wr.heap.size wr) (.cells #[.slice (some ⟨gc, 0, none⟩) r cc] 74)
          have hCx : [Value.slice (some ⟨gc, 0, none⟩) r cc] = [clV ⟨some ⟨gc, 0, none⟩, cc, R⟩] := by unfold clV; dsimp only; rw [HR.out]
          rw [hCx] at hown
          have hRs := own_Rs (own_below HU9.out hba) HR.out
          have hC5 := (HC9.out.kept hba).push (x := ⟨some ⟨gc, 0, none⟩, cc, R⟩) hown hgr (by simpa using hvb) ⟨hRs, by dsimp only; rw [HR.out]; simp only [maxLen]; omega⟩ (fun b o _ e e2 => by
            dsimp only at e
            injection e with e
            injection e with e _
            subst e
            have := (HCl.out.own.lt _ e2).2
            omega)
          have hB5 := (below_alloc (HBw.out.trans (HB.out.mono HBw.out.size)) (.cells #[.slice (some ⟨gc, 0, none⟩) r cc] 74)).grown hgr (by have := (HBw.out.trans (HB.out.mono HBw.out.size)).size; simp; omega) (fun g hg => (HCl.out.own.lt g hg).1)
          have HC5 := Lib.hid hC5
          have HB5 := Lib.hid hB5
          clear hC5 hB5 hown hgr hvb hba hCx hRs
          go_wp2
          go_roundw
          case rel => exact ⟨k + 1, M ++ [⟨some ⟨gc, 0, none⟩, cc, R⟩], _, rfl, by omega, by go_num, by rw [HTS.out, allR_snoc, List.length_append, HQ.out, HR.out]; simp, by rw [List.map_append, HMZ.out, HTS.out]; rfl, HC5.out, HB5.out⟩
          case measure => simp [RowKit.intOf]; omega
    · obtain rfl : m = k := by omega
      have hKt : K.take m = K := List.take_of_length_le (by rw [HM.out]; exact Nat.le_refl _)
      have hMK := HMK.out
      rw [hKt] at hMK ⊢
      rw [HNA.out]
      have HMK2 := Lib.hid hMK
      have hml : M.length = m := by have := congrArg List.length hMK; rw [List.length_map, HM.out] at this; exact this
      have HML := Lib.hid hml
      have hO := HCl.out.own
      obtain ⟨lA, lc, rfl⟩ := own_slice hO
      rw [hml] at hO
      have h33 : (((na : Int) + (nx : Int)) % 4294967296) = ((na : Int) + (nx : Int)) := by omega
      clear hKt hMK hml HMK hO
      go_upto_region 17 with fail
      go_quiet (fail)
      have hbd : RowKit.Below wr.heap.size wr (wr.drewN nq) := ⟨rfl, rfl, rfl, Nat.le_refl _, fun _ _ => rfl⟩
      obtain ⟨wz, hwz⟩ : ∃ x, wr.drewN nq = x := ⟨_, rfl⟩
      rw [hwz] at hbd ⊢
      have HBz := Lib.hid hbd
      have HBz2 := Lib.hid (below_then HBw.out hbd)
      have hq : ((na : Int) == (na : Int) + (nx : Int)) = (nx == 0) := by
        rw [Bool.eq_iff_iff]; simp; omega
      rw [hq, HML.out]
      have HCz := Lib.hid (HCl.out.kept hbd)
      clear hwz hbd hq p0 p1 p2 p3
      go_wp2
      go_ret2
      exact ⟨_, _, M, rfl, own_Sl (by have h := HCz.out.own; rwa [HML.out] at h) (by rw [List.length_map, HML.out]), HCz.out.each, HMK2.out, HB0.out.trans (HBz2.out.mono HB0.out.size)⟩
end Go.Proofs.Ytbbcdebjkedepaa
