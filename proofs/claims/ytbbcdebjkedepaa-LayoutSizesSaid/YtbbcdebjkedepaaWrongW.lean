/- LayoutWrong: the walk. Conditions: what each lemma says. -/
import Derived.Test.YtbbcdebjkedepaaLayF
import Derived.Test.YtbbcdebjkedepaaOpenP
import Derived.Deep.RegionHeld3
set_option linter.unusedVariables false
set_option linter.unusedSimpArgs false
namespace Go.Proofs.Ytbbcdebjkedepaa
open Go.RowKit Go.Lib
open Plain (Rg May mayB In Norm In4 slotsOf insB bnd riB cls cnot rightB normB small)
def kR : List (List Rg) := [kA, kB, kN]
/-- one word of a record turned -/
def setW (t : In4) (j : Nat) (v : Int) : In4 := if j = 0 then (v, t.2.1, t.2.2.1, t.2.2.2) else if j = 1 then (t.1, v, t.2.2.1, t.2.2.2) else if j = 2 then (t.1, t.2.1, v, t.2.2.2) else (t.1, t.2.1, t.2.2.1, v)
theorem recsC_set : ∀ (L : List In4) (k : Nat) (t : In4) (j : Nat) (v : Int), L[k]? = some t → j < 4 → 0 ≤ v → v < 4294967296 → recsC (L.set k (setW t j v)) = (recsC L).set (k * 4 + j) (.int .u32 v)
  | [], k, t, j, v, h, _, _, _ => by simp at h
  | u :: L, 0, t, j, v, h, hj, h0, h1 => by
    simp at h
    subst h
    have e : recsC (u :: L) = .int .u32 (w32 u.1) :: .int .u32 (w32 u.2.1) :: .int .u32 (w32 u.2.2.1) :: .int .u32 (w32 u.2.2.2) :: recsC L := rfl
    have hv : w32 v = v := w32_id2 ⟨h0, h1⟩
    match j, hj with
    | 0, _ => rw [e]; show _ :: _ :: _ :: _ :: recsC L = _; simp [setW, recc, hv]
    | 1, _ => rw [e]; show _ :: _ :: _ :: _ :: recsC L = _; simp [setW, recc, hv]
    | 2, _ => rw [e]; show _ :: _ :: _ :: _ :: recsC L = _; simp [setW, recc, hv]
    | 3, _ => rw [e]; show _ :: _ :: _ :: _ :: recsC L = _; simp [setW, recc, hv]
  | u :: L, k + 1, t, j, v, h, hj, h0, h1 => by
    have ih := recsC_set L k t j v (by simpa using h) hj h0 h1
    have e : ∀ M : List In4, recsC (u :: M) = .int .u32 (w32 u.1) :: .int .u32 (w32 u.2.1) :: .int .u32 (w32 u.2.2.1) :: .int .u32 (w32 u.2.2.2) :: recsC M := fun _ => rfl
    rw [List.set_cons_succ, e, e, ih, show (k + 1) * 4 + j = k * 4 + j + 1 + 1 + 1 + 1 by omega]
    rfl
theorem set_bad (L : List In4) (K : List Cs) (g : Int) (hq : pgR L K g = true) (k : Nat) (t : In4) (j : Nat) (v : Int) (ht : L[k]? = some t) (hj : j < 4) (hv : (L.length : Int) + 64 ≤ v) : pgR (L.set k (setW t j v)) K g = false := by
  rw [Bool.eq_false_iff]
  intro h
  have ok := pgR_ok h
  have hk : k < L.length := (List.getElem?_eq_some_iff.1 ht).1
  have hm : setW t j v ∈ L.set k (setW t j v) := List.mem_iff_getElem?.2 ⟨k, by rw [List.getElem?_set_self hk]⟩
  have hr := ok.ri _ hm
  rw [List.length_set] at hr
  have hl := ok.l1
  rw [List.length_set] at hl
  obtain ⟨h1, h2, h3, h4⟩ := riB_small hr hl ok.k1 ok.g0 ok.g1
  match j, hj with
  | 0, _ => simp [setW] at h1; omega
  | 1, _ => simp [setW] at h2; omega
  | 2, _ => simp [setW] at h3; omega
  | 3, _ => simp [setW] at h4; omega
theorem set_tok (L : List In4) (h : ∀ t ∈ L, RecOk t) (k : Nat) (t : In4) (j : Nat) (v : Int) (ht : L[k]? = some t) (h0 : 0 ≤ v) (h1 : v < 4294967296) : ∀ x ∈ L.set k (setW t j v), RecOk x := fun x hx => by
  rcases List.mem_or_eq_of_mem_set hx with h2 | h2
  · exact h x h2
  · have hr := h t (List.mem_iff_getElem?.2 ⟨k, ht⟩)
    obtain ⟨a, b, c, d⟩ := hr
    subst h2
    unfold setW
    split
    · exact ⟨⟨h0, h1⟩, b, c, d⟩
    · split
      · exact ⟨a, ⟨h0, h1⟩, c, d⟩
      · split
        · exact ⟨a, b, ⟨h0, h1⟩, d⟩
        · exact ⟨a, b, c, h0, h1⟩
theorem sl_set {w : World} {g : Nat} {xs : List Value} (h : CellsAt w g xs) (j : Nat) (hj : j < xs.length) (v : Value) : CellsAt (w.setCell ⟨g, j, none⟩ v) g (xs.set j v) := by
  refine ⟨by simp [World.setCell]; exact h.1, fun i u hu => ?_⟩
  by_cases e : j = i
  · subst e
    rw [List.getElem?_set_self hj] at hu
    have hs : (w.cell? ⟨g, j, none⟩).isSome = true := by rw [h.2 j _ (List.getElem?_eq_getElem hj)]; rfl
    rw [World.cell?_setCell_same _ _ _ (h.2 j _ (List.getElem?_eq_getElem hj))]
    exact hu
  · rw [List.getElem?_set_ne e] at hu
    rw [World.cell?_setCell_other _ _ _ _ (fun e2 => e (by injection e2))]
    exact h.2 i u hu
theorem ru2s_one (r : Rg) : ru2s [r] = [.int .u32 (w32 r.1), .int .u32 (w32 r.2)] := rfl
theorem kR_len : (allR kR).length ≤ 4096 ∧ (∀ r ∈ allR kR, (0 ≤ r.1 ∧ r.1 < 16777216) ∧ 0 ≤ r.2 ∧ r.2 < 16777216) ∧ (∀ R ∈ kR, 0 < R.length) ∧ (0 : Nat) < (allR kR).length := by decide +kernel
set_option maxRecDepth 1000000 in
set_option maxHeartbeats 16000000 in
theorem wrong_w (PI PC LA : Option Addr) (PL : List In4) (PK : List Cs) (pic pcc lc : Nat) (pg : Int) (own : Bool) (L : List Int) (g at_ wd more : Int) (W : World) (hC : CodeAt W PI PL PC PK pg LA L g) (ha0 : 0 ≤ at_) (ha1 : at_ < 256) (hd0 : 0 ≤ wd) (hd1 : wd < 256) (hm0 : 0 ≤ more) (hm1 : more < 4294967296) :
    Calls Try.prog 5 #[.agg #[.slice PI PL.length pic, .slice PC PK.length pcc, .int .i64 pg, .bool own, .slice LA L.length lc, .int .u8 g], .int .u8 at_, .int .u8 wd, .int .u32 more] W fun e w' => e = .returned (.bool true) ∧ Below W.heap.size W w' := by
  have CE := Lib.hid (fun W => examples_any W)
  obtain ⟨i79, hi79, y0, y1, y2⟩ := info_parts info79
  obtain ⟨i80, hi80, z0, z1, z2⟩ := info_parts info80
  obtain ⟨LL, hLL⟩ : ∃ x, codeLn L g = x := ⟨_, rfl⟩
  obtain ⟨gq, hgq⟩ : ∃ x, g % 3 = x := ⟨_, rfl⟩
  have hlen := codeLn_len L g
  have hgq2 : 0 ≤ gq ∧ gq ≤ 2 := by have := hC.g0; omega
  have hpr := fun (K : List Cs) (hK : K.map Cs.R = [kA, kB, kN]) => code_right L g K hC.g0 hC.lb hK
  have cc := fun (w : World) (h : Below W.heap.size W w) => code_own PI PC LA PL.length pic PK.length pcc lc pg g L w hC.g0 hC.g1 (hC.l.below h) hC.ll hC.lb
  unfold CodeRes at cc
  rw [hLL] at hlen
  rw [hLL, hgq] at hpr cc
  obtain ⟨n, hn⟩ : ∃ n, LL.length = n := ⟨_, rfl⟩
  have hnb : 1 ≤ n ∧ n ≤ 15 := by omega
  have HPR := Lib.hid hpr
  obtain ⟨q, hq⟩ : ∃ q, (allR kR).length = q := ⟨_, rfl⟩
  have hqb : 0 < q ∧ q ≤ 4096 := by have := kR_len.1; have := kR_len.2.2.2; omega
  have hcof : ∀ (I C : Option Addr) (c : Nat) (K : List Cs) (w : World), PgAt w I LL C K → K.map Cs.R = [kA, kB, kN] → Calls Try.prog 9 #[.agg #[.slice I n c, .slice C 3 3, .int .i64 gq]] w fun e w' =>
      ∃ A0 c0 A1 c1 A2 c2, e = .returned (.tuple #[.agg #[.slice A0 n c0, .slice A1 q c1, .slice A2 3 c2, .int .u32 (2 * gq + 2)], .int .i64 0]) ∧ OwnAr w.heap.size w' A0 LL c0 A1 kR c1 A2 c2 ∧ Below w.heap.size w w' := fun I C c K w hP hK => by
    have h := lof_any I C LL K c 3 gq w hP (hpr K hK)
    unfold OfRes pgV arV at h
    rw [hK, (codeK_ok K hK).1, hn] at h
    rw [← hq]
    exact h
  have CO := Lib.hid hcof
  unfold pgV at cc
  rw [hn] at cc
  have HN := Lib.hid hn
  have HQ := Lib.hid hq
  obtain ⟨ln, hln⟩ : ∃ n, L.length = n := ⟨_, rfl⟩
  obtain ⟨pn, hpn⟩ : ∃ n, PL.length = n := ⟨_, rfl⟩
  obtain ⟨pk, hpk⟩ : ∃ n, PK.length = n := ⟨_, rfl⟩
  rw [hln, hpn, hpk] at cc ⊢
  have CC := Lib.hid cc
  clear hC hln hpn hpk cc hcof hpr hlen hLL hgq hn hq
  go_enter Try.func5, Try.ntmps5
  go_wp2_with fail
  have HB0 := Lib.hid (below_alloc (Below.refl W.heap.size W) (.cells #[.slice PI pn pic, .slice PC pk pcc, .int .i64 pg, .bool own, .slice LA ln lc, .int .u8 g] 28))
  have hX := heap_alloc_new2 W (.cells #[.slice PI pn pic, .slice PC pk pcc, .int .i64 pg, .bool own, .slice LA ln lc, .int .u8 g] 28) W.heap.size _ rfl
  refine (CE.out _).mono ?_
  rintro e1 w1 ⟨rfl, hb⟩
  have HB1 := Lib.hid (below_then HB0.out hb)
  have hX1 := blk_later hX hb
  have hlw := lt_of_some hX1
  have f3 := blk_frozen hX1 3
  have hc1 : CellsAt w1 W.heap.size [.slice PI pn pic, .slice PC pk pcc, .int .i64 pg, .bool own, .slice LA ln lc, .int .u8 g] := ⟨hlw, fun j u hu => by rw [cell_of_row _ _ _ _ _ _ hX1]; simpa using hu⟩
  have x0 := hc1.at_ 0 _ rfl
  have x1 := hc1.at_ 1 _ rfl
  have x2 := hc1.at_ 2 _ rfl
  have x3 := hc1.at_ 3 _ rfl
  have x4 := hc1.at_ 4 _ rfl
  have x5 := hc1.at_ 5 _ rfl
  have hX2 : (w1.setCell ⟨W.heap.size, 3, none⟩ (.bool true)).heap[W.heap.size]? = some (.cells #[.slice PI pn pic, .slice PC pk pcc, .int .i64 pg, .bool true, .slice LA ln lc, .int .u8 g] 28 (0, 0)) := heap_setCell_same _ _ 3 _ _ _ hX1
  have HBS := Lib.hid (HB1.out.setCell (p := ⟨W.heap.size, 3, none⟩) (Nat.le_refl _) (.bool true))
  clear hb hX hc1 hX1
  go_wp2_with fail
  clear x0 x1 x2 x3 x4 x5 f3 hlw
  obtain ⟨w2, hw2⟩ : ∃ W0, w1.setCell ⟨W.heap.size, 3, none⟩ (.bool true) = W0 := ⟨_, rfl⟩
  rw [hw2] at HBS hX2 ⊢
  have HX2 := Lib.hid hX2
  clear hw2 hX2
  have HXX := Lib.hid (fun (w' : World) (h : Below w2.heap.size w2 w') => show _ ∧ _ ∧ _ ∧ _ ∧ _ ∧ _ from (by
    have hX1 := blk_later HX2.out h
    have hc1 : CellsAt w' W.heap.size [.slice PI pn pic, .slice PC pk pcc, .int .i64 pg, .bool true, .slice LA ln lc, .int .u8 g] := ⟨lt_of_some hX1, fun j u hu => by rw [cell_of_row _ _ _ _ _ _ hX1]; simpa using hu⟩
    exact ⟨hc1.at_ 0 _ rfl, hc1.at_ 1 _ rfl, hc1.at_ 2 _ rfl, hc1.at_ 3 _ rfl, hc1.at_ 4 _ rfl, hc1.at_ 5 _ rfl⟩))
  have HR0 := Lib.hid (Below.refl w2.heap.size w2)
  refine (CC.out _ HBS.out).mono ?_
  rintro e w1a ⟨I1, ci1, gc1, K1, rfl, _, hP, hK, hb⟩
  have HB1a := Lib.hid (below_then HBS.out hb)
  have HB1r := Lib.hid (below_then HR0.out hb)
  have HB1m := Lib.hid hb
  have HP1 := Lib.hid hP
  have HK1 := Lib.hid hK
  clear hb hP hK
  go_wp2_with fail
  refine (CO.out I1 _ ci1 K1 _ HP1.out HK1.out).mono ?_
  rintro e w1b ⟨A1, ca1, G1, cg1, E1, ce1, rfl, hO, hb⟩
  have HB1b := Lib.hid (below_then HB1a.out hb)
  have HR1 := Lib.hid (below_then HB1r.out hb)
  have HM1 := Lib.hid (below_then HB1m.out hb)
  have HO1 := Lib.hid hO
  clear hb hO
  go_upto_region 6 with fail
  obtain ⟨w1c, hw⟩ : ∃ x, w1b.alloc (.cells #[.slice A1 n ca1, .slice G1 q cg1, .slice E1 3 ce1, .int .u32 (2 * gq + 2)] 43) = x := ⟨_, rfl⟩
  have hb : Below w1b.heap.size w1b w1c := by rw [← hw]; exact below_alloc (Below.refl _ _) _
  have hx : w1c.heap[w1b.heap.size]? = some (.cells #[.slice A1 n ca1, .slice G1 q cg1, .slice E1 3 ce1, .int .u32 (2 * gq + 2)] 43 (0, 0)) := by rw [← hw]; exact heap_alloc_new2 _ _ _ _ rfl
  rw [hw]
  obtain ⟨g1, hg⟩ : ∃ x, w1b.heap.size = x := ⟨_, rfl⟩
  have HB1 := Lib.hid (below_then HB1b.out hb)
  have HRR1 := Lib.hid (below_then HR1.out hb)
  have HMM1 := Lib.hid (below_then HM1.out hb)
  have HOO1 := Lib.hid (HO1.out.kept hb)
  rw [hg] at hx ⊢
  have HXA1 := Lib.hid hx
  have hlG1 : ∀ b, (Value.slice G1 q cg1).ownBlock = some b → b < g1 := fun b h => by have := (HO1.out.o1.lt b (by rw [HQ.out]; exact h)).2; omega
  have hlE1 : ∀ b, (Value.slice E1 3 ce1).ownBlock = some b → b < g1 := fun b h => by have := (HO1.out.o2.lt b h).2; omega
  have hlA1 : ∀ b, (Value.slice A1 n ca1).ownBlock = some b → b < g1 := fun b h => by have := (HO1.out.o0.lt b (by rw [HN.out]; exact h)).2; omega
  have hgM1 : w2.heap.size ≤ g1 := by rw [← hg]; exact HM1.out.size
  have hgR1 : w2.heap.size ≤ g1 := by rw [← hg]; exact HR1.out.size
  have hgW1 : W.heap.size ≤ g1 := by rw [← hg]; exact HB1b.out.size
  clear hw hb hx hg HB1a HB1b HR1 HO1 HB1r HB1m HM1
  obtain ⟨a0, a1, a2, a3⟩ := blk_cells4 HXA1.out
  have nz : ((n : Int) == 0) = false := by simp; omega
  have fa0 := blk_frozen HXA1.out 0
  obtain ⟨gA, kp, hv, _, hgA, hcA⟩ := own_at HOO1.out.o0 (by rw [HN.out]; omega)
  injection hv with hv1 _ _
  subst hv1
  have HCA := Lib.hid hcA
  clear hcA hgA
  go_upto_region 8 with fail
  go_wp2_with (at_builtin; refine wpList_append_own2 _ rfl (.const (.slice none 0 0)) (.tmp 37) _ rfl W.heap.size 79 i79 _ 4 16 Try.underlying38 hi79 y0 y1 y2 rfl (by decide) (.slice none 0 0) 0 [] rfl (World.ownsRow_nil _ _ _ _) ⟨gA, 0, none⟩ n _ (recsC LL) rfl (by rw [recsC_len, HN.out]) (CellsAt_add HCA.out) ?c1 ?c2 ?c3 ?c4 ?_)
  case c1 => (intro u hu; unfold recsC recc at hu; simp only [List.mem_flatMap, List.mem_cons, List.not_mem_nil, or_false] at hu; obtain ⟨t, _, h⟩ := hu; rcases h with rfl | rfl | rfl | rfl <;> rfl)
  case c2 => simp only [maxLen]; omega
  case c3 => omega
  case c4 => exact HB1.out.size
  intro v4 w4 hown hgr hvb
  obtain ⟨gl, cl, rfl, hmcl, hgl, hcl⟩ := own_at hown (by omega)
  have hbl : Below w1c.heap.size w1c w4 := ⟨hgr.os, hgr.tape, hgr.output, hgr.size, fun k hk => hgr.block k hk (by simp [Value.ownBlock])⟩
  have hgl2 : w1c.heap.size ≤ gl := by
    rcases hvb with e | e
    · simp [Value.ownBlock] at e
    · simp [Value.ownBlock] at e; omega
  have hg1l : g1 < w1c.heap.size := lt_of_some HXA1.out
  have hfr := own_frozen hown
  have HX4 := Lib.hid (blk_later HXA1.out hbl)
  have HO4 := Lib.hid (HOO1.out.kept hbl)
  have HB4 := Lib.hid (below_then HB1.out hbl)
  have HR4 := Lib.hid (below_then HRR1.out hbl)
  have HL4 := Lib.hid hcl
  have HFR := Lib.hid hfr
  clear hown hgr hvb hcl hbl hfr a0 a1 a2 a3 fa0 HXA1 HOO1
  obtain ⟨a0, a1, a2, a3⟩ := blk_cells4 HX4.out
  have fa0 := blk_frozen HX4.out 0
  go_upto_region 9 with fail
  obtain ⟨wq, hwq⟩ : ∃ W0, w4.setCell ⟨g1, 0, none⟩ (.slice (some ⟨gl, 0, none⟩) n cl) = W0 := ⟨_, rfl⟩
  have hXq : wq.heap[g1]? = some (.cells #[.slice (some ⟨gl, 0, none⟩) n cl, .slice G1 q cg1, .slice E1 3 ce1, .int .u32 (2 * gq + 2)] 43 (0, 0)) := by rw [← hwq]; exact heap_setCell_same _ _ 0 _ _ _ HX4.out
  have hbq : Below W.heap.size W wq := by rw [← hwq]; exact HB4.out.setCell hgW1 _
  have hrq : Below w2.heap.size w2 wq := by rw [← hwq]; exact HR4.out.setCell hgR1 _
  have hlq : CellsAt wq gl (recsC LL) := by
    rw [← hwq]
    refine ⟨by simpa [World.setCell] using HL4.out.1, fun j u hu => ?_⟩
    exact (World.cell?_of_block (a := ⟨gl, j, none⟩) (heap_setCell_other w4 ⟨g1, 0, none⟩ gl _ (Nat.ne_of_gt (Nat.lt_of_lt_of_le hg1l hgl2)))).trans (HL4.out.2 j u hu)
  have hoG : wq.ownsRow w1a.heap.size 80 2 (.slice G1 q cg1) q (ru2s (allR kR)) := by rw [← hwq]; have h := HO4.out.o1; rw [HQ.out] at h; exact ownsRow_setCell_other h (fun e => Nat.lt_irrefl _ (hlG1 _ e)) _
  have hoE : wq.ownsRow w1a.heap.size 41 1 (.slice E1 3 ce1) 3 (u32s (endsR kR)) := by rw [← hwq]; have h : w4.ownsRow w1a.heap.size 41 1 (.slice E1 3 ce1) 3 (u32s (endsR kR)) := HO4.out.o2; exact ownsRow_setCell_other h (fun e => Nat.lt_irrefl _ (hlE1 _ e)) _
  have hfq : ∀ j, wq.frozen? ⟨gl, j, none⟩ = false := fun j => by
    rw [← hwq]
    have h := HFR.out j
    unfold World.frozen? at h ⊢
    rw [heap_setCell_other w4 ⟨g1, 0, none⟩ gl _ (Nat.ne_of_gt (Nat.lt_of_lt_of_le hg1l hgl2))]
    exact h
  have hszq : w1c.heap.size ≤ wq.heap.size := by rw [← hwq]; have := HL4.out.1; simp [World.setCell]; omega
  have ARt := HO4.out.at_
  have HTK := Lib.hid (And.intro ARt.tok ARt.gd)
  rw [hwq]
  have HBq := Lib.hid hbq
  have HRq := Lib.hid hrq
  have HXq := Lib.hid hXq
  have HLq := Lib.hid hlq
  have HoG := Lib.hid hoG
  have HoE := Lib.hid hoE
  have HFRq := Lib.hid hfq
  clear hbq hrq hXq hlq hoG hoE hfq hwq a0 a1 a2 a3 fa0 HX4 HO4 HB4 HR4 HL4 HFR ARt
  obtain ⟨k, hk⟩ : ∃ k : Nat, at_ % (n : Int) = k := ⟨(at_ % (n : Int)).toNat, by have := Int.emod_nonneg at_ (show (n : Int) ≠ 0 by omega); omega⟩
  have hkn : k < n := by have := Int.emod_lt_of_pos at_ (show (0 : Int) < n by omega); omega
  have hkt : Int.tmod at_ (n : Int) = k := by rw [Int.tmod_eq_emod_of_nonneg ha0]; exact hk
  obtain ⟨j, hj⟩ : ∃ j : Nat, wd % 4 = j := ⟨(wd % 4).toNat, by omega⟩
  have hj4 : j < 4 := by omega
  have hjt : Int.tmod wd 4 = j := by rw [Int.tmod_eq_emod_of_nonneg hd0]; exact hj
  obtain ⟨mr, hmr⟩ : ∃ x, more % 1000000 = x := ⟨_, rfl⟩
  have hmt : Int.tmod more 1000000 = mr := by rw [Int.tmod_eq_emod_of_nonneg hm0]; exact hmr
  have hmb : 0 ≤ mr ∧ mr < 1000000 := by omega
  have hnn : ¬ n = 0 := by omega
  have hw0 : IntKind.i64.wrap at_ = at_ := by rw [IntKind.wrap_i64]; omega
  have hv1 : (n : Int) % 4294967296 = n := by omega
  have hv2 : ((n : Int) + 64) % 4294967296 = (n : Int) + 64 := by omega
  have hv3 : ((n : Int) + 64 + mr) % 4294967296 = (n : Int) + 64 + mr := by omega
  have hv4 : IntKind.u32.wrap ((n : Int) + 64) = (n : Int) + 64 := by simp [IntKind.wrap, IntKind.bits, IntKind.signed]; omega
  have hv5 : IntKind.u32.wrap ((n : Int) + 64 + mr) = (n : Int) + 64 + mr := by simp [IntKind.wrap, IntKind.bits, IntKind.signed]; omega
  have HFq := Lib.hid (fun (w' : World) (hw : Below wq.heap.size wq w') => blk_cells4 (blk_later HXq.out hw))
  have HBD := Lib.hid (Below.drew (Below.refl wq.heap.size wq))
  refine wp_region_noPanic ?_
  refine wp_region_T 19 (S := fun w' : World => Below wq.heap.size wq w') (by kernel_rfl) (by decide) ?_
  refine wpAnyT_take2 0 (v := ?tvw0) (by kernel_rfl) rfl (by kernel_rfl) (fun _ _ _ h => h) (Or.inl ⟨by rfl, ?tyw0⟩) HBD.out ?trw0
  case tyw0 => (intro w' hSw; (try dsimp only at hSw); go_simp; try with_reducible rfl)
  try simp only [Act.put, List.setIfInBounds_toArray, List.set_cons_zero, List.set_cons_succ]
  refine wpAnyT_take2 1 (v := ?tvw1) (by kernel_rfl) rfl (by kernel_rfl) (fun _ _ _ h => h) (Or.inl ⟨by rfl, ?tyw1⟩) HBD.out ?trw1
  case tyw1 => (intro w' hSw; obtain ⟨f0, f1, f2, f3⟩ := HFq.out w' hSw; (try dsimp only at hSw); go_simp; try with_reducible rfl)
  try simp only [Act.put, List.setIfInBounds_toArray, List.set_cons_zero, List.set_cons_succ]
  refine wpAnyT_take2 2 (v := ?tvw2) (by kernel_rfl) rfl (by kernel_rfl) (fun _ _ _ h => h) (Or.inl ⟨by rfl, ?tyw2⟩) HBD.out ?trw2
  case tyw2 => (intro w' hSw; (try dsimp only at hSw); go_simp; try with_reducible rfl)
  try simp only [Act.put, List.setIfInBounds_toArray, List.set_cons_zero, List.set_cons_succ]
  refine wpAnyT_take2 3 (v := ?tvw3) (by kernel_rfl) rfl (by kernel_rfl) (fun _ _ _ h => h) (Or.inl ⟨by rfl, ?tyw3⟩) HBD.out ?trw3
  case tyw3 => (intro w' hSw; (try dsimp only at hSw); go_simp; try with_reducible rfl)
  try simp only [Act.put, List.setIfInBounds_toArray, List.set_cons_zero, List.set_cons_succ]
  refine wpAnyT_take2 4 (v := ?tvw4) (by kernel_rfl) rfl (by kernel_rfl) (fun _ _ _ h => h) (Or.inl ⟨by rfl, ?tyw4⟩) HBD.out ?trw4
  case tyw4 => (intro w' hSw; (try dsimp only at hSw); go_simp; try with_reducible rfl)
  try simp only [Act.put, List.setIfInBounds_toArray, List.set_cons_zero, List.set_cons_succ]
  refine wpAnyT_take2 5 (v := ?tvw5) (by kernel_rfl) rfl (by kernel_rfl) (fun _ _ _ h => h) (Or.inl ⟨by rfl, ?tyw5⟩) HBD.out ?trw5
  case tyw5 => (intro w' hSw; obtain ⟨f0, f1, f2, f3⟩ := HFq.out w' hSw; (try dsimp only at hSw); go_simp; try with_reducible rfl)
  try simp only [Act.put, List.setIfInBounds_toArray, List.set_cons_zero, List.set_cons_succ]
  refine wpAnyT_take2 6 (v := ?tvw6) (by kernel_rfl) rfl (by kernel_rfl) (fun _ _ _ h => h) (Or.inl ⟨by rfl, ?tyw6⟩) HBD.out ?trw6
  case tyw6 => (intro w' hSw; (try dsimp only at hSw); go_simp; try with_reducible rfl)
  try simp only [Act.put, List.setIfInBounds_toArray, List.set_cons_zero, List.set_cons_succ]
  refine wpAnyT_take2 7 (v := ?tvw7) (by kernel_rfl) rfl (by kernel_rfl) (fun _ _ _ h => h) (Or.inl ⟨by rfl, ?tyw7⟩) HBD.out ?trw7
  case tyw7 => (intro w' hSw; (try dsimp only at hSw); go_simp; try with_reducible rfl)
  try simp only [Act.put, List.setIfInBounds_toArray, List.set_cons_zero, List.set_cons_succ]
  refine wpAnyT_take2 8 (v := ?tvw8) (by kernel_rfl) rfl (by kernel_rfl) (fun _ _ _ h => h) (Or.inl ⟨by rfl, ?tyw8⟩) HBD.out ?trw8
  case tyw8 => (intro w' hSw; (try dsimp only at hSw); go_simp; try with_reducible rfl)
  try simp only [Act.put, List.setIfInBounds_toArray, List.set_cons_zero, List.set_cons_succ]
  refine wpAnyT_take2 9 (v := ?tvw9) (by kernel_rfl) rfl (by kernel_rfl) (fun _ _ _ h => h) (Or.inl ⟨by rfl, ?tyw9⟩) HBD.out ?trw9
  case tyw9 => (intro w' hSw; (try dsimp only at hSw); go_simp; try with_reducible rfl)
  try simp only [Act.put, List.setIfInBounds_toArray, List.set_cons_zero, List.set_cons_succ]
  refine wpAnyT_take2 10 (v := ?tvw10) (by kernel_rfl) rfl (by kernel_rfl) (fun _ _ _ h => h) (Or.inl ⟨by rfl, ?tyw10⟩) HBD.out ?trw10
  case tyw10 => (intro w' hSw; (try dsimp only at hSw); go_simp; try with_reducible rfl)
  try simp only [Act.put, List.setIfInBounds_toArray, List.set_cons_zero, List.set_cons_succ]
  refine wpAnyT_take2 11 (v := ?tvw11) (by kernel_rfl) rfl (by kernel_rfl) (fun _ _ _ h => h) (Or.inl ⟨by rfl, ?tyw11⟩) HBD.out ?trw11
  case tyw11 => (intro w' hSw; obtain ⟨f0, f1, f2, f3⟩ := HFq.out w' hSw; (try dsimp only at hSw); go_simp; try with_reducible rfl)
  try simp only [Act.put, List.setIfInBounds_toArray, List.set_cons_zero, List.set_cons_succ]
  refine wpAnyT_take2 12 (v := ?tvw12) (by kernel_rfl) rfl (by kernel_rfl) (fun _ _ _ h => h) (Or.inl ⟨by rfl, ?tyw12⟩) HBD.out ?trw12
  case tyw12 => (intro w' hSw; (try dsimp only at hSw); go_simp; try with_reducible rfl)
  try simp only [Act.put, List.setIfInBounds_toArray, List.set_cons_zero, List.set_cons_succ]
  refine wpAnyT_take2 13 (v := ?tvw13) (by kernel_rfl) rfl (by kernel_rfl) (fun _ _ _ h => h) (Or.inl ⟨by rfl, ?tyw13⟩) HBD.out ?trw13
  case tyw13 => (intro w' hSw; (try dsimp only at hSw); go_simp; try with_reducible rfl)
  try simp only [Act.put, List.setIfInBounds_toArray, List.set_cons_zero, List.set_cons_succ]
  refine wpAnyT_take2 14 (v := ?tvw14) (by kernel_rfl) rfl (by kernel_rfl) (fun _ _ _ h => h) (Or.inl ⟨by rfl, ?tyw14⟩) HBD.out ?trw14
  case tyw14 => (intro w' hSw; (try dsimp only at hSw); go_simp; try with_reducible rfl)
  try simp only [Act.put, List.setIfInBounds_toArray, List.set_cons_zero, List.set_cons_succ]
  refine wpAnyT_take2 15 (v := ?tvw15) (by kernel_rfl) rfl (by kernel_rfl) (fun _ _ _ h => h) (Or.inl ⟨by rfl, ?tyw15⟩) HBD.out ?trw15
  case tyw15 => (intro w' hSw; (try dsimp only at hSw); go_simp; try with_reducible rfl)
  try simp only [Act.put, List.setIfInBounds_toArray, List.set_cons_zero, List.set_cons_succ]
  refine wpAnyT_take2 16 (v := ?tvw16) (by kernel_rfl) rfl (by kernel_rfl) (fun _ _ _ h => h) (Or.inl ⟨by rfl, ?tyw16⟩) HBD.out ?trw16
  case tyw16 => (intro w' hSw; (try dsimp only at hSw); go_simp; try with_reducible rfl)
  try simp only [Act.put, List.setIfInBounds_toArray, List.set_cons_zero, List.set_cons_succ]
  refine wpAnyT_take2 17 (v := ?tvw17) (by kernel_rfl) rfl (by kernel_rfl) (fun _ _ _ h => h) (Or.inl ⟨by rfl, ?tyw17⟩) HBD.out ?trw17
  case tyw17 => (intro w' hSw; (try dsimp only at hSw); go_simp; try with_reducible rfl)
  try simp only [Act.put, List.setIfInBounds_toArray, List.set_cons_zero, List.set_cons_succ]
  refine wpAnyT_take2 18 (v := ?tvw18) (by kernel_rfl) rfl (by kernel_rfl) (fun _ _ _ h => h) (Or.inl ⟨by rfl, ?tyw18⟩) HBD.out ?trw18
  case tyw18 => (intro w' hSw; (try dsimp only at hSw); go_simp; try with_reducible rfl)
  try simp only [Act.put, List.setIfInBounds_toArray, List.set_cons_zero, List.set_cons_succ]
  refine ⟨by kernel_rfl, ?_⟩
  change wpList _ _ _ [_, _] _ _
  obtain ⟨u, hu⟩ : ∃ u, (recsC LL)[k * 4 + j]? = some u := ⟨_, List.getElem?_eq_getElem (by rw [recsC_len, HN.out]; omega)⟩
  have cj : wq.drew.cell? ⟨gl, k * 4 + j, none⟩ = some u := HLq.out.2 _ _ hu
  have fj : wq.drew.frozen? ⟨gl, k * 4 + j, none⟩ = false := HFRq.out _
  have hlg : gl < wq.drew.heap.size := HLq.out.1
  go_wp2
  refine NoPanic.normal ?_
  go_upto_region 10 with fail
  obtain ⟨V, hV⟩ : ∃ V, (n : Int) + 64 + mr = V := ⟨_, rfl⟩
  have hVb : (n : Int) + 64 ≤ V ∧ V < 4294967296 := by omega
  rw [hV]
  rw [show (wq.setCell ⟨gl, k * 4 + j, none⟩ (.int .u32 V)).drew = wq.drew.setCell ⟨gl, k * 4 + j, none⟩ (.int .u32 V) from rfl]
  obtain ⟨wr, hwr⟩ : ∃ W0, wq.drew.setCell ⟨gl, k * 4 + j, none⟩ (.int .u32 V) = W0 := ⟨_, rfl⟩
  obtain ⟨t, ht⟩ : ∃ t, LL[k]? = some t := ⟨_, List.getElem?_eq_getElem (by rw [HN.out]; exact hkn)⟩
  have hrs := recsC_set LL k t j V ht hj4 (by omega) hVb.2
  have hbad := fun (K : List Cs) (hK : K.map Cs.R = [kA, kB, kN]) => set_bad LL K gq (HPR.out K hK) k t j V ht hj4 (by rw [HN.out]; exact hVb.1)
  have htok := set_tok LL HTK.out.1 k t j V ht (by omega) hVb.2
  obtain ⟨L2, hL2⟩ : ∃ L2, LL.set k (setW t j V) = L2 := ⟨_, rfl⟩
  have hl2 : L2.length = n := by rw [← hL2, List.length_set, HN.out]
  rw [hL2] at hrs hbad htok
  have hrec : CellsAt wr gl (recsC L2) := by
    rw [hrs, ← hwr]
    exact sl_set (w := wq.drew) ⟨hlg, fun i v hv => HLq.out.2 i v hv⟩ (k * 4 + j) (by rw [recsC_len, HN.out]; omega) _
  have hxr : wr.heap[g1]? = some (.cells #[.slice (some ⟨gl, 0, none⟩) n cl, .slice G1 q cg1, .slice E1 3 ce1, .int .u32 (2 * gq + 2)] 43 (0, 0)) := by
    rw [← hwr]
    exact (heap_setCell_other wq.drew ⟨gl, k * 4 + j, none⟩ g1 _ (Nat.ne_of_lt (Nat.lt_of_lt_of_le hg1l hgl2))).trans HXq.out
  have hglW : W.heap.size ≤ gl := by have := HB1.out.size; omega
  have hglR : w2.heap.size ≤ gl := by have := HRR1.out.size; omega
  have hbr : Below W.heap.size W wr := by rw [← hwr]; exact HBq.out.drew.setCell hglW _
  have hrr : Below w2.heap.size w2 wr := by rw [← hwr]; exact HRq.out.drew.setCell hglR _
  have hoG : wr.ownsRow w1a.heap.size 80 2 (.slice G1 q cg1) q (ru2s (allR kR)) := by
    rw [← hwr]; exact ownsRow_setCell_other (own_below HoG.out (Below.refl _ _).drew) (fun e => Nat.lt_irrefl _ (Nat.lt_of_lt_of_le (Nat.lt_trans (hlG1 _ e) hg1l) hgl2)) _
  have hoE : wr.ownsRow w1a.heap.size 41 1 (.slice E1 3 ce1) 3 (u32s (endsR kR)) := by
    rw [← hwr]; exact ownsRow_setCell_other (own_below HoE.out (Below.refl _ _).drew) (fun e => Nat.lt_irrefl _ (Nat.lt_of_lt_of_le (Nat.lt_trans (hlE1 _ e) hg1l) hgl2)) _
  have har : ArAt wr (some ⟨gl, 0, none⟩) L2 G1 kR [] E1 cg1 :=
    ⟨fun _ => ⟨gl, 0, rfl, hrec.1, fun i v hv => by rw [Nat.zero_add]; exact hrec.2 i v hv⟩, by rw [List.append_nil]; exact own_SlN hoG (by rw [ru2s_len, HQ.out]; omega), own_SlN hoE (by simp [u32s, endsR, kR]), kR_len.2.1, htok, by rw [List.append_nil, HQ.out]; omega, by decide, by rw [hl2]; omega, by rw [List.append_nil]; exact HTK.out.2, kR_len.2.2.1⟩
  rw [hwr]
  have HBr := Lib.hid hbr
  have HRr := Lib.hid hrr
  have HXr := Lib.hid hxr
  have HAr := Lib.hid har
  have HL2 := Lib.hid hl2
  have HBAD := Lib.hid hbad
  clear hbr hrr hxr har hl2 hbad hwr hoG hoE hrec cj fj hu hlg HBq HRq HXq HLq HoG HoE HFRq hrs htok hL2 ht hV hkt hjt hmt hk hj hmr hv1 hv2 hv3 hv4 hv5 hw0 HFq HBD
  obtain ⟨x0, x1, x2, x3, x4, x5⟩ := HXX.out wr HRr.out
  go_wp2_with fail
  clear x0 x1 x2 x3 x4 x5
  refine (CC.out _ HBr.out).mono ?_
  rintro e w2a ⟨I2, ci2, gc2, K2, rfl, _, hP, hK, hb⟩
  have HB2a := Lib.hid (below_then HBr.out hb)
  have HB2r := Lib.hid (below_then HRr.out hb)
  have HB2m := Lib.hid hb
  have HP2 := Lib.hid hP
  have HK2 := Lib.hid hK
  clear hb hP hK
  go_wp2_with fail
  refine (CO.out I2 _ ci2 K2 _ HP2.out HK2.out).mono ?_
  rintro e w2b ⟨A2, ca2, G2, cg2, E2, ce2, rfl, hO, hb⟩
  have HB2b := Lib.hid (below_then HB2a.out hb)
  have HR2 := Lib.hid (below_then HB2r.out hb)
  have HM2 := Lib.hid (below_then HB2m.out hb)
  have HO2 := Lib.hid hO
  clear hb hO
  go_upto_region 11 with fail
  obtain ⟨w2c, hw⟩ : ∃ x, w2b.alloc (.cells #[.slice A2 n ca2, .slice G2 q cg2, .slice E2 3 ce2, .int .u32 (2 * gq + 2)] 43) = x := ⟨_, rfl⟩
  have hb : Below w2b.heap.size w2b w2c := by rw [← hw]; exact below_alloc (Below.refl _ _) _
  have hx : w2c.heap[w2b.heap.size]? = some (.cells #[.slice A2 n ca2, .slice G2 q cg2, .slice E2 3 ce2, .int .u32 (2 * gq + 2)] 43 (0, 0)) := by rw [← hw]; exact heap_alloc_new2 _ _ _ _ rfl
  rw [hw]
  obtain ⟨g2, hg⟩ : ∃ x, w2b.heap.size = x := ⟨_, rfl⟩
  have HB2 := Lib.hid (below_then HB2b.out hb)
  have HRR2 := Lib.hid (below_then HR2.out hb)
  have HMM2 := Lib.hid (below_then HM2.out hb)
  have HOO2 := Lib.hid (HO2.out.kept hb)
  rw [hg] at hx ⊢
  have HXA2 := Lib.hid hx
  have hlG2 : ∀ b, (Value.slice G2 q cg2).ownBlock = some b → b < g2 := fun b h => by have := (HO2.out.o1.lt b (by rw [HQ.out]; exact h)).2; omega
  have hlE2 : ∀ b, (Value.slice E2 3 ce2).ownBlock = some b → b < g2 := fun b h => by have := (HO2.out.o2.lt b h).2; omega
  have hlA2 : ∀ b, (Value.slice A2 n ca2).ownBlock = some b → b < g2 := fun b h => by have := (HO2.out.o0.lt b (by rw [HN.out]; exact h)).2; omega
  have hgM2 : wr.heap.size ≤ g2 := by rw [← hg]; exact HM2.out.size
  have hgR2 : w2.heap.size ≤ g2 := by rw [← hg]; exact HR2.out.size
  have hgW2 : W.heap.size ≤ g2 := by rw [← hg]; exact HB2b.out.size
  clear hw hb hx hg HB2a HB2b HR2 HO2 HB2r HB2m HM2
  obtain ⟨b0, b1, b2, b3⟩ := blk_cells4 HXA2.out
  have fb3 := blk_frozen HXA2.out 3
  have hs1 : (2 * gq + 2 + 1) % 4294967296 = 2 * gq + 3 := by omega
  have hs2 : IntKind.u32.wrap (2 * gq + 2 + 1) = 2 * gq + 3 := by simp [IntKind.wrap, IntKind.bits, IntKind.signed]; omega
  go_upto_region 12 with fail
  obtain ⟨w2d, hw⟩ : ∃ W0, w2c.setCell ⟨g2, 3, none⟩ (.int .u32 (2 * gq + 3)) = W0 := ⟨_, rfl⟩
  have hx : w2d.heap[g2]? = some (.cells #[.slice A2 n ca2, .slice G2 q cg2, .slice E2 3 ce2, .int .u32 (2 * gq + 3)] 43 (0, 0)) := by rw [← hw]; exact heap_setCell_same _ _ 3 _ _ _ HXA2.out
  have hb : Below W.heap.size W w2d := by rw [← hw]; exact HB2.out.setCell hgW2 _
  have hr : Below w2.heap.size w2 w2d := by rw [← hw]; exact HRR2.out.setCell hgR2 _
  have hmn : Below wr.heap.size wr w2d := by rw [← hw]; exact HMM2.out.setCell hgM2 _
  have hoA : w2d.ownsRow w2a.heap.size 79 4 (.slice A2 n ca2) n (recsC LL) := by rw [← hw]; have h := HOO2.out.o0; rw [HN.out] at h; exact ownsRow_setCell_other h (fun e => Nat.lt_irrefl _ (hlA2 _ e)) _
  have hoG : w2d.ownsRow w2a.heap.size 80 2 (.slice G2 q cg2) q (ru2s (allR kR)) := by rw [← hw]; have h := HOO2.out.o1; rw [HQ.out] at h; exact ownsRow_setCell_other h (fun e => Nat.lt_irrefl _ (hlG2 _ e)) _
  have hoE : w2d.ownsRow w2a.heap.size 41 1 (.slice E2 3 ce2) 3 (u32s (endsR kR)) := by rw [← hw]; have h : w2c.ownsRow w2a.heap.size 41 1 (.slice E2 3 ce2) 3 (u32s (endsR kR)) := HOO2.out.o2; exact ownsRow_setCell_other h (fun e => Nat.lt_irrefl _ (hlE2 _ e)) _
  have har : ArAt w2d A2 LL G2 kR [] E2 cg2 :=
    ⟨own_SlN hoA (by rw [recsC_len, HN.out]; omega), by rw [List.append_nil]; exact own_SlN hoG (by rw [ru2s_len, HQ.out]; omega), own_SlN hoE (by simp [u32s, endsR, kR]), kR_len.2.1, HTK.out.1, by rw [List.append_nil, HQ.out]; omega, by decide, by rw [HN.out]; omega, by rw [List.append_nil]; exact own_le HOO2.out.o1, kR_len.2.2.1⟩
  rw [hw]
  have HXB := Lib.hid hx
  have HBd := Lib.hid hb
  have HRd := Lib.hid hr
  have HMd := Lib.hid hmn
  have HAb := Lib.hid har
  clear hw hx hb hr hmn hoA hoG hoE har b0 b1 b2 b3 fb3 hs1 hs2 HXA2 HOO2
  obtain ⟨x0, x1, x2, x3, x4, x5⟩ := HXX.out w2d HRd.out
  go_wp2_with fail
  clear x0 x1 x2 x3 x4 x5
  refine (CC.out _ HBd.out).mono ?_
  rintro e w3a ⟨I3, ci3, gc3, K3, rfl, _, hP, hK, hb⟩
  have HB3a := Lib.hid (below_then HBd.out hb)
  have HB3r := Lib.hid (below_then HRd.out hb)
  have HB3m := Lib.hid hb
  have HP3 := Lib.hid hP
  have HK3 := Lib.hid hK
  clear hb hP hK
  go_wp2_with fail
  refine (CO.out I3 _ ci3 K3 _ HP3.out HK3.out).mono ?_
  rintro e w3b ⟨A3, ca3, G3, cg3, E3, ce3, rfl, hO, hb⟩
  have HB3b := Lib.hid (below_then HB3a.out hb)
  have HR3 := Lib.hid (below_then HB3r.out hb)
  have HM3 := Lib.hid (below_then HB3m.out hb)
  have HO3 := Lib.hid hO
  clear hb hO
  go_upto_region 13 with fail
  obtain ⟨w3c, hw⟩ : ∃ x, w3b.alloc (.cells #[.slice A3 n ca3, .slice G3 q cg3, .slice E3 3 ce3, .int .u32 (2 * gq + 2)] 43) = x := ⟨_, rfl⟩
  have hb : Below w3b.heap.size w3b w3c := by rw [← hw]; exact below_alloc (Below.refl _ _) _
  have hx : w3c.heap[w3b.heap.size]? = some (.cells #[.slice A3 n ca3, .slice G3 q cg3, .slice E3 3 ce3, .int .u32 (2 * gq + 2)] 43 (0, 0)) := by rw [← hw]; exact heap_alloc_new2 _ _ _ _ rfl
  rw [hw]
  obtain ⟨g3, hg⟩ : ∃ x, w3b.heap.size = x := ⟨_, rfl⟩
  have HB3 := Lib.hid (below_then HB3b.out hb)
  have HRR3 := Lib.hid (below_then HR3.out hb)
  have HMM3 := Lib.hid (below_then HM3.out hb)
  have HOO3 := Lib.hid (HO3.out.kept hb)
  rw [hg] at hx ⊢
  have HXA3 := Lib.hid hx
  have hlG3 : ∀ b, (Value.slice G3 q cg3).ownBlock = some b → b < g3 := fun b h => by have := (HO3.out.o1.lt b (by rw [HQ.out]; exact h)).2; omega
  have hlE3 : ∀ b, (Value.slice E3 3 ce3).ownBlock = some b → b < g3 := fun b h => by have := (HO3.out.o2.lt b h).2; omega
  have hlA3 : ∀ b, (Value.slice A3 n ca3).ownBlock = some b → b < g3 := fun b h => by have := (HO3.out.o0.lt b (by rw [HN.out]; exact h)).2; omega
  have hgM3 : w2d.heap.size ≤ g3 := by rw [← hg]; exact HM3.out.size
  have hgR3 : w2.heap.size ≤ g3 := by rw [← hg]; exact HR3.out.size
  have hgW3 : W.heap.size ≤ g3 := by rw [← hg]; exact HB3b.out.size
  clear hw hb hx hg HB3a HB3b HR3 HO3 HB3r HB3m HM3
  obtain ⟨b0, b1, b2, b3⟩ := blk_cells4 HXA3.out
  obtain ⟨gG, kg, hv, _, _, hcG⟩ := own_at HOO3.out.o1 (by rw [HQ.out]; omega)
  injection hv with hv1 _ _
  subst hv1
  have HCG := Lib.hid hcG
  have hg3l : g3 < w3c.heap.size := lt_of_some HXA3.out
  clear hcG
  go_wp2_with (at_builtin; refine wpList_append_own2 _ rfl (.const (.slice none 0 0)) (.tmp 77) _ rfl w3c.heap.size 80 i80 _ 2 8 Try.underlying39 hi80 z0 z1 z2 rfl (by decide) (.slice none 0 0) 0 [] rfl (World.ownsRow_nil _ _ _ _) ⟨gG, 0, none⟩ q _ (ru2s (allR kR)) rfl (by rw [ru2s_len, HQ.out]) (CellsAt_add HCG.out) ?d1 ?d2 ?d3 ?d4 ?_)
  case d1 => (intro u hu; unfold ru2s ru2 at hu; simp only [List.mem_flatMap, List.mem_cons, List.not_mem_nil, or_false] at hu; obtain ⟨t, _, h⟩ := hu; rcases h with rfl | rfl <;> rfl)
  case d2 => simp only [maxLen]; omega
  case d3 => omega
  intro v5 w5 hown hgr hvb
  obtain ⟨gz, cz, rfl, _, hgz, _⟩ := own_at hown (by omega)
  have hb5 : Below w3c.heap.size w3c w5 := ⟨hgr.os, hgr.tape, hgr.output, hgr.size, fun k hk => hgr.block k hk (by simp [Value.ownBlock])⟩
  have HO5 := Lib.hid hown
  have HB5 := Lib.hid hb5
  clear hown hgr hvb hb5 b0 b1 b2 b3
  obtain ⟨b0, b1, b2, b3⟩ := blk_cells4 (blk_later HXA3.out HB5.out)
  go_wp2_with (at_builtin; refine wpList_append_own2 _ rfl (.tmp 78) (.tmp 80) _ rfl w3c.heap.size 80 i80 _ 2 8 Try.underlying39 hi80 z0 z1 z2 rfl (by decide) (.slice (some ⟨gz, 0, none⟩) q cz) q (ru2s (allR kR)) rfl (HO5.out.alloc _) ⟨w5.heap.size, 0, none⟩ 1 1 [.int .u32 1, .int .u32 2] rfl rfl ?e1 ?e2 ?e3 ?e4 ?e5 ?_)
  case e1 => exact CellsAt_add (CellsAt.new w5 _ _)
  case e2 => intro u hu; simp only [List.mem_cons, List.not_mem_nil, or_false] at hu; rcases hu with rfl | rfl <;> rfl
  case e3 => simp only [maxLen]; omega
  case e4 => omega
  case e5 => have := HB5.out.size; simp; omega
  intro v6 w6 hown hgr hvb
  have hb6 := (below_alloc HB5.out (.cells #[.int .u32 1, .int .u32 2] 80)).grown hgr (by have := HB5.out.size; simp; omega) (fun g hg => (HO5.out.lt g hg).1)
  obtain ⟨gy, cy, rfl, _, hgy, _⟩ := own_at hown (by omega)
  have hx6 := blk_later HXA3.out hb6
  have HO6 := Lib.hid hown
  have HB6 := Lib.hid hb6
  have HX6 := Lib.hid hx6
  clear hown hgr hvb hb6 hx6 b0 b1 b2 b3
  obtain ⟨b0, b1, b2, b3⟩ := blk_cells4 HX6.out
  have fb1 := blk_frozen HX6.out 1
  go_upto_region 14 with fail
  obtain ⟨w7, hw⟩ : ∃ W0, w6.setCell ⟨g3, 1, none⟩ (.slice (some ⟨gy, 0, none⟩) (q + 1) cy) = W0 := ⟨_, rfl⟩
  have hx : w7.heap[g3]? = some (.cells #[.slice A3 n ca3, .slice (some ⟨gy, 0, none⟩) (q + 1) cy, .slice E3 3 ce3, .int .u32 (2 * gq + 2)] 43 (0, 0)) := by rw [← hw]; exact heap_setCell_same _ _ 1 _ _ _ HX6.out
  have hbW : Below W.heap.size W w7 := by rw [← hw]; exact (HB3.out.trans (HB6.out.mono HB3.out.size)).setCell hgW3 _
  have hbd : Below w2d.heap.size w2d w7 := by rw [← hw]; exact (HMM3.out.trans (HB6.out.mono HMM3.out.size)).setCell hgM3 _
  have hbr : Below wr.heap.size wr w7 := HMd.out.trans (hbd.mono HMd.out.size)
  have hoA : w7.ownsRow w3a.heap.size 79 4 (.slice A3 n ca3) n (recsC LL) := by rw [← hw]; have h := own_below HOO3.out.o0 HB6.out; rw [HN.out] at h; exact ownsRow_setCell_other h (fun e => Nat.lt_irrefl _ (hlA3 _ e)) _
  have hoG : w7.ownsRow w3c.heap.size 80 2 (.slice (some ⟨gy, 0, none⟩) (q + 1) cy) (q + 1) (ru2s (allR kR ++ [(1, 2)])) := by
    rw [← hw, ru2s_snoc]
    exact ownsRow_setCell_other HO6.out (fun e => by
      have h1 := (HO6.out.lt _ e).1
      exact Nat.lt_irrefl _ (Nat.lt_of_lt_of_le hg3l h1)) _
  have hoE : w7.ownsRow w3a.heap.size 41 1 (.slice E3 3 ce3) 3 (u32s (endsR kR)) := by rw [← hw]; have h : w6.ownsRow w3a.heap.size 41 1 (.slice E3 3 ce3) 3 (u32s (endsR kR)) := own_below HOO3.out.o2 HB6.out; exact ownsRow_setCell_other h (fun e => Nat.lt_irrefl _ (hlE3 _ e)) _
  have hql : (allR kR ++ [((1, 2) : Rg)]).length = q + 1 := by rw [List.length_append, HQ.out]; rfl
  have har : ArAt w7 A3 LL (some ⟨gy, 0, none⟩) kR [(1, 2)] E3 cy :=
    ⟨own_SlN hoA (by rw [recsC_len, HN.out]; omega), own_SlN hoG (by intro _; omega), own_SlN hoE (by simp [u32s, endsR, kR]), kR_len.2.1, HTK.out.1, by rw [hql]; omega, by decide, by rw [HN.out]; omega, by rw [hql]; exact own_le hoG, kR_len.2.2.1⟩
  rw [hw]
  have HBW := Lib.hid hbW
  have HA1 := Lib.hid (HAr.out.below hbr)
  have HA2 := Lib.hid (HAb.out.below hbd)
  have HA3 := Lib.hid har
  have HQL := Lib.hid hql
  have HY1 := Lib.hid (blk_later HXr.out hbr)
  have HY2 := Lib.hid (blk_later HXB.out hbd)
  have HY3 := Lib.hid hx
  clear hw hx hbW hbd hbr hoA hoG hoE hql har b0 b1 b2 b3 fb1 hgz hgy HO6 HB6 HX6 HO5 HB5 HAr HAb HXr HXB HXA3 HOO3
  have hs0 : slotBad [] (2 * gq + 2) = false := by obtain rfl | rfl | rfl : gq = 0 ∨ gq = 1 ∨ gq = 2 := by omega
                                                   all_goals decide
  have hs1 : slotBad [] (2 * gq + 3) = true := by obtain rfl | rfl | rfl : gq = 0 ∨ gq = 1 ∨ gq = 2 := by omega
                                                  all_goals decide
  have hs2 : slotBad [((1, 2) : Rg)] (2 * gq + 2) = true := by unfold slotBad; simp
  have hpb : pgR L2 K1 ((2 * gq + 2) / 2 - 1) = false := by rw [show (2 * gq + 2) / 2 - 1 = gq by omega]; exact HBAD.out K1 HK1.out
  have cb : ∀ w' : World, Below w7.heap.size w7 w' → Calls Try.prog 13 #[.agg #[.slice (some ⟨gl, 0, none⟩) n cl, .slice G1 q cg1, .slice E1 3 ce1, .int .u32 (2 * gq + 2)]] w' fun e w'' => e = .returned (.tuple #[.agg #[.slice none 0 0, .slice none 0 0, .int .i64 0], .int .i64 11]) ∧ Below w'.heap.size w' w'' := fun w' hw => by
    have h := back_of (some ⟨gl, 0, none⟩) G1 E1 cl cg1 ce1 (2 * gq + 2) L2 kR K1 w' (HA1.out.below hw) (by omega) hs0 HK1.out false hpb
    unfold arV at h
    rw [HL2.out, HQ.out] at h
    refine h.mono ?_
    rintro e w'' ⟨_, _, _, _, _, _, _, h3, h4⟩
    exact ⟨h3, h4⟩
  have ca : ∀ w' : World, Below w7.heap.size w7 w' → Calls Try.prog 23 #[.agg #[.slice (some ⟨gl, 0, none⟩) n cl, .slice G1 q cg1, .slice E1 3 ce1, .int .u32 (2 * gq + 2)]] w' fun e w'' => e = .returned (.bool false) ∧ Below w'.heap.size w' w'' := fun w' hw => by
    have h := lright_good (some ⟨gl, 0, none⟩) G1 E1 cl cg1 ce1 (2 * gq + 2) L2 kR K1 w' (HA1.out.below hw) (by omega) hs0 HK1.out false hpb
    unfold arV at h
    rw [HL2.out, HQ.out] at h
    exact h
  have cbb : ∀ w' : World, Below w7.heap.size w7 w' → Calls Try.prog 23 #[.agg #[.slice A2 n ca2, .slice G2 q cg2, .slice E2 3 ce2, .int .u32 (2 * gq + 3)]] w' fun e w'' => e = .returned (.bool false) ∧ Below w'.heap.size w' w'' := fun w' hw => by
    have h := lright_bad A2 G2 E2 ca2 cg2 ce2 (2 * gq + 3) LL kR [] w' (HA2.out.below hw) (by omega) hs1
    unfold arV at h
    rw [List.append_nil, HN.out, HQ.out] at h
    exact h
  have cc : ∀ w' : World, Below w7.heap.size w7 w' → Calls Try.prog 23 #[.agg #[.slice A3 n ca3, .slice (some ⟨gy, 0, none⟩) (q + 1) cy, .slice E3 3 ce3, .int .u32 (2 * gq + 2)]] w' fun e w'' => e = .returned (.bool false) ∧ Below w'.heap.size w' w'' := fun w' hw => by
    have h := lright_bad A3 (some ⟨gy, 0, none⟩) E3 ca3 cy ce3 (2 * gq + 2) LL kR [(1, 2)] w' (HA3.out.below hw) (by omega) hs2
    unfold arV at h
    rw [HN.out, HQL.out] at h
    exact h
  have HF := Lib.hid (fun (w' : World) (h : Below w7.heap.size w7 w') => (⟨blk_cells4 (blk_later HY1.out h), blk_cells4 (blk_later HY2.out h), blk_cells4 (blk_later HY3.out h)⟩ : _ ∧ _ ∧ _))
  have KB := Lib.hid cb
  have KA := Lib.hid ca
  have KBB := Lib.hid cbb
  have KC := Lib.hid cc
  have HZ0 := Lib.hid (Below.refl w7.heap.size w7)
  clear cb ca cbb cc hs0 hs1 hs2 hpb HA1 HA2 HA3
  obtain ⟨⟨a0, a1, a2, a3⟩, ⟨b0, b1, b2, b3⟩, c0, c1, c2, c3⟩ := HF.out w7 HZ0.out
  go_wp2_with fail
  refine (KB.out _ HZ0.out).mono ?_
  rintro e w8 ⟨rfl, hb⟩
  have HZ1 := Lib.hid (below_then HZ0.out hb)
  clear hb a0 a1 a2 a3 b0 b1 b2 b3 c0 c1 c2 c3
  obtain ⟨⟨a0, a1, a2, a3⟩, ⟨b0, b1, b2, b3⟩, c0, c1, c2, c3⟩ := HF.out w8 HZ1.out
  go_upto_region 15 with fail
  obtain ⟨w9, hw⟩ : ∃ W0, w8.alloc (.cells #[.slice none 0 0, .slice none 0 0, .int .i64 0] 25) = W0 := ⟨_, rfl⟩
  have hb : Below w7.heap.size w7 w9 := by rw [← hw]; exact below_alloc HZ1.out _
  rw [hw]
  have HZ2 := Lib.hid hb
  clear hb hw a0 a1 a2 a3 b0 b1 b2 b3 c0 c1 c2 c3
  obtain ⟨⟨a0, a1, a2, a3⟩, ⟨b0, b1, b2, b3⟩, c0, c1, c2, c3⟩ := HF.out w9 HZ2.out
  go_wp2_with fail
  refine (KA.out _ HZ2.out).mono ?_
  rintro e wa ⟨rfl, hb⟩
  have HZ3 := Lib.hid (below_then HZ2.out hb)
  clear hb a0 a1 a2 a3 b0 b1 b2 b3 c0 c1 c2 c3
  obtain ⟨⟨a0, a1, a2, a3⟩, ⟨b0, b1, b2, b3⟩, c0, c1, c2, c3⟩ := HF.out wa HZ3.out
  go_wp2_with fail
  refine (KBB.out _ HZ3.out).mono ?_
  rintro e wb ⟨rfl, hb⟩
  have HZ4 := Lib.hid (below_then HZ3.out hb)
  clear hb a0 a1 a2 a3 b0 b1 b2 b3 c0 c1 c2 c3
  obtain ⟨⟨a0, a1, a2, a3⟩, ⟨b0, b1, b2, b3⟩, c0, c1, c2, c3⟩ := HF.out wb HZ4.out
  go_wp2_with fail
  refine (KC.out _ HZ4.out).mono ?_
  rintro e wc ⟨rfl, hb⟩
  have HZ5 := Lib.hid (below_then HZ4.out hb)
  clear hb a0 a1 a2 a3 b0 b1 b2 b3 c0 c1 c2 c3
  go_wp2_with fail
  go_ret
  exact ⟨rfl, HBW.out.trans (HZ5.out.mono HBW.out.size)⟩
end Go.Proofs.Ytbbcdebjkedepaa
