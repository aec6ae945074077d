/- ProgSlots: the walk. Conditions: what each lemma says. -/
import Derived.Test.YtpeheppiolfpfaaDoorCodeB
import Derived.SizedLaws
import Derived.ArgAppend
import Derived.Deep.CutBlock
set_option linter.unusedVariables false
set_option linter.unusedSimpArgs false
namespace Go
section
variable {P : Program} (w : World)
theorem run_append_none0 (t ty e : TypeId) (i : TypeInfo) (ht : P.underlying t = some (.slice e)) (hi : P.info? e = some i) (A : Option Addr) (c : Nat) :
    (Builtin.append_ #[t, t] ty #[.slice none 0 0, .slice A 0 c]).run P w = .ok (.slice none 0 0) w := by
  cases A <;> simp [Builtin.append_, run_underlying ht, sizeOf, typeInfo, hi, Builtin.lenOf, Builtin.firstCells, loadCells, loadCellsFrom, storeCells]
theorem oper_append_none0 {o : Oper} {a : Act} {K : Act → World → Prop} {Q : Exit → Act → World → Prop} (s x : Operand) (t : TypeId)
    (ho : o.op = .call { callee := .builtin .append, args := #[s, x], argTypes := #[t, t] }) (e : TypeId) (i : TypeInfo) (ht : P.underlying t = some (.slice e)) (hi : P.info? e = some i) (A : Option Addr) (c : Nat)
    (hs : a.eval s = .slice none 0 0) (hx : a.eval x = .slice A 0 c) (h : K (a.put o.dst (.slice none 0 0)) w) : Oper.wp P o a w K Q := by
  have hr := run_append_none0 (P := P) w t o.type e i ht hi A c
  unfold Oper.wp execOp
  simp only [ho, resolve, invoke, builtin, Sem.run_bind, Sem.run_pure, Result.andThen_ok, List.map_toArray, List.map_cons, List.map_nil, hs, hx, hr]
  exact h
end
end Go
namespace Go.Proofs.YtpeheppiolfpfaaDoor
open Go.ChangeShapes Go.WideShapes Go.RowKit Go.Lib Go.Deep
open Plain (Rg In4)
section
variable {H : Type} {enc : TypeId × Value → H} {W : World}
/-- the instructions of a program that came in are within the reach -/
theorem code_reach {PI PC LA : Option Addr} {n pic pk pcc ln lc : Nat} {pg g : Int} {own : Bool} {d : DataW H} {p : List MemPlace} (h : DataW.Trod enc Tryd.prog W 0 (fun _ => true) true 28 (.agg #[.slice PI n pic, .slice PC pk pcc, .int .i64 pg, .bool own, .slice LA ln lc, .int .u8 g]) d p) (hz : ∀ n ∈ d.weights Tryd.prog 28, n ≤ reachBytes) : n * 32 ≤ 140737488351232 := by
  have h3 : Tryd.prog.cellsOf 25 = 3 := by kernel_rfl
  have s22 : Tryd.prog.cellsOf 22 = 1 := by kernel_rfl
  obtain ⟨fuel, hf⟩ := h
  obtain ⟨xs, m, _, hx, _, hlen, hg⟩ := DataW.trod_struct Tryd.underlying28 hf
  match xs, hlen with
  | [y0, y1, y2, y3], _ =>
    have g0 : DataW.trod enc Tryd.prog W 0 (fun _ => true) true m 25 [.slice PI n pic, .slice PC pk pcc, .int .i64 pg] = some y0 := by simpa [Value.cells, h3] using hg 0 _ rfl
    obtain ⟨ts, m2, _, hx2, _, htl, hgt⟩ := DataW.trod_struct Tryd.underlying25 g0
    match ts, htl with
    | [z0, z1, z2], _ =>
      have t0 : DataW.trod enc Tryd.prog W 0 (fun _ => true) true m2 22 [.slice PI n pic] = some z0 := by simpa [s22] using hgt 0 _ rfl
      injection hx with hd _
      have hy : y0.1 = DataW.agg (List.map (fun x => x.fst) [z0, z1, z2]) := by rw [hx2]
      rcases open_slice Tryd.underlying22 t0 with ⟨hcs, _⟩ | ⟨a', len, cap, mm, n', D, Pl, hcs, _, hl, hm, hmm, hzx, _⟩
      · injection hcs with hcs
        injection hcs with _ h1 _
        omega
      · injection hcs with hcs
        injection hcs with _ h1 _
        subst h1
        have hw : (((List.range n).map D).length + ((List.range (mm - n)).map fun j => D (n + j)).length) * Tryd.prog.bytesOf 30 ∈ d.weights Tryd.prog 28 := by
          rw [hd]
          simp only [List.map_cons, List.map_nil]
          rw [hy]
          simp only [List.map_cons, List.map_nil, hzx]
          simp [DataW.weights, Tryd.underlying28, Tryd.underlying25, Tryd.underlying22, DataW.weightsEach]
        have := hz _ hw
        have hb : Tryd.prog.bytesOf 30 = 32 := by kernel_rfl
        rw [hb] at this
        simp at this
        unfold reachBytes at this
        have e1 : n ≤ n + (mm - n) := by omega
        have e2 := Nat.mul_le_mul_right 32 e1
        omega
end
end Go.Proofs.YtpeheppiolfpfaaDoor
namespace Go.Proofs.YtpeheppiolfpfaaDoor
open Go.RowKit Go.Lib Go.ChangeShapes
open Plain (Rg May mayB In Norm In4 slotsOf insB bnd riB cls cnot rightB normB nextL Rch cntA RInv small putL lineL)
theorem i4s_one (L : List In4) : ∀ u ∈ i4s L, u.oneCell' = true := by
  intro u hu
  unfold i4s i4c at hu
  simp only [List.mem_flatMap, List.mem_cons, List.not_mem_nil, or_false] at hu
  obtain ⟨t, _, h⟩ := hu
  rcases h with rfl | rfl | rfl | rfl <;> rfl
theorem own_not_box {w : World} {base g n sz : Nat} {v : Value} {xs : List Value} {cs : Array Value} (ho : w.ownsRow base 30 sz v n xs) (hg : w.heap[g]? = some (.cells cs 25 (0, 0))) : v.ownBlock ≠ some g := by
  intro e
  rcases ho.2 with ⟨rfl, _⟩ | ⟨g', cap, cur, rfl, _, hh, _⟩
  · cases e
  · have : g' = g := by simpa [Value.ownBlock] using e
    subst this
    rw [hg] at hh
    cases hh
theorem own_ne_box {w : World} {base g n c sz : Nat} {A : Option Addr} {xs : List Value} {cs : Array Value} (ho : w.ownsRow base 30 sz (.slice A n c) n xs) (hn : 0 < n) (hg : w.heap[g]? = some (.cells cs 25 (0, 0))) : ∀ b o, A = some ⟨b, o, none⟩ → b ≠ g := by
  rintro b o rfl rfl
  have hne := own_not_box ho hg
  obtain ⟨g', cap, hv, _, _, _⟩ := own_at ho hn
  injection hv with h1
  injection h1 with h1; injection h1 with h1 h2
  subst h1 h2
  exact hne rfl
def SMid (wq : World) (C : Option Addr) (L : List In4) (d kn : Nat) (g : Int) (y : Value) (wx : World) : Prop :=
  ∃ (ga : Nat) (A : Option Addr) (c : Nat), y = .pointer (some ⟨ga, 0, none⟩) ∧ wx.heap[ga]? = some (.cells #[.slice A L.length c, .slice C kn d, .int .i64 g] 25 (0, 0)) ∧ Sl wx A (i4s L) ∧ (∀ b o, A = some ⟨b, o, none⟩ → b ≠ ga) ∧ (L.length = 0 → A = none ∧ c = 0) ∧ Below wq.heap.size wq wx ∧ wq.heap.size ≤ ga
theorem smid_of {wq W : World} {C u : Option Addr} {L : List In4} {d kn n c ga : Nat} {g : Int} (hb : Below wq.heap.size wq W) (ho : W.ownsRow wq.heap.size 30 4 (.slice u n c) n (i4s L)) (ha : W.heap[ga]? = some (.cells #[.slice none 0 0, .slice none 0 0, .int .i64 0] 25 (0, 0))) (hge : wq.heap.size ≤ ga) (hl : L.length = n) (hn : 0 < n) :
    SMid wq C L d kn g (.pointer (some ⟨ga, 0, none⟩)) (((W.setCell ⟨ga, 0, none⟩ (.slice u n c)).setCell ⟨ga, 1, none⟩ (.slice C kn d)).setCell ⟨ga, 2, none⟩ (.int .i64 g)) := by
  subst hl
  have hK := (((Kp.refl ga W).set 0 (.slice u L.length c)).set 1 (.slice C kn d)).set 2 (.int .i64 g)
  have hne := own_ne_box ho hn ha
  exact ⟨ga, u, c, rfl, blk_set3 ha _ _ _, hK.sl (own_SlN ho (fun _ => hn)) hne, hne, fun h => by omega, ((hb.setCell hge _).setCell hge _).setCell hge _, hge⟩
theorem smid_of0 {wq W : World} {C : Option Addr} {L : List In4} {d kn ga : Nat} {g : Int} (hb : Below wq.heap.size wq W) (ha : W.heap[ga]? = some (.cells #[.slice none 0 0, .slice none 0 0, .int .i64 0] 25 (0, 0))) (hge : wq.heap.size ≤ ga) (hl : L.length = 0) :
    SMid wq C L d kn g (.pointer (some ⟨ga, 0, none⟩)) (((W.setCell ⟨ga, 0, none⟩ (.slice none 0 0)).setCell ⟨ga, 1, none⟩ (.slice C kn d)).setCell ⟨ga, 2, none⟩ (.int .i64 g)) := by
  have e : L = [] := List.eq_nil_of_length_eq_zero hl
  subst e
  exact ⟨ga, none, 0, rfl, blk_set3 ha _ _ _, Sl.nil _ _, (fun _ _ e => by cases e), (fun _ => ⟨rfl, rfl⟩), ((hb.setCell hge _).setCell hge _).setCell hge _, hge⟩
def asr : In4 := (5, 0, 0, 0)
theorem cntA_rep (k : Nat) (L : List In4) : cntA (List.replicate k asr ++ L) = k + cntA L := by
  unfold Plain.cntA
  rw [List.countP_append, List.countP_replicate]
  simp [asr]
theorem rep_succ (k : Nat) (L : List In4) : i4s (List.replicate (k + 1) asr ++ L) = [.int .i64 5, .int .i64 0, .int .i64 0, .int .i64 0] ++ i4s (List.replicate k asr ++ L) := by
  rw [List.replicate_succ, List.cons_append, i4s_cons]; rfl
end Go.Proofs.YtpeheppiolfpfaaDoor
namespace Go.Proofs.YtpeheppiolfpfaaDoor
open Go.RowKit Go.Lib
open Plain (Rg May mayB In Norm In4 slotsOf insB bnd riB cls cnot rightB normB nextL Rch cntA RInv small putL lineL)
set_option maxRecDepth 1000000 in
set_option maxHeartbeats 8000000 in
theorem slots_w (PI PC LA : Option Addr) (PL : List In4) (PK : List Cs) (pic pcc lc : Nat) (pg : Int) (own : Bool) (L : List Int) (g : Int) (at_ : Int) (W : World) (hC : CodeAt W PI PL PC PK pg LA L g) (ha0 : 0 ≤ at_) (ha1 : at_ < 256) (hsz : PL.length * 32 ≤ 140737488351232) :
    Calls Tryd.prog 7 #[.agg #[.slice PI PL.length pic, .slice PC PK.length pcc, .int .i64 pg, .bool own, .slice LA L.length lc, .int .u8 g], .int .u8 at_] W fun e w' => e = .returned (.bool true) ∧ Below W.heap.size W w' := by
  have HC := Lib.hid hC
  have CE := Lib.hid (fun W => examples_any W)
  obtain ⟨n, hn⟩ : ∃ n, L.length = n := ⟨_, rfl⟩
  obtain ⟨pn, hpn⟩ : ∃ n, PL.length = n := ⟨_, rfl⟩
  obtain ⟨pk, hpk⟩ : ∃ n, PK.length = n := ⟨_, rfl⟩
  have CC := Lib.hid (fun (w : World) (h : Below W.heap.size W w) => code_any PI PC LA PL PK pic pcc lc pg own L g W w hC h)
  rw [hn, hpn, hpk] at CC ⊢
  have HSZ := Lib.hid hsz
  clear hC hn hpn hpk hsz
  have CA := Lib.hid (fun I C L K c d g w hP => asserts_any I C L K c d g w hP)
  have CSL := Lib.hid (fun I C n c m d g w => slots_any I C n c m d g w)
  obtain ⟨i84, hi84, y0, y1, y2⟩ := info_parts info84
  go_enter Tryd.func7, Tryd.ntmps7
  go_wp2_with fail
  have HB0 := Lib.hid (below_alloc (Below.refl W.heap.size W) (.cells #[.slice PI pn pic, .slice PC pk pcc, .int .i64 pg, .bool own, .slice LA n lc, .int .u8 g] 28))
  have hX := heap_alloc_new2 W (.cells #[.slice PI pn pic, .slice PC pk pcc, .int .i64 pg, .bool own, .slice LA n lc, .int .u8 g] 28) W.heap.size _ rfl
  refine (CE.out _).mono ?_
  rintro e1 w1 ⟨rfl, hb⟩
  have HB1 := Lib.hid (below_then HB0.out hb)
  have hX1 := blk_later hX hb
  have hlw := lt_of_some hX1
  have hc1 : CellsAt w1 W.heap.size [.slice PI pn pic, .slice PC pk pcc, .int .i64 pg, .bool own, .slice LA n lc, .int .u8 g] := ⟨hlw, fun j u hu => by rw [cell_of_row _ _ _ _ _ _ hX1]; simpa using hu⟩
  have x0 := hc1.at_ 0 _ rfl
  have x1 := hc1.at_ 1 _ rfl
  have x2 := hc1.at_ 2 _ rfl
  have x3 := hc1.at_ 3 _ rfl
  have x4 := hc1.at_ 4 _ rfl
  have x5 := hc1.at_ 5 _ rfl
  clear hb hX hc1 hX1
  go_wp2_with fail
  clear x0 x1 x2 x3 x4 x5 hlw
  refine (CC.out _ HB1.out).mono ?_
  rintro e2 w3 ⟨I, C, LL, K, c, d, gq, rfl, hP, hb, _, hgw, hsize⟩
  unfold pgV
  have hlen : LL.length * 32 ≤ 140737488351232 := by
    rcases hsize with e | e
    · rw [e]; exact HSZ.out
    · omega
  have HB3 := Lib.hid (below_then HB1.out hb)
  have HP3 := Lib.hid hP
  obtain ⟨m, hm⟩ : ∃ m, LL.length = m := ⟨_, rfl⟩
  obtain ⟨kn, hkn⟩ : ∃ m, K.length = m := ⟨_, rfl⟩
  rw [hm] at hlen
  rw [hm, hkn]
  have HM := Lib.hid hm
  have HKN := Lib.hid hkn
  have HGW := Lib.hid hgw
  clear hb hP hm hkn hsize hgw
  obtain ⟨mm, hmm⟩ : ∃ x, at_ % 40 = x := ⟨_, rfl⟩
  have hmt : Int.tmod at_ 40 = mm := by rw [Int.tmod_eq_emod_of_nonneg ha0]; exact hmm
  have hm0 : 0 ≤ mm ∧ mm < 40 := by omega
  obtain ⟨nn, rfl⟩ := Int.eq_ofNat_of_zero_le hm0.1
  go_upto_region 6 with fail
  clear hmm hmt
  obtain ⟨wq, hwq⟩ : ∃ W0, w3.alloc (.cells #[.slice I m c, .slice C kn d, .int .i64 gq] 25) = W0 := ⟨_, rfl⟩
  obtain ⟨gp, hgp⟩ : ∃ x, w3.heap.size = x := ⟨_, rfl⟩
  have hBp : Below w3.heap.size w3 wq := by rw [← hwq]; exact (Below.refl _ _).alloc (Nat.le_refl _) _
  have hxp : wq.heap[gp]? = some (.cells #[.slice I m c, .slice C kn d, .int .i64 gq] 25 (0, 0)) := by rw [← hwq]; exact heap_alloc_new2 _ _ _ _ hgp.symm
  rw [hwq, hgp]
  have HPq := Lib.hid (HP3.out.below hBp)
  have HBW := Lib.hid (below_then HB3.out hBp)
  have HXq := Lib.hid hxp
  clear hBp hxp hwq hgp HP3 HB3
  go_cut [8] (fun y wx => SMid wq C LL d kn gq y wx)
  case first =>
    have HFq := Lib.hid (fun (w' : World) (hw : Below wq.heap.size wq w') => blk_cells3 (blk_later HXq.out hw))
    refine wp_region_noPanic ?_
    refine wp_region_T 9 (S := fun w' : World => Below wq.heap.size wq w') (by kernel_rfl) (by decide) ?_
    have hbd := Below.drew (Below.refl wq.heap.size wq)
    obtain ⟨wd, hwd⟩ : ∃ W0, wq.drew = W0 := ⟨_, rfl⟩
    rw [hwd] at hbd ⊢
    have HBq := Lib.hid hbd
    clear hbd hwd
    by_cases hm1 : 0 < m
    · obtain ⟨bI, oI, rfl, hbI, hcI⟩ := HPq.out.insts (by rw [i4s_len, HM.out]; omega)
      have HCI := Lib.hid (fun (w' : World) (hw : Below wq.heap.size wq w') (j : Nat) (u : Value) (hu : (i4s LL)[j]? = some u) => (show w'.cell? ((⟨bI, oI, none⟩ : Addr).add j) = some u by rw [Addr.add_lit]; exact (hw.cell (p := ⟨bI, oI + j, none⟩) hbI).trans (hcI j u hu)))
      clear hcI
      refine wpAnyT_take2 0 (v := ?tvx13) (by kernel_rfl) rfl (by kernel_rfl) (fun _ _ _ h => h) (Or.inl ⟨by rfl, ?tyx13⟩) HBq.out ?trx13
      case tyx13 => (intro w' hSw; (try dsimp only at hSw); go_simp; try with_reducible rfl)
      try simp only [Act.put, List.setIfInBounds_toArray, List.set_cons_zero, List.set_cons_succ]
      refine wpAnyT_take2 1 (v := ?tvx14) (by kernel_rfl) rfl (by kernel_rfl) (fun _ _ _ h => h) (Or.inl ⟨by rfl, ?tyx14⟩) HBq.out ?trx14
      case tyx14 => (intro w' hSw; obtain ⟨f0, f1, f2⟩ := HFq.out w' hSw; (try dsimp only at hSw); go_simp; try with_reducible rfl)
      try simp only [Act.put, List.setIfInBounds_toArray, List.set_cons_zero, List.set_cons_succ]
      refine wpAnyT_take2 3 (v := ?tvx15) (by kernel_rfl) rfl (by kernel_rfl) (fun _ _ _ h => h) (Or.inl ⟨by rfl, ?tyx15⟩) HBq.out ?trx15
      case tyx15 => (intro w' hSw; (try dsimp only at hSw); go_simp; try with_reducible rfl)
      try simp only [Act.put, List.setIfInBounds_toArray, List.set_cons_zero, List.set_cons_succ]
      refine wpAnyT_take2 4 (v := ?tvx16) (by kernel_rfl) rfl (by kernel_rfl) (fun _ _ _ h => h) (Or.inl ⟨by rfl, ?tyx16⟩) HBq.out ?trx16
      case tyx16 => (intro w' hSw; obtain ⟨f0, f1, f2⟩ := HFq.out w' hSw; (try dsimp only at hSw); go_simp; try with_reducible rfl)
      try simp only [Act.put, List.setIfInBounds_toArray, List.set_cons_zero, List.set_cons_succ]
      refine wpAnyT_take2 5 (v := ?tvx17) (by kernel_rfl) rfl (by kernel_rfl) (fun _ _ _ h => h) (Or.inl ⟨by rfl, ?tyx17⟩) HBq.out ?trx17
      case tyx17 => (intro w' hSw; (try dsimp only at hSw); go_simp; try with_reducible rfl)
      try simp only [Act.put, List.setIfInBounds_toArray, List.set_cons_zero, List.set_cons_succ]
      refine wpAnyT_take2 6 (v := ?tvx18) (by kernel_rfl) rfl (by kernel_rfl) (fun _ _ _ h => h) (Or.inl ⟨by rfl, ?tyx18⟩) HBq.out ?trx18
      case tyx18 => (intro w' hSw; obtain ⟨f0, f1, f2⟩ := HFq.out w' hSw; (try dsimp only at hSw); go_simp; try with_reducible rfl)
      try simp only [Act.put, List.setIfInBounds_toArray, List.set_cons_zero, List.set_cons_succ]
      refine wpAnyT_all [2, 8] (by kernel_rfl) (by decide) (fun i hi => ?_)
      simp only [List.mem_cons, List.not_mem_nil, or_false] at hi
      rcases hi with rfl | rfl
      · refine ⟨_, (by rfl), fun K' hK' => ?_⟩
        rw [if_pos (by rfl)]
        have HK := Lib.hid hK'
        clear hK'
        refine oper_append_own2 _ (.const (.slice none 0 0)) (.tmp 20) 22 (by rfl) wq.heap.size 30 i84 _ 4 32 Tryd.underlying22 hi84 y0 y1 y2 rfl (by decide) (.slice none 0 0) 0 [] (by rfl) (World.ownsRow_nil _ _ _ _) ⟨bI, oI, none⟩ m c (i4s LL) (by rfl) (by rw [i4s_len, HM.out]) ?n19 (i4s_one LL) (by simp only [maxLen]; omega) (by omega) HBq.out.size ?_
        case n19 => exact HCI.out _ HBq.out
        intro v19 w19 hown hgr hvb
        rw [Nat.zero_add, List.nil_append] at hown
        obtain ⟨gl, cl, rfl, hmcl, hgl, hcl⟩ := own_at hown hm1
        have hbl : Below wd.heap.size wd w19 := ⟨hgr.os, hgr.tape, hgr.output, hgr.size, fun k hk => hgr.block k hk (by simp [Value.ownBlock])⟩
        have HB19 := Lib.hid (below_then HBq.out hbl)
        have Ho219 := Lib.hid hown
        refine HK.out _ _ ⟨HB19.out, ?_⟩
        clear HK K' hown hgr hvb hcl hbl
        try simp only [Act.put, List.setIfInBounds_toArray, List.set_cons_zero, List.set_cons_succ]
        refine wpAnyT_take2 7 (v := ?tvx20) (by kernel_rfl) rfl (by kernel_rfl) (fun _ _ _ h => h) (Or.inl ⟨by rfl, ?tyx20⟩) HB19.out ?trx20
        case tyx20 => (intro w' hSw; (try dsimp only at hSw); go_simp; try with_reducible rfl)
        try simp only [Act.put, List.setIfInBounds_toArray, List.set_cons_zero, List.set_cons_succ]
        refine wpAnyT_one2 8 rfl (by kernel_rfl) ?_
        intro K' hK'
        rw [if_pos (by rfl)]
        have HK := Lib.hid hK'
        clear hK'
        have hnew := heap_alloc_new2 w19 (.cells #[.slice none 0 0, .slice none 0 0, .int .i64 0] 25) w19.heap.size _ rfl
        have hgb : wq.heap.size ≤ w19.heap.size := HB19.out.size
        go_simp
        have Ho221 := Lib.hid (Ho219.out.alloc (.cells #[.slice none 0 0, .slice none 0 0, .int .i64 0] 25))
        have HB21 := Lib.hid (below_alloc HB19.out (.cells #[.slice none 0 0, .slice none 0 0, .int .i64 0] 25))
        refine HK.out _ _ ⟨HB21.out, ?_⟩
        clear HK K'
        try simp only [Act.put, List.setIfInBounds_toArray, List.set_cons_zero, List.set_cons_succ]
        obtain ⟨w21, hw21⟩ : ∃ W0, w19.alloc (.cells #[.slice none 0 0, .slice none 0 0, .int .i64 0] 25) = W0 := ⟨_, rfl⟩
        obtain ⟨ga, hga⟩ : ∃ x, w19.heap.size = x := ⟨_, rfl⟩
        rw [hw21] at hnew HB21 Ho221 ⊢
        rw [hga] at hnew hgb ⊢
        have Ha21 := Lib.hid hnew
        have Ga21 := Lib.hid hgb
        clear hnew hgb hw21 hga
        obtain ⟨s0, s1, s2⟩ := blk_cells3 Ha21.out
        have z0 := blk_frozen Ha21.out 0
        have z1 := blk_frozen Ha21.out 1
        have z2 := blk_frozen Ha21.out 2
        refine ⟨by kernel_rfl, ?_⟩
        change wpList _ _ _ [_] _ _
        go_wp2
        refine NoPanic.normal ?_
        go_wp2
        go_meet
        case rel => exact smid_of HB21.out Ho221.out Ha21.out Ga21.out HM.out hm1
      · refine ⟨_, (by rfl), fun K' hK' => ?_⟩
        rw [if_pos (by rfl)]
        have HK := Lib.hid hK'
        clear hK'
        have hnew := heap_alloc_new2 wd (.cells #[.slice none 0 0, .slice none 0 0, .int .i64 0] 25) wd.heap.size _ rfl
        have hgb : wq.heap.size ≤ wd.heap.size := HBq.out.size
        go_simp
        have HB22 := Lib.hid (below_alloc HBq.out (.cells #[.slice none 0 0, .slice none 0 0, .int .i64 0] 25))
        refine HK.out _ _ ⟨HB22.out, ?_⟩
        clear HK K'
        try simp only [Act.put, List.setIfInBounds_toArray, List.set_cons_zero, List.set_cons_succ]
        obtain ⟨w22, hw22⟩ : ∃ W0, wd.alloc (.cells #[.slice none 0 0, .slice none 0 0, .int .i64 0] 25) = W0 := ⟨_, rfl⟩
        obtain ⟨ga, hga⟩ : ∃ x, wd.heap.size = x := ⟨_, rfl⟩
        rw [hw22] at hnew HB22 ⊢
        rw [hga] at hnew hgb ⊢
        have Ha22 := Lib.hid hnew
        have Ga22 := Lib.hid hgb
        clear hnew hgb hw22 hga
        refine wpAnyT_one2 2 rfl (by kernel_rfl) ?_
        intro K' hK'
        rw [if_pos (by rfl)]
        have HK := Lib.hid hK'
        clear hK'
        refine oper_append_own2 _ (.const (.slice none 0 0)) (.tmp 20) 22 (by rfl) wq.heap.size 30 i84 _ 4 32 Tryd.underlying22 hi84 y0 y1 y2 rfl (by decide) (.slice none 0 0) 0 [] (by rfl) (World.ownsRow_nil _ _ _ _) ⟨bI, oI, none⟩ m c (i4s LL) (by rfl) (by rw [i4s_len, HM.out]) ?n23 (i4s_one LL) (by simp only [maxLen]; omega) (by omega) HB22.out.size ?_
        case n23 => exact HCI.out _ HB22.out
        intro v23 w23 hown hgr hvb
        rw [Nat.zero_add, List.nil_append] at hown
        obtain ⟨gl, cl, rfl, hmcl, hgl, hcl⟩ := own_at hown hm1
        have hbl : Below w22.heap.size w22 w23 := ⟨hgr.os, hgr.tape, hgr.output, hgr.size, fun k hk => hgr.block k hk (by simp [Value.ownBlock])⟩
        have Ha23 := Lib.hid (blk_later Ha22.out hbl)
        have HB23 := Lib.hid (below_then HB22.out hbl)
        have Ho223 := Lib.hid hown
        refine HK.out _ _ ⟨HB23.out, ?_⟩
        clear HK K' hown hgr hvb hcl hbl
        try simp only [Act.put, List.setIfInBounds_toArray, List.set_cons_zero, List.set_cons_succ]
        refine wpAnyT_take2 7 (v := ?tvx24) (by kernel_rfl) rfl (by kernel_rfl) (fun _ _ _ h => h) (Or.inl ⟨by rfl, ?tyx24⟩) HB23.out ?trx24
        case tyx24 => (intro w' hSw; (try dsimp only at hSw); go_simp; try with_reducible rfl)
        try simp only [Act.put, List.setIfInBounds_toArray, List.set_cons_zero, List.set_cons_succ]
        obtain ⟨s0, s1, s2⟩ := blk_cells3 Ha23.out
        have z0 := blk_frozen Ha23.out 0
        have z1 := blk_frozen Ha23.out 1
        have z2 := blk_frozen Ha23.out 2
        refine ⟨by kernel_rfl, ?_⟩
        change wpList _ _ _ [_] _ _
        go_wp2
        refine NoPanic.normal ?_
        go_wp2
        go_meet
        case rel => exact smid_of HB23.out Ho223.out Ha23.out Ga22.out HM.out hm1
    · obtain rfl : m = 0 := by omega
      refine wpAnyT_take2 0 (v := ?tvx1) (by kernel_rfl) rfl (by kernel_rfl) (fun _ _ _ h => h) (Or.inl ⟨by rfl, ?tyx1⟩) HBq.out ?trx1
      case tyx1 => (intro w' hSw; (try dsimp only at hSw); go_simp; try with_reducible rfl)
      try simp only [Act.put, List.setIfInBounds_toArray, List.set_cons_zero, List.set_cons_succ]
      refine wpAnyT_take2 1 (v := ?tvx2) (by kernel_rfl) rfl (by kernel_rfl) (fun _ _ _ h => h) (Or.inl ⟨by rfl, ?tyx2⟩) HBq.out ?trx2
      case tyx2 => (intro w' hSw; obtain ⟨f0, f1, f2⟩ := HFq.out w' hSw; (try dsimp only at hSw); go_simp; try with_reducible rfl)
      try simp only [Act.put, List.setIfInBounds_toArray, List.set_cons_zero, List.set_cons_succ]
      refine wpAnyT_take2 3 (v := ?tvx3) (by kernel_rfl) rfl (by kernel_rfl) (fun _ _ _ h => h) (Or.inl ⟨by rfl, ?tyx3⟩) HBq.out ?trx3
      case tyx3 => (intro w' hSw; (try dsimp only at hSw); go_simp; try with_reducible rfl)
      try simp only [Act.put, List.setIfInBounds_toArray, List.set_cons_zero, List.set_cons_succ]
      refine wpAnyT_take2 4 (v := ?tvx4) (by kernel_rfl) rfl (by kernel_rfl) (fun _ _ _ h => h) (Or.inl ⟨by rfl, ?tyx4⟩) HBq.out ?trx4
      case tyx4 => (intro w' hSw; obtain ⟨f0, f1, f2⟩ := HFq.out w' hSw; (try dsimp only at hSw); go_simp; try with_reducible rfl)
      try simp only [Act.put, List.setIfInBounds_toArray, List.set_cons_zero, List.set_cons_succ]
      refine wpAnyT_take2 5 (v := ?tvx5) (by kernel_rfl) rfl (by kernel_rfl) (fun _ _ _ h => h) (Or.inl ⟨by rfl, ?tyx5⟩) HBq.out ?trx5
      case tyx5 => (intro w' hSw; (try dsimp only at hSw); go_simp; try with_reducible rfl)
      try simp only [Act.put, List.setIfInBounds_toArray, List.set_cons_zero, List.set_cons_succ]
      refine wpAnyT_take2 6 (v := ?tvx6) (by kernel_rfl) rfl (by kernel_rfl) (fun _ _ _ h => h) (Or.inl ⟨by rfl, ?tyx6⟩) HBq.out ?trx6
      case tyx6 => (intro w' hSw; obtain ⟨f0, f1, f2⟩ := HFq.out w' hSw; (try dsimp only at hSw); go_simp; try with_reducible rfl)
      try simp only [Act.put, List.setIfInBounds_toArray, List.set_cons_zero, List.set_cons_succ]
      refine wpAnyT_all [2, 8] (by kernel_rfl) (by decide) (fun i hi => ?_)
      simp only [List.mem_cons, List.not_mem_nil, or_false] at hi
      rcases hi with rfl | rfl
      · refine ⟨_, (by rfl), fun K' hK' => ?_⟩
        rw [if_pos (by rfl)]
        have HK := Lib.hid hK'
        clear hK'
        refine oper_append_none0 _ (.const (.slice none 0 0)) (.tmp 20) 22 (by rfl) 30 i84 Tryd.underlying22 hi84 I c (by rfl) (by rfl) ?_
        refine HK.out _ _ ⟨HBq.out, ?_⟩
        clear HK K'
        try simp only [Act.put, List.setIfInBounds_toArray, List.set_cons_zero, List.set_cons_succ]
        refine wpAnyT_take2 7 (v := ?tvx8) (by kernel_rfl) rfl (by kernel_rfl) (fun _ _ _ h => h) (Or.inl ⟨by rfl, ?tyx8⟩) HBq.out ?trx8
        case tyx8 => (intro w' hSw; (try dsimp only at hSw); go_simp; try with_reducible rfl)
        try simp only [Act.put, List.setIfInBounds_toArray, List.set_cons_zero, List.set_cons_succ]
        refine wpAnyT_one2 8 rfl (by kernel_rfl) ?_
        intro K' hK'
        rw [if_pos (by rfl)]
        have HK := Lib.hid hK'
        clear hK'
        have hnew := heap_alloc_new2 wd (.cells #[.slice none 0 0, .slice none 0 0, .int .i64 0] 25) wd.heap.size _ rfl
        have hgb : wq.heap.size ≤ wd.heap.size := HBq.out.size
        go_simp
        have HB9 := Lib.hid (below_alloc HBq.out (.cells #[.slice none 0 0, .slice none 0 0, .int .i64 0] 25))
        refine HK.out _ _ ⟨HB9.out, ?_⟩
        clear HK K'
        try simp only [Act.put, List.setIfInBounds_toArray, List.set_cons_zero, List.set_cons_succ]
        obtain ⟨w9, hw9⟩ : ∃ W0, wd.alloc (.cells #[.slice none 0 0, .slice none 0 0, .int .i64 0] 25) = W0 := ⟨_, rfl⟩
        obtain ⟨ga, hga⟩ : ∃ x, wd.heap.size = x := ⟨_, rfl⟩
        rw [hw9] at hnew HB9 ⊢
        rw [hga] at hnew hgb ⊢
        have Ha9 := Lib.hid hnew
        have Ga9 := Lib.hid hgb
        clear hnew hgb hw9 hga
        obtain ⟨s0, s1, s2⟩ := blk_cells3 Ha9.out
        have z0 := blk_frozen Ha9.out 0
        have z1 := blk_frozen Ha9.out 1
        have z2 := blk_frozen Ha9.out 2
        refine ⟨by kernel_rfl, ?_⟩
        change wpList _ _ _ [_] _ _
        go_wp2
        refine NoPanic.normal ?_
        go_wp2
        go_meet
        case rel => exact smid_of0 HB9.out Ha9.out Ga9.out HM.out
      · refine ⟨_, (by rfl), fun K' hK' => ?_⟩
        rw [if_pos (by rfl)]
        have HK := Lib.hid hK'
        clear hK'
        have hnew := heap_alloc_new2 wd (.cells #[.slice none 0 0, .slice none 0 0, .int .i64 0] 25) wd.heap.size _ rfl
        have hgb : wq.heap.size ≤ wd.heap.size := HBq.out.size
        go_simp
        have HB10 := Lib.hid (below_alloc HBq.out (.cells #[.slice none 0 0, .slice none 0 0, .int .i64 0] 25))
        refine HK.out _ _ ⟨HB10.out, ?_⟩
        clear HK K'
        try simp only [Act.put, List.setIfInBounds_toArray, List.set_cons_zero, List.set_cons_succ]
        obtain ⟨w10, hw10⟩ : ∃ W0, wd.alloc (.cells #[.slice none 0 0, .slice none 0 0, .int .i64 0] 25) = W0 := ⟨_, rfl⟩
        obtain ⟨ga, hga⟩ : ∃ x, wd.heap.size = x := ⟨_, rfl⟩
        rw [hw10] at hnew HB10 ⊢
        rw [hga] at hnew hgb ⊢
        have Ha10 := Lib.hid hnew
        have Ga10 := Lib.hid hgb
        clear hnew hgb hw10 hga
        refine wpAnyT_one2 2 rfl (by kernel_rfl) ?_
        intro K' hK'
        rw [if_pos (by rfl)]
        have HK := Lib.hid hK'
        clear hK'
        refine oper_append_none0 _ (.const (.slice none 0 0)) (.tmp 20) 22 (by rfl) 30 i84 Tryd.underlying22 hi84 I c (by rfl) (by rfl) ?_
        refine HK.out _ _ ⟨HB10.out, ?_⟩
        clear HK K'
        try simp only [Act.put, List.setIfInBounds_toArray, List.set_cons_zero, List.set_cons_succ]
        refine wpAnyT_take2 7 (v := ?tvx12) (by kernel_rfl) rfl (by kernel_rfl) (fun _ _ _ h => h) (Or.inl ⟨by rfl, ?tyx12⟩) HB10.out ?trx12
        case tyx12 => (intro w' hSw; (try dsimp only at hSw); go_simp; try with_reducible rfl)
        try simp only [Act.put, List.setIfInBounds_toArray, List.set_cons_zero, List.set_cons_succ]
        obtain ⟨s0, s1, s2⟩ := blk_cells3 Ha10.out
        have z0 := blk_frozen Ha10.out 0
        have z1 := blk_frozen Ha10.out 1
        have z2 := blk_frozen Ha10.out 2
        refine ⟨by kernel_rfl, ?_⟩
        change wpList _ _ _ [_] _ _
        go_wp2
        refine NoPanic.normal ?_
        go_wp2
        go_meet
        case rel => exact smid_of0 HB10.out Ha10.out Ga10.out HM.out
  case rest =>
    obtain ⟨ga, A, ca, rfl, hG, hS, hne, hz, hbx, hge⟩ := hcut
    rw [HM.out] at hG hz
    have HGE := Lib.hid hge
    have HG := Lib.hid hG
    have HS := Lib.hid hS
    have HNE := Lib.hid hne
    have HZ := Lib.hid hz
    have HBX := Lib.hid hbx
    clear hG hS hne hz hbx hge
    go_wp2
    go_loopw [9] (fun i wr => ∃ (k : Nat) (A : Option Addr) (ca : Nat), k ≤ nn ∧ i = .int .i64 k ∧ wr.heap[ga]? = some (.cells #[.slice A (m + k) ca, .slice C kn d, .int .i64 gq] 25 (0, 0)) ∧ Sl wr A (i4s (List.replicate k asr ++ LL)) ∧ (∀ b o, A = some ⟨b, o, none⟩ → b ≠ ga) ∧ (m + k = 0 → A = none ∧ ca = 0) ∧ RowKit.Below wq.heap.size wq wr) (fun i _ => nn - (RowKit.intOf i).toNat)
    case atStart => exact ⟨0, A, ca, Nat.zero_le _, rfl, HG.out, HS.out, HNE.out, HZ.out, HBX.out⟩
    case round =>
      clear HG HS HNE HZ HBX
      obtain ⟨k, A, ca, hk, rfl, hG, hS, hne, hz, hB⟩ := hrel
      have HG := Lib.hid hG
      have HB := Lib.hid hB
      have HS := Lib.hid hS
      have HNE := Lib.hid hne
      clear hG hB hS hne
      by_cases hlt : k < nn
      · have hro : ∀ w : World, (w.alloc (.cells #[.int .i64 5, .int .i64 0, .int .i64 0, .int .i64 0] 30)).ownsRow w.heap.size 30 4 (.slice (some ⟨w.heap.size, 0, none⟩) 1 1) 1 [.int .i64 5, .int .i64 0, .int .i64 0, .int .i64 0] := fun w => ⟨rfl, .inr ⟨w.heap.size, 1, _, rfl, Nat.le_refl _, heap_alloc_new2 _ _ _ _ rfl, Nat.le_refl _, by unfold maxLen; omega, rfl, rfl⟩⟩
        have HRO := Lib.hid (hro wr)
        have HROF := Lib.hid hro
        have hgl : ga < wr.heap.size := lt_of_some HG.out
        have hba := below_alloc HB.out (.cells #[.int .i64 5, .int .i64 0, .int .i64 0, .int .i64 0] 30)
        have HBA := Lib.hid hba
        have hGa := blk_alloc HG.out (.cells #[.int .i64 5, .int .i64 0, .int .i64 0, .int .i64 0] 30)
        obtain ⟨s0, s1, s2⟩ := blk_cells3 HG.out
        have z0 := blk_frozen HG.out 0
        have HGa := Lib.hid hGa
        have HSa := Lib.hid (HS.out.below ((Below.refl wr.heap.size wr).alloc (Nat.le_refl _) (.cells #[.int .i64 5, .int .i64 0, .int .i64 0, .int .i64 0] 30)))
        have hlr : (i4s (List.replicate k asr ++ LL)).length = (m + k) * 4 := by rw [i4s_len, List.length_append, List.length_replicate, HM.out, Nat.add_comm]
        have HLR := Lib.hid hlr
        clear hro hba hGa hlr
        go_upto_region 10 with fail
        by_cases hmk : m + k = 0
        · obtain ⟨rfl, rfl⟩ := hz hmk
          obtain ⟨rfl, rfl⟩ : m = 0 ∧ k = 0 := by omega
          go_wp2_with (at_builtin; refine wpList_append_nilsrc _ rfl (.tmp 33) (.tmp 35) 22 rfl 30 i84 Tryd.underlying22 hi84 wr.heap.size 0 1 1 rfl rfl (Nat.le_refl _) ?_)
          go_wp2
          go_roundw
          case rel =>
            have hsz' : (wr.setCell ⟨ga, 0, none⟩ (.slice (some ⟨wr.heap.size, 0, none⟩) 1 1)).heap.size = wr.heap.size := by simp [World.setCell]
            have hr := HROF.out (wr.setCell ⟨ga, 0, none⟩ (.slice (some ⟨wr.heap.size, 0, none⟩) 1 1))
            rw [hsz'] at hr
            have hg' := blk_alloc (heap_setCell_same wr ga 0 _ _ (.slice (some ⟨wr.heap.size, 0, none⟩) 1 1) HG.out) (.cells #[.int .i64 5, .int .i64 0, .int .i64 0, .int .i64 0] 30)
            have e : LL = [] := List.eq_nil_of_length_eq_zero HM.out
            have hn' := own_ne_box hr (by omega) hg'
            refine ⟨1, some ⟨wr.heap.size, 0, none⟩, 1, by omega, by go_num, hg', ?_, hn', fun e => by omega, below_alloc (HB.out.setCell HGE.out _) _⟩
            rw [e]
            exact own_SlN hr (fun _ => by omega)
          case measure => simp [RowKit.intOf]; omega
        · obtain ⟨bA, oA, rfl, hbA, hcA⟩ := HSa.out (by rw [HLR.out]; omega)
          have HCA := Lib.hid (fun (j : Nat) (u : Value) (hu : (i4s (List.replicate k asr ++ LL))[j]? = some u) => (show (wr.alloc (.cells #[.int .i64 5, .int .i64 0, .int .i64 0, .int .i64 0] 30)).cell? ((⟨bA, oA, none⟩ : Addr).add j) = some u by rw [Addr.add_lit]; exact hcA j u hu))
          clear hcA
          go_wp2_with (at_builtin; refine wpList_append_own2 _ rfl (.tmp 33) (.tmp 35) _ rfl wr.heap.size 30 i84 _ 4 32 Tryd.underlying22 hi84 y0 y1 y2 rfl (by decide) (.slice (some ⟨wr.heap.size, 0, none⟩) 1 1) 1 [.int .i64 5, .int .i64 0, .int .i64 0, .int .i64 0] rfl HRO.out ⟨bA, oA, none⟩ (m + k) ca (i4s (List.replicate k asr ++ LL)) rfl HLR.out HCA.out (i4s_one _) ?d3 ?d4 ?d5 ?_)
          case d3 => simp only [maxLen]; omega
          case d4 => omega
          case d5 => simp
          intro v7 w7 hown0 hg2 hvb2
          have hown2 : w7.ownsRow wr.heap.size 30 4 v7 (1 + (m + k)) (i4s (List.replicate (k + 1) asr ++ LL)) := by rw [rep_succ]; exact hown0
          obtain ⟨uA, uc, rfl⟩ := own_slice hown2
          have hG7 : w7.heap[ga]? = some (.cells #[.slice (some ⟨bA, oA, none⟩) (m + k) ca, .slice C kn d, .int .i64 gq] 25 (0, 0)) := (hg2.block ga (by simp; omega) (fun e => by simp [Value.ownBlock] at e; omega)).trans HGa.out
          have hgl2 : ∀ g', (Value.slice (some ⟨wr.heap.size, 0, none⟩) 1 1).ownBlock = some g' → wq.heap.size ≤ g' := fun g' hg' => by
            have e : wr.heap.size = g' := by simpa [Value.ownBlock] using hg'
            rw [← e]; exact HB.out.size
          have hB7 : RowKit.Below wq.heap.size wq w7 := HBA.out.grown hg2 HBA.out.size hgl2
          have hne7 := own_ne_box hown2 (by omega) hG7
          have HO7 := Lib.hid hown2
          have HG7 := Lib.hid hG7
          have HB7 := Lib.hid hB7
          have HN7 := Lib.hid hne7
          clear s0 s1 s2 z0
          obtain ⟨t0, t1, t2⟩ := blk_cells3 hG7
          have q0 := blk_frozen hG7 0
          have hl7 := lt_of_some hG7
          clear hown2 hg2 hvb2 hG7 hB7 hne7 hgl2 hown0
          go_wp2
          go_roundw
          case rel =>
            refine ⟨k + 1, uA, uc, by omega, by go_num, ?_, (Kp.refl ga _).set 0 _ |>.sl (own_SlN HO7.out (fun _ => by omega)) HN7.out, HN7.out, fun e => by omega, HB7.out.setCell HGE.out _⟩
            have := heap_setCell_same w7 ga 0 _ _ (.slice uA (1 + (m + k)) uc) HG7.out
            rw [show m + (k + 1) = 1 + (m + k) by omega]
            exact this
          case measure => simp [RowKit.intOf]; omega
      · obtain rfl : nn = k := by omega
        obtain ⟨wz, hwz⟩ : ∃ W0, wr = W0 := ⟨_, rfl⟩
        rw [hwz] at HG HB HS ⊢
        have HLL2 := Lib.hid (show (List.replicate nn asr ++ LL).length = m + nn by rw [List.length_append, List.length_replicate, HM.out, Nat.add_comm])
        have hPz := HPq.out.below HB.out
        have hQz : PgAt wz A (List.replicate nn asr ++ LL) C K := ⟨HS.out, hPz.cls, hPz.each, by rw [HLL2.out]; unfold maxLen; omega, hPz.lc⟩
        have A1 := fun (w' : World) (hw : Below wz.heap.size wz w') => CA.out A C (List.replicate nn asr ++ LL) K ca d gq w' (hQz.below hw)
        have A2 := fun (w' : World) (hw : Below wz.heap.size wz w') => CA.out I C LL K c d gq w' (hPz.below hw)
        have S1 := fun (w' : World) => CSL.out A C (m + nn) ca kn d gq w'
        have S2 := fun (w' : World) => CSL.out I C m c kn d gq w'
        rw [HLL2.out, HKN.out, cntA_rep] at A1
        rw [HM.out, HKN.out] at A2
        have hcl : cntA LL ≤ m := by rw [← HM.out]; exact Plain.cntA_le LL
        obtain ⟨ct, hct⟩ : ∃ x, cntA LL = x := ⟨_, rfl⟩
        rw [hct] at A1 A2 hcl
        rw [show ((nn + ct : Nat) : Int) = (ct : Int) + (nn : Int) by omega] at A1
        obtain ⟨sl, hsl⟩ : ∃ x, slotsOf gq = x := ⟨_, rfl⟩
        rw [hsl] at S1 S2
        unfold pgV at A1 A2 S1 S2
        have HA1 := Lib.hid A1
        have HA2 := Lib.hid A2
        have HS1 := Lib.hid S1
        have HS2 := Lib.hid S2
        have HSL := Lib.hid hsl
        have HBZ := Lib.hid (below_then HBW.out HB.out)
        have HF := Lib.hid (fun (w' : World) (hw : Below wz.heap.size wz w') => And.intro (blk_cells3 (blk_later (blk_later HXq.out HB.out) hw)) (blk_cells3 (blk_later HG.out hw)))
        clear A1 A2 S1 S2 hct hsl hPz hQz hz hwz
        obtain ⟨⟨p0, p1, p2⟩, _⟩ := HF.out wz (Below.refl _ _)
        have hgw := HGW.out
        have hcn : (ct : Int) + (nn : Int) ≤ 9223372036854775807 := by omega
        by_cases hsm : 0 ≤ gq ∧ gq < 1073741824
        · obtain ⟨g0, g1⟩ := hsm
          have d1 : decide (0 ≤ gq) = true := by simp [g0]
          have d2 : decide (gq < 1073741824) = true := by simp [g1]
          have hsl2 : sl = 2 * gq + 2 := by rw [← HSL.out]; exact slotsOf_small gq g0 (by omega)
          subst hsl2
          go_upto_region 12 with fail
          have HB0 := Lib.hid (Below.drew (Below.refl wz.heap.size wz))
          have hwr : IntKind.i64.wrap ((ct : Int) + (nn : Int)) = (ct : Int) + (nn : Int) := IntWalk.i64_in _ (by omega)
          have hw1 : IntKind.i64.wrap (2 * gq) = 2 * gq := IntWalk.i64_in _ (by omega)
          have hw2 : IntKind.i64.wrap (2 * gq + 2) = 2 * gq + 2 := IntWalk.i64_in _ (by omega)
          clear p0 p1 p2
          refine wp_region_noPanic ?_
          refine wp_region_T 30 (S := fun w' : World => Below wz.heap.size wz w') (by kernel_rfl) (by decide) ?_
          refine wpAnyT_take2 0 (v := ?tvs0) (by kernel_rfl) rfl (by kernel_rfl) (fun _ _ _ h => h) (Or.inl ⟨by rfl, ?tys0⟩) HB0.out ?trs0
          case tys0 => (intro w' hSw; (try dsimp only at hSw); go_simp; try with_reducible rfl)
          try simp only [Act.put, List.setIfInBounds_toArray, List.set_cons_zero, List.set_cons_succ]
          refine wpAnyT_take2 1 (v := ?tvs1) (by kernel_rfl) rfl (by kernel_rfl) (fun _ _ _ h => h) (Or.inl ⟨by rfl, ?tys1⟩) HB0.out ?trs1
          case tys1 => (intro w' hSw; (try dsimp only at hSw); go_simp; try with_reducible rfl)
          try simp only [Act.put, List.setIfInBounds_toArray, List.set_cons_zero, List.set_cons_succ]
          refine wpAnyT_take2 2 (v := ?tvs2) (by kernel_rfl) rfl (by kernel_rfl) (fun _ _ _ h => h) (Or.inl ⟨by rfl, ?tys2⟩) HB0.out ?trs2
          case tys2 => (intro w' hSw; obtain ⟨⟨p0, p1, p2⟩, ⟨q0, q1, q2⟩⟩ := HF.out w' hSw; (try dsimp only at hSw); go_simp; try with_reducible rfl)
          try simp only [Act.put, List.setIfInBounds_toArray, List.set_cons_zero, List.set_cons_succ]
          refine wpAnyT_take2 4 (v := ?tvs4) (by kernel_rfl) rfl (by kernel_rfl) (fun _ _ _ h => h) (Or.inl ⟨by rfl, ?tys4⟩) HB0.out ?trs4
          case tys4 => (intro w' hSw; obtain ⟨⟨p0, p1, p2⟩, ⟨q0, q1, q2⟩⟩ := HF.out w' hSw; (try dsimp only at hSw); go_simp; try with_reducible rfl)
          try simp only [Act.put, List.setIfInBounds_toArray, List.set_cons_zero, List.set_cons_succ]
          refine wpAnyT_take2 6 (v := ?tvs6) (by kernel_rfl) rfl (by kernel_rfl) (fun _ _ _ h => h) (Or.inl ⟨by rfl, ?tys6⟩) HB0.out ?trs6
          case tys6 => (intro w' hSw; (try dsimp only at hSw); go_simp; try with_reducible rfl)
          try simp only [Act.put, List.setIfInBounds_toArray, List.set_cons_zero, List.set_cons_succ]
          refine wpAnyT_one2 3 rfl (by kernel_rfl) ?_
          intro K' hK'
          rw [if_pos (by rfl)]
          have HK := Lib.hid hK'
          clear hK'
          go_wp2_with (go_at_call 22; refine (HA1.out _ HB0.out).mono ?_; rintro e11 u11 ⟨rfl, hb1⟩)
          have HB1 := Lib.hid (below_then HB0.out hb1)
          clear hb1
          refine HK.out _ _ ⟨HB1.out, ?_⟩
          clear HK K'
          try simp only [Act.put, List.setIfInBounds_toArray, List.set_cons_zero, List.set_cons_succ]
          refine wpAnyT_one2 5 rfl (by kernel_rfl) ?_
          intro K' hK'
          rw [if_pos (by rfl)]
          have HK := Lib.hid hK'
          clear hK'
          go_wp2_with (go_at_call 22; refine (HA2.out _ HB1.out).mono ?_; rintro e12 u12 ⟨rfl, hb2⟩)
          have HB2 := Lib.hid (below_then HB1.out hb2)
          clear hb2
          refine HK.out _ _ ⟨HB2.out, ?_⟩
          clear HK K'
          try simp only [Act.put, List.setIfInBounds_toArray, List.set_cons_zero, List.set_cons_succ]
          refine wpAnyT_take2 7 (v := ?tvs7) (by kernel_rfl) rfl (by kernel_rfl) (fun _ _ _ h => h) (Or.inl ⟨by rfl, ?tys7⟩) HB2.out ?trs7
          case tys7 => (intro w' hSw; (try dsimp only at hSw); go_simp; try with_reducible rfl)
          try simp only [Act.put, List.setIfInBounds_toArray, List.set_cons_zero, List.set_cons_succ]
          refine wpAnyT_take2 8 (v := ?tvs8) (by kernel_rfl) rfl (by kernel_rfl) (fun _ _ _ h => h) (Or.inl ⟨by rfl, ?tys8⟩) HB2.out ?trs8
          case tys8 => (intro w' hSw; (try dsimp only at hSw); go_simp; try with_reducible rfl)
          try simp only [Act.put, List.setIfInBounds_toArray, List.set_cons_zero, List.set_cons_succ]
          refine wpAnyT_take2 9 (v := ?tvs9) (by kernel_rfl) rfl (by kernel_rfl) (fun _ _ _ h => h) (Or.inl ⟨by rfl, ?tys9⟩) HB2.out ?trs9
          case tys9 => (intro w' hSw; (try dsimp only at hSw); go_simp; try with_reducible rfl)
          try simp only [Act.put, List.setIfInBounds_toArray, List.set_cons_zero, List.set_cons_succ]
          refine wpAnyT_take2 10 (v := ?tvs10) (by kernel_rfl) rfl (by kernel_rfl) (fun _ _ _ h => h) (Or.inl ⟨by rfl, ?tys10⟩) HB2.out ?trs10
          case tys10 => (intro w' hSw; (try dsimp only at hSw); go_simp; try with_reducible rfl)
          try simp only [Act.put, List.setIfInBounds_toArray, List.set_cons_zero, List.set_cons_succ]
          refine wpAnyT_take2 11 (v := ?tvs11) (by kernel_rfl) rfl (by kernel_rfl) (fun _ _ _ h => h) (Or.inl ⟨by rfl, ?tys11⟩) HB2.out ?trs11
          case tys11 => (intro w' hSw; (try dsimp only at hSw); go_simp; try with_reducible rfl)
          try simp only [Act.put, List.setIfInBounds_toArray, List.set_cons_zero, List.set_cons_succ]
          refine wpAnyT_take2 12 (v := ?tvs12) (by kernel_rfl) rfl (by kernel_rfl) (fun _ _ _ h => h) (Or.inl ⟨by rfl, ?tys12⟩) HB2.out ?trs12
          case tys12 => (intro w' hSw; (try dsimp only at hSw); go_simp; try with_reducible rfl)
          try simp only [Act.put, List.setIfInBounds_toArray, List.set_cons_zero, List.set_cons_succ]
          refine wpAnyT_take2 13 (v := ?tvs13) (by kernel_rfl) rfl (by kernel_rfl) (fun _ _ _ h => h) (Or.inl ⟨by rfl, ?tys13⟩) HB2.out ?trs13
          case tys13 => (intro w' hSw; (try dsimp only at hSw); go_simp; try with_reducible rfl)
          try simp only [Act.put, List.setIfInBounds_toArray, List.set_cons_zero, List.set_cons_succ]
          refine wpAnyT_take2 14 (v := ?tvs14) (by kernel_rfl) rfl (by kernel_rfl) (fun _ _ _ h => h) (Or.inl ⟨by rfl, ?tys14⟩) HB2.out ?trs14
          case tys14 => (intro w' hSw; obtain ⟨⟨p0, p1, p2⟩, ⟨q0, q1, q2⟩⟩ := HF.out w' hSw; (try dsimp only at hSw); go_simp; try with_reducible rfl)
          try simp only [Act.put, List.setIfInBounds_toArray, List.set_cons_zero, List.set_cons_succ]
          refine wpAnyT_take2 16 (v := ?tvs16) (by kernel_rfl) rfl (by kernel_rfl) (fun _ _ _ h => h) (Or.inl ⟨by rfl, ?tys16⟩) HB2.out ?trs16
          case tys16 => (intro w' hSw; (try dsimp only at hSw); go_simp; try with_reducible rfl)
          try simp only [Act.put, List.setIfInBounds_toArray, List.set_cons_zero, List.set_cons_succ]
          refine wpAnyT_take2 17 (v := ?tvs17) (by kernel_rfl) rfl (by kernel_rfl) (fun _ _ _ h => h) (Or.inl ⟨by rfl, ?tys17⟩) HB2.out ?trs17
          case tys17 => (intro w' hSw; obtain ⟨⟨p0, p1, p2⟩, ⟨q0, q1, q2⟩⟩ := HF.out w' hSw; (try dsimp only at hSw); go_simp; try with_reducible rfl)
          try simp only [Act.put, List.setIfInBounds_toArray, List.set_cons_zero, List.set_cons_succ]
          refine wpAnyT_take2 18 (v := ?tvs18) (by kernel_rfl) rfl (by kernel_rfl) (fun _ _ _ h => h) (Or.inl ⟨by rfl, ?tys18⟩) HB2.out ?trs18
          case tys18 => (intro w' hSw; (try dsimp only at hSw); go_simp; try with_reducible rfl)
          try simp only [Act.put, List.setIfInBounds_toArray, List.set_cons_zero, List.set_cons_succ]
          refine wpAnyT_take2 19 (v := ?tvs19) (by kernel_rfl) rfl (by kernel_rfl) (fun _ _ _ h => h) (Or.inl ⟨by rfl, ?tys19⟩) HB2.out ?trs19
          case tys19 => (intro w' hSw; (try dsimp only at hSw); go_simp; try with_reducible rfl)
          try simp only [Act.put, List.setIfInBounds_toArray, List.set_cons_zero, List.set_cons_succ]
          refine wpAnyT_one2 15 rfl (by kernel_rfl) ?_
          intro K' hK'
          rw [if_pos (by rfl)]
          have HK := Lib.hid hK'
          clear hK'
          go_wp2_with (go_at_call 20; refine (HS2.out _).mono ?_; rintro e13 u13 ⟨rfl, hb3⟩)
          have HB3 := Lib.hid (below_then HB2.out hb3)
          clear hb3
          refine HK.out _ _ ⟨HB3.out, ?_⟩
          clear HK K'
          try simp only [Act.put, List.setIfInBounds_toArray, List.set_cons_zero, List.set_cons_succ]
          refine wpAnyT_take2 20 (v := ?tvs20) (by kernel_rfl) rfl (by kernel_rfl) (fun _ _ _ h => h) (Or.inl ⟨by rfl, ?tys20⟩) HB3.out ?trs20
          case tys20 => (intro w' hSw; (try dsimp only at hSw); go_simp; try with_reducible rfl)
          try simp only [Act.put, List.setIfInBounds_toArray, List.set_cons_zero, List.set_cons_succ]
          refine wpAnyT_take2 21 (v := ?tvs21) (by kernel_rfl) rfl (by kernel_rfl) (fun _ _ _ h => h) (Or.inl ⟨by rfl, ?tys21⟩) HB3.out ?trs21
          case tys21 => (intro w' hSw; (try dsimp only at hSw); go_simp; try with_reducible rfl)
          try simp only [Act.put, List.setIfInBounds_toArray, List.set_cons_zero, List.set_cons_succ]
          refine wpAnyT_take2 22 (v := ?tvs22) (by kernel_rfl) rfl (by kernel_rfl) (fun _ _ _ h => h) (Or.inl ⟨by rfl, ?tys22⟩) HB3.out ?trs22
          case tys22 => (intro w' hSw; (try dsimp only at hSw); go_simp; try with_reducible rfl)
          try simp only [Act.put, List.setIfInBounds_toArray, List.set_cons_zero, List.set_cons_succ]
          refine wpAnyT_take2 23 (v := ?tvs23) (by kernel_rfl) rfl (by kernel_rfl) (fun _ _ _ h => h) (Or.inl ⟨by rfl, ?tys23⟩) HB3.out ?trs23
          case tys23 => (intro w' hSw; (try dsimp only at hSw); go_simp; try with_reducible rfl)
          try simp only [Act.put, List.setIfInBounds_toArray, List.set_cons_zero, List.set_cons_succ]
          refine wpAnyT_take2 24 (v := ?tvs24) (by kernel_rfl) rfl (by kernel_rfl) (fun _ _ _ h => h) (Or.inl ⟨by rfl, ?tys24⟩) HB3.out ?trs24
          case tys24 => (intro w' hSw; obtain ⟨⟨p0, p1, p2⟩, ⟨q0, q1, q2⟩⟩ := HF.out w' hSw; (try dsimp only at hSw); go_simp; try with_reducible rfl)
          try simp only [Act.put, List.setIfInBounds_toArray, List.set_cons_zero, List.set_cons_succ]
          refine wpAnyT_take2 26 (v := ?tvs26) (by kernel_rfl) rfl (by kernel_rfl) (fun _ _ _ h => h) (Or.inl ⟨by rfl, ?tys26⟩) HB3.out ?trs26
          case tys26 => (intro w' hSw; obtain ⟨⟨p0, p1, p2⟩, ⟨q0, q1, q2⟩⟩ := HF.out w' hSw; (try dsimp only at hSw); go_simp; try with_reducible rfl)
          try simp only [Act.put, List.setIfInBounds_toArray, List.set_cons_zero, List.set_cons_succ]
          refine wpAnyT_one2 25 rfl (by kernel_rfl) ?_
          intro K' hK'
          rw [if_pos (by rfl)]
          have HK := Lib.hid hK'
          clear hK'
          go_wp2_with (go_at_call 20; refine (HS1.out _).mono ?_; rintro e14 u14 ⟨rfl, hb4⟩)
          have HB4 := Lib.hid (below_then HB3.out hb4)
          clear hb4
          refine HK.out _ _ ⟨HB4.out, ?_⟩
          clear HK K'
          try simp only [Act.put, List.setIfInBounds_toArray, List.set_cons_zero, List.set_cons_succ]
          refine wpAnyT_one2 27 rfl (by kernel_rfl) ?_
          intro K' hK'
          rw [if_pos (by rfl)]
          have HK := Lib.hid hK'
          clear hK'
          go_wp2_with (go_at_call 20; refine (HS2.out _).mono ?_; rintro e15 u15 ⟨rfl, hb5⟩)
          have HB5 := Lib.hid (below_then HB4.out hb5)
          clear hb5
          refine HK.out _ _ ⟨HB5.out, ?_⟩
          clear HK K'
          try simp only [Act.put, List.setIfInBounds_toArray, List.set_cons_zero, List.set_cons_succ]
          refine wpAnyT_take2 28 (v := ?tvs28) (by kernel_rfl) rfl (by kernel_rfl) (fun _ _ _ h => h) (Or.inl ⟨by rfl, ?tys28⟩) HB5.out ?trs28
          case tys28 => (intro w' hSw; (try dsimp only at hSw); go_simp; try with_reducible rfl)
          try simp only [Act.put, List.setIfInBounds_toArray, List.set_cons_zero, List.set_cons_succ]
          refine wpAnyT_take2 29 (v := ?tvs29) (by kernel_rfl) rfl (by kernel_rfl) (fun _ _ _ h => h) (Or.inl ⟨by rfl, ?tys29⟩) HB5.out ?trs29
          case tys29 => (intro w' hSw; (try dsimp only at hSw); go_simp; try with_reducible rfl)
          try simp only [Act.put, List.setIfInBounds_toArray, List.set_cons_zero, List.set_cons_succ]
          refine ⟨by kernel_rfl, ?_⟩
          change wpList _ _ _ [_] _ _
          go_wp2
          refine NoPanic.normal ?_
          go_wp2
          go_ret
          exact ⟨ret_bool (by first | rfl | simp), below_then HBZ.out HB5.out⟩
        · have hsb : (decide (0 ≤ gq) && decide (gq < 1073741824)) = false := by
            by_cases h1 : 0 ≤ gq
            · have : ¬ gq < 1073741824 := fun h2 => hsm ⟨h1, h2⟩
              simp [h1, this]
            · simp [h1]
          by_cases g0 : 0 ≤ gq
          · have g1 : 1073741824 ≤ gq := by
              rcases Int.lt_or_le gq 1073741824 with h | h
              · exact absurd ⟨g0, h⟩ hsm
              · exact h
            have d1 : decide (0 ≤ gq) = true := by simp [g0]
            have d2 : decide (gq < 1073741824) = false := by simp; omega
            clear hsm hsb
            go_upto_region 12 with fail
            have HB0 := Lib.hid (Below.drew (Below.refl wz.heap.size wz))
            have hwr : IntKind.i64.wrap ((ct : Int) + (nn : Int)) = (ct : Int) + (nn : Int) := IntWalk.i64_in _ (by omega)
            clear p0 p1 p2
            refine wp_region_noPanic ?_
            refine wp_region_T 30 (S := fun w' : World => Below wz.heap.size wz w') (by kernel_rfl) (by decide) ?_
            refine wpAnyT_take2 0 (v := ?tvn0) (by kernel_rfl) rfl (by kernel_rfl) (fun _ _ _ h => h) (Or.inl ⟨by rfl, ?tyn0⟩) HB0.out ?trn0
            case tyn0 => (intro w' hSw; (try dsimp only at hSw); go_simp; try with_reducible rfl)
            try simp only [Act.put, List.setIfInBounds_toArray, List.set_cons_zero, List.set_cons_succ]
            refine wpAnyT_take2 1 (v := ?tvn1) (by kernel_rfl) rfl (by kernel_rfl) (fun _ _ _ h => h) (Or.inl ⟨by rfl, ?tyn1⟩) HB0.out ?trn1
            case tyn1 => (intro w' hSw; (try dsimp only at hSw); go_simp; try with_reducible rfl)
            try simp only [Act.put, List.setIfInBounds_toArray, List.set_cons_zero, List.set_cons_succ]
            refine wpAnyT_take2 2 (v := ?tvn2) (by kernel_rfl) rfl (by kernel_rfl) (fun _ _ _ h => h) (Or.inl ⟨by rfl, ?tyn2⟩) HB0.out ?trn2
            case tyn2 => (intro w' hSw; obtain ⟨⟨p0, p1, p2⟩, ⟨q0, q1, q2⟩⟩ := HF.out w' hSw; (try dsimp only at hSw); go_simp; try with_reducible rfl)
            try simp only [Act.put, List.setIfInBounds_toArray, List.set_cons_zero, List.set_cons_succ]
            refine wpAnyT_take2 4 (v := ?tvn4) (by kernel_rfl) rfl (by kernel_rfl) (fun _ _ _ h => h) (Or.inl ⟨by rfl, ?tyn4⟩) HB0.out ?trn4
            case tyn4 => (intro w' hSw; obtain ⟨⟨p0, p1, p2⟩, ⟨q0, q1, q2⟩⟩ := HF.out w' hSw; (try dsimp only at hSw); go_simp; try with_reducible rfl)
            try simp only [Act.put, List.setIfInBounds_toArray, List.set_cons_zero, List.set_cons_succ]
            refine wpAnyT_take2 6 (v := ?tvn6) (by kernel_rfl) rfl (by kernel_rfl) (fun _ _ _ h => h) (Or.inl ⟨by rfl, ?tyn6⟩) HB0.out ?trn6
            case tyn6 => (intro w' hSw; (try dsimp only at hSw); go_simp; try with_reducible rfl)
            try simp only [Act.put, List.setIfInBounds_toArray, List.set_cons_zero, List.set_cons_succ]
            refine wpAnyT_one2 3 rfl (by kernel_rfl) ?_
            intro K' hK'
            rw [if_pos (by rfl)]
            have HK := Lib.hid hK'
            clear hK'
            go_wp2_with (go_at_call 22; refine (HA1.out _ HB0.out).mono ?_; rintro e11 u11 ⟨rfl, hb1⟩)
            have HB1 := Lib.hid (below_then HB0.out hb1)
            clear hb1
            refine HK.out _ _ ⟨HB1.out, ?_⟩
            clear HK K'
            try simp only [Act.put, List.setIfInBounds_toArray, List.set_cons_zero, List.set_cons_succ]
            refine wpAnyT_one2 5 rfl (by kernel_rfl) ?_
            intro K' hK'
            rw [if_pos (by rfl)]
            have HK := Lib.hid hK'
            clear hK'
            go_wp2_with (go_at_call 22; refine (HA2.out _ HB1.out).mono ?_; rintro e12 u12 ⟨rfl, hb2⟩)
            have HB2 := Lib.hid (below_then HB1.out hb2)
            clear hb2
            refine HK.out _ _ ⟨HB2.out, ?_⟩
            clear HK K'
            try simp only [Act.put, List.setIfInBounds_toArray, List.set_cons_zero, List.set_cons_succ]
            refine wpAnyT_take2 7 (v := ?tvn7) (by kernel_rfl) rfl (by kernel_rfl) (fun _ _ _ h => h) (Or.inl ⟨by rfl, ?tyn7⟩) HB2.out ?trn7
            case tyn7 => (intro w' hSw; (try dsimp only at hSw); go_simp; try with_reducible rfl)
            try simp only [Act.put, List.setIfInBounds_toArray, List.set_cons_zero, List.set_cons_succ]
            refine wpAnyT_take2 8 (v := ?tvn8) (by kernel_rfl) rfl (by kernel_rfl) (fun _ _ _ h => h) (Or.inl ⟨by rfl, ?tyn8⟩) HB2.out ?trn8
            case tyn8 => (intro w' hSw; (try dsimp only at hSw); go_simp; try with_reducible rfl)
            try simp only [Act.put, List.setIfInBounds_toArray, List.set_cons_zero, List.set_cons_succ]
            refine wpAnyT_take2 9 (v := ?tvn9) (by kernel_rfl) rfl (by kernel_rfl) (fun _ _ _ h => h) (Or.inl ⟨by rfl, ?tyn9⟩) HB2.out ?trn9
            case tyn9 => (intro w' hSw; (try dsimp only at hSw); go_simp; try with_reducible rfl)
            try simp only [Act.put, List.setIfInBounds_toArray, List.set_cons_zero, List.set_cons_succ]
            refine wpAnyT_take2 10 (v := ?tvn10) (by kernel_rfl) rfl (by kernel_rfl) (fun _ _ _ h => h) (Or.inl ⟨by rfl, ?tyn10⟩) HB2.out ?trn10
            case tyn10 => (intro w' hSw; (try dsimp only at hSw); go_simp; try with_reducible rfl)
            try simp only [Act.put, List.setIfInBounds_toArray, List.set_cons_zero, List.set_cons_succ]
            refine wpAnyT_take2 11 (v := ?tvn11) (by kernel_rfl) rfl (by kernel_rfl) (fun _ _ _ h => h) (Or.inl ⟨by rfl, ?tyn11⟩) HB2.out ?trn11
            case tyn11 => (intro w' hSw; (try dsimp only at hSw); go_simp; try with_reducible rfl)
            try simp only [Act.put, List.setIfInBounds_toArray, List.set_cons_zero, List.set_cons_succ]
            refine wpAnyT_take2 12 (v := ?tvn12) (by kernel_rfl) rfl (by kernel_rfl) (fun _ _ _ h => h) (Or.inl ⟨by rfl, ?tyn12⟩) HB2.out ?trn12
            case tyn12 => (intro w' hSw; (try dsimp only at hSw); go_simp; try with_reducible rfl)
            try simp only [Act.put, List.setIfInBounds_toArray, List.set_cons_zero, List.set_cons_succ]
            refine wpAnyT_take2 13 (v := ?tvn13) (by kernel_rfl) rfl (by kernel_rfl) (fun _ _ _ h => h) (Or.inl ⟨by rfl, ?tyn13⟩) HB2.out ?trn13
            case tyn13 => (intro w' hSw; (try dsimp only at hSw); go_simp; try with_reducible rfl)
            try simp only [Act.put, List.setIfInBounds_toArray, List.set_cons_zero, List.set_cons_succ]
            refine wpAnyT_take2 14 (by kernel_rfl) rfl (by kernel_rfl) (fun _ _ _ h => h) (Or.inr ⟨by rfl, rfl⟩) HB2.out ?trn14
            try simp only [Act.put, List.setIfInBounds_toArray, List.set_cons_zero, List.set_cons_succ]
            refine wpAnyT_take2 15 (by kernel_rfl) rfl (by kernel_rfl) (fun _ _ _ h => h) (Or.inr ⟨by rfl, rfl⟩) HB2.out ?trn15
            try simp only [Act.put, List.setIfInBounds_toArray, List.set_cons_zero, List.set_cons_succ]
            refine wpAnyT_take2 16 (by kernel_rfl) rfl (by kernel_rfl) (fun _ _ _ h => h) (Or.inr ⟨by rfl, rfl⟩) HB2.out ?trn16
            try simp only [Act.put, List.setIfInBounds_toArray, List.set_cons_zero, List.set_cons_succ]
            refine wpAnyT_take2 17 (by kernel_rfl) rfl (by kernel_rfl) (fun _ _ _ h => h) (Or.inr ⟨by rfl, rfl⟩) HB2.out ?trn17
            try simp only [Act.put, List.setIfInBounds_toArray, List.set_cons_zero, List.set_cons_succ]
            refine wpAnyT_take2 18 (by kernel_rfl) rfl (by kernel_rfl) (fun _ _ _ h => h) (Or.inr ⟨by rfl, rfl⟩) HB2.out ?trn18
            try simp only [Act.put, List.setIfInBounds_toArray, List.set_cons_zero, List.set_cons_succ]
            refine wpAnyT_take2 19 (by kernel_rfl) rfl (by kernel_rfl) (fun _ _ _ h => h) (Or.inr ⟨by rfl, rfl⟩) HB2.out ?trn19
            try simp only [Act.put, List.setIfInBounds_toArray, List.set_cons_zero, List.set_cons_succ]
            refine wpAnyT_take2 20 (by kernel_rfl) rfl (by kernel_rfl) (fun _ _ _ h => h) (Or.inr ⟨by rfl, rfl⟩) HB2.out ?trn20
            try simp only [Act.put, List.setIfInBounds_toArray, List.set_cons_zero, List.set_cons_succ]
            refine wpAnyT_take2 21 (v := ?tvn21) (by kernel_rfl) rfl (by kernel_rfl) (fun _ _ _ h => h) (Or.inl ⟨by rfl, ?tyn21⟩) HB2.out ?trn21
            case tyn21 => (intro w' hSw; (try dsimp only at hSw); go_simp; try with_reducible rfl)
            try simp only [Act.put, List.setIfInBounds_toArray, List.set_cons_zero, List.set_cons_succ]
            refine wpAnyT_take2 22 (v := ?tvn22) (by kernel_rfl) rfl (by kernel_rfl) (fun _ _ _ h => h) (Or.inl ⟨by rfl, ?tyn22⟩) HB2.out ?trn22
            case tyn22 => (intro w' hSw; (try dsimp only at hSw); go_simp; try with_reducible rfl)
            try simp only [Act.put, List.setIfInBounds_toArray, List.set_cons_zero, List.set_cons_succ]
            refine wpAnyT_take2 23 (v := ?tvn23) (by kernel_rfl) rfl (by kernel_rfl) (fun _ _ _ h => h) (Or.inl ⟨by rfl, ?tyn23⟩) HB2.out ?trn23
            case tyn23 => (intro w' hSw; (try dsimp only at hSw); go_simp; try with_reducible rfl)
            try simp only [Act.put, List.setIfInBounds_toArray, List.set_cons_zero, List.set_cons_succ]
            refine wpAnyT_take2 24 (v := ?tvn24) (by kernel_rfl) rfl (by kernel_rfl) (fun _ _ _ h => h) (Or.inl ⟨by rfl, ?tyn24⟩) HB2.out ?trn24
            case tyn24 => (intro w' hSw; obtain ⟨⟨p0, p1, p2⟩, ⟨q0, q1, q2⟩⟩ := HF.out w' hSw; (try dsimp only at hSw); go_simp; try with_reducible rfl)
            try simp only [Act.put, List.setIfInBounds_toArray, List.set_cons_zero, List.set_cons_succ]
            refine wpAnyT_take2 26 (v := ?tvn26) (by kernel_rfl) rfl (by kernel_rfl) (fun _ _ _ h => h) (Or.inl ⟨by rfl, ?tyn26⟩) HB2.out ?trn26
            case tyn26 => (intro w' hSw; obtain ⟨⟨p0, p1, p2⟩, ⟨q0, q1, q2⟩⟩ := HF.out w' hSw; (try dsimp only at hSw); go_simp; try with_reducible rfl)
            try simp only [Act.put, List.setIfInBounds_toArray, List.set_cons_zero, List.set_cons_succ]
            refine wpAnyT_one2 25 rfl (by kernel_rfl) ?_
            intro K' hK'
            rw [if_pos (by rfl)]
            have HK := Lib.hid hK'
            clear hK'
            go_wp2_with (go_at_call 20; refine (HS1.out _).mono ?_; rintro e13 u13 ⟨rfl, hb3⟩)
            have HB3 := Lib.hid (below_then HB2.out hb3)
            clear hb3
            refine HK.out _ _ ⟨HB3.out, ?_⟩
            clear HK K'
            try simp only [Act.put, List.setIfInBounds_toArray, List.set_cons_zero, List.set_cons_succ]
            refine wpAnyT_one2 27 rfl (by kernel_rfl) ?_
            intro K' hK'
            rw [if_pos (by rfl)]
            have HK := Lib.hid hK'
            clear hK'
            go_wp2_with (go_at_call 20; refine (HS2.out _).mono ?_; rintro e14 u14 ⟨rfl, hb4⟩)
            have HB4 := Lib.hid (below_then HB3.out hb4)
            clear hb4
            refine HK.out _ _ ⟨HB4.out, ?_⟩
            clear HK K'
            try simp only [Act.put, List.setIfInBounds_toArray, List.set_cons_zero, List.set_cons_succ]
            refine wpAnyT_take2 28 (v := ?tvn28) (by kernel_rfl) rfl (by kernel_rfl) (fun _ _ _ h => h) (Or.inl ⟨by rfl, ?tyn28⟩) HB4.out ?trn28
            case tyn28 => (intro w' hSw; (try dsimp only at hSw); go_simp; try with_reducible rfl)
            try simp only [Act.put, List.setIfInBounds_toArray, List.set_cons_zero, List.set_cons_succ]
            refine wpAnyT_take2 29 (v := ?tvn29) (by kernel_rfl) rfl (by kernel_rfl) (fun _ _ _ h => h) (Or.inl ⟨by rfl, ?tyn29⟩) HB4.out ?trn29
            case tyn29 => (intro w' hSw; (try dsimp only at hSw); go_simp; try with_reducible rfl)
            try simp only [Act.put, List.setIfInBounds_toArray, List.set_cons_zero, List.set_cons_succ]
            refine ⟨by kernel_rfl, ?_⟩
            change wpList _ _ _ [_] _ _
            go_wp2
            refine NoPanic.normal ?_
            go_wp2
            go_ret
            exact ⟨ret_bool (by first | rfl | simp), below_then HBZ.out HB4.out⟩
          · have g1 : gq < 0 := by omega
            have d1 : decide (0 ≤ gq) = false := by simp; omega
            clear hsm hsb
            go_upto_region 12 with fail
            have HB0 := Lib.hid (Below.drew (Below.refl wz.heap.size wz))
            have hwr : IntKind.i64.wrap ((ct : Int) + (nn : Int)) = (ct : Int) + (nn : Int) := IntWalk.i64_in _ (by omega)
            clear p0 p1 p2
            refine wp_region_noPanic ?_
            refine wp_region_T 30 (S := fun w' : World => Below wz.heap.size wz w') (by kernel_rfl) (by decide) ?_
            refine wpAnyT_take2 0 (v := ?tvk0) (by kernel_rfl) rfl (by kernel_rfl) (fun _ _ _ h => h) (Or.inl ⟨by rfl, ?tyk0⟩) HB0.out ?trk0
            case tyk0 => (intro w' hSw; (try dsimp only at hSw); go_simp; try with_reducible rfl)
            try simp only [Act.put, List.setIfInBounds_toArray, List.set_cons_zero, List.set_cons_succ]
            refine wpAnyT_take2 1 (v := ?tvk1) (by kernel_rfl) rfl (by kernel_rfl) (fun _ _ _ h => h) (Or.inl ⟨by rfl, ?tyk1⟩) HB0.out ?trk1
            case tyk1 => (intro w' hSw; (try dsimp only at hSw); go_simp; try with_reducible rfl)
            try simp only [Act.put, List.setIfInBounds_toArray, List.set_cons_zero, List.set_cons_succ]
            refine wpAnyT_take2 2 (v := ?tvk2) (by kernel_rfl) rfl (by kernel_rfl) (fun _ _ _ h => h) (Or.inl ⟨by rfl, ?tyk2⟩) HB0.out ?trk2
            case tyk2 => (intro w' hSw; obtain ⟨⟨p0, p1, p2⟩, ⟨q0, q1, q2⟩⟩ := HF.out w' hSw; (try dsimp only at hSw); go_simp; try with_reducible rfl)
            try simp only [Act.put, List.setIfInBounds_toArray, List.set_cons_zero, List.set_cons_succ]
            refine wpAnyT_take2 4 (v := ?tvk4) (by kernel_rfl) rfl (by kernel_rfl) (fun _ _ _ h => h) (Or.inl ⟨by rfl, ?tyk4⟩) HB0.out ?trk4
            case tyk4 => (intro w' hSw; obtain ⟨⟨p0, p1, p2⟩, ⟨q0, q1, q2⟩⟩ := HF.out w' hSw; (try dsimp only at hSw); go_simp; try with_reducible rfl)
            try simp only [Act.put, List.setIfInBounds_toArray, List.set_cons_zero, List.set_cons_succ]
            refine wpAnyT_take2 6 (v := ?tvk6) (by kernel_rfl) rfl (by kernel_rfl) (fun _ _ _ h => h) (Or.inl ⟨by rfl, ?tyk6⟩) HB0.out ?trk6
            case tyk6 => (intro w' hSw; (try dsimp only at hSw); go_simp; try with_reducible rfl)
            try simp only [Act.put, List.setIfInBounds_toArray, List.set_cons_zero, List.set_cons_succ]
            refine wpAnyT_one2 3 rfl (by kernel_rfl) ?_
            intro K' hK'
            rw [if_pos (by rfl)]
            have HK := Lib.hid hK'
            clear hK'
            go_wp2_with (go_at_call 22; refine (HA1.out _ HB0.out).mono ?_; rintro e11 u11 ⟨rfl, hb1⟩)
            have HB1 := Lib.hid (below_then HB0.out hb1)
            clear hb1
            refine HK.out _ _ ⟨HB1.out, ?_⟩
            clear HK K'
            try simp only [Act.put, List.setIfInBounds_toArray, List.set_cons_zero, List.set_cons_succ]
            refine wpAnyT_one2 5 rfl (by kernel_rfl) ?_
            intro K' hK'
            rw [if_pos (by rfl)]
            have HK := Lib.hid hK'
            clear hK'
            go_wp2_with (go_at_call 22; refine (HA2.out _ HB1.out).mono ?_; rintro e12 u12 ⟨rfl, hb2⟩)
            have HB2 := Lib.hid (below_then HB1.out hb2)
            clear hb2
            refine HK.out _ _ ⟨HB2.out, ?_⟩
            clear HK K'
            try simp only [Act.put, List.setIfInBounds_toArray, List.set_cons_zero, List.set_cons_succ]
            refine wpAnyT_take2 7 (v := ?tvk7) (by kernel_rfl) rfl (by kernel_rfl) (fun _ _ _ h => h) (Or.inl ⟨by rfl, ?tyk7⟩) HB2.out ?trk7
            case tyk7 => (intro w' hSw; (try dsimp only at hSw); go_simp; try with_reducible rfl)
            try simp only [Act.put, List.setIfInBounds_toArray, List.set_cons_zero, List.set_cons_succ]
            refine wpAnyT_take2 8 (v := ?tvk8) (by kernel_rfl) rfl (by kernel_rfl) (fun _ _ _ h => h) (Or.inl ⟨by rfl, ?tyk8⟩) HB2.out ?trk8
            case tyk8 => (intro w' hSw; (try dsimp only at hSw); go_simp; try with_reducible rfl)
            try simp only [Act.put, List.setIfInBounds_toArray, List.set_cons_zero, List.set_cons_succ]
            refine wpAnyT_take2 9 (v := ?tvk9) (by kernel_rfl) rfl (by kernel_rfl) (fun _ _ _ h => h) (Or.inl ⟨by rfl, ?tyk9⟩) HB2.out ?trk9
            case tyk9 => (intro w' hSw; (try dsimp only at hSw); go_simp; try with_reducible rfl)
            try simp only [Act.put, List.setIfInBounds_toArray, List.set_cons_zero, List.set_cons_succ]
            refine wpAnyT_take2 10 (v := ?tvk10) (by kernel_rfl) rfl (by kernel_rfl) (fun _ _ _ h => h) (Or.inl ⟨by rfl, ?tyk10⟩) HB2.out ?trk10
            case tyk10 => (intro w' hSw; (try dsimp only at hSw); go_simp; try with_reducible rfl)
            try simp only [Act.put, List.setIfInBounds_toArray, List.set_cons_zero, List.set_cons_succ]
            refine wpAnyT_take2 11 (v := ?tvk11) (by kernel_rfl) rfl (by kernel_rfl) (fun _ _ _ h => h) (Or.inl ⟨by rfl, ?tyk11⟩) HB2.out ?trk11
            case tyk11 => (intro w' hSw; (try dsimp only at hSw); go_simp; try with_reducible rfl)
            try simp only [Act.put, List.setIfInBounds_toArray, List.set_cons_zero, List.set_cons_succ]
            refine wpAnyT_take2 12 (v := ?tvk12) (by kernel_rfl) rfl (by kernel_rfl) (fun _ _ _ h => h) (Or.inl ⟨by rfl, ?tyk12⟩) HB2.out ?trk12
            case tyk12 => (intro w' hSw; (try dsimp only at hSw); go_simp; try with_reducible rfl)
            try simp only [Act.put, List.setIfInBounds_toArray, List.set_cons_zero, List.set_cons_succ]
            refine wpAnyT_take2 13 (v := ?tvk13) (by kernel_rfl) rfl (by kernel_rfl) (fun _ _ _ h => h) (Or.inl ⟨by rfl, ?tyk13⟩) HB2.out ?trk13
            case tyk13 => (intro w' hSw; (try dsimp only at hSw); go_simp; try with_reducible rfl)
            try simp only [Act.put, List.setIfInBounds_toArray, List.set_cons_zero, List.set_cons_succ]
            refine wpAnyT_take2 14 (by kernel_rfl) rfl (by kernel_rfl) (fun _ _ _ h => h) (Or.inr ⟨by rfl, rfl⟩) HB2.out ?trk14
            try simp only [Act.put, List.setIfInBounds_toArray, List.set_cons_zero, List.set_cons_succ]
            refine wpAnyT_take2 15 (by kernel_rfl) rfl (by kernel_rfl) (fun _ _ _ h => h) (Or.inr ⟨by rfl, rfl⟩) HB2.out ?trk15
            try simp only [Act.put, List.setIfInBounds_toArray, List.set_cons_zero, List.set_cons_succ]
            refine wpAnyT_take2 16 (by kernel_rfl) rfl (by kernel_rfl) (fun _ _ _ h => h) (Or.inr ⟨by rfl, rfl⟩) HB2.out ?trk16
            try simp only [Act.put, List.setIfInBounds_toArray, List.set_cons_zero, List.set_cons_succ]
            refine wpAnyT_take2 17 (by kernel_rfl) rfl (by kernel_rfl) (fun _ _ _ h => h) (Or.inr ⟨by rfl, rfl⟩) HB2.out ?trk17
            try simp only [Act.put, List.setIfInBounds_toArray, List.set_cons_zero, List.set_cons_succ]
            refine wpAnyT_take2 18 (by kernel_rfl) rfl (by kernel_rfl) (fun _ _ _ h => h) (Or.inr ⟨by rfl, rfl⟩) HB2.out ?trk18
            try simp only [Act.put, List.setIfInBounds_toArray, List.set_cons_zero, List.set_cons_succ]
            refine wpAnyT_take2 19 (by kernel_rfl) rfl (by kernel_rfl) (fun _ _ _ h => h) (Or.inr ⟨by rfl, rfl⟩) HB2.out ?trk19
            try simp only [Act.put, List.setIfInBounds_toArray, List.set_cons_zero, List.set_cons_succ]
            refine wpAnyT_take2 20 (by kernel_rfl) rfl (by kernel_rfl) (fun _ _ _ h => h) (Or.inr ⟨by rfl, rfl⟩) HB2.out ?trk20
            try simp only [Act.put, List.setIfInBounds_toArray, List.set_cons_zero, List.set_cons_succ]
            refine wpAnyT_take2 21 (v := ?tvk21) (by kernel_rfl) rfl (by kernel_rfl) (fun _ _ _ h => h) (Or.inl ⟨by rfl, ?tyk21⟩) HB2.out ?trk21
            case tyk21 => (intro w' hSw; (try dsimp only at hSw); go_simp; try with_reducible rfl)
            try simp only [Act.put, List.setIfInBounds_toArray, List.set_cons_zero, List.set_cons_succ]
            refine wpAnyT_take2 22 (v := ?tvk22) (by kernel_rfl) rfl (by kernel_rfl) (fun _ _ _ h => h) (Or.inl ⟨by rfl, ?tyk22⟩) HB2.out ?trk22
            case tyk22 => (intro w' hSw; (try dsimp only at hSw); go_simp; try with_reducible rfl)
            try simp only [Act.put, List.setIfInBounds_toArray, List.set_cons_zero, List.set_cons_succ]
            refine wpAnyT_take2 23 (v := ?tvk23) (by kernel_rfl) rfl (by kernel_rfl) (fun _ _ _ h => h) (Or.inl ⟨by rfl, ?tyk23⟩) HB2.out ?trk23
            case tyk23 => (intro w' hSw; (try dsimp only at hSw); go_simp; try with_reducible rfl)
            try simp only [Act.put, List.setIfInBounds_toArray, List.set_cons_zero, List.set_cons_succ]
            refine wpAnyT_take2 24 (v := ?tvk24) (by kernel_rfl) rfl (by kernel_rfl) (fun _ _ _ h => h) (Or.inl ⟨by rfl, ?tyk24⟩) HB2.out ?trk24
            case tyk24 => (intro w' hSw; obtain ⟨⟨p0, p1, p2⟩, ⟨q0, q1, q2⟩⟩ := HF.out w' hSw; (try dsimp only at hSw); go_simp; try with_reducible rfl)
            try simp only [Act.put, List.setIfInBounds_toArray, List.set_cons_zero, List.set_cons_succ]
            refine wpAnyT_take2 26 (v := ?tvk26) (by kernel_rfl) rfl (by kernel_rfl) (fun _ _ _ h => h) (Or.inl ⟨by rfl, ?tyk26⟩) HB2.out ?trk26
            case tyk26 => (intro w' hSw; obtain ⟨⟨p0, p1, p2⟩, ⟨q0, q1, q2⟩⟩ := HF.out w' hSw; (try dsimp only at hSw); go_simp; try with_reducible rfl)
            try simp only [Act.put, List.setIfInBounds_toArray, List.set_cons_zero, List.set_cons_succ]
            refine wpAnyT_one2 25 rfl (by kernel_rfl) ?_
            intro K' hK'
            rw [if_pos (by rfl)]
            have HK := Lib.hid hK'
            clear hK'
            go_wp2_with (go_at_call 20; refine (HS1.out _).mono ?_; rintro e13 u13 ⟨rfl, hb3⟩)
            have HB3 := Lib.hid (below_then HB2.out hb3)
            clear hb3
            refine HK.out _ _ ⟨HB3.out, ?_⟩
            clear HK K'
            try simp only [Act.put, List.setIfInBounds_toArray, List.set_cons_zero, List.set_cons_succ]
            refine wpAnyT_one2 27 rfl (by kernel_rfl) ?_
            intro K' hK'
            rw [if_pos (by rfl)]
            have HK := Lib.hid hK'
            clear hK'
            go_wp2_with (go_at_call 20; refine (HS2.out _).mono ?_; rintro e14 u14 ⟨rfl, hb4⟩)
            have HB4 := Lib.hid (below_then HB3.out hb4)
            clear hb4
            refine HK.out _ _ ⟨HB4.out, ?_⟩
            clear HK K'
            try simp only [Act.put, List.setIfInBounds_toArray, List.set_cons_zero, List.set_cons_succ]
            refine wpAnyT_take2 28 (v := ?tvk28) (by kernel_rfl) rfl (by kernel_rfl) (fun _ _ _ h => h) (Or.inl ⟨by rfl, ?tyk28⟩) HB4.out ?trk28
            case tyk28 => (intro w' hSw; (try dsimp only at hSw); go_simp; try with_reducible rfl)
            try simp only [Act.put, List.setIfInBounds_toArray, List.set_cons_zero, List.set_cons_succ]
            refine wpAnyT_take2 29 (v := ?tvk29) (by kernel_rfl) rfl (by kernel_rfl) (fun _ _ _ h => h) (Or.inl ⟨by rfl, ?tyk29⟩) HB4.out ?trk29
            case tyk29 => (intro w' hSw; (try dsimp only at hSw); go_simp; try with_reducible rfl)
            try simp only [Act.put, List.setIfInBounds_toArray, List.set_cons_zero, List.set_cons_succ]
            refine ⟨by kernel_rfl, ?_⟩
            change wpList _ _ _ [_] _ _
            go_wp2
            refine NoPanic.normal ?_
            go_wp2
            go_ret
            exact ⟨ret_bool (by first | rfl | simp), below_then HBZ.out HB4.out⟩
set_option maxRecDepth 100000 in
theorem slots_all {H : Type} {enc : TypeId × Value → H} {base : Nat} {v : Value} {d : DataW H} {p : List MemPlace} (a : Int) (W : World) (hv : Value.okWide Tryd.prog W .any base 28 v) (h : DataW.Trod enc Tryd.prog W 0 (fun _ => true) true 28 v d p) (hz : ∀ n ∈ d.weights Tryd.prog 28, n ≤ reachBytes) (ha : (Lit.int .u8 a).wf = true) :
    Calls Tryd.prog 7 #[v, .int .u8 a] W fun e w' => e = .returned (.bool true) ∧ Below W.heap.size W w' := by
  obtain ⟨PI, PL, pic, PC, PK, pcc, pg, own, LA, L, lc, g, rfl, hC⟩ := open_code hv h
  have hb := wf_u8b ha
  have hr := code_reach h hz
  exact slots_w PI PC LA PL PK pic pcc lc pg own L g a W hC hb.1 hb.2 hr
end Go.Proofs.YtpeheppiolfpfaaDoor
