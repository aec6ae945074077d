/- dfa: a state's number. Conditions: what each lemma says. -/
import Derived.Test.YtgppobaoclfgcaaGreatDoorDfaA
set_option linter.unusedVariables false
set_option linter.unusedSimpArgs false
namespace Go.Proofs.YtgppobaoclfgcaaGreatDoor
open Go.RowKit Go.Lib Go.Maps
open Plain (In4)
def StPost (W w : World) (b mb m : Nat) (lv nv av : Value) (I C : Option Addr) (n c kn d : Nat) (g : Int) (N : List Row) (A : List Bool) (S : List Row) (R : List Th) (P : Row → Prop) (e : Ending) (w' : World) : Prop :=
  ∃ (z : Int) (sv : Value) (S' : List Row) (m' : Nat), e = .returned (.int .i64 z) ∧ Bd W w' b mb m' lv nv av sv I C n c kn d g N A S' R ∧ m' ≤ m + 1 ∧ (S' = S ∨ ∃ r, P r ∧ S' = S ++ [r]) ∧ Ki w w'
set_option maxRecDepth 1000000 in
set_option maxHeartbeats 8000000 in
theorem state_any (W w : World) (b mb m : Nat) (lv nv av sv : Value) (I C : Option Addr) (n c kn d : Nat) (g : Int) (N : List Row) (A : List Bool) (S : List Row) (R : List Th) (r : Row)
    (hB : Bd W w b mb m lv nv av sv I C n c kn d g N A S R) (hT : Tp W) (hr : Ln w r) (hi : InN n r.2.2) (hl : r.2.2.length ≤ n) (hn : n ≤ 100000) (hm : m ≤ 1000000) (hS : S.length ≤ 1000000) :
    Calls Tryz.prog 17 #[.pointer (some ⟨b, 0, none⟩), rowV r] w (StPost W w b mb m lv nv av I C n c kn d g N A S R (fun x => x = r)) := by
  have cK := key_any r.1 r.2.2 r.2.1 w hr.sl (by omega) (fun t ht => ⟨by have := hi t ht; omega, by have := hi t ht; omega⟩) (hT.below hB.sep.2)
  have HK := Lib.hid cK
  have HB := Lib.hid hB
  have HR := Lib.hid (And.intro hr (And.intro hi hl))
  obtain ⟨l, hll⟩ : ∃ l, r.2.2.length = l := ⟨_, rfl⟩
  obtain ⟨A1, hA1⟩ : ∃ l, r.1 = l := ⟨_, rfl⟩
  obtain ⟨c1, hc1⟩ : ∃ l, r.2.1 = l := ⟨_, rfl⟩
  have HRV := Lib.hid (show rowV r = .slice A1 l c1 by unfold rowV; rw [hA1, hll, hc1])
  rw [hA1, hll, hc1] at HK
  rw [HRV.out]
  obtain ⟨sp, sc, rfl⟩ := own_form (hB.sep.row 3 _ _ _ _ _ rfl)
  obtain ⟨sn, hsn⟩ : ∃ x, S.length = x := ⟨_, rfl⟩
  have HSN := Lib.hid hsn
  rw [hsn] at hS
  clear cK hr hi hl hll hA1 hc1 hT hB
  obtain ⟨i58, hi58, z0, z1, z2⟩ := info_parts info58
  go_enter Tryz.func17, Tryz.ntmps17
  go_wp2_with fail
  refine HK.out.mono ?_
  rintro e w1 ⟨q, rfl, hq, hb⟩
  have HB1 := Lib.hid (HB.out.below hb)
  have HKi := Lib.hid (Ki.below hb)
  have HR1 := Lib.hid (HR.out.1.ki (.below hb))
  obtain ⟨s, hs⟩ : ∃ x, str q = x := ⟨_, rfl⟩
  have hsz : s.size ≤ maxLen := by rw [← hs, str_size]; simp only [maxLen]; omega
  obtain ⟨cc, found, hlk⟩ := HB1.out.map.look s hsz
  rw [hs]
  have hbx := HB1.out.sep.box 0 _ _ _ rfl
  have lb := lt_of_some hbx.2
  have x7 : w1.cell? ⟨b, 7, none⟩ = some (.map (some mb)) := by rw [cell_of_row _ _ _ _ _ _ hbx.2]; rfl
  have x6 : w1.cell? ⟨b, 6, none⟩ = some (.slice sp sn sc) := by rw [cell_of_row _ _ _ _ _ _ hbx.2, ← hsn]; rfl
  have HSZ := Lib.hid hsz
  clear hq hb hs hsz hbx hsn
  cases found
  case true =>
    go_wp2_with fail
    go_ret
    exact ⟨cc, _, S, m, rfl, HB1.out, by omega, .inl rfl, HKi.out⟩
  have hw0 : (Lit.int .i64 (sn : Int)).wf = true := WalkArith.wf_i64 (by omega)
  go_wp2_with (at_mapUpdate; refine wpList_put rfl _ _ _ rfl mb m s sn rfl HB1.out.map (by simp only [maxLen]; omega) rfl HSZ.out rfl hw0 ?_)
  intro w2 hM2 hg2
  have HG2 := Lib.hid hg2
  have hs2 := HB1.out.sep.map HB1.out.map HB1.out.mge hg2
  have HS2 := Lib.hid hs2
  have HM2 := Lib.hid hM2
  have HK2 := Lib.hid (HKi.out.trans (Ki.gr hg2 HB1.out.map.not3))
  have HR2 := Lib.hid (HR1.out.ki (Ki.gr hg2 HB1.out.map.not3))
  have hbx := hs2.box 0 _ _ _ rfl
  clear hlk lb x7 x6 hM2 hg2 hs2
  have lb := lt_of_some hbx.2
  have x6 : w2.cell? ⟨b, 6, none⟩ = some (.slice sp sn sc) := by rw [cell_of_row _ _ _ _ _ _ hbx.2, ← HSN.out]; rfl
  clear hbx
  have HROW := Lib.hid ((HS2.out.alloc (.cells #[.slice A1 l c1] 58)).row 3 _ _ _ _ _ rfl)
  rw [HSN.out] at HROW
  go_wp2_with (at_builtin; refine wpList_append_own2 _ rfl (.tmp 36) (.tmp 38) _ rfl W.heap.size 58 i58 _ 1 24 Tryz.underlying24 hi58 z0 z1 z2 rfl (by decide) (.slice sp sn sc) sn (S.map rowV) rfl HROW.out ⟨w2.heap.size, 0, none⟩ 1 1 [.slice A1 l c1] rfl rfl (CellsAt_add (CellsAt.new w2 _ _)) ?c2 ?c3 ?c4 ?c5 ?_)
  case c2 => first | exact rfl | (intro u hu; simp only [List.mem_cons, List.not_mem_nil, or_false] at hu; rw [hu]; rfl)
  case c3 => simp only [maxLen]; omega
  case c4 => omega
  case c5 => have := HS2.out.2.size; simp; omega
  intro v3 w7 hown2 hgr hvb
  obtain ⟨gv, uc, rfl, _, _, _⟩ := own_at hown2 (by omega)
  have hob : (Value.slice sp sn sc).ownBlock = (Value.slice sp S.length sc).ownBlock := by cases sp <;> rfl
  rw [hob] at hgr hvb
  have ka := Ki.below (below_alloc (Below.refl w2.heap.size w2) (.cells #[.slice A1 l c1] 58))
  have hrow := (HS2.out.alloc (.cells #[.slice A1 l c1] 58)).row 3 _ _ _ _ _ rfl
  have kb : Ki (w2.alloc (.cells #[.slice A1 l c1] 58)) w7 := Ki.gr hgr (fun k hk => not3_row hrow (by decide) k hk)
  have hm7 : MapAt w7 mb (m + 1) := ((HM2.out.below (below_alloc (Below.refl _ _) _)).kept hgr ((HM2.out.below (below_alloc (Below.refl w2.heap.size w2) (.cells #[.slice A1 l c1] 58))).ne_row hrow))
  have hS7 := HS2.out.push 3 58 1 _ (.slice (some ⟨gv, 0, none⟩) (sn + 1) uc) S.length (sn + 1) _ _ rfl (below_alloc (Below.refl w2.heap.size w2) _) hgr hown2 (by rw [World.size_alloc]; simpa using hvb)
  have hb7 := hS7.box 0 _ _ _ rfl
  clear lb x6
  have lb := lt_of_some hb7.2
  have x6 : w7.cell? ⟨b, 6, none⟩ = some (.slice sp sn sc) := by rw [cell_of_row _ _ _ _ _ _ hb7.2, ← HSN.out]; rfl
  have f6 : w7.frozen? ⟨b, 6, none⟩ = false := blk_frozen hb7.2 6
  have s8 := hS7.store 0 b _ 66 rfl 6 (.slice (some ⟨gv, 0, none⟩) (sn + 1) uc)
  have kc : Ki w7 (w7.setCell ⟨b, 6, none⟩ (.slice (some ⟨gv, 0, none⟩) (sn + 1) uc)) := Ki.gr (gr_set _ _ _ _) (not3_box hb7.2 (by decide))
  have hm8 : MapAt (w7.setCell ⟨b, 6, none⟩ (.slice (some ⟨gv, 0, none⟩) (sn + 1) uc)) mb (m + 1) := hm7.kept (gr_set _ _ _ _) (fun e => hm7.ne hb7.2 (Option.some.inj e))
  have k28 := (ka.trans kb).trans kc
  have k08 := HK2.out.trans k28
  have hL : ∀ x ∈ S, Ln w2 x := fun x hx => (HB1.out.lines x hx).1.ki (Ki.gr HG2.out HB1.out.map.not3)
  have hN : ∀ x ∈ N, Ln w2 x := fun x hx => (HB1.out.nexts x hx).ki (Ki.gr HG2.out HB1.out.map.not3)
  have hfin : StPost W w b mb m lv nv av I C n c kn d g N A S R (fun x => x = r) (.returned (.int .i64 (sn : Int))) (w7.setCell ⟨b, 6, none⟩ (.slice (some ⟨gv, 0, none⟩) (sn + 1) uc)) := by
    refine ⟨sn, .slice (some ⟨gv, 0, none⟩) (sn + 1) uc, S ++ [r], m + 1, rfl, ⟨?_, hm8, HB1.out.mge, fun x hx => ?_, fun x hx => (hN x hx).ki k28⟩, Nat.le_refl _, .inr ⟨r, rfl, rfl⟩, k08⟩
    · have el : sn + 1 = (S ++ [r]).length := by rw [List.length_append, HSN.out]; rfl
      have em : S.map rowV ++ [.slice A1 l c1] = (S ++ [r]).map rowV := by rw [List.map_append, List.map_cons, List.map_nil, HRV.out]
      unfold BL
      rw [← em, ← el]
      exact s8
    · rcases List.mem_append.1 hx with hx | hx
      · exact ⟨(hL x hx).ki k28, (HB1.out.lines x hx).2⟩
      · rw [List.mem_singleton.1 hx]; exact ⟨HR2.out.ki k28, HR.out.2⟩
  have HF := Lib.hid hfin
  clear hfin hL hN k08 k28 hm8 kc s8 hb7 hS7 hm7 kb hrow ka hown2 hgr hvb
  go_wp2_with fail
  go_ret
  exact HF.out
end Go.Proofs.YtgppobaoclfgcaaGreatDoor
