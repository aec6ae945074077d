/- Chapter 12: the reader's methods; many; things that lie apart. Conditions: what each lemma says. -/
import Derived.Test.YtmiacgkidldjmaaGreatDoorVaryX
import Derived.Test.YtmiacgkidldjmaaGreatDoorWP6
set_option linter.unusedVariables false
set_option linter.unusedSimpArgs false
namespace Go.Proofs.YtmiacgkidldjmaaGreatDoor
open Go.RowKit Go.Lib
theorem gr_refl (w : World) (r : Option Nat) : w.grownBy w r := ⟨rfl, rfl, rfl, Nat.le_refl _, fun _ _ _ => rfl⟩
theorem gr_trans {a b c : World} {r : Option Nat} (h : a.grownBy b r) (k : b.grownBy c r) : a.grownBy c r :=
  ⟨k.os.trans h.os, k.tape.trans h.tape, k.output.trans h.output, Nat.le_trans h.size k.size, fun i hi hn => (k.block i (Nat.lt_of_lt_of_le hi h.size) hn).trans (h.block i hi hn)⟩
theorem gr_below {w w' : World} (r : Option Nat) (h : Below w.heap.size w w') : w.grownBy w' r := ⟨h.os, h.tape, h.output, h.size, fun k hk _ => h.block k hk⟩
theorem gr_set (w : World) (g j : Nat) (v : Value) : w.grownBy (w.setCell ⟨g, j, none⟩ v) (some g) :=
  ⟨rfl, rfl, rfl, by simp, fun k _ hn => heap_setCell_other w ⟨g, j, none⟩ k v (fun e => hn (by rw [e]))⟩
theorem gr_out {W w w' : World} {g : Nat} (hb : Below W.heap.size W w) (h : w.grownBy w' (some g)) (hg : W.heap.size ≤ g) : Below W.heap.size W w' :=
  ⟨h.os.trans hb.os, h.tape.trans hb.tape, h.output.trans hb.output, Nat.le_trans hb.size h.size, fun k hk => (h.block k (Nat.lt_of_lt_of_le hk hb.size) (fun e => by injection e; omega)).trans (hb.block k hk)⟩
theorem gr_blk {w w' : World} {g k : Nat} {c : Obj} (h : w.grownBy w' (some g)) (hk : w.heap[k]? = some c) (hne : k ≠ g) : w'.heap[k]? = some c :=
  (h.block k (lt_of_some hk) (fun e => hne (Option.some.inj e))).trans hk
theorem blk_cells5 {w : World} {fb : Nat} {v0 v1 v2 v3 v4 : Value} {t : TypeId} (h : w.heap[fb]? = some (.cells #[v0, v1, v2, v3, v4] t (0, 0))) :
    w.cell? ⟨fb, 0, none⟩ = some v0 ∧ w.cell? ⟨fb, 1, none⟩ = some v1 ∧ w.cell? ⟨fb, 2, none⟩ = some v2 ∧ w.cell? ⟨fb, 3, none⟩ = some v3 ∧ w.cell? ⟨fb, 4, none⟩ = some v4 :=
  ⟨by rw [cell_of_row _ _ _ _ _ _ h]; rfl, by rw [cell_of_row _ _ _ _ _ _ h]; rfl, by rw [cell_of_row _ _ _ _ _ _ h]; rfl, by rw [cell_of_row _ _ _ _ _ _ h]; rfl, by rw [cell_of_row _ _ _ _ _ _ h]; rfl⟩
/-- the reader's box -/
def RdAt (w : World) (g : Nat) (t : Plain.St) : Prop := w.heap[g]? = some (.cells #[.string (str t.al.rest), .int .i64 t.al.e, .string (str t.inn.rest), .int .i64 t.inn.e, .int .i64 t.bad] 173 (0, 0))
theorem RdAt.gr {w w' : World} {g k : Nat} {t : Plain.St} (h : RdAt w g t) (hg : w.grownBy w' (some k)) (hne : g ≠ k) : RdAt w' g t := gr_blk hg h hne
theorem RdAt.below {w w' : World} {g : Nat} {t : Plain.St} (h : RdAt w g t) (hb : Below w.heap.size w w') : RdAt w' g t := blk_later h hb
theorem rfail_any (g : Nat) (t : Plain.St) (e : Int) (w : World) (h : RdAt w g t) :
    Calls Tryz.prog 110 #[.pointer (some ⟨g, 0, none⟩), .int .i64 e] w fun en w' => en = .returned (.tuple #[]) ∧ RdAt w' g (t.fail e) ∧ w.grownBy w' (some g) := by
  obtain ⟨al, inn, bad⟩ := t
  obtain ⟨_, _, _, _, x4⟩ := blk_cells5 h
  have f4 := blk_frozen h 4
  dsimp only at x4
  by_cases hb : bad = 0
  · subst hb
    have hs := heap_setCell_same _ _ 4 _ _ (.int .i64 e) h
    have HR := Lib.hid (show RdAt (w.setCell ⟨g, 4, none⟩ (.int .i64 e)) g (Plain.St.fail ⟨al, inn, 0⟩ e) from hs)
    have HG := Lib.hid (gr_set w g 4 (.int .i64 e))
    clear h hs
    go_enter Tryz.func110, Tryz.ntmps110
    go_wp2
    go_end0
    exact ⟨rfl, HR.out, HG.out⟩
  · have hf : Plain.St.fail ⟨al, inn, bad⟩ e = ⟨al, inn, bad⟩ := Plain.St.fail_bad _ _ hb
    rw [hf]
    have HR := Lib.hid h
    have d : (bad == 0) = false := by simp [hb]
    clear h hf
    go_enter Tryz.func110, Tryz.ntmps110
    go_wp2
    go_end0
    exact ⟨rfl, HR.out, gr_refl _ _⟩
end Go.Proofs.YtmiacgkidldjmaaGreatDoor
namespace Go.Proofs.YtmiacgkidldjmaaGreatDoor
open Go.RowKit Go.Lib
/-- the reader's box, by its cells -/
def RB (w : World) (g : Nat) (s0 : ByteArray) (e0 : Int) (s1 : ByteArray) (e1 b : Int) : Prop := w.heap[g]? = some (.cells #[.string s0, .int .i64 e0, .string s1, .int .i64 e1, .int .i64 b] 173 (0, 0))
theorem RB.gr {w w' : World} {g k : Nat} {s0 e0 s1 e1 b} (h : RB w g s0 e0 s1 e1 b) (hg : w.grownBy w' (some k)) (hne : g ≠ k) : RB w' g s0 e0 s1 e1 b := gr_blk hg h hne
theorem RB.below {w w' : World} {g : Nat} {s0 e0 s1 e1 b} (h : RB w g s0 e0 s1 e1 b) (hb : Below w.heap.size w w') : RB w' g s0 e0 s1 e1 b := blk_later h hb
theorem RB.cells {w : World} {g : Nat} {s0 e0 s1 e1 b} (h : RB w g s0 e0 s1 e1 b) : (w.cell? ⟨g, 0, none⟩ = some (.string s0) ∧ w.cell? ⟨g, 1, none⟩ = some (.int .i64 e0) ∧ w.cell? ⟨g, 2, none⟩ = some (.string s1) ∧ w.cell? ⟨g, 3, none⟩ = some (.int .i64 e1) ∧ w.cell? ⟨g, 4, none⟩ = some (.int .i64 b)) ∧ w.frozen? ⟨g, 0, none⟩ = false ∧ w.frozen? ⟨g, 1, none⟩ = false ∧ w.frozen? ⟨g, 2, none⟩ = false ∧ w.frozen? ⟨g, 3, none⟩ = false :=
  ⟨blk_cells5 h, blk_frozen h 0, blk_frozen h 1, blk_frozen h 2, blk_frozen h 3⟩
def fb (b e : Int) : Int := if b = 0 then e else b
theorem rfailB (g : Nat) (s0 : ByteArray) (e0 : Int) (s1 : ByteArray) (e1 b e : Int) (w : World) (h : RB w g s0 e0 s1 e1 b) :
    Calls Tryz.prog 110 #[.pointer (some ⟨g, 0, none⟩), .int .i64 e] w fun en w' => en = .returned (.tuple #[]) ∧ RB w' g s0 e0 s1 e1 (fb b e) ∧ w.grownBy w' (some g) :=
  rfail_any g ⟨⟨s0.data.toList, e0⟩, ⟨s1.data.toList, e1⟩, b⟩ e w h
theorem RB.set01 {w : World} {g : Nat} {s0 e0 s1 e1 b} (h : RB w g s0 e0 s1 e1 b) (s : ByteArray) (e : Int) : RB (set2 w g (.string s) (.int .i64 e)) g s e s1 e1 b := by
  unfold RB at h ⊢
  exact heap_setCell_same _ _ 1 _ _ _ (heap_setCell_same _ _ 0 _ _ _ h)
theorem RB.set23 {w : World} {g : Nat} {s0 e0 s1 e1 b} (h : RB w g s0 e0 s1 e1 b) (s : ByteArray) (e : Int) : RB ((w.setCell ⟨g, 2, none⟩ (.string s)).setCell ⟨g, 3, none⟩ (.int .i64 e)) g s0 e0 s e b := by
  unfold RB at h ⊢
  exact heap_setCell_same _ _ 3 _ _ _ (heap_setCell_same _ _ 2 _ _ _ h)
theorem gr_set2 (w : World) (g : Nat) (a b : Value) : w.grownBy (set2 w g a b) (some g) := gr_trans (gr_set w g 0 a) (gr_set _ g 1 b)
theorem gr_set23 (w : World) (g : Nat) (a b : Value) : w.grownBy ((w.setCell ⟨g, 2, none⟩ a).setCell ⟨g, 3, none⟩ b) (some g) := gr_trans (gr_set w g 2 a) (gr_set _ g 3 b)
/-- a new box of two cells, filled at once -/
theorem new2 (w : World) (o : Obj) (x y : Value) (t : TypeId) (a b : Value) (ho : o = .cells #[x, y] t := by rfl) :
    (set2 (w.alloc o) w.heap.size a b).heap[w.heap.size]? = some (.cells #[a, b] t (0, 0)) ∧ Below w.heap.size w (set2 (w.alloc o) w.heap.size a b) := by
  subst ho
  exact ⟨set2_same (heap_alloc_new2 _ _ _ _ rfl) _ _, set2_below (below_alloc (Below.refl _ _) _) (Nat.le_refl _) _ _⟩
theorem sec_eq (la : List UInt8) (ea : Int) (li : List UInt8) (ei bad : Int) (tag : Nat) :
    (Plain.St.mk ⟨la, ea⟩ ⟨li, ei⟩ bad).section tag =
      let x := (Plain.Rd.mk la ea).bytes 1
      let b2 := fb (fb bad (Plain.Rd.mk li ei).endE) x.2.e
      let y := x.2.text 65536
      ⟨y.2, ⟨y.1, 0⟩, fb (if x.2.e = 0 ∧ (x.1.headD 0).toNat ≠ tag then fb b2 7 else b2) y.2.e⟩ := by
  unfold Plain.St.section Plain.secTag
  dsimp only
  by_cases h : ((Plain.Rd.mk la ea).bytes 1).2.e = 0 ∧ (((Plain.Rd.mk la ea).bytes 1).1.headD 0).toNat ≠ tag
  · rw [if_pos h, if_pos h]; rfl
  · rw [if_neg h, if_neg h]; rfl
end Go.Proofs.YtmiacgkidldjmaaGreatDoor
namespace Go.Proofs.YtmiacgkidldjmaaGreatDoor
open Go.RowKit Go.Lib
set_option maxRecDepth 100000 in
set_option maxHeartbeats 2000000 in
theorem rsection_any (g : Nat) (t : Plain.St) (tag : Nat) (w : World) (h : RdAt w g t) (hsm : t.small) (ht : tag < 256) :
    Calls Tryz.prog 61 #[.pointer (some ⟨g, 0, none⟩), .int .i64 (tag : Int)] w fun en w' => en = .returned (.tuple #[]) ∧ RdAt w' g (t.section tag) ∧ w.grownBy w' (some g) := by
  obtain ⟨⟨la, ea⟩, ⟨li, ei⟩, bad⟩ := t
  obtain ⟨sm1, sm2⟩ := hsm
  dsimp only at sm1 sm2
  rw [sec_eq]
  have cE := fun W => end_any ⟨li, ei⟩ W
  have cB := fun W => bytes_any ⟨la, ea⟩ 1 W (by dsimp only; omega)
  have hbl := bytes_len ⟨la, ea⟩ 1
  have hgot := Plain.bytes_got ⟨la, ea⟩ 1
  unfold bytesV at cB
  obtain ⟨bs, ⟨l1, x1⟩, hby⟩ : ∃ bs r1, Plain.Rd.bytes ⟨la, ea⟩ 1 = (bs, r1) := ⟨_, _, rfl⟩
  rw [hby] at cB hbl hgot ⊢
  dsimp only at cB hbl hgot ⊢
  have cT := fun W => text_any ⟨l1, x1⟩ 65536 W (by dsimp only; omega) (by decide)
  unfold textV at cT
  obtain ⟨tx, ⟨l2, x2⟩, htx⟩ : ∃ tx r2, Plain.Rd.text ⟨l1, x1⟩ 65536 = (tx, r2) := ⟨_, _, rfl⟩
  rw [htx] at cT ⊢
  unfold rdOf rdV at cE cB cT
  dsimp only at cE cB cT ⊢
  obtain ⟨e1, he1⟩ : ∃ x, Plain.Rd.endE ⟨li, ei⟩ = x := ⟨_, rfl⟩
  rw [he1] at cE ⊢
  have hR0 : RB w g (str la) ea (str li) ei bad := h
  have hlt := lt_of_some h
  have hfin : ∀ (w' : World) (b : Int), RB w' g (str l2) x2 (str tx) 0 b → RdAt w' g ⟨⟨l2, x2⟩, ⟨tx, 0⟩, b⟩ := fun w' b h => h
  obtain ⟨sa, hsa⟩ : ∃ x, str la = x := ⟨_, rfl⟩
  obtain ⟨si, hsi⟩ : ∃ x, str li = x := ⟨_, rfl⟩
  obtain ⟨s1, hs1⟩ : ∃ x, str l1 = x := ⟨_, rfl⟩
  obtain ⟨s2, hs2⟩ : ∃ x, str l2 = x := ⟨_, rfl⟩
  obtain ⟨st, hst⟩ : ∃ x, str tx = x := ⟨_, rfl⟩
  rw [hsa] at cB hR0
  rw [hsi] at cE hR0
  rw [hs1] at cB cT
  rw [hs2] at cT hfin
  rw [hst] at cT hfin
  have CE := Lib.hid cE
  have CT := Lib.hid cT
  have HR := Lib.hid hR0
  have HF := Lib.hid hfin
  obtain ⟨⟨x0, x1', x2', x3, x4⟩, f0, f1, f2, f3⟩ := hR0.cells
  clear cE cT h hR0 hfin hsa hsi hs1 hs2 hst htx hby he1 hbl sm1 sm2
  have CFA := Lib.hid (fun s0 e0 s1 e1 b e W h => rfailB g s0 e0 s1 e1 b e W h)
  by_cases hx : x1 = 0
  · subst hx
    obtain ⟨_, _, hl⟩ := hgot rfl
    obtain ⟨c, rfl⟩ : ∃ c, bs = [c] := by
      rcases bs with _ | ⟨c, _ | ⟨d, r⟩⟩
      · simp at hl
      · exact ⟨c, rfl⟩
      · simp at hl; omega
    have hsz : (str [c]).size = 1 := rfl
    have hc0 : ∀ h, (str [c])[0]'h = c := fun h => rfl
    obtain ⟨sc, hsc⟩ : ∃ x, str [c] = x := ⟨_, rfl⟩
    rw [hsc] at cB hsz hc0
    have h0s : 0 < sc.size := by omega
    have hcz := hc0 h0s
    have CB := Lib.hid cB
    have hc256 := c.toNat_lt
    clear cB hgot hl hc0 hsc hsz
    by_cases htg : c.toNat = tag
    · rw [if_neg (by simp [htg])]
      have d : ((tag : Int) == (tag : Int)) = true := by simp
      have d2 : ((c.toNat : Int) != (tag : Int)) = false := by simp [htg]
      have d3 : ((c.toNat : Int) == (tag : Int)) = true := by simp [htg]
      clear htg
      go_enter Tryz.func61, Tryz.ntmps61
      go_wp2_with fail
      refine (CE.out _).mono ?_
      rintro _ w1 ⟨rfl, hb⟩
      have HR1 := Lib.hid (HR.out.below hb)
      have HG1 := Lib.hid (gr_below (some g) hb)
      clear hb x0 x1' x2' x3 x4 f0 f1 f2 f3
      go_wp2_with fail
      refine (CFA.out _ _ _ _ _ _ _ HR1.out).mono ?_
      rintro _ w2 ⟨rfl, hR, hg⟩
      have HR2 := Lib.hid hR
      have HG2 := Lib.hid (gr_trans HG1.out hg)
      clear hR hg
      obtain ⟨⟨x0, x1', x2', x3, x4⟩, f0, f1, f2, f3⟩ := HR2.out.cells
      go_wp2_with fail
      refine (CB.out _).mono ?_
      rintro _ w3 ⟨rfl, hb⟩
      have HR3 := Lib.hid (HR2.out.below hb)
      have HG3 := Lib.hid (gr_trans HG2.out (gr_below (some g) hb))
      clear x0 x1' x2' x3 x4 f0 f1 f2 f3
      clear hb
      have hn : (w3.alloc (.cells #[.string s1, .int .i64 0] 87)).heap[w3.heap.size]? = some (.cells #[.string s1, .int .i64 0] 87 (0, 0)) ∧ Below w3.heap.size w3 (w3.alloc (.cells #[.string s1, .int .i64 0] 87)) := ⟨heap_alloc_new2 _ _ _ _ rfl, below_alloc (Below.refl _ _) _⟩
      have HN := Lib.hid hn.1
      have HR4 := Lib.hid (HR3.out.below hn.2)
      have HG4 := Lib.hid (gr_trans HG3.out (gr_below (some g) hn.2))
      have hne : w3.heap.size ≠ g := by have := lt_of_some HR3.out; omega
      clear hn
      go_wp2_with fail
      refine (CFA.out _ _ _ _ _ _ _ HR4.out).mono ?_
      rintro _ w5 ⟨rfl, hR, hg⟩
      have HR5 := Lib.hid hR
      have HG5 := Lib.hid (gr_trans HG4.out hg)
      have hN5 := gr_blk hg HN.out hne
      obtain ⟨nb, hnb⟩ : ∃ x, w3.heap.size = x := ⟨_, rfl⟩
      rw [hnb] at hN5 hne ⊢
      have HN5 := Lib.hid hN5
      obtain ⟨n0, n1⟩ := blk2 hN5
      clear hR hg hN5 hnb HN
      go_wp2_with fail
      refine (CT.out _).mono ?_
      rintro _ w7 ⟨rfl, hb⟩
      have HR7 := Lib.hid (HR5.out.below hb)
      have HG7 := Lib.hid (gr_trans HG5.out (gr_below (some g) hb))
      obtain ⟨⟨x0, x1', x2', x3, x4⟩, f0, f1, f2, f3⟩ := HR7.out.cells
      have HR8 := Lib.hid (HR7.out.set01 s2 x2)
      have HG8 := Lib.hid (gr_trans HG7.out (gr_set2 w7 g (.string s2) (.int .i64 x2)))
      clear hb n0 n1
      go_wp2_with fail
      clear x0 x1' x2' x3 x4 f0 f1 f2 f3
      refine (CFA.out _ _ _ _ _ _ _ HR8.out).mono ?_
      rintro _ w9 ⟨rfl, hR, hg⟩
      have HR9 := Lib.hid hR
      have HG9 := Lib.hid (gr_trans HG8.out hg)
      clear hR hg
      obtain ⟨⟨x0, x1', x2', x3, x4⟩, f0, f1, f2, f3⟩ := HR9.out.cells
      have HRE := Lib.hid (HR9.out.set23 st 0)
      have HGE := Lib.hid (gr_trans HG9.out (gr_set23 w9 g (.string st) (.int .i64 0)))
      go_wp2
      go_end0
      exact ⟨rfl, HF.out _ _ HRE.out, HGE.out⟩
    · rw [if_pos ⟨rfl, by simpa using htg⟩]
      have d2 : ((c.toNat : Int) != (tag : Int)) = true := by simp; omega
      have d3 : ((c.toNat : Int) == (tag : Int)) = false := by simp; omega
      clear htg
      go_enter Tryz.func61, Tryz.ntmps61
      go_wp2_with fail
      refine (CE.out _).mono ?_
      rintro _ w1 ⟨rfl, hb⟩
      have HR1 := Lib.hid (HR.out.below hb)
      have HG1 := Lib.hid (gr_below (some g) hb)
      clear hb x0 x1' x2' x3 x4 f0 f1 f2 f3
      go_wp2_with fail
      refine (CFA.out _ _ _ _ _ _ _ HR1.out).mono ?_
      rintro _ w2 ⟨rfl, hR, hg⟩
      have HR2 := Lib.hid hR
      have HG2 := Lib.hid (gr_trans HG1.out hg)
      clear hR hg
      obtain ⟨⟨x0, x1', x2', x3, x4⟩, f0, f1, f2, f3⟩ := HR2.out.cells
      go_wp2_with fail
      refine (CB.out _).mono ?_
      rintro _ w3 ⟨rfl, hb⟩
      have HR3 := Lib.hid (HR2.out.below hb)
      have HG3 := Lib.hid (gr_trans HG2.out (gr_below (some g) hb))
      clear x0 x1' x2' x3 x4 f0 f1 f2 f3
      clear hb
      have hn : (w3.alloc (.cells #[.string s1, .int .i64 0] 87)).heap[w3.heap.size]? = some (.cells #[.string s1, .int .i64 0] 87 (0, 0)) ∧ Below w3.heap.size w3 (w3.alloc (.cells #[.string s1, .int .i64 0] 87)) := ⟨heap_alloc_new2 _ _ _ _ rfl, below_alloc (Below.refl _ _) _⟩
      have HN := Lib.hid hn.1
      have HR4 := Lib.hid (HR3.out.below hn.2)
      have HG4 := Lib.hid (gr_trans HG3.out (gr_below (some g) hn.2))
      have hne : w3.heap.size ≠ g := by have := lt_of_some HR3.out; omega
      clear hn
      go_wp2_with fail
      refine (CFA.out _ _ _ _ _ _ _ HR4.out).mono ?_
      rintro _ w5 ⟨rfl, hR, hg⟩
      have HR5 := Lib.hid hR
      have HG5 := Lib.hid (gr_trans HG4.out hg)
      have hN5 := gr_blk hg HN.out hne
      obtain ⟨nb, hnb⟩ : ∃ x, w3.heap.size = x := ⟨_, rfl⟩
      rw [hnb] at hN5 hne ⊢
      have HN5 := Lib.hid hN5
      obtain ⟨n0, n1⟩ := blk2 hN5
      clear hR hg hN5 hnb HN
      go_wp2_with fail
      refine (CFA.out _ _ _ _ _ _ _ HR5.out).mono ?_
      rintro _ w6 ⟨rfl, hR, hg⟩
      have HR6 := Lib.hid hR
      have HG6 := Lib.hid (gr_trans HG5.out hg)
      have hN6 := gr_blk hg HN5.out hne
      have HN6 := Lib.hid hN6
      clear n0 n1
      obtain ⟨n0, n1⟩ := blk2 hN6
      clear hR hg hN6
      go_wp2_with fail
      refine (CT.out _).mono ?_
      rintro _ w7 ⟨rfl, hb⟩
      have HR7 := Lib.hid (HR6.out.below hb)
      have HG7 := Lib.hid (gr_trans HG6.out (gr_below (some g) hb))
      obtain ⟨⟨x0, x1', x2', x3, x4⟩, f0, f1, f2, f3⟩ := HR7.out.cells
      have HR8 := Lib.hid (HR7.out.set01 s2 x2)
      have HG8 := Lib.hid (gr_trans HG7.out (gr_set2 w7 g (.string s2) (.int .i64 x2)))
      clear hb n0 n1
      go_wp2_with fail
      clear x0 x1' x2' x3 x4 f0 f1 f2 f3
      refine (CFA.out _ _ _ _ _ _ _ HR8.out).mono ?_
      rintro _ w9 ⟨rfl, hR, hg⟩
      have HR9 := Lib.hid hR
      have HG9 := Lib.hid (gr_trans HG8.out hg)
      clear hR hg
      obtain ⟨⟨x0, x1', x2', x3, x4⟩, f0, f1, f2, f3⟩ := HR9.out.cells
      have HRE := Lib.hid (HR9.out.set23 st 0)
      have HGE := Lib.hid (gr_trans HG9.out (gr_set23 w9 g (.string st) (.int .i64 0)))
      go_wp2
      go_end0
      exact ⟨rfl, HF.out _ _ HRE.out, HGE.out⟩
  · have d : (x1 == 0) = false := by simp [hx]
    have CB := Lib.hid cB
    rw [if_neg (fun h => hx h.1)]
    clear cB hgot hx
    go_enter Tryz.func61, Tryz.ntmps61
    go_wp2_with fail
    refine (CE.out _).mono ?_
    rintro _ w1 ⟨rfl, hb⟩
    have HR1 := Lib.hid (HR.out.below hb)
    have HG1 := Lib.hid (gr_below (some g) hb)
    clear hb x0 x1' x2' x3 x4 f0 f1 f2 f3
    go_wp2_with fail
    refine (CFA.out _ _ _ _ _ _ _ HR1.out).mono ?_
    rintro _ w2 ⟨rfl, hR, hg⟩
    have HR2 := Lib.hid hR
    have HG2 := Lib.hid (gr_trans HG1.out hg)
    clear hR hg
    obtain ⟨⟨x0, x1', x2', x3, x4⟩, f0, f1, f2, f3⟩ := HR2.out.cells
    go_wp2_with fail
    refine (CB.out _).mono ?_
    rintro _ w3 ⟨rfl, hb⟩
    have HR3 := Lib.hid (HR2.out.below hb)
    have HG3 := Lib.hid (gr_trans HG2.out (gr_below (some g) hb))
    clear x0 x1' x2' x3 x4 f0 f1 f2 f3
    clear hb
    have hn : (w3.alloc (.cells #[.string s1, .int .i64 x1] 87)).heap[w3.heap.size]? = some (.cells #[.string s1, .int .i64 x1] 87 (0, 0)) ∧ Below w3.heap.size w3 (w3.alloc (.cells #[.string s1, .int .i64 x1] 87)) := ⟨heap_alloc_new2 _ _ _ _ rfl, below_alloc (Below.refl _ _) _⟩
    have HN := Lib.hid hn.1
    have HR4 := Lib.hid (HR3.out.below hn.2)
    have HG4 := Lib.hid (gr_trans HG3.out (gr_below (some g) hn.2))
    have hne : w3.heap.size ≠ g := by have := lt_of_some HR3.out; omega
    clear hn
    go_wp2_with fail
    refine (CFA.out _ _ _ _ _ _ _ HR4.out).mono ?_
    rintro _ w5 ⟨rfl, hR, hg⟩
    have HR5 := Lib.hid hR
    have HG5 := Lib.hid (gr_trans HG4.out hg)
    have hN5 := gr_blk hg HN.out hne
    obtain ⟨nb, hnb⟩ : ∃ x, w3.heap.size = x := ⟨_, rfl⟩
    rw [hnb] at hN5 hne ⊢
    have HN5 := Lib.hid hN5
    obtain ⟨n0, n1⟩ := blk2 hN5
    clear hR hg hN5 hnb HN
    go_wp2_with fail
    refine (CT.out _).mono ?_
    rintro _ w7 ⟨rfl, hb⟩
    have HR7 := Lib.hid (HR5.out.below hb)
    have HG7 := Lib.hid (gr_trans HG5.out (gr_below (some g) hb))
    obtain ⟨⟨x0, x1', x2', x3, x4⟩, f0, f1, f2, f3⟩ := HR7.out.cells
    have HR8 := Lib.hid (HR7.out.set01 s2 x2)
    have HG8 := Lib.hid (gr_trans HG7.out (gr_set2 w7 g (.string s2) (.int .i64 x2)))
    clear hb n0 n1
    go_wp2_with fail
    clear x0 x1' x2' x3 x4 f0 f1 f2 f3
    refine (CFA.out _ _ _ _ _ _ _ HR8.out).mono ?_
    rintro _ w9 ⟨rfl, hR, hg⟩
    have HR9 := Lib.hid hR
    have HG9 := Lib.hid (gr_trans HG8.out hg)
    clear hR hg
    obtain ⟨⟨x0, x1', x2', x3, x4⟩, f0, f1, f2, f3⟩ := HR9.out.cells
    have HRE := Lib.hid (HR9.out.set23 st 0)
    have HGE := Lib.hid (gr_trans HG9.out (gr_set23 w9 g (.string st) (.int .i64 0)))
    go_wp2
    go_end0
    exact ⟨rfl, HF.out _ _ HRE.out, HGE.out⟩
end Go.Proofs.YtmiacgkidldjmaaGreatDoor
namespace Go.Proofs.YtmiacgkidldjmaaGreatDoor
open Go.RowKit Go.Lib
theorem num_eq (al : Plain.Rd) (li : List UInt8) (ei bad : Int) (most : Nat) :
    (Plain.St.mk al ⟨li, ei⟩ bad).number most =
      let x := (Plain.Rd.mk li ei).next
      let b2 := if most < x.1 then fb (fb bad x.2.e) 3 else fb bad x.2.e
      (if b2 = 0 then x.1 else 0, ⟨al, x.2, b2⟩) := by
  unfold Plain.St.number Plain.St.num1
  dsimp only
  by_cases h : most < (Plain.Rd.mk li ei).next.1
  · rw [if_pos h, if_pos h]; rfl
  · rw [if_neg h, if_neg h]; rfl
theorem fb_ne (b e : Int) (he : e ≠ 0) : fb b e ≠ 0 := by unfold fb; split <;> assumption
set_option maxRecDepth 100000 in
set_option maxHeartbeats 2000000 in
theorem rnumber_any (g : Nat) (t : Plain.St) (most : Nat) (w : World) (h : RdAt w g t) (hsm : t.small) (hm : most ≤ 9223372036854775807) :
    Calls Tryz.prog 62 #[.pointer (some ⟨g, 0, none⟩), .int .u64 (most : Int)] w fun en w' => en = .returned (.int .i64 ((t.number most).1 : Int)) ∧ RdAt w' g (t.number most).2 ∧ w.grownBy w' (some g) := by
  obtain ⟨⟨la, ea⟩, ⟨li, ei⟩, bad⟩ := t
  obtain ⟨sm1, sm2⟩ := hsm
  dsimp only at sm1 sm2
  rw [num_eq]
  have cN := fun W => next_any ⟨li, ei⟩ W (by dsimp only; omega)
  unfold nextV at cN
  obtain ⟨n, ⟨l2, e2⟩, hnx⟩ : ∃ n r1, Plain.Rd.next ⟨li, ei⟩ = (n, r1) := ⟨_, _, rfl⟩
  rw [hnx] at cN ⊢
  unfold rdOf rdV at cN
  dsimp only at cN ⊢
  have hR0 : RB w g (str la) ea (str li) ei bad := h
  have hfin : ∀ (w' : World) (b : Int), RB w' g (str la) ea (str l2) e2 b → RdAt w' g ⟨⟨la, ea⟩, ⟨l2, e2⟩, b⟩ := fun w' b h => h
  obtain ⟨sa, hsa⟩ : ∃ x, str la = x := ⟨_, rfl⟩
  obtain ⟨si, hsi⟩ : ∃ x, str li = x := ⟨_, rfl⟩
  obtain ⟨s2, hs2⟩ : ∃ x, str l2 = x := ⟨_, rfl⟩
  rw [hsa] at hR0 hfin
  rw [hsi] at cN hR0
  rw [hs2] at cN hfin
  have CN := Lib.hid cN
  have HR := Lib.hid hR0
  have HF := Lib.hid hfin
  obtain ⟨⟨x0, x1', x2', x3, x4⟩, f0, f1, f2, f3⟩ := hR0.cells
  clear cN h hR0 hfin hsa hsi hs2 hnx sm1 sm2
  have CFA := Lib.hid (fun s0 e0 s1 e1 b e W h => rfailB g s0 e0 s1 e1 b e W h)
  obtain ⟨b1, hb1⟩ : ∃ x, fb bad e2 = x := ⟨_, rfl⟩
  rw [hb1]
  have HB1 := Lib.hid hb1
  clear hb1
  by_cases hx : most < n
  · have hne : fb b1 3 ≠ 0 := fb_ne _ _ (by decide)
    rw [if_pos hx, if_neg hne]
    obtain ⟨z, hz⟩ : ∃ x, fb b1 3 = x := ⟨_, rfl⟩
    rw [hz] at hne ⊢
    have HZ := Lib.hid hz
    clear hz
    have d : decide ((n : Int) > (most : Int)) = true := by simp; omega
    have d0 : decide (most < n) = true := by simp [hx]
    clear hx
    go_enter Tryz.func62, Tryz.ntmps62
    go_wp2_with fail
    refine (CN.out _).mono ?_
    rintro _ w1 ⟨rfl, hb⟩
    have HR1 := Lib.hid (HR.out.below hb)
    have HG1 := Lib.hid (gr_below (some g) hb)
    clear hb x0 x1' x2' x3 x4 f0 f1 f2 f3
    obtain ⟨⟨x0, x1', x2', x3, x4⟩, f0, f1, f2, f3⟩ := HR1.out.cells
    have HR2 := Lib.hid (HR1.out.set23 s2 e2)
    have HG2 := Lib.hid (gr_trans HG1.out (gr_set23 w1 g (.string s2) (.int .i64 e2)))
    go_wp2_with fail
    clear x0 x1' x2' x3 x4 f0 f1 f2 f3
    refine (CFA.out _ _ _ _ _ _ _ HR2.out).mono ?_
    rintro _ w3 ⟨rfl, hR, hg⟩
    rw [HB1.out] at hR
    have HR3 := Lib.hid hR
    have HG3 := Lib.hid (gr_trans HG2.out hg)
    clear hR hg
    go_wp2_with fail
    refine (CFA.out _ _ _ _ _ _ _ HR3.out).mono ?_
    rintro _ w4 ⟨rfl, hR, hg⟩
    rw [HZ.out] at hR
    have HR4 := Lib.hid hR
    have HG4 := Lib.hid (gr_trans HG3.out hg)
    clear hR hg
    have d5 : (z != 0) = true := by simp [hne]
    have d6 : (z == 0) = false := by simp [hne]
    obtain ⟨⟨x0, x1', x2', x3, x4⟩, f0, f1, f2, f3⟩ := HR4.out.cells
    go_wp2
    go_ret
    exact ⟨rfl, HF.out _ _ HR4.out, HG4.out⟩
  · rw [if_neg hx]
    have d : decide ((n : Int) > (most : Int)) = false := by simp; omega
    have d0 : decide (most < n) = false := by simp; omega
    have hw : IntKind.i64.wrap (n : Int) = (n : Int) := by rw [IntKind.wrap_i64]; omega
    by_cases hz : b1 = 0
    · subst hz
      rw [if_pos rfl]
      clear hx
      go_enter Tryz.func62, Tryz.ntmps62
      go_wp2_with fail
      refine (CN.out _).mono ?_
      rintro _ w1 ⟨rfl, hb⟩
      have HR1 := Lib.hid (HR.out.below hb)
      have HG1 := Lib.hid (gr_below (some g) hb)
      clear hb x0 x1' x2' x3 x4 f0 f1 f2 f3
      obtain ⟨⟨x0, x1', x2', x3, x4⟩, f0, f1, f2, f3⟩ := HR1.out.cells
      have HR2 := Lib.hid (HR1.out.set23 s2 e2)
      have HG2 := Lib.hid (gr_trans HG1.out (gr_set23 w1 g (.string s2) (.int .i64 e2)))
      go_wp2_with fail
      clear x0 x1' x2' x3 x4 f0 f1 f2 f3
      refine (CFA.out _ _ _ _ _ _ _ HR2.out).mono ?_
      rintro _ w3 ⟨rfl, hR, hg⟩
      rw [HB1.out] at hR
      have HR3 := Lib.hid hR
      have HG3 := Lib.hid (gr_trans HG2.out hg)
      clear hR hg
      obtain ⟨⟨x0, x1', x2', x3, x4⟩, f0, f1, f2, f3⟩ := HR3.out.cells
      go_wp2
      go_ret
      exact ⟨rfl, HF.out _ _ HR3.out, HG3.out⟩
    · rw [if_neg hz]
      have d5 : (b1 != 0) = true := by simp [hz]
      have d6 : (b1 == 0) = false := by simp [hz]
      clear hx hz
      go_enter Tryz.func62, Tryz.ntmps62
      go_wp2_with fail
      refine (CN.out _).mono ?_
      rintro _ w1 ⟨rfl, hb⟩
      have HR1 := Lib.hid (HR.out.below hb)
      have HG1 := Lib.hid (gr_below (some g) hb)
      clear hb x0 x1' x2' x3 x4 f0 f1 f2 f3
      obtain ⟨⟨x0, x1', x2', x3, x4⟩, f0, f1, f2, f3⟩ := HR1.out.cells
      have HR2 := Lib.hid (HR1.out.set23 s2 e2)
      have HG2 := Lib.hid (gr_trans HG1.out (gr_set23 w1 g (.string s2) (.int .i64 e2)))
      go_wp2_with fail
      clear x0 x1' x2' x3 x4 f0 f1 f2 f3
      refine (CFA.out _ _ _ _ _ _ _ HR2.out).mono ?_
      rintro _ w3 ⟨rfl, hR, hg⟩
      rw [HB1.out] at hR
      have HR3 := Lib.hid hR
      have HG3 := Lib.hid (gr_trans HG2.out hg)
      clear hR hg
      obtain ⟨⟨x0, x1', x2', x3, x4⟩, f0, f1, f2, f3⟩ := HR3.out.cells
      go_wp2
      go_ret
      exact ⟨rfl, HF.out _ _ HR3.out, HG3.out⟩
end Go.Proofs.YtmiacgkidldjmaaGreatDoor
namespace Go.Proofs.YtmiacgkidldjmaaGreatDoor
open Go.RowKit Go.Lib
theorem many_stop {S : Type} (bad : S → Int) (f : S → S) (s : S) (k : Nat) : ∀ d, bad (Plain.many bad f k s) ≠ 0 → Plain.many bad f (k + d) s = Plain.many bad f k s := by
  intro d
  induction d with
  | zero => intro _; rfl
  | succ d ih =>
    intro h
    have e := ih h
    rw [show k + (d + 1) = (k + d) + 1 from rfl, Plain.many_succ, e, if_neg h]
set_option maxRecDepth 100000 in
set_option maxHeartbeats 1000000 in
theorem many_any {S : Type} (I : Nat → S → World → Prop) (bad : S → Int) (f : S → S) (g q n : Nat) (caps : Array Value) (s : S) (w : World) (hn : n ≤ 1000000)
    (hent : ∀ W, (callFunc q caps).run Tryz.prog W = .ok (.enter q caps) W) (hbad : ∀ k s W, I k s W → W.cell? ⟨g, 4, none⟩ = some (.int .i64 (bad s)))
    (hcall : ∀ k s W, k < n → I k s W → bad s = 0 → Calls Tryz.prog q caps W fun e w' => e = .returned (.tuple #[]) ∧ I (k + 1) (f s) w') (h0 : I 0 s w) :
    Calls Tryz.prog 63 #[.pointer (some ⟨g, 0, none⟩), .int .i64 (n : Int), .func (Fn.func q) #[] caps] w fun e w' => e = .returned (.tuple #[]) ∧ ∃ k, k ≤ n ∧ I k (Plain.many bad f n s) w' := by
  have HE := Lib.hid hent
  have HB := Lib.hid hbad
  have HC := Lib.hid hcall
  have H0 := Lib.hid h0
  clear hent hbad hcall h0
  go_enter Tryz.func63, Tryz.ntmps63
  go_wp2_with fail
  go_loopw [6] (fun i wr => ∃ k : Nat, k ≤ n ∧ i = .int .i64 k ∧ I k (Plain.many bad f k s) wr) (fun i _ => n - (RowKit.intOf i).toNat)
  case atStart => exact ⟨0, Nat.zero_le _, rfl, H0.out⟩
  case round =>
    obtain ⟨w0, rfl⟩ : ∃ x, x = wr := ⟨_, rfl⟩
    obtain ⟨k, hk, rfl, hI⟩ := hrel
    have c4 := HB.out k _ _ hI
    have HI := Lib.hid hI
    clear hI
    by_cases hlt : k < n
    · by_cases hz : bad (Plain.many bad f k s) = 0
      · rw [hz] at c4
        have hc := HC.out k _ w0 hlt HI.out hz
        have hsu := Plain.many_succ bad f k s
        rw [if_pos hz] at hsu
        rw [← hsu] at hc
        have HCC := Lib.hid hc
        clear hc hsu hz
        go_wp2_with fail
        rw [HE.out w0]
        go_wp2_with fail
        refine HCC.out.mono ?_
        rintro _ w1 ⟨rfl, hI⟩
        have HI1 := Lib.hid hI
        clear hI
        go_wp2
        go_roundw
        case rel => exact ⟨k + 1, by omega, by go_num, HI1.out⟩
        case measure => simp [RowKit.intOf]; omega
      · have hst := many_stop bad f s k (n - k) hz
        rw [show k + (n - k) = n by omega] at hst
        have HST := Lib.hid hst
        obtain ⟨b, hb⟩ : ∃ x, bad (Plain.many bad f k s) = x := ⟨_, rfl⟩
        rw [hb] at c4 hz
        have d : (b == 0) = false := by simp [hz]
        clear hst hb hz
        go_wp2
        go_end0
        exact ⟨rfl, k, hk, by rw [HST.out]; exact HI.out⟩
    · obtain rfl : n = k := by omega
      go_wp2
      go_end0
      exact ⟨rfl, n, hk, HI.out⟩
end Go.Proofs.YtmiacgkidldjmaaGreatDoor
namespace Go.Proofs.YtmiacgkidldjmaaGreatDoor
open Go.RowKit Go.Lib
/-- a thing that lies in memory: a box, or a row of one's own -/
structure Th where
  kd : Bool
  k : Nat
  cs : Array Value
  t : TypeId
  size : Nat
  v : Value
  n : Nat
  xs : List Value
def boxT (k : Nat) (cs : Array Value) (t : TypeId) : Th := ⟨true, k, cs, t, 0, .bool false, 0, []⟩
def rowT (e : TypeId) (size : Nat) (v : Value) (n : Nat) (xs : List Value) : Th := ⟨false, 0, #[], e, size, v, n, xs⟩
def Th.blk (T : Th) : Option Nat := if T.kd then some T.k else T.v.ownBlock
def Th.ok (base : Nat) (w : World) (T : Th) : Prop := if T.kd = true then base ≤ T.k ∧ w.heap[T.k]? = some (.cells T.cs T.t (0, 0)) else w.ownsRow base T.t T.size T.v T.n T.xs
theorem ok_box {base : Nat} {w : World} {k : Nat} {cs : Array Value} {t : TypeId} : (boxT k cs t).ok base w ↔ base ≤ k ∧ w.heap[k]? = some (.cells cs t (0, 0)) := by unfold Th.ok boxT; simp
theorem ok_row {base : Nat} {w : World} {e : TypeId} {size : Nat} {v : Value} {n : Nat} {xs : List Value} : (rowT e size v n xs).ok base w ↔ w.ownsRow base e size v n xs := by unfold Th.ok rowT; simp
theorem blk_box (k : Nat) (cs : Array Value) (t : TypeId) : (boxT k cs t).blk = some k := rfl
theorem blk_row (e : TypeId) (size : Nat) (v : Value) (n : Nat) (xs : List Value) : (rowT e size v n xs).blk = v.ownBlock := rfl
theorem th_lt {base : Nat} {w : World} {T : Th} (h : T.ok base w) : ∀ k, T.blk = some k → base ≤ k ∧ k < w.heap.size := by
  intro k hk
  unfold Th.ok at h
  unfold Th.blk at hk
  split at h
  · rename_i hd
    rw [if_pos hd] at hk
    injection hk with hk
    subst hk
    exact ⟨h.1, lt_of_some h.2⟩
  · rename_i hd
    rw [if_neg hd] at hk
    exact h.lt k hk
theorem th_kept {base : Nat} {w w' : World} {T : Th} (h : T.ok base w) (hk : ∀ k, T.blk = some k → w'.heap[k]? = w.heap[k]?) : T.ok base w' := by
  unfold Th.ok at h ⊢
  unfold Th.blk at hk
  split at h
  · rename_i hd
    rw [if_pos hd]
    exact ⟨h.1, (hk T.k (by rw [if_pos hd])).trans h.2⟩
  · rename_i hd
    rw [if_neg hd]
    exact own_block h fun k hb => hk k (by rw [if_neg hd]; exact hb)
def Apart (A B : Th) : Prop := ∀ k, A.blk = some k → B.blk ≠ some k
theorem Apart.symm {A B : Th} (h : Apart A B) : Apart B A := fun k h1 h2 => h k h2 h1
/-- things that lie apart from one another -/
def Sep (base : Nat) (w : World) (l : List Th) : Prop := (∀ T ∈ l, T.ok base w) ∧ l.Pairwise Apart
theorem Sep.get {base : Nat} {w : World} {l : List Th} (h : Sep base w l) (i : Nat) (T : Th) (hi : l[i]? = some T) : T.ok base w := h.1 T (List.mem_of_getElem? hi)
theorem Sep.nil (base : Nat) (w : World) : Sep base w [] := ⟨fun _ h => absurd h (by simp), List.Pairwise.nil⟩
theorem Sep.perm {base : Nat} {w : World} {l m : List Th} (h : Sep base w l) (hp : l.Perm m) : Sep base w m :=
  ⟨fun T hT => h.1 T (hp.mem_iff.2 hT), (hp.pairwise_iff (fun h => h.symm)).1 h.2⟩
/-- nothing is turned but what is new -/
theorem Sep.below {base : Nat} {w w' : World} {l : List Th} (h : Sep base w l) (hb : Below w.heap.size w w') : Sep base w' l :=
  ⟨fun T hT => th_kept (h.1 T hT) fun k hk => hb.block k (th_lt (h.1 T hT) k hk).2, h.2⟩
/-- one more -/
theorem Sep.cons {base : Nat} {w w' : World} {l : List Th} (h : Sep base w l) (hb : Below w.heap.size w w') (T : Th) (hT : T.ok base w') (hn : ∀ k, T.blk = some k → w.heap.size ≤ k) : Sep base w' (T :: l) := by
  refine ⟨fun X hX => ?_, List.Pairwise.cons (fun X hX k h1 h2 => ?_) h.2⟩
  · rcases List.mem_cons.1 hX with e | hX
    · rw [e]; exact hT
    · exact (h.below hb).1 X hX
  · have := (th_lt (h.1 X hX) k h2).2
    have := hn k h1
    omega
theorem Sep.snoc {base : Nat} {w w' : World} {l : List Th} (h : Sep base w l) (hb : Below w.heap.size w w') (T : Th) (hT : T.ok base w') (hn : ∀ k, T.blk = some k → w.heap.size ≤ k) : Sep base w' (l ++ [T]) :=
  (h.cons hb T hT hn).perm (by have := (List.perm_append_comm (l₁ := [T]) (l₂ := l)); simpa using this)
/-- one of them is turned -/
theorem Sep.set {base : Nat} {w w' : World} {l : List Th} (h : Sep base w l) (i : Nat) (T T' : Th) (hi : l[i]? = some T) (hg : w.grownBy w' T.blk) (hT : T'.ok base w')
    (hn : ∀ k, T'.blk = some k → T.blk = some k ∨ w.heap.size ≤ k) : Sep base w' (l.set i T') := by
  obtain ⟨hil, hie⟩ := List.getElem?_eq_some_iff.1 hi
  have hsp : l = l.take i ++ T :: l.drop (i + 1) := by rw [← hie, List.getElem_cons_drop, List.take_append_drop]
  have hst : l.set i T' = l.take i ++ T' :: l.drop (i + 1) := by rw [List.set_eq_take_append_cons_drop, if_pos hil]
  obtain ⟨L, hL⟩ : ∃ x, l.take i = x := ⟨_, rfl⟩
  obtain ⟨R, hR⟩ : ∃ x, l.drop (i + 1) = x := ⟨_, rfl⟩
  rw [hL, hR] at hsp hst
  rw [hst]
  rw [hsp] at h
  obtain ⟨ho, hp⟩ := h
  have hp2 := ((List.perm_middle (a := T) (l₁ := L) (l₂ := R)).pairwise_iff (R := Apart) (fun h => h.symm)).1 hp
  obtain ⟨hap, hrest⟩ := List.pairwise_cons.1 hp2
  have hkeep : ∀ X ∈ L ++ R, X.ok base w' ∧ Apart T' X := fun X hX => by
    have hXo : X.ok base w := ho X (by rcases List.mem_append.1 hX with h | h <;> simp [h])
    have hXa := hap X hX
    refine ⟨th_kept hXo fun k hk => hg.block k (th_lt hXo k hk).2 (fun e => hXa k e.symm hk), fun k h1 h2 => ?_⟩
    rcases hn k h1 with e | e
    · exact hXa k e h2
    · have := (th_lt hXo k h2).2; omega
  have hfin : Sep base w' (T' :: (L ++ R)) := ⟨fun X hX => by
      rcases List.mem_cons.1 hX with e | hX
      · rw [e]; exact hT
      · exact (hkeep X hX).1, List.Pairwise.cons (fun X hX => (hkeep X hX).2) hrest⟩
  exact hfin.perm List.perm_middle.symm
/-- a box of them is written -/
theorem Sep.setBox {base : Nat} {w w' : World} {l : List Th} (h : Sep base w l) (i : Nat) (k : Nat) (cs cs' : Array Value) (t : TypeId) (hi : l[i]? = some (boxT k cs t)) (hg : w.grownBy w' (some k)) (hT : w'.heap[k]? = some (.cells cs' t (0, 0))) : Sep base w' (l.set i (boxT k cs' t)) :=
  h.set i _ _ hi hg (ok_box.2 ⟨(ok_box.1 (h.get i _ hi)).1, hT⟩) (fun j hj => .inl hj)
theorem Sep.box {base : Nat} {w : World} {l : List Th} (h : Sep base w l) (i : Nat) (k : Nat) (cs : Array Value) (t : TypeId) (hi : l[i]? = some (boxT k cs t)) : base ≤ k ∧ w.heap[k]? = some (.cells cs t (0, 0)) := ok_box.1 (h.get i _ hi)
theorem Sep.row {base : Nat} {w : World} {l : List Th} (h : Sep base w l) (i : Nat) (e : TypeId) (size : Nat) (v : Value) (n : Nat) (xs : List Value) (hi : l[i]? = some (rowT e size v n xs)) : w.ownsRow base e size v n xs := ok_row.1 (h.get i _ hi)
/-- a row of them grows -/
theorem Sep.push {base : Nat} {w w0 w' : World} {l : List Th} (h : Sep base w l) (i : Nat) (e : TypeId) (size : Nat) (v v' : Value) (n m : Nat) (xs ys : List Value) (hi : l[i]? = some (rowT e size v n xs)) (hb : Below w.heap.size w w0)
    (hg : w0.grownBy w' v.ownBlock) (ho : w'.ownsRow base e size v' m ys) (hv : v'.ownBlock = v.ownBlock ∨ v'.ownBlock = some w0.heap.size) : Sep base w' (l.set i (rowT e size v' m ys)) :=
  (h.below hb).set i _ _ hi hg (ok_row.2 ho) (fun k hk => by
    rcases hv with e | e
    · exact .inl (by rw [blk_row] at hk ⊢; rw [← e]; exact hk)
    · exact .inr (by rw [blk_row, e] at hk; injection hk with hk; omega))
theorem Sep.belowOut {W w w' : World} {l : List Th} (h : Sep W.heap.size w l) (hb : Below W.heap.size W w) (i : Nat) (T : Th) (hi : l[i]? = some T) (hg : w.grownBy w' T.blk) : Below W.heap.size W w' :=
  ⟨hg.os.trans hb.os, hg.tape.trans hb.tape, hg.output.trans hb.output, Nat.le_trans hb.size hg.size, fun k hk => (hg.block k (Nat.lt_of_lt_of_le hk hb.size) (fun e => by
    have := (th_lt (h.get i T hi) k e.symm).1; omega)).trans (hb.block k hk)⟩
end Go.Proofs.YtmiacgkidldjmaaGreatDoor
