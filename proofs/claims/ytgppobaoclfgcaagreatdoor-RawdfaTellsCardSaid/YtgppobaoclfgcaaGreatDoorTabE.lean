/- layout.BackTable. Conditions: what each lemma says. -/
import Derived.Test.YtgppobaoclfgcaaGreatDoorTabA
import Derived.Deep.RegionHeld3
import Derived.Deep.RegionWith
import Derived.Deep.DeepCutAuto
import Derived.Deep.CutBlock
import Derived.Deep.AppendLies
import Derived.StillTail
import Derived.OrdersHeld
import Derived.ScopeJumps
import Derived.WalkMore
set_option linter.unusedVariables false
set_option linter.unusedSimpArgs false
namespace Go.Proofs.YtgppobaoclfgcaaGreatDoor
open Go.RowKit Go.Lib
/-- a table's cells in memory -/
structure FlatAt (w : World) (FA : Option Addr) (F : List Int) (KA : Option Addr) (K : List Int) (AA : Option Addr) (A : List Int) : Prop where
  parts : Sl w FA (u32s F)
  cells : Sl w KA (u32s K)
  acc : Sl w AA (u32s A)
theorem FlatAt.below {w w' : World} {FA KA AA : Option Addr} {F K A : List Int} (h : FlatAt w FA F KA K AA A) (hb : Below w.heap.size w w') : FlatAt w' FA F KA K AA A := ⟨h.parts.below hb, h.cells.below hb, h.acc.below hb⟩
end Go.Proofs.YtgppobaoclfgcaaGreatDoor
namespace Go.Proofs.YtgppobaoclfgcaaGreatDoor
open Go.RowKit Go.Lib
end Go.Proofs.YtgppobaoclfgcaaGreatDoor
namespace Go.Proofs.YtgppobaoclfgcaaGreatDoor
open Go.RowKit Go.Lib
end Go.Proofs.YtgppobaoclfgcaaGreatDoor
namespace Go.Proofs.YtgppobaoclfgcaaGreatDoor
open Go.RowKit Go.Lib
theorem Acc.kept {B : World} {fb : Nat} {t e0 e1 e2 : TypeId} {w w' : World} {v0 v1 v2 : Value} {x0 x1 x2 : List Value} (h : Acc B fb t e0 e1 e2 w v0 v1 v2 x0 x1 x2) (hb : Below w.heap.size w w') : Acc B fb t e0 e1 e2 w' v0 v1 v2 x0 x1 x2 :=
  ⟨by rw [hb.block fb h.lt]; exact h.blk, own_below h.o0 hb, own_below h.o1 hb, own_below h.o2 hb, h.below.trans (hb.mono h.below.size), h.ge, h.n0, h.n1, h.n2, h.a01, h.a02, h.a12⟩
/-- nothing below is turned but two rows -/
structure Two (w w' : World) (r1 r2 : Option Nat) : Prop where
  os : w'.os = w.os
  tape : w'.tape = w.tape
  output : w'.output = w.output
  size : w.heap.size ≤ w'.heap.size
  block : ∀ k, k < w.heap.size → some k ≠ r1 → some k ≠ r2 → w'.heap[k]? = w.heap[k]?
theorem Two.refl (w : World) (r1 r2 : Option Nat) : Two w w r1 r2 := ⟨rfl, rfl, rfl, Nat.le_refl _, fun _ _ _ _ => rfl⟩
theorem Two.drew {w w' : World} {r1 r2 : Option Nat} (h : Two w w' r1 r2) : Two w w'.drew r1 r2 := ⟨h.os, h.tape, h.output, h.size, h.block⟩
theorem Two.alloc {w w' : World} {r1 r2 : Option Nat} (h : Two w w' r1 r2) (o : Obj) : Two w (w'.alloc o) r1 r2 :=
  ⟨h.os, h.tape, h.output, by have := h.size; simp; omega, fun k hk h1 h2 => by rw [Below.heap_alloc _ _ _ (Nat.lt_of_lt_of_le hk h.size)]; exact h.block k hk h1 h2⟩
/-- an append to a row that is one of both, or behind -/
theorem Two.grown {w w1 w2 : World} {r1 r2 row : Option Nat} (h : Two w w1 r1 r2) (hg : w1.grownBy w2 row) (hr : ∀ k, row = some k → k < w.heap.size → some k = r1 ∨ some k = r2) : Two w w2 r1 r2 :=
  ⟨hg.os.trans h.os, hg.tape.trans h.tape, hg.output.trans h.output, Nat.le_trans h.size hg.size, fun k hk h1 h2 => by
    rw [hg.block k (Nat.lt_of_lt_of_le hk h.size) (fun e => by rcases hr k e.symm hk with h3 | h3; exact h1 h3; exact h2 h3)]
    exact h.block k hk h1 h2⟩
theorem Two.own {w w' : World} {r1 r2 : Option Nat} (h : Two w w' r1 r2) {base : Nat} {e : TypeId} {size : Nat} {v : Value} {n : Nat} {xs : List Value} (ho : w.ownsRow base e size v n xs) (h1 : ∀ k, v.ownBlock = some k → r1 ≠ some k) (h2 : ∀ k, v.ownBlock = some k → r2 ≠ some k) : w'.ownsRow base e size v n xs :=
  own_block ho fun k hk => h.block k (ho.lt k hk).2 (fun e => h1 k hk e.symm) (fun e => h2 k hk e.symm)
theorem Two.below {w w' : World} {r1 r2 : Option Nat} (h : Two w w' r1 r2) {B : Nat} (hB : B ≤ w.heap.size) (h1 : ∀ k, r1 = some k → B ≤ k) (h2 : ∀ k, r2 = some k → B ≤ k) : Below B w w' :=
  ⟨h.os, h.tape, h.output, h.size, fun k hk => h.block k (Nat.lt_of_lt_of_le hk hB) (fun e => by have := h1 k e.symm; omega) (fun e => by have := h2 k e.symm; omega)⟩
theorem apart.push' {w1 : World} {v v' u : Value} {base : Nat} {e : TypeId} {s n : Nat} {xs : List Value} (h : apart v u) (ho : w1.ownsRow base e s u n xs) (hb : v'.ownBlock = v.ownBlock ∨ ∃ g, v'.ownBlock = some g ∧ w1.heap.size ≤ g) : apart v' u := fun k h1 h2 => by
  rcases hb with e | ⟨g, e, hg⟩
  · exact h k (e ▸ h1) h2
  · rw [e] at h1
    injection h1 with h1
    have := (ho.lt k h2).2
    omega
theorem Acc.push12 {B : World} {fb : Nat} {t e0 e1 e2 : TypeId} {w w2 : World} {v0 v1 v2 v1' v2' : Value} {x0 x1 x2 y1 y2 : List Value} {m1 m2 : Nat} (h : Acc B fb t e0 e1 e2 w v0 v1 v2 x0 x1 x2)
    (hT : Two w w2 v1.ownBlock v2.ownBlock) (ho1 : w2.ownsRow B.heap.size e1 1 v1' m1 (x1 ++ y1)) (ho2 : w2.ownsRow B.heap.size e2 1 v2' m2 (x2 ++ y2))
    (hb1 : v1'.ownBlock = v1.ownBlock ∨ ∃ g, v1'.ownBlock = some g ∧ w.heap.size ≤ g) (hb2 : v2'.ownBlock = v2.ownBlock ∨ ∃ g, v2'.ownBlock = some g ∧ w.heap.size ≤ g) (h12 : apart v1' v2') :
    Acc B fb t e0 e1 e2 ((w2.setCell ⟨fb, 1, none⟩ v1').setCell ⟨fb, 2, none⟩ v2') v0 v1' v2' x0 (x1 ++ y1) (x2 ++ y2) := by
  have hlt := h.lt
  have hn1 : v1'.ownBlock ≠ some fb := by
    rcases hb1 with e | ⟨g, e, hg⟩
    · rw [e]; exact h.n1
    · rw [e]; intro e; injection e with e; omega
  have hn2 : v2'.ownBlock ≠ some fb := by
    rcases hb2 with e | ⟨g, e, hg⟩
    · rw [e]; exact h.n2
    · rw [e]; intro e; injection e with e; omega
  have hm1 : m1 = (x1 ++ y1).length := by have := ho1.1; omega
  have hm2 : m2 = (x2 ++ y2).length := by have := ho2.1; omega
  subst hm1
  subst hm2
  have o0 := hT.own h.o0 (fun k hk e => h.a01 k hk e) (fun k hk e => h.a02 k hk e)
  refine ⟨?_, ownsRow_setCell_other (ownsRow_setCell_other o0 h.n0 _) h.n0 _, ownsRow_setCell_other (ownsRow_setCell_other ho1 hn1 _) hn1 _, ownsRow_setCell_other (ownsRow_setCell_other ho2 hn2 _) hn2 _,
    ?_, h.ge, h.n0, hn1, hn2, (h.a01.symm.push' h.o0 hb1).symm, (h.a02.symm.push' h.o0 hb2).symm, h12⟩
  · exact heap_setCell_same _ _ 2 _ _ _ (heap_setCell_same _ _ 1 _ _ _ (by rw [hT.block fb hlt (fun e => h.n1 e.symm) (fun e => h.n2 e.symm)]; exact h.blk))
  · exact ((h.below.trans (hT.below h.below.size (fun k hk => (h.o1.lt k hk).1) (fun k hk => (h.o2.lt k hk).1))).setCell h.ge _).setCell h.ge _
end Go.Proofs.YtgppobaoclfgcaaGreatDoor
namespace Go.Proofs.YtgppobaoclfgcaaGreatDoor
open Go.RowKit Go.Lib
def flatV (FA : Option Addr) (F : List Int) (fc : Nat) (KA : Option Addr) (K : List Int) (kc : Nat) (AA : Option Addr) (A : List Int) (ac : Nat) : Value :=
  .agg #[.slice FA F.length fc, .slice KA K.length kc, .slice AA A.length ac]
set_option maxRecDepth 1000000 in
set_option maxHeartbeats 4000000 in
theorem backtable_short (FA : Option Addr) (F : List Int) (fc : Nat) (KA : Option Addr) (K : List Int) (kc : Nat) (AA : Option Addr) (A : List Int) (ac : Nat) (w : World)
    (hf : F.length ≤ 1048576) (hk : K.length ≤ maxLen) (ha : A.length ≤ 1048576) (hw : F.length = 0 ∨ K.length ≠ F.length * A.length) :
    Calls Tryz.prog 48 #[flatV FA F fc KA K kc AA A ac] w fun e w' => e = .returned (.tuple #[.agg #[.slice none 0 0, .slice none 0 0, .slice none 0 0], .int .i64 11]) ∧ Below w.heap.size w w' := by
  unfold flatV
  unfold maxLen at hk
  obtain ⟨p, hP⟩ : ∃ p, F.length = p := ⟨_, rfl⟩
  obtain ⟨n, hN⟩ : ∃ n, K.length = n := ⟨_, rfl⟩
  obtain ⟨a, hA⟩ : ∃ a, A.length = a := ⟨_, rfl⟩
  rw [hP] at hf hw ⊢
  rw [hN] at hk hw ⊢
  rw [hA] at ha hw ⊢
  clear hP hN hA
  obtain ⟨m, hm⟩ : ∃ m, p * a = m := ⟨_, rfl⟩
  have hmb : m ≤ 1099511627776 := by rw [← hm]; exact Nat.le_trans (Nat.mul_le_mul hf ha) (Nat.le_refl _)
  have hmi : IntKind.i64.wrap ((p : Int) * (a : Int)) = (m : Int) := by
    rw [show (p : Int) * (a : Int) = ((p * a : Nat) : Int) from by simp, hm, IntKind.wrap_i64]; omega
  rw [hm] at hw
  clear hm
  have main : ∀ b : Bool, ((p : Int) == 0) = b → (b = false → (!((n : Int) == (m : Int))) = true) → Calls Tryz.prog 48 #[.agg #[.slice FA p fc, .slice KA n kc, .slice AA a ac]] w fun e w' => e = .returned (.tuple #[.agg #[.slice none 0 0, .slice none 0 0, .slice none 0 0], .int .i64 11]) ∧ Below w.heap.size w w' := by
    intro b h0 h1
    cases b
    · have h1 := h1 rfl
      go_enter Tryz.func48, Tryz.ntmps48
      go_wp2
      obtain ⟨m0, m1, m2⟩ := blk_cells3 (heap_alloc_new2 (w.alloc (.cells #[.slice FA p fc, .slice KA n kc, .slice AA a ac] 47)) (.cells #[.slice none 0 0, .slice none 0 0, .slice none 0 0] 27) (w.heap.size + 1) _ (by simp))
      exact bodyPost_ret (v := .tuple #[.agg #[.slice none 0 0, .slice none 0 0, .slice none 0 0], .int .i64 11]) (by simp [results, Tryz.results48, go_sem, m0, m1, m2]) rfl ⟨rfl, ((Below.refl _ _).alloc (Nat.le_refl _) _).alloc (by simp) _⟩
    · go_enter Tryz.func48, Tryz.ntmps48
      go_wp2
      obtain ⟨m0, m1, m2⟩ := blk_cells3 (heap_alloc_new2 (w.alloc (.cells #[.slice FA p fc, .slice KA n kc, .slice AA a ac] 47)) (.cells #[.slice none 0 0, .slice none 0 0, .slice none 0 0] 27) (w.heap.size + 1) _ (by simp))
      exact bodyPost_ret (v := .tuple #[.agg #[.slice none 0 0, .slice none 0 0, .slice none 0 0], .int .i64 11]) (by simp [results, Tryz.results48, go_sem, m0, m1, m2]) rfl ⟨rfl, ((Below.refl _ _).alloc (Nat.le_refl _) _).alloc (by simp) _⟩
  exact main _ rfl fun h => by simp at h ⊢; omega
end Go.Proofs.YtgppobaoclfgcaaGreatDoor
namespace Go.Proofs.YtgppobaoclfgcaaGreatDoor
open Go.RowKit Go.Lib
end Go.Proofs.YtgppobaoclfgcaaGreatDoor
-- parts E2
namespace Go
section
variable {P : Program} {ops : Array Oper} {Q : Exit → Act → World → Prop} {md : Region.Mode} {S : World → Prop} {n : Nat}
end
end Go
namespace Go.Proofs.YtgppobaoclfgcaaGreatDoor
open Go.RowKit Go.Lib
theorem CellsAt.grown {w w' : World} {g : Nat} {xs : List Value} {row : Option Nat} (h : CellsAt w g xs) (hg : w.grownBy w' row) (hne : row ≠ some g) : CellsAt w' g xs :=
  ⟨Nat.lt_of_lt_of_le h.1 hg.size, fun j u hu => (hg.cell_far ⟨g, j, none⟩ h.1 (fun e => hne e.symm)).trans (h.2 j u hu)⟩
theorem CellsAt.drew {w : World} {g : Nat} {xs : List Value} (h : CellsAt w g xs) : CellsAt w.drew g xs := h
theorem CellsAt.new1 (w : World) (o : Obj) (c : Array Value) (t : TypeId) : CellsAt ((w.alloc o).alloc (.cells c t)) (w.heap.size + 1) c.toList := by
  have h := CellsAt.new (w.alloc o) c t
  rwa [show (w.alloc o).heap.size = w.heap.size + 1 from by simp] at h
theorem Two.swap {w w' : World} {r1 r2 : Option Nat} (h : Two w w' r1 r2) : Two w w' r2 r1 := ⟨h.os, h.tape, h.output, h.size, fun k hk h1 h2 => h.block k hk h2 h1⟩
theorem Two.trans {w w1 w2 : World} {r1 r2 : Option Nat} (h : Two w w1 r1 r2) (h' : Two w1 w2 none none) : Two w w2 r1 r2 :=
  ⟨h'.os.trans h.os, h'.tape.trans h.tape, h'.output.trans h.output, Nat.le_trans h.size h'.size, fun k hk h1 h2 => by rw [h'.block k (Nat.lt_of_lt_of_le hk h.size) (by simp) (by simp)]; exact h.block k hk h1 h2⟩
/-- two rows, one behind the other -/
theorem two_rows {base : Nat} {e1 e2 : TypeId} {w W1 wa W2 wb : World} {v1 v2 v1' v2' : Value} {k1 k2 n1 n2 : Nat} {x1 x2 y1 y2 : List Value}
    (o1 : w.ownsRow base e1 1 v1 k1 x1) (o2 : w.ownsRow base e2 1 v2 k2 x2) (ap : apart v1 v2)
    (t1 : Two w W1 none none) (g1 : W1.grownBy wa v1.ownBlock) (h1 : wa.ownsRow base e1 1 v1' n1 y1) (at1 : v1'.ownBlock = v1.ownBlock ∨ v1'.ownBlock = some W1.heap.size)
    (t2 : Two wa W2 none none) (g2 : W2.grownBy wb v2.ownBlock) (h2 : wb.ownsRow base e2 1 v2' n2 y2) (at2 : v2'.ownBlock = v2.ownBlock ∨ v2'.ownBlock = some W2.heap.size) :
    Two w wb v1.ownBlock v2.ownBlock ∧ wb.ownsRow base e1 1 v1' n1 y1 ∧ wb.ownsRow base e2 1 v2' n2 y2 ∧
      (v1'.ownBlock = v1.ownBlock ∨ ∃ g, v1'.ownBlock = some g ∧ w.heap.size ≤ g) ∧ (v2'.ownBlock = v2.ownBlock ∨ ∃ g, v2'.ownBlock = some g ∧ w.heap.size ≤ g) ∧ apart v1' v2' := by
  have hs1 : w.heap.size ≤ W1.heap.size := t1.size
  have hs2 : W1.heap.size ≤ wa.heap.size := g1.size
  have hs3 : wa.heap.size ≤ W2.heap.size := t2.size
  have T1 : Two w wa v1.ownBlock v2.ownBlock := (⟨t1.os, t1.tape, t1.output, t1.size, fun k hk _ _ => t1.block k hk (by simp) (by simp)⟩ : Two w W1 v1.ownBlock v2.ownBlock).grown g1 fun k hk _ => .inl hk.symm
  have T2 := (T1.trans t2).grown g2 fun k hk _ => .inr hk.symm
  have hap : ∀ k, v1'.ownBlock = some k → v2.ownBlock ≠ some k := fun k hk h => by
    rcases at1 with e | e
    · exact ap k (e ▸ hk) h
    · rw [e] at hk; injection hk with hk
      have := (o2.lt k h).2; omega
  have hw1 : wb.ownsRow base e1 1 v1' n1 y1 := own_block h1 fun k hk => by
    have hlt := (h1.lt k hk).2
    rw [g2.block k (Nat.lt_of_lt_of_le hlt t2.size) (fun e => hap k hk e.symm)]
    exact t2.block k hlt (by simp) (by simp)
  refine ⟨T2, hw1, h2, ?_, ?_, fun k hk h => ?_⟩
  · rcases at1 with e | e
    · exact .inl e
    · exact .inr ⟨_, e, hs1⟩
  · rcases at2 with e | e
    · exact .inl e
    · exact .inr ⟨_, e, by omega⟩
  · rcases at2 with e | e
    · exact hap k hk (e ▸ h)
    · rw [e] at h; injection h with h
      have := (h1.lt k hk).2; omega
theorem Two.cell {w w' : World} {r1 r2 : Option Nat} (h : Two w w' r1 r2) {g : Nat} (hg : g < w.heap.size) (h1 : r1 ≠ some g) (h2 : r2 ≠ some g) (j : Nat) : w'.cell? ⟨g, j, none⟩ = w.cell? ⟨g, j, none⟩ :=
  World.cell?_of_block (h.block g hg (fun e => h1 e.symm) (fun e => h2 e.symm))
theorem grown_at {v : Value} {g H : Nat} {n c : Nat} (h : v.ownBlock = some g ∨ g = H) : (Value.slice (some ⟨g, 0, none⟩) n c).ownBlock = v.ownBlock ∨ (Value.slice (some ⟨g, 0, none⟩) n c).ownBlock = some H := by
  rcases h with e | e
  · exact .inl (by rw [e]; rfl)
  · exact .inr (by rw [← e]; rfl)
/-- the rows made so far -/
def RowsOwn (B : World) (fb : Nat) (w : World) (R : List Row) (v1 v2 : Value) : Prop :=
  ∀ r ∈ R, w.ownsRow B.heap.size 3 1 (rowV r) r.2.2.length (i64s r.2.2) ∧ (rowV r).ownBlock ≠ some fb ∧ apart (rowV r) v1 ∧ apart (rowV r) v2
theorem RowsOwn.kept {B w w' : World} {fb : Nat} {R : List Row} {v1 v2 : Value} (h : RowsOwn B fb w R v1 v2) (hb : Below w.heap.size w w') : RowsOwn B fb w' R v1 v2 :=
  fun r hr => ⟨own_below (h r hr).1 hb, (h r hr).2⟩
theorem RowsOwn.push {B w w2 : World} {fb : Nat} {R : List Row} {v1 v2 v1' v2' : Value} {r : Row} (h : RowsOwn B fb w R v1 v2)
    (hr : w.ownsRow B.heap.size 3 1 (rowV r) r.2.2.length (i64s r.2.2)) (hrf : (rowV r).ownBlock ≠ some fb) (hr1 : apart (rowV r) v1) (hr2 : apart (rowV r) v2) (hT : Two w w2 v1.ownBlock v2.ownBlock)
    (hb1 : v1'.ownBlock = v1.ownBlock ∨ ∃ g, v1'.ownBlock = some g ∧ w.heap.size ≤ g) (hb2 : v2'.ownBlock = v2.ownBlock ∨ ∃ g, v2'.ownBlock = some g ∧ w.heap.size ≤ g) :
    RowsOwn B fb ((w2.setCell ⟨fb, 1, none⟩ v1').setCell ⟨fb, 2, none⟩ v2') (R ++ [r]) v1' v2' := fun q hq => by
  have hq : w.ownsRow B.heap.size 3 1 (rowV q) q.2.2.length (i64s q.2.2) ∧ (rowV q).ownBlock ≠ some fb ∧ apart (rowV q) v1 ∧ apart (rowV q) v2 := by
    rcases List.mem_append.1 hq with h' | h'
    · exact h q h'
    · obtain rfl : q = r := by simpa using h'
      exact ⟨hr, hrf, hr1, hr2⟩
  obtain ⟨ho, hf, h1, h2⟩ := hq
  exact ⟨ownsRow_setCell_other (ownsRow_setCell_other (hT.own ho (fun k hk e => h1 k hk e) (fun k hk e => h2 k hk e)) hf _) hf _, hf, (h1.symm.push' ho hb1).symm, (h2.symm.push' ho hb2).symm⟩
/-- a round of rows is done -/
def RowsDone (B : World) (fb : Nat) (t e0 e1 e2 : TypeId) (w : World) (v0 v1 v2 : Value) (xP x1 x2 : List Value) (R : List Row) : Prop :=
  Acc B fb t e0 e1 e2 w v0 v1 v2 xP x1 x2 ∧ RowsOwn B fb w R v1 v2
theorem rows_done {B w wb : World} {fb : Nat} {t e0 e1 e2 : TypeId} {v0 v1 v2 v1' v2' : Value} {xP x1 x2 y1 y2 : List Value} {R : List Row} {r : Row} {m1 m2 : Nat} (hA : Acc B fb t e0 e1 e2 w v0 v1 v2 xP x1 x2) (hR : RowsOwn B fb w R v1 v2)
    (hr : w.ownsRow B.heap.size 3 1 (rowV r) r.2.2.length (i64s r.2.2)) (hrf : (rowV r).ownBlock ≠ some fb) (hr1 : apart (rowV r) v1) (hr2 : apart (rowV r) v2)
    (h : Two w wb v1.ownBlock v2.ownBlock ∧ wb.ownsRow B.heap.size e1 1 v1' m1 (x1 ++ y1) ∧ wb.ownsRow B.heap.size e2 1 v2' m2 (x2 ++ y2) ∧
      (v1'.ownBlock = v1.ownBlock ∨ ∃ g, v1'.ownBlock = some g ∧ w.heap.size ≤ g) ∧ (v2'.ownBlock = v2.ownBlock ∨ ∃ g, v2'.ownBlock = some g ∧ w.heap.size ≤ g) ∧ apart v1' v2') :
    RowsDone B fb t e0 e1 e2 ((wb.setCell ⟨fb, 1, none⟩ v1').setCell ⟨fb, 2, none⟩ v2') v0 v1' v2' xP (x1 ++ y1) (x2 ++ y2) (R ++ [r]) :=
  ⟨hA.push12 h.1 h.2.1 h.2.2.1 h.2.2.2.1 h.2.2.2.2.1 h.2.2.2.2.2, hR.push hr hrf hr1 hr2 h.1 h.2.2.2.1 h.2.2.2.2.1⟩
end Go.Proofs.YtgppobaoclfgcaaGreatDoor
namespace Go.Proofs.YtgppobaoclfgcaaGreatDoor
open Go.RowKit Go.Lib
/-- a table that was made: no block below base is its -/
structure OwnTab (base : Nat) (w : World) (PA : Option Addr) (P : List Int) (pc : Nat) (NA : Option Addr) (R : List Row) (nc : Nat) (AA : Option Addr) (C : List Bool) (ac : Nat) : Prop where
  o0 : w.ownsRow base 21 1 (.slice PA P.length pc) P.length (i32s P)
  o1 : w.ownsRow base 58 1 (.slice NA R.length nc) R.length (R.map rowV)
  o2 : w.ownsRow base 4 1 (.slice AA C.length ac) C.length (C.map Value.bool)
  rows : ∀ r ∈ R, w.ownsRow base 3 1 (rowV r) r.2.2.length (i64s r.2.2)
theorem OwnTab.kept {base : Nat} {w w' : World} {PA NA AA : Option Addr} {P : List Int} {R : List Row} {C : List Bool} {pc nc ac : Nat} (h : OwnTab base w PA P pc NA R nc AA C ac) (hb : Below w.heap.size w w') : OwnTab base w' PA P pc NA R nc AA C ac :=
  ⟨own_below h.o0 hb, own_below h.o1 hb, own_below h.o2 hb, fun r hr => own_below (h.rows r hr) hb⟩
theorem OwnTab.set {base : Nat} {w : World} {PA NA AA : Option Addr} {P : List Int} {R : List Row} {C : List Bool} {pc nc ac : Nat} (h : OwnTab base w PA P pc NA R nc AA C ac) {g : Nat} (hg : g < base) (j : Nat) (u : Value) : OwnTab base (w.setCell ⟨g, j, none⟩ u) PA P pc NA R nc AA C ac :=
  ⟨own_set h.o0 hg j u, own_set h.o1 hg j u, own_set h.o2 hg j u, fun r hr => own_set (h.rows r hr) hg j u⟩
theorem OwnTab.tab {base : Nat} {w : World} {PA NA AA : Option Addr} {P : List Int} {R : List Row} {C : List Bool} {pc nc ac : Nat} (h : OwnTab base w PA P pc NA R nc AA C ac) (h0 : P.length ≤ maxLen) (h1 : R.length ≤ maxLen) (h2 : C.length ≤ maxLen) (h3 : ∀ r ∈ R, r.2.2.length ≤ maxLen) : TabAt w PA P NA R AA C :=
  ⟨own_Sl h.o0 (by simp [i32s]), own_Sl h.o1 (by simp), fun r hr => ⟨own_Sl (c := r.2.1) (A := r.1) (by have := h.rows r hr; unfold rowV at this; exact this) (by simp [i64s]), h3 r hr⟩, own_Sl h.o2 (by simp), h0, h1, h2⟩
/-- what BackTable hands back -/
def BackRes (F K A : List Int) (w : World) (e : Ending) (w' : World) : Prop :=
  Below w.heap.size w w' ∧
  (Plain.flatRight F K A = true → ∃ PA pc NA R nc AA ac, e = .returned (.tuple #[tabV PA (F.map fun r => r % 16777216) pc NA R nc AA (A.map fun x => x == 1) ac, .int .i64 0]) ∧ nums R = Plain.rowsOf K F.length A.length ∧ TabAt w' PA (F.map fun r => r % 16777216) NA R AA (A.map fun x => x == 1)) ∧
  (Plain.flatRight F K A = false → e = .returned (.tuple #[.agg #[.slice none 0 0, .slice none 0 0, .slice none 0 0], .int .i64 11]))
end Go.Proofs.YtgppobaoclfgcaaGreatDoor
namespace Go.Proofs.YtgppobaoclfgcaaGreatDoor
open Go.RowKit Go.Lib
theorem info21 : (Tryz.prog.info? 21).map (fun i => (i.zero, i.size, i.bytes)) = some (some (.int .i32 0), 1, 4) := by kernel_rfl
theorem info49 : (Tryz.prog.info? 58).map (fun i => (i.zero, i.size, i.bytes)) = some (some (.slice none 0 0), 1, 24) := by kernel_rfl
theorem info4 : (Tryz.prog.info? 4).map (fun i => (i.zero, i.size, i.bytes)) = some (some (.bool false), 1, 1) := by kernel_rfl
theorem i32s_snoc (L : List Int) (x : Int) : i32s (L ++ [x]) = i32s L ++ [.int .i32 x] := by simp [i32s]
set_option maxRecDepth 1000000 in
set_option maxHeartbeats 8000000 in
theorem backtable_long (FA : Option Addr) (F : List Int) (fc : Nat) (KA : Option Addr) (K : List Int) (kc : Nat) (AA : Option Addr) (A : List Int) (ac : Nat) (w : World) (hX : FlatAt w FA F KA K AA A)
    (hf : F.length ≤ 1048576) (hk : K.length ≤ maxLen) (ha : A.length ≤ 1048576) (h0 : 0 < F.length) (hw : K.length = F.length * A.length) (hkc : K.length ≤ kc)
    (hF : ∀ k, k < F.length → 0 ≤ F.getD k 0 ∧ F.getD k 0 < 4294967296) (hK : ∀ k, k < K.length → 0 ≤ K.getD k 0 ∧ K.getD k 0 < 4294967296) (hA : ∀ k, k < A.length → 0 ≤ A.getD k 0 ∧ A.getD k 0 < 4294967296) :
    Calls Tryz.prog 48 #[flatV FA F fc KA K kc AA A ac] w (BackRes F K A w) := by
  unfold flatV
  unfold maxLen at hk
  obtain ⟨i0, hi, hz0, hz1, hz2⟩ := info_parts info21
  obtain ⟨p, hP⟩ : ∃ p, F.length = p := ⟨_, rfl⟩
  obtain ⟨n, hN⟩ : ∃ n, K.length = n := ⟨_, rfl⟩
  obtain ⟨a, hAA⟩ : ∃ a, A.length = a := ⟨_, rfl⟩
  have HX := Lib.hid hX
  have HF := Lib.hid hF
  have HK := Lib.hid hK
  have HA := Lib.hid hA
  have HP := Lib.hid hP
  have HN := Lib.hid hN
  have HAA := Lib.hid hAA
  rw [hP] at hf hw h0 ⊢
  rw [hN] at hk hw hkc ⊢
  rw [hAA] at ha hw ⊢
  clear hP hN hAA hX hF hK hA
  have hmb : p * a ≤ 1099511627776 := Nat.le_trans (Nat.mul_le_mul hf ha) (Nat.le_refl _)
  have hmi : IntKind.i64.wrap ((p : Int) * (a : Int)) = (n : Int) := by
    rw [show (p : Int) * (a : Int) = ((p * a : Nat) : Int) from by simp, ← hw, IntKind.wrap_i64]; omega
  have HW := Lib.hid hw
  have HMB := Lib.hid hmb
  clear hw hmb
  have hp0 : ((p : Int) == 0) = false := by simp; omega
  have hnn : (!((n : Int) == (n : Int))) = false := by simp
  have hB0 : Below w.heap.size w ((w.alloc (.cells #[.slice FA p fc, .slice KA n kc, .slice AA a ac] 47)).alloc (.cells #[.slice none 0 0, .slice none 0 0, .slice none 0 0] 27)) := ((Below.refl _ _).alloc (Nat.le_refl _) _).alloc (by simp) _
  have hsB : ((w.alloc (.cells #[.slice FA p fc, .slice KA n kc, .slice AA a ac] 47)).alloc (.cells #[.slice none 0 0, .slice none 0 0, .slice none 0 0] 27)).heap.size = w.heap.size + 2 := by simp
  have hC0 := (CellsAt.new w #[.slice FA p fc, .slice KA n kc, .slice AA a ac] 47).alloc (.cells #[.slice none 0 0, .slice none 0 0, .slice none 0 0] 27)
  have hR0 := CellsAt.new (w.alloc (.cells #[.slice FA p fc, .slice KA n kc, .slice AA a ac] 47)) #[.slice none 0 0, .slice none 0 0, .slice none 0 0] 27
  rw [show (w.alloc (.cells #[.slice FA p fc, .slice KA n kc, .slice AA a ac] 47)).heap.size = w.heap.size + 1 from by simp] at hR0
  have hRB : ((w.alloc (.cells #[.slice FA p fc, .slice KA n kc, .slice AA a ac] 47)).alloc (.cells #[.slice none 0 0, .slice none 0 0, .slice none 0 0] 27)).heap[w.heap.size + 1]? = some (.cells #[.slice none 0 0, .slice none 0 0, .slice none 0 0] 27 (0, 0)) := heap_alloc_new2 _ _ _ _ (by simp)
  have hI : ∀ B, B = ((w.alloc (.cells #[.slice FA p fc, .slice KA n kc, .slice AA a ac] 47)).alloc (.cells #[.slice none 0 0, .slice none 0 0, .slice none 0 0] 27)) → Acc B (w.heap.size + 2) 27 21 58 4 (B.alloc (.cells #[.slice none 0 0, .slice none 0 0, .slice none 0 0] 27)) (.slice none 0 0) (.slice none 0 0) (.slice none 0 0) [] [] [] := fun B hB =>
    Acc.init (heap_alloc_new2 _ _ _ _ (by rw [hB, hsB])) ((Below.refl _ _).alloc (Nat.le_refl _) _) (by rw [hB, hsB]; exact Nat.le_refl _)
  have HI := Lib.hid hI
  have HB0 := Lib.hid hB0
  have HC0 := Lib.hid hC0
  have HR0 := Lib.hid hR0
  have HRB0 := Lib.hid hRB
  have HSB := Lib.hid hsB
  clear hI hB0 hC0 hR0 hsB hRB
  go_enter Tryz.func48, Tryz.ntmps48
  go_wp2_with fail
  generalize hBe : (w.alloc (.cells #[.slice FA p fc, .slice KA n kc, .slice AA a ac] 47)).alloc (.cells #[.slice none 0 0, .slice none 0 0, .slice none 0 0] 27) = B at HI HB0 HC0 HR0 HSB HRB0 ⊢
  have HRB := HRB0
  have hI := HI.out B rfl
  clear HI hBe
  have HXB := Lib.hid (HX.out.below HB0.out)
  have HI := Lib.hid hI
  clear hI
  go_loopw [6, 8, 34] (fun s _ i wr => ∃ (k : Nat) (v0 : Value), k ≤ p ∧ i = .int .i64 k ∧ s = .bool ((F.take k).all fun r => decide (r < 16777216)) ∧ Acc B (w.heap.size + 2) 27 21 58 4 wr v0 (.slice none 0 0) (.slice none 0 0) (i32s ((F.take k).map fun r => r % 16777216)) [] []) (fun _ _ i _ => p - (RowKit.intOf i).toNat)
  case atStart => exact ⟨0, _, Nat.zero_le _, rfl, rfl, HI.out⟩
  case round =>
    obtain ⟨k, v0, hk, rfl, rfl, hA⟩ := hrel
    have HAc := Lib.hid hA
    clear hA
    by_cases hlt : k < p
    · have hkl : k < F.length := by rw [HP.out]; exact hlt
      obtain ⟨ba, off, rfl, hba, hck⟩ := (HXB.out.parts.below HAc.out.below).get k hkl
      obtain ⟨x0, x1⟩ := HF.out k hkl
      have htk := Plain.take_snoc F k (F.getD k 0) (by simp [List.getD, List.getElem?_eq_getElem hkl])
      obtain ⟨x, hx⟩ : ∃ x, F.getD k 0 = x := ⟨_, rfl⟩
      rw [hx] at hck x0 x1 htk
      have hst : i32s ((F.take (k + 1)).map fun r => r % 16777216) = i32s ((F.take k).map fun r => r % 16777216) ++ [.int .i32 (x % 16777216)] := by rw [htk, List.map_append, List.map_singleton, i32s_snoc]
      have hfi : ((F.take (k + 1)).all fun r => decide (r < 16777216)) = (((F.take k).all fun r => decide (r < 16777216)) && decide (x < 16777216)) := by rw [htk]; simp
      have hlen : (i32s ((F.take k).map fun r => r % 16777216)).length = k := by simp [i32s]; omega
      obtain ⟨xs, hxs⟩ : ∃ xs, i32s ((F.take k).map fun r => r % 16777216) = xs := ⟨_, rfl⟩
      have hA := HAc.out
      rw [hxs] at hA hst hlen
      obtain ⟨bf, hbf⟩ : ∃ b, ((F.take k).all fun r => decide (r < 16777216)) = b := ⟨_, rfl⟩
      rw [hbf] at hfi ⊢
      obtain ⟨d0, d1, d2⟩ := hA.cell
      have hsz := hA.lt
      have HST := Lib.hid hst
      have HFI := Lib.hid hfi
      have HLN := Lib.hid hlen
      have HA2 := Lib.hid hA
      clear hst hfi hlen hA hxs hbf htk hx HAc
      cases bf
      all_goals
        go_wp2_with (at_builtin; refine wpList_append_own2 _ rfl (.tmp 44) (.tmp 48) _ rfl B.heap.size 21 i0 _ 1 4 Tryz.underlying23 hi hz0 hz1 hz2 rfl (by decide) v0 _ xs rfl (HA2.out.o0.alloc _) ⟨wr.heap.size, 0, none⟩ 1 1 [.int .i32 (x % 16777216)] rfl rfl ?c1 ?c2 ?c3 ?c4 ?c5 ?_)
        case c1 => exact CellsAt_add (CellsAt.new wr _ _)
        case c2 => intro u hu; simp only [List.mem_cons, List.not_mem_nil, or_false] at hu; subst hu; rfl
        case c3 => rw [HLN.out]; simp only [maxLen]; omega
        case c4 => rw [HLN.out]; omega
        case c5 => have := HA2.out.below.size; simp; omega
        intro v2 w2 hown2 hg2 hb2
        obtain ⟨a2, cp2, rfl⟩ := own_slice hown2
        obtain ⟨s0, s1, s2⟩ := blk_cells3 (blk_grown HA2.out.blk hg2 HA2.out.n0)
        have f0 := blk_frozen (blk_grown HA2.out.blk hg2 HA2.out.n0) 0
        have hN := HA2.out.push0 hown2 hg2 hb2
        have HN := Lib.hid hN
        clear hN hown2 hg2 hb2
        go_wp2
        go_roundw
        case rel => exact ⟨k + 1, _, by omega, by go_num, by rw [HFI.out]; rfl, by rw [HST.out]; exact HN.out⟩
        case measure => simp [RowKit.intOf]; omega
    · obtain rfl : p = k := by omega
      have hFt : F.take p = F := List.take_of_length_le (by rw [HP.out]; exact Nat.le_refl _)
      have hA1 := HAc.out
      rw [hFt] at hA1 ⊢
      obtain ⟨bF, hbF⟩ : ∃ b, (F.all fun r => decide (r < 16777216)) = b := ⟨_, rfl⟩
      obtain ⟨xP, hxP⟩ : ∃ xs, i32s (F.map fun r => r % 16777216) = xs := ⟨_, rfl⟩
      rw [hbF]
      rw [hxP] at hA1
      have q2 := (HC0.out.below hA1.below).at_ 2 _ rfl
      have HA1 := Lib.hid hA1
      have HBF := Lib.hid hbF
      have HXP := Lib.hid hxP
      clear hA1 hFt hbF hxP HAc
      go_wp2_with fail
      go_loopw [6, 9, 10, 11, 13, 55] (fun s _ _ _ _ i wr => ∃ (k : Nat) (v0 v1 v2 : Value) (R : List Row), k ≤ a ∧ i = .int .i64 k ∧ s = .bool (bF && ((K.take (k * p)).all fun x => x % (p : Int) == 0) && (A.take k).all fun x => decide (x < 2)) ∧
        nums R = Plain.rowsOf K p k ∧ Acc B (w.heap.size + 2) 27 21 58 4 wr v0 v1 v2 xP (R.map rowV) (((A.take k).map fun x => x == 1).map Value.bool) ∧ RowsOwn B (w.heap.size + 2) wr R v1 v2) (fun _ _ _ _ _ i _ => a - (RowKit.intOf i).toNat)
      case atStart => exact ⟨0, v0, _, _, [], Nat.zero_le _, rfl, by simp, rfl, HA1.out, fun r hr => absurd hr (by simp)⟩
      clear HA1 v0
      case round =>
        obtain ⟨k, v0, v1, v2, R, hk, rfl, rfl, hR, hA, hRo⟩ := hrel
        by_cases hlt : k < a
        · have hka : k < A.length := by rw [HAA.out]; exact hlt
          obtain ⟨aa, ao, rfl, haa, hza⟩ := (HXB.out.acc.below hA.below).get k hka
          obtain ⟨z0, z1⟩ := HA.out k hka
          obtain ⟨z, hz⟩ : ∃ z, A.getD k 0 = z := ⟨_, rfl⟩
          rw [hz] at hza z0 z1
          obtain ⟨s, hs⟩ : ∃ s, k * p = s := ⟨_, rfl⟩
          have hsp : s + p ≤ n := by
            have h1 : (k + 1) * p ≤ a * p := Nat.mul_le_mul_right _ hlt
            rw [Nat.add_mul, hs] at h1
            rw [HW.out, Nat.mul_comm]; omega
          have hn40 : n ≤ 1099511627776 := by rw [HW.out]; exact HMB.out
          have hw1 : IntKind.i64.wrap ((k : Int) * (p : Int)) = (s : Int) := by
            rw [show (k : Int) * (p : Int) = ((k * p : Nat) : Int) from by simp, hs, IntKind.wrap_i64]; omega
          have hw2 : IntKind.i64.wrap (((k : Int) + 1) * (p : Int)) = ((s + p : Nat) : Int) := by
            rw [show ((k : Int) + 1) * (p : Int) = ((k * p + p : Nat) : Int) from by simp [Int.add_mul], hs, IntKind.wrap_i64]; omega
          obtain ⟨kb, ko, rfl, hkb, _⟩ := (HXB.out.cells.below hA.below).get s (by rw [HN.out]; omega)
          have b1 := (HC0.out.below hA.below).at_ 1 _ rfl
          have hS1 : (0 : Int) ≤ (s : Int) := by omega
          have hS2 : (s : Int) ≤ ((s + p : Nat) : Int) := by omega
          have hS3 : ((s + p : Nat) : Int) ≤ (kc : Int) := by omega
          have HZ := Lib.hid hz
          have HS := Lib.hid hs
          have HRn := Lib.hid hR
          have HAc := Lib.hid hA
          have HRo := Lib.hid hRo
          clear hz hs hR hA hRo
          obtain ⟨fin, hfin⟩ : ∃ b, (bF && ((K.take (k * p)).all fun x => x % (p : Int) == 0) && (A.take k).all fun x => decide (x < 2)) = b := ⟨_, rfl⟩
          rw [hfin]
          have HFN := Lib.hid hfin
          clear hfin
          go_wp2_with fail
          obtain ⟨w3, rfl⟩ : ∃ w3, w3 = wr := ⟨_, rfl⟩
          simp only [Nat.add_sub_cancel_left]
          go_loopw [6, 11, 13, 71] (fun b v _ i wr => ∃ (u : Value) (j : Nat), u = v ∧ j ≤ p ∧ i = .int .i64 j ∧ b = .bool (fin && ((K.drop s).take j).all fun x => x % (p : Int) == 0) ∧ Below w3.heap.size w3 wr ∧ wr.ownsRow w3.heap.size 3 1 u j (i64s (((K.drop s).take j).map fun x => x / (p : Int)))) (fun _ _ _ i _ => p - (RowKit.intOf i).toNat)
          case atStart => exact ⟨_, 0, rfl, Nat.zero_le _, rfl, by simp, Below.refl _ _, by simpa [i64s] using World.ownsRow_nil _ _ _ _⟩
          case round =>
            obtain ⟨u, j, rfl, hj, rfl, rfl, hB, hU⟩ := hrel
            have HB := Lib.hid hB
            have HU := Lib.hid hU
            clear hB hU
            by_cases hjlt : j < p
            · have hsj : s + j < K.length := by rw [HN.out]; omega
              obtain ⟨kb', ko', hkk, _, hcj⟩ := (HXB.out.cells.below HAc.out.below).get (s + j) hsj
              cases hkk
              obtain ⟨x0, x1⟩ := HK.out (s + j) hsj
              have htk := Plain.take_snoc (K.drop s) j (K.getD (s + j) 0) (by rw [List.getElem?_drop]; simp [List.getD, List.getElem?_eq_getElem hsj])
              obtain ⟨x, hx⟩ : ∃ x, K.getD (s + j) 0 = x := ⟨_, rfl⟩
              rw [hx] at hcj x0 x1 htk
              obtain ⟨y, rfl⟩ : ∃ y : Nat, x = (y : Int) := ⟨x.toNat, by omega⟩
              have hcj := (HB.out.cell (p := ⟨kb, ko + (s + j), none⟩) (Nat.lt_of_lt_of_le (by assumption) (Nat.le_refl _))).trans hcj
              rw [← Nat.add_assoc] at hcj
              have htm : Int.tmod (y : Int) (p : Int) = ((y % p : Nat) : Int) := rfl
              have htd : Int.tdiv (y : Int) (p : Int) = ((y / p : Nat) : Int) := rfl
              have hst : i64s (((K.drop s).take (j + 1)).map fun x => x / (p : Int)) = i64s (((K.drop s).take j).map fun x => x / (p : Int)) ++ [.int .i64 ((y / p : Nat) : Int)] := by rw [htk]; simp [i64s]
              have hfi : (fin && ((K.drop s).take (j + 1)).all fun x => x % (p : Int) == 0) = ((fin && ((K.drop s).take j).all fun x => x % (p : Int) == 0) && (((y % p : Nat) : Int) == 0)) := by rw [htk]; simp [Bool.and_assoc]
              obtain ⟨bf, hbf⟩ : ∃ b, (fin && ((K.drop s).take j).all fun x => x % (p : Int) == 0) = b := ⟨_, rfl⟩
              rw [hbf] at hfi ⊢
              obtain ⟨xs, hxs⟩ : ∃ xs, i64s (((K.drop s).take j).map fun x => x / (p : Int)) = xs := ⟨_, rfl⟩
              have hU := HU.out
              rw [hxs] at hst hU
              have hdl : y / p ≤ y := Nat.div_le_self _ _
              obtain ⟨q, hq⟩ : ∃ q, y / p = q := ⟨_, rfl⟩
              obtain ⟨m, hm⟩ : ∃ m, y % p = m := ⟨_, rfl⟩
              rw [hq] at htd hst hdl
              rw [hm] at htm hfi
              have HST := Lib.hid hst
              have HFI := Lib.hid hfi
              have HU2 := Lib.hid hU
              clear hst hfi hU hxs hbf htk hx hq hm HU
              obtain ⟨i1, hi1, hy0, hy1, hy2⟩ := info_parts info3
              have hxl : xs.length ≤ 1048576 := by have := HU2.out.1; omega
              have hsz := HB.out.size
              cases bf
              all_goals
                go_wp2_with (at_builtin; refine wpList_append_own2 _ rfl (.tmp 83) (.tmp 88) _ rfl w3.heap.size 3 i1 _ 1 8 Tryz.underlying58 hi1 hy0 hy1 hy2 rfl (by decide) u j xs rfl (HU2.out.alloc _) ⟨wr.heap.size, 0, none⟩ 1 1 [.int .i64 q] rfl rfl ?c1 ?c2 ?c3 ?c4 ?c5 ?_)
                case c1 => exact CellsAt_add (CellsAt.new wr _ _)
                case c2 => intro u hu; simp only [List.mem_cons, List.not_mem_nil, or_false] at hu; subst hu; rfl
                case c3 => simp only [maxLen]; omega
                case c4 => omega
                case c5 => simp; omega
                intro v2 w2 hown2 hg2 _
                have hBn : Below w3.heap.size w3 w2 := (HB.out.alloc HB.out.size _).grown hg2 (by simp; omega) (fun g hg => (HU2.out.lt g hg).1)
                have HBn := Lib.hid hBn
                have HO := Lib.hid hown2
                clear hBn hg2 hown2
                go_wp2
                go_roundw
                case rel => exact ⟨_, j + 1, rfl, by omega, by go_num, by rw [HFI.out]; rfl, HBn.out, by rw [HST.out]; exact HO.out⟩
                case measure => simp [RowKit.intOf]; omega
            · obtain rfl : p = j := by omega
              have hdt : ((K.drop s).take p).length = p := by rw [List.length_take, List.length_drop, HN.out]; omega
              obtain ⟨bf, hbf⟩ : ∃ b, (fin && ((K.drop s).take p).all fun x => x % (p : Int) == 0) = b := ⟨_, rfl⟩
              rw [hbf]
              obtain ⟨L, hL⟩ : ∃ L, ((K.drop s).take p).map (fun x => x / (p : Int)) = L := ⟨_, rfl⟩
              have hLl : L.length = p := by rw [← hL, List.length_map]; exact hdt
              have hU := HU.out
              rw [hL] at hU
              obtain ⟨ua, uc, rfl⟩ := own_slice hU
              have HBF := Lib.hid hbf
              have HL := Lib.hid hL
              have HLL := Lib.hid hLl
              have HU2 := Lib.hid hU
              clear hdt hbf hL hLl hU HU
              have HAc0 := HAc
              have hAc := HAc.out.kept HB.out
              obtain ⟨d0, d1, d2⟩ := hAc.cell
              have hf1 := blk_frozen hAc.blk 1
              have hf2 := blk_frozen hAc.blk 2
              have HAc2 := Lib.hid hAc
              have HRK := Lib.hid (RowsOwn.kept HRo.out HB.out)
              clear hAc
              go_upto_region 22 with fail
              go_cut [6] (fun s6 wx => s6 = .bool (bf && decide (z < 2)) ∧ wr = wx)
              case first =>
                cases bf
                all_goals
                  go_wp2_with fail
                  go_meet
                  exact ⟨by simp, rfl⟩
              case rest =>
                obtain ⟨rfl, rfl⟩ := hcut
                go_upto_region 23 with fail
                have hs1 := HAc2.out.below.size
                have hB3 : B.heap.size ≤ wr.heap.size := hs1
                have hv2 : ∀ k, v2.ownBlock = some k → k < wr.heap.size := fun k hk => (HAc2.out.o2.lt k hk).2
                have hv1 : ∀ k, v1.ownBlock = some k → k < wr.heap.size := fun k hk => (HAc2.out.o1.lt k hk).2
                have HV1 := Lib.hid hv1
                have HV2 := Lib.hid hv2
                have hx1l : (R.map rowV).length = k := by
                  have := congrArg List.length HRn.out
                  rw [Plain.rowsOf_len] at this
                  simpa [nums] using this
                have hx2l : (((A.take k).map fun x => x == 1).map Value.bool).length = k := by rw [List.length_map, List.length_map, List.length_take, HAA.out]; omega
                obtain ⟨x1, hx1⟩ : ∃ x, R.map rowV = x := ⟨_, rfl⟩
                obtain ⟨x2, hx2⟩ : ∃ x, ((A.take k).map fun x => x == 1).map Value.bool = x := ⟨_, rfl⟩
                have hA3 := HAc2.out
                rw [hx1, hx2] at hA3
                rw [hx1] at hx1l
                rw [hx2] at hx2l
                have HA3 := Lib.hid hA3
                have HX1 := Lib.hid hx1
                have HX2 := Lib.hid hx2
                have HX1L := Lib.hid hx1l
                have HX2L := Lib.hid hx2l
                clear hv1 hv2 hx1 hx2 hx1l hx2l hA3 HAc2
                obtain ⟨iR, hiR, hr0, hr1, hr2⟩ := info_parts info49
                obtain ⟨iB, hiB, hb0, hb1, hb2⟩ := info_parts info4
                have hRU : wr.ownsRow B.heap.size 3 1 (rowV (ua, uc, L)) L.length (i64s L) := by
                  have h := own_base HU2.out (Nat.le_trans HAc0.out.below.size (Nat.le_refl _))
                  unfold rowV; dsimp only; rw [HLL.out]; exact h
                have hlt0 := HAc0.out.lt
                have hrv : rowV (ua, uc, L) = .slice ua p uc := by unfold rowV; dsimp only; rw [HLL.out]
                have hUF : (rowV (ua, uc, L)).ownBlock ≠ some (w.heap.size + 2) := fun e => by
                  have h := HU2.out.lt _ (hrv ▸ e)
                  omega
                have hU1 : apart (rowV (ua, uc, L)) v1 := fun g hg e => by
                  have h := HU2.out.lt _ (hrv ▸ hg)
                  have := (HAc0.out.o1.lt g e).2
                  omega
                have hU2 : apart (rowV (ua, uc, L)) v2 := fun g hg e => by
                  have h := HU2.out.lt _ (hrv ▸ hg)
                  have := (HAc0.out.o2.lt g e).2
                  omega
                have hbe : (bF && ((K.take ((k + 1) * p)).all fun x => x % (p : Int) == 0) && (A.take (k + 1)).all fun x => decide (x < 2)) = (bf && decide (z < 2)) := by
                  rw [← HBF.out, ← HFN.out, Nat.add_mul, Nat.one_mul, List.take_add, HS.out, List.all_append, Plain.take_snoc A k z (by rw [← HZ.out]; simp [List.getD, List.getElem?_eq_getElem hka]), List.all_append]
                  simp only [List.all_cons, List.all_nil, Bool.and_true]
                  generalize ((List.take s K).all fun x => x % (p : Int) == 0) = c1
                  generalize ((List.take p (List.drop s K)).all fun x => x % (p : Int) == 0) = c2
                  generalize ((List.take k A).all fun x => decide (x < 2)) = c3
                  generalize decide (z < 2) = c4
                  cases bF <;> cases c1 <;> cases c2 <;> cases c3 <;> cases c4 <;> rfl
                have hnr : nums (R ++ [(ua, uc, L)]) = Plain.rowsOf K p (k + 1) := by
                  unfold nums
                  rw [List.map_append, show R.map (fun r => r.2.2) = nums R from rfl, HRn.out]
                  unfold Plain.rowsOf
                  rw [List.range_succ, List.map_append, List.map_singleton, List.map_singleton, HS.out, HL.out]
                have hx1n : (R ++ [(ua, uc, L)]).map rowV = x1 ++ [.slice ua p uc] := by
                  rw [List.map_append, HX1.out, List.map_singleton]; unfold rowV; dsimp only; rw [HLL.out]
                have hx2n : ((A.take (k + 1)).map fun x => x == 1).map Value.bool = x2 ++ [.bool (z == 1)] := by
                  rw [Plain.take_snoc A k z (by rw [← HZ.out]; simp [List.getD, List.getElem?_eq_getElem hka]), List.map_append, List.map_append, HX2.out]; rfl
                have HRU := Lib.hid hRU
                have HUF := Lib.hid hUF
                have HU1 := Lib.hid hU1
                have HU2a := Lib.hid hU2
                have HBE := Lib.hid hbe
                have HNR := Lib.hid hnr
                have HX1N := Lib.hid hx1n
                have HX2N := Lib.hid hx2n
                clear hrv hRU hUF hU1 hU2 hbe hnr hx1n hx2n hlt0
                have hS0 : wr.drew.cell? ⟨w.heap.size + 2, 1, none⟩ = some v1 ∧ wr.drew.cell? ⟨w.heap.size + 2, 2, none⟩ = some v2 := ⟨d1, d2⟩
                have HS0 := Lib.hid hS0
                clear hS0 d0 d1 d2 hf1 hf2
                refine wp_region_noPanic ?_
                refine wp_region_T 12 (S := (fun w' => w'.cell? ⟨w.heap.size + 2, 1, none⟩ = some v1 ∧ w'.cell? ⟨w.heap.size + 2, 2, none⟩ = some v2)) (by kernel_rfl) (by decide) ?_
                refine wpAnyT_take 0 (v := ?tv1) (by kernel_rfl) rfl (by kernel_rfl) (fun _ _ _ h => h) (Or.inl ⟨by rfl, ?ty1⟩) HS0.out ?tr1
                case ty1 => (intro w' hSw; (try dsimp only at hSw); go_simp; try with_reducible rfl)
                try simp only [Act.put, List.setIfInBounds_toArray, List.set_cons_zero, List.set_cons_succ]
                refine wpAnyT_take 1 (v := ?tv2) (by kernel_rfl) rfl (by kernel_rfl) (fun _ _ _ h => h) (Or.inl ⟨by rfl, ?ty2⟩) HS0.out ?tr2
                case ty2 => (intro w' hSw; (try dsimp only at hSw); go_simp; try with_reducible rfl)
                try simp only [Act.put, List.setIfInBounds_toArray, List.set_cons_zero, List.set_cons_succ]
                refine wpAnyT_take 2 (v := ?tv3) (by kernel_rfl) rfl (by kernel_rfl) (fun _ _ _ h => h) (Or.inl ⟨by rfl, ?ty3⟩) HS0.out ?tr3
                case ty3 => (intro w' hSw; (try dsimp only at hSw); go_simp; try with_reducible rfl)
                try simp only [Act.put, List.setIfInBounds_toArray, List.set_cons_zero, List.set_cons_succ]
                refine wpAnyT_take 5 (v := ?tv4) (by kernel_rfl) rfl (by kernel_rfl) (fun _ _ _ h => h) (Or.inl ⟨by rfl, ?ty4⟩) HS0.out ?tr4
                case ty4 => (intro w' hSw; (try dsimp only at hSw); go_simp; try with_reducible rfl)
                try simp only [Act.put, List.setIfInBounds_toArray, List.set_cons_zero, List.set_cons_succ]
                refine wpAnyT_take 6 (v := ?tv5) (by kernel_rfl) rfl (by kernel_rfl) (fun _ _ _ h => h) (Or.inl ⟨by rfl, ?ty5⟩) HS0.out ?tr5
                case ty5 => (intro w' hSw; (try dsimp only at hSw); go_simp; try with_reducible rfl)
                try simp only [Act.put, List.setIfInBounds_toArray, List.set_cons_zero, List.set_cons_succ]
                refine wpAnyT_take 7 (v := ?tv6) (by kernel_rfl) rfl (by kernel_rfl) (fun _ _ _ h => h) (Or.inl ⟨by rfl, ?ty6⟩) HS0.out ?tr6
                case ty6 => (intro w' hSw; (try dsimp only at hSw); go_simp; try with_reducible rfl)
                try simp only [Act.put, List.setIfInBounds_toArray, List.set_cons_zero, List.set_cons_succ]
                refine wpAnyT_take 8 (v := ?tv7) (by kernel_rfl) rfl (by kernel_rfl) (fun _ _ _ h => h) (Or.inl ⟨by rfl, ?ty7⟩) HS0.out ?tr7
                case ty7 => (intro w' hSw; (try dsimp only at hSw); go_simp; try with_reducible rfl)
                try simp only [Act.put, List.setIfInBounds_toArray, List.set_cons_zero, List.set_cons_succ]
                refine wpAnyT_two 3 9 (by kernel_rfl) ?_ ?_
                · refine ⟨_, rfl, fun K hK => ?_⟩
                  have HK := Lib.hid hK
                  clear hK
                  go_simp
                  refine HK.out _ _ ⟨⟨(Two.cell (by repeat (first | refine Two.drew ?_ | refine Two.alloc ?_ _ | refine Two.grown ?_ growa (fun k hk _ => .inl hk.symm) | refine Two.grown ?_ growb (fun k hk _ => .inr hk.symm) | exact Two.refl _ _ _)) HA3.out.lt HA3.out.n1 HA3.out.n2 1).trans HS0.out.1, (Two.cell (by repeat (first | refine Two.drew ?_ | refine Two.alloc ?_ _ | refine Two.grown ?_ growa (fun k hk _ => .inl hk.symm) | refine Two.grown ?_ growb (fun k hk _ => .inr hk.symm) | exact Two.refl _ _ _)) HA3.out.lt HA3.out.n1 HA3.out.n2 2).trans HS0.out.2⟩, ?_⟩
                  clear HK K
                  try simp only [Act.put, List.setIfInBounds_toArray, List.set_cons_zero, List.set_cons_succ]
                  refine wpAnyT_two 4 9 (by kernel_rfl) ?_ ?_
                  · refine ⟨_, rfl, fun K hK => ?_⟩
                    have HK := Lib.hid hK
                    clear hK
                    refine step_append_lies _ (by rfl) (.tmp 97) (.tmp 99) 24 (by rfl) B.heap.size 58 iR _ 1 24 Tryz.underlying24 hiR hr0 hr1 hr2 rfl (by decide) v1 k x1 (by rfl) ?o8 _ 1 1 [.slice ua p uc] (by rfl) rfl ?n8 ?c8 (by decide) ?m8 ?b8 ?s8 _ rfl ?_
                    case o8 => exact Two.own (r1 := none) (r2 := none) (by repeat (first | refine Two.drew ?_ | refine Two.alloc ?_ _ | exact Two.refl _ _ _)) (HX1L.out ▸ HA3.out.o1) (by simp) (by simp)
                    case n8 => exact CellsAt_add (CellsAt.new wr _ _)
                    case c8 => (intro u hu; simp only [List.mem_cons, List.not_mem_nil, or_false] at hu; subst hu; rfl)
                    case m8 => (simp only [maxLen]; omega)
                    case b8 => omega
                    case s8 => (have := hB3; simp; omega)
                    intro ga cpa wa owna growa ata lta
                    refine HK.out _ _ ⟨⟨(Two.cell (by repeat (first | refine Two.drew ?_ | refine Two.alloc ?_ _ | refine Two.grown ?_ growa (fun k hk _ => .inl hk.symm) | refine Two.grown ?_ growb (fun k hk _ => .inr hk.symm) | exact Two.refl _ _ _)) HA3.out.lt HA3.out.n1 HA3.out.n2 1).trans HS0.out.1, (Two.cell (by repeat (first | refine Two.drew ?_ | refine Two.alloc ?_ _ | refine Two.grown ?_ growa (fun k hk _ => .inl hk.symm) | refine Two.grown ?_ growb (fun k hk _ => .inr hk.symm) | exact Two.refl _ _ _)) HA3.out.lt HA3.out.n1 HA3.out.n2 2).trans HS0.out.2⟩, ?_⟩
                    clear HK K
                    try simp only [Act.put, List.setIfInBounds_toArray, List.set_cons_zero, List.set_cons_succ]
                    refine wpAnyT_take 11 (v := ?tv9) (by kernel_rfl) rfl (by kernel_rfl) (fun _ _ _ h => h) (Or.inl ⟨by rfl, ?ty9⟩) ⟨(Two.cell (by repeat (first | refine Two.drew ?_ | refine Two.alloc ?_ _ | refine Two.grown ?_ growa (fun k hk _ => .inl hk.symm) | refine Two.grown ?_ growb (fun k hk _ => .inr hk.symm) | exact Two.refl _ _ _)) HA3.out.lt HA3.out.n1 HA3.out.n2 1).trans HS0.out.1, (Two.cell (by repeat (first | refine Two.drew ?_ | refine Two.alloc ?_ _ | refine Two.grown ?_ growa (fun k hk _ => .inl hk.symm) | refine Two.grown ?_ growb (fun k hk _ => .inr hk.symm) | exact Two.refl _ _ _)) HA3.out.lt HA3.out.n1 HA3.out.n2 2).trans HS0.out.2⟩ ?tr9
                    case ty9 => (intro w' hSw; (try dsimp only at hSw); go_simp; try with_reducible rfl)
                    try simp only [Act.put, List.setIfInBounds_toArray, List.set_cons_zero, List.set_cons_succ]
                    refine wpAnyT_one 9 (by kernel_rfl) ?_
                    refine ⟨_, rfl, fun K hK => ?_⟩
                    have HK := Lib.hid hK
                    clear hK
                    go_simp
                    refine HK.out _ _ ⟨⟨(Two.cell (by repeat (first | refine Two.drew ?_ | refine Two.alloc ?_ _ | refine Two.grown ?_ growa (fun k hk _ => .inl hk.symm) | refine Two.grown ?_ growb (fun k hk _ => .inr hk.symm) | exact Two.refl _ _ _)) HA3.out.lt HA3.out.n1 HA3.out.n2 1).trans HS0.out.1, (Two.cell (by repeat (first | refine Two.drew ?_ | refine Two.alloc ?_ _ | refine Two.grown ?_ growa (fun k hk _ => .inl hk.symm) | refine Two.grown ?_ growb (fun k hk _ => .inr hk.symm) | exact Two.refl _ _ _)) HA3.out.lt HA3.out.n1 HA3.out.n2 2).trans HS0.out.2⟩, ?_⟩
                    clear HK K
                    try simp only [Act.put, List.setIfInBounds_toArray, List.set_cons_zero, List.set_cons_succ]
                    refine wpAnyT_one 10 (by kernel_rfl) ?_
                    refine ⟨_, rfl, fun K hK => ?_⟩
                    have HK := Lib.hid hK
                    clear hK
                    refine step_append_lies _ (by rfl) (.tmp 102) (.tmp 105) 25 (by rfl) B.heap.size 4 iB _ 1 1 Tryz.underlying25 hiB hb0 hb1 hb2 rfl (by decide) v2 k x2 (by rfl) ?o10 _ 1 1 [.bool (z == 1)] (by rfl) rfl ?n10 ?c10 (by decide) ?m10 ?b10 ?s10 _ rfl ?_
                    case o10 => exact Two.own (r1 := v1.ownBlock) (r2 := none) (by repeat (first | refine Two.drew ?_ | refine Two.alloc ?_ _ | refine Two.grown ?_ growa (fun k hk _ => .inl hk.symm) | exact Two.refl _ _ _)) (HX2L.out ▸ HA3.out.o2) (fun k hk e => HA3.out.a12 k e hk) (by simp)
                    case n10 => exact CellsAt_add (CellsAt.new wa _ _)
                    case c10 => (intro u hu; simp only [List.mem_cons, List.not_mem_nil, or_false] at hu; subst hu; rfl)
                    case m10 => (simp only [maxLen]; omega)
                    case b10 => omega
                    case s10 => (have h1 := hB3; have h2 := growa.size; simp at h2 ⊢; omega)
                    intro gb cpb wb ownb growb atb ltb
                    refine HK.out _ _ ⟨⟨(Two.cell (by repeat (first | refine Two.drew ?_ | refine Two.alloc ?_ _ | refine Two.grown ?_ growa (fun k hk _ => .inl hk.symm) | refine Two.grown ?_ growb (fun k hk _ => .inr hk.symm) | exact Two.refl _ _ _)) HA3.out.lt HA3.out.n1 HA3.out.n2 1).trans HS0.out.1, (Two.cell (by repeat (first | refine Two.drew ?_ | refine Two.alloc ?_ _ | refine Two.grown ?_ growa (fun k hk _ => .inl hk.symm) | refine Two.grown ?_ growb (fun k hk _ => .inr hk.symm) | exact Two.refl _ _ _)) HA3.out.lt HA3.out.n1 HA3.out.n2 2).trans HS0.out.2⟩, ?_⟩
                    clear HK K
                    try simp only [Act.put, List.setIfInBounds_toArray, List.set_cons_zero, List.set_cons_succ]
                    have hfin := rows_done HA3.out HRK.out (r := (ua, uc, L)) HRU.out HUF.out HU1.out HU2a.out (two_rows (HX1L.out ▸ HA3.out.o1) (HX2L.out ▸ HA3.out.o2) HA3.out.a12 (by repeat (first | refine Two.drew ?_ | refine Two.alloc ?_ _ | exact Two.refl _ _ _)) growa owna (grown_at ata) (by repeat (first | refine Two.drew ?_ | refine Two.alloc ?_ _ | exact Two.refl _ _ _)) growb ownb (grown_at atb))
                    have hbk : wb.heap[w.heap.size + 2]? = _ := (Two.block (by repeat (first | refine Two.drew ?_ | refine Two.alloc ?_ _ | refine Two.grown ?_ growa (fun k hk _ => .inl hk.symm) | refine Two.grown ?_ growb (fun k hk _ => .inr hk.symm) | exact Two.refl _ _ _)) _ HA3.out.lt (fun e => HA3.out.n1 e.symm) (fun e => HA3.out.n2 e.symm)).trans HA3.out.blk
                    obtain ⟨s0, s1, s2⟩ := blk_cells3 hbk
                    have f1 := blk_frozen hbk 1
                    have f2 := blk_frozen hbk 2
                    have HFIN := Lib.hid hfin
                    clear hfin hbk growa owna ata lta growb ownb atb ltb
                    refine ⟨by kernel_rfl, ?_⟩
                    change wpList _ _ _ [_, _, _] _ _
                    go_wp2
                    refine NoPanic.normal ?_
                    go_wp2
                    go_roundw
                    case rel => exact ⟨k + 1, v0, _, _, R ++ [(ua, uc, L)], by omega, by go_num, by rw [HBE.out], HNR.out, by rw [HX1N.out, HX2N.out]; exact HFIN.out.1, HFIN.out.2⟩
                    case measure => simp [RowKit.intOf]; omega
                  · refine ⟨_, rfl, fun K hK => ?_⟩
                    have HK := Lib.hid hK
                    clear hK
                    go_simp
                    refine HK.out _ _ ⟨⟨(Two.cell (by repeat (first | refine Two.drew ?_ | refine Two.alloc ?_ _ | refine Two.grown ?_ growa (fun k hk _ => .inl hk.symm) | refine Two.grown ?_ growb (fun k hk _ => .inr hk.symm) | exact Two.refl _ _ _)) HA3.out.lt HA3.out.n1 HA3.out.n2 1).trans HS0.out.1, (Two.cell (by repeat (first | refine Two.drew ?_ | refine Two.alloc ?_ _ | refine Two.grown ?_ growa (fun k hk _ => .inl hk.symm) | refine Two.grown ?_ growb (fun k hk _ => .inr hk.symm) | exact Two.refl _ _ _)) HA3.out.lt HA3.out.n1 HA3.out.n2 2).trans HS0.out.2⟩, ?_⟩
                    clear HK K
                    try simp only [Act.put, List.setIfInBounds_toArray, List.set_cons_zero, List.set_cons_succ]
                    refine wpAnyT_one 4 (by kernel_rfl) ?_
                    refine ⟨_, rfl, fun K hK => ?_⟩
                    have HK := Lib.hid hK
                    clear hK
                    refine step_append_lies _ (by rfl) (.tmp 97) (.tmp 99) 24 (by rfl) B.heap.size 58 iR _ 1 24 Tryz.underlying24 hiR hr0 hr1 hr2 rfl (by decide) v1 k x1 (by rfl) ?o11 _ 1 1 [.slice ua p uc] (by rfl) rfl ?n11 ?c11 (by decide) ?m11 ?b11 ?s11 _ rfl ?_
                    case o11 => exact Two.own (r1 := none) (r2 := none) (by repeat (first | refine Two.drew ?_ | refine Two.alloc ?_ _ | exact Two.refl _ _ _)) (HX1L.out ▸ HA3.out.o1) (by simp) (by simp)
                    case n11 => exact CellsAt_add ((CellsAt.new wr _ _).alloc _)
                    case c11 => (intro u hu; simp only [List.mem_cons, List.not_mem_nil, or_false] at hu; subst hu; rfl)
                    case m11 => (simp only [maxLen]; omega)
                    case b11 => omega
                    case s11 => (have := hB3; simp; omega)
                    intro ga cpa wa owna growa ata lta
                    refine HK.out _ _ ⟨⟨(Two.cell (by repeat (first | refine Two.drew ?_ | refine Two.alloc ?_ _ | refine Two.grown ?_ growa (fun k hk _ => .inl hk.symm) | refine Two.grown ?_ growb (fun k hk _ => .inr hk.symm) | exact Two.refl _ _ _)) HA3.out.lt HA3.out.n1 HA3.out.n2 1).trans HS0.out.1, (Two.cell (by repeat (first | refine Two.drew ?_ | refine Two.alloc ?_ _ | refine Two.grown ?_ growa (fun k hk _ => .inl hk.symm) | refine Two.grown ?_ growb (fun k hk _ => .inr hk.symm) | exact Two.refl _ _ _)) HA3.out.lt HA3.out.n1 HA3.out.n2 2).trans HS0.out.2⟩, ?_⟩
                    clear HK K
                    try simp only [Act.put, List.setIfInBounds_toArray, List.set_cons_zero, List.set_cons_succ]
                    refine wpAnyT_take 11 (v := ?tv12) (by kernel_rfl) rfl (by kernel_rfl) (fun _ _ _ h => h) (Or.inl ⟨by rfl, ?ty12⟩) ⟨(Two.cell (by repeat (first | refine Two.drew ?_ | refine Two.alloc ?_ _ | refine Two.grown ?_ growa (fun k hk _ => .inl hk.symm) | refine Two.grown ?_ growb (fun k hk _ => .inr hk.symm) | exact Two.refl _ _ _)) HA3.out.lt HA3.out.n1 HA3.out.n2 1).trans HS0.out.1, (Two.cell (by repeat (first | refine Two.drew ?_ | refine Two.alloc ?_ _ | refine Two.grown ?_ growa (fun k hk _ => .inl hk.symm) | refine Two.grown ?_ growb (fun k hk _ => .inr hk.symm) | exact Two.refl _ _ _)) HA3.out.lt HA3.out.n1 HA3.out.n2 2).trans HS0.out.2⟩ ?tr12
                    case ty12 => (intro w' hSw; (try dsimp only at hSw); go_simp; try with_reducible rfl)
                    try simp only [Act.put, List.setIfInBounds_toArray, List.set_cons_zero, List.set_cons_succ]
                    refine wpAnyT_one 10 (by kernel_rfl) ?_
                    refine ⟨_, rfl, fun K hK => ?_⟩
                    have HK := Lib.hid hK
                    clear hK
                    refine step_append_lies _ (by rfl) (.tmp 102) (.tmp 105) 25 (by rfl) B.heap.size 4 iB _ 1 1 Tryz.underlying25 hiB hb0 hb1 hb2 rfl (by decide) v2 k x2 (by rfl) ?o13 _ 1 1 [.bool (z == 1)] (by rfl) rfl ?n13 ?c13 (by decide) ?m13 ?b13 ?s13 _ rfl ?_
                    case o13 => exact Two.own (r1 := v1.ownBlock) (r2 := none) (by repeat (first | refine Two.drew ?_ | refine Two.alloc ?_ _ | refine Two.grown ?_ growa (fun k hk _ => .inl hk.symm) | exact Two.refl _ _ _)) (HX2L.out ▸ HA3.out.o2) (fun k hk e => HA3.out.a12 k e hk) (by simp)
                    case n13 => exact CellsAt_add ((CellsAt.new1 wr _ _ _).drew.grown growa (fun e => by have := HV1.out _ e; omega))
                    case c13 => (intro u hu; simp only [List.mem_cons, List.not_mem_nil, or_false] at hu; subst hu; rfl)
                    case m13 => (simp only [maxLen]; omega)
                    case b13 => omega
                    case s13 => (have h1 := hB3; have h2 := growa.size; simp at h2 ⊢; omega)
                    intro gb cpb wb ownb growb atb ltb
                    refine HK.out _ _ ⟨⟨(Two.cell (by repeat (first | refine Two.drew ?_ | refine Two.alloc ?_ _ | refine Two.grown ?_ growa (fun k hk _ => .inl hk.symm) | refine Two.grown ?_ growb (fun k hk _ => .inr hk.symm) | exact Two.refl _ _ _)) HA3.out.lt HA3.out.n1 HA3.out.n2 1).trans HS0.out.1, (Two.cell (by repeat (first | refine Two.drew ?_ | refine Two.alloc ?_ _ | refine Two.grown ?_ growa (fun k hk _ => .inl hk.symm) | refine Two.grown ?_ growb (fun k hk _ => .inr hk.symm) | exact Two.refl _ _ _)) HA3.out.lt HA3.out.n1 HA3.out.n2 2).trans HS0.out.2⟩, ?_⟩
                    clear HK K
                    try simp only [Act.put, List.setIfInBounds_toArray, List.set_cons_zero, List.set_cons_succ]
                    have hfin := rows_done HA3.out HRK.out (r := (ua, uc, L)) HRU.out HUF.out HU1.out HU2a.out (two_rows (HX1L.out ▸ HA3.out.o1) (HX2L.out ▸ HA3.out.o2) HA3.out.a12 (by repeat (first | refine Two.drew ?_ | refine Two.alloc ?_ _ | exact Two.refl _ _ _)) growa owna (grown_at ata) (by repeat (first | refine Two.drew ?_ | refine Two.alloc ?_ _ | exact Two.refl _ _ _)) growb ownb (grown_at atb))
                    have hbk : wb.heap[w.heap.size + 2]? = _ := (Two.block (by repeat (first | refine Two.drew ?_ | refine Two.alloc ?_ _ | refine Two.grown ?_ growa (fun k hk _ => .inl hk.symm) | refine Two.grown ?_ growb (fun k hk _ => .inr hk.symm) | exact Two.refl _ _ _)) _ HA3.out.lt (fun e => HA3.out.n1 e.symm) (fun e => HA3.out.n2 e.symm)).trans HA3.out.blk
                    obtain ⟨s0, s1, s2⟩ := blk_cells3 hbk
                    have f1 := blk_frozen hbk 1
                    have f2 := blk_frozen hbk 2
                    have HFIN := Lib.hid hfin
                    clear hfin hbk growa owna ata lta growb ownb atb ltb
                    refine ⟨by kernel_rfl, ?_⟩
                    change wpList _ _ _ [_, _, _] _ _
                    go_wp2
                    refine NoPanic.normal ?_
                    go_wp2
                    go_roundw
                    case rel => exact ⟨k + 1, v0, _, _, R ++ [(ua, uc, L)], by omega, by go_num, by rw [HBE.out], HNR.out, by rw [HX1N.out, HX2N.out]; exact HFIN.out.1, HFIN.out.2⟩
                    case measure => simp [RowKit.intOf]; omega
                · refine ⟨_, rfl, fun K hK => ?_⟩
                  have HK := Lib.hid hK
                  clear hK
                  go_simp
                  refine HK.out _ _ ⟨⟨(Two.cell (by repeat (first | refine Two.drew ?_ | refine Two.alloc ?_ _ | refine Two.grown ?_ growa (fun k hk _ => .inl hk.symm) | refine Two.grown ?_ growb (fun k hk _ => .inr hk.symm) | exact Two.refl _ _ _)) HA3.out.lt HA3.out.n1 HA3.out.n2 1).trans HS0.out.1, (Two.cell (by repeat (first | refine Two.drew ?_ | refine Two.alloc ?_ _ | refine Two.grown ?_ growa (fun k hk _ => .inl hk.symm) | refine Two.grown ?_ growb (fun k hk _ => .inr hk.symm) | exact Two.refl _ _ _)) HA3.out.lt HA3.out.n1 HA3.out.n2 2).trans HS0.out.2⟩, ?_⟩
                  clear HK K
                  try simp only [Act.put, List.setIfInBounds_toArray, List.set_cons_zero, List.set_cons_succ]
                  refine wpAnyT_one 3 (by kernel_rfl) ?_
                  refine ⟨_, rfl, fun K hK => ?_⟩
                  have HK := Lib.hid hK
                  clear hK
                  go_simp
                  refine HK.out _ _ ⟨⟨(Two.cell (by repeat (first | refine Two.drew ?_ | refine Two.alloc ?_ _ | refine Two.grown ?_ growa (fun k hk _ => .inl hk.symm) | refine Two.grown ?_ growb (fun k hk _ => .inr hk.symm) | exact Two.refl _ _ _)) HA3.out.lt HA3.out.n1 HA3.out.n2 1).trans HS0.out.1, (Two.cell (by repeat (first | refine Two.drew ?_ | refine Two.alloc ?_ _ | refine Two.grown ?_ growa (fun k hk _ => .inl hk.symm) | refine Two.grown ?_ growb (fun k hk _ => .inr hk.symm) | exact Two.refl _ _ _)) HA3.out.lt HA3.out.n1 HA3.out.n2 2).trans HS0.out.2⟩, ?_⟩
                  clear HK K
                  try simp only [Act.put, List.setIfInBounds_toArray, List.set_cons_zero, List.set_cons_succ]
                  refine wpAnyT_one 4 (by kernel_rfl) ?_
                  refine ⟨_, rfl, fun K hK => ?_⟩
                  have HK := Lib.hid hK
                  clear hK
                  refine step_append_lies _ (by rfl) (.tmp 97) (.tmp 99) 24 (by rfl) B.heap.size 58 iR _ 1 24 Tryz.underlying24 hiR hr0 hr1 hr2 rfl (by decide) v1 k x1 (by rfl) ?o14 _ 1 1 [.slice ua p uc] (by rfl) rfl ?n14 ?c14 (by decide) ?m14 ?b14 ?s14 _ rfl ?_
                  case o14 => exact Two.own (r1 := none) (r2 := none) (by repeat (first | refine Two.drew ?_ | refine Two.alloc ?_ _ | exact Two.refl _ _ _)) (HX1L.out ▸ HA3.out.o1) (by simp) (by simp)
                  case n14 => exact CellsAt_add (CellsAt.new1 wr _ _ _).drew
                  case c14 => (intro u hu; simp only [List.mem_cons, List.not_mem_nil, or_false] at hu; subst hu; rfl)
                  case m14 => (simp only [maxLen]; omega)
                  case b14 => omega
                  case s14 => (have := hB3; simp; omega)
                  intro ga cpa wa owna growa ata lta
                  refine HK.out _ _ ⟨⟨(Two.cell (by repeat (first | refine Two.drew ?_ | refine Two.alloc ?_ _ | refine Two.grown ?_ growa (fun k hk _ => .inl hk.symm) | refine Two.grown ?_ growb (fun k hk _ => .inr hk.symm) | exact Two.refl _ _ _)) HA3.out.lt HA3.out.n1 HA3.out.n2 1).trans HS0.out.1, (Two.cell (by repeat (first | refine Two.drew ?_ | refine Two.alloc ?_ _ | refine Two.grown ?_ growa (fun k hk _ => .inl hk.symm) | refine Two.grown ?_ growb (fun k hk _ => .inr hk.symm) | exact Two.refl _ _ _)) HA3.out.lt HA3.out.n1 HA3.out.n2 2).trans HS0.out.2⟩, ?_⟩
                  clear HK K
                  try simp only [Act.put, List.setIfInBounds_toArray, List.set_cons_zero, List.set_cons_succ]
                  refine wpAnyT_take 11 (v := ?tv15) (by kernel_rfl) rfl (by kernel_rfl) (fun _ _ _ h => h) (Or.inl ⟨by rfl, ?ty15⟩) ⟨(Two.cell (by repeat (first | refine Two.drew ?_ | refine Two.alloc ?_ _ | refine Two.grown ?_ growa (fun k hk _ => .inl hk.symm) | refine Two.grown ?_ growb (fun k hk _ => .inr hk.symm) | exact Two.refl _ _ _)) HA3.out.lt HA3.out.n1 HA3.out.n2 1).trans HS0.out.1, (Two.cell (by repeat (first | refine Two.drew ?_ | refine Two.alloc ?_ _ | refine Two.grown ?_ growa (fun k hk _ => .inl hk.symm) | refine Two.grown ?_ growb (fun k hk _ => .inr hk.symm) | exact Two.refl _ _ _)) HA3.out.lt HA3.out.n1 HA3.out.n2 2).trans HS0.out.2⟩ ?tr15
                  case ty15 => (intro w' hSw; (try dsimp only at hSw); go_simp; try with_reducible rfl)
                  try simp only [Act.put, List.setIfInBounds_toArray, List.set_cons_zero, List.set_cons_succ]
                  refine wpAnyT_one 10 (by kernel_rfl) ?_
                  refine ⟨_, rfl, fun K hK => ?_⟩
                  have HK := Lib.hid hK
                  clear hK
                  refine step_append_lies _ (by rfl) (.tmp 102) (.tmp 105) 25 (by rfl) B.heap.size 4 iB _ 1 1 Tryz.underlying25 hiB hb0 hb1 hb2 rfl (by decide) v2 k x2 (by rfl) ?o16 _ 1 1 [.bool (z == 1)] (by rfl) rfl ?n16 ?c16 (by decide) ?m16 ?b16 ?s16 _ rfl ?_
                  case o16 => exact Two.own (r1 := v1.ownBlock) (r2 := none) (by repeat (first | refine Two.drew ?_ | refine Two.alloc ?_ _ | refine Two.grown ?_ growa (fun k hk _ => .inl hk.symm) | exact Two.refl _ _ _)) (HX2L.out ▸ HA3.out.o2) (fun k hk e => HA3.out.a12 k e hk) (by simp)
                  case n16 => exact CellsAt_add (((CellsAt.new wr _ _).alloc _).drew.grown growa (fun e => by have := HV1.out _ e; omega))
                  case c16 => (intro u hu; simp only [List.mem_cons, List.not_mem_nil, or_false] at hu; subst hu; rfl)
                  case m16 => (simp only [maxLen]; omega)
                  case b16 => omega
                  case s16 => (have h1 := hB3; have h2 := growa.size; simp at h2 ⊢; omega)
                  intro gb cpb wb ownb growb atb ltb
                  refine HK.out _ _ ⟨⟨(Two.cell (by repeat (first | refine Two.drew ?_ | refine Two.alloc ?_ _ | refine Two.grown ?_ growa (fun k hk _ => .inl hk.symm) | refine Two.grown ?_ growb (fun k hk _ => .inr hk.symm) | exact Two.refl _ _ _)) HA3.out.lt HA3.out.n1 HA3.out.n2 1).trans HS0.out.1, (Two.cell (by repeat (first | refine Two.drew ?_ | refine Two.alloc ?_ _ | refine Two.grown ?_ growa (fun k hk _ => .inl hk.symm) | refine Two.grown ?_ growb (fun k hk _ => .inr hk.symm) | exact Two.refl _ _ _)) HA3.out.lt HA3.out.n1 HA3.out.n2 2).trans HS0.out.2⟩, ?_⟩
                  clear HK K
                  try simp only [Act.put, List.setIfInBounds_toArray, List.set_cons_zero, List.set_cons_succ]
                  have hfin := rows_done HA3.out HRK.out (r := (ua, uc, L)) HRU.out HUF.out HU1.out HU2a.out (two_rows (HX1L.out ▸ HA3.out.o1) (HX2L.out ▸ HA3.out.o2) HA3.out.a12 (by repeat (first | refine Two.drew ?_ | refine Two.alloc ?_ _ | exact Two.refl _ _ _)) growa owna (grown_at ata) (by repeat (first | refine Two.drew ?_ | refine Two.alloc ?_ _ | exact Two.refl _ _ _)) growb ownb (grown_at atb))
                  have hbk : wb.heap[w.heap.size + 2]? = _ := (Two.block (by repeat (first | refine Two.drew ?_ | refine Two.alloc ?_ _ | refine Two.grown ?_ growa (fun k hk _ => .inl hk.symm) | refine Two.grown ?_ growb (fun k hk _ => .inr hk.symm) | exact Two.refl _ _ _)) _ HA3.out.lt (fun e => HA3.out.n1 e.symm) (fun e => HA3.out.n2 e.symm)).trans HA3.out.blk
                  obtain ⟨s0, s1, s2⟩ := blk_cells3 hbk
                  have f1 := blk_frozen hbk 1
                  have f2 := blk_frozen hbk 2
                  have HFIN := Lib.hid hfin
                  clear hfin hbk growa owna ata lta growb ownb atb ltb
                  refine ⟨by kernel_rfl, ?_⟩
                  change wpList _ _ _ [_, _, _] _ _
                  go_wp2
                  refine NoPanic.normal ?_
                  go_wp2
                  go_roundw
                  case rel => exact ⟨k + 1, v0, _, _, R ++ [(ua, uc, L)], by omega, by go_num, by rw [HBE.out], HNR.out, by rw [HX1N.out, HX2N.out]; exact HFIN.out.1, HFIN.out.2⟩
                  case measure => simp [RowKit.intOf]; omega
        · obtain rfl : a = k := by omega
          have hAt : A.take a = A := List.take_of_length_le (by rw [HAA.out]; exact Nat.le_refl _)
          have hKt : K.take (a * p) = K := List.take_of_length_le (by rw [HN.out, HW.out, Nat.mul_comm]; exact Nat.le_refl _)
          rw [hAt] at hA
          rw [hAt, hKt]
          obtain ⟨C, hC⟩ : ∃ C, (A.map fun x => x == 1) = C := ⟨_, rfl⟩
          obtain ⟨P, hPP⟩ : ∃ P, (F.map fun r => r % 16777216) = P := ⟨_, rfl⟩
          have hPl : P.length = p := by rw [← hPP, List.length_map]; exact HP.out
          have hCl : C.length = a := by rw [← hC, List.length_map]; exact HAA.out
          have hRl : R.length = a := by
            have := congrArg List.length hR
            rw [Plain.rowsOf_len] at this
            simpa [nums] using this
          rw [hC, ← HXP.out, hPP] at hA
          have h0 := hA.o0
          have h1 := hA.o1
          have h2 := hA.o2
          rw [show (i32s P).length = P.length from by simp [i32s]] at h0
          rw [show (R.map rowV).length = R.length from by simp] at h1
          rw [show (C.map Value.bool).length = C.length from by simp] at h2
          obtain ⟨a0, n0, rfl⟩ := own_slice h0
          obtain ⟨a1, n1, rfl⟩ := own_slice h1
          obtain ⟨a2, n2, rfl⟩ := own_slice h2
          have hO : OwnTab B.heap.size wr a0 P n0 a1 R n1 a2 C n2 := ⟨h0, h1, h2, fun r hr => (hRo r hr).1⟩
          have hR3 : ∀ r ∈ R, r.2.2.length ≤ maxLen := fun r hr => by
            have hm : r.2.2 ∈ nums R := by unfold nums; exact List.mem_map.2 ⟨r, hr, rfl⟩
            rw [hR] at hm
            unfold Plain.rowsOf at hm
            obtain ⟨q, _, hq⟩ := List.mem_map.1 hm
            rw [← hq, List.length_map, List.length_take]
            unfold maxLen; omega
          have hT := hO.tab (by rw [hPl]; unfold maxLen; omega) (by rw [hRl]; unfold maxLen; omega) (by rw [hCl]; unfold maxLen; omega) hR3
          have cT := tright_any a0 P n0 a1 R n1 a2 C n2 wr hT
          unfold tabV at cT
          rw [hR, hPl, hRl, hCl] at cT
          obtain ⟨fl, hfl⟩ : ∃ b, (bF && (K.all fun x => x % (p : Int) == 0) && A.all fun x => decide (x < 2)) = b := ⟨_, rfl⟩
          obtain ⟨tr, htr⟩ : ∃ b, Plain.tabRight P (Plain.rowsOf K p a) a = b := ⟨_, rfl⟩
          rw [htr] at cT
          rw [hfl]
          have hval : Plain.flatRight F K A = (fl && tr) := by
            unfold Plain.flatRight Plain.flatFine
            rw [HBF.out, HP.out, HAA.out, HN.out, HW.out, hPP, htr, ← hfl, show (p == 0) = false from by simp; omega]
            simp [Bool.and_assoc]
          have HLT := Lib.hid hA.lt
          obtain ⟨d0, d1, d2⟩ := hA.cell
          rw [hPl] at d0
          rw [hRl] at d1
          rw [hCl] at d2
          have hr0 := HR0.out.below hA.below
          have hblk : wr.heap[w.heap.size + 1]? = some (.cells #[.slice none 0 0, .slice none 0 0, .slice none 0 0] 27 (0, 0)) := by
            rw [hA.below.block _ (by rw [HSB.out]; omega)]; exact HRB.out
          have hBlw := HB0.out.trans (hA.below.mono (by rw [HSB.out]; omega))
          have HVAL := Lib.hid hval
          have HCT := Lib.hid cT
          have HO := Lib.hid hO
          have HBL := Lib.hid hBlw
          have HBK := Lib.hid hblk
          have HEQ := Lib.hid (And.intro hC (And.intro hPP (And.intro hPl (And.intro hCl (And.intro hRl hR)))))
          have HR3 := Lib.hid hR3
          clear hval cT hO hBlw hblk hC hPP hPl hCl hRl hR hR3 hT h0 h1 h2 hA hRo hAt hKt hfl htr hr0
          have hlt1 : w.heap.size + 1 < wr.heap.size := (Array.getElem?_eq_some_iff.1 HBK.out).1
          cases fl
          · obtain ⟨s0, s1, s2⟩ := blk_cells3 HBK.out
            have f0 := blk_frozen HBK.out 0
            have f1 := blk_frozen HBK.out 1
            have f2 := blk_frozen HBK.out 2
            go_wp2
            have hS := blk_set3 HBK.out (.slice none 0 0) (.slice none 0 0) (.slice none 0 0)
            obtain ⟨m0, m1, m2⟩ := blk_cells3 hS
            refine bodyPost_ret (v := .tuple #[.agg #[.slice none 0 0, .slice none 0 0, .slice none 0 0], .int .i64 11]) (by simp [results, Tryz.results48, go_sem, m0, m1, m2]) rfl ⟨((HBL.out.setCell (by simp) _).setCell (by simp) _).setCell (by simp) _, fun h => ?_, fun _ => rfl⟩
            rw [HVAL.out] at h; cases h
          · go_wp2_with fail
            refine HCT.out.mono ?_
            rintro e w2 ⟨rfl, hb2⟩
            have hblk2 := HBK.out
            rw [← hb2.block _ hlt1] at hblk2
            obtain ⟨s0, s1, s2⟩ := blk_cells3 hblk2
            have f0 := blk_frozen hblk2 0
            have f1 := blk_frozen hblk2 1
            have f2 := blk_frozen hblk2 2
            have e0 := (hb2.cell (p := ⟨w.heap.size + 2, 0, none⟩) HLT.out).trans d0
            have e1 := (hb2.cell (p := ⟨w.heap.size + 2, 1, none⟩) HLT.out).trans d1
            have e2 := (hb2.cell (p := ⟨w.heap.size + 2, 2, none⟩) HLT.out).trans d2
            have HB2 := Lib.hid hb2
            have HK2 := Lib.hid hblk2
            clear hb2 hblk2
            cases tr
            · go_wp2
              have hS := blk_set3 HK2.out (.slice none 0 0) (.slice none 0 0) (.slice none 0 0)
              obtain ⟨m0, m1, m2⟩ := blk_cells3 hS
              refine bodyPost_ret (v := .tuple #[.agg #[.slice none 0 0, .slice none 0 0, .slice none 0 0], .int .i64 11]) (by simp [results, Tryz.results48, go_sem, m0, m1, m2]) rfl ⟨(((HBL.out.trans (HB2.out.mono (by omega))).setCell (by simp) _).setCell (by simp) _).setCell (by simp) _, fun h => ?_, fun _ => rfl⟩
              rw [HVAL.out] at h; cases h
            · go_wp2
              have hS := blk_set3 HK2.out (.slice a0 p n0) (.slice a1 a n1) (.slice a2 a n2)
              obtain ⟨m0, m1, m2⟩ := blk_cells3 hS
              obtain ⟨hC, hPP, hPl, hCl, hRl, hR⟩ := HEQ.out
              have hF := (((HO.out.kept HB2.out).set (g := w.heap.size + 1) (by rw [HSB.out]; omega) 0 (.slice a0 p n0)).set (g := w.heap.size + 1) (by rw [HSB.out]; omega) 1 (.slice a1 a n1)).set (g := w.heap.size + 1) (by rw [HSB.out]; omega) 2 (.slice a2 a n2)
              refine bodyPost_ret (v := .tuple #[.agg #[.slice a0 p n0, .slice a1 a n1, .slice a2 a n2], .int .i64 0]) (by simp [results, Tryz.results48, go_sem, m0, m1, m2]) rfl ⟨(((HBL.out.trans (HB2.out.mono (by omega))).setCell (by simp) _).setCell (by simp) _).setCell (by simp) _, fun _ => ?_, fun h => ?_⟩
              · rw [hPP, hC]
                refine ⟨a0, n0, a1, R, n1, a2, n2, by unfold tabV; rw [hPl, hRl, hCl], by rw [hR, HP.out, HAA.out], hF.tab (by rw [hPl]; unfold maxLen; omega) (by rw [hRl]; unfold maxLen; omega) (by rw [hCl]; unfold maxLen; omega) HR3.out⟩
              · rw [HVAL.out] at h; cases h
end Go.Proofs.YtgppobaoclfgcaaGreatDoor
namespace Go.Proofs.YtgppobaoclfgcaaGreatDoor
open Go.RowKit Go.Lib
/-- what is known of numbers of cells -/
structure FlatNums (F K A : List Int) (kc : Nat) : Prop where
  hf : F.length ≤ 1048576
  hk : K.length ≤ maxLen
  ha : A.length ≤ 1048576
  hkc : K.length ≤ kc
  bF : ∀ k, k < F.length → 0 ≤ F.getD k 0 ∧ F.getD k 0 < 4294967296
  bK : ∀ k, k < K.length → 0 ≤ K.getD k 0 ∧ K.getD k 0 < 4294967296
  bA : ∀ k, k < A.length → 0 ≤ A.getD k 0 ∧ A.getD k 0 < 4294967296
theorem backtable_any (FA : Option Addr) (F : List Int) (fc : Nat) (KA : Option Addr) (K : List Int) (kc : Nat) (AA : Option Addr) (A : List Int) (ac : Nat) (w : World) (hX : FlatAt w FA F KA K AA A) (hN : FlatNums F K A kc) :
    Calls Tryz.prog 48 #[flatV FA F fc KA K kc AA A ac] w (BackRes F K A w) := by
  by_cases h : F.length = 0 ∨ K.length ≠ F.length * A.length
  · refine (backtable_short FA F fc KA K kc AA A ac w hN.hf hN.hk hN.ha h).mono ?_
    rintro e w' ⟨rfl, hb⟩
    refine ⟨hb, fun hr => ?_, fun _ => rfl⟩
    unfold Plain.flatRight at hr
    simp only [Bool.and_eq_true, Bool.not_eq_true', beq_eq_false_iff_ne, beq_iff_eq] at hr
    rcases h with h | h
    · exact absurd h hr.1.1.1
    · exact absurd hr.1.1.2 h
  · exact backtable_long FA F fc KA K kc AA A ac w hX hN.hf hN.hk hN.ha (by omega) (by omega) hN.hkc hN.bF hN.bK hN.bA
set_option maxHeartbeats 1000000 in
theorem rightflat_any (FA : Option Addr) (F : List Int) (fc : Nat) (KA : Option Addr) (K : List Int) (kc : Nat) (AA : Option Addr) (A : List Int) (ac : Nat) (w : World) (hX : FlatAt w FA F KA K AA A) (hN : FlatNums F K A kc) :
    Calls Tryz.prog 22 #[flatV FA F fc KA K kc AA A ac] w fun e w' => e = .returned (.bool (Plain.flatRight F K A)) ∧ Below w.heap.size w w' := by
  have hB0 : ∀ c t, Below w.heap.size w (w.alloc (.cells c t)) := fun c t => (Below.refl _ _).alloc (Nat.le_refl _) _
  have cB := fun (c : Array Value) (t : TypeId) => backtable_any FA F fc KA K kc AA A ac (w.alloc (.cells c t)) (hX.below (hB0 c t)) hN
  unfold flatV at cB ⊢
  have HC := Lib.hid cB
  have HB0 := Lib.hid hB0
  clear cB hB0 hX hN
  go_enter Tryz.func22, Tryz.ntmps22
  go_wp2_with fail
  refine (HC.out _ _).mono ?_
  rintro e w1 ⟨hb, hr, hw⟩
  have hb1 := (HB0.out _ _).trans (hb.mono (by simp))
  have HB := Lib.hid hb1
  clear hb hb1
  cases hv : Plain.flatRight F K A
  · obtain rfl := hw hv
    have HV := Lib.hid hv
    clear hr hw hv
    go_wp2
    go_ret
    exact ⟨ret_bool HV.out.symm, HB.out.alloc HB.out.size _⟩
  · obtain ⟨PA, pc, NA, R, nc, AA', ac', rfl, _, _⟩ := hr hv
    have HV := Lib.hid hv
    clear hr hw hv
    unfold tabV
    go_wp2
    go_ret
    exact ⟨ret_bool HV.out.symm, HB.out.alloc HB.out.size _⟩
end Go.Proofs.YtgppobaoclfgcaaGreatDoor
namespace Go
end Go
namespace Go.Proofs.YtgppobaoclfgcaaGreatDoor.Plain
open Go.Lib
end Go.Proofs.YtgppobaoclfgcaaGreatDoor.Plain
namespace Go.Proofs.YtgppobaoclfgcaaGreatDoor
open Go.RowKit Go.Lib
end Go.Proofs.YtgppobaoclfgcaaGreatDoor
namespace Go.Proofs.YtgppobaoclfgcaaGreatDoor
open Go.RowKit Go.Lib
end Go.Proofs.YtgppobaoclfgcaaGreatDoor
