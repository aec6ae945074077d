/- Code.code with Own: what the code computes, in any order of its first region. Conditions: what each lemma says. -/
import Derived.Test.YtgppobaoclfgcaaGreatDoorPgC
import Derived.Deep.QuietTactic
import Derived.Deep.RegionHeld3
import Derived.Deep.RegionWith
import Derived.Deep.DeepCutAuto
import Derived.Deep.CutBlock
import Derived.Deep.Cut
set_option linter.unusedVariables false
set_option linter.unusedSimpArgs false
namespace Go.Proofs.YtgppobaoclfgcaaGreatDoor
open Go.RowKit Go.Lib
open Plain (Rg May mayB In Norm In4 slotsOf insB bnd riB cls cnot rightB normB)
/-- nothing that was there has turned but the block fb -/
structure Kp (fb : Nat) (w w' : World) : Prop where
  os : w'.os = w.os
  tape : w'.tape = w.tape
  output : w'.output = w.output
  size : w.heap.size ≤ w'.heap.size
  block : ∀ k, k < w.heap.size → k ≠ fb → w'.heap[k]? = w.heap[k]?
theorem Kp.refl (fb : Nat) (w : World) : Kp fb w w := ⟨rfl, rfl, rfl, Nat.le_refl _, fun _ _ _ => rfl⟩
theorem Kp.trans {fb : Nat} {w w1 w2 : World} (h : Kp fb w w1) (k : Kp fb w1 w2) : Kp fb w w2 :=
  ⟨k.os.trans h.os, k.tape.trans h.tape, k.output.trans h.output, Nat.le_trans h.size k.size, fun i hi hne => (k.block i (Nat.lt_of_lt_of_le hi h.size) hne).trans (h.block i hi hne)⟩
theorem Kp.of_below {fb : Nat} {w w' : World} (h : Below w.heap.size w w') : Kp fb w w' := ⟨h.os, h.tape, h.output, h.size, fun k hk _ => h.block k hk⟩
theorem Kp.then {fb : Nat} {w w1 w2 : World} (h : Kp fb w w1) (hb : Below w1.heap.size w1 w2) : Kp fb w w2 := h.trans (.of_below hb)
theorem Kp.alloc {fb : Nat} {w w1 : World} (h : Kp fb w w1) (o : Obj) : Kp fb w (w1.alloc o) := h.then ((Below.refl _ _).alloc (Nat.le_refl _) _)
theorem Kp.drew {fb : Nat} {w w1 : World} (h : Kp fb w w1) : Kp fb w w1.drew := ⟨h.os, h.tape, h.output, h.size, h.block⟩
theorem Kp.set {fb : Nat} {w w1 : World} (h : Kp fb w w1) (j : Nat) (u : Value) : Kp fb w (w1.setCell ⟨fb, j, none⟩ u) :=
  h.trans ⟨rfl, rfl, rfl, by simp [World.setCell], fun k _ hne => heap_setCell_other w1 ⟨fb, j, none⟩ k u (fun e => hne e)⟩
theorem Kp.grown {fb : Nat} {w w1 w2 : World} {row : Option Nat} (h : Kp fb w w1) (hg : w1.grownBy w2 row) (hr : ∀ g, row = some g → w.heap.size ≤ g ∨ g = fb) : Kp fb w w2 :=
  ⟨hg.os.trans h.os, hg.tape.trans h.tape, hg.output.trans h.output, Nat.le_trans h.size hg.size, fun k hk hne => (hg.block k (Nat.lt_of_lt_of_le hk h.size) (fun e => by rcases hr k e.symm with h1 | h1 <;> omega)).trans (h.block k hk hne)⟩
theorem Kp.below {fb b : Nat} {W w w1 : World} (h : Kp fb w w1) (hb : Below b W w) (hf : b ≤ fb) (hw : b ≤ w.heap.size) : Below b W w1 :=
  ⟨h.os.trans hb.os, h.tape.trans hb.tape, h.output.trans hb.output, Nat.le_trans hb.size h.size, fun k hk => (h.block k (by omega) (by omega)).trans (hb.block k hk)⟩
theorem Kp.cell {fb : Nat} {w w1 : World} (h : Kp fb w w1) {p : Addr} (hp : p.block < w.heap.size) (hne : p.block ≠ fb) : w1.cell? p = w.cell? p := World.cell?_of_block (h.block p.block hp hne)
theorem Kp.blk {fb : Nat} {w w1 : World} {k : Nat} {c : Obj} (h : Kp fb w w1) (hk : w.heap[k]? = some c) (hne : k ≠ fb) : w1.heap[k]? = some c := (h.block k (lt_of_some hk) hne).trans hk
theorem Kp.sl {fb : Nat} {w w1 : World} {A : Option Addr} {xs : List Value} (h : Kp fb w w1) (hs : Sl w A xs) (hne : ∀ b o, A = some ⟨b, o, none⟩ → b ≠ fb) : Sl w1 A xs := fun hn => by
  obtain ⟨b, off, e, hl, hc⟩ := hs hn
  exact ⟨b, off, e, Nat.lt_of_lt_of_le hl h.size, fun i u hi => (h.cell (p := ⟨b, off + i, none⟩) hl (hne b off e)).trans (hc i u hi)⟩
theorem Kp.rs {fb : Nat} {w w1 : World} {A : Option Addr} {R : List Rg} (h : Kp fb w w1) (hs : Rs w A R) (hne : ∀ b o, A = some ⟨b, o, none⟩ → b ≠ fb) : Rs w1 A R := fun hn => by
  obtain ⟨b, off, e, hl, hc⟩ := hs hn
  exact ⟨b, off, e, Nat.lt_of_lt_of_le hl h.size, fun i r hr => ⟨(h.cell (p := ⟨b, _, none⟩) hl (hne b off e)).trans (hc i r hr).1, (h.cell (p := ⟨b, _, none⟩) hl (hne b off e)).trans (hc i r hr).2⟩⟩
theorem Kp.own {fb base n sz : Nat} {e : TypeId} {v : Value} {xs : List Value} {w w1 : World} (h : Kp fb w w1) (ho : w.ownsRow base e sz v n xs) (hne : v.ownBlock ≠ some fb) : w1.ownsRow base e sz v n xs :=
  ho.kept (row := some fb) ⟨h.os, h.tape, h.output, h.size, fun k hk hne => h.block k hk (fun e => hne (by rw [e]))⟩ (by
    rcases hv : v.ownBlock with _ | k
    · exact .inl rfl
    · exact .inr (by rw [← hv]; exact hne))
def w32 (x : Int) : Int := x % 4294967296
theorem blk_cells4 {w : World} {fb : Nat} {v0 v1 v2 v3 : Value} {t : TypeId} (h : w.heap[fb]? = some (.cells #[v0, v1, v2, v3] t (0, 0))) :
    w.cell? ⟨fb, 0, none⟩ = some v0 ∧ w.cell? ⟨fb, 1, none⟩ = some v1 ∧ w.cell? ⟨fb, 2, none⟩ = some v2 ∧ w.cell? ⟨fb, 3, none⟩ = some v3 :=
  ⟨by rw [cell_of_row _ _ _ _ _ _ h]; rfl, by rw [cell_of_row _ _ _ _ _ _ h]; rfl, by rw [cell_of_row _ _ _ _ _ _ h]; rfl, by rw [cell_of_row _ _ _ _ _ _ h]; rfl⟩
end Go.Proofs.YtgppobaoclfgcaaGreatDoor
namespace Go.Proofs.YtgppobaoclfgcaaGreatDoor
open Go.RowKit Go.Lib
end Go.Proofs.YtgppobaoclfgcaaGreatDoor
namespace Go.Proofs.YtgppobaoclfgcaaGreatDoor.Plain
def opG (n : Int) : Int := ([1, 1, 1, 2, 2, 3, 4, 5, 0] : List Int).getD (n % 9).toNat 0
def xG (m i : Nat) (n : Int) : Int := if n % 3 > 0 then (i : Int) + 1 else n / 16 % ((m : Int) + 1)
def xO (m i : Nat) (n : Int) : Int := if opG n = 0 then 0 else xG m i n
def yG (m : Nat) (n : Int) : Int := if opG n = 2 then n / 256 % ((m : Int) + 1) else 0
def aG (g n : Int) : Int := if opG n = 1 then n / 8 % 8 % 3 else if opG n = 4 then n / 8 % 8 % (2 * g + 2) else if opG n = 5 then n / 8 % 8 % 4 else 0
def instG (m i : Nat) (g n : Int) : In4 := (opG n, xO m i n, yG m n, aG g n)
def codeG (X : Nat → Int) (m : Nat) (g : Int) (k : Nat) : List In4 := (List.range k).map fun i => instG m i g (X i)
def codeL (X : Nat → Int) (m : Nat) (g : Int) : List In4 := codeG X m g m ++ [(0, 0, 0, 0)]
theorem codeG_succ (X : Nat → Int) (m : Nat) (g : Int) (k : Nat) : codeG X m g (k + 1) = codeG X m g k ++ [instG m k g (X k)] := by
  unfold codeG; rw [List.range_succ, List.map_append]; rfl
theorem codeG_len (X : Nat → Int) (m : Nat) (g : Int) (k : Nat) : (codeG X m g k).length = k := by simp [codeG]
theorem codeL_len (X : Nat → Int) (m : Nat) (g : Int) : (codeL X m g).length = m + 1 := by simp [codeL, codeG_len]
theorem opG_cases (n : Int) (hn : 0 ≤ n) : opG n = 0 ∨ opG n = 1 ∨ opG n = 2 ∨ opG n = 3 ∨ opG n = 4 ∨ opG n = 5 := by
  unfold opG
  have h1 : (n % 9).toNat < 9 := by omega
  match h : (n % 9).toNat, h1 with
  | 0, _ => simp
  | 1, _ => simp
  | 2, _ => simp
  | 3, _ => simp
  | 4, _ => simp
  | 5, _ => simp
  | 6, _ => simp
  | 7, _ => simp
  | 8, _ => simp
theorem opG_get (n : Int) (hn : 0 ≤ n) : ([.int .i64 1, .int .i64 1, .int .i64 1, .int .i64 2, .int .i64 2, .int .i64 3, .int .i64 4, .int .i64 5, .int .i64 0] : List Value)[(n % 9).toNat]? = some (.int .i64 (opG n)) := by
  unfold opG
  have h1 : (n % 9).toNat < 9 := by omega
  match h : (n % 9).toNat, h1 with
  | 0, _ => simp
  | 1, _ => simp
  | 2, _ => simp
  | 3, _ => simp
  | 4, _ => simp
  | 5, _ => simp
  | 6, _ => simp
  | 7, _ => simp
  | 8, _ => simp
end Go.Proofs.YtgppobaoclfgcaaGreatDoor.Plain
namespace Go.Proofs.YtgppobaoclfgcaaGreatDoor
open Go.RowKit Go.Lib
open Plain (Rg May mayB In Norm In4 slotsOf insB bnd riB cls cnot rightB normB)
def kA : List Rg := [(97, 97)]
def kB : List Rg := [(98, 99)]
def kAB : List Rg := [(97, 98)]
def kN : List Rg := [(0, 96), (99, 1114111)]
theorem kN_norm : Norm kN := (Plain.normB_iff _).1 (by decide)
theorem kAB_not : cnot kAB = kN := (Plain.cnot_is kN_norm fun x => by
  unfold kN kAB
  simp only [In, List.mem_cons, List.not_mem_nil, or_false, List.filter, mayB]
  constructor
  · rintro ⟨r, rfl | rfl, h1, h2⟩
    · refine ⟨by omega, by omega, ?_⟩
      rintro ⟨s, h, h3, h4⟩
      simp at h; subst h; simp at h3 h4 h1 h2; omega
    · refine ⟨by simp at h1; omega, by omega, ?_⟩
      rintro ⟨s, h, h3, h4⟩
      simp at h; subst h; simp at h3 h4 h1 h2; omega
  · rintro ⟨h1, h2, h3⟩
    by_cases h : x ≤ 96
    · exact ⟨(0, 96), .inl rfl, h1, h⟩
    · refine ⟨(99, 1114111), .inr rfl, ?_, h2⟩
      by_cases h4 : x < 99
      · exact absurd ⟨(97, 98), by simp, by simp; omega, by simp; omega⟩ h3
      · show (99 : Int) ≤ x; omega).symm
theorem drew_blk {w : World} {k : Nat} {c : Option Obj} (h : w.heap[k]? = c) : w.drew.heap[k]? = c := h
theorem alloc_blk {w : World} {o : Obj} {k : Nat} {c : Option Obj} (h : w.heap[k]? = c) (hk : k < w.heap.size) : (w.alloc o).heap[k]? = c := (Below.heap_alloc _ _ _ hk).trans h
theorem row_blk {w : World} {g k : Nat} {cs : Array Value} {c : Option Obj} (h : w.heap[k]? = c) (hk : k ≠ g) : (w.setRow g cs).heap[k]? = c := (setRow_other w g k cs hk).trans h
theorem set_blk {w : World} {b j : Nat} {u : Value} {k : Nat} {c : Option Obj} (h : w.heap[k]? = c) (hk : b ≠ k) : (w.setCell ⟨b, j, none⟩ u).heap[k]? = c := (heap_setCell_other w ⟨b, j, none⟩ k u (fun e => hk e.symm)).trans h
theorem bel_blk {w w' : World} {k : Nat} {c : Option Obj} (hb : Below w.heap.size w w') (h : w.heap[k]? = c) (hk : k < w.heap.size) : w'.heap[k]? = c := (hb.block k hk).trans h
theorem Cl.of_blk {w : World} {g : Nat} (h : w.heap[g]? = some (.cells #[.int .i32 97, .int .i32 98] 71 (0, 0))) : Cl w (some ⟨g, 0, none⟩) 1 1 kAB := by
  refine ⟨fun _ => ⟨g, 0, rfl, lt_of_some h, fun i r hr => ?_⟩, rfl, fun e => by cases e⟩
  match i, hr with
  | 0, hr =>
    simp [kAB] at hr
    subst hr
    exact ⟨by rw [cell_of_row _ _ _ _ _ _ h]; rfl, by rw [cell_of_row _ _ _ _ _ _ h]; rfl⟩
  | i + 1, hr => simp [kAB] at hr
/-- a class does not lie in a program's box -/
theorem Rs.not_box {w : World} {A : Option Addr} {R : List Rg} (h : Rs w A R) (hn : 0 < R.length) {gp : Nat} {p p' : Option Addr} {n c n' c' : Nat} {g : Int}
    (hg : w.heap[gp]? = some (.cells #[.slice p n c, .slice p' n' c', .int .i64 g] 34 (0, 0))) : ∀ b o, A = some ⟨b, o, none⟩ → b ≠ gp := by
  rintro b o rfl rfl
  obtain ⟨b2, off, e, hb, hc⟩ := h hn
  injection e with e; injection e with e1 e2; subst e1 e2
  have h1 := (hc 0 R[0] (List.getElem?_eq_getElem hn)).1
  rw [cell_of_row _ _ _ _ _ _ hg] at h1
  match o, h1 with
  | 0, h1 => simp at h1
  | 1, h1 => simp at h1
  | 2, h1 => simp at h1
  | o + 3, h1 => simp at h1
theorem Rs.row {w : World} {A : Option Addr} {R : List Rg} {gp : Nat} {cs : Array Value} (h : Rs w A R) (hne : ∀ b o, A = some ⟨b, o, none⟩ → b ≠ gp) : Rs (w.setRow gp cs) A R := fun hn => by
  obtain ⟨b, off, e, hb, hc⟩ := h hn
  exact ⟨b, off, e, by rw [show (w.setRow gp cs).heap.size = w.heap.size by simp [World.setRow]]; exact hb, fun i r hr => ⟨(cell_setRow_other w gp cs ⟨b, _, none⟩ (hne b off e)).trans (hc i r hr).1, (cell_setRow_other w gp cs ⟨b, _, none⟩ (hne b off e)).trans (hc i r hr).2⟩⟩
theorem Rs.set {w : World} {A : Option Addr} {R : List Rg} {gp j : Nat} {u : Value} (h : Rs w A R) (hne : ∀ b o, A = some ⟨b, o, none⟩ → b ≠ gp) : Rs (w.setCell ⟨gp, j, none⟩ u) A R := by
  exact (Kp.refl gp w).set j u |>.rs h hne
def CdMid (w : World) (g : Int) (y : Value) (wx : World) : Prop :=
  ∃ (gp gc ga gb : Nat) (A : Option Addr) (c : Nat), y = .pointer (some ⟨gp, 0, none⟩) ∧ wx.heap[gp]? = some (.cells #[.slice none 0 0, .slice (some ⟨gc, 0, none⟩) 3 3, .int .i64 g] 34 (0, 0)) ∧
    wx.heap[gc]? = some (.cells #[.slice (some ⟨ga, 0, none⟩) 1 1, .slice (some ⟨gb, 0, none⟩) 1 1, .slice A 2 c] 73 (0, 0)) ∧ wx.heap[ga]? = some (.cells #[.int .i32 97, .int .i32 97] 71 (0, 0)) ∧ wx.heap[gb]? = some (.cells #[.int .i32 98, .int .i32 99] 71 (0, 0)) ∧
    Rs wx A kN ∧ Below w.heap.size w wx ∧ w.heap.size ≤ gp
end Go.Proofs.YtgppobaoclfgcaaGreatDoor
namespace Go
section
variable {P : Program} {md : Region.Mode} {ops : Array Oper} {Q : Exit → Act → World → Prop} {S : World → Prop} {n : Nat}
theorem wpAnyT_all (L : List Nat) {f : Nat} {listed : Array Bool} {a : Act} {w : World} (hr : Region.ready md ops listed = L) (hL : (L.all (fun i => decide (i < n)) && !L.isEmpty) = true)
    (h : ∀ i ∈ L, tailStep P ops Q S i (wpAnyT P md ops Q S n f (listed.setIfInBounds i true)) a w) : wpAnyT P md ops Q S n (f + 1) listed a w := by
  subst hr
  simp only [Bool.and_eq_true, List.all_eq_true, decide_eq_true_eq, Bool.not_eq_true'] at hL
  refine ⟨fun e => by rw [e] at hL; simp at hL, fun j hj => ⟨hL.1 j hj, ?_⟩⟩
  obtain ⟨o, ho, hK⟩ := h j hj
  have := hK _ (fun _ _ h => h)
  unfold wpOp
  simp only [ho]
  split
  · rename_i hw; rw [if_pos hw] at this; exact .inl this
  · rename_i hw; rw [if_neg hw] at this; exact this
theorem wpAnyT_dag {f : Nat} {listed : Array Bool} {a : Act} {w : World}
    (h : ∀ (OPS : Array Oper) (QQ : Exit → Act → World → Prop) (SS : World → Prop), OPS = ops → QQ = Q → SS = S → wpAnyT P md OPS QQ SS n f listed a w) : wpAnyT P md ops Q S n f listed a w := h _ _ _ rfl rfl rfl
end
end Go
namespace Go.Proofs.YtgppobaoclfgcaaGreatDoor
open Go.RowKit Go.Lib
open Plain (Rg May mayB In Norm In4 slotsOf insB bnd riB cls cnot rightB normB)
def cdVal (b5 b7 b9 b10 b11 b12 : Bool) : Bool := (!b10 || b9) && (!b11 || (b5 && b7 && b10)) && (!b12 || b11)
def cdReady (b5 b7 b9 b10 b11 b12 b13 : Bool) : List Nat :=
  (if b5 then [] else [5]) ++ (if b7 then [] else [7]) ++ (if b9 then [] else [9]) ++ (if b9 && !b10 then [10] else []) ++ (if b5 && b7 && b10 && !b11 then [11] else []) ++ (if b11 && !b12 then [12] else []) ++ (if b13 then [] else [13]) ++ (if b5 && b7 && b9 && b10 && b11 && b12 && b13 then [14] else [])
def cdLeft (b5 b7 b9 b10 b11 b12 b13 : Bool) : Nat := (!b5).toNat + (!b7).toNat + (!b9).toNat + (!b10).toNat + (!b11).toNat + (!b12).toNat + (!b13).toNat
theorem cdv5 : ∀ b7 b9 b10 b11 b12 : Bool, cdVal false b7 b9 b10 b11 b12 = true → cdVal true b7 b9 b10 b11 b12 = true := by decide
theorem cdv7 : ∀ b5 b9 b10 b11 b12 : Bool, cdVal b5 false b9 b10 b11 b12 = true → cdVal b5 true b9 b10 b11 b12 = true := by decide
theorem cdv9 : ∀ b5 b7 b10 b11 b12 : Bool, cdVal b5 b7 false b10 b11 b12 = true → cdVal b5 b7 true b10 b11 b12 = true := by decide
theorem cdv10 : ∀ b5 b7 b11 b12 : Bool, cdVal b5 b7 true false b11 b12 = true → cdVal b5 b7 true true b11 b12 = true := by decide
theorem cdv11 : ∀ b9 b12 : Bool, cdVal true true b9 true false b12 = true → cdVal true true b9 true true b12 = true := by decide
theorem cdv12 : ∀ b5 b7 b9 b10 : Bool, cdVal b5 b7 b9 b10 true false = true → cdVal b5 b7 b9 b10 true true = true := by decide
theorem cdv13 : ∀ b5 b7 b9 b10 b11 b12 : Bool, cdVal b5 b7 b9 b10 b11 b12 = true → cdVal b5 b7 b9 b10 b11 b12 = true := by decide
theorem cd12 : ∀ b9 b12 : Bool, cdVal true true b9 true false b12 = true → b12 = false := by decide
theorem cd_all : ∀ b5 b7 b9 b10 b11 b12 b13 : Bool, cdLeft b5 b7 b9 b10 b11 b12 b13 = 0 → b5 = true ∧ b7 = true ∧ b9 = true ∧ b10 = true ∧ b11 = true ∧ b12 = true ∧ b13 = true := by
  intro b5 b7 b9 b10 b11 b12 b13
  cases b5 <;> cases b7 <;> cases b9 <;> cases b10 <;> cases b11 <;> cases b12 <;> cases b13 <;> simp [cdLeft]
structure CdF (w2 : World) (g : Int) (b5 b7 b9 b10 b11 b12 b13 : Bool) (v21 v23 v25 v26 v27 v28 v3 : Value) (W : World) : Prop where
  c5 : b5 = true → ∃ ga, v21 = .slice (some ⟨ga, 0, none⟩) 1 1 ∧ W.heap[ga]? = some (.cells #[.int .i32 97, .int .i32 97] 71 (0, 0))
  c7 : b7 = true → ∃ gb, v23 = .slice (some ⟨gb, 0, none⟩) 1 1 ∧ W.heap[gb]? = some (.cells #[.int .i32 98, .int .i32 99] 71 (0, 0))
  c9 : b9 = true → ∃ gx, v25 = .slice (some ⟨gx, 0, none⟩) 1 1 ∧ W.heap[gx]? = some (.cells #[.int .i32 97, .int .i32 98] 71 (0, 0))
  c10 : b10 = true → ∃ A c, v26 = .slice A 2 c ∧ Rs W A kN
  c11 : b11 = true → ∃ gc ga gb A c, v27 = .slice (some ⟨gc, 0, none⟩) 3 3 ∧ W.heap[gc]? = some (.cells #[.slice (some ⟨ga, 0, none⟩) 1 1, .slice (some ⟨gb, 0, none⟩) 1 1, .slice A 2 c] 73 (0, 0)) ∧ W.heap[ga]? = some (.cells #[.int .i32 97, .int .i32 97] 71 (0, 0)) ∧ W.heap[gb]? = some (.cells #[.int .i32 98, .int .i32 99] 71 (0, 0)) ∧ Rs W A kN
  c12 : b12 = true → v28 = .agg #[.slice none 0 0, v27, .int .i64 g]
  c13 : b13 = true → ∃ gp, v3 = .pointer (some ⟨gp, 0, none⟩) ∧ W.heap[gp]? = some (.cells #[.slice none 0 0, .slice none 0 0, .int .i64 0] 34 (0, 0)) ∧ w2.heap.size ≤ gp
  bel : Below w2.heap.size w2 W
theorem CdF.below {w2 : World} {g : Int} {b5 b7 b9 b10 b11 b12 b13 : Bool} {v21 v23 v25 v26 v27 v28 v3 : Value} {W W' : World} (h : CdF w2 g b5 b7 b9 b10 b11 b12 b13 v21 v23 v25 v26 v27 v28 v3 W) (hb : Below W.heap.size W W') : CdF w2 g b5 b7 b9 b10 b11 b12 b13 v21 v23 v25 v26 v27 v28 v3 W' :=
  ⟨fun e => by obtain ⟨x, h1, h2⟩ := h.c5 e; exact ⟨x, h1, blk_later h2 hb⟩, fun e => by obtain ⟨x, h1, h2⟩ := h.c7 e; exact ⟨x, h1, blk_later h2 hb⟩, fun e => by obtain ⟨x, h1, h2⟩ := h.c9 e; exact ⟨x, h1, blk_later h2 hb⟩,
   fun e => by obtain ⟨A, c, h1, h2⟩ := h.c10 e; exact ⟨A, c, h1, h2.below hb⟩,
   fun e => by obtain ⟨gc, ga, gb, A, c, h1, h2, h3, h4, h5⟩ := h.c11 e; exact ⟨gc, ga, gb, A, c, h1, blk_later h2 hb, blk_later h3 hb, blk_later h4 hb, h5.below hb⟩,
   h.c12, fun e => by obtain ⟨x, h1, h2, h3⟩ := h.c13 e; exact ⟨x, h1, blk_later h2 hb, h3⟩, below_then h.bel hb⟩
theorem info84 : (Tryz.prog.info? 77).map (fun i => (i.zero, i.size, i.bytes)) = some (some (.agg #[.int .i64 0, .int .i64 0, .int .i64 0, .int .i64 0]), 4, 32) := by kernel_rfl
theorem Rs.of_two {w : World} {g : Nat} {lo hi : Int} (h : w.heap[g]? = some (.cells #[.int .i32 lo, .int .i32 hi] 71 (0, 0))) : Rs w (some ⟨g, 0, none⟩) [(lo, hi)] :=
  fun _ => ⟨g, 0, rfl, lt_of_some h, fun i r hr => by
    match i, hr with
    | 0, hr =>
      simp at hr
      subst hr
      exact ⟨by rw [cell_of_row _ _ _ _ _ _ h]; rfl, by rw [cell_of_row _ _ _ _ _ _ h]; rfl⟩
    | i + 1, hr => simp at hr⟩
/-- the program that numbers make -/
def codeLn (L : List Int) (g : Int) : List In4 := Plain.codeL (fun k => L.getD k 0) (min L.length 14) (g % 3)
def CodeRes (L : List Int) (g : Int) (w : World) (e : Ending) (w' : World) : Prop :=
  ∃ (I : Option Addr) (c gc : Nat) (K : List Cs), e = .returned (pgV I (codeLn L g).length c (some ⟨gc, 0, none⟩) 3 3 (g % 3)) ∧ w'.ownsRow w.heap.size 77 4 (.slice I (codeLn L g).length c) (codeLn L g).length (i4s (codeLn L g)) ∧
    PgAt w' I (codeLn L g) (some ⟨gc, 0, none⟩) K ∧ K.map Cs.R = [kA, kB, kN] ∧ Below w.heap.size w w'
theorem own_SlN {w : World} {base : Nat} {e : TypeId} {size n c : Nat} {A : Option Addr} {xs : List Value} (h : w.ownsRow base e size (.slice A n c) n xs) (hl : 0 < xs.length → 0 < n) : Sl w A xs := fun hn => by
  obtain ⟨g, cap, hv, _, _, hc⟩ := own_at h (hl hn)
  injection hv with h1 h2 h3
  exact ⟨g, 0, h1, hc.1, fun i u hu => by rw [Nat.zero_add]; exact hc.2 i u hu⟩
set_option maxRecDepth 1000000 in
set_option maxHeartbeats 8000000 in
theorem code_own (PI PC LA : Option Addr) (pi pic pc pcc lc : Nat) (pg g : Int) (L : List Int) (w : World) (hg0 : 0 ≤ g) (hg1 : g < 256) (hL : Sl w LA (L.map (Value.int .u16))) (hn : L.length ≤ maxLen) (hX : ∀ k, k < L.length → 0 ≤ L.getD k 0 ∧ L.getD k 0 < 65536) :
    Calls Tryz.prog 7 #[.agg #[.slice PI pi pic, .slice PC pc pcc, .int .i64 pg, .bool true, .slice LA L.length lc, .int .u8 g]] w (CodeRes L g w) := by
  obtain ⟨n, hN⟩ : ∃ n, L.length = n := ⟨_, rfl⟩
  rw [hN] at hn hX ⊢
  unfold maxLen at hn
  have HXB := Lib.hid hX
  have HL := Lib.hid hL
  have HLN := Lib.hid hN
  clear hX hL hN
  have CN := Lib.hid (fun (W : World) A n c (h : Cl W A n c kAB) => not_cl h (by unfold kAB; decide))
  rw [kAB_not] at CN
  obtain ⟨i84, hi84, y0, y1, y2⟩ := info_parts info84
  go_enter Tryz.func7, Tryz.ntmps7
  go_upto_region 3 with fail
  obtain ⟨w2, hw2⟩ : ∃ x, ((w.alloc (.cells #[.slice PI pi pic, .slice PC pc pcc, .int .i64 pg, .bool true, .slice LA n lc, .int .u8 g] 37)).alloc (.cells #[.slice none 0 0, .slice none 0 0, .int .i64 0] 34)) = x := ⟨_, rfl⟩
  have h5 : w2.cell? ⟨w.heap.size, 5, none⟩ = some (.int .u8 g) := by rw [← hw2]; exact ((CellsAt.new w _ _).alloc _).at_ 5 _ rfl
  have hs2 : w2.heap.size = w.heap.size + 2 := by rw [← hw2]; simp
  have hlt : w.heap.size < w2.heap.size := by omega
  have hbox : CellsAt w2 w.heap.size [.slice PI pi pic, .slice PC pc pcc, .int .i64 pg, .bool true, .slice LA n lc, .int .u8 g] := by rw [← hw2]; exact (CellsAt.new w _ _).alloc _
  have hres : w2.heap[w.heap.size + 1]? = some (.cells #[.slice none 0 0, .slice none 0 0, .int .i64 0] 34 (0, 0)) := by rw [← hw2]; exact heap_alloc_new2 _ _ _ _ (by simp)
  have hbw : Below w.heap.size w w2 := by rw [← hw2]; exact below_alloc (below_alloc (Below.refl _ _) _) _
  have HBOX := Lib.hid hbox
  have HRSB := Lib.hid hres
  have HBW := Lib.hid hbw
  rw [hw2]
  have H5 := Lib.hid h5
  have HS2 := Lib.hid hs2
  have HLT := Lib.hid hlt
  clear h5 hbox hres hbw hw2
  go_cut [3] (fun y wx => CdMid w2 (g % 3) y wx)
  case first =>
    clear hs2 hlt
    have h5 := H5.out
    have HS0 := Lib.hid (show (fun w' : World => w'.cell? ⟨w.heap.size, 5, none⟩ = some (.int .u8 g)) w2.drew from h5)
    refine wp_region_noPanic ?_
    refine wp_region_T 14 (S := fun w' => w'.cell? ⟨w.heap.size, 5, none⟩ = some (.int .u8 g)) (by kernel_rfl) (by decide) ?_
    refine wpAnyT_take2 0 (v := ?tv0) (by kernel_rfl) rfl (by kernel_rfl) (fun _ _ _ h => h) (Or.inl ⟨by rfl, ?ty0⟩) HS0.out ?tr0
    case ty0 => (intro w' hSw; (try dsimp only at hSw); go_simp; try with_reducible rfl)
    try simp only [Act.put, List.setIfInBounds_toArray, List.set_cons_zero, List.set_cons_succ]
    refine wpAnyT_take2 1 (v := ?tv1) (by kernel_rfl) rfl (by kernel_rfl) (fun _ _ _ h => h) (Or.inl ⟨by rfl, ?ty1⟩) HS0.out ?tr1
    case ty1 => (intro w' hSw; (try dsimp only at hSw); go_simp; try with_reducible rfl)
    try simp only [Act.put, List.setIfInBounds_toArray, List.set_cons_zero, List.set_cons_succ]
    refine wpAnyT_take2 2 (v := ?tv2) (by kernel_rfl) rfl (by kernel_rfl) (fun _ _ _ h => h) (Or.inl ⟨by rfl, ?ty2⟩) HS0.out ?tr2
    case ty2 => (intro w' hSw; (try dsimp only at hSw); go_simp; try with_reducible rfl)
    try simp only [Act.put, List.setIfInBounds_toArray, List.set_cons_zero, List.set_cons_succ]
    refine wpAnyT_take2 3 (v := ?tv3) (by kernel_rfl) rfl (by kernel_rfl) (fun _ _ _ h => h) (Or.inl ⟨by rfl, ?ty3⟩) HS0.out ?tr3
    case ty3 => (intro w' hSw; (try dsimp only at hSw); go_simp; try with_reducible rfl)
    try simp only [Act.put, List.setIfInBounds_toArray, List.set_cons_zero, List.set_cons_succ]
    refine wpAnyT_take2 4 (v := ?tv4) (by kernel_rfl) rfl (by kernel_rfl) (fun _ _ _ h => h) (Or.inl ⟨by rfl, ?ty4⟩) HS0.out ?tr4
    case ty4 => (intro w' hSw; (try dsimp only at hSw); go_simp; try with_reducible rfl)
    try simp only [Act.put, List.setIfInBounds_toArray, List.set_cons_zero, List.set_cons_succ]
    refine wpAnyT_take2 6 (v := ?tv6) (by kernel_rfl) rfl (by kernel_rfl) (fun _ _ _ h => h) (Or.inl ⟨by rfl, ?ty6⟩) HS0.out ?tr6
    case ty6 => (intro w' hSw; (try dsimp only at hSw); go_simp; try with_reducible rfl)
    try simp only [Act.put, List.setIfInBounds_toArray, List.set_cons_zero, List.set_cons_succ]
    refine wpAnyT_take2 8 (v := ?tv8) (by kernel_rfl) rfl (by kernel_rfl) (fun _ _ _ h => h) (Or.inl ⟨by rfl, ?ty8⟩) HS0.out ?tr8
    case ty8 => (intro w' hSw; (try dsimp only at hSw); go_simp; try with_reducible rfl)
    try simp only [Act.put, List.setIfInBounds_toArray, List.set_cons_zero, List.set_cons_succ]
    generalize (Value.int IntKind.u8 (g.tmod 3)) = q18
    obtain ⟨gq, hq⟩ : ∃ x, IntKind.i64.wrap (g.tmod 3) = x := ⟨_, rfl⟩
    rw [hq]
    have hgq : gq = g % 3 := by rw [← hq, Int.tmod_eq_emod_of_nonneg hg0, IntKind.wrap_i64]; omega
    have HGQ := Lib.hid hgq
    clear hq hgq
    refine wpAnyT_dag (fun OPS QQ SS hO hQ hS => ?_)
    have hrdy : ∀ b5 b7 b9 b10 b11 b12 b13 : Bool, cdVal b5 b7 b9 b10 b11 b12 = true → Region.ready .any OPS #[true, true, true, true, true, b5, true, b7, true, b9, b10, b11, b12, b13, false] = cdReady b5 b7 b9 b10 b11 b12 b13 := by
      subst hO
      intro b5 b7 b9 b10 b11 b12 b13 hv
      cases b5 <;> cases b7 <;> cases b9 <;> cases b10 <;> cases b11 <;> cases b12 <;> first | (cases hv; done) | (cases b13 <;> kernel_rfl)
    have claim : ∀ (f : Nat) (b5 b7 b9 b10 b11 b12 b13 : Bool) (v21 v23 v25 v26 v27 v28 v3 : Value) (W : World), cdLeft b5 b7 b9 b10 b11 b12 b13 = f → cdVal b5 b7 b9 b10 b11 b12 = true → CdF w2 gq b5 b7 b9 b10 b11 b12 b13 v21 v23 v25 v26 v27 v28 v3 W →
        wpAnyT Tryz.prog .any OPS QQ SS 14 f #[true, true, true, true, true, b5, true, b7, true, b9, b10, b11, b12, b13, false] ⟨#[(.agg #[.slice PI pi pic, .slice PC pc pcc, .int .i64 pg, .bool true, .slice LA n lc, .int .u8 g]), (.pointer (some ⟨w.heap.size, 0, none⟩)), (.pointer (some ⟨w.heap.size + 1, 0, none⟩)), v3, undef, undef, undef, undef, undef, undef, undef, (.pointer (some ⟨w.heap.size, 3, none⟩)), (.bool true), (.bool false), undef, undef, (.pointer (some ⟨w.heap.size, 5, none⟩)), (.int .u8 g), q18, (.int .i64 gq), (.agg #[.int .i32 97, .int .i32 97]), v21, (.agg #[.int .i32 98, .int .i32 99]), v23, (.agg #[.int .i32 97, .int .i32 98]), v25, v26, v27, v28, undef, undef, undef, undef, undef, undef, undef, undef, undef, undef, undef, undef, undef, undef, undef, undef, undef, undef, undef, undef, undef, undef, undef, undef, undef, undef, undef, undef, undef, undef, undef, undef, undef, undef, undef, undef, undef, undef, undef, undef, undef, undef, undef, undef, undef, undef, undef, undef, undef, undef, undef, undef, undef, undef, undef, undef, undef, undef, undef, undef, undef, undef, undef, undef, undef, undef, undef, undef, undef, undef, undef, undef, undef, undef, undef, undef, undef, undef, undef, undef, undef, undef], []⟩ W := by
      intro f
      induction f with
      | zero =>
        intro b5 b7 b9 b10 b11 b12 b13 v21 v23 v25 v26 v27 v28 v3 W hl hv hF
        subst hO hQ hS
        obtain ⟨rfl, rfl, rfl, rfl, rfl, rfl, rfl⟩ : b5 = true ∧ b7 = true ∧ b9 = true ∧ b10 = true ∧ b11 = true ∧ b12 = true ∧ b13 = true := by
          exact cd_all _ _ _ _ _ _ _ hl
        obtain ⟨gc, ga, gb, A, c, rfl, hc, ha, hb, hA⟩ := hF.c11 rfl
        obtain rfl := hF.c12 rfl
        obtain ⟨gp, rfl, hp, hge⟩ := hF.c13 rfl
        have hbel := hF.bel
        obtain ⟨m0, m1, m2⟩ := blk_cells3 hp
        have f0 := blk_frozen hp 0
        have f1 := blk_frozen hp 1
        have f2 := blk_frozen hp 2
        have HP := Lib.hid hp
        have HBL := Lib.hid hbel
        have HCC := Lib.hid hc
        have HA1 := Lib.hid ha
        have HB1 := Lib.hid hb
        have HAA := Lib.hid hA
        clear hF hp hbel hc ha hb hA
        refine ⟨by kernel_rfl, ?_⟩
        change wpList _ _ _ [_] _ _
        go_wp2
        refine NoPanic.normal ?_
        go_wp2
        go_meet
        case rel =>
          have hgc : gc ≠ gp := fun e => by have h1 := HCC.out; rw [e, HP.out] at h1; cases h1
          have hga : ga ≠ gp := fun e => by have h1 := HA1.out; rw [e, HP.out] at h1; cases h1
          have hgb : gb ≠ gp := fun e => by have h1 := HB1.out; rw [e, HP.out] at h1; cases h1
          have hne := HAA.out.not_box (by unfold kN; decide) HP.out
          rw [HGQ.out]
          exact ⟨gp, gc, ga, gb, A, c, rfl, blk_set3 HP.out _ _ _, set_blk (set_blk (set_blk HCC.out hgc.symm) hgc.symm) hgc.symm, set_blk (set_blk (set_blk HA1.out hga.symm) hga.symm) hga.symm, set_blk (set_blk (set_blk HB1.out hgb.symm) hgb.symm) hgb.symm,
            ((HAA.out.set hne).set hne).set hne, ((HBL.out.setCell (p := ⟨gp, 0, none⟩) hge _).setCell (p := ⟨gp, 1, none⟩) hge _).setCell (p := ⟨gp, 2, none⟩) hge _, hge⟩
      | succ f ih =>
        intro b5 b7 b9 b10 b11 b12 b13 v21 v23 v25 v26 v27 v28 v3 W hl hv hF
        refine wpAnyT_all _ (hrdy b5 b7 b9 b10 b11 b12 b13 hv) (by cases b5 <;> cases b7 <;> cases b9 <;> cases b10 <;> cases b11 <;> cases b12 <;> first | (cases hv; done) | (cases b13 <;> first | rfl | cases hl)) (fun i hi => ?_)
        subst hO hQ hS
        simp only [cdReady, List.mem_append] at hi
        rcases hi with ((((((hi | hi) | hi) | hi) | hi) | hi) | hi) | hi
        · cases b5 <;> simp at hi
          subst hi
          refine ⟨_, (by rfl), fun K' hK' => ?_⟩
          rw [if_pos (by rfl)]
          have HK := Lib.hid hK'
          clear hK'
          have hF1 := hF.below ((Below.refl _ _).alloc (Nat.le_refl _) (.cells #[.int .i32 97, .int .i32 97] 71))
          go_simp
          have hN := (⟨fun _ => ⟨_, rfl, heap_alloc_new2 _ _ _ _ rfl⟩, hF1.c7, hF1.c9, hF1.c10, hF1.c11, hF1.c12, hF1.c13, hF1.bel⟩ : CdF w2 gq true b7 b9 b10 b11 b12 b13 (.slice (some ⟨W.heap.size, 0, none⟩) 1 1) v23 v25 v26 v27 v28 v3 _)
          refine HK.out _ _ ⟨((hN).bel.cell (p := ⟨w.heap.size, 5, none⟩) HLT.out).trans H5.out, ih true b7 b9 b10 b11 b12 b13 (.slice (some ⟨W.heap.size, 0, none⟩) 1 1) v23 v25 v26 v27 v28 v3 _ (by have := hl; simp only [cdLeft, Bool.not_true, Bool.not_false, Bool.toNat_true, Bool.toNat_false] at this ⊢; omega) (cdv5 _ _ _ _ _ hv) hN⟩
        · cases b7 <;> simp at hi
          subst hi
          refine ⟨_, (by rfl), fun K' hK' => ?_⟩
          rw [if_pos (by rfl)]
          have HK := Lib.hid hK'
          clear hK'
          have hF1 := hF.below ((Below.refl _ _).alloc (Nat.le_refl _) (.cells #[.int .i32 98, .int .i32 99] 71))
          go_simp
          have hN := (⟨hF1.c5, fun _ => ⟨_, rfl, heap_alloc_new2 _ _ _ _ rfl⟩, hF1.c9, hF1.c10, hF1.c11, hF1.c12, hF1.c13, hF1.bel⟩ : CdF w2 gq b5 true b9 b10 b11 b12 b13 v21 (.slice (some ⟨W.heap.size, 0, none⟩) 1 1) v25 v26 v27 v28 v3 _)
          refine HK.out _ _ ⟨((hN).bel.cell (p := ⟨w.heap.size, 5, none⟩) HLT.out).trans H5.out, ih b5 true b9 b10 b11 b12 b13 v21 (.slice (some ⟨W.heap.size, 0, none⟩) 1 1) v25 v26 v27 v28 v3 _ (by have := hl; simp only [cdLeft, Bool.not_true, Bool.not_false, Bool.toNat_true, Bool.toNat_false] at this ⊢; omega) (cdv7 _ _ _ _ _ hv) hN⟩
        · cases b9 <;> simp at hi
          subst hi
          refine ⟨_, (by rfl), fun K' hK' => ?_⟩
          rw [if_pos (by rfl)]
          have HK := Lib.hid hK'
          clear hK'
          have hF1 := hF.below ((Below.refl _ _).alloc (Nat.le_refl _) (.cells #[.int .i32 97, .int .i32 98] 71))
          go_simp
          have hN := (⟨hF1.c5, hF1.c7, fun _ => ⟨_, rfl, heap_alloc_new2 _ _ _ _ rfl⟩, hF1.c10, hF1.c11, hF1.c12, hF1.c13, hF1.bel⟩ : CdF w2 gq b5 b7 true b10 b11 b12 b13 v21 v23 (.slice (some ⟨W.heap.size, 0, none⟩) 1 1) v26 v27 v28 v3 _)
          refine HK.out _ _ ⟨((hN).bel.cell (p := ⟨w.heap.size, 5, none⟩) HLT.out).trans H5.out, ih b5 b7 true b10 b11 b12 b13 v21 v23 (.slice (some ⟨W.heap.size, 0, none⟩) 1 1) v26 v27 v28 v3 _ (by have := hl; simp only [cdLeft, Bool.not_true, Bool.not_false, Bool.toNat_true, Bool.toNat_false] at this ⊢; omega) (cdv9 _ _ _ _ _ hv) hN⟩
        · cases b9 <;> cases b10 <;> simp at hi
          subst hi
          obtain ⟨gx, rfl, hx⟩ := hF.c9 rfl
          refine ⟨_, (by rfl), fun K' hK' => ?_⟩
          rw [if_pos (by rfl)]
          have HK := Lib.hid hK'
          clear hK'
          go_wp2_with (go_at_call 20; (with_reducible refine (CN.out _ _ _ _ (Cl.of_blk hx)).mono ?_); rintro e w9 ⟨A9, n9, c9, rfl, h9, hb9⟩)
          have hF1 := hF.below hb9
          obtain rfl : kN.length = n9 := h9.2.1
          have hN := (⟨hF1.c5, hF1.c7, hF1.c9, fun _ => ⟨_, _, rfl, h9.1⟩, hF1.c11, hF1.c12, hF1.c13, hF1.bel⟩ : CdF w2 gq b5 b7 true true b11 b12 b13 v21 v23 (.slice (some ⟨gx, 0, none⟩) 1 1) (.slice A9 kN.length c9) v27 v28 v3 _)
          refine HK.out _ _ ⟨((hN).bel.cell (p := ⟨w.heap.size, 5, none⟩) HLT.out).trans H5.out, ih b5 b7 true true b11 b12 b13 v21 v23 _ (.slice A9 kN.length c9) v27 v28 v3 _ (by have := hl; simp only [cdLeft, Bool.not_true, Bool.not_false, Bool.toNat_true, Bool.toNat_false] at this ⊢; omega) (cdv10 _ _ _ _ hv) hN⟩
        · cases b5 <;> cases b7 <;> cases b10 <;> cases b11 <;> simp at hi
          subst hi
          obtain ⟨ga, rfl, ha⟩ := hF.c5 rfl
          obtain ⟨gb, rfl, hb⟩ := hF.c7 rfl
          obtain ⟨A, c, rfl, hA⟩ := hF.c10 rfl
          refine ⟨_, (by rfl), fun K' hK' => ?_⟩
          rw [if_pos (by rfl)]
          have HK := Lib.hid hK'
          clear hK'
          have hBa := (Below.refl W.heap.size W).alloc (Nat.le_refl _) (.cells #[.slice (some ⟨ga, 0, none⟩) 1 1, .slice (some ⟨gb, 0, none⟩) 1 1, .slice A 2 c] 73)
          have hF1 := hF.below hBa
          go_simp
          have hN := (⟨hF1.c5, hF1.c7, hF1.c9, hF1.c10, fun _ => ⟨_, _, _, _, _, rfl, heap_alloc_new2 _ _ _ _ rfl, blk_later ha hBa, blk_later hb hBa, hA.below hBa⟩, (fun e => by rw [cd12 _ _ hv] at e; cases e), hF1.c13, hF1.bel⟩ : CdF w2 gq true true b9 true true b12 b13 (.slice (some ⟨ga, 0, none⟩) 1 1) (.slice (some ⟨gb, 0, none⟩) 1 1) v25 (.slice A 2 c) (.slice (some ⟨W.heap.size, 0, none⟩) 3 3) v28 v3 _)
          refine HK.out _ _ ⟨((hN).bel.cell (p := ⟨w.heap.size, 5, none⟩) HLT.out).trans H5.out, ih true true b9 true true b12 b13 _ _ v25 _ (.slice (some ⟨W.heap.size, 0, none⟩) 3 3) v28 v3 _ (by have := hl; simp only [cdLeft, Bool.not_true, Bool.not_false, Bool.toNat_true, Bool.toNat_false] at this ⊢; omega) (cdv11 _ _ hv) hN⟩
        · cases b11 <;> cases b12 <;> simp at hi
          subst hi
          obtain ⟨gc, ga, gb, A, c, rfl, _⟩ := hF.c11 rfl
          refine ⟨_, (by rfl), fun K' hK' => ?_⟩
          rw [if_pos (by rfl)]
          have HK := Lib.hid hK'
          clear hK'
          have hF1 := hF
          go_wp2_with fail
          have hN := (⟨hF1.c5, hF1.c7, hF1.c9, hF1.c10, hF1.c11, fun _ => rfl, hF1.c13, hF1.bel⟩ : CdF w2 gq b5 b7 b9 b10 true true b13 v21 v23 v25 v26 (.slice (some ⟨gc, 0, none⟩) 3 3) (.agg #[.slice none 0 0, .slice (some ⟨gc, 0, none⟩) 3 3, .int .i64 gq]) v3 W)
          refine HK.out _ _ ⟨((hN).bel.cell (p := ⟨w.heap.size, 5, none⟩) HLT.out).trans H5.out, ih b5 b7 b9 b10 true true b13 v21 v23 v25 v26 (.slice (some ⟨gc, 0, none⟩) 3 3) (.agg #[.slice none 0 0, .slice (some ⟨gc, 0, none⟩) 3 3, .int .i64 gq]) v3 _ (by have := hl; simp only [cdLeft, Bool.not_true, Bool.not_false, Bool.toNat_true, Bool.toNat_false] at this ⊢; omega) (cdv12 _ _ _ _ hv) hN⟩
        · cases b13 <;> simp at hi
          subst hi
          refine ⟨_, (by rfl), fun K' hK' => ?_⟩
          rw [if_pos (by rfl)]
          have HK := Lib.hid hK'
          clear hK'
          have hF1 := hF.below ((Below.refl _ _).alloc (Nat.le_refl _) (.cells #[.slice none 0 0, .slice none 0 0, .int .i64 0] 34))
          go_simp
          have hN := (⟨hF1.c5, hF1.c7, hF1.c9, hF1.c10, hF1.c11, hF1.c12, fun _ => ⟨_, rfl, heap_alloc_new2 _ _ _ _ rfl, hF.bel.size⟩, hF1.bel⟩ : CdF w2 gq b5 b7 b9 b10 b11 b12 true v21 v23 v25 v26 v27 v28 (.pointer (some ⟨W.heap.size, 0, none⟩)) _)
          refine HK.out _ _ ⟨((hN).bel.cell (p := ⟨w.heap.size, 5, none⟩) HLT.out).trans H5.out, ih b5 b7 b9 b10 b11 b12 true v21 v23 v25 v26 v27 v28 (.pointer (some ⟨W.heap.size, 0, none⟩)) _ (by have := hl; simp only [cdLeft, Bool.not_true, Bool.not_false, Bool.toNat_true, Bool.toNat_false] at this ⊢; omega) (cdv13 _ _ _ _ _ _ hv) hN⟩
        · exfalso
          cases b5 <;> cases b7 <;> cases b9 <;> cases b10 <;> cases b11 <;> cases b12 <;> cases b13 <;> simp at hi <;> cases hl
    refine claim 7 false false false false false false false undef undef undef undef undef undef undef _ rfl rfl ⟨(fun e => by cases e), (fun e => by cases e), (fun e => by cases e), (fun e => by cases e), (fun e => by cases e), (fun e => by cases e), (fun e => by cases e), Below.drew (Below.refl _ _)⟩
  case rest =>
    obtain ⟨gp, gc, ga, gb, A, cA, rfl, hP, hC, hA1, hB1, hAA, hBL, hge⟩ := hcut
    have q4 := (HBOX.out.below hBL).at_ 4 _ rfl
    have HP := Lib.hid hP
    have HC := Lib.hid hC
    have HA1 := Lib.hid hA1
    have HB1 := Lib.hid hB1
    have HAA := Lib.hid hAA
    have HBL := Lib.hid hBL
    have HGE := Lib.hid hge
    clear hP hC hA1 hB1 hAA hBL hge hs2 hlt
    go_upto_region 4 with fail
    go_cut [4] (fun y wx => wx = wc ∧ y = .int .i64 ((min n 14 : Nat) : Int))
    case first =>
      go_wp2
      all_goals
        go_meet
        case rel => exact ⟨rfl, by congr 1; omega⟩
    case rest =>
      obtain ⟨rfl, rfl⟩ := hcut
      obtain ⟨wx, rfl⟩ : ∃ v, v = wc := ⟨_, rfl⟩
      obtain ⟨m, hm⟩ : ∃ m, min n 14 = m := ⟨_, rfl⟩
      obtain ⟨gq, hgq⟩ : ∃ gq, g % 3 = gq := ⟨_, rfl⟩
      obtain ⟨X, hX⟩ : ∃ X : Nat → Int, (fun k => L.getD k 0) = X := ⟨_, rfl⟩
      have hgq0 : 0 ≤ gq ∧ gq ≤ 2 := by omega
      have hm14 : m ≤ 14 := by omega
      have HM := Lib.hid hm
      have HGQ := Lib.hid hgq
      have HXD := Lib.hid hX
      rw [hm]
      rw [hgq] at HP
      have HQ4 := Lib.hid q4
      clear hm hgq hX q4
      go_wp2
      go_loopw [5] (fun i wr => ∃ (k : Nat) (v0 : Value), k ≤ m ∧ i = .int .i64 k ∧ wr.heap[gp]? = some (.cells #[v0, .slice (some ⟨gc, 0, none⟩) 3 3, .int .i64 gq] 34 (0, 0)) ∧ wr.ownsRow wx.heap.size 77 4 v0 k (i4s (Plain.codeG X m gq k)) ∧ Kp gp wx wr) (fun i _ => m - (RowKit.intOf i).toNat)
      case atStart =>
        exact ⟨0, _, Nat.zero_le _, rfl, HP.out, ⟨rfl, .inl ⟨rfl, rfl⟩⟩, Kp.refl _ _⟩
      case round =>
        obtain ⟨k, v0, hk, rfl, hP, hO, hK⟩ := hrel
        obtain ⟨ua, uc, rfl⟩ := own_slice hO
        have HPr := Lib.hid hP
        have HOr := Lib.hid hO
        have HKr := Lib.hid hK
        clear hP hO hK
        by_cases hlt : k < m
        · have hkn : k < n := by have := HM.out; omega
          have hk1 : k < L.length := by rw [HLN.out]; exact hkn
          obtain ⟨bL, oL, rfl, hbL, hcL⟩ := HL.out (by rw [List.length_map]; omega)
          obtain ⟨x, hx⟩ : ∃ x, X k = x := ⟨_, rfl⟩
          have hxb := HXB.out k hkn
          have hx2 : L.getD k 0 = x := by rw [← hx, ← HXD.out]
          rw [hx2] at hxb
          obtain ⟨hx0, hx1⟩ := hxb
          have hbgp : bL ≠ gp := by have := HGE.out; have := HS2.out; omega
          have hsz : w.heap.size ≤ wx.heap.size := Nat.le_trans (by have := HS2.out; omega) HBL.out.size
          have hcx : wr.cell? ⟨bL, oL + k, none⟩ = some (.int .u16 x) := by
            rw [HKr.out.cell (p := ⟨bL, oL + k, none⟩) (Nat.lt_of_lt_of_le hbL hsz) hbgp, HBL.out.cell (p := ⟨bL, oL + k, none⟩) (by have := HS2.out; simp; omega), HBW.out.cell (p := ⟨bL, oL + k, none⟩) hbL]
            exact hcL k _ (by rw [List.getElem?_map, List.getElem?_eq_getElem hk1]; simp [← hx2, List.getD_eq_getElem?_getD, List.getElem?_eq_getElem hk1])
          have hq4 : wr.cell? ⟨w.heap.size, 4, none⟩ = some (.slice (some ⟨bL, oL, none⟩) n lc) := (HKr.out.cell (p := ⟨w.heap.size, 4, none⟩) (Nat.lt_of_lt_of_le HBOX.out.1 HBL.out.size) (by have := HGE.out; have := HS2.out; simp; omega)).trans HQ4.out
          have hop : (wr.alloc (.cells #[.int .i64 1, .int .i64 1, .int .i64 1, .int .i64 2, .int .i64 2, .int .i64 3, .int .i64 4, .int .i64 5, .int .i64 0] 3)).cell? ⟨wr.heap.size, (x % 9).toNat, none⟩ = some (.int .i64 (Plain.opG x)) := (CellsAt.new wr _ _).2 _ _ (Plain.opG_get x hx0)
          have g0 : (0 : Int) ≤ (k : Int) := by omega
          have g1 : (k : Int) < (n : Int) := by omega
          have g2 : (k : Int) < (m : Int) := by omega
          have HX := Lib.hid hx
          clear hx hx2 hcL
          go_upto_region 12 with fail
          obtain ⟨o, ho⟩ : ∃ o, Plain.opG x = o := ⟨_, rfl⟩
          obtain ⟨xA, hxA⟩ : ∃ a, x / 16 % ((m : Int) + 1) = a := ⟨_, rfl⟩
          obtain ⟨yA, hyA⟩ : ∃ a, x / 256 % ((m : Int) + 1) = a := ⟨_, rfl⟩
          obtain ⟨kA, hkA⟩ : ∃ a, x / 8 % 8 = a := ⟨_, rfl⟩
          have hk0 : 0 ≤ kA ∧ kA < 8 := by omega
          rw [ho] at hop
          rw [hxA, hyA, hkA]
          have HO := Lib.hid ho
          have HXA := Lib.hid hxA
          have HYA := Lib.hid hyA
          have HKA := Lib.hid hkA
          clear ho hxA hyA hkA
          go_upto_if 66 with fail
          clear hop hcx hq4
          have HB0 := Lib.hid (below_alloc (below_alloc (Below.refl wr.heap.size wr) (.cells #[.int .i64 1, .int .i64 1, .int .i64 1, .int .i64 2, .int .i64 2, .int .i64 3, .int .i64 4, .int .i64 5, .int .i64 0] 3)) (.cells #[.int .i64 o, .int .i64 xA, .int .i64 0, .int .i64 0] 77))
          have hT : ((wr.alloc (.cells #[.int .i64 1, .int .i64 1, .int .i64 1, .int .i64 2, .int .i64 2, .int .i64 3, .int .i64 4, .int .i64 5, .int .i64 0] 3)).alloc (.cells #[.int .i64 o, .int .i64 xA, .int .i64 0, .int .i64 0] 77)).heap[wr.heap.size + 1]? = some (.cells #[.int .i64 o, .int .i64 xA, .int .i64 0, .int .i64 0] 77 (0, 0)) := heap_alloc_new2 _ _ _ _ (by simp)
          go_cut [] (fun wy => Below wr.heap.size wr wy ∧ wy.heap[wr.heap.size + 1]? = some (.cells #[.int .i64 o, .int .i64 (if x % 3 > 0 then (k : Int) + 1 else xA), .int .i64 0, .int .i64 0] 77 (0, 0)))
          case first =>
            have HT := Lib.hid hT
            clear hT
            by_cases h3 : x % 3 > 0
            · have f1 := blk_frozen HT.out 1
              go_wp2
              go_meet
              case rel => rw [if_pos h3]; exact ⟨below_alloc (below_alloc (Below.refl _ _) _) _, heap_alloc_new2 _ _ _ _ (by simp)⟩
            · go_wp2
              go_meet
              case rel => rw [if_neg (by omega)]; exact ⟨below_alloc (below_alloc (Below.refl _ _) _) _, heap_alloc_new2 _ _ _ _ (by simp)⟩
          case rest =>
            obtain ⟨wy, rfl⟩ : ∃ v, v = wc := ⟨_, rfl⟩
            obtain ⟨hbw, hT⟩ := hcut
            obtain ⟨xB, hxB⟩ : ∃ a, (if x % 3 > 0 then (k : Int) + 1 else xA) = a := ⟨_, rfl⟩
            rw [hxB] at hT
            have HXB := Lib.hid hxB
            have HBW := Lib.hid hbw
            have HT := Lib.hid hT
            clear hbw hT hxB
            have hPy := (HBW.out.block gp (lt_of_some HPr.out)).trans HPr.out
            obtain ⟨r0, r1, r2⟩ := blk_cells3 hPy
            have HPy := Lib.hid hPy
            have ho6 := Plain.opG_cases x hx0
            rw [HO.out] at ho6
            obtain ⟨t0, t1, t2, t3⟩ := blk_cells4 HT.out
            have f1 := blk_frozen HT.out 1
            have f2 := blk_frozen HT.out 2
            have f3 := blk_frozen HT.out 3
            have HT4 := Lib.hid (fun j u => heap_setCell_same wy (wr.heap.size + 1) j _ _ u HT.out)
            have HBS := Lib.hid (fun j u => HBW.out.setCell (p := ⟨wr.heap.size + 1, j, none⟩) (by simp) u)
            clear hPy
            go_upto_block 2 with fail
            clear r0 r1
            go_cut [] (fun wz => Below wr.heap.size wr wz ∧ wz.heap[wr.heap.size + 1]? = some (.cells #[.int .i64 o, .int .i64 (if o = 0 then 0 else xB), .int .i64 (if o = 2 then yA else 0), .int .i64 (if o = 1 then kA % 3 else if o = 4 then kA % (2 * gq + 2) else if o = 5 then kA % 4 else 0)] 77 (0, 0)))
            case first =>
              rcases ho6 with rfl | rfl | rfl | rfl | rfl | rfl
              · go_wp2
                go_meet
                case rel => exact ⟨HBS.out _ _, HT4.out 1 _⟩
              · go_wp2
                go_meet
                case rel => exact ⟨HBS.out _ _, HT4.out 3 _⟩
              · go_wp2
                go_meet
                case rel => exact ⟨HBS.out _ _, HT4.out 2 _⟩
              · go_wp2
                go_meet
                case rel => exact ⟨HBW.out, HT.out⟩
              · go_wp2
                go_meet
                case rel => exact ⟨HBS.out _ _, HT4.out 3 _⟩
              · go_wp2
                go_meet
                case rel => exact ⟨HBS.out _ _, HT4.out 3 _⟩
            case rest =>
              obtain ⟨wz, rfl⟩ : ∃ v, v = wc := ⟨_, rfl⟩
              obtain ⟨hbz, hTz⟩ := hcut
              have hin : (if o = 0 then 0 else xB) = Plain.xO m k x ∧ (if o = 2 then yA else 0) = Plain.yG m x ∧ (if o = 1 then kA % 3 else if o = 4 then kA % (2 * gq + 2) else if o = 5 then kA % 4 else 0) = Plain.aG gq x := by
                rw [← HXB.out, ← HXA.out, ← HYA.out, ← HKA.out, ← HO.out]
                exact ⟨rfl, rfl, rfl⟩
              rw [hin.1, hin.2.1, hin.2.2, ← HO.out] at hTz
              obtain ⟨i1, hi1⟩ : ∃ a, Plain.opG x = a := ⟨_, rfl⟩
              obtain ⟨i2, hi2⟩ : ∃ a, Plain.xO m k x = a := ⟨_, rfl⟩
              obtain ⟨i3, hi3⟩ : ∃ a, Plain.yG m x = a := ⟨_, rfl⟩
              obtain ⟨i4, hi4⟩ : ∃ a, Plain.aG gq x = a := ⟨_, rfl⟩
              rw [hi1, hi2, hi3, hi4] at hTz
              have HIN := Lib.hid (show Plain.instG m k gq x = (i1, i2, i3, i4) by unfold Plain.instG; rw [hi1, hi2, hi3, hi4])
              have hPz := (hbz.block gp (lt_of_some HPr.out)).trans HPr.out
              have HOz := Lib.hid (own_below HOr.out hbz)
              have HKz := Lib.hid (HKr.out.then hbz)
              obtain ⟨r0, r1, r2⟩ := blk_cells3 hPz
              have fr0 := blk_frozen hPz 0
              have HPz := Lib.hid hPz
              obtain ⟨s0, s1, s2, s3⟩ := blk_cells4 hTz
              have hgw : gp < wz.heap.size := lt_of_some hPz
              clear hin hi1 hi2 hi3 hi4 hbz hPz hTz t0 t1 t2 t3 f1 f2 f3 ho6
              go_wp2_with (at_builtin; refine wpList_append_own2 _ rfl (.tmp 99) (.tmp 101) _ rfl wx.heap.size 77 i84 _ 4 32 Tryz.underlying31 hi84 y0 y1 y2 rfl (by decide) (.slice ua k uc) k (i4s (Plain.codeG X m gq k)) rfl (HOz.out.alloc _) ⟨wz.heap.size, 0, none⟩ 1 1 [.int .i64 i1, .int .i64 i2, .int .i64 i3, .int .i64 i4] rfl rfl (CellsAt_add (CellsAt.new wz _ _)) ?c2 ?c3 ?c4 ?c5 ?_)
              case c2 => (intro u hu; simp only [List.mem_cons, List.not_mem_nil, or_false] at hu; rcases hu with rfl | rfl | rfl | rfl <;> rfl)
              case c3 => simp only [maxLen]; omega
              case c4 => omega
              case c5 => have := HKz.out.size; simp; omega
              intro v3 w7 hown2 hg2 hvb
              obtain ⟨wa, wc3, rfl⟩ := own_slice hown2
              have hgx : ∀ g', (Value.slice ua k uc).ownBlock = some g' → wx.heap.size ≤ g' := fun g' hg' => (HOz.out.lt g' hg').1
              have hK7 : Kp gp wx w7 := (HKz.out.alloc _).grown hg2 (fun g' hg' => .inl (hgx g' hg'))
              have hgpx : gp < wx.heap.size := lt_of_some HP.out
              have hP7 := blk_grown HPz.out hg2 (fun e => by have := hgx gp e; omega)
              have hOw : ∀ u, (w7.setCell ⟨gp, 0, none⟩ u).ownsRow wx.heap.size 77 4 (.slice wa (k + 1) wc3) (k + 1) (i4s (Plain.codeG X m gq (k + 1))) := fun u => by
                refine own_far ?_ hgpx u
                rw [Plain.codeG_succ, i4s_append, HX.out, HIN.out]
                exact hown2
              have HK7 := Lib.hid hK7
              have HO7 := Lib.hid hOw
              obtain ⟨z0, z1, z2⟩ := blk_cells3 hP7
              have fz0 := blk_frozen hP7 0
              have HP7 := Lib.hid hP7
              clear hgx hK7 hOw hP7 hown2 hg2 hvb
              go_wp2
              go_roundw
              case rel => exact ⟨k + 1, _, by omega, by go_num, heap_setCell_same w7 gp 0 _ _ _ HP7.out, HO7.out _, HK7.out.set 0 _⟩
              case measure => simp [RowKit.intOf]; omega
        · obtain rfl : m = k := by omega
          obtain ⟨r0, r1, r2⟩ := blk_cells3 HPr.out
          have fr0 := blk_frozen HPr.out 0
          have hgw : gp < wr.heap.size := lt_of_some HPr.out
          go_wp2_with (at_builtin; refine wpList_append_own2 _ rfl (.tmp 105) (.tmp 107) _ rfl wx.heap.size 77 i84 _ 4 32 Tryz.underlying31 hi84 y0 y1 y2 rfl (by decide) (.slice ua m uc) m (i4s (Plain.codeG X m gq m)) rfl (HOr.out.alloc _) ⟨wr.heap.size, 0, none⟩ 1 1 [.int .i64 0, .int .i64 0, .int .i64 0, .int .i64 0] rfl rfl (CellsAt_add (CellsAt.new wr _ _)) ?d2 ?d3 ?d4 ?d5 ?_)
          case d2 => (intro u hu; simp only [List.mem_cons, List.not_mem_nil, or_false] at hu; rcases hu with rfl | rfl | rfl | rfl <;> rfl)
          case d3 => simp only [maxLen]; omega
          case d4 => omega
          case d5 => have := HKr.out.size; simp; omega
          intro v3 w7 hown2 hg2 hvb
          obtain ⟨wa, wc3, rfl⟩ := own_slice hown2
          have hgx : ∀ g', (Value.slice ua m uc).ownBlock = some g' → wx.heap.size ≤ g' := fun g' hg' => (HOr.out.lt g' hg').1
          have hK7 : Kp gp wx w7 := (HKr.out.alloc _).grown hg2 (fun g' hg' => .inl (hgx g' hg'))
          have hgpx : gp < wx.heap.size := lt_of_some HP.out
          have hP7 := blk_grown HPr.out hg2 (fun e => by have := hgx gp e; omega)
          have hR7 := hK7.blk ((HBL.out.block (w.heap.size + 1) (by have := HS2.out; omega)).trans HRSB.out) (by have := HGE.out; have := HS2.out; omega)
          have HK7 := Lib.hid hK7
          have HO7 := Lib.hid hown2
          obtain ⟨z0, z1, z2⟩ := blk_cells3 hP7
          have fz0 := blk_frozen hP7 0
          obtain ⟨v0, v1, v2⟩ := blk_cells3 hR7
          have fv0 := blk_frozen hR7 0
          have fv1 := blk_frozen hR7 1
          have fv2 := blk_frozen hR7 2
          have HP7 := Lib.hid hP7
          have HR7 := Lib.hid hR7
          have hge2 := HGE.out
          have hs2' := HS2.out
          have hne1 : ¬ (gp = w.heap.size + 1) := by omega
          have hne2 : ¬ (w.heap.size + 1 = gp) := by omega
          have hlr := lt_of_some hR7
          clear hgx hK7 hP7 hown2 hg2 hvb hR7 r0 r1 r2 fr0 hge2 hs2'
          have HNE2 := Lib.hid hne2
          go_wp2
          have hP8 := heap_setCell_same w7 gp 0 _ _ (Value.slice wa (m + 1) wc3) HP7.out
          have hK8 := HK7.out.set 0 (.slice wa (m + 1) wc3)
          have hR8 : (w7.setCell ⟨gp, 0, none⟩ (.slice wa (m + 1) wc3)).heap[w.heap.size + 1]? = some (.cells #[.slice none 0 0, .slice none 0 0, .int .i64 0] 34 (0, 0)) := set_blk HR7.out (fun e => HNE2.out e.symm)
          have hrx : wx.heap[w.heap.size + 1]? = some (.cells #[.slice none 0 0, .slice none 0 0, .int .i64 0] 34 (0, 0)) := (HBL.out.block (w.heap.size + 1) (by have := HS2.out; omega)).trans HRSB.out
          have hgc : gc ≠ gp := fun e => by have h1 := HC.out; rw [e, HP.out] at h1; cases h1
          have hga : ga ≠ gp := fun e => by have h1 := HA1.out; rw [e, HP.out] at h1; cases h1
          have hgb : gb ≠ gp := fun e => by have h1 := HB1.out; rw [e, HP.out] at h1; cases h1
          have hgc2 : gc ≠ w.heap.size + 1 := fun e => by have h1 := HC.out; rw [e, hrx] at h1; cases h1
          have hga2 : ga ≠ w.heap.size + 1 := fun e => by have h1 := HA1.out; rw [e, hrx] at h1; cases h1
          have hgb2 : gb ≠ w.heap.size + 1 := fun e => by have h1 := HB1.out; rw [e, hrx] at h1; cases h1
          have hnA := HAA.out.not_box (by unfold kN; decide) HP.out
          have hnA2 := HAA.out.not_box (by unfold kN; decide) hrx
          have hK9 := (((Kp.refl (w.heap.size + 1) (w7.setCell ⟨gp, 0, none⟩ (.slice wa (m + 1) wc3))).set 0 (.slice wa (m + 1) wc3)).set 1 (.slice (some ⟨gc, 0, none⟩) 3 3)).set 2 (.int .i64 gq)
          have hF := blk_set3 hR8 (.slice wa (m + 1) wc3) (.slice (some ⟨gc, 0, none⟩) 3 3) (.int .i64 gq)
          obtain ⟨m0, m1, m2⟩ := blk_cells3 hF
          have hbx : Below w.heap.size w wx := HBW.out.trans (HBL.out.mono (by have := HS2.out; omega))
          have hb8 : Below w.heap.size w (w7.setCell ⟨gp, 0, none⟩ (.slice wa (m + 1) wc3)) := hK8.below hbx (by have := HGE.out; have := HS2.out; omega) hbx.size
          have hb9 := hK9.below hb8 (by omega) hb8.size
          have hgpx : gp < wx.heap.size := lt_of_some HP.out
          have hrpx : w.heap.size + 1 < wx.heap.size := lt_of_some hrx
          have hlen : (Plain.codeL X m gq).length = m + 1 := Plain.codeL_len X m gq
          have ho9 := own_far (own_far (own_far (own_far HO7.out hgpx (j := 0) (.slice wa (m + 1) wc3)) hrpx (j := 0) (.slice wa (m + 1) wc3)) hrpx (j := 1) (.slice (some ⟨gc, 0, none⟩) 3 3)) hrpx (j := 2) (.int .i64 gq)
          rw [show i4s (Plain.codeG X m gq m) ++ [.int .i64 0, .int .i64 0, .int .i64 0, .int .i64 0] = i4s (Plain.codeL X m gq) by unfold Plain.codeL; rw [i4s_append]; rfl] at ho9
          have hc9 := hK9.blk (hK8.blk HC.out hgc) hgc2
          have ha9 := hK9.blk (hK8.blk HA1.out hga) hga2
          have hb1 := hK9.blk (hK8.blk HB1.out hgb) hgb2
          have hr9 := hK9.rs (hK8.rs HAA.out hnA) hnA2
          have hfin : codeLn L g = Plain.codeL X m gq := by unfold codeLn; rw [← HXD.out, ← HGQ.out, HLN.out, HM.out]
          refine bodyPost_ret (v := .agg #[.slice wa (m + 1) wc3, .slice (some ⟨gc, 0, none⟩) 3 3, .int .i64 gq]) (by simp [results, Tryz.results7, go_sem, m0, m1, m2]) rfl ⟨wa, wc3, gc, [⟨some ⟨ga, 0, none⟩, 1, kA⟩, ⟨some ⟨gb, 0, none⟩, 1, kB⟩, ⟨A, cA, kN⟩], ?_, ?_, ?_, rfl, hb9⟩
          · rw [hfin, hlen, HGQ.out]; rfl
          · rw [hfin, hlen]; exact own_base ho9 hbx.size
          · rw [hfin]
            refine ⟨own_SlN ho9 (fun _ => by omega), Sl.of_cells ⟨lt_of_some hc9, fun j u hu => ?_⟩, ?_, by rw [hlen]; unfold maxLen; omega, by simp [maxLen]⟩
            · rw [cell_of_row _ _ _ _ _ _ hc9, ← Array.getElem?_toList]; exact hu
            · intro x hx
              simp only [List.mem_cons, List.not_mem_nil, or_false] at hx
              rcases hx with rfl | rfl | rfl
              · exact ⟨(Rs.of_two ha9 (lo := 97) (hi := 97)), by simp [kA, maxLen]⟩
              · exact ⟨(Rs.of_two hb1 (lo := 98) (hi := 99)), by simp [kB, maxLen]⟩
              · exact ⟨hr9, by simp [kN, maxLen]⟩
end Go.Proofs.YtgppobaoclfgcaaGreatDoor
