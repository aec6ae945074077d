/- What is kept beside one block; record, inst, Words, words: what the code computes. Conditions: what each lemma says. -/
import Derived.Test.YtbbcdebjkedepaaPgC
import Derived.Test.YtbbcdebjkedepaaTabH
import Derived.Deep.QuietTactic
set_option linter.unusedVariables false
set_option linter.unusedSimpArgs false
namespace Go.Proofs.Ytbbcdebjkedepaa
open Go.RowKit Go.Lib
open Plain (Rg May mayB In Norm In4 slotsOf insB bnd riB cls cnot rightB normB)
/-- nothing that was there has turned but the block fb -/
structure Kp (fb : Nat) (w w' : World) : Prop where
  os : w'.os = w.os
  tape : w'.tape = w.tape
  output : w'.output = w.output
  size : w.heap.size ≤ w'.heap.size
  block : ∀ k, k < w.heap.size → k ≠ fb → w'.heap[k]? = w.heap[k]?
theorem Kp.refl (fb : Nat) (w : World) : Kp fb w w := ⟨rfl, rfl, rfl, Nat.le_refl _, fun _ _ _ => rfl⟩
theorem Kp.trans {fb : Nat} {w w1 w2 : World} (h : Kp fb w w1) (k : Kp fb w1 w2) : Kp fb w w2 :=
  ⟨k.os.trans h.os, k.tape.trans h.tape, k.output.trans h.output, Nat.le_trans h.size k.size, fun i hi hne => (k.block i (Nat.lt_of_lt_of_le hi h.size) hne).trans (h.block i hi hne)⟩
theorem Kp.of_below {fb : Nat} {w w' : World} (h : Below w.heap.size w w') : Kp fb w w' := ⟨h.os, h.tape, h.output, h.size, fun k hk _ => h.block k hk⟩
theorem Kp.then {fb : Nat} {w w1 w2 : World} (h : Kp fb w w1) (hb : Below w1.heap.size w1 w2) : Kp fb w w2 := h.trans (.of_below hb)
theorem Kp.alloc {fb : Nat} {w w1 : World} (h : Kp fb w w1) (o : Obj) : Kp fb w (w1.alloc o) := h.then ((Below.refl _ _).alloc (Nat.le_refl _) _)
theorem Kp.drew {fb : Nat} {w w1 : World} (h : Kp fb w w1) : Kp fb w w1.drew := ⟨h.os, h.tape, h.output, h.size, h.block⟩
theorem Kp.set {fb : Nat} {w w1 : World} (h : Kp fb w w1) (j : Nat) (u : Value) : Kp fb w (w1.setCell ⟨fb, j, none⟩ u) :=
  h.trans ⟨rfl, rfl, rfl, by simp [World.setCell], fun k _ hne => heap_setCell_other w1 ⟨fb, j, none⟩ k u (fun e => hne e)⟩
theorem Kp.grown {fb : Nat} {w w1 w2 : World} {row : Option Nat} (h : Kp fb w w1) (hg : w1.grownBy w2 row) (hr : ∀ g, row = some g → w.heap.size ≤ g ∨ g = fb) : Kp fb w w2 :=
  ⟨hg.os.trans h.os, hg.tape.trans h.tape, hg.output.trans h.output, Nat.le_trans h.size hg.size, fun k hk hne => (hg.block k (Nat.lt_of_lt_of_le hk h.size) (fun e => by rcases hr k e.symm with h1 | h1 <;> omega)).trans (h.block k hk hne)⟩
theorem Kp.below {fb b : Nat} {W w w1 : World} (h : Kp fb w w1) (hb : Below b W w) (hf : b ≤ fb) (hw : b ≤ w.heap.size) : Below b W w1 :=
  ⟨h.os.trans hb.os, h.tape.trans hb.tape, h.output.trans hb.output, Nat.le_trans hb.size h.size, fun k hk => (h.block k (by omega) (by omega)).trans (hb.block k hk)⟩
theorem Kp.cell {fb : Nat} {w w1 : World} (h : Kp fb w w1) {p : Addr} (hp : p.block < w.heap.size) (hne : p.block ≠ fb) : w1.cell? p = w.cell? p := World.cell?_of_block (h.block p.block hp hne)
theorem Kp.blk {fb : Nat} {w w1 : World} {k : Nat} {c : Obj} (h : Kp fb w w1) (hk : w.heap[k]? = some c) (hne : k ≠ fb) : w1.heap[k]? = some c := (h.block k (lt_of_some hk) hne).trans hk
theorem Kp.sl {fb : Nat} {w w1 : World} {A : Option Addr} {xs : List Value} (h : Kp fb w w1) (hs : Sl w A xs) (hne : ∀ b o, A = some ⟨b, o, none⟩ → b ≠ fb) : Sl w1 A xs := fun hn => by
  obtain ⟨b, off, e, hl, hc⟩ := hs hn
  exact ⟨b, off, e, Nat.lt_of_lt_of_le hl h.size, fun i u hi => (h.cell (p := ⟨b, off + i, none⟩) hl (hne b off e)).trans (hc i u hi)⟩
theorem Kp.rs {fb : Nat} {w w1 : World} {A : Option Addr} {R : List Rg} (h : Kp fb w w1) (hs : Rs w A R) (hne : ∀ b o, A = some ⟨b, o, none⟩ → b ≠ fb) : Rs w1 A R := fun hn => by
  obtain ⟨b, off, e, hl, hc⟩ := hs hn
  exact ⟨b, off, e, Nat.lt_of_lt_of_le hl h.size, fun i r hr => ⟨(h.cell (p := ⟨b, _, none⟩) hl (hne b off e)).trans (hc i r hr).1, (h.cell (p := ⟨b, _, none⟩) hl (hne b off e)).trans (hc i r hr).2⟩⟩
theorem Kp.own {fb base n sz : Nat} {e : TypeId} {v : Value} {xs : List Value} {w w1 : World} (h : Kp fb w w1) (ho : w.ownsRow base e sz v n xs) (hne : v.ownBlock ≠ some fb) : w1.ownsRow base e sz v n xs :=
  ho.kept (row := some fb) ⟨h.os, h.tape, h.output, h.size, fun k hk hne => h.block k hk (fun e => hne (by rw [e]))⟩ (by
    rcases hv : v.ownBlock with _ | k
    · exact .inl rfl
    · exact .inr (by rw [← hv]; exact hne))
def w32 (x : Int) : Int := x % 4294967296
theorem blk_cells4 {w : World} {fb : Nat} {v0 v1 v2 v3 : Value} {t : TypeId} (h : w.heap[fb]? = some (.cells #[v0, v1, v2, v3] t (0, 0))) :
    w.cell? ⟨fb, 0, none⟩ = some v0 ∧ w.cell? ⟨fb, 1, none⟩ = some v1 ∧ w.cell? ⟨fb, 2, none⟩ = some v2 ∧ w.cell? ⟨fb, 3, none⟩ = some v3 :=
  ⟨by rw [cell_of_row _ _ _ _ _ _ h]; rfl, by rw [cell_of_row _ _ _ _ _ _ h]; rfl, by rw [cell_of_row _ _ _ _ _ _ h]; rfl, by rw [cell_of_row _ _ _ _ _ _ h]; rfl⟩
def recV (t : In4) : Value := .agg #[.int .u32 (w32 t.1), .int .u32 (w32 t.2.1), .int .u32 (w32 t.2.2.1), .int .u32 (w32 t.2.2.2)]
set_option maxRecDepth 100000 in
set_option maxHeartbeats 1000000 in
theorem record_any (t : In4) (w : World) : Calls Try.prog 26 #[i4V t] w fun e w' => e = .returned (recV t) ∧ Below w.heap.size w w' := by
  obtain ⟨a, b, c, d⟩ := t
  unfold i4V recV w32
  dsimp only
  go_enter Try.func26, Try.ntmps26
  go_wp2_with fail
  have hblk : ((w.alloc (.cells #[.int .i64 a, .int .i64 b, .int .i64 c, .int .i64 d] 84)).alloc (.cells #[.int .u32 (a % 4294967296), .int .u32 (b % 4294967296), .int .u32 (c % 4294967296), .int .u32 (d % 4294967296)] 79)).heap[w.heap.size + 1]? = some (.cells #[.int .u32 (a % 4294967296), .int .u32 (b % 4294967296), .int .u32 (c % 4294967296), .int .u32 (d % 4294967296)] 79 (0, 0)) := heap_alloc_new2 _ _ _ _ (by simp)
  obtain ⟨m0, m1, m2, m3⟩ := blk_cells4 hblk
  exact bodyPost_ret (v := .agg #[.int .u32 (a % 4294967296), .int .u32 (b % 4294967296), .int .u32 (c % 4294967296), .int .u32 (d % 4294967296)]) (by simp [results, Try.results26, go_sem, m0, m1, m2, m3]) rfl ⟨rfl, ((Below.refl _ _).alloc (Nat.le_refl _) _).alloc (by simp) _⟩
set_option maxRecDepth 100000 in
set_option maxHeartbeats 1000000 in
theorem inst_any (a b c d : Int) (w : World) (ha : 0 ≤ a ∧ a < 4294967296) (hb : 0 ≤ b ∧ b < 4294967296) (hc : 0 ≤ c ∧ c < 4294967296) (hd : 0 ≤ d ∧ d < 4294967296) : Calls Try.prog 39 #[.agg #[.int .u32 a, .int .u32 b, .int .u32 c, .int .u32 d]] w fun e w' => e = .returned (i4V (a, b, c, d)) ∧ Below w.heap.size w w' := by
  unfold i4V
  dsimp only
  go_enter Try.func39, Try.ntmps39
  go_wp2_with fail
  have hblk : ((w.alloc (.cells #[.int .u32 a, .int .u32 b, .int .u32 c, .int .u32 d] 79)).alloc (.cells #[.int .i64 a, .int .i64 b, .int .i64 c, .int .i64 d] 84)).heap[w.heap.size + 1]? = some (.cells #[.int .i64 a, .int .i64 b, .int .i64 c, .int .i64 d] 84 (0, 0)) := heap_alloc_new2 _ _ _ _ (by simp)
  obtain ⟨m0, m1, m2, m3⟩ := blk_cells4 hblk
  exact bodyPost_ret (v := .agg #[.int .i64 a, .int .i64 b, .int .i64 c, .int .i64 d]) (by simp [results, Try.results39, go_sem, m0, m1, m2, m3]) rfl ⟨rfl, ((Below.refl _ _).alloc (Nat.le_refl _) _).alloc (by simp) _⟩
def arV (RA : Option Addr) (n c : Nat) (GA : Option Addr) (m d : Nat) (EA : Option Addr) (k f : Nat) (s : Int) : Value := .agg #[.slice RA n c, .slice GA m d, .slice EA k f, .int .u32 s]
set_option maxRecDepth 100000 in
theorem words_any (RA GA EA : Option Addr) (n c m d k f : Nat) (s : Int) (w : World) (h : n + m + k ≤ 1000000000) : Calls Try.prog 22 #[arV RA n c GA m d EA k f s] w fun e w' => e = .returned (.int .i64 ((4 * n + 2 * m + k + 1 : Nat) : Int)) ∧ Below w.heap.size w w' := by
  unfold arV
  go_enter Try.func22, Try.ntmps22
  go_wp2_with fail
  go_ret
  exact ⟨ret_int (by omega), (Below.refl _ _).alloc (Nat.le_refl _) _⟩
end Go.Proofs.Ytbbcdebjkedepaa
namespace Go.Proofs.Ytbbcdebjkedepaa
open Go.RowKit Go.Lib
set_option maxRecDepth 100000 in
set_option maxHeartbeats 2000000 in
theorem wsame_any (R S : List Int) (A B : Option Addr) (c d : Nat) (w : World) (hX : Sl w A (u32s R)) (hY : Sl w B (u32s S)) (hn : R.length ≤ 10000) (hn2 : S.length ≤ 10000) :
    Calls Try.prog 20 #[.slice A R.length c, .slice B S.length d] w fun e w' => e = .returned (.bool (decide (R = S))) ∧ Below w.heap.size w w' := by
  obtain ⟨n, hN⟩ : ∃ n, R.length = n := ⟨_, rfl⟩
  obtain ⟨m, hM⟩ : ∃ m, S.length = m := ⟨_, rfl⟩
  obtain ⟨q, hq⟩ : ∃ q, decide (R = S) = q := ⟨_, rfl⟩
  rw [hN] at hn ⊢
  rw [hM] at hn2 ⊢
  rw [hq]
  have HX := Lib.hid hX
  have HY := Lib.hid hY
  have HN := Lib.hid hN
  have HM := Lib.hid hM
  have HQ := Lib.hid hq
  clear hX hY hN hM hq
  by_cases hnm : n = m
  · have e1 : ((n : Int) != (m : Int)) = false := by rw [hnm]; simp
    have HNM := Lib.hid hnm
    clear hnm
    go_enter Try.func20, Try.ntmps20
    go_wp2
    go_loopw [5] (fun i wr => ∃ k : Nat, k ≤ n ∧ i = .int .i64 k ∧ Hid (∀ j, j < k → R.getD j 0 = S.getD j 0) ∧ RowKit.Below w.heap.size w wr) (fun i _ => n - (RowKit.intOf i).toNat)
    case atStart => exact ⟨0, Nat.zero_le _, rfl, Lib.hid (fun j h => absurd h (by omega)), RowKit.Below.refl _ _⟩
    case round =>
      obtain ⟨k, hk, rfl, HA, hB⟩ := hrel
      have HB := Lib.hid hB
      by_cases hlt : k < n
      · have hk1 : k < R.length := by rw [HN.out]; exact hlt
        have hk2 : k < S.length := by rw [HM.out, ← HNM.out]; exact hlt
        have hltm : k < m := by rw [← HNM.out]; exact hlt
        obtain ⟨ba, off, rfl, hba, c0⟩ := Sl.get (HX.out.below hB) k hk1
        obtain ⟨bb, off2, rfl, hbb, d0⟩ := Sl.get (HY.out.below hB) k hk2
        obtain ⟨r, hr⟩ : ∃ r, R.getD k 0 = r := ⟨_, rfl⟩
        obtain ⟨s, hs⟩ : ∃ s, S.getD k 0 = s := ⟨_, rfl⟩
        rw [hr] at c0
        rw [hs] at d0
        have HR := Lib.hid hr
        have HS := Lib.hid hs
        have g0 : (0 : Int) ≤ (k : Int) := by omega
        have g1 : (k : Int) < (n : Int) := by omega
        have g2 : (k : Int) < (m : Int) := by omega
        clear hr hs hB
        by_cases hrs : r = s
        · have e2 : (r != s) = false := by simp [hrs]
          subst hrs
          go_upto_region 6 with fail
          go_quiet (fail)
          have hBd := Lib.hid (below_then HB.out (⟨rfl, rfl, rfl, Nat.le_refl _, fun _ _ => rfl⟩ : RowKit.Below wr.heap.size wr (wr.drewN nq)))
          go_wp2
          go_roundw
          case rel =>
            refine ⟨k + 1, by omega, by go_num, Lib.hid (fun j hjk => ?_), hBd.out⟩
            by_cases e : j = k
            · subst e; rw [HR.out, HS.out]
            · exact HA.out j (by omega)
          case measure => simp [RowKit.intOf]; omega
        · have e2 : (r != s) = true := by simp [hrs]
          have e3 : (r == s) = false := by simp [hrs]
          have hqv : q = false := by
            rw [← HQ.out]
            simp only [decide_eq_false_iff_not]
            intro h; subst h
            exact hrs (HR.out.symm.trans HS.out)
          subst hqv
          go_upto_region 6 with fail
          go_quiet (fail)
          have hBd := Lib.hid (below_then HB.out (⟨rfl, rfl, rfl, Nat.le_refl _, fun _ _ => rfl⟩ : RowKit.Below wr.heap.size wr (wr.drewN nq)))
          go_wp2
          go_ret
          exact ⟨rfl, hBd.out⟩
      · have hqv : q = true := by
          rw [← HQ.out]
          refine decide_eq_true (List.ext_getElem (by rw [HN.out, HM.out, HNM.out]) fun j h1 h2 => ?_)
          have h3 := HA.out j (by rw [HN.out] at h1; omega)
          rw [List.getD_eq_getElem?_getD, List.getD_eq_getElem?_getD, List.getElem?_eq_getElem h1, List.getElem?_eq_getElem h2] at h3
          exact h3
        subst hqv
        clear hB
        go_wp2
        go_ret
        exact ⟨rfl, HB.out⟩
  · have e1 : ((n : Int) != (m : Int)) = true := by simp; omega
    have hqv : q = false := by
      rw [← HQ.out]
      simp only [decide_eq_false_iff_not]
      intro h; subst h
      exact hnm (HN.out.symm.trans HM.out)
    subst hqv
    go_enter Try.func20, Try.ntmps20
    go_wp2
    go_ret
    exact ⟨rfl, RowKit.Below.refl _ _⟩
end Go.Proofs.Ytbbcdebjkedepaa
