/- A struct of slices that grow by two at once; the short way of BackTable; a text of few runes. Conditions: what each lemma says. -/
import Derived.Test.YtdonginboioocaaDoorPlain4
import Derived.Test.YtdonginboioocaaDoorWalksC
set_option linter.unusedVariables false
namespace Go.Proofs.YtdonginboioocaaDoor
open Go.RowKit Go.Lib
theorem own_below {w w' : World} {base : Nat} {e : TypeId} {size : Nat} {v : Value} {n : Nat} {xs : List Value} (h : w.ownsRow base e size v n xs) (hb : Below w.heap.size w w') : w'.ownsRow base e size v n xs :=
  h.kept ⟨hb.os, hb.tape, hb.output, hb.size, fun k hk _ => hb.block k hk⟩ (row := none) (by
    rcases hv : v.ownBlock with _ | k
    · exact .inl rfl
    · exact .inr (by simp))
theorem Acc.kept {B : World} {fb : Nat} {t e0 e1 e2 : TypeId} {w w' : World} {v0 v1 v2 : Value} {x0 x1 x2 : List Value} (h : Acc B fb t e0 e1 e2 w v0 v1 v2 x0 x1 x2) (hb : Below w.heap.size w w') : Acc B fb t e0 e1 e2 w' v0 v1 v2 x0 x1 x2 :=
  ⟨by rw [hb.block fb h.lt]; exact h.blk, own_below h.o0 hb, own_below h.o1 hb, own_below h.o2 hb, h.below.trans (hb.mono h.below.size), h.ge, h.n0, h.n1, h.n2, h.a01, h.a02, h.a12⟩
/-- nothing below is turned but two rows -/
structure Two (w w' : World) (r1 r2 : Option Nat) : Prop where
  os : w'.os = w.os
  tape : w'.tape = w.tape
  output : w'.output = w.output
  size : w.heap.size ≤ w'.heap.size
  block : ∀ k, k < w.heap.size → some k ≠ r1 → some k ≠ r2 → w'.heap[k]? = w.heap[k]?
theorem Two.refl (w : World) (r1 r2 : Option Nat) : Two w w r1 r2 := ⟨rfl, rfl, rfl, Nat.le_refl _, fun _ _ _ _ => rfl⟩
theorem Two.drew {w w' : World} {r1 r2 : Option Nat} (h : Two w w' r1 r2) : Two w w'.drew r1 r2 := ⟨h.os, h.tape, h.output, h.size, h.block⟩
theorem Two.alloc {w w' : World} {r1 r2 : Option Nat} (h : Two w w' r1 r2) (o : Obj) : Two w (w'.alloc o) r1 r2 :=
  ⟨h.os, h.tape, h.output, by have := h.size; simp; omega, fun k hk h1 h2 => by rw [Below.heap_alloc _ _ _ (Nat.lt_of_lt_of_le hk h.size)]; exact h.block k hk h1 h2⟩
/-- an append to a row that is one of both, or behind -/
theorem Two.grown {w w1 w2 : World} {r1 r2 row : Option Nat} (h : Two w w1 r1 r2) (hg : w1.grownBy w2 row) (hr : ∀ k, row = some k → k < w.heap.size → some k = r1 ∨ some k = r2) : Two w w2 r1 r2 :=
  ⟨hg.os.trans h.os, hg.tape.trans h.tape, hg.output.trans h.output, Nat.le_trans h.size hg.size, fun k hk h1 h2 => by
    rw [hg.block k (Nat.lt_of_lt_of_le hk h.size) (fun e => by rcases hr k e.symm hk with h3 | h3; exact h1 h3; exact h2 h3)]
    exact h.block k hk h1 h2⟩
theorem own_block {w w' : World} {base : Nat} {e : TypeId} {size : Nat} {v : Value} {n : Nat} {xs : List Value} (h : w.ownsRow base e size v n xs) (hb : ∀ k, v.ownBlock = some k → w'.heap[k]? = w.heap[k]?) : w'.ownsRow base e size v n xs := by
  refine ⟨h.1, ?_⟩
  rcases h.2 with hn | ⟨g, cap, cur, rfl, hbg, hgg, rest⟩
  · exact .inl hn
  · exact .inr ⟨g, cap, cur, rfl, hbg, by rw [hb g rfl]; exact hgg, rest⟩
theorem Two.own {w w' : World} {r1 r2 : Option Nat} (h : Two w w' r1 r2) {base : Nat} {e : TypeId} {size : Nat} {v : Value} {n : Nat} {xs : List Value} (ho : w.ownsRow base e size v n xs) (h1 : ∀ k, v.ownBlock = some k → r1 ≠ some k) (h2 : ∀ k, v.ownBlock = some k → r2 ≠ some k) : w'.ownsRow base e size v n xs :=
  own_block ho fun k hk => h.block k (ho.lt k hk).2 (fun e => h1 k hk e.symm) (fun e => h2 k hk e.symm)
theorem Two.below {w w' : World} {r1 r2 : Option Nat} (h : Two w w' r1 r2) {B : Nat} (hB : B ≤ w.heap.size) (h1 : ∀ k, r1 = some k → B ≤ k) (h2 : ∀ k, r2 = some k → B ≤ k) : Below B w w' :=
  ⟨h.os, h.tape, h.output, h.size, fun k hk => h.block k (Nat.lt_of_lt_of_le hk hB) (fun e => by have := h1 k e.symm; omega) (fun e => by have := h2 k e.symm; omega)⟩
theorem apart.push' {w1 : World} {v v' u : Value} {base : Nat} {e : TypeId} {s n : Nat} {xs : List Value} (h : apart v u) (ho : w1.ownsRow base e s u n xs) (hb : v'.ownBlock = v.ownBlock ∨ ∃ g, v'.ownBlock = some g ∧ w1.heap.size ≤ g) : apart v' u := fun k h1 h2 => by
  rcases hb with e | ⟨g, e, hg⟩
  · exact h k (e ▸ h1) h2
  · rw [e] at h1
    injection h1 with h1
    have := (ho.lt k h2).2
    omega
theorem Acc.push12 {B : World} {fb : Nat} {t e0 e1 e2 : TypeId} {w w2 : World} {v0 v1 v2 v1' v2' : Value} {x0 x1 x2 y1 y2 : List Value} {m1 m2 : Nat} (h : Acc B fb t e0 e1 e2 w v0 v1 v2 x0 x1 x2)
    (hT : Two w w2 v1.ownBlock v2.ownBlock) (ho1 : w2.ownsRow B.heap.size e1 1 v1' m1 (x1 ++ y1)) (ho2 : w2.ownsRow B.heap.size e2 1 v2' m2 (x2 ++ y2))
    (hb1 : v1'.ownBlock = v1.ownBlock ∨ ∃ g, v1'.ownBlock = some g ∧ w.heap.size ≤ g) (hb2 : v2'.ownBlock = v2.ownBlock ∨ ∃ g, v2'.ownBlock = some g ∧ w.heap.size ≤ g) (h12 : apart v1' v2') :
    Acc B fb t e0 e1 e2 ((w2.setCell ⟨fb, 1, none⟩ v1').setCell ⟨fb, 2, none⟩ v2') v0 v1' v2' x0 (x1 ++ y1) (x2 ++ y2) := by
  have hlt := h.lt
  have hn1 : v1'.ownBlock ≠ some fb := by
    rcases hb1 with e | ⟨g, e, hg⟩
    · rw [e]; exact h.n1
    · rw [e]; intro e; injection e with e; omega
  have hn2 : v2'.ownBlock ≠ some fb := by
    rcases hb2 with e | ⟨g, e, hg⟩
    · rw [e]; exact h.n2
    · rw [e]; intro e; injection e with e; omega
  have hm1 : m1 = (x1 ++ y1).length := by have := ho1.1; omega
  have hm2 : m2 = (x2 ++ y2).length := by have := ho2.1; omega
  subst hm1
  subst hm2
  have o0 := hT.own h.o0 (fun k hk e => h.a01 k hk e) (fun k hk e => h.a02 k hk e)
  refine ⟨?_, ownsRow_setCell_other (ownsRow_setCell_other o0 h.n0 _) h.n0 _, ownsRow_setCell_other (ownsRow_setCell_other ho1 hn1 _) hn1 _, ownsRow_setCell_other (ownsRow_setCell_other ho2 hn2 _) hn2 _,
    ?_, h.ge, h.n0, hn1, hn2, (h.a01.symm.push' h.o0 hb1).symm, (h.a02.symm.push' h.o0 hb2).symm, h12⟩
  · exact heap_setCell_same _ _ 2 _ _ _ (heap_setCell_same _ _ 1 _ _ _ (by rw [hT.block fb hlt (fun e => h.n1 e.symm) (fun e => h.n2 e.symm)]; exact h.blk))
  · exact ((h.below.trans (hT.below h.below.size (fun k hk => (h.o1.lt k hk).1) (fun k hk => (h.o2.lt k hk).1))).setCell h.ge _).setCell h.ge _
end Go.Proofs.YtdonginboioocaaDoor

namespace Go.Proofs.YtdonginboioocaaDoor
open Go.RowKit Go.Lib
def flatV (FA : Option Addr) (F : List Int) (fc : Nat) (KA : Option Addr) (K : List Int) (kc : Nat) (AA : Option Addr) (A : List Int) (ac : Nat) : Value :=
  .agg #[.slice FA F.length fc, .slice KA K.length kc, .slice AA A.length ac]
set_option maxRecDepth 1000000 in
set_option maxHeartbeats 4000000 in
theorem backtable_short (FA : Option Addr) (F : List Int) (fc : Nat) (KA : Option Addr) (K : List Int) (kc : Nat) (AA : Option Addr) (A : List Int) (ac : Nat) (w : World)
    (hf : F.length ≤ 1048576) (hk : K.length ≤ maxLen) (ha : A.length ≤ 1048576) (hw : F.length = 0 ∨ K.length ≠ F.length * A.length) :
    Calls Tryd.prog 25 #[flatV FA F fc KA K kc AA A ac] w fun e w' => e = .returned (.tuple #[.agg #[.slice none 0 0, .slice none 0 0, .slice none 0 0], .int .i64 11]) ∧ Below w.heap.size w w' := by
  unfold flatV
  unfold maxLen at hk
  obtain ⟨p, hP⟩ : ∃ p, F.length = p := ⟨_, rfl⟩
  obtain ⟨n, hN⟩ : ∃ n, K.length = n := ⟨_, rfl⟩
  obtain ⟨a, hA⟩ : ∃ a, A.length = a := ⟨_, rfl⟩
  rw [hP] at hf hw ⊢
  rw [hN] at hk hw ⊢
  rw [hA] at ha hw ⊢
  clear hP hN hA
  obtain ⟨m, hm⟩ : ∃ m, p * a = m := ⟨_, rfl⟩
  have hmb : m ≤ 1099511627776 := by rw [← hm]; exact Nat.le_trans (Nat.mul_le_mul hf ha) (Nat.le_refl _)
  have hmi : IntKind.i64.wrap ((p : Int) * (a : Int)) = (m : Int) := by
    rw [show (p : Int) * (a : Int) = ((p * a : Nat) : Int) from by simp, hm, IntKind.wrap_i64]; omega
  rw [hm] at hw
  clear hm
  have main : ∀ b : Bool, ((p : Int) == 0) = b → (b = false → (!((n : Int) == (m : Int))) = true) → Calls Tryd.prog 25 #[.agg #[.slice FA p fc, .slice KA n kc, .slice AA a ac]] w fun e w' => e = .returned (.tuple #[.agg #[.slice none 0 0, .slice none 0 0, .slice none 0 0], .int .i64 11]) ∧ Below w.heap.size w w' := by
    intro b h0 h1
    cases b
    · have h1 := h1 rfl
      go_enter Tryd.func25, Tryd.ntmps25
      go_wp2
      obtain ⟨m0, m1, m2⟩ := blk_cells3 (heap_alloc_new2 (w.alloc (.cells #[.slice FA p fc, .slice KA n kc, .slice AA a ac] 36)) (.cells #[.slice none 0 0, .slice none 0 0, .slice none 0 0] 27) (w.heap.size + 1) _ (by simp))
      exact bodyPost_ret (v := .tuple #[.agg #[.slice none 0 0, .slice none 0 0, .slice none 0 0], .int .i64 11]) (by simp [results, Tryd.results25, go_sem, m0, m1, m2]) rfl ⟨rfl, ((Below.refl _ _).alloc (Nat.le_refl _) _).alloc (by simp) _⟩
    · go_enter Tryd.func25, Tryd.ntmps25
      go_wp2
      obtain ⟨m0, m1, m2⟩ := blk_cells3 (heap_alloc_new2 (w.alloc (.cells #[.slice FA p fc, .slice KA n kc, .slice AA a ac] 36)) (.cells #[.slice none 0 0, .slice none 0 0, .slice none 0 0] 27) (w.heap.size + 1) _ (by simp))
      exact bodyPost_ret (v := .tuple #[.agg #[.slice none 0 0, .slice none 0 0, .slice none 0 0], .int .i64 11]) (by simp [results, Tryd.results25, go_sem, m0, m1, m2]) rfl ⟨rfl, ((Below.refl _ _).alloc (Nat.le_refl _) _).alloc (by simp) _⟩
  exact main _ rfl fun h => by simp at h ⊢; omega
end Go.Proofs.YtdonginboioocaaDoor

namespace Go.Proofs.YtdonginboioocaaDoor
open Go.RowKit Go.Lib
theorem ret_str {a b : ByteArray} (h : a = b) : Ending.returned (.string a) = .returned (.string b) := by rw [h]
def u8s (P : List Int) : List Value := P.map (Value.int .u8)
def partsB : List ByteArray := [⟨#[97]⟩, ⟨#[98]⟩, ⟨#[99]⟩, ⟨#[97]⟩, ⟨#[98]⟩, ⟨#[32]⟩, ⟨#[195, 169]⟩, ⟨#[255]⟩]
def piece (x : Int) : ByteArray := partsB.getD (x % 8).toNat ByteArray.empty
theorem piece_le (x : Int) : (piece x).size ≤ 2 := by
  have h : ∀ i, i < 8 → (partsB.getD i ByteArray.empty).size ≤ 2 := by decide
  exact h _ (by omega)
/-- the text of few runes by its numbers -/
def txt (X : Nat → Int) : Nat → ByteArray
  | 0 => ⟨#[]⟩
  | k + 1 => txt X k ++ piece (X k)
theorem txt_le (X : Nat → Int) (k : Nat) : (txt X k).size ≤ 2 * k := by
  induction k with
  | zero => exact Nat.le_refl _
  | succ k ih => rw [txt, ByteArray.size_append]; have := piece_le (X k); omega
set_option maxRecDepth 100000 in
set_option maxHeartbeats 1000000 in
theorem text_any (A : Option Addr) (L : List Int) (cap M : Nat) (w : World) (hX : Sl w A (u8s L)) (hn : L.length ≤ maxLen) (h8 : ∀ k, k < L.length → 0 ≤ L.getD k 0 ∧ L.getD k 0 < 256) (hM : M ≤ 16) :
    Calls Tryd.prog 9 #[.slice A L.length cap, .int .i64 M] w fun e w' => e = .returned (.string (txt (fun i => L.getD i 0) (min L.length M))) ∧ Below w.heap.size w w' := by
  unfold maxLen at hn
  obtain ⟨n, hN⟩ : ∃ n, L.length = n := ⟨_, rfl⟩
  obtain ⟨X, hXX⟩ : ∃ X : Nat → Int, (fun i => L.getD i 0) = X := ⟨_, rfl⟩
  have hget : ∀ k, L.getD k 0 = X k := fun k => by rw [← hXX]
  have HX := Lib.hid hX
  have HG := Lib.hid hget
  have HN := Lib.hid hN
  have H8 := Lib.hid h8
  rw [hN] at hn ⊢
  rw [hXX]
  clear hX hXX hget hN h8
  go_enter Tryd.func9, Tryd.ntmps9
  go_wp2
  go_loopw [5, 6] (fun s i wr => ∃ k : Nat, k ≤ min n M ∧ i = .int .i64 k ∧ s = .string (txt X k) ∧ Below w.heap.size w wr) (fun _ i _ => M - (RowKit.intOf i).toNat)
  case atStart => exact ⟨0, Nat.zero_le _, rfl, rfl, Below.refl _ _⟩
  case round =>
    obtain ⟨k, hk, rfl, rfl, hB⟩ := hrel
    have hl := txt_le X k
    by_cases hlt : k < n
    · by_cases h24 : k < M
      · obtain ⟨b, off, rfl, hb, hck⟩ := (HX.out.below hB).get k (by rw [HN.out]; exact hlt)
        obtain ⟨x0, x1⟩ := H8.out k (by rw [HN.out]; exact hlt)
        rw [HG.out] at hck x0 x1
        have hstep : txt X (k + 1) = txt X k ++ piece (X k) := rfl
        have hpl := piece_le (X k)
        obtain ⟨j, hj, hj18⟩ : ∃ j : Nat, X k % 8 = (j : Int) ∧ j < 8 := ⟨(X k % 8).toNat, by omega, by omega⟩
        have hpt : (wr.alloc (.cells (partsB.map Value.string).toArray 9)).cell? ⟨wr.heap.size, j, none⟩ = some (.string (piece (X k))) := by
          rw [cell_of_row _ _ _ _ _ _ (heap_alloc_new _ _)]
          unfold piece
          rw [hj, Int.toNat_natCast]
          have : j < partsB.length := hj18
          simp [List.getD, this]
        generalize piece (X k) = q at *
        generalize X k = x at *
        simp only [partsB, List.map_cons, List.map_nil] at hpt
        have HS := Lib.hid hstep
        clear hstep
        go_wp2
        go_roundw
        case rel => exact ⟨k + 1, by omega, by go_num, by rw [HS.out], hB.alloc hB.size _⟩
        case measure => simp [RowKit.intOf]; omega
      · obtain rfl : k = M := by omega
        have hm : txt X (min n k) = txt X k := by rw [show min n k = k from by omega]
        have HM := Lib.hid hm
        clear hm hl
        go_wp2
        go_ret
        exact ⟨ret_str HM.out.symm, hB⟩
    · obtain rfl : n = k := by omega
      have hm : txt X (min n M) = txt X n := by rw [show min n M = n from by omega]
      have HM := Lib.hid hm
      clear hm hl
      go_wp2
      go_ret
      exact ⟨ret_str HM.out.symm, hB⟩
end Go.Proofs.YtdonginboioocaaDoor

