/- The walks of chapter 3's functions: runes.All, At, Ahead, Place, Edge, Word, Right, Put return what the plain text says. Conditions: the library's two tables lie as their initialisers lay them; texts of at most 2^42 bytes. -/
import Derived.Test.YtjkialgdaikijaaDoorChecked
import Derived.Test.YtjkialgdaikijaaDoorPlain2
import Derived.Test.YtjkialgdaikijaaDoorShelf
import Derived.WalkKit
import Derived.WalkLawsBesides
import Derived.WalkSpells
import Derived.Below
import Derived.Lib.Hide
import Derived.Lib.OthersKept
import Derived.WalkSmall
import Derived.Laws.OwnMore
import Derived.Deep.QuietTactic
import Derived.BigQuiet
import Derived.Laws.AppendOwn
import Derived.Lib.IndexBytes
import Derived.Laws.ResultCell
namespace Go.Proofs.YtjkialgdaikijaaDoor
open Go.RowKit Go.Lib
theorem ret_int {k : IntKind} {a b : Int} (h : a = b) : Ending.returned (.int k a) = .returned (.int k b) := by rw [h]
/-- the tables of the library's decoder -/
def Tabs (w : World) : Prop := Lib.Utf8Tabs 0 1 w
theorem Tabs.below {w w' : World} (h : Tabs w) (hb : Below w.heap.size w w') : Tabs w' := Utf8Tabs_below h hb
theorem decodeGo_L (s : ByteArray) (h : 0 < s.size) : Lib.decodeGo s = decodeL s.data.toList := by
  unfold Lib.decodeGo
  rw [if_neg (by omega), ← decodeL_drop, List.drop_zero]
set_option maxHeartbeats 400000 in
theorem size_any (s : ByteArray) (r : Int) (w : World) (hs : 0 < s.size) (hr : r = ((decodeL s.data.toList).1 : Int)) (hT : Tabs w) :
    Calls Tryd.prog 26 #[.string s, .int .i32 r] w fun e w' => e = .returned (.int .i64 (decodeL s.data.toList).2) ∧ Below w.heap.size w w' := by
  have h4 := Plain.dec_right s.data.toList
  by_cases h : r = 65533
  · have hd := decodeGo_L s hs
    have HR := Lib.hid hr
    clear hr
    have hb : (r == 65533) = true := by simp [h]
    have H := Lib.hid h
    clear h
    go_enter Tryd.func26, Tryd.ntmps26
    go_wp2_with (go_at_call 32; refine (Tryd.utf8_DecodeRuneInString _ _ hT).mono ?_; rintro e w' ⟨rfl, hb⟩)
    go_ret
    exact ⟨rfl, by assumption⟩
  · have hl := runeLen_decode s.data.toList (by omega)
    have hb : (r == 65533) = false := by simp [h]
    rw [← hr] at hl
    have HR := Lib.hid hr
    clear hr
    go_enter Tryd.func26, Tryd.ntmps26
    go_wp2_with (go_at_call 33; refine (Tryd.utf8_RuneLen _ _).mono ?_; rintro e w' ⟨rfl, rfl⟩)
    go_ret
    exact ⟨rfl, Below.refl _ _⟩
end Go.Proofs.YtjkialgdaikijaaDoor
namespace Go.Proofs.YtjkialgdaikijaaDoor
open Go.RowKit Go.Lib
/-- a rune's cells -/
def rcells (x : Plain.Rn) : List Value := [.int .i32 x.1, .int .i64 x.2.1, .int .i64 x.2.2]
theorem rcells_len (L : List Plain.Rn) : (L.flatMap rcells).length = L.length * 3 := by
  induction L with
  | nil => rfl
  | cons x r ih => rw [List.flatMap_cons, List.length_append, ih, List.length_cons]; simp [rcells]; omega
theorem info30 : (Tryd.prog.info? 30).map (fun i => (i.zero, i.size, i.bytes)) = some (some (.agg #[.int .i32 0, .int .i64 0, .int .i64 0]), 3, 24) := by kernel_rfl
theorem own_below {w w' : World} {base : Nat} {e : TypeId} {size : Nat} {v : Value} {n : Nat} {xs : List Value} (h : w.ownsRow base e size v n xs) (hb : Below w.heap.size w w') : w'.ownsRow base e size v n xs :=
  h.kept ⟨hb.os, hb.tape, hb.output, hb.size, fun k hk _ => hb.block k hk⟩ (row := none) (by
    rcases hv : v.ownBlock with _ | k
    · exact .inl rfl
    · exact .inr (by simp))
theorem cells_new (w : World) (l : List Value) (t : TypeId) : ∀ j u, l[j]? = some u → (w.alloc (.cells l.toArray t)).cell? ((⟨w.heap.size, 0, none⟩ : Addr).add j) = some u := by
  intro j u h
  have e : (⟨w.heap.size, 0, none⟩ : Addr).add j = ⟨w.heap.size, j, none⟩ := by unfold Addr.add; split <;> simp_all
  rw [e, cell_of_row _ _ _ _ _ _ (heap_alloc_new _ _)]
  simpa using h
theorem own_base {w : World} {base base' : Nat} {e : TypeId} {size : Nat} {v : Value} {n : Nat} {xs : List Value} (h : w.ownsRow base e size v n xs) (hb : base' ≤ base) : w.ownsRow base' e size v n xs :=
  ⟨h.1, h.2.imp_right fun ⟨g, cap, cur, h1, h2, h3⟩ => ⟨g, cap, cur, h1, Nat.le_trans hb h2, h3⟩⟩
/-- what holds at the head of a round of runes.All -/
def AllRel (s : ByteArray) (w : World) (v : Value) (wr : World) (p : Nat) (A : List Plain.Rn) : Prop :=
  wr.heap[w.heap.size]? = some (.stringIter s p) ∧ Plain.allA 0 s.data.toList = A ++ Plain.allA p (s.data.toList.drop p) ∧ A.length ≤ p ∧ wr.ownsRow (w.heap.size + 1) 30 3 v A.length (A.flatMap rcells) ∧ Below w.heap.size w wr ∧ w.heap.size < wr.heap.size
theorem AllRel.step {s : ByteArray} {w wr w1 w2 : World} {v v' : Value} {p : Nat} {A : List Plain.Rn} {o : Obj} (h : AllRel s w v wr p A) (hp : p < s.size)
    (hb1 : Below (wr.iterAt w.heap.size s (p + (decodeL (s.data.toList.drop p)).2)).heap.size (wr.iterAt w.heap.size s (p + (decodeL (s.data.toList.drop p)).2)) w1)
    (hown : w2.ownsRow (w.heap.size + 1) 30 3 v' (A.length + 1) (A.flatMap rcells ++ [.int .i32 (decodeL (s.data.toList.drop p)).1, .int .i64 p, .int .i64 (decodeL (s.data.toList.drop p)).2])) (hg : (w1.alloc o).grownBy w2 v.ownBlock) :
    AllRel s w v' w2 (p + (decodeL (s.data.toList.drop p)).2) (A ++ [((decodeL (s.data.toList.drop p)).1, p, (decodeL (s.data.toList.drop p)).2)]) ∧ p + (decodeL (s.data.toList.drop p)).2 ≤ s.size := by
  obtain ⟨h1, h2, h3, h4, h5, h6⟩ := h
  have hne : s.data.toList.drop p ≠ [] := by intro e; have := congrArg List.length e; simp at this; omega
  have hs := Plain.allA_step p _ hne
  have hpos := Plain.dec_pos (s.data.toList.drop p)
  have hle := decodeL_le _ hne
  have hrow : ∀ g, v.ownBlock = some g → w.heap.size + 1 ≤ g := fun g hg => (h4.lt g hg).1
  have hsz1 : wr.heap.size ≤ w1.heap.size := by have := hb1.size; rw [iterAt_size] at this; exact this
  have hi1 : w1.heap[w.heap.size]? = some (.stringIter s (p + (decodeL (s.data.toList.drop p)).2)) := by
    rw [hb1.block w.heap.size (by rw [iterAt_size]; exact h6), iterAt_heap _ _ _ _ _ h1]
  have hB1 : Below w.heap.size w w1 := (below_iterAt h5 (Nat.le_refl _) s _).trans (hb1.mono (by rw [iterAt_size]; omega))
  refine ⟨⟨?_, ?_, ?_, ?_, ?_, ?_⟩, ?_⟩
  · rw [hg.block w.heap.size (by simp; omega) (fun e => by have := hrow _ e.symm; omega), Below.heap_alloc _ _ _ (by omega), hi1]
  · rw [h2, hs, List.drop_drop]; simp
  · simp; omega
  · simpa [rcells] using hown
  · exact ((hB1.alloc hB1.size o).grown hg (by simp; omega) (fun k hk => by have := hrow k hk; omega))
  · have := hg.size; simp at this; omega
  · rw [List.length_drop] at hle; simp at hle; omega
set_option maxRecDepth 100000 in
set_option maxHeartbeats 400000 in
theorem all_walk (s : ByteArray) (w : World) (hs : s.size ≤ 4398046511104) (hT : Tabs w) :
    Calls Tryd.prog 10 #[.string s] w fun e w' => ∃ v, e = .returned v ∧ w'.ownsRow w.heap.size 30 3 v (Plain.allA 0 s.data.toList).length ((Plain.allA 0 s.data.toList).flatMap rcells) ∧ Below w.heap.size w w' := by
  obtain ⟨i0, hi, hz0, hz1, hz2⟩ := info_parts info30
  go_enter Tryd.func10, Tryd.ntmps10
  go_wp2
  go_loopw [3] (fun v wr => ∃ u p A, u = v ∧ p ≤ s.size ∧ AllRel s w u wr p A) (fun _ wr => s.size - wr.iterPos w.heap.size)
  case atStart => exact ⟨_, 0, [], rfl, Nat.zero_le _, by simp [World.iter, World.alloc, -World.alloc_eq], by simp, Nat.le_refl _, ⟨by simp, .inl ⟨rfl, rfl⟩⟩, (Below.refl _ _).alloc (Nat.le_refl _) _, by simp [World.iter, World.alloc, -World.alloc_eq]⟩
  case round =>
    obtain ⟨v, p, A, rfl, hp, hR⟩ := hrel
    have hk := hR.1
    by_cases hlt : p < s.size
    · have hnx := fun ty => run_next_any_at (P := Tryd.prog) wr w.heap.size s p ty hk hlt
      rw [← decodeL_drop] at hnx
      have hx := extract_to_end s p
      have hsx : (s.extract p s.size).size = s.size - p := by rw [size_eq, hx]; simp
      have cS : ∀ W, Tabs W → Calls Tryd.prog 26 #[.string (s.extract p s.size), .int .i32 (decodeL (s.data.toList.drop p)).1] W fun e w' => e = .returned (.int .i64 (decodeL (s.data.toList.drop p)).2) ∧ Below W.heap.size W w' := fun W hTW => by
        have := size_any (s.extract p s.size) (decodeL (s.data.toList.drop p)).1 W (by omega) (by rw [hx]) hTW
        rw [hx] at this; exact this
      have hTi : Tabs (wr.iterAt w.heap.size s (p + (decodeL (s.data.toList.drop p)).2)) := hT.below (below_iterAt hR.2.2.2.2.1 (Nat.le_refl _) s _)
      have HS := Lib.hid cS; clear cS
      have HR := Lib.hid hR; clear hR hk hx hsx
      go_wp2_with fail
      refine (HS.out _ hTi).mono ?_
      rintro e w1 ⟨rfl, hb1⟩
      have hown1 : w1.ownsRow (w.heap.size + 1) 30 3 v A.length (A.flatMap rcells) := own_below (ownsRow_iterAt HR.out.2.2.2.1 (Nat.lt_succ_self _) _ _) hb1
      have hl := HR.out.2.2.1
      have hsz1 : w.heap.size + 1 ≤ w1.heap.size := by have h1 := hb1.size; rw [iterAt_size] at h1; have := HR.out.2.2.2.2.2; omega
      have HB := Lib.hid hb1; clear hb1
      go_wp2_with (at_builtin; refine wpList_append_own _ rfl (.tmp 12) (.tmp 21) _ rfl (w.heap.size + 1) 30 i0 _ 3 24 Tryd.underlying25 hi hz0 hz1 hz2 rfl (by decide) v A.length (A.flatMap rcells) rfl (hown1.alloc _) ⟨w1.heap.size, 0, none⟩ 1 1 [.int .i32 (decodeL (s.data.toList.drop p)).1, .int .i64 p, .int .i64 (decodeL (s.data.toList.drop p)).2] rfl rfl ?c1 ?c2 ?c3 ?c4 ?c5 ?_)
      case c1 => exact cells_new w1 _ _
      case c2 => intro u hu; simp only [List.mem_cons, List.not_mem_nil, or_false] at hu; rcases hu with rfl | rfl | rfl <;> rfl
      case c3 => simp only [maxLen]; omega
      case c4 => omega
      case c5 => simp; omega
      intro v2 w2 hown2 hg2 _
      have hst := HR.out.step hlt HB.out hown2 hg2
      have HST := Lib.hid hst; clear hst hown2 hg2
      go_wp2
      go_roundw
      case rel => exact ⟨v2, _, _, rfl, HST.out.2, HST.out.1⟩
      case measure =>
        have h1 := HST.out.1.1
        have h2 := HR.out.1
        have := Plain.dec_pos (s.data.toList.drop p)
        rw [iterPos_of h1, iterPos_of h2]; omega
    · have hnx := fun ty => run_next_end_at (P := Tryd.prog) wr w.heap.size s p ty hk hlt
      have HR := Lib.hid hR; clear hR hk
      go_wp2
      go_ret
      obtain ⟨h1, h2, h3, h4, h5, h6⟩ := HR.out
      have he : s.data.toList.drop p = [] := List.drop_of_length_le (by simp; omega)
      rw [he, Plain.allA_nil, List.append_nil] at h2
      rw [h2]
      exact ⟨_, rfl, own_base h4 (Nat.le_succ _), h5⟩
end Go.Proofs.YtjkialgdaikijaaDoor
namespace Go.Proofs.YtjkialgdaikijaaDoor
open Go.RowKit Go.Lib
theorem at1_any (r p n a : Int) (b : Nat) (w : World) (hc : w.cell? ⟨b, 0, none⟩ = some (.int .i64 a)) (hb : b < w.heap.size) :
    Calls Tryd.prog 29 #[.agg #[.int .i32 r, .int .i64 p, .int .i64 n], .pointer (some ⟨b, 0, none⟩)] w fun e w' => e = .returned (.bool (p == a)) ∧ Below w.heap.size w w' := by
  have hc2 : ∀ o, (w.alloc o).cell? ⟨b, 0, none⟩ = some (.int .i64 a) := fun o => by rw [World.cell?_alloc_lt w o ⟨b, 0, none⟩ hb]; exact hc
  go_enter Tryd.func29, Tryd.ntmps29
  go_wp2
  go_ret
  exact ⟨rfl, (Below.refl _ _).alloc (Nat.le_refl _) _⟩
theorem ahead1_any (r p n a : Int) (b : Nat) (w : World) (hc : w.cell? ⟨b, 0, none⟩ = some (.int .i64 a)) (hb : b < w.heap.size) (h0 : 0 ≤ p) (h1 : p ≤ 4398046511104) (h2 : 0 ≤ n) (h3 : n ≤ 4398046511104) :
    Calls Tryd.prog 30 #[.agg #[.int .i32 r, .int .i64 p, .int .i64 n], .pointer (some ⟨b, 0, none⟩)] w fun e w' => e = .returned (.bool (p + n == a)) ∧ Below w.heap.size w w' := by
  have hc2 : ∀ o, (w.alloc o).cell? ⟨b, 0, none⟩ = some (.int .i64 a) := fun o => by rw [World.cell?_alloc_lt w o ⟨b, 0, none⟩ hb]; exact hc
  go_enter Tryd.func30, Tryd.ntmps30
  go_wp2
  go_ret
  exact ⟨rfl, (Below.refl _ _).alloc (Nat.le_refl _) _⟩
/-- what a search hands back -/
def foundV (o : Option Plain.Rn) : Value := .tuple #[.agg (match o with | some x => #[.int .i32 x.1, .int .i64 x.2.1, .int .i64 x.2.2] | none => #[.int .i32 0, .int .i64 0, .int .i64 0]), .bool o.isSome]
/-- what holds at the head of a round of runes.find -/
def FindRel (s : ByteArray) (w : World) (q : Plain.Rn → Bool) (wr : World) (p : Nat) : Prop :=
  wr.heap[w.heap.size + 1]? = some (.stringIter s p) ∧ wr.heap[w.heap.size]? = some (.cells #[.int .i32 0, .int .i64 0, .int .i64 0] 30 (0, 0)) ∧ (Plain.allA 0 s.data.toList).find? q = (Plain.allA p (s.data.toList.drop p)).find? q ∧ Below w.heap.size w wr ∧ w.heap.size + 1 < wr.heap.size
set_option maxRecDepth 100000 in
set_option maxHeartbeats 400000 in
theorem find_at (s : ByteArray) (a : Int) (b : Nat) (w : World) (hT : Tabs w) (hc : w.cell? ⟨b, 0, none⟩ = some (.int .i64 a)) (hb : b < w.heap.size) :
    Calls Tryd.prog 28 #[.string s, .func (Fn.func 29) #[] #[.pointer (some ⟨b, 0, none⟩)]] w fun e w' => e = .returned (foundV ((Plain.allA 0 s.data.toList).find? fun x => (x.2.1 : Int) == a)) ∧ Below w.heap.size w w' := by
  go_enter Tryd.func28, Tryd.ntmps28
  go_wp2
  go_loopw [6, 7, 8] (fun _ _ _ wr => ∃ p, p ≤ s.size ∧ FindRel s w (fun x => (x.2.1 : Int) == a) wr p) (fun _ _ _ wr => s.size - wr.iterPos (w.heap.size + 1))
  case atStart =>
    refine ⟨0, Nat.zero_le _, ?_, ?_, rfl, ((Below.refl _ _).alloc (Nat.le_refl _) _).alloc (by simp) _, ?_⟩
    · have := World.iter_heap (w.alloc (.cells #[.int .i32 0, .int .i64 0, .int .i64 0] 30)) s 0
      simpa using this
    · exact heap_alloc2_old w _ _
    · simp [World.iter, World.alloc, -World.alloc_eq]
  case round =>
    obtain ⟨p, hp, hR⟩ := hrel
    have hk := hR.1
    by_cases hlt : p < s.size
    · have hnx := fun ty => run_next_any_at (P := Tryd.prog) wr (w.heap.size + 1) s p ty hk hlt
      rw [← decodeL_drop] at hnx
      have hne : s.data.toList.drop p ≠ [] := by intro e; have := congrArg List.length e; simp at this; omega
      have hle : p + (decodeL (s.data.toList.drop p)).2 ≤ s.size := by have := decodeL_le _ hne; rw [List.length_drop] at this; simp at this; omega
      have hall : ∀ {w1 w2 : World} {o : Obj}, Below (wr.iterAt (w.heap.size + 1) s (p + (decodeL (s.data.toList.drop p)).2)).heap.size (wr.iterAt (w.heap.size + 1) s (p + (decodeL (s.data.toList.drop p)).2)) w1 → Below (w1.alloc o).heap.size (w1.alloc o) w2 → Below w.heap.size w w2 := fun {w1 w2 o} h1 h2 => by
        have h3 := below_iterAt hR.2.2.2.1 (Nat.le_succ _) s (k := w.heap.size + 1) (p + (decodeL (s.data.toList.drop p)).2)
        have h4 : Below w.heap.size w w1 := h3.trans (h1.mono (by rw [iterAt_size]; have := hR.2.2.2.2; omega))
        exact (h4.alloc h4.size o).trans (h2.mono (by simp; have := h4.size; omega))
      have hx := extract_to_end s p
      have hsx : (s.extract p s.size).size = s.size - p := by rw [size_eq, hx]; simp
      have cS : ∀ W, Tabs W → Calls Tryd.prog 26 #[.string (s.extract p s.size), .int .i32 (decodeL (s.data.toList.drop p)).1] W fun e w' => e = .returned (.int .i64 (decodeL (s.data.toList.drop p)).2) ∧ Below W.heap.size W w' := fun W hTW => by
        have := size_any (s.extract p s.size) (decodeL (s.data.toList.drop p)).1 W (by omega) (by rw [hx]) hTW
        rw [hx] at this; exact this
      have hbi := below_iterAt hR.2.2.2.1 (Nat.le_succ _) s (k := w.heap.size + 1) (p + (decodeL (s.data.toList.drop p)).2)
      have hTi : Tabs (wr.iterAt (w.heap.size + 1) s (p + (decodeL (s.data.toList.drop p)).2)) := hT.below hbi
      have HS := Lib.hid cS; clear cS
      have HR := Lib.hid hR; clear hR hk hx hsx
      have HC := Lib.hid hc; clear hc
      have HBI := Lib.hid hbi; clear hbi
      go_wp2_with fail
      refine (HS.out _ hTi).mono ?_
      rintro e w1 ⟨rfl, hb1⟩
      have hcb : (w1.alloc (.cells #[.int .i32 (decodeL (s.data.toList.drop p)).1, .int .i64 p, .int .i64 (decodeL (s.data.toList.drop p)).2] 30)).cell? ⟨b, 0, none⟩ = some (.int .i64 a) := by
        have h1 : w1.cell? ⟨b, 0, none⟩ = some (.int .i64 a) := by
          rw [hb1.cell (p := ⟨b, 0, none⟩) (by rw [iterAt_size]; have := HR.out.2.2.2.2; show b < _; omega), HBI.out.cell (p := ⟨b, 0, none⟩) hb]; exact HC.out
        rw [World.cell?_alloc_lt w1 _ ⟨b, 0, none⟩ (by have := hb1.size; rw [iterAt_size] at this; have := HR.out.2.2.2.2; show b < _; omega)]; exact h1
      have hlt1 : b < w1.heap.size + 1 := by have := hb1.size; rw [iterAt_size] at this; have := HR.out.2.2.2.2; omega
      have HB := Lib.hid hb1; clear hb1
      have HCB := Lib.hid hcb; clear hcb
      have ht : ∀ u, Plain.allA p (s.data.toList.drop p) = ((decodeL (s.data.toList.drop p)).1, p, (decodeL (s.data.toList.drop p)).2) :: u → True := fun _ _ => trivial
      clear ht
      by_cases hq : ((p : Int) == a) = true
      · go_wp2_with fail
        refine (at1_any _ _ _ _ _ _ HCB.out (by simp; omega)).mono ?_
        rintro e w2 ⟨rfl, hb2⟩
        have hblk : ∀ j, w2.cell? ⟨w1.heap.size, j, none⟩ = #[Value.int .i32 (decodeL (s.data.toList.drop p)).1, .int .i64 p, .int .i64 (decodeL (s.data.toList.drop p)).2][j]? := fun j => by
          rw [hb2.cell (p := ⟨w1.heap.size, j, none⟩) (by simp), cell_of_row _ _ _ _ _ _ (heap_alloc_new _ _)]
        have l0 := hblk 0
        have l1 := hblk 1
        have l2 := hblk 2
        have hres : w2.heap[w.heap.size]? = some (.cells #[.int .i32 0, .int .i64 0, .int .i64 0] 30 (0, 0)) := by
          have h5 := HR.out.2.2.2.2
          have h6 := HB.out.size
          rw [iterAt_size] at h6
          rw [hb2.block w.heap.size (by simp; omega), Below.heap_alloc _ _ _ (by omega), HB.out.block w.heap.size (by rw [iterAt_size]; omega), iterAt_other _ _ _ _ _ (by omega)]
          exact HR.out.2.1
        have m0 := cell_of_row w2 w.heap.size 0 _ _ _ hres
        have m1 := cell_of_row w2 w.heap.size 1 _ _ _ hres
        have m2 := cell_of_row w2 w.heap.size 2 _ _ _ hres
        have f0 := frozen_of_row w2 w.heap.size 0 _ _ hres
        have f1 := frozen_of_row w2 w.heap.size 1 _ _ hres
        have f2 := frozen_of_row w2 w.heap.size 2 _ _ hres
        have HRES := Lib.hid hres
        have HB2 := Lib.hid hb2; clear hb2 hres hblk
        simp at l0 l1 l2 m0 m1 m2
        go_wp2_with fail
        refine bodyPost_ret (v := .tuple #[.agg #[.int .i32 (decodeL (s.data.toList.drop p)).1, .int .i64 p, .int .i64 (decodeL (s.data.toList.drop p)).2], .bool true]) (by simp [results, Tryd.results28, go_sem, m0, m1, m2]) rfl ⟨?_, ?_⟩
        · have hf := HR.out.2.2.1
          rw [Plain.allA_step p _ hne, List.find?_cons_of_pos (by exact hq)] at hf
          rw [hf]; rfl
        · exact (((hall HB.out HB2.out).setCell (Nat.le_refl _) _).setCell (Nat.le_refl _) _).setCell (Nat.le_refl _) _
      · rw [Bool.not_eq_true] at hq
        go_wp2_with fail
        refine (at1_any _ _ _ _ _ _ HCB.out (by simp; omega)).mono ?_
        rintro e w2 ⟨rfl, hb2⟩
        have h5 := HR.out.2.2.2.2
        have h6 := HB.out.size
        rw [iterAt_size] at h6
        have hi2 : w2.heap[w.heap.size + 1]? = some (.stringIter s (p + (decodeL (s.data.toList.drop p)).2)) := by
          rw [hb2.block (w.heap.size + 1) (by simp; omega), Below.heap_alloc _ _ _ (by omega), HB.out.block (w.heap.size + 1) (by rw [iterAt_size]; omega), iterAt_heap _ _ _ _ _ HR.out.1]
        have hn : FindRel s w (fun x => (x.2.1 : Int) == a) w2 (p + (decodeL (s.data.toList.drop p)).2) := by
          refine ⟨hi2, ?_, ?_, hall HB.out hb2, ?_⟩
          · rw [hb2.block w.heap.size (by simp; omega), Below.heap_alloc _ _ _ (by omega), HB.out.block w.heap.size (by rw [iterAt_size]; omega), iterAt_other _ _ _ _ _ (by omega)]
            exact HR.out.2.1
          · rw [HR.out.2.2.1, Plain.allA_step p _ hne, List.find?_cons_of_neg (by rw [hq]; simp), List.drop_drop]
          · have := hb2.size; simp at this; omega
        have HN := Lib.hid hn
        clear hn hi2 hb2 h5 h6
        go_wp2
        go_roundw
        case rel => exact ⟨_, hle, HN.out⟩
        case measure =>
          have := Plain.dec_pos (s.data.toList.drop p)
          rw [iterPos_of HN.out.1, iterPos_of HR.out.1]; omega
    · have hnx := fun ty => run_next_end_at (P := Tryd.prog) wr (w.heap.size + 1) s p ty hk hlt
      have hres := hR.2.1
      have m0 := cell_of_row wr w.heap.size 0 _ _ _ hres
      have m1 := cell_of_row wr w.heap.size 1 _ _ _ hres
      have m2 := cell_of_row wr w.heap.size 2 _ _ _ hres
      have f0 := frozen_of_row wr w.heap.size 0 _ _ hres
      have f1 := frozen_of_row wr w.heap.size 1 _ _ hres
      have f2 := frozen_of_row wr w.heap.size 2 _ _ hres
      have HR := Lib.hid hR; clear hR hk hres
      simp at m0 m1 m2
      go_wp2
      refine bodyPost_ret (v := .tuple #[.agg #[.int .i32 0, .int .i64 0, .int .i64 0], .bool false]) (by simp [results, Tryd.results28, go_sem, m0, m1, m2]) rfl ⟨?_, ?_⟩
      · have he : s.data.toList.drop p = [] := List.drop_of_length_le (by simp; omega)
        rw [HR.out.2.2.1, he, Plain.allA_nil]; rfl
      · exact (((HR.out.2.2.2.1).setCell (Nat.le_refl _) _).setCell (Nat.le_refl _) _).setCell (Nat.le_refl _) _
set_option maxRecDepth 100000 in
set_option maxHeartbeats 400000 in
theorem find_ahead (s : ByteArray) (a : Int) (b : Nat) (w : World) (hs : s.size ≤ 4398046511104) (hT : Tabs w) (hc : w.cell? ⟨b, 0, none⟩ = some (.int .i64 a)) (hb : b < w.heap.size) :
    Calls Tryd.prog 28 #[.string s, .func (Fn.func 30) #[] #[.pointer (some ⟨b, 0, none⟩)]] w fun e w' => e = .returned (foundV ((Plain.allA 0 s.data.toList).find? fun x => (x.2.1 : Int) + x.2.2 == a)) ∧ Below w.heap.size w w' := by
  go_enter Tryd.func28, Tryd.ntmps28
  go_wp2
  go_loopw [6, 7, 8] (fun _ _ _ wr => ∃ p, p ≤ s.size ∧ FindRel s w (fun x => (x.2.1 : Int) + x.2.2 == a) wr p) (fun _ _ _ wr => s.size - wr.iterPos (w.heap.size + 1))
  case atStart =>
    refine ⟨0, Nat.zero_le _, ?_, ?_, rfl, ((Below.refl _ _).alloc (Nat.le_refl _) _).alloc (by simp) _, ?_⟩
    · have := World.iter_heap (w.alloc (.cells #[.int .i32 0, .int .i64 0, .int .i64 0] 30)) s 0
      simpa using this
    · exact heap_alloc2_old w _ _
    · simp [World.iter, World.alloc, -World.alloc_eq]
  case round =>
    obtain ⟨p, hp, hR⟩ := hrel
    have hk := hR.1
    by_cases hlt : p < s.size
    · have hnx := fun ty => run_next_any_at (P := Tryd.prog) wr (w.heap.size + 1) s p ty hk hlt
      rw [← decodeL_drop] at hnx
      have hne : s.data.toList.drop p ≠ [] := by intro e; have := congrArg List.length e; simp at this; omega
      have hle : p + (decodeL (s.data.toList.drop p)).2 ≤ s.size := by have := decodeL_le _ hne; rw [List.length_drop] at this; simp at this; omega
      have hall : ∀ {w1 w2 : World} {o : Obj}, Below (wr.iterAt (w.heap.size + 1) s (p + (decodeL (s.data.toList.drop p)).2)).heap.size (wr.iterAt (w.heap.size + 1) s (p + (decodeL (s.data.toList.drop p)).2)) w1 → Below (w1.alloc o).heap.size (w1.alloc o) w2 → Below w.heap.size w w2 := fun {w1 w2 o} h1 h2 => by
        have h3 := below_iterAt hR.2.2.2.1 (Nat.le_succ _) s (k := w.heap.size + 1) (p + (decodeL (s.data.toList.drop p)).2)
        have h4 : Below w.heap.size w w1 := h3.trans (h1.mono (by rw [iterAt_size]; have := hR.2.2.2.2; omega))
        exact (h4.alloc h4.size o).trans (h2.mono (by simp; have := h4.size; omega))
      have hx := extract_to_end s p
      have hsx : (s.extract p s.size).size = s.size - p := by rw [size_eq, hx]; simp
      have cS : ∀ W, Tabs W → Calls Tryd.prog 26 #[.string (s.extract p s.size), .int .i32 (decodeL (s.data.toList.drop p)).1] W fun e w' => e = .returned (.int .i64 (decodeL (s.data.toList.drop p)).2) ∧ Below W.heap.size W w' := fun W hTW => by
        have := size_any (s.extract p s.size) (decodeL (s.data.toList.drop p)).1 W (by omega) (by rw [hx]) hTW
        rw [hx] at this; exact this
      have hbi := below_iterAt hR.2.2.2.1 (Nat.le_succ _) s (k := w.heap.size + 1) (p + (decodeL (s.data.toList.drop p)).2)
      have hTi : Tabs (wr.iterAt (w.heap.size + 1) s (p + (decodeL (s.data.toList.drop p)).2)) := hT.below hbi
      have HS := Lib.hid cS; clear cS
      have h4z := Plain.dec_four (s.data.toList.drop p)
      have HR := Lib.hid hR; clear hR hk hx hsx
      have HC := Lib.hid hc; clear hc
      have HBI := Lib.hid hbi; clear hbi
      go_wp2_with fail
      refine (HS.out _ hTi).mono ?_
      rintro e w1 ⟨rfl, hb1⟩
      have hcb : (w1.alloc (.cells #[.int .i32 (decodeL (s.data.toList.drop p)).1, .int .i64 p, .int .i64 (decodeL (s.data.toList.drop p)).2] 30)).cell? ⟨b, 0, none⟩ = some (.int .i64 a) := by
        have h1 : w1.cell? ⟨b, 0, none⟩ = some (.int .i64 a) := by
          rw [hb1.cell (p := ⟨b, 0, none⟩) (by rw [iterAt_size]; have := HR.out.2.2.2.2; show b < _; omega), HBI.out.cell (p := ⟨b, 0, none⟩) hb]; exact HC.out
        rw [World.cell?_alloc_lt w1 _ ⟨b, 0, none⟩ (by have := hb1.size; rw [iterAt_size] at this; have := HR.out.2.2.2.2; show b < _; omega)]; exact h1
      have hlt1 : b < w1.heap.size + 1 := by have := hb1.size; rw [iterAt_size] at this; have := HR.out.2.2.2.2; omega
      have HB := Lib.hid hb1; clear hb1
      have HCB := Lib.hid hcb; clear hcb
      have ht : ∀ u, Plain.allA p (s.data.toList.drop p) = ((decodeL (s.data.toList.drop p)).1, p, (decodeL (s.data.toList.drop p)).2) :: u → True := fun _ _ => trivial
      clear ht
      by_cases hq : ((p : Int) + (decodeL (s.data.toList.drop p)).2 == a) = true
      · go_wp2_with fail
        refine (ahead1_any _ _ _ _ _ _ HCB.out (by simp; omega) (by omega) (by omega) (by omega) (by omega)).mono ?_
        rintro e w2 ⟨rfl, hb2⟩
        have hblk : ∀ j, w2.cell? ⟨w1.heap.size, j, none⟩ = #[Value.int .i32 (decodeL (s.data.toList.drop p)).1, .int .i64 p, .int .i64 (decodeL (s.data.toList.drop p)).2][j]? := fun j => by
          rw [hb2.cell (p := ⟨w1.heap.size, j, none⟩) (by simp), cell_of_row _ _ _ _ _ _ (heap_alloc_new _ _)]
        have l0 := hblk 0
        have l1 := hblk 1
        have l2 := hblk 2
        have hres : w2.heap[w.heap.size]? = some (.cells #[.int .i32 0, .int .i64 0, .int .i64 0] 30 (0, 0)) := by
          have h5 := HR.out.2.2.2.2
          have h6 := HB.out.size
          rw [iterAt_size] at h6
          rw [hb2.block w.heap.size (by simp; omega), Below.heap_alloc _ _ _ (by omega), HB.out.block w.heap.size (by rw [iterAt_size]; omega), iterAt_other _ _ _ _ _ (by omega)]
          exact HR.out.2.1
        have m0 := cell_of_row w2 w.heap.size 0 _ _ _ hres
        have m1 := cell_of_row w2 w.heap.size 1 _ _ _ hres
        have m2 := cell_of_row w2 w.heap.size 2 _ _ _ hres
        have f0 := frozen_of_row w2 w.heap.size 0 _ _ hres
        have f1 := frozen_of_row w2 w.heap.size 1 _ _ hres
        have f2 := frozen_of_row w2 w.heap.size 2 _ _ hres
        have HRES := Lib.hid hres
        have HB2 := Lib.hid hb2; clear hb2 hres hblk
        simp at l0 l1 l2 m0 m1 m2
        go_wp2_with fail
        refine bodyPost_ret (v := .tuple #[.agg #[.int .i32 (decodeL (s.data.toList.drop p)).1, .int .i64 p, .int .i64 (decodeL (s.data.toList.drop p)).2], .bool true]) (by simp [results, Tryd.results28, go_sem, m0, m1, m2]) rfl ⟨?_, ?_⟩
        · have hf := HR.out.2.2.1
          rw [Plain.allA_step p _ hne, List.find?_cons_of_pos (by exact hq)] at hf
          rw [hf]; rfl
        · exact (((hall HB.out HB2.out).setCell (Nat.le_refl _) _).setCell (Nat.le_refl _) _).setCell (Nat.le_refl _) _
      · rw [Bool.not_eq_true] at hq
        go_wp2_with fail
        refine (ahead1_any _ _ _ _ _ _ HCB.out (by simp; omega) (by omega) (by omega) (by omega) (by omega)).mono ?_
        rintro e w2 ⟨rfl, hb2⟩
        have h5 := HR.out.2.2.2.2
        have h6 := HB.out.size
        rw [iterAt_size] at h6
        have hi2 : w2.heap[w.heap.size + 1]? = some (.stringIter s (p + (decodeL (s.data.toList.drop p)).2)) := by
          rw [hb2.block (w.heap.size + 1) (by simp; omega), Below.heap_alloc _ _ _ (by omega), HB.out.block (w.heap.size + 1) (by rw [iterAt_size]; omega), iterAt_heap _ _ _ _ _ HR.out.1]
        have hn : FindRel s w (fun x => (x.2.1 : Int) + x.2.2 == a) w2 (p + (decodeL (s.data.toList.drop p)).2) := by
          refine ⟨hi2, ?_, ?_, hall HB.out hb2, ?_⟩
          · rw [hb2.block w.heap.size (by simp; omega), Below.heap_alloc _ _ _ (by omega), HB.out.block w.heap.size (by rw [iterAt_size]; omega), iterAt_other _ _ _ _ _ (by omega)]
            exact HR.out.2.1
          · rw [HR.out.2.2.1, Plain.allA_step p _ hne, List.find?_cons_of_neg (by rw [hq]; simp), List.drop_drop]
          · have := hb2.size; simp at this; omega
        have HN := Lib.hid hn
        clear hn hi2 hb2 h5 h6
        go_wp2
        go_roundw
        case rel => exact ⟨_, hle, HN.out⟩
        case measure =>
          have := Plain.dec_pos (s.data.toList.drop p)
          rw [iterPos_of HN.out.1, iterPos_of HR.out.1]; omega
    · have hnx := fun ty => run_next_end_at (P := Tryd.prog) wr (w.heap.size + 1) s p ty hk hlt
      have hres := hR.2.1
      have m0 := cell_of_row wr w.heap.size 0 _ _ _ hres
      have m1 := cell_of_row wr w.heap.size 1 _ _ _ hres
      have m2 := cell_of_row wr w.heap.size 2 _ _ _ hres
      have f0 := frozen_of_row wr w.heap.size 0 _ _ hres
      have f1 := frozen_of_row wr w.heap.size 1 _ _ hres
      have f2 := frozen_of_row wr w.heap.size 2 _ _ hres
      have HR := Lib.hid hR; clear hR hk hres
      simp at m0 m1 m2
      go_wp2
      refine bodyPost_ret (v := .tuple #[.agg #[.int .i32 0, .int .i64 0, .int .i64 0], .bool false]) (by simp [results, Tryd.results28, go_sem, m0, m1, m2]) rfl ⟨?_, ?_⟩
      · have he : s.data.toList.drop p = [] := List.drop_of_length_le (by simp; omega)
        rw [HR.out.2.2.1, he, Plain.allA_nil]; rfl
      · exact (((HR.out.2.2.2.1).setCell (Nat.le_refl _) _).setCell (Nat.le_refl _) _).setCell (Nat.le_refl _) _
end Go.Proofs.YtjkialgdaikijaaDoor
namespace Go.Proofs.YtjkialgdaikijaaDoor
open Go.RowKit Go.Lib

set_option maxRecDepth 100000 in
theorem at_any (s : ByteArray) (a : Int) (w : World) (hT : Tabs w) :
    Calls Tryd.prog 12 #[.string s, .int .i64 a] w fun e w' => e = .returned (foundV ((Plain.allA 0 s.data.toList).find? fun x => (x.2.1 : Int) == a)) ∧ Below w.heap.size w w' := by
  obtain ⟨W0, hW0⟩ : ∃ W0, W0 = (w.alloc (.cells #[.int .i64 a] 3)).alloc (.cells #[.int .i32 0, .int .i64 0, .int .i64 0] 30) := ⟨_, rfl⟩
  have hB0 : Below w.heap.size w W0 := by subst hW0; exact ((Below.refl _ _).alloc (Nat.le_refl _) _).alloc (by simp) _
  have hz : W0.heap.size = w.heap.size + 2 := by subst hW0; simp
  have hc0 : W0.cell? ⟨w.heap.size, 0, none⟩ = some (.int .i64 a) := by subst hW0; rw [cell_of_row _ _ _ _ _ _ (heap_alloc2_old _ _ _)]; rfl
  have hr0 : W0.heap[w.heap.size + 1]? = some (.cells #[.int .i32 0, .int .i64 0, .int .i64 0] 30 (0, 0)) := by subst hW0; exact heap_alloc2_new w _ _
  have cF := find_at s a w.heap.size W0 (hT.below hB0) hc0 (by omega)
  cases ho : (Plain.allA 0 s.data.toList).find? fun x => (x.2.1 : Int) == a with
  | none =>
    rw [ho] at cF
    have cF : Calls Tryd.prog 28 #[.string s, .func (Fn.func 29) #[] #[.pointer (some ⟨w.heap.size, 0, none⟩)]] W0 fun e w' => e = .returned (.tuple #[.agg #[.int .i32 0, .int .i64 0, .int .i64 0], .bool false]) ∧ Below W0.heap.size W0 w' := cF
    rw [hW0] at cF
    have HF := Lib.hid cF
    have H0 := Lib.hid hW0
    have HB0 := Lib.hid hB0
    have HR0 := Lib.hid hr0
    have HZ := Lib.hid hz
    clear cF hc0 hW0 hB0 hr0 hz ho
    go_enter Tryd.func12, Tryd.ntmps12
    go_wp2_with fail
    refine HF.out.mono ?_
    rintro e w1 ⟨rfl, hb1⟩
    rw [← H0.out] at hb1
    have hr1 : w1.heap[w.heap.size + 1]? = some (.cells #[.int .i32 0, .int .i64 0, .int .i64 0] 30 (0, 0)) := by rw [hb1.block _ (by rw [HZ.out]; omega)]; exact HR0.out
    have m0 := cell_of_row w1 (w.heap.size + 1) 0 _ _ _ hr1
    have m1 := cell_of_row w1 (w.heap.size + 1) 1 _ _ _ hr1
    have m2 := cell_of_row w1 (w.heap.size + 1) 2 _ _ _ hr1
    have f0 := frozen_of_row w1 (w.heap.size + 1) 0 _ _ hr1
    have f1 := frozen_of_row w1 (w.heap.size + 1) 1 _ _ hr1
    have f2 := frozen_of_row w1 (w.heap.size + 1) 2 _ _ hr1
    simp at m0 m1 m2
    have HB1 := Lib.hid hb1
    clear hb1 hr1
    go_wp2_with fail
    refine bodyPost_ret (v := .tuple #[.agg #[.int .i32 0, .int .i64 0, .int .i64 0], .bool false]) (by simp [results, Tryd.results12, go_sem, m0, m1, m2]) rfl ⟨rfl, ?_⟩
    exact (((HB0.out.trans (HB1.out.mono (by rw [HZ.out]; omega))).setCell (by simp) _).setCell (by simp) _).setCell (by simp) _
  | some x =>
    rw [ho] at cF
    have cF : Calls Tryd.prog 28 #[.string s, .func (Fn.func 29) #[] #[.pointer (some ⟨w.heap.size, 0, none⟩)]] W0 fun e w' => e = .returned (.tuple #[.agg #[.int .i32 x.1, .int .i64 x.2.1, .int .i64 x.2.2], .bool true]) ∧ Below W0.heap.size W0 w' := cF
    rw [hW0] at cF
    have HF := Lib.hid cF
    have H0 := Lib.hid hW0
    have HB0 := Lib.hid hB0
    have HR0 := Lib.hid hr0
    have HZ := Lib.hid hz
    clear cF hc0 hW0 hB0 hr0 hz ho
    go_enter Tryd.func12, Tryd.ntmps12
    go_wp2_with fail
    refine HF.out.mono ?_
    rintro e w1 ⟨rfl, hb1⟩
    rw [← H0.out] at hb1
    have hr1 : w1.heap[w.heap.size + 1]? = some (.cells #[.int .i32 0, .int .i64 0, .int .i64 0] 30 (0, 0)) := by rw [hb1.block _ (by rw [HZ.out]; omega)]; exact HR0.out
    have m0 := cell_of_row w1 (w.heap.size + 1) 0 _ _ _ hr1
    have m1 := cell_of_row w1 (w.heap.size + 1) 1 _ _ _ hr1
    have m2 := cell_of_row w1 (w.heap.size + 1) 2 _ _ _ hr1
    have f0 := frozen_of_row w1 (w.heap.size + 1) 0 _ _ hr1
    have f1 := frozen_of_row w1 (w.heap.size + 1) 1 _ _ hr1
    have f2 := frozen_of_row w1 (w.heap.size + 1) 2 _ _ hr1
    simp at m0 m1 m2
    have HB1 := Lib.hid hb1
    clear hb1 hr1
    go_wp2_with fail
    refine bodyPost_ret (v := .tuple #[.agg #[.int .i32 x.1, .int .i64 x.2.1, .int .i64 x.2.2], .bool true]) (by simp [results, Tryd.results12, go_sem, m0, m1, m2]) rfl ⟨rfl, ?_⟩
    exact (((HB0.out.trans (HB1.out.mono (by rw [HZ.out]; omega))).setCell (by simp) _).setCell (by simp) _).setCell (by simp) _

set_option maxRecDepth 100000 in
theorem ahead_any (s : ByteArray) (a : Int) (w : World) (hs : s.size ≤ 4398046511104) (hT : Tabs w) :
    Calls Tryd.prog 14 #[.string s, .int .i64 a] w fun e w' => e = .returned (foundV ((Plain.allA 0 s.data.toList).find? fun x => (x.2.1 : Int) + x.2.2 == a)) ∧ Below w.heap.size w w' := by
  obtain ⟨W0, hW0⟩ : ∃ W0, W0 = (w.alloc (.cells #[.int .i64 a] 3)).alloc (.cells #[.int .i32 0, .int .i64 0, .int .i64 0] 30) := ⟨_, rfl⟩
  have hB0 : Below w.heap.size w W0 := by subst hW0; exact ((Below.refl _ _).alloc (Nat.le_refl _) _).alloc (by simp) _
  have hz : W0.heap.size = w.heap.size + 2 := by subst hW0; simp
  have hc0 : W0.cell? ⟨w.heap.size, 0, none⟩ = some (.int .i64 a) := by subst hW0; rw [cell_of_row _ _ _ _ _ _ (heap_alloc2_old _ _ _)]; rfl
  have hr0 : W0.heap[w.heap.size + 1]? = some (.cells #[.int .i32 0, .int .i64 0, .int .i64 0] 30 (0, 0)) := by subst hW0; exact heap_alloc2_new w _ _
  have cF := find_ahead s a w.heap.size W0 hs (hT.below hB0) hc0 (by omega)
  cases ho : (Plain.allA 0 s.data.toList).find? fun x => (x.2.1 : Int) + x.2.2 == a with
  | none =>
    rw [ho] at cF
    have cF : Calls Tryd.prog 28 #[.string s, .func (Fn.func 30) #[] #[.pointer (some ⟨w.heap.size, 0, none⟩)]] W0 fun e w' => e = .returned (.tuple #[.agg #[.int .i32 0, .int .i64 0, .int .i64 0], .bool false]) ∧ Below W0.heap.size W0 w' := cF
    rw [hW0] at cF
    have HF := Lib.hid cF
    have H0 := Lib.hid hW0
    have HB0 := Lib.hid hB0
    have HR0 := Lib.hid hr0
    have HZ := Lib.hid hz
    clear cF hc0 hW0 hB0 hr0 hz ho
    go_enter Tryd.func14, Tryd.ntmps14
    go_wp2_with fail
    refine HF.out.mono ?_
    rintro e w1 ⟨rfl, hb1⟩
    rw [← H0.out] at hb1
    have hr1 : w1.heap[w.heap.size + 1]? = some (.cells #[.int .i32 0, .int .i64 0, .int .i64 0] 30 (0, 0)) := by rw [hb1.block _ (by rw [HZ.out]; omega)]; exact HR0.out
    have m0 := cell_of_row w1 (w.heap.size + 1) 0 _ _ _ hr1
    have m1 := cell_of_row w1 (w.heap.size + 1) 1 _ _ _ hr1
    have m2 := cell_of_row w1 (w.heap.size + 1) 2 _ _ _ hr1
    have f0 := frozen_of_row w1 (w.heap.size + 1) 0 _ _ hr1
    have f1 := frozen_of_row w1 (w.heap.size + 1) 1 _ _ hr1
    have f2 := frozen_of_row w1 (w.heap.size + 1) 2 _ _ hr1
    simp at m0 m1 m2
    have HB1 := Lib.hid hb1
    clear hb1 hr1
    go_wp2_with fail
    refine bodyPost_ret (v := .tuple #[.agg #[.int .i32 0, .int .i64 0, .int .i64 0], .bool false]) (by simp [results, Tryd.results14, go_sem, m0, m1, m2]) rfl ⟨rfl, ?_⟩
    exact (((HB0.out.trans (HB1.out.mono (by rw [HZ.out]; omega))).setCell (by simp) _).setCell (by simp) _).setCell (by simp) _
  | some x =>
    rw [ho] at cF
    have cF : Calls Tryd.prog 28 #[.string s, .func (Fn.func 30) #[] #[.pointer (some ⟨w.heap.size, 0, none⟩)]] W0 fun e w' => e = .returned (.tuple #[.agg #[.int .i32 x.1, .int .i64 x.2.1, .int .i64 x.2.2], .bool true]) ∧ Below W0.heap.size W0 w' := cF
    rw [hW0] at cF
    have HF := Lib.hid cF
    have H0 := Lib.hid hW0
    have HB0 := Lib.hid hB0
    have HR0 := Lib.hid hr0
    have HZ := Lib.hid hz
    clear cF hc0 hW0 hB0 hr0 hz ho
    go_enter Tryd.func14, Tryd.ntmps14
    go_wp2_with fail
    refine HF.out.mono ?_
    rintro e w1 ⟨rfl, hb1⟩
    rw [← H0.out] at hb1
    have hr1 : w1.heap[w.heap.size + 1]? = some (.cells #[.int .i32 0, .int .i64 0, .int .i64 0] 30 (0, 0)) := by rw [hb1.block _ (by rw [HZ.out]; omega)]; exact HR0.out
    have m0 := cell_of_row w1 (w.heap.size + 1) 0 _ _ _ hr1
    have m1 := cell_of_row w1 (w.heap.size + 1) 1 _ _ _ hr1
    have m2 := cell_of_row w1 (w.heap.size + 1) 2 _ _ _ hr1
    have f0 := frozen_of_row w1 (w.heap.size + 1) 0 _ _ hr1
    have f1 := frozen_of_row w1 (w.heap.size + 1) 1 _ _ hr1
    have f2 := frozen_of_row w1 (w.heap.size + 1) 2 _ _ hr1
    simp at m0 m1 m2
    have HB1 := Lib.hid hb1
    clear hb1 hr1
    go_wp2_with fail
    refine bodyPost_ret (v := .tuple #[.agg #[.int .i32 x.1, .int .i64 x.2.1, .int .i64 x.2.2], .bool true]) (by simp [results, Tryd.results14, go_sem, m0, m1, m2]) rfl ⟨rfl, ?_⟩
    exact (((HB0.out.trans (HB1.out.mono (by rw [HZ.out]; omega))).setCell (by simp) _).setCell (by simp) _).setCell (by simp) _

theorem right_any (r : Int) (w : World) : Calls Tryd.prog 20 #[.int .i32 r] w fun e w' => e = .returned (.bool (Lib.validRune r)) ∧ w = w' := by
  go_enter Tryd.func20, Tryd.ntmps20
  go_wp2_with (go_at_call 31; refine (Tryd.utf8_ValidRune _ _).mono ?_; rintro e w' ⟨rfl, rfl⟩)
  go_ret
  exact ⟨rfl, rfl⟩
theorem put_any (r : Int) (w : World) : Calls Tryd.prog 22 #[.int .i32 r] w fun e w' => e = .returned (.string (Utf8.encode r)) ∧ w = w' := by
  go_enter Tryd.func22, Tryd.ntmps22
  go_wp2
  go_ret
  exact ⟨rfl, rfl⟩
theorem word_any (r : Int) (w : World) : Calls Tryd.prog 24 #[.int .i32 r] w fun e w' => e = .returned (.bool (Plain.wordB r)) ∧ w = w' := by
  by_cases h1 : 48 ≤ r <;> by_cases h2 : r ≤ 57 <;> by_cases h3 : 65 ≤ r <;> by_cases h4 : r ≤ 90 <;> by_cases h5 : 97 ≤ r <;> by_cases h6 : r ≤ 122 <;> by_cases h7 : r = 95 <;> first | (exfalso; omega) | skip
  all_goals
    go_enter Tryd.func24, Tryd.ntmps24
    go_wp2
    go_ret
    refine ⟨?_, rfl⟩
    unfold Plain.wordB
    congr 1
    all_goals first | (simp; done) | (simp; omega)
end Go.Proofs.YtjkialgdaikijaaDoor
namespace Go.Proofs.YtjkialgdaikijaaDoor
open Go.RowKit Go.Lib
theorem find_isSome {α : Type} (L : List α) (q : α → Bool) : (L.find? q).isSome = L.any q := by
  rw [Bool.eq_iff_iff]; simp
set_option maxRecDepth 100000 in
theorem place_any (s : ByteArray) (a : Int) (w : World) (hs : s.size ≤ 4398046511104) (hT : Tabs w) :
    Calls Tryd.prog 16 #[.string s, .int .i64 a] w fun e w' => e = .returned (.bool (Plain.placeB (Plain.allA 0 s.data.toList) a)) ∧ Below w.heap.size w w' := by
  have cA := ahead_any s a w hs hT
  cases ho : (Plain.allA 0 s.data.toList).find? fun x => (x.2.1 : Int) + x.2.2 == a with
  | none =>
    rw [ho] at cA
    have cA : Calls Tryd.prog 14 #[.string s, .int .i64 a] w fun e w' => e = .returned (.tuple #[.agg #[.int .i32 0, .int .i64 0, .int .i64 0], .bool false]) ∧ Below w.heap.size w w' := cA
    have hany : (Plain.allA 0 s.data.toList).any (fun x => (x.2.1 : Int) + x.2.2 == a) = false := by rw [← find_isSome, ho]; rfl
    have HA := Lib.hid cA
    have HY := Lib.hid hany
    clear cA hany ho
    go_enter Tryd.func16, Tryd.ntmps16
    go_wp2_with fail
    refine HA.out.mono ?_
    rintro e w1 ⟨rfl, hb1⟩
    have HB1 := Lib.hid hb1
    clear hb1
    go_wp2_with fail
    go_ret
    refine ⟨?_, HB1.out.alloc HB1.out.size _⟩
    unfold Plain.placeB
    rw [HY.out]; rfl
  | some x =>
    rw [ho] at cA
    have cA : Calls Tryd.prog 14 #[.string s, .int .i64 a] w fun e w' => e = .returned (.tuple #[.agg #[.int .i32 x.1, .int .i64 x.2.1, .int .i64 x.2.2], .bool true]) ∧ Below w.heap.size w w' := cA
    have hany : (Plain.allA 0 s.data.toList).any (fun x => (x.2.1 : Int) + x.2.2 == a) = true := by rw [← find_isSome, ho]; rfl
    have HA := Lib.hid cA
    have HY := Lib.hid hany
    clear cA hany ho
    go_enter Tryd.func16, Tryd.ntmps16
    go_wp2_with fail
    refine HA.out.mono ?_
    rintro e w1 ⟨rfl, hb1⟩
    have HB1 := Lib.hid hb1
    clear hb1
    go_wp2_with fail
    go_ret
    refine ⟨?_, HB1.out.alloc HB1.out.size _⟩
    unfold Plain.placeB
    rw [HY.out]; rfl

set_option maxRecDepth 100000 in
theorem edge_none_none (s : ByteArray) (a : Int) (w : World) (hs : s.size ≤ 4398046511104) (hT : Tabs w) (h1 : (Plain.allA 0 s.data.toList).find? (fun x => (x.2.1 : Int) + x.2.2 == a) = none) (h2 : (Plain.allA 0 s.data.toList).find? (fun x => (x.2.1 : Int) == a) = none) :
    Calls Tryd.prog 18 #[.string s, .int .i64 a] w fun e w' => e = .returned (.bool (Plain.edgeB (Plain.allA 0 s.data.toList) a)) ∧ Below w.heap.size w w' := by
  have cA := ahead_any s a w hs hT
  rw [h1] at cA
  have cA : Calls Tryd.prog 14 #[.string s, .int .i64 a] w fun e w' => e = .returned (.tuple #[.agg #[.int .i32 0, .int .i64 0, .int .i64 0], .bool false]) ∧ Below w.heap.size w w' := cA
  have cB : ∀ W, Tabs W → Calls Tryd.prog 12 #[.string s, .int .i64 a] W fun e w' => e = .returned (.tuple #[.agg #[.int .i32 0, .int .i64 0, .int .i64 0], .bool false]) ∧ Below W.heap.size W w' := fun W hW => by
    have := at_any s a W hW
    rw [h2] at this
    exact this
  have hfin : Plain.edgeB (Plain.allA 0 s.data.toList) a = (false != false) := by unfold Plain.edgeB; rw [h1, h2]; rfl
  have HA := Lib.hid cA
  have HC := Lib.hid cB
  have HF := Lib.hid hfin
  clear cA cB hfin h1 h2
  go_enter Tryd.func18, Tryd.ntmps18
  go_wp2_with fail
  refine HA.out.mono ?_
  rintro e w1 ⟨rfl, hb1⟩
  have hB1 : Below w.heap.size w (w1.alloc (.cells #[.int .i32 0, .int .i64 0, .int .i64 0] 30)) := hb1.alloc hb1.size _
  have hz1 : w.heap.size ≤ w1.heap.size := hb1.size
  have hT1 := hT.below hB1
  have HB1 := Lib.hid hB1
  clear hb1 hB1
  go_wp2_with fail
  refine (HC.out _ hT1).mono ?_
  rintro e w2 ⟨rfl, hb2⟩
  have hx0 : w2.cell? ⟨w1.heap.size, 0, none⟩ = some (.int .i32 0) := by
    rw [hb2.cell (p := ⟨w1.heap.size, 0, none⟩) (by simp), cell_of_row _ _ _ _ _ _ (heap_alloc_new _ _)]; rfl
  have hx1 : ∀ O, (w2.alloc O).cell? ⟨w1.heap.size, 0, none⟩ = some (.int .i32 0) := fun O => by
    rw [World.cell?_alloc_lt w2 O ⟨w1.heap.size, 0, none⟩ (by have := hb2.size; simp at this; show w1.heap.size < w2.heap.size; omega)]; exact hx0
  have hB2 := HB1.out.trans (hb2.mono (by simp; omega))
  have HB2 := Lib.hid hB2
  clear hb2 hB2
  go_wp2_with (go_at_call 24; refine (word_any _ _).mono ?_; rintro e w' ⟨rfl, rfl⟩)
  go_ret
  refine ⟨?_, HB2.out.alloc HB2.out.size _⟩
  rw [HF.out]
  all_goals first | rfl | (cases h : Plain.wordB x.1 <;> rfl) | (cases h : Plain.wordB y.1 <;> rfl) | (cases h : Plain.wordB x.1 <;> cases h' : Plain.wordB y.1 <;> rfl)

set_option maxRecDepth 100000 in
theorem edge_none_some (s : ByteArray) (a : Int) (y : Plain.Rn) (w : World) (hs : s.size ≤ 4398046511104) (hT : Tabs w) (h1 : (Plain.allA 0 s.data.toList).find? (fun x => (x.2.1 : Int) + x.2.2 == a) = none) (h2 : (Plain.allA 0 s.data.toList).find? (fun x => (x.2.1 : Int) == a) = some y) :
    Calls Tryd.prog 18 #[.string s, .int .i64 a] w fun e w' => e = .returned (.bool (Plain.edgeB (Plain.allA 0 s.data.toList) a)) ∧ Below w.heap.size w w' := by
  have cA := ahead_any s a w hs hT
  rw [h1] at cA
  have cA : Calls Tryd.prog 14 #[.string s, .int .i64 a] w fun e w' => e = .returned (.tuple #[.agg #[.int .i32 0, .int .i64 0, .int .i64 0], .bool false]) ∧ Below w.heap.size w w' := cA
  have cB : ∀ W, Tabs W → Calls Tryd.prog 12 #[.string s, .int .i64 a] W fun e w' => e = .returned (.tuple #[.agg #[.int .i32 y.1, .int .i64 y.2.1, .int .i64 y.2.2], .bool true]) ∧ Below W.heap.size W w' := fun W hW => by
    have := at_any s a W hW
    rw [h2] at this
    exact this
  have hfin : Plain.edgeB (Plain.allA 0 s.data.toList) a = (false != Plain.wordB y.1) := by unfold Plain.edgeB; rw [h1, h2]; rfl
  have HA := Lib.hid cA
  have HC := Lib.hid cB
  have HF := Lib.hid hfin
  clear cA cB hfin h1 h2
  go_enter Tryd.func18, Tryd.ntmps18
  go_wp2_with fail
  refine HA.out.mono ?_
  rintro e w1 ⟨rfl, hb1⟩
  have hB1 : Below w.heap.size w (w1.alloc (.cells #[.int .i32 0, .int .i64 0, .int .i64 0] 30)) := hb1.alloc hb1.size _
  have hz1 : w.heap.size ≤ w1.heap.size := hb1.size
  have hT1 := hT.below hB1
  have HB1 := Lib.hid hB1
  clear hb1 hB1
  go_wp2_with fail
  refine (HC.out _ hT1).mono ?_
  rintro e w2 ⟨rfl, hb2⟩
  have hx0 : w2.cell? ⟨w1.heap.size, 0, none⟩ = some (.int .i32 0) := by
    rw [hb2.cell (p := ⟨w1.heap.size, 0, none⟩) (by simp), cell_of_row _ _ _ _ _ _ (heap_alloc_new _ _)]; rfl
  have hx1 : ∀ O, (w2.alloc O).cell? ⟨w1.heap.size, 0, none⟩ = some (.int .i32 0) := fun O => by
    rw [World.cell?_alloc_lt w2 O ⟨w1.heap.size, 0, none⟩ (by have := hb2.size; simp at this; show w1.heap.size < w2.heap.size; omega)]; exact hx0
  have hB2 := HB1.out.trans (hb2.mono (by simp; omega))
  have HB2 := Lib.hid hB2
  clear hb2 hB2
  go_wp2_with (go_at_call 24; refine (word_any _ _).mono ?_; rintro e w' ⟨rfl, rfl⟩)
  go_ret
  refine ⟨?_, HB2.out.alloc HB2.out.size _⟩
  rw [HF.out]
  all_goals first | rfl | (cases h : Plain.wordB x.1 <;> rfl) | (cases h : Plain.wordB y.1 <;> rfl) | (cases h : Plain.wordB x.1 <;> cases h' : Plain.wordB y.1 <;> rfl)

set_option maxRecDepth 100000 in
theorem edge_some_none (s : ByteArray) (a : Int) (x : Plain.Rn) (w : World) (hs : s.size ≤ 4398046511104) (hT : Tabs w) (h1 : (Plain.allA 0 s.data.toList).find? (fun x => (x.2.1 : Int) + x.2.2 == a) = some x) (h2 : (Plain.allA 0 s.data.toList).find? (fun x => (x.2.1 : Int) == a) = none) :
    Calls Tryd.prog 18 #[.string s, .int .i64 a] w fun e w' => e = .returned (.bool (Plain.edgeB (Plain.allA 0 s.data.toList) a)) ∧ Below w.heap.size w w' := by
  have cA := ahead_any s a w hs hT
  rw [h1] at cA
  have cA : Calls Tryd.prog 14 #[.string s, .int .i64 a] w fun e w' => e = .returned (.tuple #[.agg #[.int .i32 x.1, .int .i64 x.2.1, .int .i64 x.2.2], .bool true]) ∧ Below w.heap.size w w' := cA
  have cB : ∀ W, Tabs W → Calls Tryd.prog 12 #[.string s, .int .i64 a] W fun e w' => e = .returned (.tuple #[.agg #[.int .i32 0, .int .i64 0, .int .i64 0], .bool false]) ∧ Below W.heap.size W w' := fun W hW => by
    have := at_any s a W hW
    rw [h2] at this
    exact this
  have hfin : Plain.edgeB (Plain.allA 0 s.data.toList) a = (Plain.wordB x.1 != false) := by unfold Plain.edgeB; rw [h1, h2]; rfl
  have HA := Lib.hid cA
  have HC := Lib.hid cB
  have HF := Lib.hid hfin
  clear cA cB hfin h1 h2
  go_enter Tryd.func18, Tryd.ntmps18
  go_wp2_with fail
  refine HA.out.mono ?_
  rintro e w1 ⟨rfl, hb1⟩
  have hB1 : Below w.heap.size w (w1.alloc (.cells #[.int .i32 x.1, .int .i64 x.2.1, .int .i64 x.2.2] 30)) := hb1.alloc hb1.size _
  have hz1 : w.heap.size ≤ w1.heap.size := hb1.size
  have hT1 := hT.below hB1
  have HB1 := Lib.hid hB1
  clear hb1 hB1
  go_wp2_with fail
  refine (HC.out _ hT1).mono ?_
  rintro e w2 ⟨rfl, hb2⟩
  have hx0 : w2.cell? ⟨w1.heap.size, 0, none⟩ = some (.int .i32 x.1) := by
    rw [hb2.cell (p := ⟨w1.heap.size, 0, none⟩) (by simp), cell_of_row _ _ _ _ _ _ (heap_alloc_new _ _)]; rfl
  have hx1 : ∀ O, (w2.alloc O).cell? ⟨w1.heap.size, 0, none⟩ = some (.int .i32 x.1) := fun O => by
    rw [World.cell?_alloc_lt w2 O ⟨w1.heap.size, 0, none⟩ (by have := hb2.size; simp at this; show w1.heap.size < w2.heap.size; omega)]; exact hx0
  have hB2 := HB1.out.trans (hb2.mono (by simp; omega))
  have HB2 := Lib.hid hB2
  clear hb2 hB2
  go_wp2_with (go_at_call 24; refine (word_any _ _).mono ?_; rintro e w' ⟨rfl, rfl⟩)
  go_ret
  refine ⟨?_, HB2.out.alloc HB2.out.size _⟩
  rw [HF.out]
  all_goals first | rfl | (cases h : Plain.wordB x.1 <;> rfl) | (cases h : Plain.wordB y.1 <;> rfl) | (cases h : Plain.wordB x.1 <;> cases h' : Plain.wordB y.1 <;> rfl)

set_option maxRecDepth 100000 in
theorem edge_some_some (s : ByteArray) (a : Int) (x : Plain.Rn) (y : Plain.Rn) (w : World) (hs : s.size ≤ 4398046511104) (hT : Tabs w) (h1 : (Plain.allA 0 s.data.toList).find? (fun x => (x.2.1 : Int) + x.2.2 == a) = some x) (h2 : (Plain.allA 0 s.data.toList).find? (fun x => (x.2.1 : Int) == a) = some y) :
    Calls Tryd.prog 18 #[.string s, .int .i64 a] w fun e w' => e = .returned (.bool (Plain.edgeB (Plain.allA 0 s.data.toList) a)) ∧ Below w.heap.size w w' := by
  have cA := ahead_any s a w hs hT
  rw [h1] at cA
  have cA : Calls Tryd.prog 14 #[.string s, .int .i64 a] w fun e w' => e = .returned (.tuple #[.agg #[.int .i32 x.1, .int .i64 x.2.1, .int .i64 x.2.2], .bool true]) ∧ Below w.heap.size w w' := cA
  have cB : ∀ W, Tabs W → Calls Tryd.prog 12 #[.string s, .int .i64 a] W fun e w' => e = .returned (.tuple #[.agg #[.int .i32 y.1, .int .i64 y.2.1, .int .i64 y.2.2], .bool true]) ∧ Below W.heap.size W w' := fun W hW => by
    have := at_any s a W hW
    rw [h2] at this
    exact this
  have hfin : Plain.edgeB (Plain.allA 0 s.data.toList) a = (Plain.wordB x.1 != Plain.wordB y.1) := by unfold Plain.edgeB; rw [h1, h2]; rfl
  have HA := Lib.hid cA
  have HC := Lib.hid cB
  have HF := Lib.hid hfin
  clear cA cB hfin h1 h2
  go_enter Tryd.func18, Tryd.ntmps18
  go_wp2_with fail
  refine HA.out.mono ?_
  rintro e w1 ⟨rfl, hb1⟩
  have hB1 : Below w.heap.size w (w1.alloc (.cells #[.int .i32 x.1, .int .i64 x.2.1, .int .i64 x.2.2] 30)) := hb1.alloc hb1.size _
  have hz1 : w.heap.size ≤ w1.heap.size := hb1.size
  have hT1 := hT.below hB1
  have HB1 := Lib.hid hB1
  clear hb1 hB1
  go_wp2_with fail
  refine (HC.out _ hT1).mono ?_
  rintro e w2 ⟨rfl, hb2⟩
  have hx0 : w2.cell? ⟨w1.heap.size, 0, none⟩ = some (.int .i32 x.1) := by
    rw [hb2.cell (p := ⟨w1.heap.size, 0, none⟩) (by simp), cell_of_row _ _ _ _ _ _ (heap_alloc_new _ _)]; rfl
  have hx1 : ∀ O, (w2.alloc O).cell? ⟨w1.heap.size, 0, none⟩ = some (.int .i32 x.1) := fun O => by
    rw [World.cell?_alloc_lt w2 O ⟨w1.heap.size, 0, none⟩ (by have := hb2.size; simp at this; show w1.heap.size < w2.heap.size; omega)]; exact hx0
  have hB2 := HB1.out.trans (hb2.mono (by simp; omega))
  have HB2 := Lib.hid hB2
  clear hb2 hB2
  go_wp2_with (go_at_call 24; refine (word_any _ _).mono ?_; rintro e w' ⟨rfl, rfl⟩)
  go_ret
  refine ⟨?_, HB2.out.alloc HB2.out.size _⟩
  rw [HF.out]
  all_goals first | rfl | (cases h : Plain.wordB x.1 <;> rfl) | (cases h : Plain.wordB y.1 <;> rfl) | (cases h : Plain.wordB x.1 <;> cases h' : Plain.wordB y.1 <;> rfl)

theorem edge_any (s : ByteArray) (a : Int) (w : World) (hs : s.size ≤ 4398046511104) (hT : Tabs w) :
    Calls Tryd.prog 18 #[.string s, .int .i64 a] w fun e w' => e = .returned (.bool (Plain.edgeB (Plain.allA 0 s.data.toList) a)) ∧ Below w.heap.size w w' := by
  cases h1 : (Plain.allA 0 s.data.toList).find? fun x => (x.2.1 : Int) + x.2.2 == a <;> cases h2 : (Plain.allA 0 s.data.toList).find? fun x => (x.2.1 : Int) == a
  · exact edge_none_none s a w hs hT h1 h2
  · exact edge_none_some s a _ w hs hT h1 h2
  · exact edge_some_none s a _ w hs hT h1 h2
  · exact edge_some_some s a _ _ w hs hT h1 h2
end Go.Proofs.YtjkialgdaikijaaDoor
