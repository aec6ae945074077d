/- prog.Put of any program: what the code computes. Conditions: what each lemma says. -/
import Derived.Test.YtpeheppiolfpfaaDoorPutB
import Derived.WalkSmall
import Derived.Deep.RegionHeld3
import Derived.Deep.RegionWith
import Derived.Deep.DeepCutAuto
import Derived.Deep.CutBlock
set_option linter.unusedVariables false
set_option linter.unusedSimpArgs false
namespace Go.Proofs.YtpeheppiolfpfaaDoor.Plain
open Go.Lib (decDigits itoa nDigits)
theorem dec_len20 (n : Nat) (h : n ≤ 9223372036854775808) : (decDigits n).length ≤ 19 := by
  rw [Go.Lib.decDigits_length]
  rcases Nat.lt_or_ge n 10 with h1 | h1
  · rw [Go.Lib.nDigits_small h1]; omega
  · by_cases h2 : 19 < nDigits n
    · exfalso
      have : ∀ k m : Nat, k < nDigits m → 10 ^ k ≤ m ∨ m = 0 := by
        intro k
        induction k with
        | zero => intro m _; omega
        | succ k ih =>
          intro m hk
          by_cases hm : m < 10
          · rw [Go.Lib.nDigits_small hm] at hk; omega
          · rw [Go.Lib.nDigits_big hm] at hk
            rcases ih (m / 10) (by omega) with h | h
            · left
              rw [Nat.pow_succ]
              omega
            · omega
      rcases this 19 n h2 with h3 | h3
      · have e : (10 : Nat) ^ 19 = 10000000000000000000 := by decide
        omega
      · omega
    · omega
def I64 (n : Int) : Prop := -9223372036854775808 ≤ n ∧ n ≤ 9223372036854775807
theorem itoa_len (n : Int) (h : I64 n) : (itoa n).length ≤ 20 := by
  obtain ⟨h0, h1⟩ := h
  unfold itoa
  split
  · have := dec_len20 n.natAbs (by omega)
    rw [List.length_cons]; omega
  · have := dec_len20 n.toNat (by omega)
    omega
def lineG (w : List UInt8) (ns : List Int) : List UInt8 := w ++ ns.flatMap fun n => 32 :: itoa n
def I64s (t : In4) : Prop := I64 t.1 ∧ I64 t.2.1 ∧ I64 t.2.2.1 ∧ I64 t.2.2.2
/-- an instruction as it is read -/
def putG (t : In4) : List UInt8 :=
  if t.1 = 0 then [109, 97, 116, 99, 104] else if t.1 = 1 then lineG [111, 110, 101] [t.2.2.2, t.2.1] else if t.1 = 2 then lineG [115, 112, 108, 105, 116] [t.2.1, t.2.2.1]
  else if t.1 = 3 then lineG [106, 117, 109, 112] [t.2.1] else if t.1 = 4 then lineG [115, 97, 118, 101] [t.2.2.2, t.2.1] else if t.1 = 5 then lineG [97, 115, 115, 101, 114, 116] [t.2.2.2, t.2.1] else [110, 111, 110, 101]
theorem lineG_len (w : List UInt8) : ∀ (ns : List Int), (∀ n ∈ ns, I64 n) → (lineG w ns).length ≤ w.length + 21 * ns.length := by
  intro ns
  induction ns with
  | nil => intro _; simp [lineG]
  | cons n ns ih =>
    intro h
    have h1 := ih fun m hm => h m (by simp [hm])
    have h2 := itoa_len n (h n (by simp))
    unfold lineG at h1 ⊢
    simp only [List.flatMap_cons, List.length_append, List.length_cons] at h1 ⊢
    omega
theorem lineG_snoc (w : List UInt8) (ns : List Int) (n : Int) : lineG w (ns ++ [n]) = lineG w ns ++ (32 :: itoa n) := by
  unfold lineG; rw [List.flatMap_append]; simp
theorem putG_len (t : In4) (h : I64s t) : (putG t).length ≤ 60 := by
  obtain ⟨h1, h2, h3, h4⟩ := h
  have e : ∀ (w : List UInt8) (a b : Int), I64 a → I64 b → (lineG w [a, b]).length ≤ w.length + 42 := fun w a b ha hb => by
    have := lineG_len w [a, b] (fun n hn => by simp only [List.mem_cons, List.not_mem_nil, or_false] at hn; rcases hn with rfl | rfl; exact ha; exact hb)
    simpa using this
  have e1 : ∀ (w : List UInt8) (a : Int), I64 a → (lineG w [a]).length ≤ w.length + 21 := fun w a ha => by
    have := lineG_len w [a] (fun n hn => by simp only [List.mem_cons, List.not_mem_nil, or_false] at hn; subst hn; exact ha)
    simpa using this
  unfold putG
  split
  · simp
  split
  · have := e [111, 110, 101] _ _ h4 h2; simp at this; omega
  split
  · have := e [115, 112, 108, 105, 116] _ _ h2 h3; simp at this; omega
  split
  · have := e1 [106, 117, 109, 112] _ h2; simp at this; omega
  split
  · have := e [115, 97, 118, 101] _ _ h4 h2; simp at this; omega
  split
  · have := e [97, 115, 115, 101, 114, 116] _ _ h4 h2; simp at this; omega
  · simp
end Go.Proofs.YtpeheppiolfpfaaDoor.Plain
namespace Go.Proofs.YtpeheppiolfpfaaDoor
open Go.RowKit Go.Lib
open Plain (Rg May mayB In Norm In4 slotsOf insB bnd riB cls cnot rightB normB nextL Rch cntA lineL putL small I64 I64s lineG putG)
/-- the table of powers is the document's -/
def Tp (w : World) : Prop := Lib.TabIs Tryd.prog w "internal/strconv.uint64pow10" .u64 Lib.pow10Tab
theorem Tp.below {w w' : World} (h : Tp w) (hb : Below w.heap.size w w') : Tp w' := by
  unfold Tp Lib.TabIs at h ⊢
  obtain ⟨g, hg⟩ : ∃ g, Tryd.prog.globalNamed "internal/strconv.uint64pow10" = some g := by
    cases hq : Tryd.prog.globalNamed "internal/strconv.uint64pow10" with
    | none => unfold World.var? at h; rw [hq] at h; simp at h
    | some g => exact ⟨g, rfl⟩
  refine var?_below hb hg ?_ h
  unfold World.var? at h
  rw [hg] at h
  simp only [Option.bind_some] at h
  cases hq : w.heap[g]? with
  | none => rw [hq] at h; simp at h
  | some c => exact lt_of_some hq
theorem below_grow {w0 w : World} (h : Below w0.heap.size w0 w) (os : Array Obj) : Below w0.heap.size w0 (Go.Sort.grow w os) := by
  refine h.trans ⟨rfl, rfl, rfl, by unfold Go.Sort.grow; simp, fun k hk => ?_⟩
  show (w.heap ++ os)[k]? = w.heap[k]?
  rw [Array.getElem?_append_left (by have := h.size; omega)]
theorem itoag (n : Int) (hn : I64 n) (w : World) (hT : Tp w) : Calls Tryd.prog 43 #[.int .i64 n] w fun e w' => e = .returned (.string (str (itoa n))) ∧ Below w.heap.size w w' := by
  refine (Tryd.strconv_Itoa n hn.1 hn.2 w hT).mono ?_
  rintro e w' ⟨rfl, k, os, rfl⟩
  exact ⟨rfl, below_grow (below_drewN (Below.refl _ _) _) os⟩
set_option maxRecDepth 100000 in
set_option maxHeartbeats 1000000 in
theorem lineg_any (wd : List UInt8) (ns : List Int) (A : Option Addr) (c : Nat) (w : World) (hX : Sl w A (i64s ns)) (hs : ∀ n ∈ ns, I64 n) (hn : ns.length ≤ 10) (hw : wd.length ≤ 10) (hT : Tp w) :
    Calls Tryd.prog 56 #[.string (str wd), .slice A ns.length c] w fun e w' => e = .returned (.string (str (lineG wd ns))) ∧ Below w.heap.size w w' := by
  obtain ⟨n, hN⟩ : ∃ n, ns.length = n := ⟨_, rfl⟩
  rw [hN] at hn ⊢
  have HX := Lib.hid hX
  have HS := Lib.hid hs
  have HN := Lib.hid hN
  have HI := Lib.hid (fun (i : Int) (hi : I64 i) (W : World) (hb : Below w.heap.size w W) => itoag i hi W (hT.below hb))
  clear hX hs hN hT
  have hst : str wd = str (lineG wd (ns.take 0)) := by simp [lineG]
  rw [hst]
  go_enter Tryd.func56, Tryd.ntmps56
  go_wp2
  go_loopw [0, 9] (fun s i wr => ∃ k : Nat, k ≤ n ∧ i = .int .i64 k ∧ s = .string (str (lineG wd (ns.take k))) ∧ RowKit.Below w.heap.size w wr) (fun _ i _ => n - (RowKit.intOf i).toNat)
  case atStart => exact ⟨0, Nat.zero_le _, rfl, rfl, Below.refl _ _⟩
  case round =>
    obtain ⟨k, hk, rfl, rfl, hB⟩ := hrel
    have HB := Lib.hid hB
    clear hB
    by_cases hlt : k < n
    · have hk1 : k < ns.length := by rw [HN.out]; exact hlt
      obtain ⟨b, off, rfl, hb, hc⟩ := (HX.out.below HB.out) (by rw [i64s, List.length_map]; omega)
      have c0 := hc k _ (by rw [i64s, List.getElem?_map, List.getElem?_eq_getElem hk1]; rfl)
      have hsn := HS.out ns[k] (List.getElem_mem hk1)
      have hnx : lineG wd (ns.take (k + 1)) = lineG wd (ns.take k) ++ (32 :: itoa ns[k]) := by rw [List.take_succ_eq_append_getElem hk1, Plain.lineG_snoc]
      obtain ⟨x, hx⟩ : ∃ x, ns[k] = x := ⟨_, rfl⟩
      rw [hx] at c0 hsn hnx
      obtain ⟨l, hl⟩ : ∃ l, lineG wd (ns.take k) = l := ⟨_, rfl⟩
      have hll := Plain.lineG_len wd (ns.take k) (fun m hm => HS.out m (List.mem_of_mem_take hm))
      have htl : (ns.take k).length ≤ k := List.length_take_le _ _
      rw [hl] at hnx hll ⊢
      have hq : str l ++ (⟨#[32]⟩ ++ str (itoa x)) = str (l ++ (32 :: itoa x)) := by
        rw [show (⟨#[32]⟩ : ByteArray) = str [32] from rfl, str_app, str_app]; rfl
      have hd := (Plain.itoa_len x hsn)
      have z1 : (str (itoa x)).size ≤ 20 := by rw [str_size]; exact hd
      have z2 : (str l).size ≤ 400 := by rw [str_size]; omega
      have z3 : (⟨#[32]⟩ ++ str (itoa x) : ByteArray).size ≤ 21 := by rw [ByteArray.size_append]; show 1 + _ ≤ 21; omega
      have g1 : ¬ (9223372036854775807 < 1 + (str (itoa x)).size) := by omega
      have g2 : ¬ (9223372036854775807 < (str l).size + (⟨#[32]⟩ ++ str (itoa x) : ByteArray).size) := by omega
      have g3 : ¬ (9223372036854775807 < (str l).size + (1 + (str (itoa x)).size)) := by omega
      have HNX := Lib.hid hnx
      have HQ := Lib.hid hq
      have i0 : (0 : Int) ≤ (k : Int) := by omega
      have i1 : (k : Int) < (n : Int) := by omega
      clear hnx hq hx hl hc hll htl
      go_wp2_with fail
      refine (HI.out x hsn _ HB.out).mono ?_
      rintro e w1 ⟨rfl, hb1⟩
      have HB1 := Lib.hid (below_then HB.out hb1)
      clear hb1
      go_wp2
      go_roundw
      case rel => exact ⟨k + 1, by omega, by go_num, by rw [HNX.out, HQ.out], HB1.out⟩
      case measure => simp [RowKit.intOf]; omega
    · obtain rfl : n = k := by omega
      go_wp2
      go_ret
      exact ⟨ret_str (by rw [List.take_of_length_le (by rw [HN.out]; omega)]), HB.out⟩
set_option maxRecDepth 100000 in
set_option maxHeartbeats 4000000 in
theorem putg_any (t : In4) (w : World) (hs : I64s t) (hT : Tp w) : Calls Tryd.prog 44 #[i4V t] w fun e w' => e = .returned (.string (str (putG t))) ∧ Below w.heap.size w w' := by
  obtain ⟨op, x, y, a⟩ := t
  obtain ⟨ho, hx, hy, ha⟩ := hs
  dsimp only at ho hx hy ha
  unfold i4V
  dsimp only
  have hb := (Below.refl w.heap.size w).alloc (Nat.le_refl _) (.cells #[.int .i64 op, .int .i64 x, .int .i64 y, .int .i64 a] 30)
  have HB := Lib.hid hb
  have C2 := Lib.hid (fun (wd : List UInt8) (hw : wd.length ≤ 10) (p q : Int) (hp : I64 p) (hq : I64 q) (W : World) (g : Nat) (hc : CellsAt W g (i64s [p, q])) (hB : Below w.heap.size w W) => lineg_any wd [p, q] (some ⟨g, 0, none⟩) 2 W (Sl.of_cells hc) (fun n hn => by simp only [List.mem_cons, List.not_mem_nil, or_false] at hn; rcases hn with rfl | rfl; exact hp; exact hq) (by simp) hw (hT.below hB))
  have C1 := Lib.hid (fun (wd : List UInt8) (hw : wd.length ≤ 10) (p : Int) (hp : I64 p) (W : World) (g : Nat) (hc : CellsAt W g (i64s [p])) (hB : Below w.heap.size w W) => lineg_any wd [p] (some ⟨g, 0, none⟩) 1 W (Sl.of_cells hc) (fun n hn => by simp only [List.mem_cons, List.not_mem_nil, or_false] at hn; subst hn; exact hp) (by simp) hw (hT.below hB))
  clear hb hT
  by_cases h0 : op = 0
  · subst h0
    go_enter Tryd.func44, Tryd.ntmps44
    go_wp2_with fail
    go_ret
    exact ⟨ret_str rfl, HB.out⟩
  by_cases h1 : op = 1
  · subst h1
    go_enter Tryd.func44, Tryd.ntmps44
    go_wp2_with fail
    refine (C2.out [111, 110, 101] (by decide) a x ha hx _ (w.heap.size + 1) (CellsAt.at_size (by simp) _ _) (HB.out.alloc (by simp) _)).mono ?_
    rintro e w1 ⟨rfl, hb1⟩
    have HB1 := Lib.hid ((HB.out.alloc (by simp) _).trans (hb1.mono (by simp; omega)))
    clear hb1
    go_wp2_with fail
    go_ret
    exact ⟨ret_str rfl, HB1.out⟩
  by_cases h2 : op = 2
  · subst h2
    go_enter Tryd.func44, Tryd.ntmps44
    go_wp2_with fail
    refine (C2.out [115, 112, 108, 105, 116] (by decide) x y hx hy _ (w.heap.size + 1) (CellsAt.at_size (by simp) _ _) (HB.out.alloc (by simp) _)).mono ?_
    rintro e w1 ⟨rfl, hb1⟩
    have HB1 := Lib.hid ((HB.out.alloc (by simp) _).trans (hb1.mono (by simp; omega)))
    clear hb1
    go_wp2_with fail
    go_ret
    exact ⟨ret_str rfl, HB1.out⟩
  by_cases h3 : op = 3
  · subst h3
    go_enter Tryd.func44, Tryd.ntmps44
    go_wp2_with fail
    refine (C1.out [106, 117, 109, 112] (by decide) x hx _ (w.heap.size + 1) (CellsAt.at_size (by simp) _ _) (HB.out.alloc (by simp) _)).mono ?_
    rintro e w1 ⟨rfl, hb1⟩
    have HB1 := Lib.hid ((HB.out.alloc (by simp) _).trans (hb1.mono (by simp; omega)))
    clear hb1
    go_wp2_with fail
    go_ret
    exact ⟨ret_str rfl, HB1.out⟩
  by_cases h4 : op = 4
  · subst h4
    go_enter Tryd.func44, Tryd.ntmps44
    go_wp2_with fail
    refine (C2.out [115, 97, 118, 101] (by decide) a x ha hx _ (w.heap.size + 1) (CellsAt.at_size (by simp) _ _) (HB.out.alloc (by simp) _)).mono ?_
    rintro e w1 ⟨rfl, hb1⟩
    have HB1 := Lib.hid ((HB.out.alloc (by simp) _).trans (hb1.mono (by simp; omega)))
    clear hb1
    go_wp2_with fail
    go_ret
    exact ⟨ret_str rfl, HB1.out⟩
  by_cases h5 : op = 5
  · subst h5
    go_enter Tryd.func44, Tryd.ntmps44
    go_wp2_with fail
    refine (C2.out [97, 115, 115, 101, 114, 116] (by decide) a x ha hx _ (w.heap.size + 1) (CellsAt.at_size (by simp) _ _) (HB.out.alloc (by simp) _)).mono ?_
    rintro e w1 ⟨rfl, hb1⟩
    have HB1 := Lib.hid ((HB.out.alloc (by simp) _).trans (hb1.mono (by simp; omega)))
    clear hb1
    go_wp2_with fail
    go_ret
    exact ⟨ret_str rfl, HB1.out⟩
  · have e0 : (op == 0) = false := by simp [h0]
    have e1 : (op == 1) = false := by simp [h1]
    have e2 : (op == 2) = false := by simp [h2]
    have e3 : (op == 3) = false := by simp [h3]
    have e4 : (op == 4) = false := by simp [h4]
    have e5 : (op == 5) = false := by simp [h5]
    have hl : putG (op, x, y, a) = [110, 111, 110, 101] := by unfold putG; rw [if_neg h0, if_neg h1, if_neg h2, if_neg h3, if_neg h4, if_neg h5]
    have HL := Lib.hid hl
    clear hl
    go_enter Tryd.func44, Tryd.ntmps44
    go_wp2_with fail
    go_ret
    exact ⟨ret_str (by rw [HL.out]; rfl), HB.out⟩
/-- a program as it is read, from a line on -/
def putsG (L : List In4) (k : Nat) : List UInt8 := (List.range k).flatMap fun (i : Nat) => itoa (i : Int) ++ (32 :: putG (L.getD i (0, 0, 0, 0)) ++ [10])
theorem putsG_succ (L : List In4) (k : Nat) : putsG L (k + 1) = putsG L k ++ (itoa (k : Int) ++ (32 :: putG (L.getD k (0, 0, 0, 0)) ++ [10])) := by
  unfold putsG; rw [List.range_succ, List.flatMap_append]; simp
theorem putsG_len (L : List In4) (hs : ∀ t ∈ L, I64s t) : ∀ k, k ≤ L.length → k ≤ 1048576 → (putsG L k).length ≤ 90 * k := by
  intro k
  induction k with
  | zero => intro _ _; simp [putsG]
  | succ k ih =>
    intro h h100
    have h1 := ih (by omega) (by omega)
    have h2 := Plain.itoa_len (k : Int) ⟨by omega, by omega⟩
    have h3 := Plain.putG_len L[k] (hs _ (List.getElem_mem _))
    rw [putsG_succ, Plain.getD_lt L (0, 0, 0, 0) k (by omega)]
    simp only [List.length_append, List.length_cons, List.length_nil]
    omega
set_option maxRecDepth 100000 in
set_option maxHeartbeats 8000000 in
theorem pputg_any (I C : Option Addr) (L : List In4) (K : List Cs) (c d : Nat) (g : Int) (w : World) (hP : PgAt w I L C K) (hs : ∀ t ∈ L, I64s t) (hl : L.length ≤ 1048576) (hT : Tp w) :
    Calls Tryd.prog 24 #[pgV I L.length c C K.length d g] w fun e w' => e = .returned (.string (str (putsG L L.length))) ∧ Below w.heap.size w w' := by
  obtain ⟨n, hN⟩ : ∃ n, L.length = n := ⟨_, rfl⟩
  obtain ⟨m, hM⟩ : ∃ m, K.length = m := ⟨_, rfl⟩
  rw [hN] at hl ⊢
  rw [hM]
  unfold pgV
  have HI := Lib.hid hP.insts
  have HN := Lib.hid hN
  have HS := Lib.hid hs
  have CI := Lib.hid (fun (i : Int) (hi : I64 i) (W : World) (hb : Below w.heap.size w W) => itoag i hi W (hT.below hb))
  have CP := Lib.hid (fun t ht (W : World) (hb : Below w.heap.size w W) => putg_any t W ht (hT.below hb))
  have hb1 : Below w.heap.size w ((w.alloc (.cells #[.slice I n c, .slice C m d, .int .i64 g] 25)).alloc (.cells #[.pointer none, .slice none 0 0] 82)) := below_alloc (below_alloc (Below.refl _ _) _) _
  have hbd : Lib.IsBuilder 82 5 (w.heap.size + 1) (w.heap.size + 1) [] ((w.alloc (.cells #[.slice I n c, .slice C m d, .int .i64 g] 25)).alloc (.cells #[.pointer none, .slice none 0 0] 82)) :=
    .inl ⟨Nat.le_refl _, _, heap_alloc_new2 _ _ _ _ (by simp), ⟨rfl, .inl ⟨rfl, rfl⟩⟩, by simp [Value.ownBlock]⟩
  have HB1 := Lib.hid hb1
  have HBD := Lib.hid hbd
  clear hP hN hM hs hb1 hbd hT
  go_enter Tryd.func24, Tryd.ntmps24
  go_wp2
  go_loopw [9] (fun i wr => ∃ k : Nat, k ≤ n ∧ i = .int .i64 k ∧ Lib.IsBuilder 82 5 (w.heap.size + 1) (w.heap.size + 1) (Lib.byteCells (putsG L k)) wr ∧ RowKit.Below w.heap.size w wr) (fun i _ => n - (RowKit.intOf i).toNat)
  case atStart => exact ⟨0, Nat.zero_le _, rfl, HBD.out, HB1.out⟩
  case round =>
    obtain ⟨k, hk, rfl, hD, hB⟩ := hrel
    have HD := Lib.hid hD
    have HB := Lib.hid hB
    clear hD
    by_cases hlt : k < n
    · have hk1 : k < L.length := by rw [HN.out]; exact hlt
      obtain ⟨b, off, rfl, hbb, c0, c1, c2, c3⟩ := i4_at (HI.out.below hB) k hk1
      have hsk := HS.out L[k] (List.getElem_mem hk1)
      have hnx : putsG L (k + 1) = putsG L k ++ (itoa (k : Int) ++ (32 :: putG L[k] ++ [10])) := by rw [putsG_succ, Plain.getD_lt L (0, 0, 0, 0) k hk1]
      have hpl := putsG_len L HS.out k (by omega) (by omega)
      obtain ⟨t, ht⟩ : ∃ t, L[k] = t := ⟨_, rfl⟩
      rw [ht] at c0 c1 c2 c3 hsk hnx
      have hpt := Plain.putG_len t hsk
      have hik : I64 (k : Int) := ⟨by omega, by omega⟩
      have hdk := Plain.itoa_len (k : Int) hik
      obtain ⟨pl, hplq⟩ : ∃ pl, putG t = pl := ⟨_, rfl⟩
      have CK := Lib.hid (fun (W : World) (hb : Below w.heap.size w W) => CI.out (k : Int) hik W hb)
      have CT := Lib.hid (fun (W : World) (hb : Below w.heap.size w W) => CP.out t hsk W hb)
      rw [hplq] at CT hnx hpt
      obtain ⟨dk, hdq⟩ : ∃ dk, itoa (k : Int) = dk := ⟨_, rfl⟩
      rw [hdq] at CK hnx hdk
      obtain ⟨op, x, y, a⟩ := t
      dsimp only at c0 c1 c2 c3
      unfold i4V at CT
      dsimp only at CT
      have HNX := Lib.hid hnx
      have z1 : (str dk).size ≤ 20 := by rw [str_size]; exact hdk
      have z2 : (str pl).size ≤ 60 := by rw [str_size]; exact hpt
      have z3 : (str dk ++ ⟨#[32]⟩ : ByteArray).size ≤ 21 := by rw [ByteArray.size_append]; show _ + 1 ≤ 21; omega
      have z4 : (str dk ++ ⟨#[32]⟩ ++ str pl : ByteArray).size ≤ 81 := by rw [ByteArray.size_append]; omega
      have g1 : ¬ (9223372036854775807 < (str dk).size + 1) := by omega
      have g2 : ¬ (9223372036854775807 < (str dk ++ ⟨#[32]⟩ : ByteArray).size + (str pl).size) := by omega
      have g3 : ¬ (9223372036854775807 < (str dk ++ ⟨#[32]⟩ ++ str pl : ByteArray).size + 1) := by omega
      have g4 : ¬ (9223372036854775807 < (str dk).size + 1 + (str pl).size) := by omega
      have g5 : ¬ (9223372036854775807 < (str dk).size + 1 + (str pl).size + 1) := by omega
      have hq : str dk ++ ⟨#[32]⟩ ++ str pl ++ ⟨#[10]⟩ = str (dk ++ (32 :: pl ++ [10])) := by
        rw [show (⟨#[32]⟩ : ByteArray) = str [32] from rfl, show (⟨#[10]⟩ : ByteArray) = str [10] from rfl, str_app, str_app, str_app]; simp
      have HQ := Lib.hid hq
      have i0 : (0 : Int) ≤ (k : Int) := by omega
      have i1 : (k : Int) < (n : Int) := by omega
      have HPL := Lib.hid hpl
      clear hnx hq hplq hdq ht hpl hB hsk hdk hpt hik
      go_upto_region 5 with fail
      obtain ⟨wt, hwt⟩ : ∃ W0, wr.alloc (.cells #[.int .i64 op, .int .i64 x, .int .i64 y, .int .i64 a] 30) = W0 := ⟨_, rfl⟩
      have hbt : Below wr.heap.size wr wt := by rw [← hwt]; exact (Below.refl _ _).alloc (Nat.le_refl _) _
      have hTt : wt.heap[wr.heap.size]? = some (.cells #[.int .i64 op, .int .i64 x, .int .i64 y, .int .i64 a] 30 (0, 0)) := by rw [← hwt]; exact heap_alloc_new2 _ _ _ _ rfl
      rw [hwt]
      have HBT := Lib.hid (below_then HB.out hbt)
      have HDT := Lib.hid (isb_below HD.out hbt)
      have HTT := Lib.hid hTt
      clear hwt hbt hTt c0 c1 c2 c3
      have hS0 : (fun w' : World => w'.cell? ⟨wr.heap.size, 0, none⟩ = some (.int .i64 op) ∧ w'.cell? ⟨wr.heap.size, 1, none⟩ = some (.int .i64 x) ∧ w'.cell? ⟨wr.heap.size, 2, none⟩ = some (.int .i64 y) ∧ w'.cell? ⟨wr.heap.size, 3, none⟩ = some (.int .i64 a)) wt.drew := blk_cells4 (drew_blk HTT.out)
      have HS0 := Lib.hid hS0
      have HSB := Lib.hid (fun (W : World) (hW : Below wt.heap.size wt W) => (blk_cells4 (blk_later HTT.out hW)))
      clear hS0
      refine wp_region_noPanic ?_
      refine wp_region_T 7 (S := fun w' : World => w'.cell? ⟨wr.heap.size, 0, none⟩ = some (.int .i64 op) ∧ w'.cell? ⟨wr.heap.size, 1, none⟩ = some (.int .i64 x) ∧ w'.cell? ⟨wr.heap.size, 2, none⟩ = some (.int .i64 y) ∧ w'.cell? ⟨wr.heap.size, 3, none⟩ = some (.int .i64 a)) (by kernel_rfl) (by decide) ?_
      refine wpAnyT_take2 0 (v := ?tva0) (by kernel_rfl) rfl (by kernel_rfl) (fun _ _ _ h => h) (Or.inl ⟨by rfl, ?tya0⟩) HS0.out ?tra0
      case tya0 => (intro w' hSw; (try dsimp only at hSw); go_simp; try with_reducible rfl)
      try simp only [Act.put, List.setIfInBounds_toArray, List.set_cons_zero, List.set_cons_succ]
      refine wpAnyT_take2 3 (v := ?tva3) (by kernel_rfl) rfl (by kernel_rfl) (fun _ _ _ h => h) (Or.inl ⟨by rfl, ?tya3⟩) HS0.out ?tra3
      case tya3 => (intro w' hSw; (try dsimp only at hSw); go_simp; try with_reducible rfl)
      try simp only [Act.put, List.setIfInBounds_toArray, List.set_cons_zero, List.set_cons_succ]
      refine wpAnyT_one2 1 rfl (by kernel_rfl) ?_
      intro K' hK'
      rw [if_pos (by rfl)]
      have HK := Lib.hid hK'
      clear hK'
      go_wp2_with (go_at_call 43; refine (CK.out _ (HBT.out.drew)).mono ?_; rintro e w1 ⟨rfl, hb0⟩)
      have HWA0 := Lib.hid ((Below.drew (Below.refl wt.heap.size wt)).trans (hb0 : Below wt.heap.size _ w1))
      clear hb0
      refine HK.out _ _ ⟨HSB.out _ HWA0.out, ?_⟩
      clear HK K'
      try simp only [Act.put, List.setIfInBounds_toArray, List.set_cons_zero, List.set_cons_succ]
      refine wpAnyT_take2 2 (v := ?tvb2) (by kernel_rfl) rfl (by kernel_rfl) (fun _ _ _ h => h) (Or.inl ⟨by rfl, ?tyb2⟩) (HSB.out _ HWA0.out) ?trb2
      case tyb2 => (intro w' hSw; (try dsimp only at hSw); go_simp; try with_reducible rfl)
      try simp only [Act.put, List.setIfInBounds_toArray, List.set_cons_zero, List.set_cons_succ]
      refine wpAnyT_one2 4 rfl (by kernel_rfl) ?_
      intro K' hK'
      rw [if_pos (by rfl)]
      have HK := Lib.hid hK'
      clear hK'
      go_wp2_with (go_at_call 44; refine (CT.out _ (below_then HBT.out HWA0.out)).mono ?_; rintro e w2 ⟨rfl, hb1⟩)
      have HWA := Lib.hid (below_then HWA0.out hb1)
      clear hb1
      refine HK.out _ _ ⟨HSB.out _ HWA.out, ?_⟩
      clear HK K'
      try simp only [Act.put, List.setIfInBounds_toArray, List.set_cons_zero, List.set_cons_succ]
      refine wpAnyT_take2 5 (v := ?tvb5) (by kernel_rfl) rfl (by kernel_rfl) (fun _ _ _ h => h) (Or.inl ⟨by rfl, ?tyb5⟩) (HSB.out _ HWA.out) ?trb5
      case tyb5 => (intro w' hSw; (try dsimp only at hSw); go_simp; try with_reducible rfl)
      try simp only [Act.put, List.setIfInBounds_toArray, List.set_cons_zero, List.set_cons_succ]
      refine wpAnyT_take2 6 (v := ?tvb6) (by kernel_rfl) rfl (by kernel_rfl) (fun _ _ _ h => h) (Or.inl ⟨by rfl, ?tyb6⟩) (HSB.out _ HWA.out) ?trb6
      case tyb6 => (intro w' hSw; (try dsimp only at hSw); go_simp; try with_reducible rfl)
      try simp only [Act.put, List.setIfInBounds_toArray, List.set_cons_zero, List.set_cons_succ]
      refine ⟨by kernel_rfl, ?_⟩
      change wpList _ _ _ [_] _ _
      go_wp2_with fail
      rw [HQ.out]
      refine (Tryd.Builder_WriteString (w.heap.size + 1) (w.heap.size + 1) _ _ _ (isb_below HDT.out HWA.out) (by rw [str_size]; have := HPL.out; simp only [Lib.byteCells, List.length_map]; have := str_size (dk ++ (32 :: pl ++ [10])); simp only [List.length_append, List.length_cons, List.length_nil]; rw [str_size] at z1 z2; omega) (by have := (below_then HBT.out HWA.out).size; have := lt_of_some HTT.out; have := HWA.out.size; have := HB.out.size; omega)).mono ?_
      rintro e w9 ⟨rfl, hBA, hb9⟩
      have HB9 := Lib.hid ((below_then HBT.out HWA.out).trans (hb9.mono (Nat.le_succ _)))
      have HBA := Lib.hid hBA
      clear hBA hb9
      go_wp2
      refine NoPanic.normal ?_
      go_wp2
      go_roundw
      case rel => exact ⟨k + 1, by omega, by go_num, by rw [HNX.out, show Lib.byteCells (putsG L k ++ (dk ++ (32 :: pl ++ [10]))) = Lib.byteCells (putsG L k) ++ Lib.strCells (str (dk ++ (32 :: pl ++ [10]))) from by simp [Lib.byteCells, Lib.strCells, str]]; exact .inr HBA.out, HB9.out⟩
      case measure => simp [RowKit.intOf]; omega
    · obtain rfl : n = k := by omega
      go_wp2_with fail
      refine (Tryd.Builder_String_any (w.heap.size + 1) (w.heap.size + 1) _ _ HD.out (by have := HB.out.size; rcases HD.out with ⟨_, v, h, _⟩ | ⟨_, v, h, _⟩ <;> (have := lt_of_some h; omega))).mono ?_
      rintro e w9 ⟨rfl, hb9⟩
      go_wp2_with fail
      go_ret
      exact ⟨rfl, HB.out.trans (hb9.mono (Nat.le_succ _))⟩
end Go.Proofs.YtpeheppiolfpfaaDoor
