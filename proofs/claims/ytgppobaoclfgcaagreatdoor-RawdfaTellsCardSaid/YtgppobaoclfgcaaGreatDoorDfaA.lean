/- dfa.key; the builder's map, lists that stay. Conditions: what each lemma says. -/
import Derived.Test.YtgppobaoclfgcaaGreatDoorCloA
import Derived.Test.YtgppobaoclfgcaaGreatDoorKeyP
import Derived.Maps.OwnOps
import Derived.Maps.Views
set_option linter.unusedVariables false
set_option linter.unusedSimpArgs false
namespace Go.Proofs.YtgppobaoclfgcaaGreatDoor
open Go.RowKit Go.Lib
set_option maxRecDepth 100000 in
set_option maxHeartbeats 8000000 in
theorem key_any (B : Option Addr) (X : List Int) (xc : Nat) (w : World) (hX : Sl w B (i64s X)) (hxl : X.length ≤ 1048576) (hs : ∀ t ∈ X, Plain.I64 t) (hT : Tp w) :
    Calls Tryz.prog 36 #[.slice B X.length xc] w fun e w' => ∃ l : List UInt8, e = .returned (.string (str l)) ∧ l.length ≤ 30000000 ∧ Below w.heap.size w w' := by
  obtain ⟨m, hM⟩ : ∃ n, X.length = n := ⟨_, rfl⟩
  rw [hM] at hxl ⊢
  have HX := Lib.hid hX
  have HM := Lib.hid hM
  have HS := Lib.hid hs
  have CI := Lib.hid (fun (i : Int) (hi : Plain.I64 i) (W : World) (hb : Below w.heap.size w W) => itoag i hi W (hT.below hb))
  have hb1 : Below w.heap.size w (w.alloc (.cells #[.pointer none, .slice none 0 0] 128)) := below_alloc (Below.refl _ _) _
  have hbd : Lib.IsBuilder 128 5 w.heap.size w.heap.size [] (w.alloc (.cells #[.pointer none, .slice none 0 0] 128)) :=
    .inl ⟨Nat.le_refl _, _, heap_alloc_new2 _ _ _ _ (by simp), ⟨rfl, .inl ⟨rfl, rfl⟩⟩, by simp [Value.ownBlock]⟩
  have HB1 := Lib.hid hb1
  have HBD := Lib.hid hbd
  clear hX hM hs hT hb1 hbd
  go_enter Tryz.func36, Tryz.ntmps36
  go_wp2
  go_loopw [5, 8] (fun _ i wr => ∃ (k : Nat) (l : List UInt8), k ≤ m ∧ i = .int .i64 k ∧ l.length ≤ 21 * k ∧ Lib.IsBuilder 128 5 w.heap.size w.heap.size (Lib.byteCells l) wr ∧ RowKit.Below w.heap.size w wr) (fun _ i _ => m - (RowKit.intOf i).toNat)
  case atStart => exact ⟨0, [], Nat.zero_le _, rfl, by simp, HBD.out, HB1.out⟩
  case round =>
    obtain ⟨k, l, hk, rfl, hl, hD, hB⟩ := hrel
    have HD := Lib.hid hD
    have HB := Lib.hid hB
    have HL := Lib.hid hl
    clear hD hl
    by_cases hlt : k < m
    · have hk1 : k < X.length := by rw [HM.out]; exact hlt
      obtain ⟨b, off, rfl, hbb, c0⟩ := i64_at (HX.out.below hB) k hk1
      have hsk := HS.out X[k] (List.getElem_mem hk1)
      obtain ⟨x, hx⟩ : ∃ x, X[k] = x := ⟨_, rfl⟩
      rw [hx] at c0 hsk
      have hdk := Plain.itoa_len x hsk
      have CK := Lib.hid (CI.out x hsk wr HB.out)
      obtain ⟨dk, hdq⟩ : ∃ dk, itoa x = dk := ⟨_, rfl⟩
      rw [hdq] at CK hdk
      have z1 : (str dk).size ≤ 20 := by rw [str_size]; exact hdk
      have g1 : ¬ (9223372036854775807 < (str dk).size + 1) := by omega
      have hq : str dk ++ ⟨#[44]⟩ = str (dk ++ [44]) := by
        rw [show (⟨#[44]⟩ : ByteArray) = str [44] from rfl, str_app]
      have HQ := Lib.hid hq
      have HDK := Lib.hid hdk
      have i0 : (0 : Int) ≤ (k : Int) := by omega
      have i1 : (k : Int) < (m : Int) := by omega
      have d0 : decide ((k : Int) < (m : Int)) = true := decide_eq_true i1
      have d1 : decide (k < m) = true := decide_eq_true hlt
      clear hq hdq hx hB hsk hdk
      go_wp2_with fail
      refine CK.out.mono ?_
      rintro e w1 ⟨rfl, hb⟩
      have HB2 := Lib.hid (below_then HB.out hb)
      have HD2 := Lib.hid (isb_below HD.out hb)
      clear hb c0
      go_wp2_with fail
      rw [HQ.out]
      refine (Tryz.Builder_WriteString w.heap.size w.heap.size _ (str (dk ++ [44])) w1 HD2.out (by rw [str_size]; have := HL.out; have := HDK.out; simp only [Lib.byteCells, List.length_map, List.length_append, List.length_cons, List.length_nil]; omega) HB2.out.size).mono ?_
      rintro e w2 ⟨rfl, hbd, hb⟩
      have HB3 := Lib.hid (HB2.out.trans hb)
      have hD3 := hbd
      have HD3 := Lib.hid hD3
      clear hbd hb hD3
      go_wp2_with fail
      go_roundw
      case rel =>
        refine ⟨k + 1, l ++ (dk ++ [44]), by omega, by go_num, by have := HL.out; have := HDK.out; simp; omega, ?_, HB3.out⟩
        rw [show Lib.byteCells (l ++ (dk ++ [44])) = Lib.byteCells l ++ Lib.strCells (str (dk ++ [44])) from by simp [Lib.byteCells, Lib.strCells, str]]
        exact .inr HD3.out
      case measure => simp [RowKit.intOf]; omega
    · have d0 : decide ((k : Int) < (m : Int)) = false := decide_eq_false (by omega)
      have d1 : decide (k < m) = false := decide_eq_false hlt
      clear hB
      go_wp2_with fail
      refine (Tryz.Builder_String_any w.heap.size w.heap.size l wr HD.out HB.out.size).mono ?_
      rintro e w1 ⟨rfl, hb⟩
      have HB2 := Lib.hid (HB.out.trans hb)
      clear hb
      go_wp2_with fail
      go_ret
      exact ⟨l, rfl, by have := HL.out; omega, HB2.out⟩
end Go.Proofs.YtgppobaoclfgcaaGreatDoor
namespace Go.Proofs.YtgppobaoclfgcaaGreatDoor
open Go.RowKit Go.Lib Go.Maps
theorem keyed9 : Keyed Tryz.prog 9 := string_keyed Tryz.underlying9
theorem zero3 (w : World) : (zeroValue 3).run Tryz.prog w = .ok (.int .i64 0) w := by kernel_rfl
theorem keyOf_s (s : ByteArray) (hs : s.size ≤ maxLen) : keyOf Tryz.prog 9 (.string s) = some (.string s.data.toList) := by
  simp [keyOf, Tryz.underlying9, mapKey, hs]
/-- the builder's map -/
def MapAt (w : World) (mb m : Nat) : Prop := ∃ D : DataW Unit, w.ownsMap Tryz.prog 9 (plainElem Tryz.prog 3) mb m D
theorem MapAt.lt {w : World} {mb m : Nat} (h : MapAt w mb m) : mb < w.heap.size := by obtain ⟨D, ho⟩ := h; exact ho.lt
theorem MapAt.kept {w w' : World} {mb m : Nat} {row : Option Nat} (h : MapAt w mb m) (hg : w.grownBy w' row) (hne : some mb ≠ row) : MapAt w' mb m := by
  obtain ⟨D, ho⟩ := h
  exact ⟨D, ho.kept hg hne⟩
theorem MapAt.below {w w' : World} {mb m : Nat} (h : MapAt w mb m) (hb : Below w.heap.size w w') : MapAt w' mb m :=
  h.kept (row := none) ⟨hb.os, hb.tape, hb.output, hb.size, fun k hk _ => hb.block k hk⟩ (by simp)
theorem MapAt.mono {w : World} {mb m m2 : Nat} (h : MapAt w mb m) (hm : m ≤ m2) : MapAt w mb m2 := by
  obtain ⟨D, ho⟩ := h
  exact ⟨D, ho.mono hm⟩
theorem MapAt.new (w : World) : MapAt (w.alloc (.map #[] 0)) w.heap.size 0 := ⟨.map [], World.ownsMap_made w Tryz.prog 9 (plainElem (H := Unit) Tryz.prog 3)⟩
/-- no cells lie in the map's block -/
theorem MapAt.ne {w : World} {mb m g : Nat} {cs : Array Value} {t : TypeId} {x : Nat × Nat} (h : MapAt w mb m) (hg : w.heap[g]? = some (.cells cs t x)) : mb ≠ g := by
  rintro rfl
  obtain ⟨D, es, cl, hb, _⟩ := h
  rw [hb] at hg
  cases hg
theorem MapAt.look {w : World} {mb m : Nat} (h : MapAt w mb m) (s : ByteArray) (hs : s.size ≤ maxLen) : ∃ c b, (Instr.lookup 64 (.map (some mb)) (.string s) true).run Tryz.prog w = .ok (.tuple #[.int .i64 c, .bool b]) w := by
  obtain ⟨D, es, clock, hb, F, _, rfl⟩ := h
  rcases Maps.fit_look true keyed9 Tryz.underlying64 (zero3 w) hb F (keyOf_s s hs) with ⟨hrun, _, _⟩ | ⟨e0, y, _, _, hrun, hRv, _, _⟩
  · exact ⟨0, false, by simpa using hrun⟩
  · obtain ⟨c, hc, _, _⟩ := plainElem_int_inv Tryz.underlying3 hRv
    rw [hc] at hrun
    exact ⟨c, true, by simpa using hrun⟩
theorem wpList_put {ops : Array Oper} {rest : List Oper} {o : Oper} {a : Act} {w : World} {Q : Exit → Act → World → Prop} (hg : o.guard = none) (m x v : Operand) (hop : o.op = Op.mapUpdate 64 m x v)
    (mb k : Nat) (s : ByteArray) (c : Int) (hm : a.eval m = .map (some mb)) (hS : MapAt w mb k) (hk : k < maxLen) (hx : a.eval x = .string s) (hs : s.size ≤ maxLen) (hv : a.eval v = .int .i64 c) (hc : (Lit.int .i64 c).wf = true)
    (hK : ∀ w', MapAt w' mb (k + 1) → w.grownBy w' (some mb) → wpList Tryz.prog ops Q rest (a.put o.dst undef) w') : wpList Tryz.prog ops Q (o :: rest) a w := by
  obtain ⟨D, ho⟩ := hS
  refine wpList_mapUpdate_own w hg m x v 64 hop 9 3 keyed9 Tryz.underlying64 _ mb k D hm ho hk _ _ _ hx hv (keyOf_s s hs) _ [] (plainElem_int Tryz.underlying3 hc) ?_
  intro w' ho' hg'
  exact hK w' ⟨_, ho'⟩ hg'
end Go.Proofs.YtgppobaoclfgcaaGreatDoor
namespace Go.Proofs.YtgppobaoclfgcaaGreatDoor
open Go.RowKit Go.Lib Go.Maps
open Plain (In4)
abbrev Row := Option Addr × Nat × List Int
def rowV (r : Row) : Value := .slice r.1 r.2.2.length r.2.1
/-- a list of numbers that lies in memory for good -/
def Ln (w : World) (r : Row) : Prop := r.2.2.length = 0 ∨ ∃ (g : Nat) (cs : Array Value), r.1 = some ⟨g, 0, none⟩ ∧ w.heap[g]? = some (.cells cs 3 (0, 0)) ∧ ∀ (j : Nat) (u : Value), (i64s r.2.2)[j]? = some u → cs[j]? = some u
theorem Ln.sl {w : World} {r : Row} (h : Ln w r) : Sl w r.1 (i64s r.2.2) := fun hn => by
  rcases h with h | ⟨g, cs, e, hg, hc⟩
  · rw [i64s_len] at hn; omega
  · exact ⟨g, 0, e, lt_of_some hg, fun i u hu => by rw [Nat.zero_add, cell_of_row _ _ _ _ _ _ hg]; exact hc i u hu⟩
/-- blocks of numbers are not turned -/
def Ki (w w' : World) : Prop := w.heap.size ≤ w'.heap.size ∧ ∀ (g : Nat) (cs : Array Value), w.heap[g]? = some (.cells cs 3 (0, 0)) → w'.heap[g]? = w.heap[g]?
theorem Ki.refl (w : World) : Ki w w := ⟨Nat.le_refl _, fun _ _ _ => rfl⟩
theorem Ki.trans {a b c : World} (h : Ki a b) (h2 : Ki b c) : Ki a c := ⟨Nat.le_trans h.1 h2.1, fun g cs hg => by
  have h3 := h.2 g cs hg
  exact (h2.2 g cs (h3.trans hg)).trans h3⟩
theorem Ki.below {w w' : World} (h : Below w.heap.size w w') : Ki w w' := ⟨h.size, fun g cs hg => h.block g (lt_of_some hg)⟩
theorem Ki.gr {w w' : World} {row : Option Nat} (hg : w.grownBy w' row) (h : ∀ k, row = some k → ∀ cs, w.heap[k]? ≠ some (.cells cs 3 (0, 0))) : Ki w w' :=
  ⟨hg.size, fun g cs hc => hg.block g (lt_of_some hc) (fun e => h g e.symm cs hc)⟩
theorem Ln.ki {w w' : World} {r : Row} (h : Ln w r) (hk : Ki w w') : Ln w' r := by
  rcases h with h | ⟨g, cs, e, hg, hc⟩
  · exact .inl h
  · exact .inr ⟨g, cs, e, (hk.2 g cs hg).trans hg, hc⟩
/-- a list lies in another block -/
def far (r : Row) (g : Nat) : Prop := r.2.2.length = 0 ∨ ∃ k, r.1 = some ⟨k, 0, none⟩ ∧ k ≠ g
/-- a list lies at a block or above it -/
def frm (r : Row) (g : Nat) : Prop := r.2.2.length = 0 ∨ ∃ k, r.1 = some ⟨k, 0, none⟩ ∧ g ≤ k
theorem Ln.gr {w w' : World} {r : Row} {g : Nat} (h : Ln w r) (hg : w.grownBy w' (some g)) (hf : far r g) : Ln w' r := by
  rcases h with h | ⟨k, cs, e, hk, hc⟩
  · exact .inl h
  · rcases hf with hf | ⟨k2, e2, hne⟩
    · exact .inl hf
    · rw [e] at e2
      injection e2 with e2; injection e2 with e2
      subst e2
      exact .inr ⟨k, cs, e, (hg.block k (lt_of_some hk) (fun e3 => hne (Option.some.inj e3))).trans hk, hc⟩
theorem Ln.lt {w : World} {r : Row} (h : Ln w r) {g : Nat} (hg : w.heap.size ≤ g) : far r g := by
  rcases h with h | ⟨k, cs, e, hk, hc⟩
  · exact .inl h
  · have := lt_of_some hk
    exact .inr ⟨k, e, by omega⟩
theorem frm.far {r : Row} {k g : Nat} (h : frm r k) (hg : g < k) : far r g := by
  rcases h with h | ⟨k2, e, hk⟩
  · exact .inl h
  · exact .inr ⟨k2, e, by omega⟩
theorem own_form {w : World} {base n size : Nat} {e : TypeId} {v : Value} {xs : List Value} (h : w.ownsRow base e size v n xs) : ∃ p c, v = .slice p n c := by
  rcases h.2 with ⟨rfl, h0⟩ | ⟨g, c, _, rfl, _⟩
  · subst h0; exact ⟨_, _, rfl⟩
  · exact ⟨_, _, rfl⟩
theorem Ln.of_own {w : World} {base : Nat} {v : Value} {T : List Int} (h : w.ownsRow base 3 1 v T.length (i64s T)) : ∃ r : Row, v = rowV r ∧ r.2.2 = T ∧ Ln w r ∧ frm r base := by
  rcases h.2 with ⟨rfl, h0⟩ | ⟨g, c, cur, rfl, hb, hg, hnc, hcm, hcs, htake⟩
  · exact ⟨(none, 0, T), by unfold rowV; rw [h0], rfl, .inl h0, .inl h0⟩
  · refine ⟨(some ⟨g, 0, none⟩, c, T), rfl, rfl, .inr ⟨g, cur, rfl, hg, fun j u hu => ?_⟩, .inr ⟨g, rfl, hb⟩⟩
    have hj := (List.getElem?_eq_some_iff.1 hu).1
    rw [← htake] at hu
    rw [List.getElem?_take] at hu
    split at hu
    · simpa using hu
    · cases hu
theorem not3_row {w : World} {base n size : Nat} {e : TypeId} {v : Value} {xs : List Value} (h : w.ownsRow base e size v n xs) (he : e ≠ 3) : ∀ k, v.ownBlock = some k → ∀ cs, w.heap[k]? ≠ some (.cells cs 3 (0, 0)) := by
  intro k hk cs hc
  rcases h.2 with ⟨rfl, _⟩ | ⟨g, c, cur, rfl, _, hg, _⟩
  · cases hk
  · have : g = k := by simpa [Value.ownBlock] using hk
    subst this
    rw [hg] at hc
    injection hc with hc; injection hc with _ hc
    exact he hc
theorem not3_box {w : World} {b : Nat} {cs0 : Array Value} {t : TypeId} (h : w.heap[b]? = some (.cells cs0 t (0, 0))) (ht : t ≠ 3) : ∀ k, some b = some k → ∀ cs, w.heap[k]? ≠ some (.cells cs 3 (0, 0)) := by
  rintro k ⟨⟩ cs hc
  rw [h] at hc
  injection hc with hc; injection hc with _ hc
  exact ht hc
theorem MapAt.not3 {w : World} {mb m : Nat} (h : MapAt w mb m) : ∀ k, some mb = some k → ∀ cs, w.heap[k]? ≠ some (.cells cs 3 (0, 0)) := by
  rintro k ⟨⟩ cs hc
  exact h.ne hc rfl
theorem MapAt.ne_row {w : World} {mb m base n size : Nat} {e : TypeId} {v : Value} {xs : List Value} (h : MapAt w mb m) (ho : w.ownsRow base e size v n xs) : some mb ≠ v.ownBlock := by
  intro e
  rcases ho.2 with ⟨rfl, _⟩ | ⟨g, c, cur, rfl, _, hg, _⟩
  · cases e
  · have : mb = g := by simpa [Value.ownBlock] using e
    exact h.ne hg this
/-- a map is put to: what lies apart of cells is as it was -/
theorem SepB.map {W w w' : World} {l : List Th} {mb m : Nat} (h : SepB W w l) (hm : MapAt w mb m) (hge : W.heap.size ≤ mb) (hg : w.grownBy w' (some mb)) : SepB W w' l := by
  refine ⟨⟨fun T hT => th_kept (h.1.1 T hT) fun k hk => hg.block k (th_lt (h.1.1 T hT) k hk).2 (fun e => ?_), h.1.2⟩, ⟨hg.os.trans h.2.os, hg.tape.trans h.2.tape, hg.output.trans h.2.output, Nat.le_trans h.2.size hg.size, fun k hk => (hg.block k (Nat.lt_of_lt_of_le hk h.2.size) (fun e => by
    have := Option.some.inj e; omega)).trans (h.2.block k hk)⟩⟩
  have e2 := Option.some.inj e
  subst e2
  have ho := h.1.1 T hT
  unfold Th.ok at ho
  unfold Th.blk at hk
  split at ho
  · rename_i hd
    rw [if_pos hd] at hk
    injection hk with hk
    exact hm.ne ho.2 hk.symm
  · rename_i hd
    rw [if_neg hd] at hk
    exact hm.ne_row ho hk.symm
abbrev BL (b mb : Nat) (lv nv av sv : Value) (I C : Option Addr) (n c kn d : Nat) (g : Int) (N : List Row) (A : List Bool) (S : List Row) (R : List Th) : List Th :=
  boxT b #[lv, nv, av, .slice I n c, .slice C kn d, .int .i64 g, sv, .map (some mb)] 66 :: rowT 58 1 nv N.length (N.map rowV) :: rowT 4 1 av A.length (A.map Value.bool) :: rowT 58 1 sv S.length (S.map rowV) :: R
/-- the builder -/
structure Bd (W w : World) (b mb m : Nat) (lv nv av sv : Value) (I C : Option Addr) (n c kn d : Nat) (g : Int) (N : List Row) (A : List Bool) (S : List Row) (R : List Th) : Prop where
  sep : SepB W w (BL b mb lv nv av sv I C n c kn d g N A S R)
  map : MapAt w mb m
  mge : W.heap.size ≤ mb
  lines : ∀ r ∈ S, Ln w r ∧ InN n r.2.2 ∧ r.2.2.length ≤ n
  nexts : ∀ r ∈ N, Ln w r
theorem Bd.below {W w w' : World} {b mb m : Nat} {lv nv av sv : Value} {I C : Option Addr} {n c kn d : Nat} {g : Int} {N : List Row} {A : List Bool} {S : List Row} {R : List Th} (h : Bd W w b mb m lv nv av sv I C n c kn d g N A S R) (hb : Below w.heap.size w w') : Bd W w' b mb m lv nv av sv I C n c kn d g N A S R :=
  ⟨h.sep.below hb, h.map.below hb, h.mge, fun r hr => ⟨(h.lines r hr).1.ki (.below hb), (h.lines r hr).2⟩, fun r hr => (h.nexts r hr).ki (.below hb)⟩
theorem info58 : (Tryz.prog.info? 58).map (fun i => (i.zero, i.size, i.bytes)) = some (some (.slice none 0 0), 1, 24) := by kernel_rfl
theorem rowV_one (S : List Row) : ∀ u ∈ S.map rowV, u.oneCell' = true := by
  intro u hu; obtain ⟨t, _, rfl⟩ := List.mem_map.1 hu; rfl
end Go.Proofs.YtgppobaoclfgcaaGreatDoor
