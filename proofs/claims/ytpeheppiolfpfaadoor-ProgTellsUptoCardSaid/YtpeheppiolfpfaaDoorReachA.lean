/- prog.Reach: what the code computes. Conditions: what each lemma says. -/
import Derived.Test.YtpeheppiolfpfaaDoorPutB
import Derived.ArgAppend
import Derived.Deep.LoopGhost
import Derived.Deep.CutBlock
import Derived.Laws.OwnMore
import Derived.Laws.MakeOwn
set_option linter.unusedVariables false
set_option linter.unusedSimpArgs false
namespace Go
section
variable {P : Program} (w : World)
theorem run_append_nilsrc (t ty e : TypeId) (i : TypeInfo) (ht : P.underlying t = some (.slice e)) (hi : P.info? e = some i) (b off n cap : Nat) (hnc : n ≤ cap) :
    (Builtin.append_ #[t, t] ty #[.slice (some ⟨b, off, none⟩) n cap, .slice none 0 0]).run P w = .ok (.slice (some ⟨b, off, none⟩) n cap) w := by
  have hfc := run_firstCells_none (P := P) w i.size 0 0 0
  simp [Builtin.append_, run_underlying ht, sizeOf, typeInfo, hi, Builtin.lenOf, hnc, hfc, Addr.add_lit, storeCells]
theorem wpList_append_nilsrc {ops : Array Oper} {rest : List Oper} {o : Oper} {a : Act} {Q : Exit → Act → World → Prop}
    (hg : o.guard = none) (s x : Operand) (t : TypeId) (hop : o.op = Op.call { callee := Callee.builtin Builtin.append, args := #[s, x], argTypes := #[t, t] })
    (e : TypeId) (i : TypeInfo) (h1 : P.underlying t = some (.slice e)) (h2 : P.info? e = some i) (b off n cap : Nat) (hs : a.eval s = .slice (some ⟨b, off, none⟩) n cap) (hx : a.eval x = .slice none 0 0) (hnc : n ≤ cap)
    (h : wpList P ops Q rest (a.put o.dst (.slice (some ⟨b, off, none⟩) n cap)) w) : wpList P ops Q (o :: rest) a w := by
  refine wpList_plain hg fun K hK' => ?_
  have hrun := run_append_nilsrc (P := P) w t o.type e i h1 h2 b off n cap hnc
  unfold Oper.wp
  simp [execOp, hop, resolve, invoke, builtin, hs, hx, hrun, Result.andThen]
  exact hK' _ _ h
end
end Go
namespace Go.Proofs.YtpeheppiolfpfaaDoor
open Go.RowKit Go.Lib
open Plain (Rg May mayB In Norm In4 slotsOf insB bnd riB cls cnot rightB normB nextL Rch cntA)
/-- a slice of numbers that is taken from ahead and grows behind -/
def Qu (w : World) (g : Nat) (v : Value) (xs : List Int) : Prop :=
  g < w.heap.size ∧ ∃ off cap, v = .slice (some ⟨g, off, none⟩) xs.length cap ∧ xs.length ≤ cap ∧ cap ≤ maxLen ∧ (∀ j u, (i64s xs)[j]? = some u → w.cell? ⟨g, off + j, none⟩ = some u) ∧ ∀ j, j < cap → (w.cell? ⟨g, off + j, none⟩).isSome = true ∧ w.frozen? ⟨g, off + j, none⟩ = false
theorem Qu.keep {w w' : World} {g : Nat} {v : Value} {xs : List Int} (h : Qu w g v xs) (hb : w'.heap[g]? = w.heap[g]?) : Qu w' g v xs := by
  obtain ⟨h1, off, cap, h2, h3, h4, h5, h6⟩ := h
  refine ⟨?_, off, cap, h2, h3, h4, fun j u hu => ?_, fun j hj => ?_⟩
  · rcases Nat.lt_or_ge g w'.heap.size with h | h
    · exact h
    · rw [Array.getElem?_eq_none h, Array.getElem?_eq_getElem h1] at hb; cases hb
  · rw [World.cell?_of_block (a := ⟨g, off + j, none⟩) hb]; exact h5 j u hu
  · rw [World.cell?_of_block (a := ⟨g, off + j, none⟩) hb, World.frozen?_of_block (a := ⟨g, off + j, none⟩) hb]; exact h6 j hj
theorem Qu.below {w w' : World} {g : Nat} {v : Value} {xs : List Int} (h : Qu w g v xs) (hb : Below w.heap.size w w') : Qu w' g v xs := h.keep (hb.block g h.1)
theorem setCells_heap (w : World) (g : Nat) : ∀ (vs : List Value) (o k : Nat), k ≠ g → (w.setCells g o vs).heap[k]? = w.heap[k]? := by
  intro vs
  induction vs generalizing w with
  | nil => intro o k _; rfl
  | cons v vs ih =>
    intro o k hk
    rw [World.setCells, ih _ _ _ hk, heap_setCell_other w ⟨g, o, none⟩ k v hk]
theorem setCells_size (w : World) (g : Nat) : ∀ (vs : List Value) (o : Nat), (w.setCells g o vs).heap.size = w.heap.size := by
  intro vs
  induction vs generalizing w with
  | nil => intro o; rfl
  | cons v vs ih =>
    intro o
    rw [World.setCells, ih]; simp [World.setCell]
theorem setCells_kp (w : World) (g : Nat) : ∀ (vs : List Value) (o : Nat), Kp g w (w.setCells g o vs) := by
  intro vs
  induction vs generalizing w with
  | nil => intro o; exact Kp.refl g w
  | cons v vs ih =>
    intro o
    rw [World.setCells]
    exact ((Kp.refl g w).set o v).trans (ih _ _)
theorem info3' : (Tryd.prog.info? 3).map (fun i => (i.zero, i.size, i.bytes)) = some (some (.int .i64 0), 1, 8) := by kernel_rfl
theorem wpList_append_qu {ops : Array Oper} {rest : List Oper} {o : Oper} {a : Act} {Q : Exit → Act → World → Prop} (w : World)
    (hg : o.guard = none) (s x : Operand) (hop : o.op = Op.call { callee := Callee.builtin Builtin.append, args := #[s, x], argTypes := #[63, 63] })
    (g : Nat) (v : Value) (xs : List Int) (hs : a.eval s = v) (hQ : Qu w g v xs) (ad : Addr) (m c : Nat) (ys : List Int) (hx : a.eval x = .slice (some ad) m c) (hm : ys.length = m) (hc : ∀ j u, (i64s ys)[j]? = some u → w.cell? (ad.add j) = some u)
    (h0 : 0 < ys.length) (hb : xs.length + ys.length ≤ 1000000000)
    (h : ∀ v' w' g', Qu w' g' v' (xs ++ ys) → (g' = g ∨ w.heap.size ≤ g') → Kp g w w' → wpList Tryd.prog ops Q rest (a.put o.dst v') w') : wpList Tryd.prog ops Q (o :: rest) a w := by
  obtain ⟨i3, hi3, y0, y1, y2⟩ := info_parts info3'
  obtain ⟨hlt, off, cap, rfl, hle, hcm, hc1, hsp⟩ := hQ
  subst hm
  refine wpList_append_arg w hg s x 63 hop 3 i3 _ 1 8 Tryd.underlying63 hi3 y0 y1 y2 rfl (by decide) g off xs.length cap (i64s xs) hs (by simp [i64s]) hc1 ad ys.length c (i64s ys) hx (by simp [i64s]) hc (fun u hu => ?_) (fun hr j hj => ?_) (by unfold maxLen; omega) (by omega) (fun hr => ?_) (fun hr v' w' hown hgrow => ?_)
  · simp only [i64s, List.mem_map] at hu
    obtain ⟨z, _, rfl⟩ := hu
    rfl
  · have hj' : j < ys.length := by simpa [i64s] using hj
    have := hsp (xs.length + j) (by omega)
    rw [show off + xs.length * 1 + j = off + (xs.length + j) by omega]
    exact this
  · refine h _ _ g ⟨by rw [setCells_size]; exact hlt, off, cap, by rw [List.length_append], by rw [List.length_append]; exact hr, hcm, fun j u hu => ?_, fun j hj => ?_⟩ (.inl rfl) (setCells_kp w g _ _)
    · rw [i64s, List.map_append] at hu
      by_cases hj : j < xs.length
      · rw [World.cell?_setCells_out g _ _ w ⟨g, off + j, none⟩ (fun _ _ => .inl (by simp; omega))]
        exact hc1 j u (by rw [List.getElem?_append_left (by simpa using hj)] at hu; exact hu)
      · have hjl : j - xs.length < (i64s ys).length := by
          have := (List.getElem?_eq_some_iff.1 hu).1
          simp [i64s] at this ⊢; omega
        have h2 := World.cell?_setCells_in g (i64s ys) (off + xs.length * 1) w (fun k hk => by
          have hk' : k < ys.length := by simpa [i64s] using hk
          rw [show off + xs.length * 1 + k = off + (xs.length + k) by omega]
          exact (hsp (xs.length + k) (by omega)).1) (j - xs.length) hjl
        rw [show off + xs.length * 1 + (j - xs.length) = off + j by omega] at h2
        rw [h2]
        rw [List.getElem?_append_right (by simp; omega)] at hu
        simp only [List.length_map] at hu
        rw [List.getElem?_eq_getElem (by simpa [i64s] using hjl)] at hu
        exact hu
    · refine ⟨?_, by rw [World.frozen?_setCells]; exact (hsp j hj).2⟩
      by_cases hin : xs.length ≤ j ∧ j < xs.length + ys.length
      · have h2 := World.cell?_setCells_in g (i64s ys) (off + xs.length * 1) w (fun k hk => by
          have hk' : k < ys.length := by simpa [i64s] using hk
          rw [show off + xs.length * 1 + k = off + (xs.length + k) by omega]
          exact (hsp (xs.length + k) (by omega)).1) (j - xs.length) (by simp [i64s]; omega)
        rw [show off + xs.length * 1 + (j - xs.length) = off + j by omega] at h2
        rw [h2]; rfl
      · rw [World.cell?_setCells_out g _ _ w ⟨g, off + j, none⟩ (fun _ _ => by simp [i64s]; omega)]
        exact (hsp j hj).1
  · obtain ⟨hl, hv | ⟨g', cap', cur, rfl, hbg, hh, hnc, hcm', hsz, htk⟩⟩ := hown
    · omega
    · rw [← show i64s (xs ++ ys) = i64s xs ++ i64s ys by simp [i64s]] at htk hl
      refine h _ _ g' ⟨lt_of_some hh, 0, cap', by rw [List.length_append], by rw [List.length_append]; exact hnc, hcm', fun j u hu => ?_, fun j hj => ⟨?_, blk_frozen hh _⟩⟩ (.inr hbg) ⟨hgrow.os, hgrow.tape, hgrow.output, hgrow.size, fun k hk _ => hgrow.block k hk (by simp)⟩
      · rw [Nat.zero_add, cell_of_row _ _ _ _ _ _ hh]
        rw [← htk, List.getElem?_take] at hu
        split at hu
        · simpa using hu
        · cases hu
      · rw [Nat.zero_add, cell_of_row _ _ _ _ _ _ hh, Array.getElem?_eq_getElem (by omega)]; rfl
end Go.Proofs.YtpeheppiolfpfaaDoor
namespace Go.Proofs.YtpeheppiolfpfaaDoor.Plain
/-- what has been found, what is to do -/
structure RInv (L : List In4) (O : List Bool) (T : List Int) : Prop where
  len : O.length = L.length
  sound : ∀ k, k < L.length → O.getD k false = true → Rch L k
  todo : ∀ m : Nat, m < L.length → (m : Int) ∈ T → Rch L m
  closed : ∀ k m : Nat, k < L.length → O.getD k false = true → m < L.length → (m : Int) ∈ nextL (L.getD k (0, 0, 0, 0)) → O.getD m false = true ∨ (m : Int) ∈ T
  first : 0 < L.length → O.getD 0 false = true ∨ (0 : Int) ∈ T
theorem getD_rep (n k : Nat) : (List.replicate n false).getD k false = false := by
  rw [List.getD_eq_getElem?_getD, List.getElem?_replicate]; split <;> rfl
theorem RInv.start (L : List In4) : RInv L (List.replicate L.length false) [0] :=
  ⟨by simp, fun k _ h => (by rw [getD_rep] at h; cases h), fun m hm h => (by
    have : m = 0 := by simp at h; exact h
    subst this
    exact Rch.zero hm), fun k m _ h => (by rw [getD_rep] at h; cases h), fun _ => .inr (by simp)⟩
theorem RInv.skip {L : List In4} {O : List Bool} {z : Int} {T : List Int} (h : RInv L O (z :: T)) (hz : ∀ m : Nat, m < L.length → (m : Int) = z → O.getD m false = true) : RInv L O T :=
  ⟨h.len, h.sound, fun m hm hT => h.todo m hm (by simp [hT]), fun k m hk ho hm hn => (by
    rcases h.closed k m hk ho hm hn with h1 | h1
    · exact .inl h1
    · rcases List.mem_cons.1 h1 with e | e
      · exact .inl (hz m hm e)
      · exact .inr e), fun h0 => by
    rcases h.first h0 with h1 | h1
    · exact .inl h1
    · rcases List.mem_cons.1 h1 with e | e
      · exact .inl (hz 0 h0 (by simpa using e))
      · exact .inr e⟩
theorem getD_set (O : List Bool) (k m : Nat) (hk : k < O.length) : (O.set k true).getD m false = if m = k then true else O.getD m false := by
  rw [List.getD_eq_getElem?_getD, List.getElem?_set]
  by_cases h : k = m
  · subst h; simp [hk]
  · rw [if_neg h, if_neg (Ne.symm h), List.getD_eq_getElem?_getD]
theorem RInv.take {L : List In4} {O : List Bool} {k : Nat} {T : List Int} (h : RInv L O ((k : Int) :: T)) (hk : k < L.length) : RInv L (O.set k true) (T ++ nextL (L.getD k (0, 0, 0, 0))) := by
  have hR : Rch L k := h.todo k hk (by simp)
  have hko : k < O.length := by rw [h.len]; exact hk
  refine ⟨by rw [List.length_set, h.len], fun j hj ho => ?_, fun m hm hT => ?_, fun j m hj ho hm hn => ?_, fun h0 => ?_⟩
  · rw [getD_set O k j hko] at ho
    by_cases e : j = k
    · rw [e]; exact hR
    · rw [if_neg e] at ho; exact h.sound j hj ho
  · rcases List.mem_append.1 hT with e | e
    · exact h.todo m hm (by simp [e])
    · exact hR.step hm e
  · rw [getD_set O k m hko]
    by_cases em : m = k
    · exact .inl (by rw [if_pos em])
    rw [if_neg em]
    rw [getD_set O k j hko] at ho
    by_cases e : j = k
    · subst e; exact .inr (List.mem_append.2 (.inr hn))
    · rw [if_neg e] at ho
      rcases h.closed j m hj ho hm hn with h1 | h1
      · exact .inl h1
      · rcases List.mem_cons.1 h1 with e2 | e2
        · exact absurd (by omega) em
        · exact .inr (List.mem_append.2 (.inl e2))
  · rw [getD_set O k 0 hko]
    by_cases em : 0 = k
    · exact .inl (by rw [if_pos em])
    rw [if_neg em]
    rcases h.first h0 with h1 | h1
    · exact .inl h1
    · rcases List.mem_cons.1 h1 with e2 | e2
      · exact absurd (by omega) em
      · exact .inr (List.mem_append.2 (.inl e2))
theorem RInv.done {L : List In4} {O : List Bool} (h : RInv L O []) (k : Nat) (hk : k < L.length) : O.getD k false = true ↔ Rch L k := by
  refine ⟨h.sound k hk, fun hR => ?_⟩
  refine hR.2 (fun a => a < L.length → O.getD a false = true) (fun h0 => ?_) (fun a m ha hs hm hn _ => ?_) hk
  · rcases h.first h0 with h1 | h1
    · exact h1
    · cases h1
  · rcases h.closed a m ha (hs ha) hm hn with h1 | h1
    · exact h1
    · cases h1
theorem count_set : ∀ (O : List Bool) (k : Nat), k < O.length → O.getD k false = false → (O.set k true).count false + 1 = O.count false := by
  intro O
  induction O with
  | nil => intro k hk; simp at hk
  | cons b O ih =>
    intro k hk ho
    cases k with
    | zero =>
      simp at ho
      subst ho
      simp
    | succ k =>
      have h1 := ih k (by simpa using hk) (by simpa using ho)
      rw [List.set_cons_succ, List.count_cons, List.count_cons]
      omega
end Go.Proofs.YtpeheppiolfpfaaDoor.Plain
namespace Go.Proofs.YtpeheppiolfpfaaDoor
open Go.RowKit Go.Lib
open Plain (Rg May mayB In Norm In4 slotsOf insB bnd riB cls cnot rightB normB nextL Rch cntA RInv)
def bls (O : List Bool) : Array Value := (O.map Value.bool).toArray
def ReachRes (L : List In4) (w : World) (e : Ending) (w' : World) : Prop :=
  ∃ (g : Nat) (O : List Bool), e = .returned (.slice (some ⟨g, 0, none⟩) L.length L.length) ∧ O.length = L.length ∧ w'.heap[g]? = some (.cells (bls O) 4 (0, 0)) ∧ (∀ k, k < L.length → (O.getD k false = true ↔ Rch L k)) ∧ Below w.heap.size w w'
def RRel (w : World) (L : List In4) (v0 v1 v2 : Value) (go gk : Nat) (td : Value) (wr : World) : Prop :=
  ∃ (O : List Bool) (T : List Int) (g : Nat), gk = 3 * O.count false + T.length ∧ wr.heap[go]? = some (.cells (bls O) 4 (0, 0)) ∧ Qu wr g td T ∧ g ≠ go ∧ w.heap.size < g ∧ wr.heap[w.heap.size]? = some (.cells #[v0, v1, v2] 25 (0, 0)) ∧ Below w.heap.size w wr ∧ RInv L O T ∧ gk ≤ 3 * L.length + 1
theorem insB_iff (z : Int) (n : Nat) : insB z n = true ↔ 0 ≤ z ∧ z < n := by unfold insB; simp
theorem info4b : (Tryd.prog.info? 4).map (fun i => (i.zero, i.size, i.bytes)) = some (some (.bool false), 1, 1) := by kernel_rfl
theorem made_one (v : Value) (n : Nat) : madeCells #[v] n = (List.replicate n v).toArray := by
  rw [← toList_madeCells_one]
theorem make_bools (W : World) (n : Nat) (hn : n ≤ 1048576) : (Instr.makeSlice 38 (.int .i64 (n : Int)) (.int .i64 (n : Int))).run Tryd.prog W = .ok (.slice (some ⟨W.heap.size, 0, none⟩) n n) (W.alloc (.cells (bls (List.replicate n false)) 4)) := by
  obtain ⟨i4, hi4, b0, b1, b2⟩ := info_parts info4b
  have := run_make (P := Tryd.prog) W 38 4 i4 (.bool false) Tryd.underlying38 hi4 b0 .i64 .i64 n n (by omega) (Int.le_refl _) (by rw [b2]; omega) (by omega)
  rw [this, b1, Nat.mul_one, Int.toNat_natCast]
  rw [show (Value.bool false).cells = #[.bool false] from rfl, made_one]
  simp [bls]
set_option maxRecDepth 100000 in
set_option maxHeartbeats 4000000 in
theorem reach_any (I C : Option Addr) (L : List In4) (K : List Cs) (c d : Nat) (g : Int) (w : World) (hP : PgAt w I L C K) (hn : L.length ≤ 1048576) :
    Calls Tryd.prog 12 #[pgV I L.length c C K.length d g] w (ReachRes L w) := by
  obtain ⟨n, hN⟩ : ∃ n, L.length = n := ⟨_, rfl⟩
  obtain ⟨m, hM⟩ : ∃ m, K.length = m := ⟨_, rfl⟩
  rw [hN] at hn ⊢
  rw [hM]
  unfold pgV
  have HI := Lib.hid hP.insts
  have HN := Lib.hid hN
  have CI := Lib.hid (fun z k (W : World) => inside_any z k W)
  have CX := Lib.hid (fun t (W : World) => next_any t W)
  obtain ⟨i3, hi3, y0, y1, y2⟩ := info_parts info3'
  have HMK := Lib.hid (fun (W : World) => make_bools W n (by omega))
  have hmk := fun (W : World) => HMK.out W
  clear hP hN hM HMK
  go_enter Tryd.func12, Tryd.ntmps12
  go_wp2
  go_loopg [4] (3 * n + 1) (fun gk td wr => RRel w L (.slice I n c) (.slice C m d) (.int .i64 g) (w.heap.size + 1) gk td wr)
  case atStart =>
    refine ⟨List.replicate n false, [0], w.heap.size + 2, by simp, (Below.heap_alloc _ _ _ (by simp)).trans (heap_alloc_new2 _ _ _ _ (by simp)), ⟨by simp, 0, 1, rfl, Nat.le_refl _, by simp [maxLen], fun j u hu => ?_, fun j hj => ?_⟩, by omega, by omega, (Below.heap_alloc _ _ _ (by simp; omega)).trans ((Below.heap_alloc _ _ _ (by simp)).trans (heap_alloc_new2 _ _ _ _ rfl)), below_alloc (below_alloc (below_alloc (Below.refl _ _) _) _) _, by rw [← HN.out]; exact Plain.RInv.start L, by rw [HN.out]; omega⟩
    · rw [cell_of_row _ _ _ _ _ _ (heap_alloc_new2 _ _ _ _ (by simp))]
      match j, hu with
      | 0, hu => simpa [i64s] using hu
      | j + 1, hu => simp [i64s] at hu
    · have h := heap_alloc_new2 ((w.alloc (.cells #[.slice I n c, .slice C m d, .int .i64 g] 25)).alloc (.cells (bls (List.replicate n false)) 4)) (.cells #[.int .i64 0] 3) (w.heap.size + 2) _ (by simp)
      obtain rfl : j = 0 := by omega
      exact ⟨by rw [cell_of_row _ _ _ _ _ _ h]; rfl, blk_frozen h _⟩
  case round =>
    obtain ⟨O, T, g0, hgk, hO, hQ, hg0, hgw, hX, hB, hV, hcn⟩ := hrel
    have HX := Lib.hid hX
    have HB := Lib.hid hB
    have HV := Lib.hid hV
    have HO := Lib.hid hO
    have HGK := Lib.hid hgk
    have HCN := Lib.hid hcn
    have HQ := Lib.hid hQ
    clear hB hV hO hgk hcn hQ hmk hX
    cases T with
    | nil =>
      obtain ⟨_, off, cap, hv, hle, hcm, hc1, hsp⟩ := HQ.out
      rw [List.length_nil] at hv
      subst hv
      clear hc1 hsp hle hcm
      go_wp2
      go_ret
      exact ⟨w.heap.size + 1, O, by rw [HN.out]; rfl, by rw [HV.out.len], HO.out, fun k hk => HV.out.done k hk, HB.out⟩
    | cons z T =>
      obtain ⟨hlg, off, cap, hv, hle, hcm, hc1, hsp⟩ := HQ.out
      have d0 := hc1 0 (.int .i64 z) rfl
      rw [Nat.add_zero] at d0
      obtain ⟨r, hr⟩ : ∃ r, T.length = r := ⟨_, rfl⟩
      rw [List.length_cons, hr] at hle hv
      subst hv
      obtain ⟨p, rfl⟩ : ∃ p, cap = p + 1 := ⟨cap - 1, by omega⟩
      have HC1 := Lib.hid hc1
      have HSP := Lib.hid hsp
      have HR := Lib.hid hr
      unfold maxLen at hcm
      clear hc1 hsp hr
      go_upto_region 6 with fail
      obtain ⟨of2, hof⟩ : ∃ o2, (if p = 0 then some (⟨g0, off, none⟩ : Addr) else some ⟨g0, off + 1, none⟩) = some ⟨g0, o2, none⟩ := by split <;> exact ⟨_, rfl⟩
      have hQ2 : Qu wr g0 (.slice (some ⟨g0, of2, none⟩) r p) T := by
        refine ⟨hlg, of2, p, by rw [HR.out], by rw [HR.out]; omega, by unfold maxLen; omega, fun j u hu => ?_, fun j hj => ?_⟩
        · have hjT : j < T.length := by
            have := (List.getElem?_eq_some_iff.1 hu).1
            simpa [i64s] using this
          have hp : ¬ p = 0 := by have := HR.out; omega
          rw [if_neg hp] at hof
          injection hof with e; injection e with _ e2; subst e2
          rw [show off + 1 + j = off + (j + 1) by omega]
          exact HC1.out (j + 1) u (by simpa [i64s] using hu)
        · have hp : ¬ p = 0 := by omega
          rw [if_neg hp] at hof
          injection hof with e; injection e with _ e2; subst e2
          rw [show off + 1 + j = off + (j + 1) by omega]
          exact HSP.out (j + 1) (by omega)
      rw [hof]
      have HQ2 := Lib.hid hQ2
      have hgo : w.heap.size + 1 < wr.heap.size := lt_of_some HO.out
      have hrp : r ≤ p := by omega
      clear hQ2 hof d0
      by_cases hin : insB z n = true
      · obtain ⟨hz0, hzn⟩ := (insB_iff z n).1 hin
        obtain ⟨k, rfl⟩ := Int.eq_ofNat_of_zero_le hz0
        have hkn : k < n := by omega
        have hkL : k < L.length := by rw [HN.out]; exact hkn
        have CK := Lib.hid (fun (W : World) => CI.out (k : Int) (n : Int) W)
        rw [hin] at CK
        have hko : k < O.length := by rw [HV.out.len]; exact hkL
        have hob : wr.cell? ⟨w.heap.size + 1, k, none⟩ = some (.bool (O.getD k false)) := by
          rw [cell_of_row _ _ _ _ _ _ HO.out]
          simp [bls, hko, List.getD_eq_getElem?_getD, List.getElem?_eq_getElem hko]
        have i0 : (0 : Int) ≤ (k : Int) := by omega
        have i1 : (k : Int) < (n : Int) := by omega
        have HIN := Lib.hid hin
        clear hin hz0 hzn
        obtain ⟨q, hq⟩ : ∃ q, O.getD k false = q := ⟨_, rfl⟩
        rw [hq] at hob
        have HQK := Lib.hid hq
        clear hq
        go_wp2_with fail
        refine (CK.out _).mono ?_
        rintro e w1 ⟨rfl, rfl⟩
        cases q
        · obtain ⟨bI, oI, rfl, hbI, c0, c1, c2, c3⟩ := i4_at HI.out k hkL
          obtain ⟨t, ht⟩ : ∃ t, L[k] = t := ⟨_, rfl⟩
          rw [ht] at c0 c1 c2 c3
          rw [← HB.out.cell (p := ⟨bI, _, none⟩) hbI] at c0 c1 c2 c3
          have hnt : nextL (L.getD k (0, 0, 0, 0)) = nextL t := by rw [Plain.getD_lt L _ k hkL, ht]
          have CT := Lib.hid (fun (W : World) => CX.out t W)
          obtain ⟨op, x, y, a⟩ := t
          dsimp only at c0 c1 c2 c3
          unfold i4V at CT
          dsimp only at CT
          have hn1 : ¬ (bI = w.heap.size + 1) := by omega
          have hn2 : ¬ (w.heap.size + 1 = bI) := by omega
          have fz := blk_frozen HO.out k
          obtain ⟨x0, x1, x2⟩ := blk_cells3 HX.out
          have hlw : w.heap.size < w1.heap.size := lt_of_some HX.out
          have HNT := Lib.hid hnt
          have hO2 := heap_setCell_same w1 (w.heap.size + 1) k _ _ (.bool true) HO.out
          rw [show (bls O).setIfInBounds k (.bool true) = bls (O.set k true) by simp [bls, List.map_set]] at hO2
          have hK2 : Kp (w.heap.size + 1) w1 (w1.setCell ⟨w.heap.size + 1, k, none⟩ (.bool true)) := (Kp.refl _ _).set k _
          have HO2 := Lib.hid hO2
          have HK2 := Lib.hid hK2
          clear hnt ht hO2 hK2
          go_wp2_with fail
          obtain ⟨ws, hws⟩ : ∃ W0, w1.setCell ⟨w.heap.size + 1, k, none⟩ (.bool true) = W0 := ⟨_, rfl⟩
          rw [hws] at HO2 HK2 ⊢
          have HQ3 := Lib.hid (HQ2.out.keep (HK2.out.block g0 hlg hg0))
          have HB3 := Lib.hid (HK2.out.below HB.out (by omega) HB.out.size)
          have HX3 := Lib.hid (HK2.out.blk HX.out (by omega))
          clear hws c0 c1 c2 c3 hob fz x0 x1 x2
          refine (CT.out _).mono ?_
          rintro e w2 ⟨hb2, hres⟩
          have HQ4 := Lib.hid (HQ3.out.below hb2)
          have HO4 := Lib.hid (blk_later HO2.out hb2)
          have HB4 := Lib.hid (below_then HB3.out hb2)
          have HX4 := Lib.hid (blk_later HX3.out hb2)
          have HV2 := Lib.hid (HV.out.take hkL)
          rw [HNT.out] at HV2
          have hcs := Plain.count_set O k hko HQK.out
          have HCS := Lib.hid hcs
          clear hb2 hcs
          rcases hres with ⟨hn0, rfl⟩ | ⟨gn, hn1', rfl, hcn⟩
          · rw [hn0, List.append_nil] at HV2
            have HN0 := Lib.hid hn0
            clear hn0
            go_wp2_with (at_builtin; refine wpList_append_nilsrc _ rfl (.tmp 33) (.tmp 39) 63 rfl 3 i3 Tryd.underlying63 hi3 g0 of2 r p rfl rfl hrp ?_)
            go_wp2
            go_roundg (3 * (O.set k true).count false + T.length)
            case measure => have h1 := HGK.out; have h2 := HCS.out; simp only [List.length_cons] at h1; omega
            case rel => exact ⟨O.set k true, T, g0, rfl, HO4.out, HQ4.out, hg0, hgw, HX4.out, HB4.out, HV2.out, by have h1 := HGK.out; have h2 := HCS.out; have h3 := HCN.out; simp only [List.length_cons] at h1; omega⟩
          · obtain ⟨N, hN⟩ : ∃ N, nextL (op, x, y, a) = N := ⟨_, rfl⟩
            have hl2 := Plain.nextL_len (op, x, y, a)
            rw [hN] at HV2 hcn hn1' hl2 ⊢
            have hnp : 0 < N.length := List.length_pos_iff.2 hn1'
            have hbd : T.length + N.length ≤ 1000000000 := by have h5 := HN.out; have h1 := HGK.out; have h3 := HCN.out; simp only [List.length_cons] at h1; omega
            obtain ⟨nl, hnl⟩ : ∃ nl, N.length = nl := ⟨_, rfl⟩
            rw [hnl] at hnp hl2 ⊢
            have HNL := Lib.hid hnl
            have HCC := Lib.hid (CellsAt_add hcn)
            clear hnl hN hcn hn1'
            go_wp2_with (at_builtin; refine wpList_append_qu _ rfl (.tmp 33) (.tmp 39) rfl g0 (.slice (some ⟨g0, of2, none⟩) r p) T rfl HQ4.out ⟨gn, 0, none⟩ nl nl N rfl HNL.out HCC.out (by rw [HNL.out]; exact hnp) hbd ?_)
            intro v5 w5 g5 hQ5 hg5 hK5
            have hO5 := hK5.blk HO4.out (Ne.symm hg0)
            have hB5 := hK5.below HB4.out (by omega) HB4.out.size
            have hg5o : g5 ≠ w.heap.size + 1 := by
              rcases hg5 with e | e
              · rw [e]; exact hg0
              · have := lt_of_some HO4.out; omega
            have hX5 := hK5.blk HX4.out (by omega)
            have hg5w : w.heap.size < g5 := by
              rcases hg5 with e | e
              · rw [e]; exact hgw
              · have := lt_of_some HO4.out; omega
            have HQ5 := Lib.hid hQ5
            have HO5 := Lib.hid hO5
            have HB5 := Lib.hid hB5
            have HX5 := Lib.hid hX5
            clear hX5 hQ5 hO5 hB5 hK5 hg5
            go_wp2
            go_roundg (3 * (O.set k true).count false + (T ++ N).length)
            case measure => have h1 := HGK.out; have h2 := HCS.out; have h4 := HNL.out; simp only [List.length_cons, List.length_append] at h1 ⊢; omega
            case rel => exact ⟨O.set k true, T ++ N, g5, rfl, HO5.out, HQ5.out, hg5o, hg5w, HX5.out, HB5.out, HV2.out, by have h1 := HGK.out; have h2 := HCS.out; have h3 := HCN.out; have h4 := HNL.out; simp only [List.length_cons, List.length_append] at h1 ⊢; omega⟩
        · go_wp2
          go_roundg (3 * O.count false + T.length)
          case measure => have h1 := HGK.out; simp only [List.length_cons] at h1; omega
          case rel => exact ⟨O, T, g0, rfl, HO.out, HQ2.out, hg0, hgw, HX.out, HB.out, HV.out.skip fun j _ e => by rw [show j = k by omega]; exact HQK.out, by have h1 := HGK.out; have h3 := HCN.out; simp only [List.length_cons] at h1; omega⟩
      · have hin2 : insB z n = false := by simpa using hin
        have CK := Lib.hid (fun (W : World) => CI.out z (n : Int) W)
        rw [hin2] at CK
        have HIN := Lib.hid hin
        clear hin hin2
        go_wp2_with fail
        refine (CK.out _).mono ?_
        rintro e w1 ⟨rfl, rfl⟩
        go_wp2
        go_roundg (3 * O.count false + T.length)
        case measure => have h1 := HGK.out; simp only [List.length_cons] at h1; omega
        case rel => exact ⟨O, T, g0, rfl, HO.out, HQ2.out, hg0, hgw, HX.out, HB.out, HV.out.skip fun j hj e => absurd ((insB_iff z n).2 ⟨by omega, by rw [← e]; have := HN.out; omega⟩) HIN.out, by have h1 := HGK.out; have h3 := HCN.out; simp only [List.length_cons] at h1; omega⟩
end Go.Proofs.YtpeheppiolfpfaaDoor
