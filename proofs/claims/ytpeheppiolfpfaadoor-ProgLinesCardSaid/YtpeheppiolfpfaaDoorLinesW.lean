/- ProgLines: texts of programs in plain words, the walk. Conditions: what each lemma says. -/
import Derived.Test.YtpeheppiolfpfaaDoorLawA
import Derived.Deep.CutBlock
set_option linter.unusedVariables false
set_option linter.unusedSimpArgs false
namespace Go.Proofs.YtpeheppiolfpfaaDoor.Plain
open Go.Lib (decDigits)
open Go.Proofs.YtpeheppiolfpfaaDoor
theorem dec_lo (n : Nat) (h : n < 10) : decDigits n = [UInt8.ofNat (48 + n)] := by unfold decDigits; rw [dif_pos h]
theorem dec_hi (n : Nat) (h : ¬ n < 10) (h2 : n < 100) : decDigits n = [UInt8.ofNat (48 + n / 10), UInt8.ofNat (48 + n % 10)] := by
  unfold decDigits; rw [dif_neg h, dec_lo (n / 10) (by omega)]; rfl
theorem u8_ofNat (n : Nat) (h : n < 256) : (UInt8.ofNat n).toNat = n := by simp; omega
theorem dec_chars (n : Nat) (h : n < 100) : ∀ c ∈ decDigits n, 48 ≤ c.toNat ∧ c.toNat ≤ 57 := by
  intro c hc
  by_cases h1 : n < 10
  · rw [dec_lo n h1, List.mem_singleton] at hc
    subst hc; rw [u8_ofNat _ (by omega)]; omega
  · rw [dec_hi n h1 h] at hc
    simp only [List.mem_cons, List.not_mem_nil, or_false] at hc
    rcases hc with rfl | rfl
    · rw [u8_ofNat _ (by omega)]; omega
    · rw [u8_ofNat _ (by omega)]; omega
theorem dec_inj {a b : Nat} (ha : a < 100) (hb : b < 100) (h : decDigits a = decDigits b) : a = b := by
  have key : ∀ x y : Nat, x < 256 → y < 256 → UInt8.ofNat x = UInt8.ofNat y → x = y := fun x y hx hy e => by
    have := congrArg UInt8.toNat e
    rwa [u8_ofNat x hx, u8_ofNat y hy] at this
  by_cases h1 : a < 10 <;> by_cases h2 : b < 10
  · rw [dec_lo a h1, dec_lo b h2] at h
    injection h with h _
    have := key _ _ (by omega) (by omega) h
    omega
  · rw [dec_lo a h1, dec_hi b h2 hb] at h; have := congrArg List.length h; simp at this
  · rw [dec_hi a h1 ha, dec_lo b h2] at h; have := congrArg List.length h; simp at this
  · rw [dec_hi a h1 ha, dec_hi b h2 hb] at h
    injection h with h h'
    injection h' with h' _
    have e1 := key _ _ (by omega) (by omega) h
    have e2 := key _ _ (by omega) (by omega) h'
    omega
/-- two texts parted at the first of a letter that neither has ahead of it -/
theorem cut_at {c : UInt8} : ∀ {l l' r r' : List UInt8}, (∀ x ∈ l, x ≠ c) → (∀ x ∈ l', x ≠ c) → l ++ c :: r = l' ++ c :: r' → l = l' ∧ r = r' := by
  intro l
  induction l with
  | nil =>
    intro l' r r' _ h2 h
    cases l' with
    | nil => simp at h; exact ⟨rfl, h⟩
    | cons x l' =>
      simp at h
      exact absurd h.1.symm (h2 x (by simp))
  | cons x l ih =>
    intro l' r r' h1 h2 h
    cases l' with
    | nil =>
      simp at h
      exact absurd h.1 (h1 x (by simp))
    | cons y l' =>
      simp at h
      obtain ⟨e, h⟩ := h
      obtain ⟨e2, e3⟩ := ih (fun z hz => h1 z (by simp [hz])) (fun z hz => h2 z (by simp [hz])) h
      exact ⟨by rw [e, e2], e3⟩
theorem dec_ne (n : Nat) (h : n < 100) (c : UInt8) (hc : c.toNat < 48) : ∀ x ∈ decDigits n, x ≠ c := by
  intro x hx e
  have := dec_chars n h x hx
  rw [e] at this; omega
theorem line1_inj {w : List UInt8} {a a' : Nat} (ha : a < 100) (ha' : a' < 100) (h : lineL w [a] = lineL w [a']) : a = a' := by
  unfold lineL at h
  have := List.append_cancel_left h
  simp at this
  exact dec_inj ha ha' this
theorem line2_inj {w : List UInt8} {a b a' b' : Nat} (ha : a < 100) (hb : b < 100) (ha' : a' < 100) (hb' : b' < 100) (h : lineL w [a, b] = lineL w [a', b']) : a = a' ∧ b = b' := by
  unfold lineL at h
  have := List.append_cancel_left h
  simp only [List.flatMap_cons, List.flatMap_nil, List.append_nil, List.cons_append, List.cons.injEq, true_and] at this
  obtain ⟨e1, e2⟩ := cut_at (dec_ne a ha 32 (by decide)) (dec_ne a' ha' 32 (by decide)) this
  exact ⟨dec_inj ha ha' e1, dec_inj hb hb' e2⟩
/-- what an instruction does not need is 0 -/
def canon (t : In4) : Prop := small t ∧ t.1 ≤ 5 ∧ (t.1 = 0 → t.2.1 = 0) ∧ (t.1 ≠ 2 → t.2.2.1 = 0) ∧ (t.1 ≠ 1 → t.1 ≠ 4 → t.1 ≠ 5 → t.2.2.2 = 0)
theorem line_head (c : UInt8) (w : List UInt8) (ns : List Nat) : (lineL (c :: w) ns).head? = some c := rfl
theorem line_snd (c d : UInt8) (w : List UInt8) (ns : List Nat) : (lineL (c :: d :: w) ns).tail.head? = some d := rfl
def w0 : List UInt8 := [109, 97, 116, 99, 104]
def w1 : List UInt8 := [111, 110, 101]
def w2 : List UInt8 := [115, 112, 108, 105, 116]
def w3 : List UInt8 := [106, 117, 109, 112]
def w4 : List UInt8 := [115, 97, 118, 101]
def w5 : List UInt8 := [97, 115, 115, 101, 114, 116]
theorem putL_op (t : In4) (h0 : 0 ≤ t.1) (h5 : t.1 ≤ 5) : (t.1 = 0 ∧ putL t = w0) ∨ (t.1 = 1 ∧ putL t = lineL w1 [t.2.2.2.toNat, t.2.1.toNat]) ∨ (t.1 = 2 ∧ putL t = lineL w2 [t.2.1.toNat, t.2.2.1.toNat]) ∨ (t.1 = 3 ∧ putL t = lineL w3 [t.2.1.toNat]) ∨ (t.1 = 4 ∧ putL t = lineL w4 [t.2.2.2.toNat, t.2.1.toNat]) ∨ (t.1 = 5 ∧ putL t = lineL w5 [t.2.2.2.toNat, t.2.1.toNat]) := by
  obtain ⟨op, x, y, a⟩ := t
  dsimp only at h0 h5 ⊢
  have : op = 0 ∨ op = 1 ∨ op = 2 ∨ op = 3 ∨ op = 4 ∨ op = 5 := by omega
  rcases this with rfl | rfl | rfl | rfl | rfl | rfl <;> simp [putL, w0, w1, w2, w3, w4, w5]
theorem hd2 {a b : List UInt8} (h : a = b) : a.head? = b.head? ∧ a.tail.head? = b.tail.head? := by rw [h]; exact ⟨rfl, rfl⟩
theorem putL_inj {t s : In4} (ht : canon t) (hs : canon s) (h : putL t = putL s) : t = s := by
  obtain ⟨⟨⟨t0, t1⟩, ⟨tx0, tx1⟩, ⟨ty0, ty1⟩, ta0, ta1⟩, t5, tc0, tc1, tc2⟩ := ht
  obtain ⟨⟨⟨s0, s1⟩, ⟨sx0, sx1⟩, ⟨sy0, sy1⟩, sa0, sa1⟩, s5, sc0, sc1, sc2⟩ := hs
  have pt := putL_op t t0 t5
  have ps := putL_op s s0 s5
  obtain ⟨ot, tx, ty, ta⟩ := t
  obtain ⟨os, sx, sy, sa⟩ := s
  dsimp only at *
  have fin : ot = os → tx = sx → ty = sy → ta = sa → ((ot, tx, ty, ta) : In4) = (os, sx, sy, sa) := fun a b c d => by rw [a, b, c, d]
  rcases pt with ⟨e, pt⟩ | ⟨e, pt⟩ | ⟨e, pt⟩ | ⟨e, pt⟩ | ⟨e, pt⟩ | ⟨e, pt⟩ <;> rcases ps with ⟨f, ps⟩ | ⟨f, ps⟩ | ⟨f, ps⟩ | ⟨f, ps⟩ | ⟨f, ps⟩ | ⟨f, ps⟩ <;> rw [pt, ps] at h <;>
    first
    | (exfalso; have h2 := hd2 h; revert h2; simp [lineL, w0, w1, w2, w3, w4, w5]; done)
    | (have e2 := line2_inj (by omega) (by omega) (by omega) (by omega) h; exact fin (by omega) (by omega) (by omega) (by omega))
    | (have e2 := line1_inj (by omega) (by omega) h; exact fin (by omega) (by omega) (by omega) (by omega))
    | exact fin (by omega) (by omega) (by omega) (by omega)
end Go.Proofs.YtpeheppiolfpfaaDoor.Plain
namespace Go.Proofs.YtpeheppiolfpfaaDoor.Plain
open Go.Lib (decDigits)
open Go.Proofs.YtpeheppiolfpfaaDoor
theorem putL_no10 {t : In4} (h : small t) : ∀ c ∈ putL t, c ≠ 10 := by
  obtain ⟨⟨t0, t1⟩, ⟨tx0, tx1⟩, ⟨ty0, ty1⟩, ta0, ta1⟩ := h
  have hl : ∀ (w : List UInt8) (ns : List Nat), (∀ c ∈ w, c ≠ 10) → (∀ n ∈ ns, n < 100) → ∀ c ∈ lineL w ns, c ≠ 10 := by
    intro w ns hw hn c hc
    unfold lineL at hc
    rcases List.mem_append.1 hc with h | h
    · exact hw c h
    · obtain ⟨n, h1, h2⟩ := List.mem_flatMap.1 h
      rcases List.mem_cons.1 h2 with e | e
      · rw [e]; decide
      · exact dec_ne n (hn n h1) 10 (by decide) c e
  have e2 : ∀ a b : Nat, a < 100 → b < 100 → ∀ n ∈ [a, b], n < 100 := fun a b ha hb n hn => by simp at hn; omega
  have e1 : ∀ a : Nat, a < 100 → ∀ n ∈ [a], n < 100 := fun a ha n hn => by simp at hn; omega
  unfold putL
  split
  · decide
  split
  · exact hl _ _ (by decide) (e2 _ _ (by omega) (by omega))
  split
  · exact hl _ _ (by decide) (e2 _ _ (by omega) (by omega))
  split
  · exact hl _ _ (by decide) (e1 _ (by omega))
  split
  · exact hl _ _ (by decide) (e2 _ _ (by omega) (by omega))
  split
  · exact hl _ _ (by decide) (e2 _ _ (by omega) (by omega))
  · decide
def linesF : Nat → List In4 → List UInt8
  | _, [] => []
  | i, t :: L => (decDigits i ++ 32 :: putL t) ++ 10 :: linesF (i + 1) L
theorem range_lines : ∀ (L : List In4) (i : Nat), (List.range L.length).flatMap (fun j => decDigits (i + j) ++ (32 :: putL (L.getD j (0, 0, 0, 0)) ++ [10])) = linesF i L := by
  intro L
  induction L with
  | nil => intro i; rfl
  | cons t L ih =>
    intro i
    rw [List.length_cons, List.range_succ_eq_map, List.flatMap_cons, List.flatMap_map]
    have := ih (i + 1)
    have e : (fun j => decDigits (i + (j + 1)) ++ (32 :: putL ((t :: L).getD (j + 1) (0, 0, 0, 0)) ++ [10])) = fun j => decDigits (i + 1 + j) ++ (32 :: putL (L.getD j (0, 0, 0, 0)) ++ [10]) := by
      funext j
      rw [show i + (j + 1) = i + 1 + j by omega, List.getD_cons_succ]
    show _ ++ List.flatMap (fun j => decDigits (i + (j + 1)) ++ (32 :: putL ((t :: L).getD (j + 1) (0, 0, 0, 0)) ++ [10])) _ = _
    rw [e, this]
    simp [linesF]
theorem puts_lines (L : List In4) : putsL L L.length = linesF 0 L := by
  rw [← range_lines]
  unfold putsL
  simp only [Nat.zero_add]
theorem head_no10 {i : Nat} {t : In4} (hi : i < 100) (h : small t) : ∀ c ∈ decDigits i ++ 32 :: putL t, c ≠ 10 := by
  intro c hc
  rcases List.mem_append.1 hc with e | e
  · exact dec_ne i hi 10 (by decide) c e
  · rcases List.mem_cons.1 e with e | e
    · rw [e]; decide
    · exact putL_no10 h c e
theorem lines_inj : ∀ (L M : List In4) (i : Nat), i + L.length ≤ 100 → i + M.length ≤ 100 → (∀ t ∈ L, canon t) → (∀ t ∈ M, canon t) → linesF i L = linesF i M → L = M := by
  intro L
  induction L with
  | nil =>
    intro M i _ _ _ _ h
    cases M with
    | nil => rfl
    | cons s M => simp [linesF] at h
  | cons t L ih =>
    intro M i hl hm hL hM h
    cases M with
    | nil => simp [linesF] at h
    | cons s M =>
      simp only [List.length_cons] at hl hm
      have h1 := hL t (by simp)
      have h2 := hM s (by simp)
      obtain ⟨e1, e2⟩ := cut_at (head_no10 (by omega) h1.1) (head_no10 (by omega) h2.1) h
      have e3 := List.append_cancel_left e1
      injection e3 with _ e3
      rw [putL_inj h1 h2 e3, ih M (i + 1) (by omega) (by omega) (fun x hx => hL x (by simp [hx])) (fun x hx => hM x (by simp [hx])) e2]
theorem count_no10 {l : List UInt8} (h : ∀ c ∈ l, c ≠ 10) : l.count 10 = 0 := List.count_eq_zero.2 fun hm => h 10 hm rfl
theorem lines_count : ∀ (L : List In4) (i : Nat), i + L.length ≤ 100 → (∀ t ∈ L, small t) → (linesF i L).count 10 = L.length := by
  intro L
  induction L with
  | nil => intro i _ _; rfl
  | cons t L ih =>
    intro i hl hs
    simp only [List.length_cons] at hl
    unfold linesF
    rw [List.count_append, count_no10 (head_no10 (by omega) (hs t (by simp))), List.count_cons_self, ih (i + 1) (by omega) (fun x hx => hs x (by simp [hx]))]
    simp
theorem inst_canon (m i : Nat) (g n : Int) (h : small (instG m i g n)) (hn : 0 ≤ n) : canon (instG m i g n) := by
  refine ⟨h, (opG_bd n hn).2, fun e => ?_, fun e => ?_, fun e1 e2 e3 => ?_⟩
  · exact if_pos e
  · exact if_neg e
  · change opG n ≠ 1 at e1
    change opG n ≠ 4 at e2
    change opG n ≠ 5 at e3
    show aG g n = 0
    unfold aG
    rw [if_neg e1, if_neg e2, if_neg e3]
theorem codeL_canon (X : Nat → Int) (m : Nat) (g : Int) (hm : m ≤ 14) (hg0 : 0 ≤ g) (hg : g ≤ 2) (hX : ∀ k, k < m → 0 ≤ X k) : ∀ t ∈ codeL X m g, canon t := by
  intro t ht
  have hs := (codeL_mem X m g hm hg0 hg hX t ht).1
  unfold codeL codeG at ht
  rcases List.mem_append.1 ht with h | h
  · obtain ⟨i, hi, rfl⟩ := List.mem_map.1 h
    exact inst_canon m i g (X i) hs (hX i (List.mem_range.1 hi))
  · rw [List.mem_singleton.1 h] at hs ⊢
    exact ⟨hs, by decide, fun _ => rfl, fun _ => rfl, fun _ _ _ => rfl⟩
end Go.Proofs.YtpeheppiolfpfaaDoor.Plain
namespace Go.Proofs.YtpeheppiolfpfaaDoor
open Go.RowKit Go.Lib
open Plain (Rg May mayB In Norm In4 slotsOf insB bnd riB cls cnot rightB normB nextL Rch cntA RInv small putL lineL canon)
theorem codeLn_canon (L : List Int) (g : Int) (h0 : 0 ≤ g) (hX : ∀ k, k < L.length → 0 ≤ L.getD k 0 ∧ L.getD k 0 < 65536) : ∀ t ∈ codeLn L g, canon t :=
  Plain.codeL_canon _ _ _ (by omega) (by omega) (by omega) (fun k hk => (hX k (by omega)).1)
/-- two programs are put alike just if they are the same -/
theorem puts_eq {L M : List In4} (hl : L.length ≤ 15) (hm : M.length ≤ 15) (hL : ∀ t ∈ L, canon t) (hM : ∀ t ∈ M, canon t) : putsL L L.length = putsL M M.length ↔ L = M :=
  ⟨fun h => Plain.lines_inj L M 0 (by omega) (by omega) hL hM (by rw [← Plain.puts_lines, ← Plain.puts_lines]; exact h), fun h => by rw [h]⟩
theorem puts_count {L : List In4} (hl : L.length ≤ 15) (hL : ∀ t ∈ L, small t) : (putsL L L.length).count 10 = L.length := by
  rw [Plain.puts_lines, Plain.lines_count L 0 (by omega) hL]
end Go.Proofs.YtpeheppiolfpfaaDoor
namespace Go.Proofs.YtpeheppiolfpfaaDoor
open Go.RowKit Go.Lib Go.ChangeShapes
open Plain (Rg May mayB In Norm In4 slotsOf insB bnd riB cls cnot rightB normB nextL Rch cntA RInv small putL lineL canon)
theorem cnt_snoc (s : ByteArray) (k : Nat) (h : k < s.size) : (s.data.toList.take (k + 1)).count 10 = (s.data.toList.take k).count 10 + if (s[k].toNat : Int) = 10 then 1 else 0 := by
  rw [List.take_succ_eq_append_getElem (by simpa using h), List.count_append]
  have : s.data.toList[k]'(by simpa using h) = s[k] := rfl
  rw [this]
  by_cases h10 : (s[k].toNat : Int) = 10
  · have : s[k] = 10 := by
      apply UInt8.toNat_inj.1
      have : (10 : UInt8).toNat = 10 := rfl
      omega
    rw [if_pos h10, this]; rfl
  · have : s[k] ≠ 10 := fun e => h10 (by rw [e]; rfl)
    rw [if_neg h10]
    simp [this]
def YMid (W : World) (gx gy : Nat) (xs : List Value) (wx : World) : Prop :=
  ∃ (PI PC LA : Option Addr) (pi pic pc pcc lc : Nat) (pg : Int) (L : List Int) (g : Int), CellsAt wx gx xs ∧ CellsAt wx gy [.slice PI pi pic, .slice PC pc pcc, .int .i64 pg, .bool true, .slice LA L.length lc, .int .u8 g] ∧
    Sl W LA (L.map (Value.int .u16)) ∧ L.length ≤ maxLen ∧ (∀ k, k < L.length → 0 ≤ L.getD k 0 ∧ L.getD k 0 < 65536) ∧ 0 ≤ g ∧ g < 256 ∧ Below W.heap.size W wx
theorem cells6 {w : World} {g : Nat} {v0 v1 v2 v3 v4 v5 : Value} (h : CellsAt w g [v0, v1, v2, v3, v4, v5]) : w.cell? ⟨g, 0, none⟩ = some v0 ∧ w.cell? ⟨g, 1, none⟩ = some v1 ∧ w.cell? ⟨g, 2, none⟩ = some v2 ∧ w.cell? ⟨g, 3, none⟩ = some v3 ∧ w.cell? ⟨g, 4, none⟩ = some v4 ∧ w.cell? ⟨g, 5, none⟩ = some v5 :=
  ⟨h.at_ 0 _ rfl, h.at_ 1 _ rfl, h.at_ 2 _ rfl, h.at_ 3 _ rfl, h.at_ 4 _ rfl, h.at_ 5 _ rfl⟩
theorem cells_of6 {w : World} {g : Nat} {v0 v1 v2 v3 v4 v5 : Value} (hg : g < w.heap.size) (h0 : w.cell? ⟨g, 0, none⟩ = some v0) (h1 : w.cell? ⟨g, 1, none⟩ = some v1) (h2 : w.cell? ⟨g, 2, none⟩ = some v2) (h3 : w.cell? ⟨g, 3, none⟩ = some v3) (h4 : w.cell? ⟨g, 4, none⟩ = some v4) (h5 : w.cell? ⟨g, 5, none⟩ = some v5) : CellsAt w g [v0, v1, v2, v3, v4, v5] := by
  refine ⟨hg, fun j u hu => ?_⟩
  match j, hu with
  | 0, hu => simp at hu; subst hu; exact h0
  | 1, hu => simp at hu; subst hu; exact h1
  | 2, hu => simp at hu; subst hu; exact h2
  | 3, hu => simp at hu; subst hu; exact h3
  | 4, hu => simp at hu; subst hu; exact h4
  | 5, hu => simp at hu; subst hu; exact h5
  | j + 6, hu => simp at hu
theorem cells_far {w : World} {g g' : Nat} {xs : List Value} (h : CellsAt w g xs) (hne : g' ≠ g) (j : Nat) (v : Value) : CellsAt (w.setCell ⟨g', j, none⟩ v) g xs :=
  ⟨by simp [World.setCell]; exact h.1, fun i u hu => by rw [World.cell?_setCell_other _ _ _ _ (fun e => hne (by injection e))]; exact h.2 i u hu⟩
theorem far6 {w : World} {g g' : Nat} {xs : List Value} (h : CellsAt w g xs) (hne : g' ≠ g) (a0 a1 a2 a3 a4 a5 : Value) : CellsAt ((((((w.setCell ⟨g', 0, none⟩ a0).setCell ⟨g', 1, none⟩ a1).setCell ⟨g', 2, none⟩ a2).setCell ⟨g', 3, none⟩ a3).setCell ⟨g', 4, none⟩ a4).setCell ⟨g', 5, none⟩ a5) g xs :=
  cells_far (cells_far (cells_far (cells_far (cells_far (cells_far h hne _ _) hne _ _) hne _ _) hne _ _) hne _ _) hne _ _
theorem set6 {w : World} {g : Nat} {v0 v1 v2 v3 v4 v5 : Value} (h : CellsAt w g [v0, v1, v2, v3, v4, v5]) (a0 a1 a2 a3 a4 a5 : Value) : CellsAt ((((((w.setCell ⟨g, 0, none⟩ a0).setCell ⟨g, 1, none⟩ a1).setCell ⟨g, 2, none⟩ a2).setCell ⟨g, 3, none⟩ a3).setCell ⟨g, 4, none⟩ a4).setCell ⟨g, 5, none⟩ a5) g [a0, a1, a2, a3, a4, a5] :=
  sl_set (sl_set (sl_set (sl_set (sl_set (sl_set h 0 (by simp) a0) 1 (by simp) a1) 2 (by simp) a2) 3 (by simp) a3) 4 (by simp) a4) 5 (by simp) a5
theorem below6 {W w : World} {g : Nat} (h : Below W.heap.size W w) (hg : W.heap.size ≤ g) (a0 a1 a2 a3 a4 a5 : Value) : Below W.heap.size W ((((((w.setCell ⟨g, 0, none⟩ a0).setCell ⟨g, 1, none⟩ a1).setCell ⟨g, 2, none⟩ a2).setCell ⟨g, 3, none⟩ a3).setCell ⟨g, 4, none⟩ a4).setCell ⟨g, 5, none⟩ a5) :=
  (((((h.setCell hg _).setCell hg _).setCell hg _).setCell hg _).setCell hg _).setCell hg _
set_option maxRecDepth 1000000 in
set_option maxHeartbeats 8000000 in
theorem lines_w (PI PC LA : Option Addr) (PL : List In4) (PK : List Cs) (pic pcc lc : Nat) (pg : Int) (own : Bool) (L : List Int) (g : Int) (QI QC MA : Option Addr) (QL : List In4) (QK : List Cs) (qic qcc mc : Nat) (qg : Int) (own2 : Bool) (M : List Int) (h : Int) (same : Bool) (W : World) (hC : CodeAt W PI PL PC PK pg LA L g) (hD : CodeAt W QI QL QC QK qg MA M h) :
    Calls Tryd.prog 6 #[.agg #[.slice PI PL.length pic, .slice PC PK.length pcc, .int .i64 pg, .bool own, .slice LA L.length lc, .int .u8 g], .agg #[.slice QI QL.length qic, .slice QC QK.length qcc, .int .i64 qg, .bool own2, .slice MA M.length mc, .int .u8 h], .bool same] W fun e w' => e = .returned (.bool true) ∧ Below W.heap.size W w' := by
  have HC := Lib.hid hC
  have HD := Lib.hid hD
  have CE := Lib.hid (fun W => examples_any W)
  have CO := Lib.hid (fun PI PC LA pi pic pc pcc lc pg g L w hg0 hg1 hL hn hX => code_own PI PC LA pi pic pc pcc lc pg g L w hg0 hg1 hL hn hX)
  have CP := Lib.hid (fun I C L K c d g w hP hs hl => pput_any I C L K c d g w hP hs hl)
  have CS := Lib.hid (fun I I2 C C2 L M K N c c2 d d2 g h w hP hQ => psame_any I I2 C C2 L M K N c c2 d d2 g h w hP hQ)
  obtain ⟨pn, hpn⟩ : ∃ n, PL.length = n := ⟨_, rfl⟩
  obtain ⟨pk, hpk⟩ : ∃ n, PK.length = n := ⟨_, rfl⟩
  obtain ⟨qn, hqn⟩ : ∃ n, QL.length = n := ⟨_, rfl⟩
  obtain ⟨qk, hqk⟩ : ∃ n, QK.length = n := ⟨_, rfl⟩
  obtain ⟨ln, hln⟩ : ∃ n, L.length = n := ⟨_, rfl⟩
  obtain ⟨mn, hmn⟩ : ∃ n, M.length = n := ⟨_, rfl⟩
  rw [hpn, hpk, hqn, hqk, hln, hmn]
  have HLN := Lib.hid hln
  have HMN := Lib.hid hmn
  clear hC hD hpn hpk hqn hqk hln hmn
  go_enter Tryd.func6, Tryd.ntmps6
  go_wp2_with fail
  have HB0 := Lib.hid (below_alloc (below_alloc (Below.refl W.heap.size W) (.cells #[.slice PI pn pic, .slice PC pk pcc, .int .i64 pg, .bool own, .slice LA ln lc, .int .u8 g] 28)) (.cells #[.slice QI qn qic, .slice QC qk qcc, .int .i64 qg, .bool own2, .slice MA mn mc, .int .u8 h] 28))
  have hX := blk_alloc (heap_alloc_new2 W (.cells #[.slice PI pn pic, .slice PC pk pcc, .int .i64 pg, .bool own, .slice LA ln lc, .int .u8 g] 28) W.heap.size _ rfl) (.cells #[.slice QI qn qic, .slice QC qk qcc, .int .i64 qg, .bool own2, .slice MA mn mc, .int .u8 h] 28)
  have hY := heap_alloc_new2 (W.alloc (.cells #[.slice PI pn pic, .slice PC pk pcc, .int .i64 pg, .bool own, .slice LA ln lc, .int .u8 g] 28)) (.cells #[.slice QI qn qic, .slice QC qk qcc, .int .i64 qg, .bool own2, .slice MA mn mc, .int .u8 h] 28) (W.heap.size + 1) _ (by simp)
  refine (CE.out _).mono ?_
  rintro e1 w1 ⟨rfl, hb⟩
  have HB1 := Lib.hid (below_then HB0.out hb)
  have hX1 := blk_later hX hb
  have hY1 := blk_later hY hb
  have hlx := lt_of_some hX1
  have hly := lt_of_some hY1
  have fx := blk_frozen hX1 3
  have HFY := Lib.hid (fun j => blk_frozen hY1 j)
  have fy := blk_frozen hY1 3
  have fy0 := blk_frozen hY1 0
  have fy1 := blk_frozen hY1 1
  have fy2 := blk_frozen hY1 2
  have fy4 := blk_frozen hY1 4
  have fy5 := blk_frozen hY1 5
  have hcx : CellsAt w1 W.heap.size [.slice PI pn pic, .slice PC pk pcc, .int .i64 pg, .bool own, .slice LA ln lc, .int .u8 g] := ⟨hlx, fun j u hu => by rw [cell_of_row _ _ _ _ _ _ hX1]; simpa using hu⟩
  have hcy : CellsAt w1 (W.heap.size + 1) [.slice QI qn qic, .slice QC qk qcc, .int .i64 qg, .bool own2, .slice MA mn mc, .int .u8 h] := ⟨hly, fun j u hu => by rw [cell_of_row _ _ _ _ _ _ hY1]; simpa using hu⟩
  obtain ⟨x0, x1, x2, x3, x4, x5⟩ := cells6 hcx
  obtain ⟨z0, z1, z2, z3, z4, z5⟩ := cells6 hcy
  clear hb hX hY hX1 hY1
  go_upto_if 18 with fail
  obtain ⟨w2, hw2⟩ : ∃ W0, (w1.setCell ⟨W.heap.size, 3, none⟩ (.bool true)).setCell ⟨W.heap.size + 1, 3, none⟩ (.bool true) = W0 := ⟨_, rfl⟩
  have hcx2 : CellsAt w2 W.heap.size [.slice PI pn pic, .slice PC pk pcc, .int .i64 pg, .bool true, .slice LA ln lc, .int .u8 g] := by rw [← hw2]; exact cells_far (sl_set hcx 3 (by simp) (.bool true)) (by omega) _ _
  have hcy2 : CellsAt w2 (W.heap.size + 1) [.slice QI qn qic, .slice QC qk qcc, .int .i64 qg, .bool true, .slice MA mn mc, .int .u8 h] := by rw [← hw2]; exact sl_set (cells_far hcy (by omega) 3 (.bool true)) 3 (by simp) (.bool true)
  have hfy : ∀ j, w2.frozen? ⟨W.heap.size + 1, j, none⟩ = false := fun j => by rw [← hw2]; simp; exact HFY.out j
  have hb2 : Below W.heap.size W w2 := by rw [← hw2]; exact (HB1.out.setCell (by simp) _).setCell (by simp) _
  rw [hw2]
  clear hw2 hcx hcy x0 x1 x2 x3 x4 x5 z0 z1 z2 z3 z4 z5 fx fy fy0 fy1 fy2 fy4 fy5 hlx hly
  have HCX2 := Lib.hid hcx2
  have HCY2 := Lib.hid hcy2
  have HB2 := Lib.hid hb2
  obtain ⟨x0, x1, x2, x3, x4, x5⟩ := cells6 hcx2
  obtain ⟨z0, z1, z2, z3, z4, z5⟩ := cells6 hcy2
  have fy0 := hfy 0
  have fy1 := hfy 1
  have fy2 := hfy 2
  have fy3 := hfy 3
  have fy4 := hfy 4
  have fy5 := hfy 5
  have hlx := hcx2.1
  have hly := hcy2.1
  clear hcx2 hcy2 hb2 hfy
  go_cut [] (fun wx => YMid W W.heap.size (W.heap.size + 1) [.slice PI pn pic, .slice PC pk pcc, .int .i64 pg, .bool true, .slice LA ln lc, .int .u8 g] wx)
  case first =>
    cases same
    · go_wp2
      go_meet
      case rel => exact ⟨QI, QC, MA, qn, qic, qk, qcc, mc, qg, M, h, HCX2.out, by rw [HMN.out]; exact HCY2.out, HD.out.l, HD.out.ll, HD.out.lb, HD.out.g0, HD.out.g1, HB2.out⟩
    · go_wp2
      go_meet
      case rel => exact ⟨PI, PC, LA, pn, pic, pk, pcc, lc, pg, L, g, far6 HCX2.out (by omega) _ _ _ _ _ _, by rw [HLN.out]; exact set6 HCY2.out _ _ _ _ _ _, HC.out.l, HC.out.ll, HC.out.lb, HC.out.g0, HC.out.g1, below6 HB2.out (by omega) _ _ _ _ _ _⟩
  case rest =>
    obtain ⟨PI2, PC2, LA2, pi2, pic2, pc2, pcc2, lc2, pg2, L2, g2, hcx, hcy, hl2, hll2, hlb2, hg20, hg21, hbx⟩ := hcut
    clear x0 x1 x2 x3 x4 x5 z0 z1 z2 z3 z4 z5 fy0 fy1 fy2 fy3 fy4 fy5 hlx hly HCX2 HCY2 HB2 HB1 HFY
    obtain ⟨l2n, hl2n⟩ : ∃ n, L2.length = n := ⟨_, rfl⟩
    have C1 := fun (w : World) (hw : Below W.heap.size W w) => CO.out PI PC LA pn pic pk pcc lc pg g L w HC.out.g0 HC.out.g1 (HC.out.l.below hw) HC.out.ll HC.out.lb
    have C2 := fun (w : World) (hw : Below W.heap.size W w) => CO.out PI2 PC2 LA2 pi2 pic2 pc2 pcc2 lc2 pg2 g2 L2 w hg20 hg21 (hl2.below hw) hll2 hlb2
    have hcan1 := codeLn_canon L g HC.out.g0 HC.out.lb
    have hcan2 := codeLn_canon L2 g2 hg20 hlb2
    have hlen1 := codeLn_len L g
    have hlen2 := codeLn_len L2 g2
    rw [HLN.out] at C1
    rw [hl2n] at C2 hcy
    have HC1 := Lib.hid C1
    have HC2 := Lib.hid C2
    have HCX := Lib.hid hcx
    have HCY := Lib.hid hcy
    have HBX := Lib.hid hbx
    obtain ⟨x0, x1, x2, x3, x4, x5⟩ := cells6 hcx
    clear C1 C2 hcx hcy hbx hl2 hll2 hlb2 hl2n CO
    go_wp2_with fail
    refine (HC1.out _ HBX.out).mono ?_
    rintro e2 w3 ⟨I1, c1, gc1, K1, rfl, hO, hP, hK1, hb⟩
    unfold pgV
    obtain ⟨LL, hLL⟩ : ∃ x, codeLn L g = x := ⟨_, rfl⟩
    rw [hLL] at hO hP hcan1 hlen1 ⊢
    obtain ⟨m, hm⟩ : ∃ m, LL.length = m := ⟨_, rfl⟩
    have hm1 : 1 ≤ m ∧ m ≤ 15 := by omega
    obtain ⟨gq, hgq⟩ : ∃ x, g % 3 = x := ⟨_, rfl⟩
    rw [hm, hgq]
    have HB3 := Lib.hid (below_then HBX.out hb)
    have HP3 := Lib.hid hP
    have HCY3 := Lib.hid (HCY.out.below hb)
    have HM := Lib.hid hm
    have HCAN1 := Lib.hid hcan1
    have HKK1 := Lib.hid hK1
    clear hO hP hb hLL hm hgq hcan1 hlen1 hK1 x0 x1 x2 x3 x4 x5 HCX HCY HBX
    go_upto_region 9 with fail
    obtain ⟨w4, hw4⟩ : ∃ W0, w3.alloc (.cells #[.slice I1 m c1, .slice (some ⟨gc1, 0, none⟩) 3 3, .int .i64 gq] 25) = W0 := ⟨_, rfl⟩
    obtain ⟨gp, hgp⟩ : ∃ x, w3.heap.size = x := ⟨_, rfl⟩
    have hb4 : Below w3.heap.size w3 w4 := by rw [← hw4]; exact (Below.refl _ _).alloc (Nat.le_refl _) _
    have hx4 : w4.heap[gp]? = some (.cells #[.slice I1 m c1, .slice (some ⟨gc1, 0, none⟩) 3 3, .int .i64 gq] 25 (0, 0)) := by rw [← hw4]; exact heap_alloc_new2 _ _ _ _ hgp.symm
    rw [hw4, hgp]
    have HB4 := Lib.hid (below_then HB3.out hb4)
    have HP4 := Lib.hid (HP3.out.below hb4)
    have HX4 := Lib.hid hx4
    obtain ⟨x0, x1, x2, x3, x4, x5⟩ := cells6 (HCY3.out.below hb4)
    clear hb4 hx4 hw4 hgp HB3 HP3 HCY3
    go_wp2_with fail
    refine (HC2.out _ HB4.out).mono ?_
    rintro e3 w5 ⟨I2, c2, gc2, K2, rfl, hO, hP, hK2, hb⟩
    unfold pgV
    obtain ⟨MM, hMM⟩ : ∃ x, codeLn L2 g2 = x := ⟨_, rfl⟩
    rw [hMM] at hO hP hcan2 hlen2 ⊢
    obtain ⟨n, hn⟩ : ∃ n, MM.length = n := ⟨_, rfl⟩
    have hn1 : 1 ≤ n ∧ n ≤ 15 := by omega
    obtain ⟨gr, hgr⟩ : ∃ x, g2 % 3 = x := ⟨_, rfl⟩
    rw [hn, hgr]
    have HB5 := Lib.hid (below_then HB4.out hb)
    have HP5 := Lib.hid (HP4.out.below hb)
    have HX5 := Lib.hid (blk_later HX4.out hb)
    have HQ5 := Lib.hid hP
    have HN := Lib.hid hn
    have HCAN2 := Lib.hid hcan2
    have HKK2 := Lib.hid hK2
    clear hO hP hb hMM hn hgr hcan2 hlen2 hK2 x0 x1 x2 x3 x4 x5 HB4 HP4 HX4 HC1 HC2
    go_upto_region 10 with fail
    obtain ⟨w6, hw6⟩ : ∃ W0, w5.alloc (.cells #[.slice I2 n c2, .slice (some ⟨gc2, 0, none⟩) 3 3, .int .i64 gr] 25) = W0 := ⟨_, rfl⟩
    obtain ⟨gy, hgy⟩ : ∃ x, w5.heap.size = x := ⟨_, rfl⟩
    have hb6 : Below w5.heap.size w5 w6 := by rw [← hw6]; exact (Below.refl _ _).alloc (Nat.le_refl _) _
    have hx6 : w6.heap[gy]? = some (.cells #[.slice I2 n c2, .slice (some ⟨gc2, 0, none⟩) 3 3, .int .i64 gr] 25 (0, 0)) := by rw [← hw6]; exact heap_alloc_new2 _ _ _ _ hgy.symm
    rw [hw6, hgy]
    have hgyp : gp < gy := by rw [← hgy]; exact lt_of_some HX5.out
    have hXp6 := blk_later HX5.out hb6
    obtain ⟨p0, p1, p2⟩ := blk_cells3 hXp6
    obtain ⟨q0, q1, q2⟩ := blk_cells3 hx6
    have fq2 := blk_frozen hx6 2
    have hne1 : ¬ (gp = gy) := by omega
    have hne2 : ¬ (gy = gp) := by omega
    have hb7 : Below w5.heap.size w5 (w6.setCell ⟨gy, 2, none⟩ (.int .i64 gq)) := hb6.setCell (by rw [hgy]; exact Nat.le_refl _) _
    have hx7 := heap_setCell_same w6 gy 2 _ _ (.int .i64 gq) hx6
    clear hb6 hw6 hgy
    go_upto_region 11 with fail
    obtain ⟨w7, hw7⟩ : ∃ W0, w6.setCell ⟨gy, 2, none⟩ (.int .i64 gq) = W0 := ⟨_, rfl⟩
    rw [hw7] at hb7 hx7 ⊢
    have hx7' : w7.heap[gy]? = some (.cells #[.slice I2 n c2, .slice (some ⟨gc2, 0, none⟩) 3 3, .int .i64 gq] 25 (0, 0)) := hx7
    have HB7 := Lib.hid (below_then HB5.out hb7)
    have HP7 := Lib.hid (HP5.out.below hb7)
    have HQ7 := Lib.hid (HQ5.out.below hb7)
    have HXP := Lib.hid (blk_later HX5.out hb7)
    have HXQ := Lib.hid hx7'
    clear hb7 hx7 hx7' hw7 hx6 hXp6 p0 p1 p2 q0 q1 q2 fq2 hne1 hne2 HB5 HP5 HQ5 HX5
    obtain ⟨p0, p1, p2⟩ := blk_cells3 HXP.out
    have k1 := (codeK_ok K1 HKK1.out).1
    have k2 := (codeK_ok K2 HKK2.out).1
    have D1 := fun (w : World) (hw : Below w7.heap.size w7 w) => CP.out I1 (some ⟨gc1, 0, none⟩) LL K1 c1 3 gq w (HP7.out.below hw) (fun t ht => (HCAN1.out t ht).1) (by rw [HM.out]; omega)
    have D2 := fun (w : World) (hw : Below w7.heap.size w7 w) => CP.out I2 (some ⟨gc2, 0, none⟩) MM K2 c2 3 gq w (HQ7.out.below hw) (fun t ht => (HCAN2.out t ht).1) (by rw [HN.out]; omega)
    have D3 := fun (w : World) (hw : Below w7.heap.size w7 w) => CS.out I1 I2 (some ⟨gc1, 0, none⟩) (some ⟨gc2, 0, none⟩) LL MM K1 K2 c1 c2 3 3 gq gq w (HP7.out.below hw) (HQ7.out.below hw)
    have hcnt := puts_count (L := LL) (by rw [HM.out]; omega) (fun t ht => (HCAN1.out t ht).1)
    have hpe := puts_eq (L := LL) (M := MM) (by rw [HM.out]; omega) (by rw [HN.out]; omega) HCAN1.out HCAN2.out
    have hpl := putsL_len LL (fun t ht => (HCAN1.out t ht).1) LL.length (Nat.le_refl _) (by rw [HM.out]; omega)
    have hsm : pgS LL MM K1 K2 gq gq = decide (LL = MM) := by unfold pgS; rw [HKK1.out, HKK2.out]; simp
    rw [hsm, HM.out, HN.out, k1, k2] at D3
    rw [HM.out, k1] at D1
    rw [HN.out, k2] at D2
    rw [HM.out] at hcnt hpl hpe
    rw [HN.out] at hpe
    obtain ⟨ls, hls⟩ : ∃ l, putsL LL m = l := ⟨_, rfl⟩
    obtain ⟨lt, hlt⟩ : ∃ l, putsL MM n = l := ⟨_, rfl⟩
    obtain ⟨bq, hbq⟩ : ∃ b, decide (LL = MM) = b := ⟨_, rfl⟩
    rw [hls] at D1 hcnt hpl hpe
    rw [hlt] at D2 hpe
    rw [hbq] at D3
    obtain ⟨sp, hsp⟩ : ∃ s, str ls = s := ⟨_, rfl⟩
    obtain ⟨sq, hsq⟩ : ∃ s, str lt = s := ⟨_, rfl⟩
    rw [hsp] at D1
    rw [hsq] at D2
    have hspl : sp.data.toList = ls := by rw [← hsp]; rfl
    have hsql : sq.data.toList = lt := by rw [← hsq]; rfl
    have hsz : sp.size ≤ 300 := by rw [← hsp, str_size]; omega
    have heq : ((sp.toList == sq.toList) == bq) = true := by
      have h1 : (sp = sq) ↔ (LL = MM) := by
        rw [← hpe, ← hspl, ← hsql]
        exact ⟨fun h => by rw [h], fun h => str_ext h⟩
      rw [← hbq]
      have e1 : (sp.toList == sq.toList) = decide (sp = sq) := by
        rw [Bool.eq_iff_iff, beq_iff_eq, decide_eq_true_eq]
        exact ⟨fun h => str_ext (by rw [← toList_data, ← toList_data, h]), fun h => by rw [h]⟩
      rw [e1]
      by_cases h2 : sp = sq
      · rw [decide_eq_true h2, decide_eq_true (h1.1 h2)]; rfl
      · rw [decide_eq_false h2, decide_eq_false (fun h3 => h2 (h1.2 h3))]; rfl
    have hcnt2 : sp.data.toList.count 10 = m := by rw [hspl]; exact hcnt
    unfold pgV at D1 D2 D3
    have HD1 := Lib.hid D1
    have HD2 := Lib.hid D2
    have HD3 := Lib.hid D3
    have HEQ := Lib.hid heq
    have HCNT := Lib.hid hcnt2
    clear D1 D2 D3 heq hcnt2 hspl hsql hsp hsq hls hlt hbq hcnt hpe hpl hsm k1 k2 CP CS
    go_wp2_with fail
    refine (HD1.out _ (Below.refl _ _)).mono ?_
    rintro e4 w8 ⟨rfl, hb⟩
    have HE8 := Lib.hid hb
    clear hb p0 p1 p2
    go_wp2
    go_loop [11, 12] (fun s i => ∃ k : Nat, k ≤ sp.size ∧ i = .int .i64 k ∧ s = .int .i64 (((sp.data.toList.take k).count 10 : Nat) : Int)) (fun _ i => sp.size - (RowKit.intOf i).toNat)
    case atStart => exact ⟨0, Nat.zero_le _, rfl, rfl⟩
    case round =>
      obtain ⟨k, hk, rfl, rfl⟩ := hrel
      have hcb : (sp.data.toList.take k).count 10 ≤ k := Nat.le_trans List.count_le_length (List.length_take_le _ _)
      by_cases hlt : k < sp.size
      · have hsn := cnt_snoc sp k hlt
        obtain ⟨cn, hcn⟩ : ∃ cn, (sp.data.toList.take k).count 10 = cn := ⟨_, rfl⟩
        rw [hcn] at hsn hcb ⊢
        have HSN := Lib.hid hsn
        have HCN := Lib.hid hcn
        clear hsn hcn
        have i0 : (0 : Int) ≤ (k : Int) := by omega
        have i1 : (k : Int) < (sp.size : Int) := by omega
        by_cases h10 : (sp[k].toNat : Int) = 10
        · have e10 : ((sp[k].toNat : Int) == 10) = true := by simp; omega
          rw [if_pos h10] at HSN
          have H10 := Lib.hid h10
          clear h10
          go_wp2
          go_round
          case rel => exact ⟨k + 1, by omega, by go_num, by rw [HSN.out]; go_num⟩
          case measure => simp [RowKit.intOf]; omega
        · have e10 : ((sp[k].toNat : Int) == 10) = false := by simp; omega
          rw [if_neg h10] at HSN
          have H10 := Lib.hid h10
          clear h10
          go_wp2
          go_round
          case rel => exact ⟨k + 1, by omega, by go_num, by rw [HSN.out]; go_num⟩
          case measure => simp [RowKit.intOf]; omega
      · obtain rfl : k = sp.size := by omega
        have hall : (sp.data.toList.take sp.size).count 10 = m := by rw [List.take_of_length_le (by simp)]; exact HCNT.out
        rw [hall]
        clear hcb
        have HALL := Lib.hid hall
        clear hall
        have HF := Lib.hid (fun (w' : World) (hw : Below w8.heap.size w8 w') => And.intro (blk_cells3 (blk_later (blk_later HXP.out HE8.out) hw)) (blk_cells3 (blk_later (blk_later HXQ.out HE8.out) hw)))
        go_upto_region 18 with fail
        have HB0 := Lib.hid (Below.drew (Below.refl w8.heap.size w8))
        refine wp_region_noPanic ?_
        refine wp_region_T 18 (S := fun w' : World => Below w8.heap.size w8 w') (by kernel_rfl) (by decide) ?_
        refine wpAnyT_take2 0 (v := ?tvl0) (by kernel_rfl) rfl (by kernel_rfl) (fun _ _ _ h => h) (Or.inl ⟨by rfl, ?tyl0⟩) HB0.out ?trl0
        case tyl0 => (intro w' hSw; (try dsimp only at hSw); go_simp; try with_reducible rfl)
        try simp only [Act.put, List.setIfInBounds_toArray, List.set_cons_zero, List.set_cons_succ]
        refine wpAnyT_take2 1 (v := ?tvl1) (by kernel_rfl) rfl (by kernel_rfl) (fun _ _ _ h => h) (Or.inl ⟨by rfl, ?tyl1⟩) HB0.out ?trl1
        case tyl1 => (intro w' hSw; (try dsimp only at hSw); go_simp; try with_reducible rfl)
        try simp only [Act.put, List.setIfInBounds_toArray, List.set_cons_zero, List.set_cons_succ]
        refine wpAnyT_take2 2 (v := ?tvl2) (by kernel_rfl) rfl (by kernel_rfl) (fun _ _ _ h => h) (Or.inl ⟨by rfl, ?tyl2⟩) HB0.out ?trl2
        case tyl2 => (intro w' hSw; (try dsimp only at hSw); go_simp; try with_reducible rfl)
        try simp only [Act.put, List.setIfInBounds_toArray, List.set_cons_zero, List.set_cons_succ]
        refine wpAnyT_take2 3 (v := ?tvl3) (by kernel_rfl) rfl (by kernel_rfl) (fun _ _ _ h => h) (Or.inl ⟨by rfl, ?tyl3⟩) HB0.out ?trl3
        case tyl3 => (intro w' hSw; (try dsimp only at hSw); go_simp; try with_reducible rfl)
        try simp only [Act.put, List.setIfInBounds_toArray, List.set_cons_zero, List.set_cons_succ]
        refine wpAnyT_take2 4 (v := ?tvl4) (by kernel_rfl) rfl (by kernel_rfl) (fun _ _ _ h => h) (Or.inl ⟨by rfl, ?tyl4⟩) HB0.out ?trl4
        case tyl4 => (intro w' hSw; obtain ⟨⟨p0, p1, p2⟩, ⟨q0, q1, q2⟩⟩ := HF.out w' hSw; (try dsimp only at hSw); go_simp; try with_reducible rfl)
        try simp only [Act.put, List.setIfInBounds_toArray, List.set_cons_zero, List.set_cons_succ]
        refine wpAnyT_take2 5 (v := ?tvl5) (by kernel_rfl) rfl (by kernel_rfl) (fun _ _ _ h => h) (Or.inl ⟨by rfl, ?tyl5⟩) HB0.out ?trl5
        case tyl5 => (intro w' hSw; (try dsimp only at hSw); go_simp; try with_reducible rfl)
        try simp only [Act.put, List.setIfInBounds_toArray, List.set_cons_zero, List.set_cons_succ]
        refine wpAnyT_take2 6 (v := ?tvl6) (by kernel_rfl) rfl (by kernel_rfl) (fun _ _ _ h => h) (Or.inl ⟨by rfl, ?tyl6⟩) HB0.out ?trl6
        case tyl6 => (intro w' hSw; (try dsimp only at hSw); go_simp; try with_reducible rfl)
        try simp only [Act.put, List.setIfInBounds_toArray, List.set_cons_zero, List.set_cons_succ]
        refine wpAnyT_take2 7 (v := ?tvl7) (by kernel_rfl) rfl (by kernel_rfl) (fun _ _ _ h => h) (Or.inl ⟨by rfl, ?tyl7⟩) HB0.out ?trl7
        case tyl7 => (intro w' hSw; (try dsimp only at hSw); go_simp; try with_reducible rfl)
        try simp only [Act.put, List.setIfInBounds_toArray, List.set_cons_zero, List.set_cons_succ]
        refine wpAnyT_take2 8 (v := ?tvl8) (by kernel_rfl) rfl (by kernel_rfl) (fun _ _ _ h => h) (Or.inl ⟨by rfl, ?tyl8⟩) HB0.out ?trl8
        case tyl8 => (intro w' hSw; (try dsimp only at hSw); go_simp; try with_reducible rfl)
        try simp only [Act.put, List.setIfInBounds_toArray, List.set_cons_zero, List.set_cons_succ]
        refine wpAnyT_take2 9 (v := ?tvl9) (by kernel_rfl) rfl (by kernel_rfl) (fun _ _ _ h => h) (Or.inl ⟨by rfl, ?tyl9⟩) HB0.out ?trl9
        case tyl9 => (intro w' hSw; (try dsimp only at hSw); go_simp; try with_reducible rfl)
        try simp only [Act.put, List.setIfInBounds_toArray, List.set_cons_zero, List.set_cons_succ]
        refine wpAnyT_take2 10 (v := ?tvl10) (by kernel_rfl) rfl (by kernel_rfl) (fun _ _ _ h => h) (Or.inl ⟨by rfl, ?tyl10⟩) HB0.out ?trl10
        case tyl10 => (intro w' hSw; obtain ⟨⟨p0, p1, p2⟩, ⟨q0, q1, q2⟩⟩ := HF.out w' hSw; (try dsimp only at hSw); go_simp; try with_reducible rfl)
        try simp only [Act.put, List.setIfInBounds_toArray, List.set_cons_zero, List.set_cons_succ]
        refine wpAnyT_take2 13 (v := ?tvl13) (by kernel_rfl) rfl (by kernel_rfl) (fun _ _ _ h => h) (Or.inl ⟨by rfl, ?tyl13⟩) HB0.out ?trl13
        case tyl13 => (intro w' hSw; obtain ⟨⟨p0, p1, p2⟩, ⟨q0, q1, q2⟩⟩ := HF.out w' hSw; (try dsimp only at hSw); go_simp; try with_reducible rfl)
        try simp only [Act.put, List.setIfInBounds_toArray, List.set_cons_zero, List.set_cons_succ]
        refine wpAnyT_take2 14 (v := ?tvl14) (by kernel_rfl) rfl (by kernel_rfl) (fun _ _ _ h => h) (Or.inl ⟨by rfl, ?tyl14⟩) HB0.out ?trl14
        case tyl14 => (intro w' hSw; obtain ⟨⟨p0, p1, p2⟩, ⟨q0, q1, q2⟩⟩ := HF.out w' hSw; (try dsimp only at hSw); go_simp; try with_reducible rfl)
        try simp only [Act.put, List.setIfInBounds_toArray, List.set_cons_zero, List.set_cons_succ]
        refine wpAnyT_one2 11 rfl (by kernel_rfl) ?_
        intro K' hK'
        rw [if_pos (by rfl)]
        have HK := Lib.hid hK'
        clear hK'
        go_wp2_with (go_at_call 24; refine (HD2.out _ (below_then HE8.out HB0.out)).mono ?_; rintro e11 v11 ⟨rfl, hb1⟩)
        have HB1 := Lib.hid (below_then HB0.out hb1)
        clear hb1
        refine HK.out _ _ ⟨HB1.out, ?_⟩
        clear HK K'
        try simp only [Act.put, List.setIfInBounds_toArray, List.set_cons_zero, List.set_cons_succ]
        refine wpAnyT_take2 12 (v := ?tvl12) (by kernel_rfl) rfl (by kernel_rfl) (fun _ _ _ h => h) (Or.inl ⟨by rfl, ?tyl12⟩) HB1.out ?trl12
        case tyl12 => (intro w' hSw; (try dsimp only at hSw); go_simp; try with_reducible rfl)
        try simp only [Act.put, List.setIfInBounds_toArray, List.set_cons_zero, List.set_cons_succ]
        refine wpAnyT_one2 15 rfl (by kernel_rfl) ?_
        intro K' hK'
        rw [if_pos (by rfl)]
        have HK := Lib.hid hK'
        clear hK'
        go_wp2_with (go_at_call 14; refine (HD3.out _ (below_then HE8.out HB1.out)).mono ?_; rintro e12 v12 ⟨rfl, hb2⟩)
        have HB2 := Lib.hid (below_then HB1.out hb2)
        clear hb2
        refine HK.out _ _ ⟨HB2.out, ?_⟩
        clear HK K'
        try simp only [Act.put, List.setIfInBounds_toArray, List.set_cons_zero, List.set_cons_succ]
        refine wpAnyT_take2 16 (v := ?tvl16) (by kernel_rfl) rfl (by kernel_rfl) (fun _ _ _ h => h) (Or.inl ⟨by rfl, ?tyl16⟩) HB2.out ?trl16
        case tyl16 => (intro w' hSw; (try dsimp only at hSw); go_simp; try with_reducible rfl)
        try simp only [Act.put, List.setIfInBounds_toArray, List.set_cons_zero, List.set_cons_succ]
        refine wpAnyT_take2 17 (v := ?tvl17) (by kernel_rfl) rfl (by kernel_rfl) (fun _ _ _ h => h) (Or.inl ⟨by rfl, ?tyl17⟩) HB2.out ?trl17
        case tyl17 => (intro w' hSw; (try dsimp only at hSw); go_simp; try with_reducible rfl)
        try simp only [Act.put, List.setIfInBounds_toArray, List.set_cons_zero, List.set_cons_succ]
        refine ⟨by kernel_rfl, ?_⟩
        change wpList _ _ _ [_] _ _
        go_wp2
        refine NoPanic.normal ?_
        go_wp2
        go_ret
        exact ⟨ret_bool HEQ.out, below_then HB7.out (below_then HE8.out HB2.out)⟩
set_option maxRecDepth 100000 in
theorem lines_all {H : Type} {enc : TypeId × Value → H} {base base2 : Nat} {v v2 : Value} {d d2 : DataW H} {p p2 : List MemPlace} (s : Bool) (W : World) (hv : Value.okWide Tryd.prog W .any base 28 v) (h : DataW.Trod enc Tryd.prog W 0 (fun _ => true) true 28 v d p) (hv2 : Value.okWide Tryd.prog W .any base2 28 v2) (h2 : DataW.Trod enc Tryd.prog W 0 (fun _ => true) true 28 v2 d2 p2) :
    Calls Tryd.prog 6 #[v, v2, .bool s] W fun e w' => e = .returned (.bool true) ∧ Below W.heap.size W w' := by
  obtain ⟨PI, PL, pic, PC, PK, pcc, pg, own, LA, L, lc, g, rfl, hC⟩ := open_code hv h
  obtain ⟨QI, QL, qic, QC, QK, qcc, qg, own2, MA, M, mc, g2, rfl, hD⟩ := open_code hv2 h2
  exact lines_w PI PC LA PL PK pic pcc lc pg own L g QI QC MA QL QK qic qcc mc qg own2 M g2 s W hC hD
end Go.Proofs.YtpeheppiolfpfaaDoor
