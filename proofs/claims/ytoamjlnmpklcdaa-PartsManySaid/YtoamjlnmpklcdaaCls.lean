/- The law's classes; appends to a slice without room; parts in plain words. Conditions: what each lemma says. -/
import Derived.Test.YtoamjlnmpklcdaaClassI
import Derived.Test.YtoamjlnmpklcdaaEx
import Derived.Deep.Upon
set_option linter.unusedVariables false
set_option linter.unusedSimpArgs false
namespace Go.Proofs.Ytoamjlnmpklcdaa.Plain
/-- lists that rise and have the same members are the same -/
theorem Inc.tail {a : Int} {P : List Int} (h : Inc (a :: P)) : Inc P ∧ ∀ x ∈ P, a < x := by
  constructor
  · intro i j hij hj
    have := h (i + 1) (j + 1) (by omega) (by simp; omega)
    simpa using this
  · intro x hx
    obtain ⟨i, hi, rfl⟩ := (mem_getD P x).1 hx
    have := h 0 (i + 1) (by omega) (by simp; omega)
    simpa using this
theorem Inc.unique : ∀ {P Q : List Int}, Inc P → Inc Q → (∀ x, x ∈ P ↔ x ∈ Q) → P = Q := by
  intro P
  induction P with
  | nil =>
    intro Q _ _ h
    cases Q with
    | nil => rfl
    | cons q Q => exact absurd ((h q).2 (by simp)) (by simp)
  | cons p P ih =>
    intro Q hP hQ h
    cases Q with
    | nil => exact absurd ((h p).1 (by simp)) (by simp)
    | cons q Q =>
      obtain ⟨hP1, hP2⟩ := hP.tail
      obtain ⟨hQ1, hQ2⟩ := hQ.tail
      have e : p = q := by
        have h1 := (h p).1 (by simp)
        have h2 := (h q).2 (by simp)
        rcases List.mem_cons.1 h1 with e | e
        · exact e
        · rcases List.mem_cons.1 h2 with e2 | e2
          · exact e2.symm
          · have := hQ2 p e; have := hP2 q e2; omega
      subst e
      congr 1
      refine ih hP1 hQ1 fun x => ⟨fun hx => ?_, fun hx => ?_⟩
      · have := hP2 x hx
        rcases List.mem_cons.1 ((h x).1 (by simp [hx])) with e | e
        · omega
        · exact e
      · have := hQ2 x hx
        rcases List.mem_cons.1 ((h x).2 (by simp [hx])) with e | e
        · omega
        · exact e
theorem Inc.nodup {P : List Int} (h : Inc P) : P.Nodup := by
  rw [List.nodup_iff_pairwise_ne, List.pairwise_iff_getElem]
  intro i j hi hj hij
  have := h i j hij hj
  simp only [List.getD_eq_getElem?_getD, List.getElem?_eq_getElem hi, List.getElem?_eq_getElem hj, Option.getD_some] at this
  omega
theorem nodup_len : ∀ (P E : List Int), P.Nodup → (∀ x ∈ P, x ∈ E) → P.length ≤ E.length := by
  intro P
  induction P with
  | nil => intro E _ _; exact Nat.zero_le _
  | cons a P ih =>
    intro E hn hs
    rw [List.nodup_cons] at hn
    have ha := hs a (by simp)
    have h1 := ih (E.erase a) hn.2 (fun x hx => (List.mem_erase_of_ne (fun e => hn.1 (by rw [← e]; exact hx))).2 (hs x (by simp [hx])))
    rw [List.length_erase_of_mem ha] at h1
    have := List.length_pos_of_mem ha
    rw [List.length_cons]
    omega
theorem Inc.len_le {P E : List Int} (h : Inc P) (hs : ∀ x ∈ P, x ∈ E) : P.length ≤ E.length := nodup_len P E h.nodup hs
/-- parts of classes that are right -/
structure Pts (P : List Int) (R : List Rg) : Prop where
  inc : Inc P
  mem : ∀ x, x ∈ P ↔ x ∈ 0 :: ends R
theorem ends_mem (R : List Rg) (x : Int) : x ∈ ends R ↔ ∃ r ∈ R, x = r.1 ∨ (r.2 < 1114111 ∧ x = r.2 + 1) := by
  unfold ends
  rw [List.mem_flatMap]
  constructor
  · rintro ⟨r, hr, hx⟩
    refine ⟨r, hr, ?_⟩
    unfold end1 at hx
    split at hx
    · simp at hx
      rcases hx with e | e
      · exact .inl e
      · exact .inr ⟨by assumption, e⟩
    · simp at hx
      exact .inl hx
  · rintro ⟨r, hr, h⟩
    refine ⟨r, hr, ?_⟩
    unfold end1
    split
    · rcases h with h | h
      · simp [h]
      · simp [h.2]
    · rcases h with h | h
      · simp [h]
      · omega
theorem ends_in {R : List Rg} (h : ∀ r ∈ R, May r) (x : Int) (hx : x ∈ ends R) : 0 ≤ x ∧ x ≤ 1114111 := by
  obtain ⟨r, hr, e⟩ := (ends_mem R x).1 hx
  obtain ⟨m1, m2, m3⟩ := h r hr
  rcases e with e | ⟨e1, e⟩ <;> omega
theorem Pts.up {P : List Int} {R : List Rg} (h : Pts P R) (hm : ∀ r ∈ R, May r) : Up P := by
  have h0 : (0 : Int) ∈ P := (h.mem 0).2 (by simp)
  obtain ⟨i, hi, e⟩ := (mem_getD P 0).1 h0
  refine ⟨by omega, ?_, h.inc⟩
  by_cases hi0 : i = 0
  · rw [hi0] at e; exact e
  · have h1 := h.inc 0 i (by omega) hi
    have h2 : P.getD 0 0 ∈ P := (mem_getD P _).2 ⟨0, by omega, rfl⟩
    have h3 : 0 ≤ P.getD 0 0 := by
      rcases List.mem_cons.1 ((h.mem _).1 h2) with e2 | e2
      · omega
      · exact (ends_in hm _ e2).1
    omega
theorem Pts.most {P : List Int} {R : List Rg} (h : Pts P R) (hm : ∀ r ∈ R, May r) (k : Nat) (hk : k < P.length) : P.getD k 0 ≤ 1114111 := by
  rcases List.mem_cons.1 ((h.mem _).1 ((mem_getD P _).2 ⟨k, hk, rfl⟩)) with e | e
  · omega
  · exact (ends_in hm _ e).2
theorem Pts.right {P : List Int} {R : List Rg} (h : Pts P R) (hm : ∀ r ∈ R, May r) (h64 : P.length ≤ 64) : partsRight P = true := by
  have hu := h.up hm
  have hp := hu.pos
  exact hu.right (k := P.length - 1) (by omega) (by omega) (h.most hm _ (by omega))
/-- two runes of one part are in the same ranges -/
theorem Pts.alike1 {P : List Int} {R : List Rg} (h : Pts P R) (hm : ∀ r ∈ R, May r) {x y : Int} (hx : 0 ≤ x) (hy : 0 ≤ y) (hy2 : y ≤ 1114111) (he : partOf P x = partOf P y) (r : Rg) (hr : r ∈ R) (h1 : r.1 ≤ x) (h2 : x ≤ r.2) : r.1 ≤ y ∧ y ≤ r.2 := by
  have hu := h.up hm
  obtain ⟨a1, a2, a3⟩ := hu.part hx
  obtain ⟨b1, b2, b3⟩ := hu.part hy
  rw [← he] at b1 b2 b3
  obtain ⟨k, hk⟩ : ∃ k, partOf P x = k := ⟨_, rfl⟩
  rw [hk] at a1 a2 a3 b1 b2 b3
  -- a member of the parts that lies at most at x lies at most at where the part begins
  have low : ∀ z v, z ∈ P → 0 ≤ v → z ≤ v → (k + 1 < P.length → v < P.getD (k + 1) 0) → z ≤ P.getD k 0 := by
    intro z v hz _ hzv hv
    obtain ⟨i, hi, e⟩ := (mem_getD P z).1 hz
    by_cases hik : i ≤ k
    · rcases Nat.eq_or_lt_of_le hik with e2 | e2
      · rw [← e, e2]; exact Int.le_refl _
      · rw [← e]; exact Int.le_of_lt (h.inc i k e2 a1)
    · have hv := hv (by omega)
      have : P.getD (k + 1) 0 ≤ P.getD i 0 := by
        by_cases e2 : i = k + 1
        · rw [e2]; exact Int.le_refl _
        · exact Int.le_of_lt (h.inc (k + 1) i (by omega) hi)
      omega
  have m1 : r.1 ∈ P := (h.mem _).2 (List.mem_cons.2 (.inr ((ends_mem R _).2 ⟨r, hr, .inl rfl⟩)))
  have q1 := low r.1 x m1 hx h1 a3
  refine ⟨by omega, ?_⟩
  by_cases hlt : y ≤ r.2
  · exact hlt
  · exfalso
    have m2 : r.2 + 1 ∈ P := (h.mem _).2 (List.mem_cons.2 (.inr ((ends_mem R _).2 ⟨r, hr, .inr ⟨by omega, rfl⟩⟩)))
    have q2 := low (r.2 + 1) y m2 hy (by omega) b3
    omega
theorem Pts.alike {P : List Int} {R S : List Rg} (h : Pts P R) (hm : ∀ r ∈ R, May r) (hS : ∀ r ∈ S, r ∈ R) {x y : Int} (hx : 0 ≤ x) (hx2 : x ≤ 1114111) (hy : 0 ≤ y) (hy2 : y ≤ 1114111) (he : partOf P x = partOf P y) : In S x ↔ In S y := by
  constructor
  · rintro ⟨r, hr, h1, h2⟩; exact ⟨r, hr, h.alike1 hm hx hy hy2 he r (hS r hr) h1 h2⟩
  · rintro ⟨r, hr, h1, h2⟩; exact ⟨r, hr, h.alike1 hm hy hx hx2 he.symm r (hS r hr) h1 h2⟩
theorem Pts.same {P Q : List Int} {R S : List Rg} (h : Pts P R) (k : Pts Q S) (he : ∀ r, r ∈ R ↔ r ∈ S) : P = Q := by
  refine h.inc.unique k.inc fun x => ?_
  rw [h.mem, k.mem, List.mem_cons, List.mem_cons, ends_mem, ends_mem]
  constructor
  · rintro (e | ⟨r, hr, e⟩)
    · exact .inl e
    · exact .inr ⟨r, (he r).1 hr, e⟩
  · rintro (e | ⟨r, hr, e⟩)
    · exact .inl e
    · exact .inr ⟨r, (he r).2 hr, e⟩
theorem Pts.sub {P Q : List Int} {R S : List Rg} (h : Pts P R) (k : Pts Q S) (he : ∀ r ∈ R, r ∈ S) : ∀ x ∈ P, x ∈ Q := by
  intro x hx
  rw [k.mem, List.mem_cons, ends_mem]
  rcases List.mem_cons.1 ((h.mem x).1 hx) with e | e
  · exact .inl e
  · obtain ⟨r, hr, e⟩ := (ends_mem R x).1 e
    exact .inr ⟨r, he r hr, e⟩
theorem Up.find {P : List Int} (h : Up P) {x : Int} (hx : x ∈ P) : P.getD (partOf P x) 0 = x := by
  obtain ⟨i, hi, rfl⟩ := (mem_getD P x).1 hx
  rw [h.at_ i hi]
end Go.Proofs.Ytoamjlnmpklcdaa.Plain
namespace Go.Proofs.Ytoamjlnmpklcdaa
open Go.RowKit Go.Lib
open Plain (Rg Rn May mayB In Norm runOf cls)
theorem apart_ty {w : World} {base base' : Nat} {e e' : TypeId} {s s' n n' : Nat} {u v : Value} {xs ys : List Value} (h : w.ownsRow base e s v n xs) (k : w.ownsRow base' e' s' u n' ys) (hne : e ≠ e') : apart v u := by
  intro j h1 h2
  rcases h.2 with ⟨hv, _⟩ | ⟨g, cap, cur, rfl, _, hg, _⟩
  · rw [hv] at h1; simp [Value.ownBlock] at h1
  · rcases k.2 with ⟨hv, _⟩ | ⟨g', cap', cur', rfl, _, hg', _⟩
    · rw [hv] at h2; simp [Value.ownBlock] at h2
    · simp [Value.ownBlock] at h1 h2
      subst h1 h2
      rw [hg] at hg'
      injection hg' with hg'
      injection hg' with _ e1
      exact hne e1
/-- a class of one's own -/
def OwnC (base : Nat) (w : World) (x : Cs) : Prop := w.ownsRow base 46 2 (clV x) x.R.length (rgs x.R)
theorem OwnC.rs {base : Nat} {w : World} {x : Cs} (h : OwnC base w x) : Rs w x.A x.R := Rs.of_own h rfl
theorem OwnC.below {base : Nat} {w w' : World} {x : Cs} (h : OwnC base w x) (hb : Below w.heap.size w w') : OwnC base w' x := own_below h hb
/-- one argument of the law: a slice of runs -/
structure Rr where
  A : Option Addr
  c : Nat
  X : List Rn
def rrV (x : Rr) : Value := .slice x.A x.X.length x.c
def RrOk (w : World) (x : Rr) : Prop := Rns w x.A x.X ∧ x.X.length ≤ maxLen ∧ ∀ y ∈ x.X, RnOk y
theorem RrOk.below {w w' : World} {x : Rr} (h : RrOk w x) (hb : Below w.heap.size w w') : RrOk w' x := ⟨h.1.below hb, h.2⟩
/-- what class the law makes of it -/
def clsR (x : Rr) : List Rg := cls (runsOf x.X 12)
theorem clsR_ok (x : Rr) : Norm (clsR x) ∧ (clsR x).length ≤ 12 := by
  refine ⟨Plain.cls_norm _, Nat.le_trans (Plain.cls_len _) ?_⟩
  unfold runsOf
  rw [List.length_map, List.length_take]
  exact Nat.min_le_left _ _
theorem info40 : (Try.prog.info? 40).map (fun i => (i.zero, i.size, i.bytes)) = some (some (.slice none 0 0), 1, 24) := by kernel_rfl
def ClsRel (w : World) (LL : List Rr) (v i : Value) (wr : World) : Prop :=
  ∃ (k : Nat) (L : List Cs), i = .int .i64 k ∧ k ≤ LL.length ∧ k ≤ 6 ∧ L.length = k ∧ L.map Cs.R = (LL.take k).map clsR ∧ wr.ownsRow w.heap.size 40 1 v k (L.map clV) ∧ (∀ x ∈ L, OwnC w.heap.size wr x) ∧ Below w.heap.size w wr
def ClsPost (w : World) (LL : List Rr) (e : Ending) (w' : World) : Prop :=
  ∃ (m : Nat) (L : List Cs) (A : Option Addr) (c : Nat), e = .returned (.slice A m c) ∧ m ≤ 6 ∧ L.length = m ∧ L.map Cs.R = (LL.take 6).map clsR ∧ w'.ownsRow w.heap.size 40 1 (.slice A m c) m (L.map clV) ∧ (∀ x ∈ L, OwnC w.heap.size w' x) ∧ Below w.heap.size w w'
set_option maxRecDepth 100000 in
set_option maxHeartbeats 4000000 in
theorem classes_any (LL : List Rr) (A0 : Option Addr) (c0 : Nat) (w : World) (hX : Sl w A0 (LL.map rrV)) (hok : ∀ x ∈ LL, RrOk w x) (hl : LL.length ≤ maxLen) :
    Calls Try.prog 10 #[.slice A0 LL.length c0, .bool true] w (ClsPost w LL) := by
  obtain ⟨i40, hi40, y0, y1, y2⟩ := info_parts info40
  unfold maxLen at hl
  obtain ⟨m, hm⟩ : ∃ m, LL.length = m := ⟨_, rfl⟩
  have HX := Lib.hid hX
  have HOK := Lib.hid hok
  have HM := Lib.hid hm
  rw [hm] at hl ⊢
  clear hX hok hm
  go_enter Try.func10, Try.ntmps10
  go_wp2_with fail
  go_loopw [5, 6, 7] (fun v i _ wr => ClsRel w LL v i wr) (fun _ i _ _ => m - (RowKit.intOf i).toNat)
  case atStart => exact ⟨0, [], rfl, Nat.zero_le _, by omega, rfl, by simp, ⟨rfl, .inl ⟨rfl, rfl⟩⟩, (fun x hx => by cases hx), Below.refl _ _⟩
  case round =>
    obtain ⟨k, L, rfl, hkm, hk6, hLk, hLm, hO, hC, hB⟩ := hrel
    rw [HM.out] at hkm
    obtain ⟨va, vc, rfl⟩ := own_slice hO
    obtain ⟨w0, rfl⟩ : ∃ x, x = wr := ⟨_, rfl⟩
    have HO := Lib.hid hO
    have HC := Lib.hid hC
    have HB := Lib.hid hB
    have HL := Lib.hid (And.intro hLk hLm)
    clear hO hC hB hLk hLm
    by_cases hlt : k < m
    case neg =>
      have hkm' : k = m := by omega
      have d1 : decide ((k : Int) < (m : Int)) = false := decide_eq_false (by omega)
      have d1n : decide (k < m) = false := decide_eq_false hlt
      have HE := Lib.hid hkm'
      clear hkm'
      go_wp2_with fail
      go_ret
      exact ⟨k, L, va, vc, rfl, hk6, HL.out.1, by rw [HL.out.2, List.take_of_length_le (by rw [HM.out, HE.out]; exact Nat.le_refl _), List.take_of_length_le (by rw [HM.out, ← HE.out]; exact hk6)], HO.out, HC.out, HB.out⟩
    have d1 : decide ((k : Int) < (m : Int)) = true := decide_eq_true (by omega)
    have d1n : decide (k < m) = true := decide_eq_true hlt
    by_cases h6 : k < 6
    case neg =>
      have hk6' : k = 6 := by omega
      subst hk6'
      go_wp2_with fail
      go_ret
      exact ⟨6, L, va, vc, rfl, Nat.le_refl _, HL.out.1, HL.out.2, HO.out, HC.out, HB.out⟩
    have d6 : decide ((k : Int) < 6) = true := decide_eq_true (by omega)
    have d6n : decide (k < 6) = true := decide_eq_true h6
    have hkl : k < LL.length := by rw [HM.out]; exact hlt
    obtain ⟨x, hx⟩ : ∃ x, LL[k] = x := ⟨_, rfl⟩
    have hxm : x ∈ LL := by rw [← hx]; exact List.getElem_mem hkl
    obtain ⟨ba, off, rfl, hba, hcs⟩ := (HX.out.below HB.out) (by rw [List.length_map]; omega)
    have c0 := hcs k (rrV x) (by rw [List.getElem?_map, List.getElem?_eq_getElem hkl, hx]; rfl)
    obtain ⟨hr1, hr2, hr3⟩ := (HOK.out x hxm).below HB.out
    have htk : (LL.take (k + 1)).map clsR = (LL.take k).map clsR ++ [clsR x] := by rw [List.take_succ_eq_append_getElem hkl, List.map_append, hx]; rfl
    have HTK := Lib.hid htk
    obtain ⟨XA, xc, X⟩ := x
    unfold rrV at c0
    dsimp only at c0 hr1 hr2 hr3
    obtain ⟨xl, hxl⟩ : ∃ z, X.length = z := ⟨_, rfl⟩
    rw [hxl] at c0 hr2
    have CR := Lib.hid (runs_any X XA xl xc 12 w0 hr1 hxl (by omega) hr2 hr3)
    clear hr1 hr2 hr3 hcs hx hxm hxl htk
    go_wp2_with fail
    refine CR.out.mono ?_
    rintro e w1 ⟨A1, c1, rfl, ho1, hb1⟩
    have HB1 := Lib.hid (below_then HB.out hb1)
    have HO1 := Lib.hid (own_below HO.out hb1)
    have HC1 := Lib.hid (fun x hx => (HC.out x hx).below hb1)
    have hrl : (runsOf X 12).length ≤ 12 := by unfold runsOf; rw [List.length_map, List.length_take]; exact Nat.min_le_left _ _
    obtain ⟨rl, hrle⟩ : ∃ z, (runsOf X 12).length = z := ⟨_, rfl⟩
    have CO := Lib.hid (cof_any (runsOf X 12) A1 rl c1 w1 (Rs.of_own ho1 rfl) hrle (by omega))
    rw [hrle]
    clear ho1 hb1 hrl hrle c0 hba
    go_wp2_with fail
    refine CO.out.mono ?_
    rintro e w2 ⟨C, A2, c2, rfl, hN, hI, _, ho2, hb2⟩
    obtain rfl := Plain.cls_is hN hI
    have HB2 := Lib.hid (below_then HB1.out hb2)
    have HO2 := Lib.hid (own_below HO1.out hb2)
    have HC2 := Lib.hid (fun x hx => (HC1.out x hx).below hb2)
    have HN2 := Lib.hid (show OwnC w.heap.size w2 ⟨A2, c2, clsR ⟨XA, xc, X⟩⟩ from own_base ho2 HB1.out.size)
    have hcl := (clsR_ok ⟨XA, xc, X⟩).2
    unfold clsR at hcl
    dsimp only at hcl
    obtain ⟨cl, hcle⟩ : ∃ z, (cls (runsOf X 12)).length = z := ⟨_, rfl⟩
    have HCL := Lib.hid hcle
    rw [hcle] at hcl ⊢
    clear hN hI ho2 hb2 hcle
    go_wp2_with (at_builtin; refine wpList_append_own2 _ rfl (.tmp 26) (.tmp 28) _ rfl w.heap.size 40 i40 _ 1 24 Try.underlying34 hi40 y0 y1 y2 rfl (by decide) (.slice va k vc) k (L.map clV) rfl (HO2.out.alloc _) ⟨w2.heap.size, 0, none⟩ 1 1 [.slice A2 cl c2] rfl rfl (CellsAt_add (CellsAt.new w2 _ _)) (fun u hu => by simp only [List.mem_cons, List.not_mem_nil, or_false] at hu; subst hu; rfl) (by simp only [maxLen]; omega) (by omega) (by have := HB2.out.size; simp; omega) ?_)
    intro v3 w3 hown3 hg3 hvb3
    obtain ⟨a3, c3, rfl⟩ := own_slice hown3
    have hB3 : Below w.heap.size w w3 := (HB2.out.alloc HB2.out.size _).grown hg3 (by have := HB2.out.size; simp; omega) (fun g hg => (HO2.out.lt g hg).1)
    have hap : ∀ y, OwnC w.heap.size w2 y → OwnC w.heap.size w3 y := fun y hy => own_push hy hg3 (apart_ty HO2.out hy (by decide))
    have HB3 := Lib.hid hB3
    have HO3 := Lib.hid hown3
    have HC3 := Lib.hid (fun x hx => hap x (HC2.out x hx))
    have HN3 := Lib.hid (hap _ HN2.out)
    clear hB3 hap hown3 hg3 hvb3
    go_wp2_with fail
    go_roundw
    case rel =>
      refine ⟨k + 1, L ++ [⟨A2, c2, clsR ⟨XA, xc, X⟩⟩], by go_num, by rw [HM.out]; omega, by omega, by rw [List.length_append, HL.out.1]; rfl, by rw [List.map_append, HL.out.2, HTK.out]; rfl, ?_, fun y hy => ?_, HB3.out⟩
      · have h := HO3.out
        rw [List.map_append]
        have e : clV ⟨A2, c2, clsR ⟨XA, xc, X⟩⟩ = .slice A2 cl c2 := by unfold clV clsR; dsimp only; rw [HCL.out]
        rw [List.map_cons, List.map_nil, e]
        exact h
      · rcases List.mem_append.1 hy with h | h
        · exact HC3.out y h
        · simp only [List.mem_cons, List.not_mem_nil, or_false] at h
          subst h
          exact HN3.out
    case measure => simp [RowKit.intOf]; omega
end Go.Proofs.Ytoamjlnmpklcdaa
namespace Go.Proofs.Ytoamjlnmpklcdaa
open Go.RowKit Go.Lib Go.Deep
/-- a row of one's own, or a slice that holds nothing and has no room -/
def Fr (base : Nat) (e : TypeId) (size : Nat) (w : World) (v : Value) (n : Nat) (xs : List Value) : Prop :=
  (∃ A, v = .slice A 0 0 ∧ n = 0 ∧ xs = []) ∨ (w.ownsRow base e size v n xs ∧ 0 < n)
theorem Fr.below {base : Nat} {e : TypeId} {size : Nat} {w w' : World} {v : Value} {n : Nat} {xs : List Value} (h : Fr base e size w v n xs) (hb : Below w.heap.size w w') : Fr base e size w' v n xs := by
  rcases h with h | ⟨h, h0⟩
  · exact .inl h
  · exact .inr ⟨own_below h hb, h0⟩
theorem Fr.shape {base : Nat} {e : TypeId} {size : Nat} {w : World} {v : Value} {n : Nat} {xs : List Value} (h : Fr base e size w v n xs) : ∃ A c, v = .slice A n c := by
  rcases h with ⟨A, rfl, rfl, _⟩ | ⟨h, _⟩
  · exact ⟨A, 0, rfl⟩
  · exact own_slice h
theorem Fr.sl {base : Nat} {e : TypeId} {w : World} {A : Option Addr} {n c : Nat} {xs : List Value} (h : Fr base e 1 w (.slice A n c) n xs) (hl : xs.length = n) : Sl w A xs := by
  rcases h with ⟨_, _, rfl, rfl⟩ | ⟨h, _⟩
  · exact Sl.nil _ _
  · exact own_Sl h hl
theorem Fr.len {base : Nat} {e : TypeId} {w : World} {v : Value} {n : Nat} {xs : List Value} (h : Fr base e 1 w v n xs) : xs.length = n := by
  rcases h with ⟨_, _, rfl, rfl⟩ | ⟨h, _⟩
  · rfl
  · have := h.1; rw [Nat.mul_one] at this; exact this
section
variable {P : Program}
theorem run_append_fr (w : World) (base : Nat) (t ty e : TypeId) (i : TypeInfo) (z : Value) (bytes : Nat) (ht : P.underlying t = some (.slice e)) (hi : P.info? e = some i) (hz : i.zero = some z)
    (hsize : i.size = 1) (hby : i.bytes = bytes) (hzs : z.cells.size = 1)
    (v : Value) (n : Nat) (xs : List Value) (hf : Fr base e 1 w v n xs)
    (A : Option Addr) (m c : Nat) (news : List Value) (hl : news.length = m) (hnews : Sl w A news) (hA : A = none → c = 0 ∧ m = 0) (h1 : ∀ u ∈ news, u.oneCell' = true)
    (h63 : n + m ≤ maxLen) (hbytes : (n + m) * bytes ≤ 140737488355328) (hbase : base ≤ w.heap.size) :
    ∃ v' w', (Builtin.append_ #[t, t] ty #[v, .slice A m c]).run P w = .ok v' w' ∧ Fr base e 1 w' v' (n + m) (xs ++ news) ∧ Below base w w' := by
  have hn0 : m = 0 → news = [] := fun h => List.length_eq_zero_iff.1 (by rw [hl, h])
  -- nothing comes
  have nothing : ∀ (B : Option Addr) (k : Nat), n ≤ k → m = 0 → (Builtin.append_ #[t, t] ty #[.slice B n k, .slice A m c]).run P w = .ok (.slice B n k) w := by
    intro B k hk hm
    subst hm
    have hnil := hn0 rfl
    subst hnil
    have hs : Src P i.size t (.slice A 0 c) 0 [] w := by
      cases A with
      | none => exact Src.ofNil w ht c
      | some a => exact Src.ofSlice w ht a 0 c [] (by simp) (fun j u hu => by simp at hu) (fun u hu => by simp at hu)
    exact run_append_nothing w t t ty e i ht hi B n k hk _ hs
  by_cases hm : m = 0
  · rcases hf with ⟨B, rfl, rfl, rfl⟩ | ⟨hO, hn⟩
    · exact ⟨_, _, nothing B 0 (Nat.le_refl _) hm, .inl ⟨B, rfl, by omega, by rw [hn0 hm]; rfl⟩, Below.refl _ _⟩
    · obtain ⟨B, k, rfl⟩ := own_slice hO
      refine ⟨_, _, nothing B k (own_cap hO) hm, .inr ⟨?_, by omega⟩, Below.refl _ _⟩
      rw [hn0 hm, List.append_nil, hm, Nat.add_zero]
      exact hO
  · have hpos : 0 < m := by omega
    obtain ⟨b, off, rfl, hb, hcs⟩ := hnews (by omega)
    have hadd : ∀ j u, news[j]? = some u → w.cell? ((⟨b, off, none⟩ : Addr).add j) = some u := fun j u hu => by
      have e : (⟨b, off, none⟩ : Addr).add j = ⟨b, off + j, none⟩ := by unfold Addr.add; split <;> simp_all
      rw [e]; exact hcs j u hu
    have hown : ∀ v, w.ownsRow base e 1 v n xs → ∃ v' w', (Builtin.append_ #[t, t] ty #[v, .slice (some ⟨b, off, none⟩) m c]).run P w = .ok v' w' ∧ Fr base e 1 w' v' (n + m) (xs ++ news) ∧ Below base w w' := by
      intro v hO
      obtain ⟨v', w', h2, h3, h4, _⟩ := run_append_own (P := P) w base t ty e i z 1 bytes ht hi hz hsize hby hzs (by decide) v n xs hO ⟨b, off, none⟩ m c news (by rw [hl, Nat.mul_one]) hadd h1 h63 hbytes hbase
      exact ⟨v', w', h2, .inr ⟨h3, by omega⟩, (Below.refl _ _).grown h4 hbase (fun g hg => (hO.lt g hg).1)⟩
    rcases hf with ⟨B, rfl, rfl, rfl⟩ | ⟨hO, hn⟩
    · cases B with
      | none => exact hown _ (World.ownsRow_nil _ _ _ _)
      | some a =>
        have hg := run_append_grow (P := P) (w := w) t ty e i z ht hi hz a 0 0 [] (by simp) (fun j u hu => by simp at hu) ⟨b, off, none⟩ m c news (by rw [hl, hsize, Nat.mul_one]) hadd (by omega) (by unfold maxLen at h63; omega) (by rw [Nat.zero_add, nextslicecap_zero hpos, hby]; rw [Nat.zero_add] at hbytes; omega)
        refine ⟨_, _, hg, .inr ⟨?_, by omega⟩, ?_⟩
        · rw [Nat.zero_add, List.nil_append]
          have hge := grownCap_ge w m 0 e
          have hle := grownCap_le_maxLen w m 0 e (by rw [Nat.zero_add] at h63; exact h63)
          refine ⟨by rw [hl, Nat.mul_one], .inr ⟨w.heap.size, grownCap w m 0 e, _, rfl, hbase, heap_alloc_new w.drew _, hge, hle, ?_, ?_⟩⟩
          · rw [Array.size_append, size_zeroCells, hzs]
            simp [hl]
            omega
          · simp [hl]
        · exact (Below.refl base w).drew.alloc hbase _
    · exact hown v hO
theorem wpList_append_fr {w : World} {ops : Array Oper} {rest : List Oper} {o : Oper} {a : Act} {Q : Exit → Act → World → Prop} (hgd : o.guard = none) (s x : Operand) (t : TypeId)
    (ho : o.op = .call { callee := .builtin .append, args := #[s, x], argTypes := #[t, t] })
    (base : Nat) (e : TypeId) (i : TypeInfo) (z : Value) (bytes : Nat) (ht : P.underlying t = some (.slice e)) (hi : P.info? e = some i) (hz : i.zero = some z)
    (hsize : i.size = 1) (hby : i.bytes = bytes) (hzs : z.cells.size = 1)
    (v : Value) (n : Nat) (xs : List Value) (hs : a.eval s = v) (hf : Fr base e 1 w v n xs)
    (A : Option Addr) (m c : Nat) (news : List Value) (hx : a.eval x = .slice A m c) (hl : news.length = m) (hnews : Sl w A news) (hA : A = none → c = 0 ∧ m = 0) (h1 : ∀ u ∈ news, u.oneCell' = true)
    (h63 : n + m ≤ maxLen) (hbytes : (n + m) * bytes ≤ 140737488355328) (hbase : base ≤ w.heap.size)
    (h : ∀ v' w', Fr base e 1 w' v' (n + m) (xs ++ news) → Below base w w' → wpList P ops Q rest (a.put o.dst v') w') : wpList P ops Q (o :: rest) a w := by
  refine wpList_plain hgd fun K hK => ?_
  obtain ⟨v', w', hr, h2, h3⟩ := run_append_fr (P := P) w base t o.type e i z bytes ht hi hz hsize hby hzs v n xs hf A m c news hl hnews hA h1 h63 hbytes hbase
  unfold Oper.wp execOp
  simp only [ho, resolve, invoke, builtin, Sem.run_bind, Sem.run_pure, Result.andThen_ok, List.map_toArray, List.map_cons, List.map_nil, hs, hx, hr]
  exact hK _ _ (h v' w' h2 h3)
end
end Go.Proofs.Ytoamjlnmpklcdaa
