/- Chapter 12 in plain words: a blob's bytes, its reader; what was put is read. Conditions: what each lemma says. -/
import Derived.Test.YtmiacgkidldjmaaGreatDoorVaryP
import Derived.Test.YtmiacgkidldjmaaGreatDoorSumP
import Derived.Test.YtmiacgkidldjmaaGreatDoorClassP
set_option linter.unusedVariables false
set_option linter.unusedSimpArgs false
namespace Go.Proofs.YtmiacgkidldjmaaGreatDoor.Plain
/-- four bytes of a sum -/
def b4 (x : Int) : List UInt8 := [UInt8.ofNat (x / 16777216 % 256).toNat, UInt8.ofNat (x / 65536 % 256).toNat, UInt8.ofNat (x / 256 % 256).toNat, UInt8.ofNat (x % 256).toNat]
def sealed (l : List UInt8) : List UInt8 := b4 (addS 1 l)
/-- how many bytes come to a multiple of four -/
def padI (n : Int) : Int := Int.tmod (4 - Int.tmod n 4) 4
def padN (n : Nat) : Nat := (4 - n % 4) % 4
theorem padI_nat (n : Nat) : padI n = padN n := by
  unfold padI padN
  rw [Int.tmod_eq_emod_of_nonneg (show (0 : Int) ≤ (n : Int) by omega), Int.tmod_eq_emod_of_nonneg (by omega)]; omega
theorem padI_bd (n : Int) : 0 ≤ padI n ∧ padI n ≤ 3 := by
  unfold padI
  have h1 := Int.tmod_lt_of_pos n (show (0 : Int) < 4 by decide)
  have h2 : -4 < Int.tmod n 4 := by
    rcases Int.lt_or_le n 0 with h | h
    · obtain ⟨m, rfl⟩ : ∃ m : Int, n = -m := ⟨-n, by omega⟩
      rw [Int.neg_tmod]
      have := Int.tmod_lt_of_pos m (show (0 : Int) < 4 by decide)
      omega
    · have := Int.tmod_nonneg 4 h
      omega
  rw [Int.tmod_eq_emod_of_nonneg (by omega)]; omega
def padL (l : List UInt8) : List UInt8 := l ++ List.replicate (padN l.length) 0
def sealL (l : List UInt8) : List UInt8 := padL l ++ sealed (padL l)
def textL (s : List UInt8) : List UInt8 := putL s.length ++ s
def secL (tag : Nat) (s : List UInt8) : List UInt8 := UInt8.ofNat tag :: textL s
/-- a blob ahead of its padding -/
def bodyL (k : UInt8) (tag : Nat) (a b c : List UInt8) : List UInt8 := [87, 88, k] ++ (secL tag a ++ (secL (tag + 1) b ++ secL (tag + 2) c))
def blobL (k : UInt8) (tag : Nat) (a b c : List UInt8) : List UInt8 := sealL (bodyL k tag a b c)
abbrev I4 := Int × Int × Int × Int
def rgL (r : Rg) : List UInt8 := putL r.1.toNat ++ putL (r.2 - r.1).toNat
def clsL (R : List Rg) : List UInt8 := putL R.length ++ R.flatMap rgL
def classesL (K : List (List Rg)) : List UInt8 := putL K.length ++ K.flatMap clsL
def instL (t : I4) : List UInt8 := putL t.1.toNat ++ (putL t.2.1.toNat ++ (putL t.2.2.1.toNat ++ putL t.2.2.2.toNat))
def instsL (L : List I4) : List UInt8 := putL L.length ++ L.flatMap instL
/-- the blob of a program -/
def progL (L : List I4) (K : List (List Rg)) (g : Int) : List UInt8 := blobL 80 1 (putL g.toNat) (classesL K) (instsL L)
/-- each number less the one ahead -/
def diffs : Int → List Int → List Int
  | _, [] => []
  | a, x :: l => (x - a) :: diffs x l
def partsL (P : List Int) : List UInt8 := putL P.length ++ (diffs 0 P).flatMap fun d => putL d.toNat
def rowL (r : List Int) : List UInt8 := r.flatMap fun x => putL x.toNat
def nextL (N : List (List Int)) : List UInt8 := putL N.length ++ N.flatMap rowL
def bitL (b : Bool) : List UInt8 := putL (if b then 1 else 0)
def accL (C : List Bool) : List UInt8 := putL C.length ++ C.flatMap bitL
/-- the blob of a table -/
def tabL (P : List Int) (N : List (List Int)) (C : List Bool) : List UInt8 := blobL 84 4 (partsL P) (nextL N) (accL C)
/-- the kind of a blob, the error -/
def kindE (s : List UInt8) : Int × Int :=
  if 65536 < s.length then (0, 3) else if s.length < 8 then (0, 4)
  else if s.take 3 = [87, 88, 80] then (1, 0) else if s.take 3 = [87, 88, 84] then (2, 0) else (0, 6)
/-- a blob's reader -/
structure St where
  al : Rd
  inn : Rd
  bad : Int
def St.fail (t : St) (e : Int) : St := ⟨t.al, t.inn, if t.bad = 0 then e else t.bad⟩
def secTag (t : St) (tag : Nat) : St :=
  let t2 := (t.fail t.inn.endE).fail (t.al.bytes 1).2.e
  if (t.al.bytes 1).2.e = 0 ∧ ((t.al.bytes 1).1.headD 0).toNat ≠ tag then t2.fail 7 else t2
def St.section (t : St) (tag : Nat) : St :=
  let x := (t.al.bytes 1).2.text 65536
  ⟨x.2, ⟨x.1, 0⟩, ((secTag t tag).fail x.2.e).bad⟩
def St.num1 (t : St) (most : Nat) : St :=
  let t1 : St := (St.mk t.al t.inn.next.2 t.bad).fail t.inn.next.2.e
  if most < t.inn.next.1 then t1.fail 3 else t1
def St.number (t : St) (most : Nat) : Nat × St := (if (t.num1 most).bad = 0 then t.inn.next.1 else 0, t.num1 most)
def St.fin (t : St) (size : Int) : St :=
  let t1 := t.fail t.inn.endE
  t1.fail ((t1.al.pad (padI (size - 4 - t1.al.rest.length))).endE)
/-- so often, as long as nothing is wrong -/
def many {S : Type} (bad : S → Int) (f : S → S) : Nat → S → S
  | 0, s => s
  | n + 1, s => if bad s = 0 then many bad f n (f s) else s
theorem many_bad {S : Type} (bad : S → Int) (f : S → S) (n : Nat) (s : S) (h : bad s ≠ 0) : many bad f n s = s := by
  cases n with
  | zero => rfl
  | succ n => unfold many; rw [if_neg h]
/-- one more at the end -/
theorem many_succ {S : Type} (bad : S → Int) (f : S → S) : ∀ (n : Nat) (s : S), many bad f (n + 1) s = if bad (many bad f n s) = 0 then f (many bad f n s) else many bad f n s := by
  intro n
  induction n with
  | zero => intro s; rfl
  | succ n ih =>
    intro s
    by_cases h : bad s = 0
    · have e : ∀ k, many bad f (k + 1) s = many bad f k (f s) := fun k => by conv => lhs; unfold many; rw [if_pos h]
      rw [e (n + 1), e n, ih]
    · rw [many_bad bad f _ s h, many_bad bad f _ s h, if_neg h]
def mw : Nat := 16777215
abbrev SR := St × List Rg
abbrev SK := St × List (List Rg)
abbrev SI := St × List I4
def gRange (s : SR) : SR :=
  let x := s.1.number mw
  let y := x.2.number mw
  (y.2, s.2 ++ [((x.1 : Int), (x.1 : Int) + y.1)])
def gClass (s : SK) : SK :=
  let x := s.1.number 64
  let y := many (fun s : SR => s.1.bad) gRange x.1 (x.2, [])
  (y.1, s.2 ++ [y.2])
def gInst (s : SI) : SI :=
  let a := s.1.number mw
  let b := a.2.number mw
  let c := b.2.number mw
  let d := c.2.number mw
  (d.2, s.2 ++ [((a.1 : Int), (b.1 : Int), (c.1 : Int), (d.1 : Int))])
def rd0 (s : List UInt8) : St := ⟨⟨(s.take (s.length - 4)).drop 3, 0⟩, ⟨[], 0⟩, 0⟩
structure PG where
  st : St
  L : List I4
  K : List (List Rg)
  g : Int
def gProg (t0 : St) : PG :=
  let g := (t0.section 1).number mw
  let nc := (g.2.section 2).number 64
  let k := many (fun s : SK => s.1.bad) gClass nc.1 (nc.2, [])
  let ni := (k.1.section 3).number 512
  let l := many (fun s : SI => s.1.bad) gInst ni.1 (ni.2, [])
  ⟨l.1, l.2, k.2, g.1⟩
abbrev SP := St × Int × List Int
abbrev SW := St × List Int
abbrev SN := St × List (List Int)
abbrev SB := St × List Bool
def gPart (s : SP) : SP := let x := s.1.number mw; (x.2, s.2.1 + x.1, s.2.2 ++ [s.2.1 + x.1])
def gCell (s : SW) : SW := let x := s.1.number mw; (x.2, s.2 ++ [(x.1 : Int)])
def gRow (width : Nat) (s : SN) : SN := let y := many (fun s : SW => s.1.bad) gCell width (s.1, []); (y.1, s.2 ++ [y.2])
def gAcc (s : SB) : SB := let x := s.1.number 1; (x.2, s.2 ++ [x.1 == 1])
structure TG where
  st : St
  P : List Int
  N : List (List Int)
  C : List Bool
def gTab (t0 : St) : TG :=
  let wd := (t0.section 4).number 64
  let p := many (fun s : SP => s.1.bad) gPart wd.1 (wd.2, 0, [])
  let nn := (p.1.section 5).number 64
  let n := many (fun s : SN => s.1.bad) (gRow wd.1) nn.1 (nn.2, [])
  let na := (n.1.section 6).number 64
  let a := many (fun s : SB => s.1.bad) gAcc na.1 (na.2, [])
  ⟨a.1, p.2.2, n.2, a.2⟩
/-- the error ahead of the sections -/
def openE (s : List UInt8) (kind : Int) : Int :=
  if (kindE s).2 ≠ 0 then (kindE s).2 else if (kindE s).1 ≠ kind then 12
  else if sealed (s.take (s.length - 4)) ≠ s.drop (s.length - 4) then 10 else 0
end Go.Proofs.YtmiacgkidldjmaaGreatDoor.Plain
namespace Go.Proofs.YtmiacgkidldjmaaGreatDoor.Plain
/-- what an error does -/
theorem St.fail_bad (t : St) (e : Int) (h : t.bad ≠ 0) : t.fail e = t := by unfold St.fail; rw [if_neg h]
theorem St.fail_ok (t : St) : t.fail 0 = t := by
  unfold St.fail
  by_cases h : t.bad = 0
  · rw [if_pos h, ← h]
  · rw [if_neg h]
/-- the next number -/
theorem number_put (n most : Nat) (al : Rd) (r : List UInt8) (hn : n ≤ most) (h64 : n < 2 ^ 64) : (St.mk al ⟨putL n ++ r, 0⟩ 0).number most = (n, ⟨al, ⟨r, 0⟩, 0⟩) := by
  have e : (St.mk al ⟨putL n ++ r, 0⟩ 0).num1 most = ⟨al, ⟨r, 0⟩, 0⟩ := by
    unfold St.num1
    dsimp only
    rw [next_put n r h64]
    dsimp only
    rw [if_neg (by omega), St.fail_ok]
  unfold St.number
  rw [e]
  dsimp only
  rw [next_put n r h64, if_pos rfl]
theorem section_put (tag : Nat) (s r : List UInt8) (ht : tag < 256) (hs : s.length ≤ 65536) : (St.mk ⟨secL tag s ++ r, 0⟩ ⟨[], 0⟩ 0).section tag = ⟨⟨r, 0⟩, ⟨s, 0⟩, 0⟩ := by
  have hb : (Rd.mk (secL tag s ++ r) 0).bytes 1 = ([UInt8.ofNat tag], ⟨putL s.length ++ (s ++ r), 0⟩) := by
    have := bytes_take [UInt8.ofNat tag] (putL s.length ++ (s ++ r))
    unfold secL textL
    rw [List.cons_append, List.append_assoc]
    exact this
  have hx := text_put s r 65536 (by omega) hs
  unfold St.section secTag
  dsimp only
  rw [hb]
  dsimp only
  rw [hx]
  dsimp only
  have h1 : (UInt8.ofNat tag).toNat = tag := ofNat_toNat tag ht
  rw [if_neg (by simp [h1])]
  rw [end_err 0, St.fail_ok, St.fail_ok, St.fail_ok]
/-- a row of things, each read as it was put -/
theorem many_put {X Y : Type} (enc : X → List UInt8) (dec : X → Y) (f : St × List Y → St × List Y) (al : Rd) :
    ∀ (xs : List X) (r : List UInt8) (acc : List Y), (∀ x ∈ xs, ∀ r acc, f (⟨al, ⟨enc x ++ r, 0⟩, 0⟩, acc) = (⟨al, ⟨r, 0⟩, 0⟩, acc ++ [dec x])) →
      many (fun s : St × List Y => s.1.bad) f xs.length (⟨al, ⟨xs.flatMap enc ++ r, 0⟩, 0⟩, acc) = (⟨al, ⟨r, 0⟩, 0⟩, acc ++ xs.map dec) := by
  intro xs
  induction xs with
  | nil => intro r acc _; simp [many]
  | cons x xs ih =>
    intro r acc h
    rw [List.flatMap_cons, List.append_assoc, List.length_cons]
    unfold many
    rw [if_pos rfl, h x (by simp), ih r (acc ++ [dec x]) fun y hy => h y (by simp [hy])]
    simp
/-- a program's numbers may be put -/
structure Fits (L : List I4) (K : List (List Rg)) (g : Int) : Prop where
  g0 : 0 ≤ g ∧ g ≤ 16777215
  kn : K.length ≤ 64
  ln : L.length ≤ 512
  rn : ∀ R ∈ K, R.length ≤ 64 ∧ ∀ r ∈ R, 0 ≤ r.1 ∧ r.1 ≤ r.2 ∧ r.2 ≤ 1114111
  tn : ∀ t ∈ L, (0 ≤ t.1 ∧ t.1 ≤ 16777215) ∧ (0 ≤ t.2.1 ∧ t.2.1 ≤ 16777215) ∧ (0 ≤ t.2.2.1 ∧ t.2.2.1 ≤ 16777215) ∧ (0 ≤ t.2.2.2 ∧ t.2.2.2 ≤ 16777215)
theorem range_put (r : Rg) (al : Rd) (t : List UInt8) (acc : List Rg) (h : 0 ≤ r.1 ∧ r.1 ≤ r.2 ∧ r.2 ≤ 1114111) : gRange (⟨al, ⟨rgL r ++ t, 0⟩, 0⟩, acc) = (⟨al, ⟨t, 0⟩, 0⟩, acc ++ [r]) := by
  unfold gRange rgL mw
  dsimp only
  rw [List.append_assoc, number_put _ _ _ _ (by omega) (by omega)]
  dsimp only
  rw [number_put _ _ _ _ (by omega) (by omega)]
  dsimp only
  have e1 : ((r.1.toNat : Nat) : Int) = r.1 := by omega
  have e2 : (((r.2 - r.1).toNat : Nat) : Int) = r.2 - r.1 := by omega
  rw [e1, e2, show r.1 + (r.2 - r.1) = r.2 by omega]
theorem class_put (R : List Rg) (al : Rd) (t : List UInt8) (acc : List (List Rg)) (h : R.length ≤ 64 ∧ ∀ r ∈ R, 0 ≤ r.1 ∧ r.1 ≤ r.2 ∧ r.2 ≤ 1114111) : gClass (⟨al, ⟨clsL R ++ t, 0⟩, 0⟩, acc) = (⟨al, ⟨t, 0⟩, 0⟩, acc ++ [R]) := by
  unfold gClass clsL
  dsimp only
  rw [List.append_assoc, number_put _ _ _ _ h.1 (by omega)]
  dsimp only
  rw [many_put rgL id gRange al R t [] fun r hr t acc => range_put r al t acc (h.2 r hr)]
  simp
theorem inst_put (x : I4) (al : Rd) (t : List UInt8) (acc : List I4)
    (h : (0 ≤ x.1 ∧ x.1 ≤ 16777215) ∧ (0 ≤ x.2.1 ∧ x.2.1 ≤ 16777215) ∧ (0 ≤ x.2.2.1 ∧ x.2.2.1 ≤ 16777215) ∧ (0 ≤ x.2.2.2 ∧ x.2.2.2 ≤ 16777215)) :
    gInst (⟨al, ⟨instL x ++ t, 0⟩, 0⟩, acc) = (⟨al, ⟨t, 0⟩, 0⟩, acc ++ [x]) := by
  obtain ⟨a, b, c, d⟩ := x
  dsimp only at h
  unfold gInst instL mw
  dsimp only
  rw [List.append_assoc, List.append_assoc, List.append_assoc]
  rw [number_put _ _ _ _ (by omega) (by omega)]
  dsimp only
  rw [number_put _ _ _ _ (by omega) (by omega)]
  dsimp only
  rw [number_put _ _ _ _ (by omega) (by omega)]
  dsimp only
  rw [number_put _ _ _ _ (by omega) (by omega)]
  dsimp only
  have e1 : ((a.toNat : Nat) : Int) = a := by omega
  have e2 : ((b.toNat : Nat) : Int) = b := by omega
  have e3 : ((c.toNat : Nat) : Int) = c := by omega
  have e4 : ((d.toNat : Nat) : Int) = d := by omega
  rw [e1, e2, e3, e4]
/-- how long a row's bytes are, at most -/
theorem flat_len {X : Type} (f : X → List UInt8) (b : Nat) : ∀ l : List X, (∀ x ∈ l, (f x).length ≤ b) → (l.flatMap f).length ≤ l.length * b := by
  intro l
  induction l with
  | nil => intro _; simp
  | cons x l ih =>
    intro h
    have h1 := h x (by simp)
    have h2 := ih fun y hy => h y (by simp [hy])
    rw [List.flatMap_cons, List.length_append, List.length_cons, Nat.add_mul]; omega
theorem put_len1 (n : Nat) (h : n < 128) : (putL n).length = 1 := by rw [putL_small n h]; rfl
theorem put_len4 (n : Nat) (h : n ≤ 16777215) : (putL n).length ≤ 4 := putL_len 3 n (by omega)
theorem rg_len (r : Rg) (h : 0 ≤ r.1 ∧ r.1 ≤ r.2 ∧ r.2 ≤ 1114111) : (rgL r).length ≤ 6 := by
  unfold rgL
  have h1 := putL_len 2 r.1.toNat (by omega)
  have h2 := putL_len 2 (r.2 - r.1).toNat (by omega)
  rw [List.length_append]; omega
theorem cls_len6 (R : List Rg) (h : R.length ≤ 64 ∧ ∀ r ∈ R, 0 ≤ r.1 ∧ r.1 ≤ r.2 ∧ r.2 ≤ 1114111) : (clsL R).length ≤ 385 := by
  unfold clsL
  have h1 := put_len1 R.length (by omega)
  have h2 := flat_len rgL 6 R fun r hr => rg_len r (h.2 r hr)
  rw [List.length_append]; omega
theorem classes_len (K : List (List Rg)) (hk : K.length ≤ 64) (h : ∀ R ∈ K, R.length ≤ 64 ∧ ∀ r ∈ R, 0 ≤ r.1 ∧ r.1 ≤ r.2 ∧ r.2 ≤ 1114111) : (classesL K).length ≤ 24641 := by
  unfold classesL
  have h1 := put_len1 K.length (by omega)
  have h2 := flat_len clsL 385 K fun R hR => cls_len6 R (h R hR)
  rw [List.length_append]; omega
theorem insts_len (L : List I4) (hl : L.length ≤ 512)
    (h : ∀ t ∈ L, (0 ≤ t.1 ∧ t.1 ≤ 16777215) ∧ (0 ≤ t.2.1 ∧ t.2.1 ≤ 16777215) ∧ (0 ≤ t.2.2.1 ∧ t.2.2.1 ≤ 16777215) ∧ (0 ≤ t.2.2.2 ∧ t.2.2.2 ≤ 16777215)) : (instsL L).length ≤ 8194 := by
  unfold instsL
  have h1 := putL_len 1 L.length (by omega)
  have h2 := flat_len instL 16 L fun t ht => by
    obtain ⟨a, b, c, d⟩ := h t ht
    unfold instL
    have := put_len4 t.1.toNat (by omega)
    have := put_len4 t.2.1.toNat (by omega)
    have := put_len4 t.2.2.1.toNat (by omega)
    have := put_len4 t.2.2.2.toNat (by omega)
    simp only [List.length_append]; omega
  rw [List.length_append]; omega
/-- what was put is read, behind it what stands there -/
theorem prog_put (L : List I4) (K : List (List Rg)) (g : Int) (r : List UInt8) (h : Fits L K g) :
    gProg ⟨⟨secL 1 (putL g.toNat) ++ (secL 2 (classesL K) ++ (secL 3 (instsL L) ++ r)), 0⟩, ⟨[], 0⟩, 0⟩ = ⟨⟨⟨r, 0⟩, ⟨[], 0⟩, 0⟩, L, K, g⟩ := by
  have hg := put_len4 g.toNat (by have := h.g0; omega)
  have hk := classes_len K h.kn h.rn
  have hl := insts_len L h.ln h.tn
  unfold gProg
  dsimp only
  rw [section_put 1 _ _ (by decide) (by omega)]
  have e1 := number_put g.toNat mw ⟨secL 2 (classesL K) ++ (secL 3 (instsL L) ++ r), 0⟩ [] (by have := h.g0; unfold mw; omega) (by have := h.g0; omega)
  rw [List.append_nil] at e1
  rw [e1]
  dsimp only
  rw [section_put 2 _ _ (by decide) (by omega)]
  unfold classesL
  rw [number_put _ _ _ _ h.kn (by have := h.kn; omega)]
  dsimp only
  have e2 := many_put clsL id gClass ⟨secL 3 (instsL L) ++ r, 0⟩ K [] [] fun R hR t acc => class_put R _ t acc (h.rn R hR)
  rw [List.append_nil] at e2
  rw [e2]
  dsimp only
  rw [section_put 3 _ _ (by decide) (by omega)]
  unfold instsL
  rw [number_put _ _ _ _ h.ln (by have := h.ln; omega)]
  dsimp only
  have e3 := many_put instL id gInst ⟨r, 0⟩ L [] [] fun x hx t acc => inst_put x _ t acc (h.tn x hx)
  rw [List.append_nil] at e3
  rw [e3]
  have e4 : ((g.toNat : Nat) : Int) = g := by have := h.g0; omega
  simp [e4]
end Go.Proofs.YtmiacgkidldjmaaGreatDoor.Plain
