/- Chapter 1 in plain words: the sum. Conditions: none. -/
import Derived.Below
namespace Go.Proofs.YtmiacgkidldjmaaGreatDoor.Plain

/-- one byte more -/
def step (p : Int × Int) (c : UInt8) : Int × Int := ((p.1 + (c.toNat : Int)) % 65521, (p.2 + (p.1 + (c.toNat : Int)) % 65521) % 65521)
/-- all bytes of a list -/
def run (p : Int × Int) (l : List UInt8) : Int × Int := l.foldl step p
/-- what the bytes come to -/
def tot (l : List UInt8) : Int := (l.map fun c => (c.toNat : Int)).sum
/-- what the bytes come to, each counted by how many there are from it on -/
def wei : List UInt8 → Int
  | [] => 0
  | c :: r => (c.toNat : Int) * ((r.length : Int) + 1) + wei r
/-- the sum gone on with -/
def addS (x : Int) (l : List UInt8) : Int :=
  let p := run (x % 65536 % 65521, x / 65536 % 65521) l
  p.2 * 65536 + p.1
/-- two sums joined -/
def joinS (x y many : Int) : Int :=
  (y / 65536 % 65521 + x / 65536 % 65521 + (if many < 0 then 0 else many) % 65521 * ((x % 65536 % 65521 + 65520) % 65521)) % 65521 * 65536 + (x % 65536 % 65521 + y % 65536 % 65521 + 65520) % 65521

theorem step_bd (p : Int × Int) (c : UInt8) : 0 ≤ (step p c).1 ∧ (step p c).1 < 65521 ∧ 0 ≤ (step p c).2 ∧ (step p c).2 < 65521 := by
  unfold step; simp only; omega
theorem run_bd (l : List UInt8) : ∀ p : Int × Int, 0 ≤ p.1 → p.1 < 65521 → 0 ≤ p.2 → p.2 < 65521 → 0 ≤ (run p l).1 ∧ (run p l).1 < 65521 ∧ 0 ≤ (run p l).2 ∧ (run p l).2 < 65521 := by
  induction l with
  | nil => intro p a b c d; exact ⟨a, b, c, d⟩
  | cons x r ih => intro p _ _ _ _; have h := step_bd p x; exact ih (step p x) h.1 h.2.1 h.2.2.1 h.2.2.2
theorem run_snoc (p : Int × Int) (l : List UInt8) (c : UInt8) : run p (l ++ [c]) = step (run p l) c := by simp [run]
theorem run_append (p : Int × Int) (l m : List UInt8) : run p (l ++ m) = run (run p l) m := by simp [run]
theorem tot_cons (c : UInt8) (r : List UInt8) : tot (c :: r) = c.toNat + tot r := by simp [tot]
theorem tot_append (l m : List UInt8) : tot (l ++ m) = tot l + tot m := by
  induction l with
  | nil => simp [tot]
  | cons c r ih => rw [List.cons_append, tot_cons, tot_cons, ih]; omega
theorem wei_append (l m : List UInt8) : wei (l ++ m) = wei l + m.length * tot l + wei m := by
  induction l with
  | nil => simp [wei, tot]
  | cons c r ih =>
    rw [List.cons_append, wei, wei, ih, tot_cons, List.length_append, show ((r.length + m.length : Nat) : Int) = (r.length : Int) + m.length from by omega]
    simp only [Int.mul_add, Int.mul_one]
    rw [Int.mul_comm (m.length : Int) (c.toNat : Int)]
    omega
theorem run_fst (l : List UInt8) : ∀ p : Int × Int, p.1 % 65521 = p.1 → (run p l).1 = (p.1 + tot l) % 65521 := by
  induction l with
  | nil => intro p h; simp [run, tot, h]
  | cons c r ih =>
    intro p _
    have h2 := ih (step p c) (by unfold step; simp only; omega)
    have e : run p (c :: r) = run (step p c) r := rfl
    rw [e, h2, tot_cons]; unfold step; simp only; omega
theorem run_snd (l : List UInt8) : ∀ p : Int × Int, p.2 % 65521 = p.2 → (run p l).2 = (p.2 + l.length * p.1 + wei l) % 65521 := by
  induction l with
  | nil => intro p h; simp [run, wei, h]
  | cons c r ih =>
    intro p _
    have h2 := ih (step p c) (by unfold step; simp only; omega)
    have e : run p (c :: r) = run (step p c) r := rfl
    rw [e, h2, wei]; unfold step; simp only [List.length_cons]
    have em : ∀ n a : Int, ∃ q : Int, n * (a % 65521) = n * a + q * 65521 := fun n a => ⟨-(n * (a / 65521)), by
      have h := Int.emod_add_mul_ediv a 65521
      have h3 : a % 65521 = a - 65521 * (a / 65521) := by omega
      rw [h3, Int.mul_sub, Int.neg_mul, ← Int.mul_assoc, Int.mul_comm n 65521, Int.mul_assoc, Int.mul_comm 65521]; omega⟩
    obtain ⟨q, hq⟩ := em r.length (p.1 + c.toNat)
    rw [hq]
    have e1 : ((r.length + 1 : Nat) : Int) * p.1 = r.length * p.1 + p.1 := by rw [show ((r.length + 1 : Nat) : Int) = (r.length : Int) + 1 from by omega, Int.add_mul]; omega
    have e2 : (r.length : Int) * (p.1 + c.toNat) = r.length * p.1 + r.length * c.toNat := Int.mul_add _ _ _
    have e3 : (c.toNat : Int) * ((r.length : Int) + 1) = r.length * c.toNat + c.toNat := by rw [Int.mul_add, Int.mul_comm]; omega
    rw [e1, e2, e3]; omega
/-- a sum's two numbers, closed -/
theorem addS_eq (x : Int) (l : List UInt8) : addS x l = (x / 65536 % 65521 + l.length * (x % 65536 % 65521) + wei l) % 65521 * 65536 + (x % 65536 % 65521 + tot l) % 65521 := by
  unfold addS; simp only; rw [run_fst _ _ (by simp only; omega), run_snd _ _ (by simp only; omega)]
theorem addS_bd (x : Int) (l : List UInt8) : 0 ≤ addS x l ∧ addS x l < 4294967296 := by rw [addS_eq]; omega
theorem addS_parts (x : Int) (l : List UInt8) : addS x l % 65536 % 65521 = (x % 65536 % 65521 + tot l) % 65521 ∧ addS x l / 65536 % 65521 = (x / 65536 % 65521 + l.length * (x % 65536 % 65521) + wei l) % 65521 := by
  rw [addS_eq]; omega
theorem mul_mod_any (n a : Int) : (n % 65521 * (a % 65521)) % 65521 = (n * a) % 65521 := (Int.mul_emod n a 65521).symm
theorem addS_one (l : List UInt8) : addS 1 l = (l.length + wei l) % 65521 * 65536 + (1 + tot l) % 65521 := by
  rw [addS_eq]; simp only [show (1 : Int) % 65536 % 65521 = 1 from rfl, show (1 : Int) / 65536 % 65521 = 0 from rfl, Int.mul_one]; omega
theorem joinS_addS (x : Int) (l : List UInt8) : joinS x (addS 1 l) l.length = addS x l := by
  unfold joinS
  obtain ⟨h1, h2⟩ := addS_parts 1 l
  rw [h1, h2, addS_eq, if_neg (by omega)]
  have h3 := mul_mod_any l.length (x % 65536 % 65521 + 65520)
  have h4 : (l.length : Int) * (x % 65536 % 65521 + 65520) = l.length * (x % 65536 % 65521) + 65520 * l.length := by rw [Int.mul_add, Int.mul_comm (l.length : Int) 65520]
  rw [h4] at h3
  have hp : 0 ≤ x % 65536 % 65521 := by omega
  generalize x % 65536 % 65521 = p at *
  generalize x / 65536 % 65521 = q at *
  simp only [show (1 : Int) % 65536 % 65521 = 1 from rfl, show (1 : Int) / 65536 % 65521 = 0 from rfl, Int.mul_one]
  generalize (l.length : Int) % 65521 * ((p + 65520) % 65521) = u at *
  generalize (l.length : Int) * p = v at *
  omega
theorem addS_append (x : Int) (l m : List UInt8) : addS (addS x l) m = addS x (l ++ m) := by
  obtain ⟨h1, h2⟩ := addS_parts x l
  rw [addS_eq (addS x l) m, h1, h2, addS_eq x (l ++ m), tot_append, wei_append, List.length_append]
  have h3 := mul_mod_any m.length (x % 65536 % 65521 + tot l)
  have h4 : ((l.length + m.length : Nat) : Int) * (x % 65536 % 65521) = l.length * (x % 65536 % 65521) + m.length * (x % 65536 % 65521) := by
    rw [show ((l.length + m.length : Nat) : Int) = (l.length : Int) + m.length from by omega, Int.add_mul]
  have h5 : (m.length : Int) * (x % 65536 % 65521 + tot l) = m.length * (x % 65536 % 65521) + m.length * tot l := Int.mul_add _ _ _
  obtain ⟨k, hk⟩ : ∃ k, (m.length : Int) * ((x % 65536 % 65521 + tot l) % 65521) = m.length * (x % 65536 % 65521 + tot l) + k * 65521 := by
    refine ⟨-(m.length * ((x % 65536 % 65521 + tot l) / 65521)), ?_⟩
    rw [Int.neg_mul, Int.mul_assoc]
    have e : (x % 65536 % 65521 + tot l) = (x % 65536 % 65521 + tot l) % 65521 + (x % 65536 % 65521 + tot l) / 65521 * 65521 := by omega
    have e2 : (m.length : Int) * (x % 65536 % 65521 + tot l) = m.length * ((x % 65536 % 65521 + tot l) % 65521) + m.length * ((x % 65536 % 65521 + tot l) / 65521 * 65521) := by
      rw [← Int.mul_add, ← e]
    omega
  rw [hk, h4, h5]
  omega
theorem join_two (a b : List UInt8) : joinS (addS 1 a) (addS 1 b) b.length = addS 1 (a ++ b) := by rw [joinS_addS, addS_append]
theorem join_none (x : Int) : joinS x 1 0 = addS x [] := joinS_addS x []
theorem join_below (x y many : Int) (h : many < 0) : joinS x y many = joinS x y 0 := by unfold joinS; rw [if_pos h, if_neg (by omega)]
theorem join_from (y : Int) : joinS 1 y 5 = addS y [] := by rw [addS_eq]; unfold joinS; rw [if_neg (by omega)]; simp only [tot, wei, List.map_nil, List.sum_nil, List.length_nil]; omega
theorem join_less (x y : Int) : joinS (joinS x 1 0) (addS y []) 7 = joinS x y 7 := by
  rw [join_none]
  obtain ⟨h1, h2⟩ := addS_parts x []
  obtain ⟨h3, h4⟩ := addS_parts y []
  simp only [tot, wei, List.map_nil, List.sum_nil, List.length_nil] at h1 h2 h3 h4
  unfold joinS; rw [h1, h2, h3, h4]
  have e1 : (x % 65536 % 65521 + 0) % 65521 = x % 65536 % 65521 := by omega
  rw [e1]; omega
theorem tot_zeros (n : Nat) : tot (List.replicate n 0) = 0 := by
  induction n with
  | zero => rfl
  | succ n ih => rw [List.replicate_succ, tot_cons, ih]; rfl
theorem wei_zeros (n : Nat) : wei (List.replicate n 0) = 0 := by
  induction n with
  | zero => rfl
  | succ n ih => rw [List.replicate_succ, wei, ih]; simp
theorem addS_zeros (n : Nat) (h : n < 256) : addS 1 (List.replicate n 0) = (n : Int) * 65536 + 1 := by
  rw [addS_one, tot_zeros, wei_zeros, List.length_replicate]; omega
theorem addS_zeros_join (n : Nat) (h : n < 256) (l : List UInt8) : joinS ((n : Int) * 65536 + 1) (addS 1 l) l.length = addS 1 (List.replicate n 0 ++ l) := by
  rw [← addS_zeros n h, join_two]
theorem addS_less (x : Int) (l : List UInt8) : addS (addS x []) l = addS x l := by rw [addS_append]; rfl
theorem addS_low (x : Int) (l : List UInt8) : addS x l % 65536 < 65521 ∧ addS x l / 65536 < 65521 := by rw [addS_eq]; omega
/-- turned bytes -/
theorem addS_turn (p q : List UInt8) (x y : UInt8) : (addS 1 (p ++ (y :: x :: q)) = addS 1 (p ++ (x :: y :: q))) ↔ x = y := by
  constructor
  · intro h
    have h1 := (addS_parts 1 (p ++ (y :: x :: q))).2
    rw [h, (addS_parts 1 (p ++ (x :: y :: q))).2] at h1
    simp only [wei_append, wei, List.length_append, List.length_cons, Int.mul_add, Int.mul_one] at h1
    have hx := UInt8.toNat_lt x
    have hy := UInt8.toNat_lt y
    simp only [show ((q.length + 1 : Nat) : Int) = (q.length : Int) + 1 from by omega, Int.mul_add, Int.mul_one] at h1
    have e : (x.toNat : Int) = y.toNat := by omega
    exact UInt8.toNat_inj.1 (by omega)
  · rintro rfl; rfl
theorem addS_other (p q : List UInt8) (x y : UInt8) : (addS 1 (p ++ (y :: q)) = addS 1 (p ++ (x :: q))) ↔ y = x := by
  constructor
  · intro h
    have h1 := (addS_parts 1 (p ++ (y :: q))).1
    rw [h, (addS_parts 1 (p ++ (x :: q))).1] at h1
    simp only [tot_cons, tot_append] at h1
    have hx := UInt8.toNat_lt x
    have hy := UInt8.toNat_lt y
    exact UInt8.toNat_inj.1 (by omega)
  · rintro rfl; rfl
theorem tot_bd (l : List UInt8) : 0 ≤ tot l ∧ tot l ≤ 255 * l.length := by
  induction l with
  | nil => simp [tot]
  | cons c r ih => rw [tot_cons, List.length_cons]; have := UInt8.toNat_lt c; omega
theorem wei_bd (l : List UInt8) (h : l.length ≤ 12) : 0 ≤ wei l ∧ wei l ≤ 255 * 12 * l.length := by
  induction l with
  | nil => simp [wei]
  | cons c r ih =>
    rw [List.length_cons] at h ⊢
    have hi := ih (by omega)
    rw [wei]
    have hc := UInt8.toNat_lt c
    have h1 : (c.toNat : Int) * ((r.length : Int) + 1) ≤ 255 * ((r.length : Int) + 1) := Int.mul_le_mul_of_nonneg_right (by omega) (by omega)
    have h2 : 0 ≤ (c.toNat : Int) * ((r.length : Int) + 1) := Int.mul_nonneg (by omega) (by omega)
    omega
theorem addS_few (l : List UInt8) (h : l.length ≤ 12) : addS 1 l = (l.length + wei l) * 65536 + (1 + tot l) := by
  rw [addS_one]
  have := tot_bd l
  have := wei_bd l h
  omega
theorem wei_drop (l : List UInt8) (i : Nat) (h : i < l.length) : wei (l.drop i) = (l[i].toNat : Int) * ((l.length : Int) - i) + wei (l.drop (i + 1)) := by
  rw [List.drop_eq_getElem_cons h, wei, List.length_drop]
  rw [show ((l.length - (i + 1) : Nat) : Int) + 1 = (l.length : Int) - i from by omega]
theorem tot_drop (l : List UInt8) (i : Nat) (h : i < l.length) : tot (l.drop i) = (l[i].toNat : Int) + tot (l.drop (i + 1)) := by
  rw [List.drop_eq_getElem_cons h, tot_cons]
theorem pw_bd (l : List UInt8) (h : l.length ≤ 12) (k : Nat) : 0 ≤ wei l - wei (l.drop k) ∧ wei l - wei (l.drop k) ≤ 36720 ∧ 0 ≤ tot l - tot (l.drop k) ∧ tot l - tot (l.drop k) ≤ 3060 := by
  have e1 := wei_append (l.take k) (l.drop k)
  have e2 := tot_append (l.take k) (l.drop k)
  rw [List.take_append_drop] at e1 e2
  have b1 := tot_bd (l.take k)
  have b2 := tot_bd (l.drop k)
  have b3 := wei_bd l h
  have b4 := wei_bd (l.drop k) (by rw [List.length_drop]; omega)
  have b5 := wei_bd (l.take k) (by rw [List.length_take]; omega)
  have b6 := tot_bd l
  have b7 : 0 ≤ ((l.drop k).length : Int) * tot (l.take k) := Int.mul_nonneg (by omega) (by omega)
  omega
theorem mul_few (x m : Int) (h0 : 0 ≤ x) (h1 : x < 256) (h2 : 0 ≤ m) (h3 : m ≤ 12) : 0 ≤ x * m ∧ x * m ≤ 3060 :=
  ⟨Int.mul_nonneg h0 h2, Int.le_trans (Int.mul_le_mul (by omega : x ≤ 255) h3 h2 (by omega)) (by omega)⟩
end Go.Proofs.YtmiacgkidldjmaaGreatDoor.Plain
