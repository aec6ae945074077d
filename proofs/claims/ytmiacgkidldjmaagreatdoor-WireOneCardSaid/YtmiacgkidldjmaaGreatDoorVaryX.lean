/- Chapter 2: the next text, padding: what the code computes. Conditions: what each lemma says. -/
import Derived.Test.YtmiacgkidldjmaaGreatDoorVaryW
import Derived.Test.YtmiacgkidldjmaaGreatDoorShelfW
import Derived.Deep.RegionHeld3
set_option linter.unusedVariables false
set_option linter.unusedSimpArgs false
namespace Go.Proofs.YtmiacgkidldjmaaGreatDoor
open Go.RowKit Go.Lib
theorem goN_len : ∀ (f acc : Nat) (l : List UInt8), (Plain.goN f acc l).2.1.length ≤ l.length := by
  intro f
  induction f with
  | zero => intro acc l; simp [Plain.goN]
  | succ f ih =>
    intro acc l
    cases l with
    | nil => simp [Plain.goN]
    | cons b t =>
      unfold Plain.goN
      split
      · simp
      · split
        · simp
        · split
          · simp
          · exact Nat.le_trans (ih _ _) (by simp)
theorem next_len (r : Plain.Rd) : r.next.2.rest.length ≤ r.rest.length := by
  unfold Plain.Rd.next
  split
  · exact goN_len _ _ _
  · simp
theorem bytes_len (r : Plain.Rd) (m : Int) : (r.bytes m).2.rest.length ≤ r.rest.length := by
  unfold Plain.Rd.bytes
  split
  · simp
  · unfold Plain.Rd.fail; split <;> simp
theorem fail_len (r : Plain.Rd) (e : Int) : (r.fail e).rest.length ≤ r.rest.length := by unfold Plain.Rd.fail; split <;> simp
/-- a box of two cells: what a store of a whole struct leaves -/
def set2 (w : World) (g : Nat) (a b : Value) : World := (w.setCell ⟨g, 0, none⟩ a).setCell ⟨g, 1, none⟩ b
theorem set2_size (w : World) (g : Nat) (a b : Value) : (set2 w g a b).heap.size = w.heap.size := by unfold set2; simp
theorem set2_same {w : World} {g : Nat} {x y : Value} {t : TypeId} (h : w.heap[g]? = some (.cells #[x, y] t (0, 0))) (a b : Value) : (set2 w g a b).heap[g]? = some (.cells #[a, b] t (0, 0)) := blk_set2 h a b
theorem set2_other {w : World} {g k : Nat} (h : k ≠ g) (a b : Value) : (set2 w g a b).heap[k]? = w.heap[k]? := by
  unfold set2
  rw [Below.heap_setCell _ _ _ _ h, Below.heap_setCell _ _ _ _ h]
theorem set2_below {w w1 : World} {g : Nat} (hB : Below w.heap.size w w1) (hg : w.heap.size ≤ g) (a b : Value) : Below w.heap.size w (set2 w1 g a b) := (hB.setCell (p := ⟨g, 0, none⟩) hg a).setCell (p := ⟨g, 1, none⟩) hg b
theorem set2_then {w w1 w2 : World} {g : Nat} {x y : Value} {t : TypeId} {a b : Value} (hB : Below w.heap.size w w1) (hg : w.heap.size ≤ g) (hH : w1.heap[g]? = some (.cells #[x, y] t (0, 0)))
    (hb : Below ((w1.setCell ⟨g, 0, none⟩ a).setCell ⟨g, 1, none⟩ b).heap.size ((w1.setCell ⟨g, 0, none⟩ a).setCell ⟨g, 1, none⟩ b) w2) :
    Below w.heap.size w w2 ∧ w2.heap[g]? = some (.cells #[a, b] t (0, 0)) ∧ ∀ k c, k ≠ g → w1.heap[k]? = some c → w2.heap[k]? = some c :=
  ⟨below_then (set2_below hB hg a b) hb, blk_later (set2_same hH a b) hb, fun k c hk h => blk_later ((set2_other hk a b).trans h) hb⟩
theorem two_new {w w1 : World} {c0 c1 : Obj} (hb : Below ((w.alloc c0).alloc c1).heap.size ((w.alloc c0).alloc c1) w1) (d0 d1 : Obj) (h0 : c0 = d0 := by rfl) (h1 : c1 = d1 := by rfl) :
    Below w.heap.size w w1 ∧ w1.heap[w.heap.size]? = some d0 ∧ w1.heap[w.heap.size + 1]? = some d1 := by
  subst h0 h1
  refine ⟨(((Below.refl _ _).alloc (Nat.le_refl _) _).alloc (by simp) _).trans (hb.mono (by simp; omega)), ?_, ?_⟩
  · rw [hb.block _ (by simp; omega), Below.heap_alloc _ _ _ (by simp)]; exact heap_alloc_new2 _ _ _ _ rfl
  · rw [hb.block _ (by simp)]; exact heap_alloc_new2 _ _ _ _ (by simp)
def textV (r : Plain.Rd) (most : Nat) : Value := .tuple #[.string (str (r.text most).1), rdOf (r.text most).2]
set_option maxRecDepth 100000 in
set_option maxHeartbeats 1000000 in
theorem text_any (r : Plain.Rd) (most : Nat) (w : World) (hr : r.rest.length ≤ 1152921504606846976) (hm : most < 18446744073709551616) : Calls Tryz.prog 37 #[rdOf r, .int .u64 most] w fun e w' => e = .returned (textV r most) ∧ Below w.heap.size w w' := by
  have hl2 := next_len r
  have cN := fun w => next_any r w hr
  obtain ⟨n, r1, hn⟩ : ∃ n r1, r.next = (n, r1) := ⟨_, _, rfl⟩
  have hv : textV r most = if most < n then .tuple #[.string ⟨#[]⟩, rdOf (r1.fail 3)] else if r1.rest.length < n then .tuple #[.string ⟨#[]⟩, rdOf (r1.fail 4)] else bytesV r1 (n : Nat) := by
    unfold textV Plain.Rd.text bytesV
    rw [hn]
    dsimp only
    split
    · rfl
    · split
      · rfl
      · rfl
  unfold nextV at cN
  rw [hn] at cN hl2
  dsimp only at cN hl2
  have cF := fun e w => failR_any r1 e w
  have cB := fun (w : World) => bytes_any r1 (n : Nat) w (by omega)
  rw [hv]
  unfold rdOf rdV at cN cF
  unfold rdOf rdV
  obtain ⟨l, e⟩ := r
  obtain ⟨l1, e1⟩ := r1
  dsimp only at cN cF hl2 hr ⊢
  have hsz1 := str_size l1
  obtain ⟨s, hs⟩ : ∃ s, str l = s := ⟨_, rfl⟩
  obtain ⟨s1, hs1⟩ : ∃ s1, str l1 = s1 := ⟨_, rfl⟩
  unfold rdOf rdV at cB
  dsimp only at cB
  rw [hs] at cN ⊢
  rw [hs1] at cN cF cB hsz1
  have CN := Lib.hid cN
  have CF := Lib.hid cF
  have hsb : s1.size ≤ 1152921504606846976 := by omega
  have hll := hsz1
  rw [show l1.length = s1.size from hll.symm]
  by_cases h1 : most < n
  · rw [if_pos h1]
    clear cN cF cB hv hn hs hs1 hl2 hr
    obtain ⟨sf, ef, hf⟩ : ∃ sf ef, Plain.Rd.fail ⟨l1, e1⟩ 3 = ⟨sf, ef⟩ := ⟨_, _, rfl⟩
    have CF3 := fun w => CF.out 3 w
    rw [hf] at CF3 ⊢
    have CF2 := Lib.hid CF3
    clear CF3 CF hf
    dsimp only at CF2 ⊢
    obtain ⟨s2, hs2⟩ : ∃ s2, str sf = s2 := ⟨_, rfl⟩
    rw [hs2] at CF2 ⊢
    clear hs2 hsz1 hll
    have d1 : decide ((most : Int) < (n : Int)) = true := by simp; omega
    have d2 : decide (most < n) = true := by simp [h1]
    go_enter Tryz.func37, Tryz.ntmps37
    go_wp2_with fail
    refine (CN.out _).mono ?_
    rintro en w1 ⟨rfl, hb⟩
    obtain ⟨hB, hH0, hH1⟩ := two_new hb (.cells #[.string s, .int .i64 e] 87 (0, 0)) (.cells #[.string ⟨#[]⟩, .int .i64 0] 87 (0, 0))
    have HB := Lib.hid hB
    have HH0 := Lib.hid hH0
    have HH1 := Lib.hid hH1
    obtain ⟨m0, m1, f0, f1⟩ := box2 hH0
    clear hb hB hH0 hH1
    go_wp2_with fail
    refine (CF2.out _).mono ?_
    rintro en w2 ⟨rfl, hb⟩
    obtain ⟨hB, hH0, hO⟩ := set2_then HB.out (Nat.le_refl _) HH0.out hb
    have hH1 := hO _ _ (by omega) HH1.out
    have HB2 := Lib.hid hB
    have HG1 := Lib.hid hH1
    obtain ⟨n0, n1, g0, g1⟩ := box2 hH1
    clear hb hB hH0 hH1 hO m0 m1 f0 f1
    go_wp2
    obtain ⟨k0, k1⟩ := blk2 (blk_set2 HG1.out (.string s2) (.int .i64 ef))
    exact bodyPost_ret (v := .tuple #[.string ⟨#[]⟩, .agg #[.string s2, .int .i64 ef]]) (by simp [results, Tryz.results37, go_sem, k0, k1]) rfl ⟨rfl, (HB2.out.setCell (Nat.le_succ _) _).setCell (Nat.le_succ _) _⟩
  · rw [if_neg h1]
    have d1 : decide ((most : Int) < (n : Int)) = false := by simp; omega
    have d2 : decide (most < n) = false := by simp; omega
    have hnb : n < 18446744073709551616 := by omega
    by_cases h2 : s1.size < n
    · rw [if_pos h2]
      clear cN cF cB hv hn hs hs1 hl2 hr
      obtain ⟨sf, ef, hf⟩ : ∃ sf ef, Plain.Rd.fail ⟨l1, e1⟩ 4 = ⟨sf, ef⟩ := ⟨_, _, rfl⟩
      have CF3 := fun w => CF.out 4 w
      rw [hf] at CF3 ⊢
      have CF2 := Lib.hid CF3
      clear CF3 CF hf
      dsimp only at CF2 ⊢
      obtain ⟨s2, hs2⟩ : ∃ s2, str sf = s2 := ⟨_, rfl⟩
      rw [hs2] at CF2 ⊢
      clear hs2 hsz1 hll
      have hw : (s1.size : Int) % 18446744073709551616 = (s1.size : Int) := by omega
      have d3 : decide ((s1.size : Int) < (n : Int)) = true := by simp; omega
      have d4 : decide (s1.size < n) = true := by simp [h2]
      go_enter Tryz.func37, Tryz.ntmps37
      go_wp2_with fail
      refine (CN.out _).mono ?_
      rintro en w1 ⟨rfl, hb⟩
      obtain ⟨hB, hH0, hH1⟩ := two_new hb (.cells #[.string s, .int .i64 e] 87 (0, 0)) (.cells #[.string ⟨#[]⟩, .int .i64 0] 87 (0, 0))
      have HB := Lib.hid hB
      have HH0 := Lib.hid hH0
      have HH1 := Lib.hid hH1
      obtain ⟨m0, m1, f0, f1⟩ := box2 hH0
      clear hb hB hH0 hH1
      go_wp2_with fail
      refine (CF2.out _).mono ?_
      rintro en w2 ⟨rfl, hb⟩
      obtain ⟨hB, hH0, hO⟩ := set2_then HB.out (Nat.le_refl _) HH0.out hb
      have hH1 := hO _ _ (by omega) HH1.out
      have HB2 := Lib.hid hB
      have HG1 := Lib.hid hH1
      obtain ⟨n0, n1, g0, g1⟩ := box2 hH1
      clear hb hB hH0 hH1 hO m0 m1 f0 f1
      go_wp2
      obtain ⟨k0, k1⟩ := blk2 (blk_set2 HG1.out (.string s2) (.int .i64 ef))
      exact bodyPost_ret (v := .tuple #[.string ⟨#[]⟩, .agg #[.string s2, .int .i64 ef]]) (by simp [results, Tryz.results37, go_sem, k0, k1]) rfl ⟨rfl, (HB2.out.setCell (Nat.le_succ _) _).setCell (Nat.le_succ _) _⟩
    · rw [if_neg h2]
      obtain ⟨bs, be, hbv⟩ : ∃ bs be, Plain.Rd.bytes ⟨l1, e1⟩ (n : Int) = (bs, be) := ⟨_, _, rfl⟩
      unfold bytesV at cB ⊢
      rw [hbv] at cB ⊢
      dsimp only at cB ⊢
      unfold rdOf rdV at cB ⊢
      obtain ⟨s2, hs2⟩ : ∃ s2, str bs = s2 := ⟨_, rfl⟩
      obtain ⟨s3, hs3⟩ : ∃ s3, str be.rest = s3 := ⟨_, rfl⟩
      obtain ⟨e3, he3⟩ : ∃ e3, be.e = e3 := ⟨_, rfl⟩
      rw [hs2, hs3, he3] at cB ⊢
      have CB := Lib.hid cB
      clear cN cF cB hv hn hs hs1 hl2 hr hbv hs2 hs3 he3 hsz1 hll CF
      have hw : (s1.size : Int) % 18446744073709551616 = (s1.size : Int) := by omega
      have d3 : decide ((s1.size : Int) < (n : Int)) = false := by simp; omega
      have d4 : decide (s1.size < n) = false := by simp; omega
      go_enter Tryz.func37, Tryz.ntmps37
      go_wp2_with fail
      refine (CN.out _).mono ?_
      rintro en w1 ⟨rfl, hb⟩
      obtain ⟨hB, hH0, hH1⟩ := two_new hb (.cells #[.string s, .int .i64 e] 87 (0, 0)) (.cells #[.string ⟨#[]⟩, .int .i64 0] 87 (0, 0))
      have HB := Lib.hid hB
      have HH0 := Lib.hid hH0
      have HH1 := Lib.hid hH1
      obtain ⟨m0, m1, f0, f1⟩ := box2 hH0
      clear hb hB hH0 hH1
      go_wp2_with fail
      refine (CB.out _).mono ?_
      rintro en w2 ⟨rfl, hb⟩
      obtain ⟨hB, hH0, hO⟩ := set2_then HB.out (Nat.le_refl _) HH0.out hb
      have hH1 := hO _ _ (by omega) HH1.out
      have HB2 := Lib.hid hB
      have HG1 := Lib.hid hH1
      obtain ⟨n0, n1, g0, g1⟩ := box2 hH1
      clear hb hB hH0 hH1 hO m0 m1 f0 f1
      go_wp2
      obtain ⟨k0, k1⟩ := blk2 (blk_set2 HG1.out (.string s3) (.int .i64 e3))
      exact bodyPost_ret (v := .tuple #[.string s2, .agg #[.string s3, .int .i64 e3]]) (by simp [results, Tryz.results37, go_sem, k0, k1]) rfl ⟨rfl, (HB2.out.setCell (Nat.le_succ _) _).setCell (Nat.le_succ _) _⟩
end Go.Proofs.YtmiacgkidldjmaaGreatDoor
namespace Go.Proofs.YtmiacgkidldjmaaGreatDoor
open Go.RowKit Go.Lib
theorem dropWhile_head {p : UInt8 → Bool} : ∀ {l : List UInt8} {a : UInt8} {t : List UInt8}, l.dropWhile p = a :: t → p a = false := by
  intro l
  induction l with
  | nil => intro a t h; simp at h
  | cons b l ih =>
    intro a t h
    rw [List.dropWhile_cons] at h
    by_cases hb : p b = true
    · rw [if_pos hb] at h; exact ih h
    · rw [if_neg hb] at h
      injection h with h1 h2
      subst h1; simpa using hb
theorem dropWhile_all {p : UInt8 → Bool} : ∀ {l : List UInt8}, (∀ x ∈ l, p x = true) → l.dropWhile p = [] := by
  intro l
  induction l with
  | nil => intro _; rfl
  | cons b l ih => intro h; rw [List.dropWhile_cons, if_pos (h b (by simp))]; exact ih fun x hx => h x (by simp [hx])
theorem dropWhile_nil {p : UInt8 → Bool} : ∀ {l : List UInt8}, l.dropWhile p = [] → ∀ x ∈ l, p x = true := by
  intro l
  induction l with
  | nil => intro _ x hx; simp at hx
  | cons b l ih =>
    intro h x hx
    rw [List.dropWhile_cons] at h
    by_cases hb : p b = true
    · rw [if_pos hb] at h
      rcases List.mem_cons.1 hx with e | e
      · rw [e]; exact hb
      · exact ih h x e
    · rw [if_neg hb] at h; simp at h
theorem trimB_nil (l : List UInt8) : Lib.trimB l 0 = [] ↔ l.all (· == 0) = true := by
  rw [List.all_eq_true]
  constructor
  · intro h
    have h1 := dropWhile_nil h
    have h2 : (l.reverse.dropWhile (· == 0)) = [] := by
      cases hd : l.reverse.dropWhile (· == (0 : UInt8)) with
      | nil => rfl
      | cons a t =>
        have h3 := dropWhile_head hd
        have h4 := h1 a (by unfold Lib.trimRightB; rw [hd]; simp)
        rw [h3] at h4; cases h4
    intro x hx
    exact dropWhile_nil h2 x (by simpa using hx)
  · intro h
    have h2 : (l.reverse.dropWhile (· == 0)) = [] := dropWhile_all fun x hx => h x (by simpa using hx)
    unfold Lib.trimB Lib.trimRightB
    rw [h2]; rfl
def padV (r : Plain.Rd) (many : Int) : Value := rdOf (r.pad many)
set_option maxRecDepth 100000 in
set_option maxHeartbeats 1000000 in
theorem pad_any (r : Plain.Rd) (many : Int) (w : World) (hr : r.rest.length ≤ 1152921504606846976) : Calls Tryz.prog 112 #[rdOf r, .int .i64 many] w fun e w' => e = .returned (rdOf (r.pad many)) ∧ Below w.heap.size w w' := by
  have cB := fun (w : World) => bytes_any r many w hr
  obtain ⟨bs, r1, hbv⟩ : ∃ bs r1, r.bytes many = (bs, r1) := ⟨_, _, rfl⟩
  have hbl : bs.length ≤ r.rest.length := by
    have : (r.bytes many).1.length ≤ r.rest.length := by unfold Plain.Rd.bytes; split <;> simp; omega
    rw [hbv] at this; exact this
  have hv : rdOf (r.pad many) = if bs.all (· == 0) then rdOf r1 else rdOf (r1.fail 9) := by
    unfold Plain.Rd.pad
    rw [hbv]
    dsimp only
    split <;> rfl
  rw [hv]
  unfold bytesV at cB
  rw [hbv] at cB
  dsimp only at cB
  have cT := fun (w : World) => Tryz.strings_Trim_one (str bs) 0 (by decide) w (by rw [str_size]; omega)
  have cF := fun w => failR_any r1 9 w
  rw [str_list] at cT
  obtain ⟨t, ht⟩ : ∃ t : ByteArray, (⟨(Lib.trimB bs 0).toArray⟩ : ByteArray) = t := ⟨_, rfl⟩
  rw [ht] at cT
  have htn : t.toList = [] ↔ bs.all (· == 0) = true := by
    rw [← trimB_nil, ← ht]; simp [ByteArray.toList_eq] 
  obtain ⟨l, e⟩ := r
  obtain ⟨l1, e1⟩ := r1
  unfold rdOf rdV at cB cF ⊢
  dsimp only at cB cF hbl ⊢
  obtain ⟨s, hs⟩ : ∃ s, str l = s := ⟨_, rfl⟩
  obtain ⟨s1, hs1⟩ : ∃ s1, str l1 = s1 := ⟨_, rfl⟩
  obtain ⟨sb, hsb⟩ : ∃ sb, str bs = sb := ⟨_, rfl⟩
  rw [hs, hs1, hsb] at cB
  rw [hs1] at cF
  rw [hsb] at cT
  rw [hs, hs1]
  have CB := Lib.hid cB
  have CT := Lib.hid cT
  clear hs hsb hbl hbv hv ht
  obtain ⟨sf, hf⟩ : ∃ sf, str (Plain.Rd.fail ⟨l1, e1⟩ 9).rest = sf := ⟨_, rfl⟩
  obtain ⟨ef, hf2⟩ : ∃ ef, (Plain.Rd.fail ⟨l1, e1⟩ 9).e = ef := ⟨_, rfl⟩
  rw [hf, hf2] at cF ⊢
  have CF := Lib.hid cF
  clear cF cB cT hf hf2 hr hs1
  by_cases hz : bs.all (· == 0) = true
  · rw [if_pos hz]
    have t0 : t.toList = [] := htn.2 hz
    have t1 : (t.toList == []) = true := by rw [t0]; rfl
    have t2 : t.toList.isEmpty = true := by rw [t0]; rfl
    clear htn hz
    go_enter Tryz.func112, Tryz.ntmps112
    go_wp2_with fail
    refine (CB.out _).mono ?_
    rintro en w1 ⟨rfl, hb⟩
    obtain ⟨hB, hH0, hH1⟩ := two_new hb (.cells #[.string s, .int .i64 e] 87 (0, 0)) (.cells #[.string ⟨#[]⟩, .int .i64 0] 87 (0, 0))
    have HB := Lib.hid hB
    have HH0 := Lib.hid hH0
    have HH1 := Lib.hid hH1
    obtain ⟨m0, m1, f0, f1⟩ := box2 hH0
    obtain ⟨n0, n1, g0, g1⟩ := box2 hH1
    clear hb hB hH0 hH1
    go_wp2_with fail
    refine (CT.out _).mono ?_
    rintro en w2 ⟨rfl, hw⟩
    have hS : (set2 (set2 w1 w.heap.size (.string s1) (.int .i64 e1)) (w.heap.size + 1) (.string s1) (.int .i64 e1)).heap[w.heap.size + 1]? = some (.cells #[.string s1, .int .i64 e1] 87 (0, 0)) := set2_same ((set2_other (by omega) _ _).trans HH1.out) _ _
    have HB2 := set2_below (set2_below HB.out (Nat.le_refl _) (.string s1) (.int .i64 e1)) (Nat.le_succ _) (.string s1) (.int .i64 e1)
    have HS := Lib.hid hS
    have HB3 := Lib.hid HB2
    clear hS HB2
    rcases hw with rfl | rfl
    · go_wp2
      obtain ⟨k0, k1⟩ := blk2 HS.out
      unfold set2 at k0 k1
      exact bodyPost_ret (v := .agg #[.string s1, .int .i64 e1]) (by simp [results, Tryz.results112, go_sem, k0, k1]) rfl ⟨rfl, HB3.out⟩
    · go_wp2
      obtain ⟨k0, k1⟩ := blk2 HS.out
      unfold set2 at k0 k1
      exact bodyPost_ret (v := .agg #[.string s1, .int .i64 e1]) (by simp [results, Tryz.results112, go_sem, k0, k1]) rfl ⟨rfl, HB3.out.drew⟩
  · rw [if_neg hz]
    have t0 : ¬ t.toList = [] := fun h => hz (htn.1 h)
    have t1 : (t.toList == []) = false := by simp [t0]
    have t2 : t.toList.isEmpty = false := by simp [t0]
    clear htn hz
    go_enter Tryz.func112, Tryz.ntmps112
    go_wp2_with fail
    refine (CB.out _).mono ?_
    rintro en w1 ⟨rfl, hb⟩
    obtain ⟨hB, hH0, hH1⟩ := two_new hb (.cells #[.string s, .int .i64 e] 87 (0, 0)) (.cells #[.string ⟨#[]⟩, .int .i64 0] 87 (0, 0))
    have HB := Lib.hid hB
    have HH0 := Lib.hid hH0
    have HH1 := Lib.hid hH1
    obtain ⟨m0, m1, f0, f1⟩ := box2 hH0
    obtain ⟨n0, n1, g0, g1⟩ := box2 hH1
    clear hb hB hH0 hH1
    go_wp2_with fail
    refine (CT.out _).mono ?_
    rintro en w2 ⟨rfl, hw⟩
    rcases hw with rfl | rfl
    · go_wp2_with fail
      refine (CF.out _).mono ?_
      rintro en w3 ⟨rfl, hb⟩
      obtain ⟨hB, hH0, hO⟩ := set2_then HB.out (Nat.le_refl _) HH0.out hb
      have hH1 := hO _ _ (by omega) HH1.out
      have HB2 := Lib.hid hB
      have HG1 := Lib.hid hH1
      obtain ⟨p0, p1, q0, q1⟩ := box2 hH1
      clear hb hB hH0 hH1 hO m0 m1 f0 f1 n0 n1 g0 g1
      go_wp2
      obtain ⟨k0, k1⟩ := blk2 (blk_set2 HG1.out (.string sf) (.int .i64 ef))
      exact bodyPost_ret (v := .agg #[.string sf, .int .i64 ef]) (by simp [results, Tryz.results112, go_sem, k0, k1]) rfl ⟨rfl, (HB2.out.setCell (Nat.le_succ _) _).setCell (Nat.le_succ _) _⟩
    · go_wp2_with fail
      refine (CF.out _).mono ?_
      rintro en w3 ⟨rfl, hb⟩
      obtain ⟨hB, hH0, hO⟩ := set2_then HB.out (Nat.le_refl _) HH0.out ((Below.refl _ _).drew.trans hb)
      have hH1 := hO _ _ (by omega) HH1.out
      have HB2 := Lib.hid hB
      have HG1 := Lib.hid hH1
      obtain ⟨p0, p1, q0, q1⟩ := box2 hH1
      clear hb hB hH0 hH1 hO m0 m1 f0 f1 n0 n1 g0 g1
      go_wp2
      obtain ⟨k0, k1⟩ := blk2 (blk_set2 HG1.out (.string sf) (.int .i64 ef))
      exact bodyPost_ret (v := .agg #[.string sf, .int .i64 ef]) (by simp [results, Tryz.results112, go_sem, k0, k1]) rfl ⟨rfl, (HB2.out.setCell (Nat.le_succ _) _).setCell (Nat.le_succ _) _⟩
end Go.Proofs.YtmiacgkidldjmaaGreatDoor
namespace Go.Proofs.YtmiacgkidldjmaaGreatDoor
open Go.RowKit Go.Lib
theorem wf_u64 {n : Int} (h : (Lit.int .u64 n).wf = true) : ∃ k : Nat, n = k ∧ k < 18446744073709551616 := by
  simp [Lit.wf, IntKind.min, IntKind.max, IntKind.bits, IntKind.signed] at h
  exact ⟨n.toNat, by omega, by omega⟩
theorem wf_u16 {n : Int} (h : (Lit.int .u16 n).wf = true) : ∃ k : Nat, n = k ∧ k < 65536 := by
  simp [Lit.wf, IntKind.min, IntKind.max, IntKind.bits, IntKind.signed] at h
  exact ⟨n.toNat, by omega, by omega⟩
theorem wf_u8 {n : Int} (h : (Lit.int .u8 n).wf = true) : ∃ k : Nat, n = k ∧ k < 256 := by
  simp [Lit.wf, IntKind.min, IntKind.max, IntKind.bits, IntKind.signed] at h
  exact ⟨n.toNat, by omega, by omega⟩
theorem wf_i64 {n : Int} (h : (Lit.int .i64 n).wf = true) : -9223372036854775808 ≤ n ∧ n ≤ 9223372036854775807 := by
  simp [Lit.wf, IntKind.min, IntKind.max, IntKind.bits, IntKind.signed] at h
  exact ⟨by omega, by omega⟩
theorem next_at {r : Plain.Rd} {n : Nat} {q : Plain.Rd} (h : r.next = (n, q)) (hr : r.rest.length ≤ 1152921504606846976) : ∀ w, Calls Tryz.prog 75 #[.agg #[.string (str r.rest), .int .i64 r.e]] w fun e w' => e = .returned (.tuple #[.int .u64 n, .agg #[.string (str q.rest), .int .i64 q.e]]) ∧ Below w.heap.size w w' := by
  intro w
  have := next_any r w hr
  unfold nextV at this
  rw [h] at this
  exact this
theorem text_at {r : Plain.Rd} {most : Nat} {s : List UInt8} {q : Plain.Rd} (h : r.text most = (s, q)) (hr : r.rest.length ≤ 1152921504606846976) (hm : most < 18446744073709551616) : ∀ w, Calls Tryz.prog 37 #[.agg #[.string (str r.rest), .int .i64 r.e], .int .u64 most] w fun e w' => e = .returned (.tuple #[.string (str s), .agg #[.string (str q.rest), .int .i64 q.e]]) ∧ Below w.heap.size w w' := by
  intro w
  have := text_any r most w hr hm
  unfold textV at this
  rw [h] at this
  exact this
theorem text_len (r : Plain.Rd) (m : Nat) : (r.text m).2.rest.length ≤ r.rest.length := by
  have h := next_len r
  unfold Plain.Rd.text
  split
  · exact Nat.le_trans (fail_len _ _) h
  · split
    · exact Nat.le_trans (fail_len _ _) h
    · exact Nat.le_trans (bytes_len _ _) h
end Go.Proofs.YtmiacgkidldjmaaGreatDoor
