/- Chapter 2: a reader's next number: what the code computes. Conditions: what each lemma says. -/
import Derived.Test.YtkkgdnmloojloaaDoorWalksA
set_option linter.unusedVariables false
set_option linter.unusedSimpArgs false
namespace Go.Proofs.YtkkgdnmloojloaaDoor
open Go.RowKit Go.Lib
def nextV (r : Plain.Rd) : Value := .tuple #[.int .u64 (r.next).1, rdOf (r.next).2]
set_option maxRecDepth 100000 in
set_option maxHeartbeats 1000000 in
theorem next_any (r : Plain.Rd) (w : World) (hr : r.rest.length ≤ 1152921504606846976) : Calls Tryd.prog 20 #[rdOf r] w fun e w' => e = .returned (nextV r) ∧ Below w.heap.size w w' := by
  obtain ⟨l, e⟩ := r
  dsimp only at hr
  by_cases he : e = 0
  · subst he
    have hv : nextV ⟨l, 0⟩ = .tuple #[.int .u64 ((Plain.goN 10 0 l).1 : Nat), rdV (str (Plain.goN 10 0 l).2.1) ((Plain.goN 10 0 l).2.2 : Nat)] := by
      unfold nextV Plain.Rd.next rdOf
      rw [if_pos rfl]
    rw [hv]
    have hsz := str_size l
    have cF : ∀ (v : Int) (w : World), Calls Tryd.prog 49 #[.agg #[.string (str l), .int .i64 0], .int .i64 v] w fun en w' => en = .returned (.agg #[.string ⟨#[]⟩, .int .i64 v]) ∧ Below w.heap.size w w' := by
      intro v w
      have h := fail_any (str l) 0 v w
      rw [if_pos rfl] at h
      exact h
    have CF3 := Lib.hid cF
    clear cF
    unfold rdOf
    dsimp only
    unfold rdV
    obtain ⟨tot, htot⟩ : ∃ t, Plain.goN 10 0 l = t := ⟨_, rfl⟩
    rw [htot]
    obtain ⟨s, hs⟩ : ∃ s, str l = s := ⟨_, rfl⟩
    rw [hs] at hsz CF3 ⊢
    have hgb : ∀ k (h : k < l.length) (h2 : k < s.size), l[k] = s[k] := by
      intro k h h2; subst hs; rfl
    have HGB := Lib.hid hgb
    clear hgb
    have HT := Lib.hid htot
    have HS := Lib.hid hs
    clear hs htot hv
    go_enter Tryd.func20, Tryd.ntmps20
    go_wp2_with fail
    go_loopw [4, 7] (fun a b wr => ∃ (acc k : Nat), a = .int .u64 acc ∧ b = .int .i64 k ∧ k ≤ 10 ∧ k ≤ l.length ∧ acc < 2 ^ (7 * k) ∧ tot = Plain.goN (10 - k) acc (l.drop k) ∧ wr = (w.alloc (.cells #[.string s, .int .i64 0] 24)).alloc (.cells #[.string ⟨#[]⟩, .int .i64 0] 24)) (fun _ b _ => (10 - RowKit.intOf b).toNat)
    case atStart => exact ⟨0, 0, rfl, rfl, by decide, Nat.zero_le _, by decide, HT.out.symm, rfl⟩
    case round =>
      obtain ⟨acc, k, rfl, rfl, hk, hkl, ha, ht, rfl⟩ := hrel
      by_cases hk10 : k = 10
      · subst hk10
        go_wp2_with fail
        have hz : tot = (0, [], 3) := by
          rw [ht]; rfl
        clear ht
        subst hz
        refine (CF3.out 3 _).mono ?_
        rintro en w1 ⟨rfl, hb⟩
        have hH : w1.heap[w.heap.size + 1]? = some (.cells #[.string ⟨#[]⟩, .int .i64 0] 24 (0, 0)) := by
          rw [hb.block _ (by simp)]; exact heap_alloc_new2 _ _ _ _ (by simp)
        have hB2 : Below w.heap.size w w1 := (((Below.refl _ _).alloc (Nat.le_refl _) _).alloc (by simp) _).trans (hb.mono (by simp; omega))
        have HB := Lib.hid hB2
        clear hb hB2
        obtain ⟨m0, m1⟩ := blk2 hH
        have f0 : w1.frozen? ⟨w.heap.size + 1, 0, none⟩ = false := by simp [World.frozen?, hH]
        have f1 : w1.frozen? ⟨w.heap.size + 1, 1, none⟩ = false := by simp [World.frozen?, hH]
        have HH := Lib.hid hH
        clear hH
        go_wp2
        obtain ⟨n0, n1⟩ := blk2 (blk_set2 HH.out (.string ⟨#[]⟩) (.int .i64 3))
        exact bodyPost_ret (v := .tuple #[.int .u64 0, .agg #[.string ⟨#[]⟩, .int .i64 3]]) (by simp [results, Tryd.results20, go_sem, n0, n1]) rfl ⟨rfl, (HB.out.setCell (Nat.le_succ _) _).setCell (Nat.le_succ _) _⟩
      · have hklt : (k : Int) < 10 := by omega
        have hsb : s.size ≤ 1152921504606846976 := by omega
        have hw2 : ((k : Int) == (s.size : Int)) = decide (k = l.length) := by
          by_cases h : k = l.length
          · simp [h, hsz]
          · simp [h, hsz]; omega
        by_cases hkL : k = l.length
        · have hdrop : l.drop k = [] := List.drop_eq_nil_of_le (by omega)
          obtain ⟨f, hf⟩ : ∃ f, 10 - k = f + 1 := ⟨9 - k, by omega⟩
          rw [hdrop, hf] at ht
          clear hdrop hf
          go_wp2_with fail
          have hz : tot = (0, [], 4) := by
            rw [ht]; rfl
          clear ht
          subst hz
          refine (CF3.out 4 _).mono ?_
          rintro en w1 ⟨rfl, hb⟩
          have hH : w1.heap[w.heap.size + 1]? = some (.cells #[.string ⟨#[]⟩, .int .i64 0] 24 (0, 0)) := by
            rw [hb.block _ (by simp)]; exact heap_alloc_new2 _ _ _ _ (by simp)
          have hB2 : Below w.heap.size w w1 := (((Below.refl _ _).alloc (Nat.le_refl _) _).alloc (by simp) _).trans (hb.mono (by simp; omega))
          have HB := Lib.hid hB2
          clear hb hB2
          obtain ⟨m0, m1⟩ := blk2 hH
          have f0 : w1.frozen? ⟨w.heap.size + 1, 0, none⟩ = false := by simp [World.frozen?, hH]
          have f1 : w1.frozen? ⟨w.heap.size + 1, 1, none⟩ = false := by simp [World.frozen?, hH]
          have HH := Lib.hid hH
          clear hH
          go_wp2
          obtain ⟨n0, n1⟩ := blk2 (blk_set2 HH.out (.string ⟨#[]⟩) (.int .i64 4))
          exact bodyPost_ret (v := .tuple #[.int .u64 0, .agg #[.string ⟨#[]⟩, .int .i64 4]]) (by simp [results, Tryd.results20, go_sem, n0, n1]) rfl ⟨rfl, (HB.out.setCell (Nat.le_succ _) _).setCell (Nat.le_succ _) _⟩
        · have hlt : k < l.length := by omega
          have hlt2 : k < s.size := by omega
          have hdrop : l.drop k = s[k] :: l.drop (k + 1) := by rw [List.drop_eq_getElem_cons hlt, HGB.out k hlt hlt2]
          obtain ⟨f, hf⟩ : ∃ f, 10 - k = f + 1 := ⟨9 - k, by omega⟩
          have hfk : f = 9 - k := by omega
          rw [hdrop, hf] at ht
          clear hdrop hf
          unfold Plain.goN at ht
          subst hfk
          have HT2 := Lib.hid ht
          have hi0 : (0 : Int) ≤ (k : Int) + 1 := by omega
          have hi1 : (k : Int) + 1 ≤ (s.size : Int) := by omega
          have hwk : IntKind.i64.wrap ((k : Int) + 1) = (k : Int) + 1 := by rw [IntKind.wrap_i64]; omega
          have d1 : decide ((s.size : Int) < (k : Int) + 1) = false := by simp; omega
          have d2 : decide (s.size < k + 1) = false := by simp; omega
          have hw3 : ((k : Int) == (s.size : Int)) = false := by rw [hw2]; simp [hkL]
          have hlL := hlt
          clear hsz hw2
          by_cases hk9 : k = 9
          · have e9 : ((k : Int) == 9) = true := by simp [hk9]
            have HK9 := Lib.hid hk9
            clear hk9
            go_wp2_with fail
            · have hz : tot = (0, [], 3) := by
                have := HT2.out; rw [if_pos (by have := HK9.out; omega)] at this; exact this
              clear ht
              subst hz
              refine (CF3.out 3 _).mono ?_
              rintro en w1 ⟨rfl, hb⟩
              have hH : w1.heap[w.heap.size + 1]? = some (.cells #[.string ⟨#[]⟩, .int .i64 0] 24 (0, 0)) := by
                rw [hb.block _ (by simp)]; exact heap_alloc_new2 _ _ _ _ (by simp)
              have hB2 : Below w.heap.size w w1 := (((Below.refl _ _).alloc (Nat.le_refl _) _).alloc (by simp) _).trans (hb.mono (by simp; omega))
              have HB := Lib.hid hB2
              clear hb hB2
              obtain ⟨m0, m1⟩ := blk2 hH
              have f0 : w1.frozen? ⟨w.heap.size + 1, 0, none⟩ = false := by simp [World.frozen?, hH]
              have f1 : w1.frozen? ⟨w.heap.size + 1, 1, none⟩ = false := by simp [World.frozen?, hH]
              have HH := Lib.hid hH
              clear hH
              go_wp2
              obtain ⟨n0, n1⟩ := blk2 (blk_set2 HH.out (.string ⟨#[]⟩) (.int .i64 3))
              exact bodyPost_ret (v := .tuple #[.int .u64 0, .agg #[.string ⟨#[]⟩, .int .i64 3]]) (by simp [results, Tryd.results20, go_sem, n0, n1]) rfl ⟨rfl, (HB.out.setCell (Nat.le_succ _) _).setCell (Nat.le_succ _) _⟩
            · have hz : tot = (0, [], 5) := by
                have := HT2.out; rw [if_neg (by have := HK9.out; omega), if_pos (by have := HK9.out; omega)] at this; exact this
              clear ht
              subst hz
              refine (CF3.out 5 _).mono ?_
              rintro en w1 ⟨rfl, hb⟩
              have hH : w1.heap[w.heap.size + 1]? = some (.cells #[.string ⟨#[]⟩, .int .i64 0] 24 (0, 0)) := by
                rw [hb.block _ (by simp)]; exact heap_alloc_new2 _ _ _ _ (by simp)
              have hB2 : Below w.heap.size w w1 := (((Below.refl _ _).alloc (Nat.le_refl _) _).alloc (by simp) _).trans (hb.mono (by simp; omega))
              have HB := Lib.hid hB2
              clear hb hB2
              obtain ⟨m0, m1⟩ := blk2 hH
              have f0 : w1.frozen? ⟨w.heap.size + 1, 0, none⟩ = false := by simp [World.frozen?, hH]
              have f1 : w1.frozen? ⟨w.heap.size + 1, 1, none⟩ = false := by simp [World.frozen?, hH]
              have HH := Lib.hid hH
              clear hH
              go_wp2
              obtain ⟨n0, n1⟩ := blk2 (blk_set2 HH.out (.string ⟨#[]⟩) (.int .i64 5))
              exact bodyPost_ret (v := .tuple #[.int .u64 0, .agg #[.string ⟨#[]⟩, .int .i64 5]]) (by simp [results, Tryd.results20, go_sem, n0, n1]) rfl ⟨rfl, (HB.out.setCell (Nat.le_succ _) _).setCell (Nat.le_succ _) _⟩
            · exact absurd HK9.out (by omega)
            · have hbv : s[k].toNat < 128 := by have := HK9.out; omega
              have hz := HT2.out
              rw [if_neg (by have := HK9.out; omega), if_neg (by have := HK9.out; omega), if_pos hbv] at hz
              go_region_held3 (fun w' => w'.cell? ⟨w.heap.size, 0, none⟩ = some (.string s)) (go_keep) (fail)
              all_goals go_wp2
              all_goals
                have hb8 := s[k].toNat_lt
                have hps := part_small (s[k].toNat) k hbv (by have := HK9.out; omega)
                have hval : bits .or .u64 (acc : Int) (IntKind.u64.wrap (IntKind.u64.wrap (bits .and .u8 (s[k].toNat : Int) 127) * 2 ^ (7 * k))) = ((acc + s[k].toNat * 2 ^ (7 * k) : Nat) : Int) := by
                  rw [and127 _ hb8, Nat.mod_eq_of_lt hbv, wraps_u64 (s[k].toNat : Int) (by have := HK9.out; omega) (by have := HK9.out; omega), next_shl _ k hps, next_join acc _ k (by have := HK9.out; omega) ha hps]
                have hstr : s.extract (k + 1) s.size = str (l.drop (k + 1)) := by rw [← HS.out]; exact str_drop l (k + 1)
                rw [show 9 - (9 - k) = k by have := HK9.out; omega] at hz
                have hb : ((w.alloc (.cells #[.string s, .int .i64 0] 24)).alloc (.cells #[.string (s.extract (k + 1) s.size), .int .i64 0] 24)).drew.heap[w.heap.size + 1]? = some (.cells #[.string (s.extract (k + 1) s.size), .int .i64 0] 24 (0, 0)) := heap_alloc_new2 _ _ _ _ (by simp)
                obtain ⟨m0, m1⟩ := blk2 hb
                rw [hval]
                exact bodyPost_ret (v := .tuple #[.int .u64 ((acc + s[k].toNat * 2 ^ (7 * k) : Nat) : Int), .agg #[.string (s.extract (k + 1) s.size), .int .i64 0]]) (by simp [results, Tryd.results20, go_sem, m0, m1]) rfl ⟨by rw [hz, hstr]; rfl, (((Below.refl _ _).alloc (Nat.le_refl _) _).alloc (by simp) _).drew⟩
          · have e9 : ((k : Int) == 9) = false := by simp; omega
            go_wp2_with fail
            · have hz : tot = (0, [], 5) := by
                have := HT2.out; rw [if_neg (by omega), if_pos (by omega)] at this; exact this
              clear ht
              subst hz
              refine (CF3.out 5 _).mono ?_
              rintro en w1 ⟨rfl, hb⟩
              have hH : w1.heap[w.heap.size + 1]? = some (.cells #[.string ⟨#[]⟩, .int .i64 0] 24 (0, 0)) := by
                rw [hb.block _ (by simp)]; exact heap_alloc_new2 _ _ _ _ (by simp)
              have hB2 : Below w.heap.size w w1 := (((Below.refl _ _).alloc (Nat.le_refl _) _).alloc (by simp) _).trans (hb.mono (by simp; omega))
              have HB := Lib.hid hB2
              clear hb hB2
              obtain ⟨m0, m1⟩ := blk2 hH
              have f0 : w1.frozen? ⟨w.heap.size + 1, 0, none⟩ = false := by simp [World.frozen?, hH]
              have f1 : w1.frozen? ⟨w.heap.size + 1, 1, none⟩ = false := by simp [World.frozen?, hH]
              have HH := Lib.hid hH
              clear hH
              go_wp2
              obtain ⟨n0, n1⟩ := blk2 (blk_set2 HH.out (.string ⟨#[]⟩) (.int .i64 5))
              exact bodyPost_ret (v := .tuple #[.int .u64 0, .agg #[.string ⟨#[]⟩, .int .i64 5]]) (by simp [results, Tryd.results20, go_sem, n0, n1]) rfl ⟨rfl, (HB.out.setCell (Nat.le_succ _) _).setCell (Nat.le_succ _) _⟩
            · have hbv : s[k].toNat < 128 := by omega
              have hz := HT2.out
              rw [if_neg (by omega), if_neg (by omega), if_pos hbv] at hz
              go_region_held3 (fun w' => w'.cell? ⟨w.heap.size, 0, none⟩ = some (.string s)) (go_keep) (fail)
              all_goals go_wp2
              all_goals
                have hb8 := s[k].toNat_lt
                have hps := part_small (s[k].toNat) k hbv (by omega)
                have hval : bits .or .u64 (acc : Int) (IntKind.u64.wrap (IntKind.u64.wrap (bits .and .u8 (s[k].toNat : Int) 127) * 2 ^ (7 * k))) = ((acc + s[k].toNat * 2 ^ (7 * k) : Nat) : Int) := by
                  rw [and127 _ hb8, Nat.mod_eq_of_lt hbv, wraps_u64 (s[k].toNat : Int) (by omega) (by omega), next_shl _ k hps, next_join acc _ k (by omega) ha hps]
                have hstr : s.extract (k + 1) s.size = str (l.drop (k + 1)) := by rw [← HS.out]; exact str_drop l (k + 1)
                rw [show 9 - (9 - k) = k by omega] at hz
                have hb : ((w.alloc (.cells #[.string s, .int .i64 0] 24)).alloc (.cells #[.string (s.extract (k + 1) s.size), .int .i64 0] 24)).drew.heap[w.heap.size + 1]? = some (.cells #[.string (s.extract (k + 1) s.size), .int .i64 0] 24 (0, 0)) := heap_alloc_new2 _ _ _ _ (by simp)
                obtain ⟨m0, m1⟩ := blk2 hb
                have h0 : ((s[k].toNat : Nat) : Int) = 0 := by omega
                rw [h0] at hval
                rw [hval]
                exact bodyPost_ret (v := .tuple #[.int .u64 ((acc + s[k].toNat * 2 ^ (7 * k) : Nat) : Int), .agg #[.string (s.extract (k + 1) s.size), .int .i64 0]]) (by simp [results, Tryd.results20, go_sem, m0, m1]) rfl ⟨by rw [hz, hstr]; rfl, (((Below.refl _ _).alloc (Nat.le_refl _) _).alloc (by simp) _).drew⟩
            · have hbv : s[k].toNat < 128 := by omega
              have hz := HT2.out
              rw [if_neg (by omega), if_neg (by omega), if_pos hbv] at hz
              go_region_held3 (fun w' => w'.cell? ⟨w.heap.size, 0, none⟩ = some (.string s)) (go_keep) (fail)
              all_goals go_wp2
              all_goals
                have hb8 := s[k].toNat_lt
                have hps := part_small (s[k].toNat) k hbv (by omega)
                have hval : bits .or .u64 (acc : Int) (IntKind.u64.wrap (IntKind.u64.wrap (bits .and .u8 (s[k].toNat : Int) 127) * 2 ^ (7 * k))) = ((acc + s[k].toNat * 2 ^ (7 * k) : Nat) : Int) := by
                  rw [and127 _ hb8, Nat.mod_eq_of_lt hbv, wraps_u64 (s[k].toNat : Int) (by omega) (by omega), next_shl _ k hps, next_join acc _ k (by omega) ha hps]
                have hstr : s.extract (k + 1) s.size = str (l.drop (k + 1)) := by rw [← HS.out]; exact str_drop l (k + 1)
                rw [show 9 - (9 - k) = k by omega] at hz
                have hb : ((w.alloc (.cells #[.string s, .int .i64 0] 24)).alloc (.cells #[.string (s.extract (k + 1) s.size), .int .i64 0] 24)).drew.heap[w.heap.size + 1]? = some (.cells #[.string (s.extract (k + 1) s.size), .int .i64 0] 24 (0, 0)) := heap_alloc_new2 _ _ _ _ (by simp)
                obtain ⟨m0, m1⟩ := blk2 hb
                rw [hval]
                exact bodyPost_ret (v := .tuple #[.int .u64 ((acc + s[k].toNat * 2 ^ (7 * k) : Nat) : Int), .agg #[.string (s.extract (k + 1) s.size), .int .i64 0]]) (by simp [results, Tryd.results20, go_sem, m0, m1]) rfl ⟨by rw [hz, hstr]; rfl, (((Below.refl _ _).alloc (Nat.le_refl _) _).alloc (by simp) _).drew⟩
            · have hbv : 128 ≤ s[k].toNat := by omega
              have hz := HT2.out
              rw [if_neg (by omega), if_neg (by omega), if_neg (by omega)] at hz
              have hb8 := s[k].toNat_lt
              have hps := part_small (s[k].toNat % 128) k (by omega) (by omega)
              refine ⟨⟨acc + (s[k].toNat % 128) * 2 ^ (7 * k), k + 1, ?_, by simp, by omega, by omega, acc_small acc _ k ha (by omega), ?_, trivial⟩, by simp [RowKit.intOf]; omega⟩
              · rw [and127 _ hb8, wraps_u64 ((s[k].toNat % 128 : Nat) : Int) (by omega) (by omega), next_shl _ k hps, next_join acc _ k (by omega) ha hps]
              · rw [hz, show 10 - (k + 1) = 9 - k by omega, show 9 - (9 - k) = k by omega, show s[k].toNat - 128 = s[k].toNat % 128 by omega]
  · have hv : nextV ⟨l, e⟩ = .tuple #[.int .u64 0, .agg #[.string ⟨#[]⟩, .int .i64 e]] := by
      unfold nextV Plain.Rd.next rdOf rdV
      rw [if_neg he]
      rfl
    rw [hv]
    have cF : ∀ (w : World), Calls Tryd.prog 49 #[.agg #[.string (str l), .int .i64 e], .int .i64 4] w fun en w' => en = .returned (.agg #[.string ⟨#[]⟩, .int .i64 e]) ∧ Below w.heap.size w w' := by
      intro w
      have h := fail_any (str l) e 4 w
      rw [if_neg he] at h
      exact h
    have CF := Lib.hid cF
    clear cF hv hr
    unfold rdOf rdV
    dsimp only
    obtain ⟨s, hs⟩ : ∃ s, str l = s := ⟨_, rfl⟩
    rw [hs] at CF ⊢
    clear hs
    have e1 : (e == 0) = false := by simp [he]
    have e2 : (!(e == 0)) = true := by simp [he]
    clear he
    go_enter Tryd.func20, Tryd.ntmps20
    go_wp2_with fail
    go_loopw [4, 7] (fun a b wr => a = .int .u64 0 ∧ b = .int .i64 0 ∧ wr = (w.alloc (.cells #[.string s, .int .i64 e] 24)).alloc (.cells #[.string ⟨#[]⟩, .int .i64 0] 24)) (fun _ _ _ => 0)
    case atStart => exact ⟨rfl, rfl, rfl⟩
    case round =>
      obtain ⟨rfl, rfl, rfl⟩ := hrel
      go_wp2_with fail
      refine (CF.out _).mono ?_
      rintro en w1 ⟨rfl, hb⟩
      have hH : w1.heap[w.heap.size + 1]? = some (.cells #[.string ⟨#[]⟩, .int .i64 0] 24 (0, 0)) := by
        rw [hb.block _ (by simp)]; exact heap_alloc_new2 _ _ _ _ (by simp)
      have hB2 : Below w.heap.size w w1 := (((Below.refl _ _).alloc (Nat.le_refl _) _).alloc (by simp) _).trans (hb.mono (by simp; omega))
      have HB := Lib.hid hB2
      clear hb hB2
      obtain ⟨m0, m1⟩ := blk2 hH
      have f0 : w1.frozen? ⟨w.heap.size + 1, 0, none⟩ = false := by simp [World.frozen?, hH]
      have f1 : w1.frozen? ⟨w.heap.size + 1, 1, none⟩ = false := by simp [World.frozen?, hH]
      have HH := Lib.hid hH
      clear hH
      go_wp2
      obtain ⟨n0, n1⟩ := blk2 (blk_set2 HH.out (.string ⟨#[]⟩) (.int .i64 e))
      exact bodyPost_ret (v := .tuple #[.int .u64 0, .agg #[.string ⟨#[]⟩, .int .i64 e]]) (by simp [results, Tryd.results20, go_sem, n0, n1]) rfl ⟨rfl, (HB.out.setCell (Nat.le_succ _) _).setCell (Nat.le_succ _) _⟩
end Go.Proofs.YtkkgdnmloojloaaDoor
