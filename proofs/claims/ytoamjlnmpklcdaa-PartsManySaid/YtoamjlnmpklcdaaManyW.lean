/- PartsMany: the law's walk. Conditions: what each lemma says. -/
import Derived.Test.YtoamjlnmpklcdaaAlikeW
set_option linter.unusedVariables false
set_option linter.unusedSimpArgs false
namespace Go.Proofs.Ytoamjlnmpklcdaa
open Go.RowKit Go.Lib
open Plain (Rg Rn May mayB In Norm runOf cls Inc Pts ends partOf Up)
/-- what parts.Of answers of right classes: the parts, or that there are too many -/
def OfRes2 (w : World) (L : List Cs) (e : Ending) (w' : World) : Prop :=
  ∃ (P : List Int) (A : Option Addr) (n c : Nat) (ev : Int), e = .returned (.tuple #[.slice A n c, .int .i64 ev]) ∧ Pts P (allR L) ∧ Below w.heap.size w w' ∧
    ((ev = 0 ∧ P.length = n ∧ n ≤ 64 ∧ Sl w' A (i32s P) ∧ n ≤ c) ∨ (ev = 3 ∧ 64 < P.length))
theorem of_kc2 {L : List Cs} {A : Option Addr} {c : Nat} {w : World} (h : Kc w A L) (hr : Rt L) (hl : L.length ≤ 64) : Calls Try.prog 11 #[.slice A L.length c] w (OfRes2 w L) := by
  refine (of_kc h hr hl).mono ?_
  rintro e w' ⟨P, h1, h2, ⟨h3, PA, pc, rfl, h4, h5⟩ | ⟨h3, rfl⟩⟩
  · exact ⟨P, PA, _, pc, 0, rfl, h1, h2, .inl ⟨rfl, rfl, h3, h4, h5⟩⟩
  · exact ⟨P, none, 0, 0, 3, rfl, h1, h2, .inr ⟨rfl, h3⟩⟩
theorem Fr.some {base : Nat} {e : TypeId} {w : World} {A : Option Addr} {n c : Nat} {xs : List Value} (h : Fr base e 1 w (.slice A n c) n xs) (hn : 0 < n) : A = none → c = 0 ∧ n = 0 := by
  intro hA
  rcases h with ⟨_, _, h0, _⟩ | ⟨h, _⟩
  · omega
  · obtain ⟨g, cap, hv, _⟩ := own_at h hn
    subst hA
    injection hv with h1
    cases h1
theorem own_none {w : World} {base n c : Nat} {e : TypeId} {A : Option Addr} {xs : List Value} (h : w.ownsRow base e 1 (.slice A n c) n xs) : A = none → c = 0 ∧ n = 0 := by
  intro hA
  subst hA
  rcases h.2 with ⟨hv, _⟩ | ⟨g, cap, cur, hv, _⟩
  · injection hv with _ h1 h2; exact ⟨h2, h1⟩
  · injection hv with h1; cases h1
theorem allR_len (L : List Cs) (h : Rt L) : (allR L).length ≤ 12 * L.length := by
  induction L with
  | nil => simp [allR]
  | cons x L ih =>
    have e : allR (x :: L) = x.R ++ allR L := by simp [allR]
    rw [e, List.length_append, List.length_cons]
    have h2 := (h x (by simp)).2
    have h3 := ih (fun y hy => h y (by simp [hy]))
    omega
theorem allR_step (L : List Cs) (k : Nat) (hk : k < L.length) : (allR (L.take (k + 1))).length = (allR (L.take k)).length + L[k].R.length := by
  unfold allR; rw [List.take_succ_eq_append_getElem hk, List.flatMap_append, List.length_append]; simp
theorem allR_app (L M : List Cs) : allR (L ++ M) = allR L ++ allR M := by unfold allR; rw [List.flatMap_append]
set_option maxRecDepth 1000000 in
set_option maxHeartbeats 8000000 in
theorem many_any (LL : List Rr) (A0 : Option Addr) (c0 : Nat) (x1 : Rr) (w : World) (hX : Sl w A0 (LL.map rrV)) (hok : ∀ x ∈ LL, RrOk w x) (hl : LL.length ≤ maxLen) (hx1 : RrOk w x1) :
    Calls Try.prog 4 #[.slice A0 LL.length c0, rrV x1] w fun e w' => e = .returned (.bool true) ∧ Below w.heap.size w w' := by
  obtain ⟨i40, hi40, y0, y1, y2⟩ := info_parts info40
  have CE := Lib.hid (examples_any w)
  have CC := Lib.hid (fun W (hb : Below w.heap.size w W) => classes_any LL A0 c0 W (hX.below hb) (fun x hx => (hok x hx).below hb) hl)
  have CD := Lib.hid (show ∀ W, Below w.heap.size w W → Calls Try.prog 10 #[.slice (some ⟨W.heap.size, 0, none⟩) 1 1, .bool true] (W.alloc (.cells #[rrV x1] 33)) (ClsPost (W.alloc (.cells #[rrV x1] 33)) [x1]) from fun W hb =>
    classes_any [x1] (some ⟨W.heap.size, 0, none⟩) 1 _ (Sl.of_cells (CellsAt.new W #[rrV x1] 33)) (fun x hx => by
      simp only [List.mem_cons, List.not_mem_nil, or_false] at hx
      subst hx
      exact (hx1.below hb).below (below_alloc (Below.refl _ _) _)) (by unfold maxLen; simp))
  obtain ⟨n0, hn0⟩ : ∃ z, LL.length = z := ⟨_, rfl⟩
  rw [hn0] at CC ⊢
  obtain ⟨XA, xc, X⟩ := x1
  unfold rrV at CD ⊢
  dsimp only at CD ⊢
  obtain ⟨xl, hxl⟩ : ∃ z, X.length = z := ⟨_, rfl⟩
  rw [hxl] at CD ⊢
  clear hX hok hl hn0 hx1 hxl
  go_enter Try.func4, Try.ntmps4
  go_wp2_with fail
  refine CE.out.mono ?_
  rintro e w1 ⟨rfl, hb1⟩
  have HB1 := Lib.hid hb1
  have CC1 := Lib.hid (CC.out w1 hb1)
  clear hb1 CE CC
  go_wp2_with fail
  refine CC1.out.mono ?_
  rintro e w2 ⟨m0, L0, A, c, rfl, hm6, hLm, hLR, hO, hC, hb2⟩
  have hrt0 := Rt.of_map hLR
  have hnone := own_none hO
  obtain ⟨m, hm⟩ : ∃ z, min m0 3 = z := ⟨_, rfl⟩
  have hmin : min (m0 : Int) 3 = (m : Int) := by rw [← hm]; omega
  have hmm : m ≤ m0 := by omega
  have hm3 : m ≤ 3 := by omega
  have hmc : m0 ≤ c := own_cap hO
  have hmc2 : m ≤ c := by omega
  have hkc : Kc w2 A (L0.take m) := by
    refine ⟨?_, fun x hx => (hC x (List.mem_of_mem_take hx)).rs⟩
    have h := own_Sl hO (by rw [List.length_map]; exact hLm)
    intro hn
    obtain ⟨b, off, e, hb, hc⟩ := h (by rw [List.length_map] at hn ⊢; rw [List.length_take] at hn; omega)
    refine ⟨b, off, e, hb, fun i u hu => hc i u ?_⟩
    rw [List.map_take] at hu
    have hi : i < m := by
      have := (List.getElem?_eq_some_iff.1 hu).1
      rw [List.length_take] at this; omega
    rwa [List.getElem?_take_of_lt hi] at hu
  obtain ⟨L, hL⟩ : ∃ z, L0.take m = z := ⟨_, rfl⟩
  have hLm' : L.length = m := by rw [← hL, List.length_take]; omega
  have hrt : Rt L := by rw [← hL]; exact hrt0.sub (fun x hx => List.mem_of_mem_take hx)
  rw [hL] at hkc
  have hAn : A = none → c = 0 ∧ m = 0 := fun h => ⟨(hnone h).1, by have := (hnone h).2; omega⟩
  have HB2 := Lib.hid (below_then HB1.out hb2)
  have HKC := Lib.hid hkc
  have HRT := Lib.hid hrt
  have HLM := Lib.hid hLm'
  have HAN := Lib.hid hAn
  have CD2 := Lib.hid (CD.out w2 HB2.out)
  clear hm hLm hLR hO hC hb2 hkc hrt hrt0 hL hLm' hAn hnone CC1 CD
  have t1 : (m : Int).toNat = m := Int.toNat_natCast m
  go_wp2_with fail
  refine CD2.out.mono ?_
  rintro e w3 ⟨md, D, DA, dc, rfl, hd6, hDm, hDR, hO, hC, hb3⟩
  have hd1 : md = 1 := by
    have h := congrArg List.length hDR
    simp only [List.length_map, List.length_take, List.length_cons, List.length_nil] at h
    omega
  subst hd1
  have HB3 := Lib.hid (show Below w2.heap.size w2 w3 from below_then (below_alloc (Below.refl _ _) _) hb3)
  have hdkc : Kc w3 DA D := ⟨own_Sl hO (by rw [List.length_map]; exact hDm), fun x hx => (hC x hx).rs⟩
  have hkc3 := HKC.out.below HB3.out
  have hrtD := Rt.of_map hDR
  have hU : ∀ x ∈ L ++ D, Rs w3 x.A x.R ∧ (Norm x.R ∧ x.R.length ≤ 12) := by
    intro x hx
    rcases List.mem_append.1 hx with h | h
    · exact ⟨hkc3.rs x h, HRT.out x h⟩
    · exact ⟨hdkc.rs x h, hrtD x h⟩
  have CO := Lib.hid (fun (M : List Cs) (hs : ∀ x ∈ M, x ∈ L ++ D) (hlen : M.length ≤ 64) (A' : Option Addr) (c' : Nat) (W : World) (hbW : Below w3.heap.size w3 W) (hsl : Sl W A' (M.map clV)) =>
    of_kc2 (L := M) (A := A') (c := c') (w := W) ⟨hsl, fun x hx => ((hU x (hs x hx)).1).below hbW⟩ (fun x hx => (hU x (hs x hx)).2) hlen)
  have CO1 := CO.out L (fun x hx => List.mem_append.2 (.inl hx)) (by rw [HLM.out]; omega) A c w3 (Below.refl _ _) hkc3.sl
  rw [HLM.out] at CO1
  have CO1 := Lib.hid CO1
  have HKD := Lib.hid hdkc
  have HRU := Lib.hid (show Rt (L ++ D) from fun x hx => (hU x hx).2)
  have HDM := Lib.hid hDm
  have HDN := Lib.hid (own_none hO)
  clear hDm hDR hO hC hb3 hdkc hkc3 hrtD hU CD2
  go_wp2_with fail
  refine CO1.out.mono ?_
  rintro e w4 ⟨P, PA, pl, pc, ev, rfl, hP, hb4, hpe⟩
  have HB4 := Lib.hid hb4
  have HP := Lib.hid hP
  have HPE := Lib.hid hpe
  have hkc4 := (HKC.out.below HB3.out).below hb4
  have hkd4 := HKD.out.below hb4
  have HS4 := Lib.hid (And.intro hkc4.sl hkd4.sl)
  clear hP hb4 hpe hkc4 hkd4 CO1
  go_wp2_with (at_builtin; refine wpList_append_fr rfl (.tmp 38) (.tmp 39) _ rfl w4.heap.size 40 i40 _ 24 Try.underlying34 hi40 y0 y1 y2 rfl (.slice A 0 0) 0 [] rfl (Fr.zero _ _ _ _) A m c (L.map clV) rfl (by rw [List.length_map]; exact HLM.out) HS4.out.1 HAN.out (fun u hu => by obtain ⟨x, _, rfl⟩ := List.mem_map.1 hu; rfl) (by simp only [maxLen]; omega) (by omega) (Nat.le_refl _) ?_)
  intro v5 w5 hF5 hb5
  obtain ⟨a5, c5, rfl⟩ := hF5.shape
  have HF5 := Lib.hid hF5
  have HB5 := Lib.hid hb5
  have HSD5 := Lib.hid (show Sl w5 DA (D.map clV) from HS4.out.2.below hb5)
  clear hF5 hb5
  go_wp2_with (at_builtin; refine wpList_append_fr rfl (.tmp 40) (.tmp 41) _ rfl w4.heap.size 40 i40 _ 24 Try.underlying34 hi40 y0 y1 y2 rfl (.slice a5 m c5) m (L.map clV) rfl HF5.out DA 1 dc (D.map clV) rfl (by rw [List.length_map]; exact HDM.out) HSD5.out HDN.out (fun u hu => by obtain ⟨x, _, rfl⟩ := List.mem_map.1 hu; rfl) (by simp only [maxLen]; omega) (by omega) HB5.out.size ?_)
  intro v6 w6 hF6 hb6
  obtain ⟨a6, c6, rfl⟩ := hF6.shape
  have HB6 := Lib.hid (HB5.out.trans (hb6.mono (Nat.le_refl _)))
  rw [← List.map_append] at hF6
  obtain ⟨m1, hm1⟩ : ∃ z, m + 1 = z := ⟨_, rfl⟩
  obtain ⟨M, hM⟩ : ∃ z, L ++ D = z := ⟨_, rfl⟩
  have hMl : M.length = m1 := by rw [← hM, List.length_append, HLM.out, HDM.out, hm1]
  rw [hM, hm1] at hF6
  have HF6 := Lib.hid hF6
  have hs6 := hF6.sl (by rw [List.length_map]; exact hMl)
  have hn6 := hF6.some (by omega)
  have CO2 := CO.out M (fun x hx => by rw [hM]; exact hx) (by omega) a6 c6 w6 (HB4.out.trans (HB6.out.mono HB4.out.size)) hs6
  rw [hMl] at CO2
  have CO2 := Lib.hid CO2
  have HM := Lib.hid (And.intro hM hMl)
  have HN6 := Lib.hid hn6
  have hm14 : m1 ≤ 4 := by omega
  rw [hm1]
  clear hF6 hb6 hs6 hn6 hM hMl hm1
  go_wp2_with fail
  refine CO2.out.mono ?_
  rintro e w7 ⟨Q, QA, ql, qc, fv, rfl, hQ, hb7, hqe⟩
  have HB7 := Lib.hid ((HB6.out.trans (hb7.mono HB6.out.size)))
  have HQ := Lib.hid hQ
  have HQE := Lib.hid hqe
  have hF7 := HF6.out.below hb7
  have HS7 := Lib.hid (hF7.sl (by rw [List.length_map]; exact HM.out.2))
  clear hQ hb7 hqe hF7 CO2
  go_wp2_with (at_builtin; refine wpList_append_fr rfl (.tmp 50) (.tmp 51) _ rfl w7.heap.size 40 i40 _ 24 Try.underlying34 hi40 y0 y1 y2 rfl (.slice A 0 0) 0 [] rfl (Fr.zero _ _ _ _) a6 m1 c6 (M.map clV) rfl (by rw [List.length_map]; exact HM.out.2) HS7.out HN6.out (fun u hu => by obtain ⟨x, _, rfl⟩ := List.mem_map.1 hu; rfl) (by simp only [maxLen]; omega) (by omega) (Nat.le_refl _) ?_)
  intro v8 w8 hF8 hb8
  obtain ⟨a8, c8, rfl⟩ := hF8.shape
  have HF8 := Lib.hid hF8
  have HB8 := Lib.hid hb8
  have HS8 := Lib.hid (show Sl w8 a6 (M.map clV) from HS7.out.below hb8)
  clear hF8 hb8
  go_wp2_with (at_builtin; refine wpList_append_fr rfl (.tmp 52) (.tmp 53) _ rfl w7.heap.size 40 i40 _ 24 Try.underlying34 hi40 y0 y1 y2 rfl (.slice a8 m1 c8) m1 (M.map clV) rfl HF8.out a6 m1 c6 (M.map clV) rfl (by rw [List.length_map]; exact HM.out.2) HS8.out HN6.out (fun u hu => by obtain ⟨x, _, rfl⟩ := List.mem_map.1 hu; rfl) (by simp only [maxLen]; omega) (by omega) HB8.out.size ?_)
  intro v9 w9 hF9 hb9
  obtain ⟨a9, c9, rfl⟩ := hF9.shape
  have HB9 := Lib.hid (HB7.out.trans ((HB8.out.trans hb9).mono HB7.out.size))
  have HB79 := Lib.hid (HB8.out.trans hb9)
  rw [← List.map_append] at hF9
  have hs9 := hF9.sl (by rw [List.length_map, List.length_append, HM.out.2])
  have CO3 := CO.out (M ++ M) (fun x hx => by rw [HM.out.1]; simpa using hx) (by rw [List.length_append, HM.out.2]; omega) a9 c9 w9 (HB4.out.trans (HB9.out.mono HB4.out.size)) hs9
  rw [List.length_append, HM.out.2] at CO3
  have CO3 := Lib.hid CO3
  clear hF9 hb9 hs9 CO
  go_wp2_with fail
  refine CO3.out.mono ?_
  rintro e w10 ⟨R, RA, rl, rc, gv, rfl, hR, hb10, hre⟩
  have hQR : Q = R := HQ.out.same hR (fun r => by rw [allR_app, List.mem_append]; exact ⟨fun h => .inl h, fun h => h.elim id id⟩)
  subst hQR
  have HB10 := Lib.hid (HB9.out.trans (hb10.mono HB9.out.size))
  have HB7X := Lib.hid (HB79.out.trans (hb10.mono HB79.out.size))
  have HRE := Lib.hid hre
  clear hR hb10 hre CO3
  rcases HPE.out with ⟨rfl, hp1, hp2, hp3, hp4⟩ | ⟨rfl, hp1⟩
  case inr =>
    rcases HQE.out with ⟨rfl, hq1, hq2, hq3, hq4⟩ | ⟨rfl, hq1⟩
    all_goals
      clear HPE HQE HRE
      go_wp2_with fail
      go_ret
      exact ⟨rfl, HB2.out.trans ((HB3.out.trans ((HB4.out.trans (HB10.out.mono HB4.out.size)).mono HB3.out.size)).mono HB2.out.size)⟩
  rcases HQE.out with ⟨rfl, hq1, hq2, hq3, hq4⟩ | ⟨rfl, hq1⟩
  case inr =>
    clear HPE HQE HRE
    go_wp2_with fail
    go_ret
    exact ⟨rfl, HB2.out.trans ((HB3.out.trans ((HB4.out.trans (HB10.out.mono HB4.out.size)).mono HB3.out.size)).mono HB2.out.size)⟩
  rcases HRE.out with ⟨rfl, hr1, hr2, hr3, hr4⟩ | ⟨rfl, hr1⟩
  case inr => omega
  obtain rfl : ql = rl := by omega
  have HX := Lib.hid (And.intro hp1 (And.intro hp3 (And.intro hq1 (And.intro hq3 hr3))))
  clear HPE HQE HRE hp1 hp3 hq1 hq3 hr1 hr3
  go_wp2_with fail
  have hmay : ∀ r ∈ allR L, May r := HRT.out.may
  have hmayM : ∀ r ∈ allR M, May r := (show Rt M by rw [← HM.out.1]; exact HRU.out).may
  have hupQ := HQ.out.up hmayM
  have hPM : ∀ x ∈ P, x ∈ Q := HP.out.sub HQ.out (fun r hr => by rw [← HM.out.1, allR_app]; exact List.mem_append.2 (.inl hr))
  have hpq : pl ≤ ql := by have h := HP.out.inc.len_le hPM; rw [HX.out.1, HX.out.2.2.1] at h; exact h
  have hpn : pl ≤ 2 * (allR L).length + 1 := by
    have h := HP.out.inc.len_le (fun x hx => (HP.out.mem x).1 hx)
    rw [HX.out.1, List.length_cons] at h
    have h2 := ends_le2 (allR L)
    omega
  have hal := allR_len L HRT.out
  rw [HLM.out] at hal
  obtain ⟨mn, hmn⟩ : ∃ z, (allR L).length = z := ⟨_, rfl⟩
  rw [hmn] at hpn hal
  have HMN := Lib.hid hmn
  have HUP := Lib.hid (And.intro hupQ hPM)
  have HKW := Lib.hid ((HKC.out.below HB3.out).below (HB4.out.trans (HB10.out.mono HB4.out.size)))
  have HPS := Lib.hid (HX.out.2.1.below HB10.out)
  have HQS := Lib.hid (HX.out.2.2.2.1.below HB7X.out)
  clear hmn hmay hmayM hupQ hPM
  obtain ⟨wv, rfl⟩ : ∃ z, z = w10 := ⟨_, rfl⟩
  go_loopw [15, 16] (fun u v wr => ∃ i : Nat, i ≤ m ∧ v = .int .i64 (i : Int) ∧ u = .int .i64 ((allR (L.take i)).length : Int) ∧ wr = wv) (fun _ v _ => m - (RowKit.intOf v).toNat)
  case atStart => exact ⟨0, Nat.zero_le _, rfl, by simp [allR], rfl⟩
  case round =>
    obtain ⟨i, hik, rfl, rfl, rfl⟩ := hrel
    have hti : (allR (L.take i)).length ≤ 36 := by
      have h := allR_len (L.take i) (HRT.out.sub (fun x hx => List.mem_of_mem_take hx))
      rw [List.length_take] at h
      omega
    by_cases hlt : i < m
    · have di : decide ((i : Int) < (m : Int)) = true := decide_eq_true (by omega)
      have din : decide (i < m) = true := decide_eq_true hlt
      have hil : i < L.length := by rw [HLM.out]; exact hlt
      have hst := allR_step L i hil
      obtain ⟨t, ht⟩ : ∃ t, L[i] = t := ⟨_, rfl⟩
      have htm : t ∈ L := by rw [← ht]; exact List.getElem_mem hil
      obtain ⟨ba, off, rfl, hba, hcs⟩ := HKW.out.sl (by rw [List.length_map]; omega)
      have c0 := hcs i (clV t) (by rw [List.getElem?_map, List.getElem?_eq_getElem hil, ht]; rfl)
      have hR12 := (HRT.out t htm).2
      rw [ht] at hst
      obtain ⟨TA, tc, TR⟩ := t
      unfold clV at c0
      dsimp only at c0 hR12 hst
      obtain ⟨rl', hrl⟩ : ∃ z, TR.length = z := ⟨_, rfl⟩
      rw [hrl] at c0 hR12 hst
      obtain ⟨s0, hs0⟩ : ∃ z, (allR (L.take i)).length = z := ⟨_, rfl⟩
      rw [hs0] at hst hti ⊢
      have HST := Lib.hid hst
      have e1 : IntKind.i64.wrap ((s0 : Int) + (rl' : Int)) = ((s0 + rl' : Nat) : Int) := by rw [IntKind.wrap_i64]; omega
      clear hcs ht htm hrl hs0 hst
      go_wp2_with fail
      go_roundw
      case rel => exact ⟨i + 1, by omega, by go_num, by rw [HST.out]; try rfl, by first | rfl | trivial⟩
      case measure => simp [RowKit.intOf]; omega
    · have di : decide ((i : Int) < (m : Int)) = false := decide_eq_false (by omega)
      have din : decide (i < m) = false := decide_eq_false hlt
      have hie : i = m := by omega
      have htk : (allR (L.take i)).length = mn := by rw [List.take_of_length_le (by rw [HLM.out, hie]; exact Nat.le_refl _)]; exact HMN.out
      rw [htk]
      clear htk hti hie
      go_wp2_with fail
      obtain ⟨wv, rfl⟩ : ∃ z, z = wr := ⟨_, rfl⟩
      go_loopw [17] (fun v wr => ∃ i : Nat, i ≤ pl ∧ v = .int .i64 (i : Int) ∧ RowKit.Below wv.heap.size wv wr) (fun v _ => pl - (RowKit.intOf v).toNat)
      case atStart => exact ⟨0, Nat.zero_le _, rfl, Below.refl _ _⟩
      case round =>
        obtain ⟨i, hip, rfl, hB⟩ := hrel
        obtain ⟨w8, rfl⟩ : ∃ z, z = wr := ⟨_, rfl⟩
        have HBw := Lib.hid hB
        clear hB
        by_cases hlp : i < pl
        · have di2 : decide ((i : Int) < (pl : Int)) = true := decide_eq_true (by omega)
          have di2n : decide (i < pl) = true := decide_eq_true hlp
          have hipl : i < P.length := by rw [HX.out.1]; exact hlp
          obtain ⟨pb, po, rfl, hpb, hps⟩ := (HPS.out.below HBw.out) (by unfold i32s; rw [List.length_map]; omega)
          have c0 := hps i _ (i32s_at P i hipl)
          have hmem : P.getD i 0 ∈ Q := HUP.out.2 _ ((Plain.mem_getD P _).2 ⟨i, hipl, rfl⟩)
          obtain ⟨v, hv⟩ : ∃ z, P.getD i 0 = z := ⟨_, rfl⟩
          rw [hv] at c0 hmem
          have hfind := HUP.out.1.find hmem
          have hql := Plain.partOf_lt Q v HUP.out.1.pos
          have hlow : lowAt Q (partOf Q v : Int) = v := by unfold lowAt; rw [if_pos ⟨by omega, by omega⟩, Int.toNat_natCast]; exact hfind
          have hqs := HQS.out.below HBw.out
          have c7 := fun (W : World) (h : Below w8.heap.size w8 W) => index_any Q QA qc v W (hqs.below h) HUP.out.1.pos (by rw [HX.out.2.2.1]; exact hq2) (by rw [HX.out.2.2.1]; exact hq4)
          have c9 := fun (W : World) (h : Below w8.heap.size w8 W) => low_any Q QA qc (partOf Q v : Int) W (hqs.below h)
          obtain ⟨q, hq⟩ : ∃ z, partOf Q v = z := ⟨_, rfl⟩
          simp only [HX.out.2.2.1, hq] at c7
          simp only [HX.out.2.2.1, hlow] at c9
          simp only [hq] at c9
          have st : ∀ W, Below w8.heap.size w8 W → W.cell? ⟨pb, po + i, none⟩ = some (.int .i32 v) := fun W h => (h.cell (p := ⟨pb, po + i, none⟩) hpb).trans c0
          have C7 := Lib.hid (show ∀ W, Kb w8 W → Calls Try.prog 7 #[.slice QA ql qc, .int .i32 v] W fun e w' => e = .returned (.int .i64 (q : Nat)) ∧ (w'.cell? ⟨pb, po + i, none⟩ = some (.int .i32 v) ∧ Kb w8 w') from fun W hk => by
            refine (c7 W hk).mono ?_
            rintro e w' ⟨rfl, hb'⟩
            exact ⟨rfl, st _ (below_then hk hb'), below_then hk hb'⟩)
          have C9 := Lib.hid (show ∀ W, Kb w8 W → Calls Try.prog 9 #[.slice QA ql qc, .int .i64 (q : Int)] W fun e w' => e = .returned (.int .i32 v) ∧ (w'.cell? ⟨pb, po + i, none⟩ = some (.int .i32 v) ∧ Kb w8 w') from fun W hk => by
            refine (c9 W hk).mono ?_
            rintro e w' ⟨rfl, rfl⟩
            exact ⟨rfl, st _ hk, hk⟩)
          have hSd : w8.drew.cell? ⟨pb, po + i, none⟩ = some (.int .i32 v) ∧ Kb w8 w8.drew := ⟨st _ (Below.refl _ _).drew, (Below.refl _ _).drew⟩
          clear c7 c9 st hq hlow hql hfind hmem hv hps hqs
          go_upto_region 21 with fail
          go_region_held3 (fun w' => w'.cell? ⟨pb, po + i, none⟩ = some (.int .i32 v) ∧ Kb w8 w') (first | assumption | go_keep) (first
            | (go_at_call 7; (with_reducible refine (C7.out _ (by first | assumption | exact hSd.2 | exact hS9.2 | exact hS11.2)).mono ?_); rintro e w11 ⟨rfl, hS11⟩)
            | (go_at_call 9; (with_reducible refine (C9.out _ (by first | assumption | exact hSd.2 | exact hS9.2 | exact hS11.2)).mono ?_); rintro e w9 ⟨rfl, hS9⟩))
          have HB9' := Lib.hid (HBw.out.trans (RowKit.Below.mono (show RowKit.Below w8.heap.size w8 w9 from hS9.2) HBw.out.size))
          clear hSd hS9 hS11 C7 C9 c0
          go_wp2_with fail
          go_roundw
          case rel => exact ⟨i + 1, by omega, by go_num, HB9'.out⟩
          case measure => simp [RowKit.intOf]; omega
        · have di2 : decide ((i : Int) < (pl : Int)) = false := decide_eq_false (by omega)
          have di2n : decide (i < pl) = false := decide_eq_false hlp
          have cs := isame_any Q Q QA RA qc rc w8 (HQS.out.below HBw.out) (HX.out.2.2.2.2.below HBw.out) (by rw [HX.out.2.2.1]; omega) (by rw [HX.out.2.2.1]; omega)
          rw [decide_eq_true rfl, HX.out.2.2.1] at cs
          have CS := Lib.hid cs
          have e2 : IntKind.i64.wrap (2 * (mn : Int)) = 2 * (mn : Int) := by rw [IntKind.wrap_i64]; omega
          have e3 : IntKind.i64.wrap (2 * (mn : Int) + 1) = 2 * (mn : Int) + 1 := by rw [IntKind.wrap_i64]; omega
          have d5 : decide ((pl : Int) ≤ 2 * (mn : Int) + 1) = true := decide_eq_true (by omega)
          have d6 : decide ((pl : Int) ≤ (ql : Int)) = true := decide_eq_true (by omega)
          have d6n : decide (pl ≤ ql) = true := decide_eq_true hpq
          clear cs
          go_wp2_with fail
          refine CS.out.mono ?_
          rintro e w9 ⟨rfl, hb9⟩
          have HB9 := Lib.hid (HBw.out.trans (hb9.mono HBw.out.size))
          clear hb9
          go_wp2_with fail
          go_ret
          exact ⟨rfl, HB2.out.trans ((HB3.out.trans ((HB4.out.trans ((HB10.out.trans (HB9.out.mono HB10.out.size)).mono HB4.out.size)).mono HB3.out.size)).mono HB2.out.size)⟩
end Go.Proofs.Ytoamjlnmpklcdaa
