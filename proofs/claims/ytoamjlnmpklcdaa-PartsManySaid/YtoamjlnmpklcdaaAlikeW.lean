/- PartsAlike: the law's walk. Conditions: what each lemma says. -/
import Derived.Test.YtoamjlnmpklcdaaCls
set_option linter.unusedVariables false
set_option linter.unusedSimpArgs false
namespace Go.Proofs.Ytoamjlnmpklcdaa
open Go.RowKit Go.Lib
open Plain (Rg Rn May mayB In Norm runOf cls Inc Pts ends partOf Up)
/-- classes that lie somewhere, each right -/
structure Kc (w : World) (A : Option Addr) (L : List Cs) : Prop where
  sl : Sl w A (L.map clV)
  rs : ∀ x ∈ L, Rs w x.A x.R
theorem Kc.below {w w' : World} {A : Option Addr} {L : List Cs} (h : Kc w A L) (hb : Below w.heap.size w w') : Kc w' A L := ⟨h.sl.below hb, fun x hx => (h.rs x hx).below hb⟩
def Rt (L : List Cs) : Prop := ∀ x ∈ L, Norm x.R ∧ x.R.length ≤ 12
theorem Rt.may {L : List Cs} (h : Rt L) : ∀ r ∈ allR L, May r := by
  intro r hr
  unfold allR at hr
  obtain ⟨x, hx, hr⟩ := List.mem_flatMap.1 hr
  exact Plain.Norm_may (h x hx).1 r hr
theorem Rt.sub {L M : List Cs} (h : Rt L) (hs : ∀ x ∈ M, x ∈ L) : Rt M := fun x hx => h x (hs x hx)
theorem mem_allR {L : List Cs} {r : Rg} : r ∈ allR L ↔ ∃ x ∈ L, r ∈ x.R := by unfold allR; rw [List.mem_flatMap]
/-- what parts.Of answers of right classes -/
def OfRes (w : World) (L : List Cs) (e : Ending) (w' : World) : Prop :=
  ∃ P, Pts P (allR L) ∧ Below w.heap.size w w' ∧
    ((P.length ≤ 64 ∧ ∃ A c, e = .returned (.tuple #[.slice A P.length c, .int .i64 0]) ∧ Sl w' A (i32s P) ∧ P.length ≤ c) ∨ (64 < P.length ∧ e = .returned (.tuple #[.slice none 0 0, .int .i64 3])))
theorem of_kc {L : List Cs} {A : Option Addr} {c : Nat} {w : World} (h : Kc w A L) (hr : Rt L) (hl : L.length ≤ 64) : Calls Try.prog 11 #[.slice A L.length c] w (OfRes w L) := by
  refine (ofg_any L A c w h.sl h.rs (fun x hx => ⟨(hr x hx).1, by have := (hr x hx).2; omega⟩) hl).mono ?_
  rintro e w' ⟨P, h1, h2, h3, h4⟩
  exact ⟨P, ⟨h1, h2⟩, h3, h4⟩
theorem Rt.of_map {L : List Cs} {LL : List Rr} (h : L.map Cs.R = (LL.take 6).map clsR) : Rt L := by
  intro x hx
  have h1 : x.R ∈ L.map Cs.R := List.mem_map.2 ⟨x, hx, rfl⟩
  rw [h] at h1
  obtain ⟨y, _, hy⟩ := List.mem_map.1 h1
  rw [← hy]
  exact clsR_ok y
theorem Fr.zero (base : Nat) (e : TypeId) (w : World) (A : Option Addr) : Fr base e 1 w (.slice A 0 0) 0 [] := .inl ⟨A, rfl, rfl, rfl⟩
def Kb (w0 w : World) : Prop := Below w0.heap.size w0 w
theorem rem_facts (a : Int) (h : 0 ≤ a ∧ a < 4294967296) : ∃ a1 a2 a3 : Int, Int.tmod a 1114112 = a1 ∧ a % 1114112 = a1 ∧ Int.tmod a 2 = a2 ∧ a % 2 = a2 ∧ Int.tmod a 30 = a3 ∧ a % 30 = a3 ∧
    IntKind.u32.wrap a1 = a1 ∧ IntKind.u32.wrap a2 = a2 ∧ IntKind.u32.wrap a3 = a3 ∧ IntKind.i32.wrap a1 = a1 ∧ IntKind.i32.wrap a3 = a3 ∧ IntKind.i32.wrap (97 + a3) = 97 + a3 ∧ (0 ≤ a1 ∧ a1 ≤ 1114111) ∧ (0 ≤ 97 + a3 ∧ 97 + a3 ≤ 1114111) := by
  refine ⟨a % 1114112, a % 2, a % 30, Int.tmod_eq_emod_of_nonneg h.1, rfl, Int.tmod_eq_emod_of_nonneg h.1, rfl, Int.tmod_eq_emod_of_nonneg h.1, rfl, ?_, ?_, ?_, ?_, ?_, ?_, ?_, ?_⟩
  all_goals first | (rw [IntKind.wrap_u32]; omega) | (rw [IntKind.wrap_i32]; omega) | omega
set_option maxRecDepth 1000000 in
set_option maxHeartbeats 8000000 in
theorem alike_any (LL : List Rr) (A0 : Option Addr) (c0 : Nat) (a b : Int) (w : World) (hX : Sl w A0 (LL.map rrV)) (hok : ∀ x ∈ LL, RrOk w x) (hl : LL.length ≤ maxLen) (ha : 0 ≤ a ∧ a < 4294967296) (hb : 0 ≤ b ∧ b < 4294967296) :
    Calls Try.prog 5 #[.slice A0 LL.length c0, .int .u32 a, .int .u32 b] w fun e w' => e = .returned (.bool true) ∧ Below w.heap.size w w' := by
  obtain ⟨i40, hi40, y0, y1, y2⟩ := info_parts info40
  have CE := Lib.hid (examples_any w)
  have CC := Lib.hid (fun W (hb : Below w.heap.size w W) => classes_any LL A0 c0 W (hX.below hb) (fun x hx => (hok x hx).below hb) hl)
  obtain ⟨n0, hn0⟩ : ∃ z, LL.length = z := ⟨_, rfl⟩
  rw [hn0] at CC ⊢
  clear hX hok hl hn0
  go_enter Try.func5, Try.ntmps5
  go_wp2_with fail
  refine CE.out.mono ?_
  rintro e w1 ⟨rfl, hb1⟩
  have HB1 := Lib.hid hb1
  have CC1 := Lib.hid (CC.out w1 hb1)
  clear hb1 CE CC
  go_wp2_with fail
  refine CC1.out.mono ?_
  rintro e w2 ⟨m, L, A, c, rfl, hm6, hLm, hLR, hO, hC, hb2⟩
  have hrt := Rt.of_map hLR
  have hkc : Kc w2 A L := ⟨own_Sl hO (by rw [List.length_map]; exact hLm), fun x hx => (hC x hx).rs⟩
  have HB2 := Lib.hid (below_then HB1.out hb2)
  have CO := Lib.hid (fun (L' : List Cs) (hs : ∀ x ∈ L', x ∈ L) (hlen : L'.length ≤ 64) (A' : Option Addr) (c' : Nat) (W : World) (hbW : Below w2.heap.size w2 W) (hsl : Sl W A' (L'.map clV)) =>
    of_kc (L := L') (A := A') (c := c') (w := W) ⟨hsl, fun x hx => (hkc.rs x (hs x hx)).below hbW⟩ (hrt.sub hs) hlen)
  have CO1 := CO.out L (fun x hx => hx) (by omega) A c w2 (Below.refl _ _) hkc.sl
  rw [hLm] at CO1
  have CO1 := Lib.hid CO1
  have HKC := Lib.hid hkc
  have HRT := Lib.hid hrt
  have HLM := Lib.hid hLm
  have HMC := Lib.hid (own_cap hO)
  clear hLm hLR hO hC hb2 hkc hrt CC1
  go_wp2_with fail
  refine CO1.out.mono ?_
  rintro e w3 ⟨P, hP, hb3, ⟨h64, PA, pc, rfl, hPs, hPc⟩ | ⟨h64, rfl⟩⟩
  case inr =>
    have HB3 := Lib.hid (below_then HB2.out hb3)
    clear hb3
    go_wp2_with fail
    go_ret
    exact ⟨rfl, HB3.out⟩
  have HP := Lib.hid hP
  have HB3 := Lib.hid hb3
  have HPS := Lib.hid hPs
  obtain ⟨pl, hpl⟩ : ∃ z, P.length = z := ⟨_, rfl⟩
  have HPL := Lib.hid hpl
  rw [hpl] at h64 hPc ⊢
  clear hP hb3 hPs hpl CO1
  have HMC2 := HMC.out
  go_wp2_with fail
  go_loopw [11, 12] (fun v i wr => ∃ (r k : Nat), r + k = m ∧ i = .int .i64 ((r : Int) - 1) ∧ Fr w3.heap.size 40 1 wr v k ((L.drop r).reverse.map clV) ∧ RowKit.Below w3.heap.size w3 wr) (fun _ i _ => (RowKit.intOf i + 1).toNat)
  case atStart => exact ⟨m, 0, by omega, rfl, by rw [List.drop_of_length_le (by rw [HLM.out]; exact Nat.le_refl _)]; exact Fr.zero _ _ _ _, Below.refl _ _⟩
  case round =>
    obtain ⟨r, k, hrk, rfl, hF, hB⟩ := hrel
    obtain ⟨va, vc, rfl⟩ := hF.shape
    obtain ⟨w4, rfl⟩ : ∃ x, x = wr := ⟨_, rfl⟩
    have HF := Lib.hid hF
    have HB4 := Lib.hid hB
    have HRK := Lib.hid hrk
    clear hF hB hrk
    cases r with
    | succ t =>
      have e1 : ((t + 1 : Nat) : Int) - 1 = (t : Int) := by omega
      rw [e1]
      have htm : t < m := by have := HRK.out; omega
      have htl : t < L.length := by rw [HLM.out]; exact htm
      have d0 : decide ((0 : Int) ≤ (t : Int)) = true := decide_eq_true (by omega)
      obtain ⟨x, hx⟩ : ∃ x, L[t] = x := ⟨_, rfl⟩
      have hkc4 := (HKC.out.below (HB3.out.trans (HB4.out.mono HB3.out.size)))
      obtain ⟨ba, off, rfl, hba, hcs⟩ := hkc4.sl (by rw [List.length_map]; omega)
      have c0 := hcs t (clV x) (by rw [List.getElem?_map, List.getElem?_eq_getElem htl, hx]; rfl)
      have hdr : (L.drop t).reverse.map clV = (L.drop (t + 1)).reverse.map clV ++ [clV x] := by
        rw [List.drop_eq_getElem_cons htl, List.reverse_cons, List.map_append, hx]; rfl
      have HDR := Lib.hid hdr
      obtain ⟨XA, xc, R⟩ := x
      unfold clV at c0
      dsimp only at c0
      obtain ⟨rl, hrl⟩ : ∃ z, R.length = z := ⟨_, rfl⟩
      rw [hrl] at c0
      have HRL := Lib.hid hrl
      clear hcs hkc4 hx hdr hrl e1
      go_wp2_with (at_builtin; refine wpList_append_fr rfl (.tmp 51) (.tmp 56) _ rfl w3.heap.size 40 i40 _ 24 Try.underlying34 hi40 y0 y1 y2 rfl (.slice va k vc) k _ rfl (HF.out.below ((Below.refl _ _).alloc (Nat.le_refl _) _)) (some ⟨w4.heap.size, 0, none⟩) 1 1 [.slice XA rl xc] rfl rfl (Sl.of_cells (CellsAt.new w4 _ _)) (fun h => by cases h) (fun u hu => by simp only [List.mem_cons, List.not_mem_nil, or_false] at hu; subst hu; rfl) (by have := HRK.out; simp only [maxLen]; omega) (by have := HRK.out; omega) (by have := HB4.out.size; simp; omega) ?_)
      intro v5 w5 hF5 hb5
      obtain ⟨a5, c5, rfl⟩ := hF5.shape
      have HB5 := Lib.hid ((HB4.out.alloc HB4.out.size _).trans hb5)
      have HF5 := Lib.hid hF5
      clear hF5 hb5
      go_wp2_with fail
      go_roundw
      case rel =>
        refine ⟨t, k + 1, by have := HRK.out; omega, rfl, ?_, HB5.out⟩
        rw [HDR.out]
        have h := HF5.out
        have e : clV ⟨XA, xc, R⟩ = .slice XA rl xc := by unfold clV; dsimp only; rw [HRL.out]
        rw [e]
        rw [← List.map_drop, ← List.map_reverse] at h
        exact h
      case measure => simp [RowKit.intOf]
    | zero =>
      have hk : k = m := by have := HRK.out; omega
      subst hk
      have d0 : decide ((0 : Int) ≤ ((0 : Nat) : Int) - 1) = false := by decide
      have hfr := HF.out
      rw [List.drop_zero] at hfr
      have hsl := hfr.sl (by rw [List.length_map, List.length_reverse]; exact HLM.out)
      have CO2 := CO.out L.reverse (fun x hx => List.mem_reverse.1 hx) (by rw [List.length_reverse, HLM.out]; omega) va vc w4 (HB3.out.trans (HB4.out.mono HB3.out.size)) hsl
      rw [List.length_reverse, HLM.out] at CO2
      have CO2 := Lib.hid CO2
      clear hfr hsl HF HRK
      go_wp2_with fail
      refine CO2.out.mono ?_
      rintro e w5 ⟨Q, hQ, hb5, hq⟩
      have hPQ : P = Q := HP.out.same hQ (fun r => by rw [mem_allR, mem_allR]; constructor <;> rintro ⟨x, hx, h⟩ <;> exact ⟨x, by simpa using hx, h⟩)
      subst hPQ
      rcases hq with ⟨_, QA, qc, rfl, hQs, hQc⟩ | ⟨h65, _⟩
      case inr => rw [HPL.out] at h65; omega
      have HB5 := Lib.hid ((HB4.out.mono (Nat.le_refl _)).trans (hb5.mono HB4.out.size))
      have HQS := Lib.hid hQs
      rw [HPL.out] at hQc ⊢
      clear hQ hb5 hQs CO2 CO
      obtain ⟨a1, a2, a3, am0, ha1, am2, ha2, am3, ha3, q0, q2, q3, v0, v3, v5, ra1, ra3⟩ := rem_facts a ha
      obtain ⟨b1, b2, b3, bm0, hb1, bm2, hb2, bm3, hb3, q1, q2', q4, v1, v3', v6, rb1, rb3⟩ := rem_facts b hb
      clear bm2 hb2 q2'
      go_upto_if 71 with fail
      go_cut [15, 16] (fun s15 s16 wx => ∃ x y : Int, s15 = .int .i32 x ∧ s16 = .int .i32 y ∧ (0 ≤ x ∧ x ≤ 1114111) ∧ (0 ≤ y ∧ y ≤ 1114111) ∧ wx = w5)
      case first =>
        by_cases hc : a2 = 0
        · have hc2 : (a2 == 0) = true := by rw [hc]; rfl
          go_wp2_with fail
          go_meet
          case rel => exact ⟨97 + a3, 97 + b3, rfl, rfl, ra3, rb3, rfl⟩
        · have hc2 : (a2 == 0) = false := beq_eq_false_iff_ne.2 hc
          go_wp2_with fail
          go_meet
          case rel => exact ⟨a1, b1, rfl, rfl, ra1, rb1, rfl⟩
      case rest =>
        obtain ⟨x, y, rfl, rfl, hx, hy, rfl⟩ := hcut
        obtain ⟨wv, rfl⟩ : ∃ z, z = wc := ⟨_, rfl⟩
        clear am0 bm0 am2 am3 bm3 ha1 hb1 ha2 ha3 hb3 ra1 rb1 ra3 rb3 q0 q1 q2 q3 q4 v0 v1 v3 v3' v5 v6 a2 a3 b3 b2 a1 b1 d0
        have hmay := HRT.out.may
        have hup := HP.out.up hmay
        have HBW := Lib.hid (HB3.out.trans (HB5.out.mono HB3.out.size))
        have HSW := Lib.hid (HPS.out.below HB5.out)
        obtain ⟨qx, hqx⟩ : ∃ z, partOf P x = z := ⟨_, rfl⟩
        obtain ⟨qy, hqy⟩ : ∃ z, partOf P y = z := ⟨_, rfl⟩
        have h64' : P.length ≤ 64 := by rw [HPL.out]; exact h64
        have hPc' : P.length ≤ pc := by rw [HPL.out]; exact hPc
        have ci : ∀ (z : Int) (W : World), Below wv.heap.size wv W → Calls Try.prog 7 #[.slice PA P.length pc, .int .i32 z] W fun e w' => e = .returned (.int .i64 (partOf P z : Nat)) ∧ Below W.heap.size W w' := fun z W hbW => index_any P PA pc z W (HSW.out.below hbW) hup.pos h64' hPc'
        have cw : ∀ (i : Int) (W : World), Below wv.heap.size wv W → Calls Try.prog 9 #[.slice PA P.length pc, .int .i64 i] W fun e w' => e = .returned (.int .i32 (lowAt P i)) ∧ w' = W := fun i W hbW => low_any P PA pc i W (HSW.out.below hbW)
        rw [HPL.out] at ci cw
        have CI := Lib.hid ci
        have CW := Lib.hid cw
        clear ci cw
        have C1 := Lib.hid (show ∀ W, Below wv.heap.size wv W → Calls Try.prog 7 #[.slice PA pl pc, .int .i32 x] W fun e w' => e = .returned (.int .i64 (qx : Nat)) ∧ Below W.heap.size W w' from fun W h => by have h := CI.out x W h; rw [hqx] at h; exact h)
        have C2 := Lib.hid (show ∀ W, Below wv.heap.size wv W → Calls Try.prog 7 #[.slice PA pl pc, .int .i32 y] W fun e w' => e = .returned (.int .i64 (qy : Nat)) ∧ Below W.heap.size W w' from fun W h => by have h := CI.out y W h; rw [hqy] at h; exact h)
        have HQX := Lib.hid hqx
        have HQY := Lib.hid hqy
        clear hqx hqy
        go_wp2_with fail
        refine (C1.out wv (Below.refl _ _)).mono ?_
        rintro e w6 ⟨rfl, hb6⟩
        go_wp2_with fail
        refine (C2.out w6 hb6).mono ?_
        rintro e w7 ⟨rfl, hb7⟩
        have HB7 := Lib.hid (below_then hb6 hb7)
        have alike : ∀ z u : Int, (0 ≤ z ∧ z ≤ 1114111) → (0 ≤ u ∧ u ≤ 1114111) → partOf P z = partOf P u → ∀ t ∈ L, hasB t.R z = hasB t.R u := by
          intro z u hz hu he t ht
          have h := HP.out.alike hmay (S := t.R) (fun r hr => mem_allR.2 ⟨t, ht, hr⟩) hz.1 hz.2 hu.1 hu.2 he
          rw [Bool.eq_iff_iff, hasB_iff, hasB_iff]
          exact h
        have HAL := Lib.hid alike
        clear hb6 hb7 alike
        obtain ⟨bq, hbq⟩ : ∃ z, ((qx : Int) == (qy : Int)) = z := ⟨_, rfl⟩
        have hbqn : (qx == qy) = bq := by rw [← hbq, Bool.eq_iff_iff, beq_iff_eq, beq_iff_eq]; omega
        have HBQ := Lib.hid hbqn
        go_upto_if 86 with fail
        go_cut [17] (fun _ wx => RowKit.Below wv.heap.size wv wx)
        case first =>
          clear hbq hbqn
          cases bq with
          | false =>
            go_wp2_with fail
            go_meet
            case rel => exact HB7.out
          | true =>
          have HQQ := Lib.hid (show qx = qy from beq_iff_eq.1 HBQ.out)
          go_wp2_with fail
          go_loopw [17] (fun v wr => ∃ i : Nat, i ≤ k ∧ v = .int .i64 (i : Int) ∧ RowKit.Below wv.heap.size wv wr) (fun v _ => k - (RowKit.intOf v).toNat)
          case atStart => exact ⟨0, Nat.zero_le _, rfl, HB7.out⟩
          case round =>
            obtain ⟨i, hik, rfl, hB⟩ := hrel
            obtain ⟨w8, rfl⟩ : ∃ z, z = wr := ⟨_, rfl⟩
            have HB8 := Lib.hid hB
            clear hB
            by_cases hlt : i < k
            case neg =>
              have di : decide ((i : Int) < (k : Int)) = false := decide_eq_false (by omega)
              have din : decide (i < k) = false := decide_eq_false hlt
              go_wp2_with fail
              go_meet
              case rel => exact HB8.out
            have di : decide ((i : Int) < (k : Int)) = true := decide_eq_true (by omega)
            have din : decide (i < k) = true := decide_eq_true hlt
            have hil : i < L.length := by rw [HLM.out]; exact hlt
            obtain ⟨t, ht⟩ : ∃ t, L[i] = t := ⟨_, rfl⟩
            have htm : t ∈ L := by rw [← ht]; exact List.getElem_mem hil
            have hkc8 := HKC.out.below (HBW.out.trans (HB8.out.mono HBW.out.size))
            have hal := HAL.out x y hx hy (by rw [HQX.out, HQY.out, HQQ.out]) t htm
            have hrs := hkc8.rs t htm
            obtain ⟨ba, off, rfl, hba, hcs⟩ := hkc8.sl (by rw [List.length_map]; omega)
            have c0 := hcs i (clV t) (by rw [List.getElem?_map, List.getElem?_eq_getElem hil, ht]; rfl)
            have hR12 := (HRT.out t htm).2
            obtain ⟨XA, xc, R⟩ := t
            unfold clV at c0
            dsimp only at c0 hal hrs hR12
            obtain ⟨rl, hrl⟩ : ∃ z, R.length = z := ⟨_, rfl⟩
            rw [hrl] at c0
            obtain ⟨bx, hbx⟩ : ∃ z, hasB R x = z := ⟨_, rfl⟩
            have hby : hasB R y = bx := by rw [← hal, hbx]
            have st : ∀ W, Below w8.heap.size w8 W → W.cell? ⟨ba, off + i, none⟩ = some (.slice XA rl xc) := fun W h => (h.cell (p := ⟨ba, off + i, none⟩) hba).trans c0
            have CH := Lib.hid (show ∀ (z : Int), hasB R z = bx → ∀ W, Kb w8 W → Calls Try.prog 13 #[.slice XA rl xc, .int .i32 z] W fun e w' => e = .returned (.bool bx) ∧ (w'.cell? ⟨ba, off + i, none⟩ = some (.slice XA rl xc) ∧ Kb w8 w') from fun z hz W hk => by
              refine (has_any R XA rl xc z W (hrs.below hk) hrl (by unfold maxLen; omega)).mono ?_
              rintro e w' ⟨rfl, hb'⟩
              exact ⟨by rw [hz], st _ (below_then hk hb'), below_then hk hb'⟩)
            have CHx := Lib.hid (CH.out x hbx)
            have CHy := Lib.hid (CH.out y hby)
            have hSd : w8.drew.cell? ⟨ba, off + i, none⟩ = some (.slice XA rl xc) ∧ Kb w8 w8.drew := ⟨st _ (Below.refl _ _).drew, (Below.refl _ _).drew⟩
            clear CH hal hrs hkc8 hcs hR12 hrl hbx hby ht htm st
            go_upto_region 23 with fail
            go_region_held3 (fun w' => w'.cell? ⟨ba, off + i, none⟩ = some (.slice XA rl xc) ∧ Kb w8 w') (first | assumption | go_keep) (first | (go_at_call 13; (with_reducible refine (CHx.out _ (by first | assumption | exact hSd.2 | exact hS9.2 | exact hS10.2)).mono ?_); rintro e w9 ⟨rfl, hS9⟩) | (go_at_call 13; (with_reducible refine (CHy.out _ (by first | assumption | exact hSd.2 | exact hS9.2 | exact hS10.2)).mono ?_); rintro e w10 ⟨rfl, hS10⟩))
            have HB9 := Lib.hid (HB8.out.trans (RowKit.Below.mono (show RowKit.Below w8.heap.size w8 w10 from hS10.2) HB8.out.size))
            clear hSd hS9 hS10 CHx CHy c0
            go_wp2_with fail
            go_roundw
            case rel => exact ⟨i + 1, by omega, by go_num, HB9.out⟩
            case measure => simp [RowKit.intOf]; omega
        case rest =>
          obtain ⟨w7', rfl⟩ : ∃ z, z = wc := ⟨_, rfl⟩
          have HC7 := Lib.hid hcut
          clear hcut HB7
          have hpt := hup.part hx.1
          rw [HQX.out, HPL.out] at hpt
          have hfind := hup.at_ qx (by rw [HPL.out]; exact hpt.1)
          have hmost := HP.out.most hmay qx (by rw [HPL.out]; exact hpt.1)
          have hlow0 : 0 ≤ P.getD qx 0 := by
            rcases Nat.eq_zero_or_pos qx with e | e
            · rw [e, hup.nought]; exact Int.le_refl _
            · have h1 := hup.rise 0 qx e (by rw [HPL.out]; exact hpt.1)
              rw [hup.nought] at h1; omega
          have hla : lowAt P (qx : Int) = P.getD qx 0 := by unfold lowAt; rw [if_pos ⟨by omega, by rw [HPL.out]; omega⟩, Int.toNat_natCast]
          obtain ⟨lv, hlv⟩ : ∃ z, P.getD qx 0 = z := ⟨_, rfl⟩
          rw [hlv] at hpt hfind hmost hlow0 hla
          have HLV := Lib.hid (And.intro hfind hla)
          have hlx := hpt.2.1
          clear hpt hfind hla hlv
          go_wp2_with fail
          go_loopw [18] (fun v wr => ∃ i : Nat, i ≤ k ∧ v = .int .i64 (i : Int) ∧ RowKit.Below wv.heap.size wv wr) (fun v _ => k - (RowKit.intOf v).toNat)
          case atStart => exact ⟨0, Nat.zero_le _, rfl, HC7.out⟩
          case round =>
            obtain ⟨i, hik, rfl, hB⟩ := hrel
            obtain ⟨w8, rfl⟩ : ∃ z, z = wr := ⟨_, rfl⟩
            have HB8 := Lib.hid hB
            clear hB
            by_cases hlt : i < k
            case neg =>
              have di : decide ((i : Int) < (k : Int)) = false := decide_eq_false (by omega)
              have din : decide (i < k) = false := decide_eq_false hlt
              have hps := HSW.out.below HB8.out
              have hqs := HQS.out.below HB8.out
              have cs := isame_any P P PA QA pc qc w8 hps hqs (by omega) (by omega)
              have cr : ∀ W, Below w8.heap.size w8 W → Calls Try.prog 8 #[.slice PA P.length pc] W fun e w' => e = .returned (.bool true) ∧ Below W.heap.size W w' := fun W h => by
                have h2 := pright_any P PA pc W (hps.below h) (by unfold maxLen; omega)
                rw [HP.out.right hmay h64'] at h2
                exact h2
              rw [decide_eq_true rfl, HPL.out] at cs
              rw [HPL.out] at cr
              have CS := Lib.hid cs
              have CR := Lib.hid cr
              have dlx : decide (lv ≤ x) = true := decide_eq_true hlx
              clear cs cr hps hqs
              go_wp2_with fail
              refine CS.out.mono ?_
              rintro e w9 ⟨rfl, hb9⟩
              have HB9 := Lib.hid hb9
              have CR9 := Lib.hid (CR.out w9 hb9)
              clear hb9 CS CR
              go_wp2_with fail
              refine CR9.out.mono ?_
              rintro e w10 ⟨rfl, hb10⟩
              have HB10 := Lib.hid (HB8.out.trans ((below_then HB9.out hb10).mono HB8.out.size))
              have C10 := Lib.hid (C1.out w10 HB10.out)
              clear hb10 CR9
              go_wp2_with fail
              refine C10.out.mono ?_
              rintro e w11 ⟨rfl, hb11⟩
              have HB11 := Lib.hid (HB10.out.trans (hb11.mono HB10.out.size))
              have C11 := Lib.hid (CW.out (qx : Int) w11 HB11.out)
              rw [HLV.out.2] at C11
              clear hb11 C10
              go_wp2_with fail
              refine C11.out.mono ?_
              rintro e w12 ⟨rfl, rfl⟩
              go_wp2_with fail
              go_ret
              exact ⟨rfl, HB2.out.trans ((HBW.out.trans (HB11.out.mono HBW.out.size)).mono HB2.out.size)⟩
            have di : decide ((i : Int) < (k : Int)) = true := decide_eq_true (by omega)
            have din : decide (i < k) = true := decide_eq_true hlt
            have hil : i < L.length := by rw [HLM.out]; exact hlt
            obtain ⟨t, ht⟩ : ∃ t, L[i] = t := ⟨_, rfl⟩
            have htm : t ∈ L := by rw [← ht]; exact List.getElem_mem hil
            have hkc8 := HKC.out.below (HBW.out.trans (HB8.out.mono HBW.out.size))
            have hal := HAL.out x lv hx ⟨hlow0, hmost⟩ (by rw [HQX.out, HLV.out.1]) t htm
            have hrs := hkc8.rs t htm
            obtain ⟨ba, off, rfl, hba, hcs⟩ := hkc8.sl (by rw [List.length_map]; omega)
            have c0 := hcs i (clV t) (by rw [List.getElem?_map, List.getElem?_eq_getElem hil, ht]; rfl)
            have hR12 := (HRT.out t htm).2
            obtain ⟨XA, xc, R⟩ := t
            unfold clV at c0
            dsimp only at c0 hal hrs hR12
            obtain ⟨rl, hrl⟩ : ∃ z, R.length = z := ⟨_, rfl⟩
            rw [hrl] at c0
            obtain ⟨bx, hbx⟩ : ∃ z, hasB R x = z := ⟨_, rfl⟩
            have hby : hasB R lv = bx := by rw [← hal, hbx]
            have st : ∀ W, Below w8.heap.size w8 W → W.cell? ⟨ba, off + i, none⟩ = some (.slice XA rl xc) := fun W h => (h.cell (p := ⟨ba, off + i, none⟩) hba).trans c0
            have CH := Lib.hid (show ∀ (z : Int), hasB R z = bx → ∀ W, Kb w8 W → Calls Try.prog 13 #[.slice XA rl xc, .int .i32 z] W fun e w' => e = .returned (.bool bx) ∧ (w'.cell? ⟨ba, off + i, none⟩ = some (.slice XA rl xc) ∧ Kb w8 w') from fun z hz W hk => by
              refine (has_any R XA rl xc z W (hrs.below hk) hrl (by unfold maxLen; omega)).mono ?_
              rintro e w' ⟨rfl, hb'⟩
              exact ⟨by rw [hz], st _ (below_then hk hb'), below_then hk hb'⟩)
            have CHx := Lib.hid (CH.out x hbx)
            have CHy := Lib.hid (CH.out lv hby)
            have C7 := Lib.hid (show ∀ W, Kb w8 W → Calls Try.prog 7 #[.slice PA pl pc, .int .i32 x] W fun e w' => e = .returned (.int .i64 (qx : Nat)) ∧ (w'.cell? ⟨ba, off + i, none⟩ = some (.slice XA rl xc) ∧ Kb w8 w') from fun W hk => by
              refine (C1.out W (HB8.out.trans (RowKit.Below.mono hk HB8.out.size))).mono ?_
              rintro e w' ⟨rfl, hb'⟩
              exact ⟨rfl, st _ (below_then hk hb'), below_then hk hb'⟩)
            have C9 := Lib.hid (show ∀ W, Kb w8 W → Calls Try.prog 9 #[.slice PA pl pc, .int .i64 (qx : Int)] W fun e w' => e = .returned (.int .i32 lv) ∧ (w'.cell? ⟨ba, off + i, none⟩ = some (.slice XA rl xc) ∧ Kb w8 w') from fun W hk => by
              refine (CW.out (qx : Int) W (HB8.out.trans (RowKit.Below.mono hk HB8.out.size))).mono ?_
              rintro e w' ⟨rfl, rfl⟩
              exact ⟨by rw [HLV.out.2], st _ hk, hk⟩)
            have hSd : w8.drew.cell? ⟨ba, off + i, none⟩ = some (.slice XA rl xc) ∧ Kb w8 w8.drew := ⟨st _ (Below.refl _ _).drew, (Below.refl _ _).drew⟩
            clear CH hal hrs hkc8 hcs hR12 hrl hbx hby ht htm st
            go_upto_region 28 with fail
            go_region_held3 (fun w' => w'.cell? ⟨ba, off + i, none⟩ = some (.slice XA rl xc) ∧ Kb w8 w') (first | assumption | go_keep) (first
              | (go_at_call 13; (with_reducible refine (CHx.out _ (by first | assumption | exact hSd.2 | exact hS9.2 | exact hS10.2 | exact hS11.2 | exact hS12.2)).mono ?_); rintro e w9 ⟨rfl, hS9⟩)
              | (go_at_call 7; (with_reducible refine (C7.out _ (by first | assumption | exact hSd.2 | exact hS9.2 | exact hS10.2 | exact hS11.2 | exact hS12.2)).mono ?_); rintro e w11 ⟨rfl, hS11⟩)
              | (go_at_call 9; (with_reducible refine (C9.out _ (by first | assumption | exact hSd.2 | exact hS9.2 | exact hS10.2 | exact hS11.2 | exact hS12.2)).mono ?_); rintro e w12 ⟨rfl, hS12⟩)
              | (go_at_call 13; (with_reducible refine (CHy.out _ (by first | assumption | exact hSd.2 | exact hS9.2 | exact hS10.2 | exact hS11.2 | exact hS12.2)).mono ?_); rintro e w10 ⟨rfl, hS10⟩))
            have HB9 := Lib.hid (HB8.out.trans (RowKit.Below.mono (show RowKit.Below w8.heap.size w8 w10 from hS10.2) HB8.out.size))
            clear hSd hS9 hS10 hS11 hS12 CHx CHy C7 C9 c0
            go_wp2_with fail
            go_roundw
            case rel => exact ⟨i + 1, by omega, by go_num, HB9.out⟩
            case measure => simp [RowKit.intOf]; omega
end Go.Proofs.Ytoamjlnmpklcdaa
