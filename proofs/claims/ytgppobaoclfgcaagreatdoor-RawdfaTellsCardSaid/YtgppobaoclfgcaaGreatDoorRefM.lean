/- the document's Find and State. Conditions: what each lemma says. -/
import Derived.Test.YtgppobaoclfgcaaGreatDoorStA
import Derived.Test.YtgppobaoclfgcaaGreatDoorBackT
import Derived.Test.YtgppobaoclfgcaaGreatDoorRunA
import Derived.Test.YtgppobaoclfgcaaGreatDoorMacD
import Derived.Deep.QuietTactic
import Derived.BigQuiet
import Derived.Deep.CutBlock
import Derived.Deep.DeepCutAuto
import Derived.Deep.RegionHeld3
set_option linter.unusedVariables false
set_option linter.unusedSimpArgs false
namespace Go.Proofs.YtgppobaoclfgcaaGreatDoor
open Go.RowKit Go.Lib
theorem Plain.allF_at : ∀ (n p : Nat) (l : List UInt8) (x : Plain.Rn), x ∈ Plain.allF n p l → x.2.1 ≤ p + 4 * n ∧ x.2.2 ≤ 4
  | 0, _, _, x, h => by simp [Plain.allF] at h
  | n + 1, p, l, x, h => by
    unfold Plain.allF at h
    split at h
    · cases h
    · have h4 := Plain.dec_four l
      rcases List.mem_cons.1 h with h | h
      · subst h; exact ⟨by dsimp only; omega, h4⟩
      · have := Plain.allF_at n _ _ x h; omega
/-- where the k-th of the states stands -/
def Plain.posL (L : List Plain.Rn) (k : Nat) : Nat := if k = 0 then 0 else (L.getD (k - 1) (0, 0, 0)).2.1 + (L.getD (k - 1) (0, 0, 0)).2.2
def RFindRes (P : List Int) (N : List (List Int)) (C : List Bool) (L : List Plain.Rn) (w : World) (e : Ending) (w' : World) : Prop :=
  Below w.heap.size w w' ∧ (Plain.tabRight P N C.length = true →
    (∃ k, k ≤ L.length ∧ C.getD (Plain.stk P N L k) false = true ∧ (∀ j, j < k → C.getD (Plain.stk P N L j) false = false) ∧ e = .returned (.tuple #[.int .i64 ((Plain.posL L k : Nat) : Int), .bool true])) ∨
    ((∀ j, j ≤ L.length → C.getD (Plain.stk P N L j) false = false) ∧ e = .returned (.tuple #[.int .i64 0, .bool false]))) ∧ (Plain.tabRight P N C.length = false → e = .returned (.tuple #[.int .i64 0, .bool false]))
set_option maxRecDepth 1000000 in
set_option maxHeartbeats 8000000 in
theorem rfind_any (PA : Option Addr) (P : List Int) (pc : Nat) (NA : Option Addr) (R : List Row) (nc : Nat) (AA : Option Addr) (C : List Bool) (ac : Nat) (s : ByteArray) (w : World) (hT : TabAt w PA P NA R AA C) (hs : s.size ≤ 1048576) (L : List Plain.Rn) (hL : Plain.allA 0 s.data.toList = L) :
    Calls Tryz.prog 26 #[tabV PA P pc NA R nc AA C ac, .string s] w (RFindRes P (nums R) C L w) := by
  have hsl : s.data.toList.length = s.size := by simp
  have hLn : L.length ≤ 1048576 := by
    rw [← hL]; unfold Plain.allA
    have := Plain.allF_len s.data.toList.length 0 s.data.toList
    omega
  have hLx : ∀ x ∈ L, x.2.1 ≤ 4194304 ∧ x.2.2 ≤ 4 := fun x hx => by
    rw [← hL] at hx
    have := Plain.allF_at s.data.toList.length 0 s.data.toList x hx
    omega
  obtain ⟨p, hp⟩ : ∃ x, P.length = x := ⟨_, rfl⟩
  obtain ⟨m, hm⟩ : ∃ x, R.length = x := ⟨_, rfl⟩
  obtain ⟨a, ha⟩ : ∃ x, C.length = x := ⟨_, rfl⟩
  obtain ⟨n, hn⟩ : ∃ x, L.length = x := ⟨_, rfl⟩
  have HT := Lib.hid hT
  have HP := Lib.hid hp
  have HM := Lib.hid hm
  have HA := Lib.hid ha
  have HNN := Lib.hid hn
  have HL := Lib.hid hL
  have HLX := Lib.hid hLx
  have hnm : (nums R).length = m := by rw [← hm]; simp [nums]
  have HNM := Lib.hid hnm
  have hT0 := hT.below (below_alloc (Below.refl w.heap.size w) (.cells #[.slice PA p pc, .slice NA m nc, .slice AA a ac] 85))
  have cT := rstates_any PA P pc NA R nc AA C ac s _ hT0 hs L hL
  have hb0 := below_alloc (Below.refl w.heap.size w) (.cells #[.slice PA p pc, .slice NA m nc, .slice AA a ac] 85)
  have hx0 : (w.alloc (.cells #[.slice PA p pc, .slice NA m nc, .slice AA a ac] 85)).heap[w.heap.size]? = some (.cells #[.slice PA p pc, .slice NA m nc, .slice AA a ac] 85 (0, 0)) := heap_alloc_new2 _ _ _ _ rfl
  unfold tabV at cT ⊢
  rw [hp, hm, ha] at cT ⊢
  rw [hn] at hLn
  unfold RFindRes
  rw [ha, hn]
  obtain ⟨w0, hw0⟩ : ∃ v, w.alloc (.cells #[.slice PA p pc, .slice NA m nc, .slice AA a ac] 85) = v := ⟨_, rfl⟩
  rw [hw0] at cT hb0 hT0 hx0
  obtain ⟨fb, hfb⟩ : ∃ x, w.heap.size = x := ⟨_, rfl⟩
  have hx1 := hx0
  rw [hfb] at hx1
  have HX1 := Lib.hid hx1
  have HB0 := Lib.hid hb0
  have HCT := Lib.hid cT
  have HFB := Lib.hid hfb
  have HW0 := Lib.hid hw0
  obtain ⟨k0, k1, k2⟩ := blk_cells3 hx1
  have lfb := lt_of_some hx1
  have HLF := Lib.hid lfb
  clear hT hp hm ha hn hL hnm hT0 cT hb0 hw0 hfb hx0 hx1 hLx hsl
  obtain ⟨tr, htr⟩ : ∃ t, Plain.tabRight P (nums R) a = t := ⟨_, rfl⟩
  have HTR := Lib.hid htr
  unfold StatesRes at HCT
  rw [htr, HNN.out] at HCT
  have HCR := Lib.hid (fun W => rall_form s W L n hs HL.out HNN.out)
  clear htr
  cases tr
  · go_enter Tryz.func26, Tryz.ntmps26
    go_upto_region 1 with fail
    rw [HW0.out, HFB.out]
    go_upto_region 2 with (go_at_call 27; refine HCT.out.mono ?_; rintro e w5 ⟨hb5, _, h5⟩; obtain rfl := h5 rfl)
    have HB5 := Lib.hid (HB0.out.trans (hb5.mono HB0.out.size))
    clear hb5 h5 HCT
    go_upto_region 3 with (go_at_call 53; refine (HCR.out _).mono ?_; rintro e w6 ⟨la, lc, rfl, hl6, hb6⟩)
    have HB6 := Lib.hid (HB5.out.trans (hb6.mono HB5.out.size))
    clear hb6 hl6
    go_wp2_with fail
    go_loopw [8] (fun i wr => i = .int .i64 0 ∧ wr = w6) (fun _ _ => 0)
    case atStart => exact ⟨rfl, rfl⟩
    case round =>
      obtain ⟨rfl, rfl⟩ := hrel
      go_wp2_with fail
      refine bodyPost_ret (v := .tuple #[.int .i64 0, .bool false]) (by simp [results, Tryz.results26, go_sem]) rfl ?_
      exact ⟨HB6.out, (fun h => by rw [HTR.out] at h; cases h), fun _ => rfl⟩
  go_enter Tryz.func26, Tryz.ntmps26
  go_upto_region 1 with fail
  rw [HW0.out, HFB.out]
  go_upto_region 2 with (go_at_call 27; refine HCT.out.mono ?_; rintro e w5 ⟨hb5, h5, _⟩; obtain ⟨gs, sc, rfl, hsc⟩ := h5 rfl)
  have HB5 := Lib.hid (HB0.out.trans (hb5.mono HB0.out.size))
  have hf5 := blk_later HX1.out hb5
  have HX5 := Lib.hid hf5
  have HSC := Lib.hid hsc
  clear hb5 h5 HCT hf5 hsc k0 k1 k2 lfb
  go_upto_region 3 with (go_at_call 53; refine (HCR.out _).mono ?_; rintro e w6 ⟨la, lc, rfl, hl6, hb6⟩)
  have HB6 := Lib.hid (HB5.out.trans (hb6.mono HB5.out.size))
  have hfx := blk_later HX5.out hb6
  have HX6 := Lib.hid hfx
  have HS6 := Lib.hid (HSC.out.below hb6)
  have HL6 := Lib.hid hl6
  clear hb6 hl6 HCR
  obtain ⟨k0, k1, k2⟩ := blk_cells3 hfx
  have lfb := lt_of_some hfx
  have hma : m = a := by
    have h1 := (Plain.tab_right P (nums R) a HTR.out).2.1
    rw [HNM.out] at h1
    exact h1
  have HMA := Lib.hid hma
  clear hfx hma
  go_wp2_with fail
  go_loopw [8] (fun i wr => ∃ k : Nat, k ≤ n + 1 ∧ i = .int .i64 k ∧ (∀ j, j < k → C.getD (Plain.stk P (nums R) L j) false = false) ∧ wr.heap = w6.heap ∧ Below w.heap.size w wr) (fun i _ => n + 1 - (RowKit.intOf i).toNat)
  case atStart => exact ⟨0, Nat.zero_le _, rfl, fun j h => absurd h (by omega), rfl, HB6.out⟩
  case round =>
    obtain ⟨k, hk, rfl, hno, hwe, hbw⟩ := hrel
    have HWE := Lib.hid hwe
    have HBW := Lib.hid hbw
    clear hwe hbw
    have HNO := Lib.hid hno
    clear hno
    by_cases hlt : k < n + 1
    case neg =>
      obtain rfl : k = n + 1 := by omega
      have d0 : decide (((n + 1 : Nat) : Int) < ((n + 1 : Nat) : Int)) = false := decide_eq_false (by omega)
      go_wp2_with fail
      refine bodyPost_ret (v := .tuple #[.int .i64 0, .bool false]) (by simp [results, Tryz.results26, go_sem]) rfl ?_
      exact ⟨HBW.out, fun _ => .inr ⟨fun j hj => HNO.out j (by omega), rfl⟩, fun h => absurd (h.symm.trans HTR.out) (by decide)⟩
    obtain ⟨y, hy⟩ : ∃ y, Plain.stk P (nums R) L k = y := ⟨_, rfl⟩
    have hyl : y < a := by rw [← hy, ← HMA.out, ← HNM.out]; exact Plain.stk_lt P (nums R) a HTR.out L k (by rw [HNN.out]; omega)
    have hyC : y < C.length := by rw [HA.out]; exact hyl
    obtain ⟨ab, ao, hae, hab, habc⟩ := HT.out.acc (by rw [List.length_map, HA.out]; omega)
    subst hae
    obtain ⟨b, hb⟩ : ∃ b, C.getD y false = b := ⟨_, rfl⟩
    have c1 := (HB6.out.cell (p := ⟨ab, ao + y, none⟩) hab).trans (habc y (.bool b) (by rw [List.getElem?_map, List.getElem?_eq_getElem hyC, ← hb, Plain.getD_lt C false y hyC]; rfl))
    have c2 := HS6.out.2 k (.int .i64 (y : Int)) (by unfold i64s; rw [List.getElem?_map, Plain.states_get _ _ _ _ _ (by omega), hy]; rfl)
    have lgs := HS6.out.1
    have hbE : C.getD (Plain.stk P (nums R) L k) false = b := by rw [hy]; exact hb
    have HBE := Lib.hid hbE
    have d0 : decide ((k : Int) < ((n + 1 : Nat) : Int)) = true := decide_eq_true (by omega)
    have d1 : decide ((k : Int) < (n : Int) + 1) = true := decide_eq_true (by omega)
    have d2 : decide (k < n + 1) = true := decide_eq_true hlt
    have g0 : (0 : Int) ≤ (k : Int) := by omega
    have g1 : (k : Int) < ((n + 1 : Nat) : Int) := by omega
    have g1b : (k : Int) < (n : Int) + 1 := by omega
    have g2 : (0 : Int) ≤ (y : Int) := by omega
    have g3 : (y : Int) < (a : Int) := by omega
    clear hy habc hb hbE
    go_upto_region 6 with fail
    have HF6 := Lib.hid (fun (w' : World) (h : w'.heap = w6.heap) => (⟨by unfold World.cell?; rw [h]; exact k2, by unfold World.cell?; rw [h]; exact c2, by unfold World.cell?; rw [h]; exact c1⟩ : w'.cell? ⟨fb, 2, none⟩ = some (.slice (some ⟨ab, ao, none⟩) a ac) ∧ w'.cell? ⟨gs, k, none⟩ = some (.int .i64 (y : Int)) ∧ w'.cell? ⟨ab, ao + y, none⟩ = some (.bool b)))

    have HFW := Lib.hid (show (World.drew wr).heap = w6.heap from HWE.out)
    have HBD := Lib.hid (Below.drew HBW.out)
    refine wp_region_noPanic ?_
    refine wp_region_T 8 (S := (fun w' : World => w'.heap = w6.heap)) (by kernel_rfl) (by decide) ?_
    refine wpAnyT_take2 0 (v := ?tvxa0) (by kernel_rfl) rfl (by kernel_rfl) (fun _ _ _ h => h) (Or.inl ⟨by rfl, ?tyxa0⟩) HFW.out ?trxa0
    case tyxa0 => (intro w' hSw; (try dsimp only at hSw); go_simp; try with_reducible rfl)
    try simp only [Act.put, List.setIfInBounds_toArray, List.set_cons_zero, List.set_cons_succ]
    refine wpAnyT_take2 1 (v := ?tvxa1) (by kernel_rfl) rfl (by kernel_rfl) (fun _ _ _ h => h) (Or.inl ⟨by rfl, ?tyxa1⟩) HFW.out ?trxa1
    case tyxa1 => (intro w' hSw; obtain ⟨f0, f1, f2⟩ := HF6.out w' hSw; (try dsimp only at hSw); go_simp; try with_reducible rfl)
    try simp only [Act.put, List.setIfInBounds_toArray, List.set_cons_zero, List.set_cons_succ]
    refine wpAnyT_take2 2 (v := ?tvxa2) (by kernel_rfl) rfl (by kernel_rfl) (fun _ _ _ h => h) (Or.inl ⟨by rfl, ?tyxa2⟩) HFW.out ?trxa2
    case tyxa2 => (intro w' hSw; (try dsimp only at hSw); go_simp; try with_reducible rfl)
    try simp only [Act.put, List.setIfInBounds_toArray, List.set_cons_zero, List.set_cons_succ]
    refine wpAnyT_take2 3 (v := ?tvxa3) (by kernel_rfl) rfl (by kernel_rfl) (fun _ _ _ h => h) (Or.inl ⟨by rfl, ?tyxa3⟩) HFW.out ?trxa3
    case tyxa3 => (intro w' hSw; (try dsimp only at hSw); go_simp; try with_reducible rfl)
    try simp only [Act.put, List.setIfInBounds_toArray, List.set_cons_zero, List.set_cons_succ]
    refine wpAnyT_take2 4 (v := ?tvxa4) (by kernel_rfl) rfl (by kernel_rfl) (fun _ _ _ h => h) (Or.inl ⟨by rfl, ?tyxa4⟩) HFW.out ?trxa4
    case tyxa4 => (intro w' hSw; (try dsimp only at hSw); go_simp; try with_reducible rfl)
    try simp only [Act.put, List.setIfInBounds_toArray, List.set_cons_zero, List.set_cons_succ]
    refine wpAnyT_take2 5 (v := ?tvxa5) (by kernel_rfl) rfl (by kernel_rfl) (fun _ _ _ h => h) (Or.inl ⟨by rfl, ?tyxa5⟩) HFW.out ?trxa5
    case tyxa5 => (intro w' hSw; obtain ⟨f0, f1, f2⟩ := HF6.out w' hSw; (try dsimp only at hSw); go_simp; try with_reducible rfl)
    try simp only [Act.put, List.setIfInBounds_toArray, List.set_cons_zero, List.set_cons_succ]
    refine wpAnyT_take2 6 (v := ?tvxa6) (by kernel_rfl) rfl (by kernel_rfl) (fun _ _ _ h => h) (Or.inl ⟨by rfl, ?tyxa6⟩) HFW.out ?trxa6
    case tyxa6 => (intro w' hSw; (try dsimp only at hSw); go_simp; try with_reducible rfl)
    try simp only [Act.put, List.setIfInBounds_toArray, List.set_cons_zero, List.set_cons_succ]
    refine wpAnyT_take2 7 (v := ?tvxa7) (by kernel_rfl) rfl (by kernel_rfl) (fun _ _ _ h => h) (Or.inl ⟨by rfl, ?tyxa7⟩) HFW.out ?trxa7
    case tyxa7 => (intro w' hSw; obtain ⟨f0, f1, f2⟩ := HF6.out w' hSw; (try dsimp only at hSw); go_simp; try with_reducible rfl)
    try simp only [Act.put, List.setIfInBounds_toArray, List.set_cons_zero, List.set_cons_succ]

    refine ⟨by kernel_rfl, ?_⟩
    change wpList _ _ _ [_] _ _
    obtain ⟨wd, hwd⟩ : ∃ v, World.drew wr = v := ⟨_, rfl⟩
    rw [hwd] at HFW HBD ⊢
    clear hwd
    cases b
    · go_wp2
      refine NoPanic.normal ?_
      go_wp2_with fail
      go_roundw
      case rel =>
        refine ⟨k + 1, by omega, by go_num, fun j hj => ?_, HFW.out, HBD.out⟩
        rcases Nat.lt_or_ge j k with h | h
        · exact HNO.out j h
        · obtain rfl : j = k := by omega
          exact HBE.out
      case measure => simp [RowKit.intOf]; omega
    · by_cases hk0 : k = 0
      · have e0 : ((k : Int) == 0) = true := by simp [hk0]
        go_wp2
        refine NoPanic.normal ?_
        go_wp2_with fail
        refine bodyPost_ret (v := .tuple #[.int .i64 0, .bool true]) (by simp [results, Tryz.results26, go_sem]) rfl ?_
        exact ⟨HBD.out, fun _ => .inl ⟨k, by omega, HBE.out, HNO.out, by rw [hk0]; rfl⟩, fun h => absurd (h.symm.trans HTR.out) (by decide)⟩
      · have e0 : ((k : Int) == 0) = false := by simp; omega
        obtain ⟨j, hj⟩ : ∃ j, k = j + 1 := ⟨k - 1, by omega⟩
        have hjL : j < L.length := by rw [HNN.out]; omega
        obtain ⟨gl, hla, hlc, hls⟩ := HL6.out (by omega)
        subst hla
        obtain ⟨x, hx⟩ : ∃ x, L[j]? = some x := ⟨_, List.getElem?_eq_getElem hjL⟩
        obtain ⟨_, q1, q2⟩ := rcells_get L j x hx
        obtain ⟨u1, hu1⟩ : ∃ u, x.2.1 = u := ⟨_, rfl⟩
        obtain ⟨u2, hu2⟩ : ∃ u, x.2.2 = u := ⟨_, rfl⟩
        obtain ⟨l1, l2⟩ := HLX.out x (List.mem_of_getElem? hx)
        rw [hu1] at q1 l1
        rw [hu2] at q2 l2
        have hpos : Plain.posL L k = u1 + u2 := by
          unfold Plain.posL
          rw [if_neg hk0, show k - 1 = j by omega]
          have : L.getD j (0, 0, 0) = x := by rw [List.getD_eq_getElem?_getD, hx]; rfl
          rw [this, hu1, hu2]
        have HPOS := Lib.hid hpos
        have c5 := hls.2 (j * 3 + 1) _ q1
        have c6 := hls.2 (j * 3 + 2) _ q2
        have hwj : IntKind.i64.wrap ((k : Int) - 1) = (j : Int) := by rw [IntKind.wrap_i64]; omega
        have hwu : IntKind.i64.wrap ((u1 : Int) + (u2 : Int)) = ((u1 + u2 : Nat) : Int) := by rw [IntKind.wrap_i64]; omega
        have g4 : (0 : Int) ≤ (j : Int) := by omega
        have g5 : (j : Int) < (n : Int) := by omega
        have HF9 := Lib.hid (fun (w' : World) (h : w'.heap = w6.heap) => (⟨by unfold World.cell?; rw [h]; exact c5, by unfold World.cell?; rw [h]; exact c6⟩ : w'.cell? ⟨gl, j * 3 + 1, none⟩ = some (.int .i64 (u1 : Int)) ∧ w'.cell? ⟨gl, j * 3 + 2, none⟩ = some (.int .i64 (u2 : Int))))
        clear hj hls hx q1 q2 hu1 hu2 hpos
        go_wp2
        refine NoPanic.normal ?_
        go_upto_region 9 with fail
        have HFW2 := Lib.hid (show (World.drew wd).heap = w6.heap from HFW.out)
        have HBD2 := Lib.hid (Below.drew HBD.out)

        refine wp_region_noPanic ?_
        refine wp_region_T 13 (S := (fun w' : World => w'.heap = w6.heap)) (by kernel_rfl) (by decide) ?_
        refine wpAnyT_take2 0 (v := ?tvxb0) (by kernel_rfl) rfl (by kernel_rfl) (fun _ _ _ h => h) (Or.inl ⟨by rfl, ?tyxb0⟩) HFW2.out ?trxb0
        case tyxb0 => (intro w' hSw; (try dsimp only at hSw); go_simp; try with_reducible rfl)
        try simp only [Act.put, List.setIfInBounds_toArray, List.set_cons_zero, List.set_cons_succ]
        refine wpAnyT_take2 1 (v := ?tvxb1) (by kernel_rfl) rfl (by kernel_rfl) (fun _ _ _ h => h) (Or.inl ⟨by rfl, ?tyxb1⟩) HFW2.out ?trxb1
        case tyxb1 => (intro w' hSw; (try dsimp only at hSw); go_simp; try with_reducible rfl)
        try simp only [Act.put, List.setIfInBounds_toArray, List.set_cons_zero, List.set_cons_succ]
        refine wpAnyT_take2 2 (v := ?tvxb2) (by kernel_rfl) rfl (by kernel_rfl) (fun _ _ _ h => h) (Or.inl ⟨by rfl, ?tyxb2⟩) HFW2.out ?trxb2
        case tyxb2 => (intro w' hSw; (try dsimp only at hSw); go_simp; try with_reducible rfl)
        try simp only [Act.put, List.setIfInBounds_toArray, List.set_cons_zero, List.set_cons_succ]
        refine wpAnyT_take2 3 (v := ?tvxb3) (by kernel_rfl) rfl (by kernel_rfl) (fun _ _ _ h => h) (Or.inl ⟨by rfl, ?tyxb3⟩) HFW2.out ?trxb3
        case tyxb3 => (intro w' hSw; (try dsimp only at hSw); go_simp; try with_reducible rfl)
        try simp only [Act.put, List.setIfInBounds_toArray, List.set_cons_zero, List.set_cons_succ]
        refine wpAnyT_take2 4 (v := ?tvxb4) (by kernel_rfl) rfl (by kernel_rfl) (fun _ _ _ h => h) (Or.inl ⟨by rfl, ?tyxb4⟩) HFW2.out ?trxb4
        case tyxb4 => (intro w' hSw; (try dsimp only at hSw); go_simp; try with_reducible rfl)
        try simp only [Act.put, List.setIfInBounds_toArray, List.set_cons_zero, List.set_cons_succ]
        refine wpAnyT_take2 5 (v := ?tvxb5) (by kernel_rfl) rfl (by kernel_rfl) (fun _ _ _ h => h) (Or.inl ⟨by rfl, ?tyxb5⟩) HFW2.out ?trxb5
        case tyxb5 => (intro w' hSw; obtain ⟨f0, f1⟩ := HF9.out w' hSw; (try dsimp only at hSw); go_simp; try with_reducible rfl)
        try simp only [Act.put, List.setIfInBounds_toArray, List.set_cons_zero, List.set_cons_succ]
        refine wpAnyT_take2 6 (v := ?tvxb6) (by kernel_rfl) rfl (by kernel_rfl) (fun _ _ _ h => h) (Or.inl ⟨by rfl, ?tyxb6⟩) HFW2.out ?trxb6
        case tyxb6 => (intro w' hSw; (try dsimp only at hSw); go_simp; try with_reducible rfl)
        try simp only [Act.put, List.setIfInBounds_toArray, List.set_cons_zero, List.set_cons_succ]
        refine wpAnyT_take2 7 (v := ?tvxb7) (by kernel_rfl) rfl (by kernel_rfl) (fun _ _ _ h => h) (Or.inl ⟨by rfl, ?tyxb7⟩) HFW2.out ?trxb7
        case tyxb7 => (intro w' hSw; (try dsimp only at hSw); go_simp; try with_reducible rfl)
        try simp only [Act.put, List.setIfInBounds_toArray, List.set_cons_zero, List.set_cons_succ]
        refine wpAnyT_take2 8 (v := ?tvxb8) (by kernel_rfl) rfl (by kernel_rfl) (fun _ _ _ h => h) (Or.inl ⟨by rfl, ?tyxb8⟩) HFW2.out ?trxb8
        case tyxb8 => (intro w' hSw; (try dsimp only at hSw); go_simp; try with_reducible rfl)
        try simp only [Act.put, List.setIfInBounds_toArray, List.set_cons_zero, List.set_cons_succ]
        refine wpAnyT_take2 9 (v := ?tvxb9) (by kernel_rfl) rfl (by kernel_rfl) (fun _ _ _ h => h) (Or.inl ⟨by rfl, ?tyxb9⟩) HFW2.out ?trxb9
        case tyxb9 => (intro w' hSw; (try dsimp only at hSw); go_simp; try with_reducible rfl)
        try simp only [Act.put, List.setIfInBounds_toArray, List.set_cons_zero, List.set_cons_succ]
        refine wpAnyT_take2 10 (v := ?tvxb10) (by kernel_rfl) rfl (by kernel_rfl) (fun _ _ _ h => h) (Or.inl ⟨by rfl, ?tyxb10⟩) HFW2.out ?trxb10
        case tyxb10 => (intro w' hSw; (try dsimp only at hSw); go_simp; try with_reducible rfl)
        try simp only [Act.put, List.setIfInBounds_toArray, List.set_cons_zero, List.set_cons_succ]
        refine wpAnyT_take2 11 (v := ?tvxb11) (by kernel_rfl) rfl (by kernel_rfl) (fun _ _ _ h => h) (Or.inl ⟨by rfl, ?tyxb11⟩) HFW2.out ?trxb11
        case tyxb11 => (intro w' hSw; obtain ⟨f0, f1⟩ := HF9.out w' hSw; (try dsimp only at hSw); go_simp; try with_reducible rfl)
        try simp only [Act.put, List.setIfInBounds_toArray, List.set_cons_zero, List.set_cons_succ]
        refine wpAnyT_take2 12 (v := ?tvxb12) (by kernel_rfl) rfl (by kernel_rfl) (fun _ _ _ h => h) (Or.inl ⟨by rfl, ?tyxb12⟩) HFW2.out ?trxb12
        case tyxb12 => (intro w' hSw; (try dsimp only at hSw); go_simp; try with_reducible rfl)
        try simp only [Act.put, List.setIfInBounds_toArray, List.set_cons_zero, List.set_cons_succ]

        refine ⟨by kernel_rfl, ?_⟩
        change wpList _ _ _ [_, _] _ _
        go_wp2
        refine NoPanic.normal ?_
        go_wp2_with fail
        refine bodyPost_ret (v := .tuple #[.int .i64 ((u1 + u2 : Nat) : Int), .bool true]) (by simp [results, Tryz.results26, go_sem]) rfl ?_
        exact ⟨HBD2.out, fun _ => .inl ⟨k, by omega, HBE.out, HNO.out, by rw [HPOS.out]⟩, fun h => absurd (h.symm.trans HTR.out) (by decide)⟩
end Go.Proofs.YtgppobaoclfgcaaGreatDoor
namespace Go.Proofs.YtgppobaoclfgcaaGreatDoor.Plain
open Go.Lib
/-- what is found, by the list of runes -/
def findL (P : List Int) (N : List (List Int)) (C : List Bool) : List Rn → Nat → Nat → Option Nat
  | [], q, at_ => if C.getD q false then some at_ else none
  | x :: t, q, at_ => if C.getD q false then some at_ else findL P N C t (nextS P N q x.1) (x.2.1 + x.2.2)
theorem findL_none (P : List Int) (N : List (List Int)) (C : List Bool) (L : List Rn) : ∀ (q at_ : Nat), (∀ j, j ≤ L.length → C.getD ((L.take j).foldl (fun y x => nextS P N y x.1) q) false = false) → findL P N C L q at_ = none := by
  induction L with
  | nil => intro q at_ h; have := h 0 (Nat.le_refl _); unfold findL; rw [show C.getD q false = false from this]; rfl
  | cons x t ih =>
    intro q at_ h
    unfold findL
    rw [show C.getD q false = false from h 0 (Nat.zero_le _)]
    exact ih _ _ fun j hj => h (j + 1) (by simpa using hj)
theorem findL_some (P : List Int) (N : List (List Int)) (C : List Bool) (L : List Rn) : ∀ (q at_ k : Nat), k ≤ L.length → C.getD ((L.take k).foldl (fun y x => nextS P N y x.1) q) false = true → (∀ j, j < k → C.getD ((L.take j).foldl (fun y x => nextS P N y x.1) q) false = false) →
    findL P N C L q at_ = some (if k = 0 then at_ else (L.getD (k - 1) (0, 0, 0)).2.1 + (L.getD (k - 1) (0, 0, 0)).2.2) := by
  induction L with
  | nil =>
    intro q at_ k hk h _
    obtain rfl : k = 0 := by simpa using hk
    unfold findL; rw [show C.getD q false = true from h]; rfl
  | cons x t ih =>
    intro q at_ k hk h hno
    unfold findL
    cases k with
    | zero => rw [show C.getD q false = true from h]; rfl
    | succ k =>
      rw [show C.getD q false = false from hno 0 (by omega)]
      have := ih (nextS P N q x.1) (x.2.1 + x.2.2) k (by simpa using hk) h fun j hj => hno (j + 1) (by omega)
      rw [if_neg (by decide), this]
      cases k with
      | zero => rfl
      | succ k => rfl
theorem goes_next {F K A : List Int} (h : Right F K A) (q r : Nat) (hq : q < A.length) : goes F K (F.length * q) r = F.length * nextS F (rowsOf K F.length A.length) q r ∧ nextS F (rowsOf K F.length A.length) q r < A.length := by
  have hlt := partOf_lt F r h.p0
  have hle : F.length * q + F.length ≤ K.length := by
    rw [h.len, ← Nat.mul_succ]; exact Nat.mul_le_mul_left _ hq
  obtain ⟨q', h1, h2⟩ := h.cell (F.length * q + partOf F r) (by omega)
  have hrow : (rowsOf K F.length A.length).getD q [] = ((K.drop (q * F.length)).take F.length).map fun x => x / (F.length : Int) := by
    unfold rowsOf
    rw [List.getD_eq_getElem?_getD, List.getElem?_map, List.getElem?_range hq]; rfl
  have hget : ((rowsOf K F.length A.length).getD q []).getD (partOf F r) 0 = (q' : Int) := by
    rw [hrow, List.getD_eq_getElem?_getD, List.getElem?_map, List.getElem?_take_of_lt hlt, List.getElem?_drop, Nat.mul_comm q, List.getElem?_eq_getElem (show F.length * q + partOf F r < K.length by omega)]
    rw [getD_lt K 0 _ (by omega)] at h1
    rw [h1]
    show ((F.length * q' : Nat) : Int) / (F.length : Int) = q'
    rw [Int.natCast_mul, Int.mul_ediv_cancel_left]
    have := h.p0; omega
  unfold goes nextS
  rw [h1, hget, Int.toNat_natCast, Int.toNat_natCast]
  exact ⟨rfl, h2⟩
theorem accd_get {F K A : List Int} (h : Right F K A) (q : Nat) (hq : q < A.length) : accd F A (F.length * q) = (A.map fun x => x == 1).getD q false := by
  unfold accd
  rw [Nat.mul_div_cancel_left _ h.p0, List.getD_eq_getElem?_getD, List.getD_eq_getElem?_getD, List.getElem?_map, List.getElem?_eq_getElem hq]; rfl
theorem findN_L {F K A : List Int} (h : Right F K A) : ∀ (n : Nat) (l : List UInt8) (q at_ : Nat), l.length ≤ n → q < A.length → findN F K A n l (F.length * q) at_ = findL F (rowsOf K F.length A.length) (A.map fun x => x == 1) (allA at_ l) q at_ := by
  intro n
  induction n with
  | zero =>
    intro l q at_ hl hq
    obtain rfl : l = [] := List.eq_nil_of_length_eq_zero (by omega)
    rw [allA_nil]; unfold findN findL; rw [accd_get h q hq]
  | succ n ih =>
    intro l q at_ hl hq
    by_cases hne : l = []
    · subst hne
      rw [allA_nil]; unfold findN findL; rw [accd_get h q hq]; rfl
    · obtain ⟨h1, h2⟩ := goes_next h q (decodeL l).1 hq
      have hw := dec_pos l
      have h0 : 0 < l.length := List.length_pos_iff.2 hne
      rw [allA_step at_ l hne]
      unfold findN findL
      rw [accd_get h q hq, h1, ih _ _ _ (by rw [List.length_drop]; omega) h2]
      cases (A.map fun x => x == 1).getD q false
      · cases l with
        | nil => exact absurd rfl hne
        | cons b t => rfl
      · rfl
theorem stateN_L {F K A : List Int} (h : Right F K A) : ∀ (n : Nat) (l : List UInt8) (q at_ : Nat), l.length ≤ n → q < A.length → stateN F K n l (F.length * q) = F.length * (allA at_ l).foldl (fun y x => nextS F (rowsOf K F.length A.length) y x.1) q := by
  intro n
  induction n with
  | zero =>
    intro l q at_ hl hq
    obtain rfl : l = [] := List.eq_nil_of_length_eq_zero (by omega)
    rw [allA_nil]; rfl
  | succ n ih =>
    intro l q at_ hl hq
    by_cases hne : l = []
    · subst hne
      rw [allA_nil]; rfl
    · obtain ⟨h1, h2⟩ := goes_next h q (decodeL l).1 hq
      have hw := dec_pos l
      have h0 : 0 < l.length := List.length_pos_iff.2 hne
      rw [allA_step at_ l hne]
      unfold stateN
      rw [h1, ih _ _ (at_ + (decodeL l).2) (by rw [List.length_drop]; omega) h2, List.foldl_cons]
      cases l with
      | nil => exact absurd rfl hne
      | cons b t => rfl
end Go.Proofs.YtgppobaoclfgcaaGreatDoor.Plain
namespace Go.Proofs.YtgppobaoclfgcaaGreatDoor
open Go.RowKit Go.Lib
theorem flat_tab {F K A : List Int} (h : Plain.flatRight F K A = true) : Plain.tabRight (F.map fun r => r % 16777216) (Plain.rowsOf K F.length A.length) A.length = true := by
  unfold Plain.flatRight at h
  simp only [Bool.and_eq_true] at h
  exact h.2
theorem right_mod {F K A : List Int} (h : Plain.Right F K A) : (F.map fun r => r % 16777216) = F :=
  mod_small (fun k hk => (h.low k hk).1) (fun k hk => by have := (h.low k hk).2; omega)
set_option maxRecDepth 100000 in
set_option maxHeartbeats 2000000 in
theorem refind_any (FA : Option Addr) (F : List Int) (fc : Nat) (KA : Option Addr) (K : List Int) (kc : Nat) (AA : Option Addr) (A : List Int) (ac : Nat) (s : ByteArray) (w : World) (hX : FlatAt w FA F KA K AA A) (hN : FlatNums F K A kc) (hF : F.length ≤ 64) (hA : A.length ≤ 64) (hK : K.length ≤ 4096)
    (hs : s.size ≤ 1048576) :
    Calls Tryz.prog 11 #[flatV FA F fc KA K kc AA A ac, .string s] w fun e w' => e = .returned (if Plain.flatRight F K A then foundV (Plain.findN F K A s.size s.data.toList 0 0) else foundV none) ∧ Below w.heap.size w w' := by
  have hb0 := below_alloc (Below.refl w.heap.size w) (.cells #[.slice FA F.length fc, .slice KA K.length kc, .slice AA A.length ac] 51)
  have cB := rback_any FA F fc KA K kc AA A ac _ (hX.below hb0) hN hF hA hK
  have hx0 : (w.alloc (.cells #[.slice FA F.length fc, .slice KA K.length kc, .slice AA A.length ac] 51)).heap[w.heap.size]? = some (.cells #[.slice FA F.length fc, .slice KA K.length kc, .slice AA A.length ac] 51 (0, 0)) := heap_alloc_new2 _ _ _ _ rfl
  have hR : Plain.flatRight F K A = true → Plain.Right F K A := Plain.flat_right F K A (fun k hk => (hN.bF k hk).1) (fun k hk => (hN.bK k hk).1)
  have HR := Lib.hid hR
  obtain ⟨p, hp⟩ : ∃ x, F.length = x := ⟨_, rfl⟩
  obtain ⟨kn, hkn⟩ : ∃ x, K.length = x := ⟨_, rfl⟩
  obtain ⟨a, ha⟩ : ∃ x, A.length = x := ⟨_, rfl⟩
  unfold flatV at cB ⊢
  unfold BackRes at cB
  have HP := Lib.hid hp
  have HA := Lib.hid ha
  rw [hp, hkn, ha] at cB hx0 ⊢
  rw [hp, hkn, ha] at hb0
  obtain ⟨w0, hw0⟩ : ∃ v, w.alloc (.cells #[.slice FA p fc, .slice KA kn kc, .slice AA a ac] 51) = v := ⟨_, rfl⟩
  rw [hw0] at cB hx0 hb0
  obtain ⟨fb, hfb⟩ : ∃ x, w.heap.size = x := ⟨_, rfl⟩
  rw [hfb] at hx0
  have HFB := Lib.hid hfb
  have HW0 := Lib.hid hw0
  have HB0 := Lib.hid hb0
  have HCB := Lib.hid cB
  obtain ⟨k0, k1, k2⟩ := blk_cells3 hx0
  have lfb := lt_of_some hx0
  have HS := Lib.hid hs
  clear hX hN cB hR hp hkn ha hw0 hfb hb0 hx0 hs
  obtain ⟨fr, hfr⟩ : ∃ t, Plain.flatRight F K A = t := ⟨_, rfl⟩
  rw [hfr] at HCB HR ⊢
  have HFR := Lib.hid hfr
  clear hfr
  cases fr
  · go_enter Tryz.func11, Tryz.ntmps11
    go_upto_region 1 with fail
    rw [HW0.out, HFB.out]
    go_wp2_with (go_at_call 25; refine HCB.out.mono ?_; rintro e w5 ⟨hb5, _, h5⟩; obtain rfl := h5 rfl; have HB5 := Lib.hid (HB0.out.trans (hb5.mono HB0.out.size)); clear hb5 h5)
    refine bodyPost_ret (v := .tuple #[.int .i64 0, .bool false]) (by simp [results, Tryz.results11, go_sem]) rfl ?_
    exact ⟨rfl, HB5.out.alloc HB5.out.size _⟩
  · have HRT := Lib.hid (HR.out rfl)
    go_enter Tryz.func11, Tryz.ntmps11
    go_upto_region 1 with fail
    rw [HW0.out, HFB.out]
    go_upto_region 2 with (go_at_call 25; refine HCB.out.mono ?_; rintro e w5 ⟨hb5, h5, _⟩; obtain ⟨PA, pc, NA, R, nc, AA', ac', rfl, hnr, hTab⟩ := h5 rfl; have HB5 := Lib.hid (HB0.out.trans (hb5.mono HB0.out.size)); have HNR := Lib.hid hnr; have HTAB := Lib.hid hTab; clear hb5 h5 hnr hTab; unfold tabV)
    have hRt := HRT.out
    have hmod := right_mod hRt
    have hx6 : (w5.alloc (.cells #[.slice PA p pc, .slice NA R.length nc, .slice AA' a ac'] 85)).heap[w5.heap.size]? = some (.cells #[.slice PA p pc, .slice NA R.length nc, .slice AA' a ac'] 85 (0, 0)) := heap_alloc_new2 _ _ _ _ rfl
    have hB6 := below_alloc HB5.out (.cells #[.slice PA p pc, .slice NA R.length nc, .slice AA' a ac'] 85)
    have cF := rfind_any PA _ pc NA R nc AA' _ ac' s _ (HTAB.out.below (below_alloc (Below.refl w5.heap.size w5) (.cells #[.slice PA p pc, .slice NA R.length nc, .slice AA' a ac'] 85))) HS.out (Plain.allA 0 s.data.toList) rfl
    unfold tabV RFindRes at cF
    have htb := flat_tab HFR.out
    rw [HNR.out, List.length_map, List.length_map] at cF
    rw [hmod] at cF htb
    have HTB := Lib.hid htb
    rw [HP.out, HA.out] at cF ⊢
    rw [HP.out, HA.out] at HTB
    obtain ⟨w6, hw6⟩ : ∃ v, w5.alloc (.cells #[.slice PA p pc, .slice NA R.length nc, .slice AA' a ac'] 85) = v := ⟨_, rfl⟩
    rw [hw6] at hx6 hB6 cF ⊢
    obtain ⟨tb, htb2⟩ : ∃ x, w5.heap.size = x := ⟨_, rfl⟩
    rw [htb2] at hx6 ⊢
    have HB6 := Lib.hid hB6
    have HCF := Lib.hid cF
    clear k0 k1 k2 lfb
    obtain ⟨k0, k1, k2⟩ := blk_cells3 hx6
    have ltb := lt_of_some hx6
    have hsl : s.data.toList.length ≤ s.size := by simp
    have hfl := Plain.findN_L hRt s.size s.data.toList 0 0 hsl hRt.a0
    rw [Nat.mul_zero, HP.out, HA.out] at hfl
    have HFL := Lib.hid hfl
    clear hRt hmod hx6 hB6 cF htb hw6 htb2 hsl hfl HCB HTAB
    go_wp2_with (go_at_call 26; refine HCF.out.mono ?_; rintro e w7 ⟨hb7, h7, _⟩; have HB7 := Lib.hid (HB6.out.trans (hb7.mono HB6.out.size)); clear hb7; rcases h7 HTB.out with ⟨k, hk, h1, h2, rfl⟩ | ⟨h1, rfl⟩)
    · refine bodyPost_ret (v := .tuple #[.int .i64 ((Plain.posL (Plain.allA 0 s.data.toList) k : Nat) : Int), .bool true]) (by simp [results, Tryz.results11, go_sem]) rfl ?_
      refine ⟨?_, HB7.out⟩
      have h3 := Plain.findL_some F (Plain.rowsOf K p a) (A.map fun x => x == 1) (Plain.allA 0 s.data.toList) 0 0 k hk h1 h2
      rw [HFL.out, h3]
      rfl
    · refine bodyPost_ret (v := .tuple #[.int .i64 0, .bool false]) (by simp [results, Tryz.results11, go_sem]) rfl ?_
      refine ⟨?_, HB7.out⟩
      have h3 := Plain.findL_none F (Plain.rowsOf K p a) (A.map fun x => x == 1) (Plain.allA 0 s.data.toList) 0 0 h1
      rw [HFL.out, h3]
      rfl
set_option maxRecDepth 100000 in
set_option maxHeartbeats 2000000 in
theorem restate_any (FA : Option Addr) (F : List Int) (fc : Nat) (KA : Option Addr) (K : List Int) (kc : Nat) (AA : Option Addr) (A : List Int) (ac : Nat) (s : ByteArray) (w : World) (hX : FlatAt w FA F KA K AA A) (hN : FlatNums F K A kc) (hF : F.length ≤ 64) (hA : A.length ≤ 64) (hK : K.length ≤ 4096)
    (hs : s.size ≤ 1048576) :
    Calls Tryz.prog 13 #[flatV FA F fc KA K kc AA A ac, .string s] w fun e w' => e = .returned (.int .i64 (if Plain.flatRight F K A then ((Plain.stateN F K s.size s.data.toList 0 / F.length : Nat) : Int) else -1)) ∧ Below w.heap.size w w' := by
  have hb0 := below_alloc (Below.refl w.heap.size w) (.cells #[.slice FA F.length fc, .slice KA K.length kc, .slice AA A.length ac] 51)
  have cB := rback_any FA F fc KA K kc AA A ac _ (hX.below hb0) hN hF hA hK
  have hx0 : (w.alloc (.cells #[.slice FA F.length fc, .slice KA K.length kc, .slice AA A.length ac] 51)).heap[w.heap.size]? = some (.cells #[.slice FA F.length fc, .slice KA K.length kc, .slice AA A.length ac] 51 (0, 0)) := heap_alloc_new2 _ _ _ _ rfl
  have hR : Plain.flatRight F K A = true → Plain.Right F K A := Plain.flat_right F K A (fun k hk => (hN.bF k hk).1) (fun k hk => (hN.bK k hk).1)
  have HR := Lib.hid hR
  obtain ⟨n, hn⟩ : ∃ x, (Plain.allA 0 s.data.toList).length = x := ⟨_, rfl⟩
  have hn6 : n ≤ 1048576 := by
    rw [← hn]; unfold Plain.allA
    have := Plain.allF_len s.data.toList.length 0 s.data.toList
    have h2 : s.data.toList.length = s.size := by simp
    omega
  have HNN := Lib.hid hn
  obtain ⟨p, hp⟩ : ∃ x, F.length = x := ⟨_, rfl⟩
  obtain ⟨kn, hkn⟩ : ∃ x, K.length = x := ⟨_, rfl⟩
  obtain ⟨a, ha⟩ : ∃ x, A.length = x := ⟨_, rfl⟩
  unfold flatV at cB ⊢
  unfold BackRes at cB
  have HP := Lib.hid hp
  have HA := Lib.hid ha
  rw [hp, hkn, ha] at cB hx0 ⊢
  rw [hp, hkn, ha] at hb0
  obtain ⟨w0, hw0⟩ : ∃ v, w.alloc (.cells #[.slice FA p fc, .slice KA kn kc, .slice AA a ac] 51) = v := ⟨_, rfl⟩
  rw [hw0] at cB hx0 hb0
  obtain ⟨fb, hfb⟩ : ∃ x, w.heap.size = x := ⟨_, rfl⟩
  rw [hfb] at hx0
  have HFB := Lib.hid hfb
  have HW0 := Lib.hid hw0
  have HB0 := Lib.hid hb0
  have HCB := Lib.hid cB
  obtain ⟨k0, k1, k2⟩ := blk_cells3 hx0
  have lfb := lt_of_some hx0
  have HS := Lib.hid hs
  clear hX hN cB hR hp hkn ha hw0 hfb hb0 hx0 hs hn
  obtain ⟨fr, hfr⟩ : ∃ t, Plain.flatRight F K A = t := ⟨_, rfl⟩
  rw [hfr] at HCB HR ⊢
  have HFR := Lib.hid hfr
  clear hfr
  cases fr
  · go_enter Tryz.func13, Tryz.ntmps13
    go_upto_region 1 with fail
    rw [HW0.out, HFB.out]
    go_wp2_with (go_at_call 25; refine HCB.out.mono ?_; rintro e w5 ⟨hb5, _, h5⟩; obtain rfl := h5 rfl; have HB5 := Lib.hid (HB0.out.trans (hb5.mono HB0.out.size)); clear hb5 h5)
    go_ret
    exact ⟨rfl, HB5.out.alloc HB5.out.size _⟩
  · have HRT := Lib.hid (HR.out rfl)
    go_enter Tryz.func13, Tryz.ntmps13
    go_upto_region 1 with fail
    rw [HW0.out, HFB.out]
    go_upto_region 2 with (go_at_call 25; refine HCB.out.mono ?_; rintro e w5 ⟨hb5, h5, _⟩; obtain ⟨PA, pc, NA, R, nc, AA', ac', rfl, hnr, hTab⟩ := h5 rfl; have HB5 := Lib.hid (HB0.out.trans (hb5.mono HB0.out.size)); have HNR := Lib.hid hnr; have HTAB := Lib.hid hTab; clear hb5 h5 hnr hTab; unfold tabV)
    have hRt := HRT.out
    have hmod := right_mod hRt
    have hx6 : (w5.alloc (.cells #[.slice PA p pc, .slice NA R.length nc, .slice AA' a ac'] 85)).heap[w5.heap.size]? = some (.cells #[.slice PA p pc, .slice NA R.length nc, .slice AA' a ac'] 85 (0, 0)) := heap_alloc_new2 _ _ _ _ rfl
    have hB6 := below_alloc HB5.out (.cells #[.slice PA p pc, .slice NA R.length nc, .slice AA' a ac'] 85)
    have cF := rstates_any PA _ pc NA R nc AA' _ ac' s _ (HTAB.out.below (below_alloc (Below.refl w5.heap.size w5) (.cells #[.slice PA p pc, .slice NA R.length nc, .slice AA' a ac'] 85))) HS.out (Plain.allA 0 s.data.toList) rfl
    unfold tabV StatesRes at cF
    have htb := flat_tab HFR.out
    rw [HNR.out, List.length_map, List.length_map] at cF
    rw [hmod] at cF htb
    have HTB := Lib.hid htb
    rw [HP.out, HA.out, HNN.out] at cF
    rw [HP.out]
    rw [HP.out, HA.out] at HTB
    obtain ⟨w6, hw6⟩ : ∃ v, w5.alloc (.cells #[.slice PA p pc, .slice NA R.length nc, .slice AA' a ac'] 85) = v := ⟨_, rfl⟩
    rw [HA.out] at ⊢
    rw [hw6] at hx6 hB6 cF ⊢
    obtain ⟨tb, htb2⟩ : ∃ x, w5.heap.size = x := ⟨_, rfl⟩
    rw [htb2] at hx6 ⊢
    have HB6 := Lib.hid hB6
    have HCF := Lib.hid cF
    clear k0 k1 k2 lfb
    obtain ⟨k0, k1, k2⟩ := blk_cells3 hx6
    have ltb := lt_of_some hx6
    have hsl : s.data.toList.length ≤ s.size := by simp
    have hfl := Plain.stateN_L hRt s.size s.data.toList 0 0 hsl hRt.a0
    rw [Nat.mul_zero, HP.out, HA.out] at hfl
    obtain ⟨y, hy⟩ : ∃ y, Plain.stk F (Plain.rowsOf K p a) (Plain.allA 0 s.data.toList) n = y := ⟨_, rfl⟩
    have hst : Plain.stateN F K s.size s.data.toList 0 / p = y := by
      have h0 : 0 < p := by have := hRt.p0; have := HP.out; omega
      rw [hfl, Nat.mul_div_cancel_left _ h0, ← hy]
      unfold Plain.stk
      rw [List.take_of_length_le (by rw [HNN.out]; exact Nat.le_refl _)]
    have HST := Lib.hid hst
    have HY := Lib.hid hy
    have wn : IntKind.i64.wrap (((n + 1 : Nat) : Int) - 1) = (n : Int) := by rw [IntKind.wrap_i64]; omega
    have wn2 : IntKind.i64.wrap ((n : Int) + 1 - 1) = (n : Int) := by rw [IntKind.wrap_i64]; omega
    have g0 : (0 : Int) ≤ (n : Int) := by omega
    have g1 : (n : Int) < (n : Int) + 1 := by omega
    have g2 : (n : Int) < ((n + 1 : Nat) : Int) := by omega
    clear hRt hmod hx6 hB6 cF htb hw6 htb2 hsl hfl HCB HTAB hst hy
    go_upto_region 5 with (go_at_call 27; refine HCF.out.mono ?_; rintro e w7 ⟨hb7, h7, _⟩; have HB7 := Lib.hid (HB6.out.trans (hb7.mono HB6.out.size)); clear hb7; obtain ⟨gs, sc, rfl, hsc⟩ := h7 HTB.out)
    have c5 := hsc.2 n (.int .i64 (y : Int)) (by unfold i64s; rw [List.getElem?_map, Plain.states_get _ _ _ _ _ (by omega), HY.out]; rfl)
    have lgs := hsc.1
    clear hsc h7 k0 k1 k2 ltb
    go_wp2_with fail
    go_ret
    exact ⟨by rw [← Int.natCast_ediv, HST.out]; rfl, HB7.out⟩
end Go.Proofs.YtgppobaoclfgcaaGreatDoor
