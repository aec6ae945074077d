/- WireOne: walked. Conditions: what each lemma says. -/
import Derived.Test.YtmiacgkidldjmaaGreatDoorRefC
set_option linter.unusedVariables false
set_option linter.unusedSimpArgs false
namespace Go.Proofs.YtmiacgkidldjmaaGreatDoor
open Go.RowKit Go.Lib
open Plain (Rg In4)
theorem seal_size (s : ByteArray) : (str (Plain.sealL s.data.toList)).size ≤ s.size + 8 := by
  have h := Plain.padN_lt s.data.toList.length
  rw [str_size, Plain.sealL_len]
  have : s.data.toList.length = s.size := by simp
  omega
def bentV (S Z : ByteArray) (tb : Bool) (how : Nat) (a : Int) (kb : Nat) : Value := .agg #[.string S, .bool tb, .int .u8 (how : Int), .int .i64 a, .int .u8 (kb : Int), .string Z]
set_option maxRecDepth 1000000 in
set_option maxHeartbeats 8000000 in
theorem bent_any (S Z : ByteArray) (tb : Bool) (how : Nat) (a : Int) (kb : Nat) (hhow : how < 256) (hkb : kb < 256) (ha : -9223372036854775808 ≤ a ∧ a ≤ 9223372036854775807) (hS : S.size ≤ 140737488355328) (hZ : Z.size ≤ 140737488355328)
    (I C : Option Addr) (L : List In4) (K : List Cs) (c d : Nat) (g : Int) (PA : Option Addr) (P : List Int) (pc : Nat) (NA : Option Addr) (R : List Row) (nc : Nat) (AA : Option Addr) (C' : List Bool) (ac : Nat) (w : World) (hP : PgAt w I L C K) (hF : Fit L K) (hT : TabAt w PA P NA R AA C') :
    Calls Tryz.prog 31 #[bentV S Z tb how a kb, pgV I L.length c C K.length d g, tabV PA P pc NA R nc AA C' ac] w fun e w' => (∃ s : ByteArray, s.size ≤ 300000000000000 ∧ e = .returned (.string s)) ∧ Below w.heap.size w w' := by
  have cC := fun (W : World) (h : Below w.heap.size w W) => rprog_copy I C L K c d g W (hP.below h) (Nat.le_trans hF.i (by decide)) (Nat.le_trans hF.k (by decide)) (fun x hx => Nat.le_trans (hF.r x hx) (by decide))
  have c25 := fun (I2 : Option Addr) (c2 : Nat) (C2 : Option Addr) (d2 : Nat) (K2 : List Cs) (W : World) (h : PgAt W I2 L C2 K2) => put25_eq I2 C2 L K2 c2 d2 g W h
  have c27 := fun (W : World) (h : Below w.heap.size w W) => put27_eq PA P pc NA R nc AA C' ac W (hT.below h)
  have hz2 := TT_size P (nums R) C'
  obtain ⟨T2, hT2⟩ : ∃ x, TT P (nums R) C' = x := ⟨_, rfl⟩
  obtain ⟨q2, hq2⟩ : ∃ x, Plain.tabRight P (nums R) C'.length = x := ⟨_, rfl⟩
  rw [hT2] at hz2
  simp only [hT2, hq2] at c27
  unfold tabV at c27 ⊢
  unfold pgV at cC c25 ⊢
  clear hP hF hT hT2 hq2
  obtain ⟨n, hn⟩ : ∃ x, L.length = x := ⟨_, rfl⟩
  simp only [hn] at cC c25 ⊢
  have CC := Lib.hid cC
  have C25 := Lib.hid c25
  have C27 := Lib.hid c27
  have HZ2 := Lib.hid hz2
  have HS := Lib.hid (And.intro hS (And.intro hZ (And.intro ha (And.intro hhow hkb))))
  clear cC c25 c27 hn hz2 hS hZ ha hhow hkb
  generalize K.length = m at *
  generalize P.length = p at *
  generalize R.length = q at *
  generalize C'.length = z at *
  unfold bentV
  have b0 := below_alloc (Below.refl w.heap.size w) (.cells #[.string S, .bool tb, .int .u8 (how : Int), .int .i64 a, .int .u8 (kb : Int), .string Z] 77)
  have x0 := heap_alloc_new2 w (.cells #[.string S, .bool tb, .int .u8 (how : Int), .int .i64 a, .int .u8 (kb : Int), .string Z] 77) w.heap.size _ rfl
  obtain ⟨w0, hw0⟩ : ∃ x, w.alloc (.cells #[.string S, .bool tb, .int .u8 (how : Int), .int .i64 a, .int .u8 (kb : Int), .string Z] 77) = x := ⟨_, rfl⟩
  rw [hw0] at b0 x0
  have b1 := below_alloc b0 (.cells #[.slice I n c, .slice C m d, .int .i64 g] 25)
  have x0 := blk_alloc x0 (.cells #[.slice I n c, .slice C m d, .int .i64 g] 25)
  have x1 := heap_alloc_new2 w0 (.cells #[.slice I n c, .slice C m d, .int .i64 g] 25) w0.heap.size _ rfl
  obtain ⟨w1, hw1⟩ : ∃ x, w0.alloc (.cells #[.slice I n c, .slice C m d, .int .i64 g] 25) = x := ⟨_, rfl⟩
  rw [hw1] at b1 x0 x1
  have b2 := below_alloc b1 (.cells #[.slice PA p pc, .slice NA q nc, .slice AA z ac] 34)
  have x0 := blk_alloc x0 (.cells #[.slice PA p pc, .slice NA q nc, .slice AA z ac] 34)
  have x1 := blk_alloc x1 (.cells #[.slice PA p pc, .slice NA q nc, .slice AA z ac] 34)
  have x2 := heap_alloc_new2 w1 (.cells #[.slice PA p pc, .slice NA q nc, .slice AA z ac] 34) w1.heap.size _ rfl
  obtain ⟨w2, hw2⟩ : ∃ x, w1.alloc (.cells #[.slice PA p pc, .slice NA q nc, .slice AA z ac] 34) = x := ⟨_, rfl⟩
  rw [hw2] at b2 x0 x1 x2
  obtain ⟨p0, hp0⟩ : ∃ x, w.heap.size = x := ⟨_, rfl⟩
  obtain ⟨p1, hp1⟩ : ∃ x, w0.heap.size = x := ⟨_, rfl⟩
  obtain ⟨p2, hp2⟩ : ∃ x, w1.heap.size = x := ⟨_, rfl⟩
  rw [hp0] at x0
  rw [hp1] at x1
  rw [hp2] at x2
  have HB := Lib.hid b2
  have F0 := Lib.hid (fun (w' : World) (h : Below w2.heap.size w2 w') => (⟨(cells_of (blk_later x0 h)).at_ 0 _ rfl, (cells_of (blk_later x0 h)).at_ 1 _ rfl, (cells_of (blk_later x0 h)).at_ 2 _ rfl, (cells_of (blk_later x0 h)).at_ 3 _ rfl, (cells_of (blk_later x0 h)).at_ 4 _ rfl, (cells_of (blk_later x0 h)).at_ 5 _ rfl, lt_of_some (blk_later x0 h)⟩ : _ ∧ _ ∧ _ ∧ _ ∧ _ ∧ _ ∧ _))
  have F1 := Lib.hid (fun (w' : World) (h : Below w2.heap.size w2 w') => (⟨(cells_of (blk_later x1 h)).at_ 0 _ rfl, (cells_of (blk_later x1 h)).at_ 1 _ rfl, (cells_of (blk_later x1 h)).at_ 2 _ rfl, lt_of_some (blk_later x1 h)⟩ : _ ∧ _ ∧ _ ∧ _))
  have F2 := Lib.hid (fun (w' : World) (h : Below w2.heap.size w2 w') => (⟨(cells_of (blk_later x2 h)).at_ 0 _ rfl, (cells_of (blk_later x2 h)).at_ 1 _ rfl, (cells_of (blk_later x2 h)).at_ 2 _ rfl, lt_of_some (blk_later x2 h)⟩ : _ ∧ _ ∧ _ ∧ _))
  clear b0 b1 b2 x0 x1 x2
  go_enter Tryz.func31, Tryz.ntmps31
  go_upto_region 1 with fail
  try rw [hw0]
  try rw [hw1]
  try rw [hw2]
  try rw [hp0]
  try rw [hp1]
  try rw [hp2]
  have HP0 := Lib.hid hp0
  clear hw0 hw1 hw2 hp0 hp1 hp2
  obtain ⟨x0, x1, x2, xl⟩ := F1.out w2 (Below.refl _ _)
  go_wp2_with fail
  clear x0 x1 x2 xl
  refine Calls.mono (CC.out w2 HB.out) ?_
  rintro e w3 ⟨I2, c2, C2, d2, K2, hK, rfl, hP, hb⟩
  have HB3 := Lib.hid hb
  have cP := C25.out I2 c2 C2 d2 K2 w3 hP
  have hz1 := PT_size L (K2.map Cs.R) g
  obtain ⟨T1, hT1⟩ : ∃ x, PT L (K2.map Cs.R) g = x := ⟨_, rfl⟩
  obtain ⟨q1, hq1⟩ : ∃ x, pgP L (K2.map Cs.R) g = x := ⟨_, rfl⟩
  rw [hT1] at hz1
  rw [hT1, hq1] at cP
  have HZ1 := Lib.hid hz1
  have CP := Lib.hid cP
  clear hb hK hP cP hz1 hT1 hq1
  generalize K2.length = m2 at *
  go_wp2_with fail
  refine Calls.mono CP.out ?_
  rintro e w4 ⟨rfl, hb⟩
  have HB4 := Lib.hid (HB3.out.trans (hb.mono HB3.out.size))
  clear hb
  obtain ⟨x0, x1, x2, x3, x4, x5, xl⟩ := F0.out w4 HB4.out
  cases tb
  · have hr6 := True.intro
    have hz := HZ1.out
    obtain ⟨tn, htn⟩ : ∃ x, T1.size = x := ⟨_, rfl⟩
    rw [htn] at hz
    have hw4 : IntKind.i64.wrap ((tn : Int) - 4) = (tn : Int) - 4 := by rw [IntKind.wrap_i64]; omega
    clear hr6
    go_upto_region 5 with fail
    obtain ⟨E, hE⟩ : ∃ x, T1.extract 0 (max ((tn : Int) - 4) 0).toNat = x := ⟨_, rfl⟩
    have hEz : E.size ≤ 65536 := by rw [← hE, ByteArray.size_extract]; omega
    try rw [hE]
    obtain ⟨en, hen⟩ : ∃ x, E.size = x := ⟨_, rfl⟩
    rw [hen] at hEz
    have HEN := Lib.hid hen
    have HTN := Lib.hid htn
    clear hE hen htn
    obtain ⟨hS, hZ, ha, hhow, hkb⟩ := HS.out
    obtain ⟨hw, hhw⟩ : ∃ x, how % 7 = x := ⟨_, rfl⟩
    have hhl : hw < 7 := by rw [← hhw]; exact Nat.mod_lt _ (by decide)
    have hms : (how : Int) % 7 = (hw : Int) := by rw [← hhw]; simp
    have hmt : Int.tmod (how : Int) 7 = (hw : Int) := by rw [Int.tmod_eq_emod_of_nonneg (by omega)]; exact hms
    have BA := Lib.hid (fun (S : ByteArray) (hS : S.size ≤ 140737488355328) (W : World) => bend_any S a kb hkb ha hS W)
    have RS := Lib.hid (fun (s : ByteArray) (W : World) (hs : s.size ≤ 1152921504606846000) => rseal_any s W hs)
    clear hhw
    have hcases : hw = 0 ∨ hw = 1 ∨ hw = 2 ∨ hw = 3 ∨ hw = 4 ∨ hw = 5 ∨ hw = 6 := by omega
    rcases hcases with rfl | rfl | rfl | rfl | rfl | rfl | rfl
    · go_wp2_with fail
      go_ret
      exact ⟨⟨S, by omega, rfl⟩, HB.out.trans (HB4.out.mono HB.out.size)⟩
    · go_wp2_with fail
      go_ret
      exact ⟨⟨T1, by rw [HTN.out]; omega, rfl⟩, HB.out.trans (HB4.out.mono HB.out.size)⟩
    · go_wp2_with fail
      refine Calls.mono (BA.out T1 (by rw [HTN.out]; omega) w4) ?_
      rintro e w7 ⟨⟨S', hS', rfl⟩, hb⟩
      have HB7 := Lib.hid (HB4.out.trans (hb.mono HB4.out.size))
      have HS' := Lib.hid hS'
      clear hb hS'
      go_wp2_with fail
      go_ret
      exact ⟨⟨S', by rw [HS'.out, HTN.out]; omega, rfl⟩, HB.out.trans (HB7.out.mono HB.out.size)⟩
    · go_wp2_with fail
      refine Calls.mono (BA.out E (by rw [HEN.out]; omega) w4) ?_
      rintro e w7 ⟨⟨S', hS', rfl⟩, hb⟩
      have HB7 := Lib.hid (HB4.out.trans (hb.mono HB4.out.size))
      have HS' := Lib.hid hS'
      clear hb hS'
      go_wp2_with fail
      refine Calls.mono (RS.out S' w7 (by rw [HS'.out, HEN.out]; omega)) ?_
      rintro e w8 ⟨rfl, hb⟩
      have HB8 := Lib.hid (HB7.out.trans (hb.mono HB7.out.size))
      clear hb
      go_wp2_with fail
      go_ret
      exact ⟨⟨_, by have h := seal_size S'; rw [HS'.out, HEN.out] at h; omega, rfl⟩, HB.out.trans (HB8.out.mono HB.out.size)⟩
    · go_wp2_with fail
      refine Calls.mono (BA.out E (by rw [HEN.out]; omega) w4) ?_
      rintro e w7 ⟨⟨S', hS', rfl⟩, hb⟩
      have HB7 := Lib.hid (HB4.out.trans (hb.mono HB4.out.size))
      have HS' := Lib.hid hS'
      clear hb hS'
      go_wp2_with fail
      refine Calls.mono (RS.out S' w7 (by rw [HS'.out, HEN.out]; omega)) ?_
      rintro e w8 ⟨rfl, hb⟩
      have HB8 := Lib.hid (HB7.out.trans (hb.mono HB7.out.size))
      clear hb
      go_wp2_with fail
      go_ret
      exact ⟨⟨_, by have h := seal_size S'; rw [HS'.out, HEN.out] at h; omega, rfl⟩, HB.out.trans (HB8.out.mono HB.out.size)⟩
    · have g1 : ¬ (9223372036854775807 < E.size + Z.size) := by rw [HEN.out]; omega
      obtain ⟨X, hX⟩ : ∃ x, E ++ Z = x := ⟨_, rfl⟩
      have hXs : X.size ≤ 140737488355328 + 65536 := by rw [← hX, ByteArray.size_append, HEN.out]; omega
      have HXS := Lib.hid hXs
      clear hXs
      go_wp2_with fail
      try rw [hX]
      refine Calls.mono (RS.out X w4 (Nat.le_trans HXS.out (by decide))) ?_
      rintro e w8 ⟨rfl, hb⟩
      have HB8 := Lib.hid (HB4.out.trans (hb.mono HB4.out.size))
      have hss := seal_size X
      obtain ⟨XS, hXS⟩ : ∃ x, str (Plain.sealL X.data.toList) = x := ⟨_, rfl⟩
      rw [hXS] at hss ⊢
      have HSS := Lib.hid hss
      clear hb hX hXS hss
      go_wp2_with fail
      go_ret
      exact ⟨⟨XS, by have := HSS.out; have := HXS.out; omega, rfl⟩, HB.out.trans (HB8.out.mono HB.out.size)⟩
    · have hen := HEN.out
      by_cases he0 : en = 0
      · subst he0
        go_wp2_with fail
        refine Calls.mono (RS.out E w4 (by rw [HEN.out]; omega)) ?_
        rintro e w8 ⟨rfl, hb⟩
        have HB8 := Lib.hid (HB4.out.trans (hb.mono HB4.out.size))
        clear hb
        go_wp2_with fail
        go_ret
        exact ⟨⟨_, by have h := seal_size E; rw [HEN.out] at h; omega, rfl⟩, HB.out.trans (HB8.out.mono HB.out.size)⟩
      · have d1 : decide ((0 : Int) < (en : Int)) = true := decide_eq_true (by omega)
        have d1n : decide (0 < en) = true := decide_eq_true (by omega)
        obtain ⟨an, han⟩ : ∃ x : Nat, a % 18446744073709551616 = x := ⟨(a % 18446744073709551616).toNat, by omega⟩
        have hw1 : IntKind.u64.wrap a = (an : Int) := by rw [← han]; rfl
        have hw2 : IntKind.u64.wrap (en : Int) = (en : Int) := by show (en : Int) % 18446744073709551616 = _; omega
        obtain ⟨r, hr⟩ : ∃ x, an % en = x := ⟨_, rfl⟩
        have hrl : r < en := by rw [← hr]; exact Nat.mod_lt _ (by omega)
        have hrs : (an : Int) % (en : Int) = (r : Int) := by rw [← hr]; simp
        have hrt : Int.tmod (an : Int) (en : Int) = (r : Int) := by rw [Int.tmod_eq_emod_of_nonneg (by omega)]; exact hrs
        have hw3 : IntKind.i64.wrap (r : Int) = (r : Int) := by rw [IntKind.wrap_i64]; omega
        clear hr
        obtain ⟨X, hX⟩ : ∃ x, E.extract 0 r = x := ⟨_, rfl⟩
        have hXs : X.size ≤ 65536 := by rw [← hX, ByteArray.size_extract]; omega
        have HXS := Lib.hid hXs
        clear hXs
        go_wp2_with fail
        try rw [hX]
        refine Calls.mono (RS.out X w4 (Nat.le_trans HXS.out (by decide))) ?_
        rintro e w8 ⟨rfl, hb⟩
        have HB8 := Lib.hid (HB4.out.trans (hb.mono HB4.out.size))
        have hss := seal_size X
        obtain ⟨XS, hXS⟩ : ∃ x, str (Plain.sealL X.data.toList) = x := ⟨_, rfl⟩
        rw [hXS] at hss ⊢
        have HSS := Lib.hid hss
        clear hb hX hXS hss
        go_wp2_with fail
        go_ret
        exact ⟨⟨XS, by have := HSS.out; have := HXS.out; omega, rfl⟩, HB.out.trans (HB8.out.mono HB.out.size)⟩
  · obtain ⟨y0, y1, y2, yl⟩ := F2.out w4 HB4.out
    go_wp2_with fail
    clear x0 x1 x2 x3 x4 x5 xl y0 y1 y2 yl
    refine Calls.mono (reftab_any PA p pc NA q nc AA z ac w4) ?_
    rintro e w5 ⟨rfl, hb⟩
    have HB5 := Lib.hid (HB4.out.trans (hb.mono HB4.out.size))
    clear hb
    go_wp2_with fail
    refine Calls.mono (C27.out w5 (HB.out.trans (HB5.out.mono HB.out.size))) ?_
    rintro e w6 ⟨rfl, hb⟩
    have HB6 := Lib.hid (HB5.out.trans (hb.mono HB5.out.size))
    clear hb
    obtain ⟨x0, x1, x2, x3, x4, x5, xl⟩ := F0.out w6 HB6.out
    have hr6 := True.intro
    have hz := HZ2.out
    obtain ⟨tn, htn⟩ : ∃ x, T2.size = x := ⟨_, rfl⟩
    rw [htn] at hz
    have hw4 : IntKind.i64.wrap ((tn : Int) - 4) = (tn : Int) - 4 := by rw [IntKind.wrap_i64]; omega
    clear hr6
    go_upto_region 5 with fail
    obtain ⟨E, hE⟩ : ∃ x, T2.extract 0 (max ((tn : Int) - 4) 0).toNat = x := ⟨_, rfl⟩
    have hEz : E.size ≤ 65536 := by rw [← hE, ByteArray.size_extract]; omega
    try rw [hE]
    obtain ⟨en, hen⟩ : ∃ x, E.size = x := ⟨_, rfl⟩
    rw [hen] at hEz
    have HEN := Lib.hid hen
    have HTN := Lib.hid htn
    clear hE hen htn
    obtain ⟨hS, hZ, ha, hhow, hkb⟩ := HS.out
    obtain ⟨hw, hhw⟩ : ∃ x, how % 7 = x := ⟨_, rfl⟩
    have hhl : hw < 7 := by rw [← hhw]; exact Nat.mod_lt _ (by decide)
    have hms : (how : Int) % 7 = (hw : Int) := by rw [← hhw]; simp
    have hmt : Int.tmod (how : Int) 7 = (hw : Int) := by rw [Int.tmod_eq_emod_of_nonneg (by omega)]; exact hms
    have BA := Lib.hid (fun (S : ByteArray) (hS : S.size ≤ 140737488355328) (W : World) => bend_any S a kb hkb ha hS W)
    have RS := Lib.hid (fun (s : ByteArray) (W : World) (hs : s.size ≤ 1152921504606846000) => rseal_any s W hs)
    clear hhw
    have hcases : hw = 0 ∨ hw = 1 ∨ hw = 2 ∨ hw = 3 ∨ hw = 4 ∨ hw = 5 ∨ hw = 6 := by omega
    rcases hcases with rfl | rfl | rfl | rfl | rfl | rfl | rfl
    · go_wp2_with fail
      go_ret
      exact ⟨⟨S, by omega, rfl⟩, HB.out.trans (HB6.out.mono HB.out.size)⟩
    · go_wp2_with fail
      go_ret
      exact ⟨⟨T2, by rw [HTN.out]; omega, rfl⟩, HB.out.trans (HB6.out.mono HB.out.size)⟩
    · go_wp2_with fail
      refine Calls.mono (BA.out T2 (by rw [HTN.out]; omega) w6) ?_
      rintro e w7 ⟨⟨S', hS', rfl⟩, hb⟩
      have HB7 := Lib.hid (HB6.out.trans (hb.mono HB6.out.size))
      have HS' := Lib.hid hS'
      clear hb hS'
      go_wp2_with fail
      go_ret
      exact ⟨⟨S', by rw [HS'.out, HTN.out]; omega, rfl⟩, HB.out.trans (HB7.out.mono HB.out.size)⟩
    · go_wp2_with fail
      refine Calls.mono (BA.out E (by rw [HEN.out]; omega) w6) ?_
      rintro e w7 ⟨⟨S', hS', rfl⟩, hb⟩
      have HB7 := Lib.hid (HB6.out.trans (hb.mono HB6.out.size))
      have HS' := Lib.hid hS'
      clear hb hS'
      go_wp2_with fail
      refine Calls.mono (RS.out S' w7 (by rw [HS'.out, HEN.out]; omega)) ?_
      rintro e w8 ⟨rfl, hb⟩
      have HB8 := Lib.hid (HB7.out.trans (hb.mono HB7.out.size))
      clear hb
      go_wp2_with fail
      go_ret
      exact ⟨⟨_, by have h := seal_size S'; rw [HS'.out, HEN.out] at h; omega, rfl⟩, HB.out.trans (HB8.out.mono HB.out.size)⟩
    · go_wp2_with fail
      refine Calls.mono (BA.out E (by rw [HEN.out]; omega) w6) ?_
      rintro e w7 ⟨⟨S', hS', rfl⟩, hb⟩
      have HB7 := Lib.hid (HB6.out.trans (hb.mono HB6.out.size))
      have HS' := Lib.hid hS'
      clear hb hS'
      go_wp2_with fail
      refine Calls.mono (RS.out S' w7 (by rw [HS'.out, HEN.out]; omega)) ?_
      rintro e w8 ⟨rfl, hb⟩
      have HB8 := Lib.hid (HB7.out.trans (hb.mono HB7.out.size))
      clear hb
      go_wp2_with fail
      go_ret
      exact ⟨⟨_, by have h := seal_size S'; rw [HS'.out, HEN.out] at h; omega, rfl⟩, HB.out.trans (HB8.out.mono HB.out.size)⟩
    · have g1 : ¬ (9223372036854775807 < E.size + Z.size) := by rw [HEN.out]; omega
      obtain ⟨X, hX⟩ : ∃ x, E ++ Z = x := ⟨_, rfl⟩
      have hXs : X.size ≤ 140737488355328 + 65536 := by rw [← hX, ByteArray.size_append, HEN.out]; omega
      have HXS := Lib.hid hXs
      clear hXs
      go_wp2_with fail
      try rw [hX]
      refine Calls.mono (RS.out X w6 (Nat.le_trans HXS.out (by decide))) ?_
      rintro e w8 ⟨rfl, hb⟩
      have HB8 := Lib.hid (HB6.out.trans (hb.mono HB6.out.size))
      have hss := seal_size X
      obtain ⟨XS, hXS⟩ : ∃ x, str (Plain.sealL X.data.toList) = x := ⟨_, rfl⟩
      rw [hXS] at hss ⊢
      have HSS := Lib.hid hss
      clear hb hX hXS hss
      go_wp2_with fail
      go_ret
      exact ⟨⟨XS, by have := HSS.out; have := HXS.out; omega, rfl⟩, HB.out.trans (HB8.out.mono HB.out.size)⟩
    · have hen := HEN.out
      by_cases he0 : en = 0
      · subst he0
        go_wp2_with fail
        refine Calls.mono (RS.out E w6 (by rw [HEN.out]; omega)) ?_
        rintro e w8 ⟨rfl, hb⟩
        have HB8 := Lib.hid (HB6.out.trans (hb.mono HB6.out.size))
        clear hb
        go_wp2_with fail
        go_ret
        exact ⟨⟨_, by have h := seal_size E; rw [HEN.out] at h; omega, rfl⟩, HB.out.trans (HB8.out.mono HB.out.size)⟩
      · have d1 : decide ((0 : Int) < (en : Int)) = true := decide_eq_true (by omega)
        have d1n : decide (0 < en) = true := decide_eq_true (by omega)
        obtain ⟨an, han⟩ : ∃ x : Nat, a % 18446744073709551616 = x := ⟨(a % 18446744073709551616).toNat, by omega⟩
        have hw1 : IntKind.u64.wrap a = (an : Int) := by rw [← han]; rfl
        have hw2 : IntKind.u64.wrap (en : Int) = (en : Int) := by show (en : Int) % 18446744073709551616 = _; omega
        obtain ⟨r, hr⟩ : ∃ x, an % en = x := ⟨_, rfl⟩
        have hrl : r < en := by rw [← hr]; exact Nat.mod_lt _ (by omega)
        have hrs : (an : Int) % (en : Int) = (r : Int) := by rw [← hr]; simp
        have hrt : Int.tmod (an : Int) (en : Int) = (r : Int) := by rw [Int.tmod_eq_emod_of_nonneg (by omega)]; exact hrs
        have hw3 : IntKind.i64.wrap (r : Int) = (r : Int) := by rw [IntKind.wrap_i64]; omega
        clear hr
        obtain ⟨X, hX⟩ : ∃ x, E.extract 0 r = x := ⟨_, rfl⟩
        have hXs : X.size ≤ 65536 := by rw [← hX, ByteArray.size_extract]; omega
        have HXS := Lib.hid hXs
        clear hXs
        go_wp2_with fail
        try rw [hX]
        refine Calls.mono (RS.out X w6 (Nat.le_trans HXS.out (by decide))) ?_
        rintro e w8 ⟨rfl, hb⟩
        have HB8 := Lib.hid (HB6.out.trans (hb.mono HB6.out.size))
        have hss := seal_size X
        obtain ⟨XS, hXS⟩ : ∃ x, str (Plain.sealL X.data.toList) = x := ⟨_, rfl⟩
        rw [hXS] at hss ⊢
        have HSS := Lib.hid hss
        clear hb hX hXS hss
        go_wp2_with fail
        go_ret
        exact ⟨⟨XS, by have := HSS.out; have := HXS.out; omega, rfl⟩, HB.out.trans (HB8.out.mono HB.out.size)⟩
end Go.Proofs.YtmiacgkidldjmaaGreatDoor
namespace Go.Proofs.YtmiacgkidldjmaaGreatDoor
open Go.RowKit Go.Lib
open Plain (Rg In4)
theorem endR_zero {b : Int} {R : Bool} (h : endR b R = 0) : b = 0 ∧ R = true := by
  unfold endR at h
  by_cases c : b = 0 ∧ R = false
  · rw [if_pos c] at h; omega
  · rw [if_neg c] at h
    refine ⟨h, ?_⟩
    cases R
    · exact absurd ⟨h, rfl⟩ c
    · rfl
theorem openE_other (l : List UInt8) (a b : Int) (hab : a ≠ b) (h : Plain.openE l a = 0) : Plain.openE l b = 12 := by
  obtain ⟨k1, k2, _⟩ := Plain.openE_zero l a h
  unfold Plain.openE
  rw [if_neg (by rw [k1]; simp), if_pos (by rw [k2]; exact hab)]
theorem getE_zero (l : List UInt8) (h : getE l = 0) : PT (Plain.gProg (Plain.rd0 l)).L (Plain.gProg (Plain.rd0 l)).K (Plain.gProg (Plain.rd0 l)).g = str l ∧ pgP (Plain.gProg (Plain.rd0 l)).L (Plain.gProg (Plain.rd0 l)).K (Plain.gProg (Plain.rd0 l)).g = true ∧ getTE l = 12 := by
  unfold getE at h
  by_cases h1 : Plain.openE l 1 = 0
  case neg => rw [if_pos h1] at h; exact absurd h h1
  rw [if_neg (by simpa using h1)] at h
  obtain ⟨hb, hr⟩ := endR_zero h
  have ho := openE_other l 1 2 (by decide) h1
  refine ⟨?_, hr, ?_⟩
  · unfold PT
    rw [if_pos hr, Plain.prog_back l h1 hb]
  · unfold getTE
    rw [if_pos (by rw [ho]; decide), ho]
theorem getTE_zero (l : List UInt8) (h : getTE l = 0) : TT (Plain.gTab (Plain.rd0 l)).P (Plain.gTab (Plain.rd0 l)).N (Plain.gTab (Plain.rd0 l)).C = str l ∧ Plain.tabRight (Plain.gTab (Plain.rd0 l)).P (Plain.gTab (Plain.rd0 l)).N (Plain.gTab (Plain.rd0 l)).C.length = true ∧ getE l = 12 := by
  unfold getTE at h
  by_cases h1 : Plain.openE l 2 = 0
  case neg => rw [if_pos h1] at h; exact absurd h h1
  rw [if_neg (by simpa using h1)] at h
  obtain ⟨hb, hr⟩ := endR_zero h
  have ho := openE_other l 2 1 (by decide) h1
  refine ⟨?_, hr, ?_⟩
  · unfold TT
    rw [if_pos hr, Plain.tab_back l h1 hb]
  · unfold getE
    rw [if_pos (by rw [ho]; decide), ho]
theorem str_ofC (s : ByteArray) : str s.data.toList = s := by unfold str; simp
theorem get_err (s : ByteArray) (w : World) (hs : s.size ≤ 1152921504606846976) (e0 : Int) (h : getE s.data.toList = e0) (h0 : e0 ≠ 0) : Calls Tryz.prog 32 #[.string s] w fun e w' => e = .returned (.tuple #[.agg #[.slice none 0 0, .slice none 0 0, .int .i64 0], .int .i64 e0]) ∧ Below w.heap.size w w' := by
  refine (get_any s w hs).mono ?_
  rintro e w' ⟨h1, _, hb⟩
  rw [h] at h1
  exact ⟨h1 h0, hb⟩
theorem get_ok (s : ByteArray) (w : World) (hs : s.size ≤ 1152921504606846976) (h : getE s.data.toList = 0) : Calls Tryz.prog 32 #[.string s] w fun e w' => ∃ I c C d n m g, e = .returned (.tuple #[.agg #[.slice I n c, .slice C m d, .int .i64 g], .int .i64 0]) ∧
    (∀ w2, Below w'.heap.size w' w2 → Calls Tryz.prog 14 #[.agg #[.slice I n c, .slice C m d, .int .i64 g]] w2 fun e w3 => e = .returned (.tuple #[.string s, .bool true]) ∧ Below w2.heap.size w2 w3) ∧ Below w.heap.size w w' := by
  refine (get_any s w hs).mono ?_
  rintro e w' ⟨_, h2, hb⟩
  obtain ⟨I, c, C, d, K, hK, rfl, hP⟩ := h2 h
  obtain ⟨g1, g2, _⟩ := getE_zero _ h
  refine ⟨I, c, C, d, _, _, _, rfl, fun w2 hw2 => ?_, hb⟩
  have c14 := put14_eq I C _ K c d (Plain.gProg (Plain.rd0 s.data.toList)).g w2 (hP.below hw2)
  rw [hK, g1, g2, str_ofC] at c14
  exact c14
theorem gett_err (s : ByteArray) (w : World) (hs : s.size ≤ 1152921504606846976) (e0 : Int) (h : getTE s.data.toList = e0) (h0 : e0 ≠ 0) : Calls Tryz.prog 33 #[.string s] w fun e w' => e = .returned (.tuple #[.agg #[.slice none 0 0, .slice none 0 0, .slice none 0 0], .int .i64 e0]) ∧ Below w.heap.size w w' := by
  refine (gettab_any s w hs).mono ?_
  rintro e w' ⟨h1, _, hb⟩
  rw [h] at h1
  exact ⟨h1 h0, hb⟩
theorem gett_ok (s : ByteArray) (w : World) (hs : s.size ≤ 1152921504606846976) (h : getTE s.data.toList = 0) : Calls Tryz.prog 33 #[.string s] w fun e w' => ∃ PA p pc NA r nc AA a ac, e = .returned (.tuple #[.agg #[.slice PA p pc, .slice NA r nc, .slice AA a ac], .int .i64 0]) ∧
    (∀ w2, Below w'.heap.size w' w2 → Calls Tryz.prog 16 #[.agg #[.slice PA p pc, .slice NA r nc, .slice AA a ac]] w2 fun e w3 => e = .returned (.tuple #[.string s, .bool true]) ∧ Below w2.heap.size w2 w3) ∧ Below w.heap.size w w' := by
  refine (gettab_any s w hs).mono ?_
  rintro e w' ⟨_, h2, hb⟩
  obtain ⟨PA, pc, NA, R, nc, AA, ac, hN, rfl, hT⟩ := h2 h
  obtain ⟨g1, g2, _⟩ := getTE_zero _ h
  refine ⟨PA, _, pc, NA, _, nc, AA, _, ac, rfl, fun w2 hw2 => ?_, hb⟩
  have c16 := put16_eq PA _ pc NA R nc AA _ ac w2 (hT.below hw2)
  rw [hN, g1, g2, str_ofC] at c16
  exact c16
end Go.Proofs.YtmiacgkidldjmaaGreatDoor
namespace Go.Proofs.YtmiacgkidldjmaaGreatDoor
open Go.ChangeShapes Go.WideShapes Go.RowKit Go.Lib Go.Deep Go.Maps
open Plain (Rg In4)
set_option maxRecDepth 1000000 in
set_option maxHeartbeats 8000000 in
theorem wone_w (S Z : ByteArray) (tb : Bool) (how : Nat) (a : Int) (kb : Nat) (hhow : how < 256) (hkb : kb < 256) (ha : -9223372036854775808 ≤ a ∧ a ≤ 9223372036854775807) (hS : S.size ≤ 140737488355328) (hZ : Z.size ≤ 140737488355328)
    (PI PC LA : Option Addr) (PL : List In4) (PK : List Cs) (pic pcc lc : Nat) (pg : Int) (own : Bool) (L : List Int) (g : Int)
    (TP : Option Addr) (TL : List Int) (tpc : Nat) (TN : Option Addr) (TR : List Row) (tnc : Nat) (TA : Option Addr) (TC : List Bool) (tac : Nat) (own2 : Bool) (PA : Option Addr) (QL : List Int) (pc : Nat) (NA : Option Addr) (NL : List Int) (nc : Nat) (AA : Option Addr) (AL : List Bool) (ac : Nat)
    (W : World) (hC : CodeAt W PI PL PC PK pg LA L g) (hF : Fit PL PK) (hG : GridAt W PA QL NA NL AA AL) (hT : TabAt W TP TL TN TR TA TC) (htc : TL.length ≤ tpc) :
    Calls Tryz.prog 8 #[.agg #[.slice PI PL.length pic, .slice PC PK.length pcc, .int .i64 pg, .bool own, .slice LA L.length lc, .int .u8 g], .agg #[.slice TP TL.length tpc, .slice TN TR.length tnc, .slice TA TC.length tac, .bool own2, .slice PA QL.length pc, .slice NA NL.length nc, .slice AA AL.length ac], .agg #[.string S, .bool tb, .int .u8 (how : Int), .int .i64 a, .int .u8 (kb : Int), .string Z]] W fun e w' => e = .returned (.bool true) ∧ Below W.heap.size W w' := by
  have CC := Lib.hid (fun (w : World) (hb : Below W.heap.size W w) => code_fit PI PC LA PL PK pic pcc lc pg own L g W w hC hF hb)
  have CG := Lib.hid (fun (w : World) (hb : Below W.heap.size W w) => grid_any_w TP TL tpc TN TR tnc TA TC tac own2 PA QL pc NA NL nc AA AL ac w (hG.below hb) (hT.below hb) htc)
  have CB := Lib.hid (fun I C L K c d g PA P pc NA R nc AA C' ac w hP hF hT => bent_any S Z tb how a kb hhow hkb ha hS hZ I C L K c d g PA P pc NA R nc AA C' ac w hP hF hT)
  unfold bentV at CB
  clear hC hF hG hT htc hhow hkb ha hS hZ
  generalize PL.length = n1 at *
  generalize PK.length = n2 at *
  generalize L.length = n3 at *
  generalize TL.length = n4 at *
  generalize TR.length = n5 at *
  generalize TC.length = n6 at *
  generalize QL.length = n7 at *
  generalize NL.length = n8 at *
  generalize AL.length = n9 at *
  have b0 := below_alloc (Below.refl W.heap.size W) (.cells #[.slice PI n1 pic, .slice PC n2 pcc, .int .i64 pg, .bool own, .slice LA n3 lc, .int .u8 g] 62)
  have x0 := heap_alloc_new2 W (.cells #[.slice PI n1 pic, .slice PC n2 pcc, .int .i64 pg, .bool own, .slice LA n3 lc, .int .u8 g] 62) W.heap.size _ rfl
  obtain ⟨w0, hw0⟩ : ∃ x, W.alloc (.cells #[.slice PI n1 pic, .slice PC n2 pcc, .int .i64 pg, .bool own, .slice LA n3 lc, .int .u8 g] 62) = x := ⟨_, rfl⟩
  rw [hw0] at b0 x0
  have b1 := below_alloc b0 (.cells #[.slice TP n4 tpc, .slice TN n5 tnc, .slice TA n6 tac, .bool own2, .slice PA n7 pc, .slice NA n8 nc, .slice AA n9 ac] 63)
  have x1 := heap_alloc_new2 w0 (.cells #[.slice TP n4 tpc, .slice TN n5 tnc, .slice TA n6 tac, .bool own2, .slice PA n7 pc, .slice NA n8 nc, .slice AA n9 ac] 63) w0.heap.size _ rfl
  have x0 := blk_alloc x0 (.cells #[.slice TP n4 tpc, .slice TN n5 tnc, .slice TA n6 tac, .bool own2, .slice PA n7 pc, .slice NA n8 nc, .slice AA n9 ac] 63)
  obtain ⟨w1, hw1⟩ : ∃ x, w0.alloc (.cells #[.slice TP n4 tpc, .slice TN n5 tnc, .slice TA n6 tac, .bool own2, .slice PA n7 pc, .slice NA n8 nc, .slice AA n9 ac] 63) = x := ⟨_, rfl⟩
  rw [hw1] at b1 x0 x1
  have b2 := below_alloc b1 (.cells #[.string S, .bool tb, .int .u8 (how : Int), .int .i64 a, .int .u8 (kb : Int), .string Z] 77)
  have x2 := heap_alloc_new2 w1 (.cells #[.string S, .bool tb, .int .u8 (how : Int), .int .i64 a, .int .u8 (kb : Int), .string Z] 77) w1.heap.size _ rfl
  have x0 := blk_alloc x0 (.cells #[.string S, .bool tb, .int .u8 (how : Int), .int .i64 a, .int .u8 (kb : Int), .string Z] 77)
  have x1 := blk_alloc x1 (.cells #[.string S, .bool tb, .int .u8 (how : Int), .int .i64 a, .int .u8 (kb : Int), .string Z] 77)
  obtain ⟨w2, hw2⟩ : ∃ x, w1.alloc (.cells #[.string S, .bool tb, .int .u8 (how : Int), .int .i64 a, .int .u8 (kb : Int), .string Z] 77) = x := ⟨_, rfl⟩
  rw [hw2] at b2 x0 x1 x2
  obtain ⟨p0, hp0⟩ : ∃ x, W.heap.size = x := ⟨_, rfl⟩
  obtain ⟨p1, hp1⟩ : ∃ x, w0.heap.size = x := ⟨_, rfl⟩
  obtain ⟨p2, hp2⟩ : ∃ x, w1.heap.size = x := ⟨_, rfl⟩
  rw [hp0] at x0
  rw [hp1] at x1
  rw [hp2] at x2
  have HB0 := Lib.hid b2
  have HX0 := Lib.hid x0
  have HX1 := Lib.hid x1
  have HX2 := Lib.hid x2
  clear b0 b1 b2 x0 x1 x2
  go_enter Tryz.func8, Tryz.ntmps8
  go_upto_region 1 with fail
  try rw [hw0]
  try rw [hw1]
  try rw [hw2]
  try rw [hp0]
  try rw [hp1]
  try rw [hp2]
  clear hw0 hw1 hw2 hp0 hp1 hp2
  go_wp2_with fail
  refine (ex12_any _).mono ?_
  rintro e w3 ⟨rfl, hb⟩
  have HB3 := Lib.hid (below_then HB0.out hb)
  have X0 := Lib.hid (blk_later HX0.out hb)
  have X1 := Lib.hid (blk_later HX1.out hb)
  have X2 := Lib.hid (blk_later HX2.out hb)
  clear hb HB0 HX0 HX1 HX2
  have HF := Lib.hid (fun (w' : World) (h : Below w3.heap.size w3 w') => (⟨(cells_of (blk_later X0.out h)).at_ 0 _ rfl, (cells_of (blk_later X0.out h)).at_ 1 _ rfl, (cells_of (blk_later X0.out h)).at_ 2 _ rfl, (cells_of (blk_later X0.out h)).at_ 3 _ rfl, (cells_of (blk_later X0.out h)).at_ 4 _ rfl, (cells_of (blk_later X0.out h)).at_ 5 _ rfl, (cells_of (blk_later X1.out h)).at_ 0 _ rfl, (cells_of (blk_later X1.out h)).at_ 1 _ rfl, (cells_of (blk_later X1.out h)).at_ 2 _ rfl, (cells_of (blk_later X1.out h)).at_ 3 _ rfl, (cells_of (blk_later X1.out h)).at_ 4 _ rfl, (cells_of (blk_later X1.out h)).at_ 5 _ rfl, (cells_of (blk_later X1.out h)).at_ 6 _ rfl, (cells_of (blk_later X2.out h)).at_ 0 _ rfl, (cells_of (blk_later X2.out h)).at_ 1 _ rfl, (cells_of (blk_later X2.out h)).at_ 2 _ rfl, (cells_of (blk_later X2.out h)).at_ 3 _ rfl, (cells_of (blk_later X2.out h)).at_ 4 _ rfl, (cells_of (blk_later X2.out h)).at_ 5 _ rfl⟩ : _ ∧ _ ∧ _ ∧ _ ∧ _ ∧ _ ∧ _ ∧ _ ∧ _ ∧ _ ∧ _ ∧ _ ∧ _ ∧ _ ∧ _ ∧ _ ∧ _ ∧ _ ∧ _))
  go_upto_region 4 with fail
  have hbd : Below w3.heap.size w3 w3.drew := (Below.refl w3.heap.size w3).drew
  obtain ⟨wd, hwd⟩ : ∃ z, w3.drew = z := ⟨_, rfl⟩
  rw [hwd] at hbd
  have HBD := Lib.hid hbd
  clear hbd
  refine wp_region_noPanic ?_
  refine wp_region_T 6 (S := fun w' : World => Below w3.heap.size w3 w') (by kernel_rfl) (by decide) ?_
  rw [hwd]
  clear hwd
  refine wpAnyT_take2 0 (v := ?tvt1) (by kernel_rfl) rfl (by kernel_rfl) (fun _ _ _ h => h) (Or.inl ⟨by rfl, ?tyt1⟩) HBD.out ?trt1
  case tyt1 => (intro w' hSw; obtain ⟨a0, a1, a2, a3, a4, a5, b0, b1, b2, b3, b4, b5, b6, c0, c1, c2, c3, c4, c5⟩ := HF.out w' hSw; (try dsimp only at hSw); go_simp; try with_reducible rfl)
  try simp only [Act.put, List.setIfInBounds_toArray, List.set_cons_zero, List.set_cons_succ]
  refine wpAnyT_take2 1 (v := ?tvt2) (by kernel_rfl) rfl (by kernel_rfl) (fun _ _ _ h => h) (Or.inl ⟨by rfl, ?tyt2⟩) HBD.out ?trt2
  case tyt2 => (intro w' hSw; obtain ⟨a0, a1, a2, a3, a4, a5, b0, b1, b2, b3, b4, b5, b6, c0, c1, c2, c3, c4, c5⟩ := HF.out w' hSw; (try dsimp only at hSw); go_simp; try with_reducible rfl)
  try simp only [Act.put, List.setIfInBounds_toArray, List.set_cons_zero, List.set_cons_succ]
  refine wpAnyT_take2 3 (v := ?tvt3) (by kernel_rfl) rfl (by kernel_rfl) (fun _ _ _ h => h) (Or.inl ⟨by rfl, ?tyt3⟩) HBD.out ?trt3
  case tyt3 => (intro w' hSw; obtain ⟨a0, a1, a2, a3, a4, a5, b0, b1, b2, b3, b4, b5, b6, c0, c1, c2, c3, c4, c5⟩ := HF.out w' hSw; (try dsimp only at hSw); go_simp; try with_reducible rfl)
  try simp only [Act.put, List.setIfInBounds_toArray, List.set_cons_zero, List.set_cons_succ]
  refine wpAnyT_one2 2 rfl (by kernel_rfl) ?_
  intro K' hK'
  rw [if_pos (by rfl)]
  have HK := Lib.hid hK'
  clear hK'
  go_wp2_with (go_at_call 23; refine (CC.out _ (below_then HB3.out HBD.out)).mono ?_; rintro et4 wt4 ⟨I, C, L1, K1, c1, d1, g1, rfl, hP, hFit, hb⟩)
  have HBt4 := Lib.hid (below_then HBD.out hb)
  have HPq := Lib.hid (fun (w' : World) (h : Below wt4.heap.size wt4 w') => hP.below h)
  have HFq := Lib.hid hFit
  clear hP hFit
  clear hb
  refine HK.out _ _ ⟨HBt4.out, ?_⟩
  clear HK K'
  try simp only [Act.put, List.setIfInBounds_toArray, List.set_cons_zero, List.set_cons_succ]
  refine wpAnyT_one2 4 rfl (by kernel_rfl) ?_
  intro K' hK'
  rw [if_pos (by rfl)]
  have HK := Lib.hid hK'
  clear hK'
  go_wp2_with (go_at_call 24; refine (CG.out _ (below_then HB3.out HBt4.out)).mono ?_; rintro et5 wt5 ⟨A1, P1, k1, A2, R1, k2, A3, C1, k3, rfl, hT, _, hb⟩)
  have HBt5 := Lib.hid (below_then HBt4.out hb)
  have HPr := Lib.hid (HPq.out _ hb)
  have HTr := Lib.hid hT
  clear hT HPq
  clear hb
  refine HK.out _ _ ⟨HBt5.out, ?_⟩
  clear HK K'
  try simp only [Act.put, List.setIfInBounds_toArray, List.set_cons_zero, List.set_cons_succ]
  refine wpAnyT_one2 5 rfl (by kernel_rfl) ?_
  intro K' hK'
  rw [if_pos (by rfl)]
  have HK := Lib.hid hK'
  clear hK'
  go_wp2_with (go_at_call 31; refine (CB.out I C L1 K1 c1 d1 g1 A1 P1 k1 A2 R1 k2 A3 C1 k3 _ HPr.out HFq.out HTr.out).mono ?_; rintro et6 wt6 ⟨⟨s, hsz, rfl⟩, hb⟩)
  have HBt6 := Lib.hid (below_then HBt5.out hb)
  have HSZ := Lib.hid hsz
  clear hsz HPr HTr HFq CB
  clear hb
  refine HK.out _ _ ⟨HBt6.out, ?_⟩
  clear HK K'
  try simp only [Act.put, List.setIfInBounds_toArray, List.set_cons_zero, List.set_cons_succ]
  refine ⟨by kernel_rfl, ?_⟩
  change wpList _ _ _ [_] _ _
  go_wp2_with fail
  refine NoPanic.normal ?_
  have HB5 := Lib.hid (below_then HB3.out HBt6.out)
  obtain ⟨w5, hw5⟩ : ∃ x, wt6 = x := ⟨_, rfl⟩
  rw [hw5] at HB5 ⊢
  clear hw5
  have hs60 : s.size ≤ 1152921504606846976 := Nat.le_trans HSZ.out (by decide)
  obtain ⟨e1, he1⟩ : ∃ x, getE s.data.toList = x := ⟨_, rfl⟩
  obtain ⟨e2, he2⟩ : ∃ x, getTE s.data.toList = x := ⟨_, rfl⟩
  by_cases h1 : e1 = 0
  · have hk := (getE_zero _ (he1.trans h1)).2.2
    have CG1 := Lib.hid (get_ok s w5 hs60 (he1.trans h1))
    have CT1 := Lib.hid (fun w => gett_err s w hs60 12 hk (by decide))
    clear hs60 he1 he2 h1 hk
    go_wp2_with fail
    refine Calls.mono CG1.out ?_
    rintro e w6 ⟨I2, c2, C2, d2, n', m', g2, rfl, hC, hb⟩
    have HB6 := Lib.hid (below_then HB5.out hb)
    have hx7 := heap_alloc_new2 w6 (.cells #[.slice I2 n' c2, .slice C2 m' d2, .int .i64 g2] 25) w6.heap.size _ rfl
    have hb7 := below_alloc (Below.refl w6.heap.size w6) (.cells #[.slice I2 n' c2, .slice C2 m' d2, .int .i64 g2] 25)
    obtain ⟨w7, hw7⟩ : ∃ x, w6.alloc (.cells #[.slice I2 n' c2, .slice C2 m' d2, .int .i64 g2] 25) = x := ⟨_, rfl⟩
    rw [hw7] at hx7 hb7
    have HX7 := Lib.hid hx7
    have HB7 := Lib.hid hb7
    have HC := Lib.hid hC
    clear hb hx7 hb7 hC
    go_upto_region 6 with fail
    try rw [hw7]
    obtain ⟨q0, hq0⟩ : ∃ x, w6.heap.size = x := ⟨_, rfl⟩
    have HQ0 := Lib.hid hq0
    rw [hq0] at HX7 ⊢
    clear hw7 hq0
    go_wp2_with fail
    refine Calls.mono (CT1.out w7) ?_
    rintro e w8 ⟨rfl, hb⟩
    have HB8 := Lib.hid (below_alloc hb (.cells #[.slice none 0 0, .slice none 0 0, .slice none 0 0] 34))
    clear hb
    go_upto_region 7 with fail
    obtain ⟨w9, hw9⟩ : ∃ x, w8.alloc (.cells #[.slice none 0 0, .slice none 0 0, .slice none 0 0] 34) = x := ⟨_, rfl⟩
    rw [hw9] at HB8 ⊢
    clear hw9
    obtain ⟨⟨x0, x1, x2⟩, xl⟩ := (⟨blk_cells3 (blk_later HX7.out HB8.out), lt_of_some (blk_later HX7.out HB8.out)⟩ : _ ∧ _)
    go_wp2_with fail
    refine Calls.mono (HC.out _ (below_then HB7.out HB8.out)) ?_
    rintro e w10 ⟨rfl, hb⟩
    have HB10 := Lib.hid (below_then (below_then HB6.out (below_then HB7.out HB8.out)) hb)
    clear hb x0 x1 x2 xl
    go_wp2_with fail
    go_ret
    exact ⟨rfl, HB10.out⟩
  by_cases h2 : e2 = 0
  · have hk := (getTE_zero _ (he2.trans h2)).2.2
    have CG1 := Lib.hid (get_err s w5 hs60 12 hk (by decide))
    have CT1 := Lib.hid (fun w => gett_ok s w hs60 (he2.trans h2))
    clear hs60 he1 he2 h1 h2 hk
    go_wp2_with fail
    refine Calls.mono CG1.out ?_
    rintro e w6 ⟨rfl, hb⟩
    have HB6 := Lib.hid (below_then HB5.out (below_alloc hb (.cells #[.slice none 0 0, .slice none 0 0, .int .i64 0] 25)))
    clear hb
    go_upto_region 6 with fail
    obtain ⟨w7, hw7⟩ : ∃ x, w6.alloc (.cells #[.slice none 0 0, .slice none 0 0, .int .i64 0] 25) = x := ⟨_, rfl⟩
    rw [hw7] at HB6 ⊢
    clear hw7
    go_wp2_with fail
    refine Calls.mono (CT1.out w7) ?_
    rintro e w8 ⟨A7, n7', c7, A8, n8', c8, A9, n9', c9, rfl, hC, hb⟩
    have HB8 := Lib.hid (below_then HB6.out hb)
    have hx9 := heap_alloc_new2 w8 (.cells #[.slice A7 n7' c7, .slice A8 n8' c8, .slice A9 n9' c9] 34) w8.heap.size _ rfl
    have hb9 := below_alloc (Below.refl w8.heap.size w8) (.cells #[.slice A7 n7' c7, .slice A8 n8' c8, .slice A9 n9' c9] 34)
    obtain ⟨w9, hw9⟩ : ∃ x, w8.alloc (.cells #[.slice A7 n7' c7, .slice A8 n8' c8, .slice A9 n9' c9] 34) = x := ⟨_, rfl⟩
    rw [hw9] at hx9 hb9
    have HX9 := Lib.hid hx9
    have HB9 := Lib.hid hb9
    have HC := Lib.hid hC
    clear hb hx9 hb9 hC
    go_upto_region 7 with fail
    try rw [hw9]
    obtain ⟨q0, hq0⟩ : ∃ x, w8.heap.size = x := ⟨_, rfl⟩
    rw [hq0] at HX9 ⊢
    clear hw9 hq0
    obtain ⟨⟨x0, x1, x2⟩, xl⟩ := (⟨blk_cells3 HX9.out, lt_of_some HX9.out⟩ : _ ∧ _)
    go_wp2_with fail
    refine Calls.mono (HC.out w9 HB9.out) ?_
    rintro e w10 ⟨rfl, hb⟩
    have HB10 := Lib.hid (below_then (below_then HB8.out HB9.out) hb)
    clear hb x0 x1 x2 xl
    go_wp2_with fail
    go_ret
    exact ⟨rfl, HB10.out⟩
  · have CG1 := Lib.hid (get_err s w5 hs60 e1 he1 h1)
    have CT1 := Lib.hid (fun w => gett_err s w hs60 e2 he2 h2)
    have d1 : (e1 == 0) = false := by simpa using h1
    have d2 : (e2 == 0) = false := by simpa using h2
    clear hs60 he1 he2
    go_wp2_with fail
    refine Calls.mono CG1.out ?_
    rintro e w6 ⟨rfl, hb⟩
    have HB6 := Lib.hid (below_then HB5.out (below_alloc hb (.cells #[.slice none 0 0, .slice none 0 0, .int .i64 0] 25)))
    clear hb
    go_upto_region 6 with fail
    obtain ⟨w7, hw7⟩ : ∃ x, w6.alloc (.cells #[.slice none 0 0, .slice none 0 0, .int .i64 0] 25) = x := ⟨_, rfl⟩
    rw [hw7] at HB6 ⊢
    clear hw7
    go_wp2_with fail
    refine Calls.mono (CT1.out w7) ?_
    rintro e w8 ⟨rfl, hb⟩
    have HB8 := Lib.hid (below_then HB6.out (below_alloc hb (.cells #[.slice none 0 0, .slice none 0 0, .slice none 0 0] 34)))
    clear hb
    go_upto_region 7 with fail
    obtain ⟨w9, hw9⟩ : ∃ x, w8.alloc (.cells #[.slice none 0 0, .slice none 0 0, .slice none 0 0] 34) = x := ⟨_, rfl⟩
    rw [hw9] at HB8 ⊢
    clear hw9
    go_wp2_with fail
    go_ret
    exact ⟨rfl, HB8.out⟩
end Go.Proofs.YtmiacgkidldjmaaGreatDoor
namespace Go.Proofs.YtmiacgkidldjmaaGreatDoor
open Go.ChangeShapes Go.WideShapes Go.RowKit Go.Lib Go.Deep Go.Maps
open Plain (Rg In4)
section
variable {H : Type} {enc : TypeId × Value → H} {W : World}
set_option maxRecDepth 100000 in
theorem open_bent {base : Nat} {v : Value} {d : DataW H} {p : List MemPlace} (hv : Value.okWide Tryz.prog W .any base 77 v) (h : DataW.Trod enc Tryz.prog W 0 (fun _ => true) true 77 v d p) (hz : ∀ n ∈ d.weights Tryz.prog 77, n ≤ reachBytes) :
    ∃ (S Z : ByteArray) (tb : Bool) (how : Nat) (a : Int) (kb : Nat), v = .agg #[.string S, .bool tb, .int .u8 (how : Int), .int .i64 a, .int .u8 (kb : Int), .string Z] ∧ how < 256 ∧ kb < 256 ∧ (-9223372036854775808 ≤ a ∧ a ≤ 9223372036854775807) ∧ S.size ≤ 140737488355328 ∧ Z.size ≤ 140737488355328 := by
  obtain ⟨cs, rfl, hsz⟩ := okWide_struct Tryz.underlying77 hv
  have h6 : Tryz.prog.cellsOf 77 = 6 := by kernel_rfl
  have s9 : Tryz.prog.cellsOf 9 = 1 := by kernel_rfl
  have s4 : Tryz.prog.cellsOf 4 = 1 := by kernel_rfl
  have s5 : Tryz.prog.cellsOf 5 = 1 := by kernel_rfl
  have s3 : Tryz.prog.cellsOf 3 = 1 := by kernel_rfl
  obtain ⟨l⟩ := cs
  match l, hsz.trans h6 with
  | [c0, c1, c2, c3, c4, c5], _ =>
    obtain ⟨fuel, hf⟩ := h
    obtain ⟨xs, n, _, hx, _, hlen, hg⟩ := DataW.trod_struct Tryz.underlying77 hf
    match xs, hlen with
    | [y0, y1, y2, y3, y4, y5], _ =>
      have g0 : DataW.trod enc Tryz.prog W 0 (fun _ => true) true n 9 [c0] = some y0 := by simpa [Value.cells, s9] using hg 0 _ rfl
      have g1 : DataW.trod enc Tryz.prog W 0 (fun _ => true) true n 4 [c1] = some y1 := by simpa [Value.cells, s4] using hg 1 _ rfl
      have g2 : DataW.trod enc Tryz.prog W 0 (fun _ => true) true n 5 [c2] = some y2 := by simpa [Value.cells, s5] using hg 2 _ rfl
      have g3 : DataW.trod enc Tryz.prog W 0 (fun _ => true) true n 3 [c3] = some y3 := by simpa [Value.cells, s3] using hg 3 _ rfl
      have g4 : DataW.trod enc Tryz.prog W 0 (fun _ => true) true n 5 [c4] = some y4 := by simpa [Value.cells, s5] using hg 4 _ rfl
      have g5 : DataW.trod enc Tryz.prog W 0 (fun _ => true) true n 9 [c5] = some y5 := by simpa [Value.cells, s9] using hg 5 _ rfl
      injection hx with hd _
      obtain ⟨S, e0, r0, _⟩ := DataW.trod_string Tryz.underlying9 g0
      obtain ⟨tb, e1, r1⟩ := DataW.trod_bool Tryz.underlying4 g1
      obtain ⟨hw, e2, r2, w2⟩ := DataW.trod_int Tryz.underlying5 g2
      obtain ⟨a, e3, r3, w3⟩ := DataW.trod_int Tryz.underlying3 g3
      obtain ⟨kb, e4, r4, w4⟩ := DataW.trod_int Tryz.underlying5 g4
      obtain ⟨Z, e5, r5, _⟩ := DataW.trod_string Tryz.underlying9 g5
      have hw0 : S.data.toList.length ∈ d.weights Tryz.prog 77 := by
        rw [hd]
        simp only [List.map_cons, List.map_nil]
        rw [r0]
        simp [DataW.weights, Tryz.underlying77, DataW.weightsEach]
      have hw5 : Z.data.toList.length ∈ d.weights Tryz.prog 77 := by
        rw [hd]
        simp only [List.map_cons, List.map_nil]
        rw [r5]
        simp [DataW.weights, Tryz.underlying77, DataW.weightsEach]
      have z0 := hz _ hw0
      have z5 := hz _ hw5
      have l0 : S.data.toList.length = S.size := by simp
      have l5 : Z.data.toList.length = Z.size := by simp
      rw [l0] at z0
      rw [l5] at z5
      have hr : reachBytes ≤ 140737488355328 := by decide
      injection e0 with e0
      injection e1 with e1
      injection e2 with e2
      injection e3 with e3
      injection e4 with e4
      injection e5 with e5
      subst e0 e1 e2 e3 e4 e5
      obtain ⟨b0, b1⟩ := wf_u8b w2
      obtain ⟨b2, b3⟩ := wf_u8b w4
      obtain ⟨how, rfl⟩ : ∃ x : Nat, hw = x := ⟨hw.toNat, by omega⟩
      obtain ⟨k, rfl⟩ : ∃ x : Nat, kb = x := ⟨kb.toNat, by omega⟩
      exact ⟨S, Z, tb, how, a, k, rfl, by omega, by omega, wf_i64b w3, Nat.le_trans z0 hr, Nat.le_trans z5 hr⟩
end
set_option maxRecDepth 100000 in
theorem wone_all {H : Type} {enc : TypeId × Value → H} {base base1 base2 : Nat} {v v1 v2 : Value} {d d1 d2 : DataW H} {p p1 p2 : List MemPlace} (W : World) (hv : Value.okWide Tryz.prog W .any base 62 v) (h : DataW.Trod enc Tryz.prog W 0 (fun _ => true) true 62 v d p) (hz : ∀ n ∈ d.weights Tryz.prog 62, n ≤ reachBytes)
    (hv1 : Value.okWide Tryz.prog W .any base1 63 v1) (h1 : DataW.Trod enc Tryz.prog W 0 (fun _ => true) true 63 v1 d1 p1)
    (hv2 : Value.okWide Tryz.prog W .any base2 77 v2) (h2 : DataW.Trod enc Tryz.prog W 0 (fun _ => true) true 77 v2 d2 p2) (hz2 : ∀ n ∈ d2.weights Tryz.prog 77, n ≤ reachBytes) :
    Calls Tryz.prog 8 #[v, v1, v2] W fun e w' => e = .returned (.bool true) ∧ Below W.heap.size W w' := by
  obtain ⟨PI, PL, pic, PC, PK, pcc, pg, own, LA, L, lc, g, rfl, hC, hF⟩ := open_code_wz hv h hz
  obtain ⟨TP, TL, tpc, TN, TR, tnc, TA, TC, tac, ow2, PA, GL, pc, NA, NL, nc, AA, AL, ac, rfl, hG, hT, htc⟩ := open_grid2_w hv1 h1
  obtain ⟨S, Z, tb, how, a, kb, rfl, hh, hk, ha, hS, hZ⟩ := open_bent hv2 h2 hz2
  exact wone_w S Z tb how a kb hh hk ha hS hZ PI PC LA PL PK pic pcc lc pg own L g TP TL tpc TN TR tnc TA TC tac ow2 PA GL pc NA NL nc AA AL ac W hC hF hG hT htc
end Go.Proofs.YtmiacgkidldjmaaGreatDoor
