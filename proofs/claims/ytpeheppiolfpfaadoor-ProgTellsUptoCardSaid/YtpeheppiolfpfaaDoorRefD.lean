/- The document's Digits, line and Put (chapter 8): what they compute. Conditions: what each lemma says. -/
import Derived.Test.YtpeheppiolfpfaaDoorPutG
import Derived.Deep.RegionHeld3
import Derived.Deep.QuietTactic
set_option linter.unusedVariables false
set_option linter.unusedSimpArgs false
namespace Go.Proofs.YtpeheppiolfpfaaDoor.Plain
open Go.Lib (decDigits)
/-- what is left of a number, with the digits that there are -/
def dg (x : Nat) (s : List UInt8) : List UInt8 := if s = [] ∨ 0 < x then decDigits x ++ s else s
theorem dg_start (x : Nat) : dg x [] = decDigits x := by unfold dg; rw [if_pos (.inl rfl), List.append_nil]
theorem dg_step (x : Nat) (s : List UInt8) (h : s = [] ∨ 0 < x) : dg (x / 10) (UInt8.ofNat (48 + x % 10) :: s) = dg x s := by
  unfold dg
  rw [if_pos h]
  by_cases h1 : x < 10
  · rw [if_neg (by simp; omega), Go.Lib.decDigits_one h1, Nat.mod_eq_of_lt h1]; rfl
  · rw [if_pos (.inr (by omega))]
    conv => rhs; rw [decDigits, dif_neg h1]
    simp
theorem dg_end (s : List UInt8) (h : s ≠ []) : dg 0 s = s := by unfold dg; rw [if_neg (by simp [h])]
theorem dg_len (x : Nat) (s : List UInt8) : s.length ≤ (dg x s).length := by
  unfold dg; split
  · rw [List.length_append]; omega
  · omega
end Go.Proofs.YtpeheppiolfpfaaDoor.Plain
namespace Go.Proofs.YtpeheppiolfpfaaDoor
open Go.RowKit Go.Lib
open Plain (I64 dg)
theorem conv_u8 {w : World} {base n c : Nat} {A : Option Addr} {ns : List Int} (h : w.ownsRow base 5 1 (.slice A n c) n (u8s ns)) : (convert 80 9 (.slice A n c)).run Tryd.prog w = .ok (.string (bstr ns)) w := by
  rw [run_convert_bytes_string w 80 9 5 A n c Tryd.underlying80 Tryd.underlying5 Tryd.underlying9]
  have hl := h.1
  rcases h.2 with ⟨hv, hn⟩ | ⟨g, cap, cur, hv, _⟩
  · injection hv with h1 h2 h3
    subst h1 h2 h3
    have : ns = [] := List.eq_nil_of_length_eq_zero (by simpa [u8s] using hl)
    subst this
    rfl
  · injection hv with h1 h2 h3
    subst h1
    have hc := h.cells (g := g) rfl
    have hlen : (u8s ns).length = n := by rw [hl, Nat.mul_one]
    have h2 := run_loadCells_list (P := Tryd.prog) (w := w) ⟨g, 0, none⟩ (u8s ns) hc
    rw [hlen] at h2
    exact run_bytesToString w _ n c ns h2
theorem conv_one (w : World) (v : Nat) (hv : v < 256) : (convert 80 9 (.slice (some ⟨w.heap.size, 0, none⟩) 1 1)).run Tryd.prog (w.alloc (.cells #[.int .u8 (v : Int)] 5)) = .ok (.string (str [UInt8.ofNat v])) (w.alloc (.cells #[.int .u8 (v : Int)] 5)) := by
  have h := conv_u8 (w := w.alloc (.cells #[.int .u8 (v : Int)] 5)) (base := w.heap.size) (n := 1) (c := 1) (A := some ⟨w.heap.size, 0, none⟩) (ns := [(v : Int)]) (own_one (heap_alloc_new2 _ _ _ _ rfl) (Nat.le_refl _))
  rw [h]
  rfl
def strZ : Value → Nat
  | .string s => if s.size = 0 then 1 else 0
  | _ => 0
set_option maxRecDepth 100000 in
set_option maxHeartbeats 4000000 in
theorem digits_any (n : Int) (hn : I64 n) (w : World) : Calls Tryd.prog 46 #[.int .i64 n] w fun e w' => e = .returned (.string (str (itoa n))) ∧ Below w.heap.size w w' := by
  obtain ⟨X, hX⟩ : ∃ X : Nat, X = n.natAbs := ⟨_, rfl⟩
  obtain ⟨sg, hsg⟩ : ∃ sg : List UInt8, sg = (if n < 0 then [45] else []) := ⟨_, rfl⟩
  have hit : itoa n = sg ++ Lib.decDigits X := by
    unfold itoa
    rw [hX, hsg]
    split
    · rfl
    · rw [show n.toNat = n.natAbs by omega]; rfl
  have hlen := Plain.dec_len20 X (by have := hn.1; have := hn.2; omega)
  have hXb : X < 18446744073709551616 := by have := hn.1; have := hn.2; omega
  obtain ⟨RES, hRES⟩ : ∃ z, Lib.decDigits X = z := ⟨_, rfl⟩
  rw [hRES] at hit hlen
  rw [hit]
  have HRES := Lib.hid hRES
  have HSG := Lib.hid hsg
  have hsl : sg.length ≤ 1 := by rw [hsg]; split <;> simp
  have HX := Lib.hid hX
  clear hX hsg hit hRES
  go_enter Tryd.func46, Tryd.ntmps46
  go_upto_if 9 with fail
  go_cut [3, 4] (fun x s wx => x = .int .u64 (X : Int) ∧ s = .string (str sg) ∧ wx = w)
  case first =>
    by_cases h : n < 0
    · have d0 : decide (n < 0) = true := decide_eq_true h
      have e1 : IntKind.u64.wrap (-(IntKind.u64.wrap n)) = (X : Int) := by rw [HX.out, IntKind.wrap_u64, IntKind.wrap_u64]; have := hn.1; omega
      have HS1 := Lib.hid (show sg = [45] by rw [HSG.out, if_pos h])
      go_wp2_with fail
      go_meet
      case rel => exact ⟨rfl, by rw [HS1.out]; rfl, rfl⟩
    · have d0 : decide (n < 0) = false := decide_eq_false h
      have e1 : IntKind.u64.wrap n = (X : Int) := by rw [HX.out, IntKind.wrap_u64]; have := hn.2; omega
      have HS1 := Lib.hid (show sg = [] by rw [HSG.out, if_neg h])
      go_wp2_with fail
      go_meet
      case rel => exact ⟨rfl, by rw [HS1.out]; rfl, rfl⟩
  case rest =>
    obtain ⟨rfl, rfl, rfl⟩ := hcut
    obtain ⟨wv, rfl⟩ : ∃ z, z = wc := ⟨_, rfl⟩
    go_wp2_with fail
    go_loopw [3, 5] (fun u v wr => ∃ (x : Nat) (s : List UInt8), u = .int .u64 (x : Int) ∧ v = .string (str s) ∧ x ≤ X ∧ dg x s = RES ∧ RowKit.Below wv.heap.size wv wr) (fun u v _ => (RowKit.intOf u).toNat + strZ v)
    case atStart => exact ⟨X, [], rfl, rfl, Nat.le_refl _, by rw [Plain.dg_start]; exact HRES.out, Below.refl _ _⟩
    case round =>
      obtain ⟨x, s, rfl, rfl, hxX, hd, hB⟩ := hrel
      obtain ⟨w1, rfl⟩ : ∃ z, z = wr := ⟨_, rfl⟩
      have HB := Lib.hid hB
      have HDG := Lib.hid hd
      have hsl2 := Plain.dg_len x s
      rw [hd] at hsl2
      clear hB hd
      by_cases hc : s = [] ∨ 0 < x
      · obtain ⟨d, hd⟩ : ∃ d, x % 10 = d := ⟨_, rfl⟩
        obtain ⟨v, hv⟩ : ∃ v, 48 + d = v := ⟨_, rfl⟩
        obtain ⟨q, hq⟩ : ∃ q, x / 10 = q := ⟨_, rfl⟩
        have e1 : Int.tmod (x : Int) 10 = (d : Int) := by rw [Int.tmod_eq_emod_of_nonneg (by omega)]; omega
        have e1' : (x : Int) % 10 = (d : Int) := by omega
        have e2 : IntKind.u64.wrap (d : Int) = (d : Int) := by rw [IntKind.wrap_u64]; omega
        have e3 : IntKind.u64.wrap (48 + (d : Int)) = (v : Int) := by rw [IntKind.wrap_u64]; omega
        have e4 : IntKind.u8.wrap (v : Int) = (v : Int) := by rw [IntKind.wrap_u8]; omega
        have e5 : Int.tdiv (x : Int) 10 = (q : Int) := by rw [Int.tdiv_eq_ediv_of_nonneg (by omega)]; omega
        have e5' : (x : Int) / 10 = (q : Int) := by omega
        have e6 : IntKind.u64.wrap (q : Int) = (q : Int) := by rw [IntKind.wrap_u64]; omega
        have hv256 : v < 256 := by omega
        have cv := conv_one w1 v hv256
        have hst := Plain.dg_step x s hc
        rw [hd, hv, hq] at hst
        have HN := Lib.hid (hst.trans HDG.out)
        have hqx : q ≤ X := by omega
        have hq0 : 0 < x → q < x := fun h => by omega
        have HQ0 := Lib.hid (And.intro hq hq0)
        have g1 : ¬ (9223372036854775807 < (str [UInt8.ofNat v]).size + (str s).size) := by rw [str_size, str_size]; simp; omega
        have hcat : str [UInt8.ofNat v] ++ str s = str (UInt8.ofNat v :: s) := by rw [str_app]; rfl
        have HB1 := Lib.hid (below_alloc HB.out (.cells #[.int .u8 (v : Int)] 5))
        clear hd hv hq hst hq0
        cases s with
        | nil =>
          have hn1 : str ([] : List UInt8) = ⟨#[]⟩ := rfl
          rw [hn1] at g1 hcat ⊢
          clear hn1
          go_wp2_with fail
          go_roundw
          case rel => exact ⟨q, [UInt8.ofNat v], rfl, by first | rfl | (rw [← hcat]; rfl), hqx, HN.out, HB1.out⟩
          case measure => simp [RowKit.intOf, strZ, str, ByteArray.size]; have := HQ0.out.1; omega
        | cons c r =>
          have hx0 : 0 < x := by rcases hc with h | h; cases h; exact h
          have hne0 : ¬ ((str (c :: r)).toList = []) := by rw [ByteArray.toList_eq]; exact List.cons_ne_nil _ _
          have hie : (str (c :: r)).toList.isEmpty = false := by rw [ByteArray.toList_eq]; rfl
          have d1 : decide ((x : Int) > 0) = true := decide_eq_true (by omega)
          have d1n : decide (0 < x) = true := decide_eq_true hx0
          go_wp2_with fail
          go_roundw
          case rel => exact ⟨q, UInt8.ofNat v :: c :: r, rfl, by rw [← hcat], hqx, HN.out, HB1.out⟩
          case measure => simp [RowKit.intOf, strZ, str, ByteArray.size]; have := HQ0.out.2 hx0; omega
      · have hs : s ≠ [] := fun h => hc (.inl h)
        have hx0 : x = 0 := by omega
        subst hx0
        have hfin := HDG.out
        rw [Plain.dg_end s hs] at hfin
        have g1 : ¬ (9223372036854775807 < (str sg).size + (str s).size) := by rw [str_size, str_size]; omega
        have hcat : str sg ++ str s = str (sg ++ s) := str_app _ _
        have HF := Lib.hid hfin
        clear hfin hc
        cases s with
        | nil => exact absurd rfl hs
        | cons c r =>
          have hne0 : ¬ ((str (c :: r)).toList = []) := by rw [ByteArray.toList_eq]; exact List.cons_ne_nil _ _
          have hie : (str (c :: r)).toList.isEmpty = false := by rw [ByteArray.toList_eq]; rfl
          have d0 : decide (((0 : Nat) : Int) > 0) = false := by decide
          go_wp2_with fail
          go_ret
          exact ⟨ret_str (by first | rw [hcat, HF.out] | rw [HF.out]), HB.out⟩
end Go.Proofs.YtpeheppiolfpfaaDoor
namespace Go.Proofs.YtpeheppiolfpfaaDoor
open Go.RowKit Go.Lib
open Plain (I64 I64s lineG putG In4)
def Kb (w0 w : World) : Prop := Below w0.heap.size w0 w
theorem line2_eq (wd : List UInt8) (p q : Int) : str (wd ++ [32]) ++ str (itoa p) ++ str [32] ++ str (itoa q) = str (lineG wd [p, q]) := by
  rw [str_app, str_app, str_app]; unfold Plain.lineG; simp
theorem line1_eq (wd : List UInt8) (p : Int) : str (wd ++ [32]) ++ str (itoa p) = str (lineG wd [p]) := by
  rw [str_app]; unfold Plain.lineG; simp
set_option maxRecDepth 100000 in
set_option maxHeartbeats 8000000 in
theorem rline_any (t : In4) (w : World) (hs : I64s t) : Calls Tryd.prog 47 #[i4V t] w fun e w' => e = .returned (.string (str (putG t))) ∧ Below w.heap.size w w' := by
  obtain ⟨op, x, y, a⟩ := t
  obtain ⟨ho, hx, hy, ha⟩ := hs
  dsimp only at ho hx hy ha
  unfold i4V
  dsimp only
  obtain ⟨wb, hwb⟩ : ∃ z, w.alloc (.cells #[.int .i64 op, .int .i64 x, .int .i64 y, .int .i64 a] 47) = z := ⟨_, rfl⟩
  have hbb : Below w.heap.size w wb := by rw [← hwb]; exact (Below.refl _ _).alloc (Nat.le_refl _) _
  have hblk : wb.heap[w.heap.size]? = some (.cells #[.int .i64 op, .int .i64 x, .int .i64 y, .int .i64 a] 47 (0, 0)) := by rw [← hwb]; exact heap_alloc_new2 _ _ _ _ rfl
  have st : ∀ W, Below wb.heap.size wb W → W.cell? ⟨w.heap.size, 0, none⟩ = some (.int .i64 op) ∧ W.cell? ⟨w.heap.size, 1, none⟩ = some (.int .i64 x) ∧ W.cell? ⟨w.heap.size, 2, none⟩ = some (.int .i64 y) ∧ W.cell? ⟨w.heap.size, 3, none⟩ = some (.int .i64 a) := fun W h => blk_cells4 (blk_later hblk h)
  have CD := Lib.hid (show ∀ (n : Int), I64 n → ∀ W, Kb wb W → Calls Tryd.prog 46 #[.int .i64 n] W fun e w' => e = .returned (.string (str (itoa n))) ∧ (w'.cell? ⟨w.heap.size, 1, none⟩ = some (.int .i64 x) ∧ w'.cell? ⟨w.heap.size, 2, none⟩ = some (.int .i64 y) ∧ w'.cell? ⟨w.heap.size, 3, none⟩ = some (.int .i64 a) ∧ Kb wb w') from fun n hn W hk => by
    refine (digits_any n hn W).mono ?_
    rintro e w' ⟨rfl, hb'⟩
    exact ⟨rfl, (st _ (below_then hk hb')).2.1, (st _ (below_then hk hb')).2.2.1, (st _ (below_then hk hb')).2.2.2, below_then hk hb'⟩)
  have CX := Lib.hid (CD.out x hx)
  have CY := Lib.hid (CD.out y hy)
  have CA := Lib.hid (CD.out a ha)
  have lx := Plain.itoa_len x hx
  have ly := Plain.itoa_len y hy
  have la := Plain.itoa_len a ha
  have zx : (str (itoa x)).size ≤ 20 := by rw [str_size]; exact lx
  have zy : (str (itoa y)).size ≤ 20 := by rw [str_size]; exact ly
  have za : (str (itoa a)).size ≤ 20 := by rw [str_size]; exact la
  have HST := Lib.hid (st wb (Below.refl _ _))
  have hSd : wb.drew.cell? ⟨w.heap.size, 1, none⟩ = some (.int .i64 x) ∧ wb.drew.cell? ⟨w.heap.size, 2, none⟩ = some (.int .i64 y) ∧ wb.drew.cell? ⟨w.heap.size, 3, none⟩ = some (.int .i64 a) ∧ Kb wb wb.drew := ⟨(st _ (Below.refl _ _).drew).2.1, (st _ (Below.refl _ _).drew).2.2.1, (st _ (Below.refl _ _).drew).2.2.2, (Below.refl _ _).drew⟩
  have HSD := Lib.hid hSd
  have HBB := Lib.hid hbb
  have hlt := lt_of_some hblk
  obtain ⟨dx, hdx⟩ : ∃ z, itoa x = z := ⟨_, rfl⟩
  obtain ⟨dy, hdy⟩ : ∃ z, itoa y = z := ⟨_, rfl⟩
  obtain ⟨da, hda⟩ : ∃ z, itoa a = z := ⟨_, rfl⟩
  rw [hdx] at CX zx
  rw [hdy] at CY zy
  rw [hda] at CA za
  have HD := Lib.hid (And.intro hdx (And.intro hdy hda))
  clear CD st hblk hbb lx ly la hdx hdy hda hSd
  by_cases h0 : op = 0
  · subst h0
    obtain ⟨c0, c1, c2, c3⟩ := HST.out
    go_enter Tryd.func47, Tryd.ntmps47
    go_wp2_with fail
    go_ret
    exact ⟨ret_str rfl, HBB.out⟩
  by_cases h1 : op = 1
  · subst h1
    obtain ⟨c0, c1, c2, c3⟩ := HST.out
    have hSd := HSD.out
    have g1 : ¬ (9223372036854775807 < 4 + (str da).size) := by omega
    have z1 : ((⟨#[111, 110, 101, 32]⟩ : ByteArray) ++ str da).size ≤ 60 := by rw [ByteArray.size_append]; show 4 + _ ≤ 60; omega
    have g2 : ¬ (9223372036854775807 < ((⟨#[111, 110, 101, 32]⟩ : ByteArray) ++ str da).size + 1) := by omega
    have g2' : ¬ (9223372036854775807 < 4 + (str da).size + 1) := by omega
    have z2 : ((⟨#[111, 110, 101, 32]⟩ : ByteArray) ++ str da ++ (⟨#[32]⟩ : ByteArray)).size ≤ 70 := by rw [ByteArray.size_append]; show _ + 1 ≤ 70; omega
    have g3 : ¬ (9223372036854775807 < ((⟨#[111, 110, 101, 32]⟩ : ByteArray) ++ str da ++ (⟨#[32]⟩ : ByteArray)).size + (str dx).size) := by omega
    have g3' : ¬ (9223372036854775807 < 4 + (str da).size + 1 + (str dx).size) := by omega
    go_enter Tryd.func47, Tryd.ntmps47
    go_upto_region 5 with fail
    go_region_held3 (fun w' => w'.cell? ⟨w.heap.size, 1, none⟩ = some (.int .i64 x) ∧ w'.cell? ⟨w.heap.size, 2, none⟩ = some (.int .i64 y) ∧ w'.cell? ⟨w.heap.size, 3, none⟩ = some (.int .i64 a) ∧ Kb wb w') (first | assumption | go_keep) (first
      | (go_at_call 46; (with_reducible refine (CA.out _ (by first | assumption | exact hSd.2.2.2 | exact hS9.2.2.2)).mono ?_); rintro e w9 ⟨rfl, hS9⟩)
      | (go_at_call 46; (with_reducible refine (CX.out _ (by first | assumption | exact hSd.2.2.2 | exact hS9.2.2.2)).mono ?_); rintro e w10 ⟨rfl, hS10⟩))
    have HB9 := Lib.hid (HBB.out.trans ((show Below wb.heap.size wb w10 from hS10.2.2.2).mono HBB.out.size))
    go_wp2_with fail
    go_ret
    exact ⟨ret_str (by rw [← HD.out.2.2, ← HD.out.1]; exact line2_eq [111, 110, 101] _ _), HB9.out⟩
  by_cases h2 : op = 2
  · subst h2
    obtain ⟨c0, c1, c2, c3⟩ := HST.out
    have hSd := HSD.out
    have g1 : ¬ (9223372036854775807 < 6 + (str dx).size) := by omega
    have z1 : ((⟨#[115, 112, 108, 105, 116, 32]⟩ : ByteArray) ++ str dx).size ≤ 60 := by rw [ByteArray.size_append]; show 6 + _ ≤ 60; omega
    have g2 : ¬ (9223372036854775807 < ((⟨#[115, 112, 108, 105, 116, 32]⟩ : ByteArray) ++ str dx).size + 1) := by omega
    have g2' : ¬ (9223372036854775807 < 6 + (str dx).size + 1) := by omega
    have z2 : ((⟨#[115, 112, 108, 105, 116, 32]⟩ : ByteArray) ++ str dx ++ (⟨#[32]⟩ : ByteArray)).size ≤ 70 := by rw [ByteArray.size_append]; show _ + 1 ≤ 70; omega
    have g3 : ¬ (9223372036854775807 < ((⟨#[115, 112, 108, 105, 116, 32]⟩ : ByteArray) ++ str dx ++ (⟨#[32]⟩ : ByteArray)).size + (str dy).size) := by omega
    have g3' : ¬ (9223372036854775807 < 6 + (str dx).size + 1 + (str dy).size) := by omega
    go_enter Tryd.func47, Tryd.ntmps47
    go_upto_region 7 with fail
    go_region_held3 (fun w' => w'.cell? ⟨w.heap.size, 1, none⟩ = some (.int .i64 x) ∧ w'.cell? ⟨w.heap.size, 2, none⟩ = some (.int .i64 y) ∧ w'.cell? ⟨w.heap.size, 3, none⟩ = some (.int .i64 a) ∧ Kb wb w') (first | assumption | go_keep) (first
      | (go_at_call 46; (with_reducible refine (CX.out _ (by first | assumption | exact hSd.2.2.2 | exact hS9.2.2.2)).mono ?_); rintro e w9 ⟨rfl, hS9⟩)
      | (go_at_call 46; (with_reducible refine (CY.out _ (by first | assumption | exact hSd.2.2.2 | exact hS9.2.2.2)).mono ?_); rintro e w10 ⟨rfl, hS10⟩))
    have HB9 := Lib.hid (HBB.out.trans ((show Below wb.heap.size wb w10 from hS10.2.2.2).mono HBB.out.size))
    go_wp2_with fail
    go_ret
    exact ⟨ret_str (by rw [← HD.out.1, ← HD.out.2.1]; exact line2_eq [115, 112, 108, 105, 116] _ _), HB9.out⟩
  by_cases h3 : op = 3
  · subst h3
    obtain ⟨c0, c1, c2, c3⟩ := HST.out
    have hSd := HSD.out
    have g1 : ¬ (9223372036854775807 < 5 + (str dx).size) := by omega
    go_enter Tryd.func47, Tryd.ntmps47
    go_wp2_with fail
    refine (CX.out wb (show Kb wb wb from Below.refl _ _)).mono ?_
    rintro e w9 ⟨rfl, hS9⟩
    have HB9 := Lib.hid (HBB.out.trans ((show Below wb.heap.size wb w9 from hS9.2.2.2).mono HBB.out.size))
    go_wp2_with fail
    go_ret
    exact ⟨ret_str (by rw [← HD.out.1]; exact line1_eq [106, 117, 109, 112] _), HB9.out⟩
  by_cases h4 : op = 4
  · subst h4
    obtain ⟨c0, c1, c2, c3⟩ := HST.out
    have hSd := HSD.out
    have g1 : ¬ (9223372036854775807 < 5 + (str da).size) := by omega
    have z1 : ((⟨#[115, 97, 118, 101, 32]⟩ : ByteArray) ++ str da).size ≤ 60 := by rw [ByteArray.size_append]; show 5 + _ ≤ 60; omega
    have g2 : ¬ (9223372036854775807 < ((⟨#[115, 97, 118, 101, 32]⟩ : ByteArray) ++ str da).size + 1) := by omega
    have g2' : ¬ (9223372036854775807 < 5 + (str da).size + 1) := by omega
    have z2 : ((⟨#[115, 97, 118, 101, 32]⟩ : ByteArray) ++ str da ++ (⟨#[32]⟩ : ByteArray)).size ≤ 70 := by rw [ByteArray.size_append]; show _ + 1 ≤ 70; omega
    have g3 : ¬ (9223372036854775807 < ((⟨#[115, 97, 118, 101, 32]⟩ : ByteArray) ++ str da ++ (⟨#[32]⟩ : ByteArray)).size + (str dx).size) := by omega
    have g3' : ¬ (9223372036854775807 < 5 + (str da).size + 1 + (str dx).size) := by omega
    go_enter Tryd.func47, Tryd.ntmps47
    go_upto_region 11 with fail
    go_region_held3 (fun w' => w'.cell? ⟨w.heap.size, 1, none⟩ = some (.int .i64 x) ∧ w'.cell? ⟨w.heap.size, 2, none⟩ = some (.int .i64 y) ∧ w'.cell? ⟨w.heap.size, 3, none⟩ = some (.int .i64 a) ∧ Kb wb w') (first | assumption | go_keep) (first
      | (go_at_call 46; (with_reducible refine (CA.out _ (by first | assumption | exact hSd.2.2.2 | exact hS9.2.2.2)).mono ?_); rintro e w9 ⟨rfl, hS9⟩)
      | (go_at_call 46; (with_reducible refine (CX.out _ (by first | assumption | exact hSd.2.2.2 | exact hS9.2.2.2)).mono ?_); rintro e w10 ⟨rfl, hS10⟩))
    have HB9 := Lib.hid (HBB.out.trans ((show Below wb.heap.size wb w10 from hS10.2.2.2).mono HBB.out.size))
    go_wp2_with fail
    go_ret
    exact ⟨ret_str (by rw [← HD.out.2.2, ← HD.out.1]; exact line2_eq [115, 97, 118, 101] _ _), HB9.out⟩
  by_cases h5 : op = 5
  · subst h5
    obtain ⟨c0, c1, c2, c3⟩ := HST.out
    have hSd := HSD.out
    have g1 : ¬ (9223372036854775807 < 7 + (str da).size) := by omega
    have z1 : ((⟨#[97, 115, 115, 101, 114, 116, 32]⟩ : ByteArray) ++ str da).size ≤ 60 := by rw [ByteArray.size_append]; show 7 + _ ≤ 60; omega
    have g2 : ¬ (9223372036854775807 < ((⟨#[97, 115, 115, 101, 114, 116, 32]⟩ : ByteArray) ++ str da).size + 1) := by omega
    have g2' : ¬ (9223372036854775807 < 7 + (str da).size + 1) := by omega
    have z2 : ((⟨#[97, 115, 115, 101, 114, 116, 32]⟩ : ByteArray) ++ str da ++ (⟨#[32]⟩ : ByteArray)).size ≤ 70 := by rw [ByteArray.size_append]; show _ + 1 ≤ 70; omega
    have g3 : ¬ (9223372036854775807 < ((⟨#[97, 115, 115, 101, 114, 116, 32]⟩ : ByteArray) ++ str da ++ (⟨#[32]⟩ : ByteArray)).size + (str dx).size) := by omega
    have g3' : ¬ (9223372036854775807 < 7 + (str da).size + 1 + (str dx).size) := by omega
    go_enter Tryd.func47, Tryd.ntmps47
    go_upto_region 13 with fail
    go_region_held3 (fun w' => w'.cell? ⟨w.heap.size, 1, none⟩ = some (.int .i64 x) ∧ w'.cell? ⟨w.heap.size, 2, none⟩ = some (.int .i64 y) ∧ w'.cell? ⟨w.heap.size, 3, none⟩ = some (.int .i64 a) ∧ Kb wb w') (first | assumption | go_keep) (first
      | (go_at_call 46; (with_reducible refine (CA.out _ (by first | assumption | exact hSd.2.2.2 | exact hS9.2.2.2)).mono ?_); rintro e w9 ⟨rfl, hS9⟩)
      | (go_at_call 46; (with_reducible refine (CX.out _ (by first | assumption | exact hSd.2.2.2 | exact hS9.2.2.2)).mono ?_); rintro e w10 ⟨rfl, hS10⟩))
    have HB9 := Lib.hid (HBB.out.trans ((show Below wb.heap.size wb w10 from hS10.2.2.2).mono HBB.out.size))
    go_wp2_with fail
    go_ret
    exact ⟨ret_str (by rw [← HD.out.2.2, ← HD.out.1]; exact line2_eq [97, 115, 115, 101, 114, 116] _ _), HB9.out⟩
  · have e0 : (op == 0) = false := by simp [h0]
    have e1 : (op == 1) = false := by simp [h1]
    have e2 : (op == 2) = false := by simp [h2]
    have e3 : (op == 3) = false := by simp [h3]
    have e4 : (op == 4) = false := by simp [h4]
    have e5 : (op == 5) = false := by simp [h5]
    have hl : putG (op, x, y, a) = [110, 111, 110, 101] := by unfold Plain.putG; rw [if_neg h0, if_neg h1, if_neg h2, if_neg h3, if_neg h4, if_neg h5]
    have HL := Lib.hid hl
    obtain ⟨c0, c1, c2, c3⟩ := HST.out
    clear hl
    go_enter Tryd.func47, Tryd.ntmps47
    go_wp2_with fail
    go_ret
    exact ⟨ret_str (by rw [HL.out]; rfl), HBB.out⟩
end Go.Proofs.YtpeheppiolfpfaaDoor
namespace Go.Proofs.YtpeheppiolfpfaaDoor
open Go.RowKit Go.Lib
open Plain (I64 I64s lineG putG In4)
set_option maxRecDepth 100000 in
set_option maxHeartbeats 8000000 in
theorem rputp_any (I C : Option Addr) (L : List In4) (c m d : Nat) (g : Int) (w : World) (hI : Sl w I (i4s L)) (hs : ∀ t ∈ L, I64s t) (hl : L.length ≤ 1048576) :
    Calls Tryd.prog 25 #[.agg #[.slice I L.length c, .slice C m d, .int .i64 g]] w fun e w' => e = .returned (.string (str (putsG L L.length))) ∧ Below w.heap.size w w' := by
  obtain ⟨n, hN⟩ : ∃ n, L.length = n := ⟨_, rfl⟩
  rw [hN] at hl ⊢
  obtain ⟨wb, hwb⟩ : ∃ z, w.alloc (.cells #[.slice I n c, .slice C m d, .int .i64 g] 36) = z := ⟨_, rfl⟩
  have hbb : Below w.heap.size w wb := by rw [← hwb]; exact (Below.refl _ _).alloc (Nat.le_refl _) _
  have hblk : wb.heap[w.heap.size]? = some (.cells #[.slice I n c, .slice C m d, .int .i64 g] 36 (0, 0)) := by rw [← hwb]; exact heap_alloc_new2 _ _ _ _ rfl
  have HI := Lib.hid (hI.below hbb)
  have HN := Lib.hid hN
  have HS := Lib.hid hs
  have HBB := Lib.hid hbb
  have HBK := Lib.hid hblk
  have CD := Lib.hid (fun (n : Int) (hn : I64 n) (W : World) => digits_any n hn W)
  have CL := Lib.hid (fun (t : In4) (ht : I64s t) (W : World) => rline_any t W ht)
  have hlt0 := lt_of_some hblk
  clear hI hN hs hbb hblk
  go_enter Tryd.func25, Tryd.ntmps25
  go_wp2_with fail
  go_loopw [3, 4] (fun s i wr => ∃ k : Nat, k ≤ n ∧ i = .int .i64 k ∧ s = .string (str (putsG L k)) ∧ RowKit.Below wb.heap.size wb wr) (fun _ i _ => n - (RowKit.intOf i).toNat)
  case atStart => exact ⟨0, Nat.zero_le _, rfl, rfl, Below.refl _ _⟩
  case round =>
    obtain ⟨k, hk, rfl, rfl, hB⟩ := hrel
    obtain ⟨w0, rfl⟩ : ∃ z, z = wr := ⟨_, rfl⟩
    have HB := Lib.hid hB
    have x0 := (blk_cells3 (blk_later HBK.out hB)).1
    have hx0 : ∀ W, Below w0.heap.size w0 W → W.cell? ⟨w.heap.size, 0, none⟩ = some (.slice I n c) := fun W h => (blk_cells3 (blk_later HBK.out (hB.trans (h.mono hB.size)))).1
    have lx := lt_of_some (blk_later HBK.out hB)
    clear hB
    by_cases hlt : k < n
    case neg =>
      have hkn : k = n := by omega
      have d0 : decide ((k : Int) < (n : Int)) = false := decide_eq_false (by omega)
      have d0n : decide (k < n) = false := decide_eq_false hlt
      have HKN := Lib.hid hkn
      clear hkn hx0
      go_wp2_with fail
      go_ret
      exact ⟨ret_str (by rw [HKN.out]), HBB.out.trans (HB.out.mono HBB.out.size)⟩
    have d0 : decide ((k : Int) < (n : Int)) = true := decide_eq_true (by omega)
    have d0n : decide (k < n) = true := decide_eq_true hlt
    have hk1 : k < L.length := by rw [HN.out]; exact hlt
    obtain ⟨b, off, hIe, hbb, c0, c1, c2, c3⟩ := i4_at (HI.out.below HB.out) k hk1
    have hsk := HS.out L[k] (List.getElem_mem hk1)
    have hnx : putsG L (k + 1) = putsG L k ++ (itoa (k : Int) ++ (32 :: putG L[k] ++ [10])) := by rw [putsG_succ, Plain.getD_lt L (0, 0, 0, 0) k hk1]
    have hpl := putsG_len L HS.out k (by omega) (by omega)
    have hik : I64 (k : Int) := ⟨by omega, by omega⟩
    have hdk := Plain.itoa_len (k : Int) hik
    obtain ⟨t, ht⟩ : ∃ t, L[k] = t := ⟨_, rfl⟩
    rw [ht] at c0 c1 c2 c3 hsk hnx
    have hpt := Plain.putG_len t hsk
    have CK := Lib.hid (fun (W : World) => CD.out (k : Int) hik W)
    have CT := Lib.hid (fun (W : World) => CL.out t hsk W)
    obtain ⟨pl, hplq⟩ : ∃ pl, putG t = pl := ⟨_, rfl⟩
    rw [hplq] at CT hnx hpt
    obtain ⟨dk, hdq⟩ : ∃ dk, itoa (k : Int) = dk := ⟨_, rfl⟩
    rw [hdq] at CK hnx hdk
    obtain ⟨l, hlq⟩ : ∃ l, putsG L k = l := ⟨_, rfl⟩
    rw [hlq] at hnx hpl ⊢
    obtain ⟨op, x, y, a⟩ := t
    dsimp only at c0 c1 c2 c3
    unfold i4V at CT
    dsimp only at CT
    subst hIe
    have HF := Lib.hid (show ∀ W, Below w0.heap.size w0 W → W.cell? ⟨w.heap.size, 0, none⟩ = some (.slice (some ⟨b, off, none⟩) n c) ∧ W.cell? ⟨b, off + k * 4, none⟩ = some (.int .i64 op) ∧ W.cell? ⟨b, off + k * 4 + 1, none⟩ = some (.int .i64 x) ∧ W.cell? ⟨b, off + k * 4 + 2, none⟩ = some (.int .i64 y) ∧ W.cell? ⟨b, off + k * 4 + 3, none⟩ = some (.int .i64 a) ∧ w.heap.size < W.heap.size ∧ b < W.heap.size from fun W h =>
      ⟨hx0 W h, (h.cell (p := ⟨b, off + k * 4, none⟩) hbb).trans c0, (h.cell (p := ⟨b, off + k * 4 + 1, none⟩) hbb).trans c1, (h.cell (p := ⟨b, off + k * 4 + 2, none⟩) hbb).trans c2, (h.cell (p := ⟨b, off + k * 4 + 3, none⟩) hbb).trans c3, Nat.lt_of_lt_of_le lx h.size, Nat.lt_of_lt_of_le hbb h.size⟩)
    have z0 : (str l).size ≤ 94371840 := by rw [str_size]; omega
    have z1 : (str dk).size ≤ 20 := by rw [str_size]; exact hdk
    have z2 : (str pl).size ≤ 60 := by rw [str_size]; exact hpt
    have y1 : (str l ++ str dk).size ≤ 94371860 := by rw [ByteArray.size_append]; omega
    have y2 : (str l ++ str dk ++ (⟨#[32]⟩ : ByteArray)).size ≤ 94371861 := by rw [ByteArray.size_append]; show _ + 1 ≤ _; omega
    have y3 : (str l ++ str dk ++ (⟨#[32]⟩ : ByteArray) ++ str pl).size ≤ 94371921 := by rw [ByteArray.size_append]; omega
    have g1 : ¬ (9223372036854775807 < (str l).size + (str dk).size) := by omega
    have g2 : ¬ (9223372036854775807 < (str l ++ str dk).size + 1) := by omega
    have g2' : ¬ (9223372036854775807 < (str l).size + (str dk).size + 1) := by omega
    have g3 : ¬ (9223372036854775807 < (str l ++ str dk ++ (⟨#[32]⟩ : ByteArray)).size + (str pl).size) := by omega
    have g3' : ¬ (9223372036854775807 < (str l).size + (str dk).size + 1 + (str pl).size) := by omega
    have g4 : ¬ (9223372036854775807 < (str l ++ str dk ++ (⟨#[32]⟩ : ByteArray) ++ str pl).size + (str [10]).size) := by show ¬ (_ < _ + 1); omega
    have g4' : ¬ (9223372036854775807 < (str l).size + (str dk).size + 1 + (str pl).size + (str [10]).size) := by show ¬ (_ < _ + 1); omega
    have hq : str l ++ str dk ++ (⟨#[32]⟩ : ByteArray) ++ str pl ++ str [10] = str (l ++ (dk ++ (32 :: pl ++ [10]))) := by
      rw [show (⟨#[32]⟩ : ByteArray) = str [32] from rfl, str_app, str_app, str_app, str_app]; simp
    have HQ := Lib.hid (hq.trans (congrArg str hnx.symm))
    have i0 : (0 : Int) ≤ (k : Int) := by omega
    have i1 : (k : Int) < (n : Int) := by omega
    have HG0 := Lib.hid (show Below w0.heap.size w0 w0.drew from (Below.refl _ _).drew)
    clear hx0 hnx hpl hik hdk hplq hdq hlq hpt hsk ht c0 c1 c2 c3 z0 z1 z2 y1 y2 y3 hq
    go_upto_region 5 with fail
    refine wp_region_noPanic ?_
    refine wp_region_T 15 (S := fun w' : World => Below w0.heap.size w0 w') (by kernel_rfl) (by decide) ?_
    obtain ⟨wd, hwd⟩ : ∃ z, w0.drew = z := ⟨_, rfl⟩
    rw [hwd] at HG0 ⊢
    clear hwd
    refine wpAnyT_take2 0 (v := ?tvq1) (by kernel_rfl) rfl (by kernel_rfl) (fun _ _ _ h => h) (Or.inl ⟨by rfl, ?tyq1⟩) HG0.out ?trq1
    case tyq1 => (intro w' hSw; (try dsimp only at hSw); go_simp; try with_reducible rfl)
    try simp only [Act.put, List.setIfInBounds_toArray, List.set_cons_zero, List.set_cons_succ]
    refine wpAnyT_take2 1 (v := ?tvq2) (by kernel_rfl) rfl (by kernel_rfl) (fun _ _ _ h => h) (Or.inl ⟨by rfl, ?tyq2⟩) HG0.out ?trq2
    case tyq2 => (intro w' hSw; (try dsimp only at hSw); go_simp; try with_reducible rfl)
    try simp only [Act.put, List.setIfInBounds_toArray, List.set_cons_zero, List.set_cons_succ]
    refine wpAnyT_take2 5 (v := ?tvq3) (by kernel_rfl) rfl (by kernel_rfl) (fun _ _ _ h => h) (Or.inl ⟨by rfl, ?tyq3⟩) HG0.out ?trq3
    case tyq3 => (intro w' hSw; (try dsimp only at hSw); go_simp; try with_reducible rfl)
    try simp only [Act.put, List.setIfInBounds_toArray, List.set_cons_zero, List.set_cons_succ]
    refine wpAnyT_take2 6 (v := ?tvq4) (by kernel_rfl) rfl (by kernel_rfl) (fun _ _ _ h => h) (Or.inl ⟨by rfl, ?tyq4⟩) HG0.out ?trq4
    case tyq4 => (intro w' hSw; obtain ⟨f0, f1, f2, f3, f4, f5, f6⟩ := HF.out w' hSw; (try dsimp only at hSw); go_simp; try with_reducible rfl)
    try simp only [Act.put, List.setIfInBounds_toArray, List.set_cons_zero, List.set_cons_succ]
    refine wpAnyT_take2 7 (v := ?tvq5) (by kernel_rfl) rfl (by kernel_rfl) (fun _ _ _ h => h) (Or.inl ⟨by rfl, ?tyq5⟩) HG0.out ?trq5
    case tyq5 => (intro w' hSw; (try dsimp only at hSw); go_simp; try with_reducible rfl)
    try simp only [Act.put, List.setIfInBounds_toArray, List.set_cons_zero, List.set_cons_succ]
    refine wpAnyT_take2 8 (v := ?tvq6) (by kernel_rfl) rfl (by kernel_rfl) (fun _ _ _ h => h) (Or.inl ⟨by rfl, ?tyq6⟩) HG0.out ?trq6
    case tyq6 => (intro w' hSw; (try dsimp only at hSw); go_simp; try with_reducible rfl)
    try simp only [Act.put, List.setIfInBounds_toArray, List.set_cons_zero, List.set_cons_succ]
    refine wpAnyT_take2 9 (v := ?tvq7) (by kernel_rfl) rfl (by kernel_rfl) (fun _ _ _ h => h) (Or.inl ⟨by rfl, ?tyq7⟩) HG0.out ?trq7
    case tyq7 => (intro w' hSw; obtain ⟨f0, f1, f2, f3, f4, f5, f6⟩ := HF.out w' hSw; (try dsimp only at hSw); go_simp; try with_reducible rfl)
    try simp only [Act.put, List.setIfInBounds_toArray, List.set_cons_zero, List.set_cons_succ]
    refine wpAnyT_all [2, 12] (by kernel_rfl) (by decide) (fun i hi => ?_)
    simp only [List.mem_cons, List.not_mem_nil, or_false] at hi
    rcases hi with rfl | rfl
    · refine ⟨_, (by rfl), fun K' hK' => ?_⟩
      rw [if_pos (by rfl)]
      have HK := Lib.hid hK'
      clear hK'
      go_wp2_with (go_at_call 46; refine (CK.out _).mono ?_; rintro eq8 wq8 ⟨rfl, hb⟩)
      have HBq8 := Lib.hid (below_then HG0.out hb)
      clear hb
      refine HK.out _ _ ⟨HBq8.out, ?_⟩
      clear HK K'
      try simp only [Act.put, List.setIfInBounds_toArray, List.set_cons_zero, List.set_cons_succ]
      refine wpAnyT_take2 3 (v := ?tvq9) (by kernel_rfl) rfl (by kernel_rfl) (fun _ _ _ h => h) (Or.inl ⟨by rfl, ?tyq9⟩) HBq8.out ?trq9
      case tyq9 => (intro w' hSw; (try dsimp only at hSw); go_simp; try with_reducible rfl)
      try simp only [Act.put, List.setIfInBounds_toArray, List.set_cons_zero, List.set_cons_succ]
      refine wpAnyT_take2 4 (v := ?tvq10) (by kernel_rfl) rfl (by kernel_rfl) (fun _ _ _ h => h) (Or.inl ⟨by rfl, ?tyq10⟩) HBq8.out ?trq10
      case tyq10 => (intro w' hSw; (try dsimp only at hSw); go_simp; try with_reducible rfl)
      try simp only [Act.put, List.setIfInBounds_toArray, List.set_cons_zero, List.set_cons_succ]
      refine wpAnyT_all [10, 12] (by kernel_rfl) (by decide) (fun i hi => ?_)
      simp only [List.mem_cons, List.not_mem_nil, or_false] at hi
      rcases hi with rfl | rfl
      · refine ⟨_, (by rfl), fun K' hK' => ?_⟩
        rw [if_pos (by rfl)]
        have HK := Lib.hid hK'
        clear hK'
        go_wp2_with (go_at_call 47; refine (CT.out _).mono ?_; rintro eq11 wq11 ⟨rfl, hb⟩)
        have HBq11 := Lib.hid (below_then HBq8.out hb)
        clear hb
        refine HK.out _ _ ⟨HBq11.out, ?_⟩
        clear HK K'
        try simp only [Act.put, List.setIfInBounds_toArray, List.set_cons_zero, List.set_cons_succ]
        refine wpAnyT_take2 11 (v := ?tvq12) (by kernel_rfl) rfl (by kernel_rfl) (fun _ _ _ h => h) (Or.inl ⟨by rfl, ?tyq12⟩) HBq11.out ?trq12
        case tyq12 => (intro w' hSw; (try dsimp only at hSw); go_simp; try with_reducible rfl)
        try simp only [Act.put, List.setIfInBounds_toArray, List.set_cons_zero, List.set_cons_succ]
        refine wpAnyT_one2 12 rfl (by kernel_rfl) ?_
        intro K' hK'
        rw [if_pos (by rfl)]
        have HK := Lib.hid hK'
        clear hK'
        have hnew := heap_alloc_new2 wq11 (.cells #[.int .u8 10] 5) wq11.heap.size _ rfl
        go_simp
        have HBq13 := Lib.hid (below_alloc HBq11.out (.cells #[.int .u8 10] 5))
        refine HK.out _ _ ⟨HBq13.out, ?_⟩
        clear HK K'
        try simp only [Act.put, List.setIfInBounds_toArray, List.set_cons_zero, List.set_cons_succ]
        obtain ⟨wq13, hwq13⟩ : ∃ W0, wq11.alloc (.cells #[.int .u8 10] 5) = W0 := ⟨_, rfl⟩
        obtain ⟨gn, hgn⟩ : ∃ x, wq11.heap.size = x := ⟨_, rfl⟩
        rw [hwq13] at hnew HBq13 ⊢
        rw [hgn] at hnew ⊢
        have HNq13 := Lib.hid hnew
        clear hnew hwq13 hgn
        refine wpAnyT_one2 13 rfl (by kernel_rfl) ?_
        intro K' hK'
        rw [if_pos (by rfl)]
        have HK := Lib.hid hK'
        clear hK'
        have hcvq14 := conv_u8 (ns := [10]) (c := 1) (own_one HNq13.out (Nat.le_refl _))
        have hcwq14 : bstr [10] = str [10] := rfl
        rw [hcwq14] at hcvq14
        go_simp
        refine HK.out _ _ ⟨HBq13.out, ?_⟩
        clear HK K'
        try simp only [Act.put, List.setIfInBounds_toArray, List.set_cons_zero, List.set_cons_succ]
        refine wpAnyT_take2 14 (v := ?tvq15) (by kernel_rfl) rfl (by kernel_rfl) (fun _ _ _ h => h) (Or.inl ⟨by rfl, ?tyq15⟩) HBq13.out ?trq15
        case tyq15 => (intro w' hSw; (try dsimp only at hSw); go_simp; try with_reducible rfl)
        try simp only [Act.put, List.setIfInBounds_toArray, List.set_cons_zero, List.set_cons_succ]
        refine ⟨by kernel_rfl, ?_⟩
        change wpList _ _ _ [_] _ _
        go_wp2_with fail
        refine NoPanic.normal ?_
        go_wp2_with fail
        have HE := Lib.hid (HB.out.trans (HBq13.out.mono HB.out.size))
        go_roundw
        case rel => exact ⟨k + 1, by omega, by go_num, by rw [← HQ.out], HE.out⟩
        case measure => simp [RowKit.intOf]; omega
      · refine ⟨_, (by rfl), fun K' hK' => ?_⟩
        rw [if_pos (by rfl)]
        have HK := Lib.hid hK'
        clear hK'
        have hnew := heap_alloc_new2 wq8 (.cells #[.int .u8 10] 5) wq8.heap.size _ rfl
        go_simp
        have HBq16 := Lib.hid (below_alloc HBq8.out (.cells #[.int .u8 10] 5))
        refine HK.out _ _ ⟨HBq16.out, ?_⟩
        clear HK K'
        try simp only [Act.put, List.setIfInBounds_toArray, List.set_cons_zero, List.set_cons_succ]
        obtain ⟨wq16, hwq16⟩ : ∃ W0, wq8.alloc (.cells #[.int .u8 10] 5) = W0 := ⟨_, rfl⟩
        obtain ⟨gn, hgn⟩ : ∃ x, wq8.heap.size = x := ⟨_, rfl⟩
        rw [hwq16] at hnew HBq16 ⊢
        rw [hgn] at hnew ⊢
        have HNq16 := Lib.hid hnew
        clear hnew hwq16 hgn
        refine wpAnyT_all [10, 13] (by kernel_rfl) (by decide) (fun i hi => ?_)
        simp only [List.mem_cons, List.not_mem_nil, or_false] at hi
        rcases hi with rfl | rfl
        · refine ⟨_, (by rfl), fun K' hK' => ?_⟩
          rw [if_pos (by rfl)]
          have HK := Lib.hid hK'
          clear hK'
          go_wp2_with (go_at_call 47; refine (CT.out _).mono ?_; rintro eq17 wq17 ⟨rfl, hb⟩)
          have HBq17 := Lib.hid (below_then HBq16.out hb)
          have HNq17 := Lib.hid (blk_later HNq16.out hb)
          clear hb
          refine HK.out _ _ ⟨HBq17.out, ?_⟩
          clear HK K'
          try simp only [Act.put, List.setIfInBounds_toArray, List.set_cons_zero, List.set_cons_succ]
          refine wpAnyT_take2 11 (v := ?tvq18) (by kernel_rfl) rfl (by kernel_rfl) (fun _ _ _ h => h) (Or.inl ⟨by rfl, ?tyq18⟩) HBq17.out ?trq18
          case tyq18 => (intro w' hSw; (try dsimp only at hSw); go_simp; try with_reducible rfl)
          try simp only [Act.put, List.setIfInBounds_toArray, List.set_cons_zero, List.set_cons_succ]
          refine wpAnyT_one2 13 rfl (by kernel_rfl) ?_
          intro K' hK'
          rw [if_pos (by rfl)]
          have HK := Lib.hid hK'
          clear hK'
          have hcvq19 := conv_u8 (ns := [10]) (c := 1) (own_one HNq17.out (Nat.le_refl _))
          have hcwq19 : bstr [10] = str [10] := rfl
          rw [hcwq19] at hcvq19
          go_simp
          refine HK.out _ _ ⟨HBq17.out, ?_⟩
          clear HK K'
          try simp only [Act.put, List.setIfInBounds_toArray, List.set_cons_zero, List.set_cons_succ]
          refine wpAnyT_take2 14 (v := ?tvq20) (by kernel_rfl) rfl (by kernel_rfl) (fun _ _ _ h => h) (Or.inl ⟨by rfl, ?tyq20⟩) HBq17.out ?trq20
          case tyq20 => (intro w' hSw; (try dsimp only at hSw); go_simp; try with_reducible rfl)
          try simp only [Act.put, List.setIfInBounds_toArray, List.set_cons_zero, List.set_cons_succ]
          refine ⟨by kernel_rfl, ?_⟩
          change wpList _ _ _ [_] _ _
          go_wp2_with fail
          refine NoPanic.normal ?_
          go_wp2_with fail
          have HE := Lib.hid (HB.out.trans (HBq17.out.mono HB.out.size))
          go_roundw
          case rel => exact ⟨k + 1, by omega, by go_num, by rw [← HQ.out], HE.out⟩
          case measure => simp [RowKit.intOf]; omega
        · refine ⟨_, (by rfl), fun K' hK' => ?_⟩
          rw [if_pos (by rfl)]
          have HK := Lib.hid hK'
          clear hK'
          have hcvq21 := conv_u8 (ns := [10]) (c := 1) (own_one HNq16.out (Nat.le_refl _))
          have hcwq21 : bstr [10] = str [10] := rfl
          rw [hcwq21] at hcvq21
          go_simp
          refine HK.out _ _ ⟨HBq16.out, ?_⟩
          clear HK K'
          try simp only [Act.put, List.setIfInBounds_toArray, List.set_cons_zero, List.set_cons_succ]
          refine wpAnyT_one2 10 rfl (by kernel_rfl) ?_
          intro K' hK'
          rw [if_pos (by rfl)]
          have HK := Lib.hid hK'
          clear hK'
          go_wp2_with (go_at_call 47; refine (CT.out _).mono ?_; rintro eq22 wq22 ⟨rfl, hb⟩)
          have HBq22 := Lib.hid (below_then HBq16.out hb)
          have HNq22 := Lib.hid (blk_later HNq16.out hb)
          clear hb
          refine HK.out _ _ ⟨HBq22.out, ?_⟩
          clear HK K'
          try simp only [Act.put, List.setIfInBounds_toArray, List.set_cons_zero, List.set_cons_succ]
          refine wpAnyT_take2 11 (v := ?tvq23) (by kernel_rfl) rfl (by kernel_rfl) (fun _ _ _ h => h) (Or.inl ⟨by rfl, ?tyq23⟩) HBq22.out ?trq23
          case tyq23 => (intro w' hSw; (try dsimp only at hSw); go_simp; try with_reducible rfl)
          try simp only [Act.put, List.setIfInBounds_toArray, List.set_cons_zero, List.set_cons_succ]
          refine wpAnyT_take2 14 (v := ?tvq24) (by kernel_rfl) rfl (by kernel_rfl) (fun _ _ _ h => h) (Or.inl ⟨by rfl, ?tyq24⟩) HBq22.out ?trq24
          case tyq24 => (intro w' hSw; (try dsimp only at hSw); go_simp; try with_reducible rfl)
          try simp only [Act.put, List.setIfInBounds_toArray, List.set_cons_zero, List.set_cons_succ]
          refine ⟨by kernel_rfl, ?_⟩
          change wpList _ _ _ [_] _ _
          go_wp2_with fail
          refine NoPanic.normal ?_
          go_wp2_with fail
          have HE := Lib.hid (HB.out.trans (HBq22.out.mono HB.out.size))
          go_roundw
          case rel => exact ⟨k + 1, by omega, by go_num, by rw [← HQ.out], HE.out⟩
          case measure => simp [RowKit.intOf]; omega
    · refine ⟨_, (by rfl), fun K' hK' => ?_⟩
      rw [if_pos (by rfl)]
      have HK := Lib.hid hK'
      clear hK'
      have hnew := heap_alloc_new2 wd (.cells #[.int .u8 10] 5) wd.heap.size _ rfl
      go_simp
      have HBq25 := Lib.hid (below_alloc HG0.out (.cells #[.int .u8 10] 5))
      refine HK.out _ _ ⟨HBq25.out, ?_⟩
      clear HK K'
      try simp only [Act.put, List.setIfInBounds_toArray, List.set_cons_zero, List.set_cons_succ]
      obtain ⟨wq25, hwq25⟩ : ∃ W0, wd.alloc (.cells #[.int .u8 10] 5) = W0 := ⟨_, rfl⟩
      obtain ⟨gn, hgn⟩ : ∃ x, wd.heap.size = x := ⟨_, rfl⟩
      rw [hwq25] at hnew HBq25 ⊢
      rw [hgn] at hnew ⊢
      have HNq25 := Lib.hid hnew
      clear hnew hwq25 hgn
      refine wpAnyT_all [2, 13] (by kernel_rfl) (by decide) (fun i hi => ?_)
      simp only [List.mem_cons, List.not_mem_nil, or_false] at hi
      rcases hi with rfl | rfl
      · refine ⟨_, (by rfl), fun K' hK' => ?_⟩
        rw [if_pos (by rfl)]
        have HK := Lib.hid hK'
        clear hK'
        go_wp2_with (go_at_call 46; refine (CK.out _).mono ?_; rintro eq26 wq26 ⟨rfl, hb⟩)
        have HBq26 := Lib.hid (below_then HBq25.out hb)
        have HNq26 := Lib.hid (blk_later HNq25.out hb)
        clear hb
        refine HK.out _ _ ⟨HBq26.out, ?_⟩
        clear HK K'
        try simp only [Act.put, List.setIfInBounds_toArray, List.set_cons_zero, List.set_cons_succ]
        refine wpAnyT_take2 3 (v := ?tvq27) (by kernel_rfl) rfl (by kernel_rfl) (fun _ _ _ h => h) (Or.inl ⟨by rfl, ?tyq27⟩) HBq26.out ?trq27
        case tyq27 => (intro w' hSw; (try dsimp only at hSw); go_simp; try with_reducible rfl)
        try simp only [Act.put, List.setIfInBounds_toArray, List.set_cons_zero, List.set_cons_succ]
        refine wpAnyT_take2 4 (v := ?tvq28) (by kernel_rfl) rfl (by kernel_rfl) (fun _ _ _ h => h) (Or.inl ⟨by rfl, ?tyq28⟩) HBq26.out ?trq28
        case tyq28 => (intro w' hSw; (try dsimp only at hSw); go_simp; try with_reducible rfl)
        try simp only [Act.put, List.setIfInBounds_toArray, List.set_cons_zero, List.set_cons_succ]
        refine wpAnyT_all [10, 13] (by kernel_rfl) (by decide) (fun i hi => ?_)
        simp only [List.mem_cons, List.not_mem_nil, or_false] at hi
        rcases hi with rfl | rfl
        · refine ⟨_, (by rfl), fun K' hK' => ?_⟩
          rw [if_pos (by rfl)]
          have HK := Lib.hid hK'
          clear hK'
          go_wp2_with (go_at_call 47; refine (CT.out _).mono ?_; rintro eq29 wq29 ⟨rfl, hb⟩)
          have HBq29 := Lib.hid (below_then HBq26.out hb)
          have HNq29 := Lib.hid (blk_later HNq26.out hb)
          clear hb
          refine HK.out _ _ ⟨HBq29.out, ?_⟩
          clear HK K'
          try simp only [Act.put, List.setIfInBounds_toArray, List.set_cons_zero, List.set_cons_succ]
          refine wpAnyT_take2 11 (v := ?tvq30) (by kernel_rfl) rfl (by kernel_rfl) (fun _ _ _ h => h) (Or.inl ⟨by rfl, ?tyq30⟩) HBq29.out ?trq30
          case tyq30 => (intro w' hSw; (try dsimp only at hSw); go_simp; try with_reducible rfl)
          try simp only [Act.put, List.setIfInBounds_toArray, List.set_cons_zero, List.set_cons_succ]
          refine wpAnyT_one2 13 rfl (by kernel_rfl) ?_
          intro K' hK'
          rw [if_pos (by rfl)]
          have HK := Lib.hid hK'
          clear hK'
          have hcvq31 := conv_u8 (ns := [10]) (c := 1) (own_one HNq29.out (Nat.le_refl _))
          have hcwq31 : bstr [10] = str [10] := rfl
          rw [hcwq31] at hcvq31
          go_simp
          refine HK.out _ _ ⟨HBq29.out, ?_⟩
          clear HK K'
          try simp only [Act.put, List.setIfInBounds_toArray, List.set_cons_zero, List.set_cons_succ]
          refine wpAnyT_take2 14 (v := ?tvq32) (by kernel_rfl) rfl (by kernel_rfl) (fun _ _ _ h => h) (Or.inl ⟨by rfl, ?tyq32⟩) HBq29.out ?trq32
          case tyq32 => (intro w' hSw; (try dsimp only at hSw); go_simp; try with_reducible rfl)
          try simp only [Act.put, List.setIfInBounds_toArray, List.set_cons_zero, List.set_cons_succ]
          refine ⟨by kernel_rfl, ?_⟩
          change wpList _ _ _ [_] _ _
          go_wp2_with fail
          refine NoPanic.normal ?_
          go_wp2_with fail
          have HE := Lib.hid (HB.out.trans (HBq29.out.mono HB.out.size))
          go_roundw
          case rel => exact ⟨k + 1, by omega, by go_num, by rw [← HQ.out], HE.out⟩
          case measure => simp [RowKit.intOf]; omega
        · refine ⟨_, (by rfl), fun K' hK' => ?_⟩
          rw [if_pos (by rfl)]
          have HK := Lib.hid hK'
          clear hK'
          have hcvq33 := conv_u8 (ns := [10]) (c := 1) (own_one HNq26.out (Nat.le_refl _))
          have hcwq33 : bstr [10] = str [10] := rfl
          rw [hcwq33] at hcvq33
          go_simp
          refine HK.out _ _ ⟨HBq26.out, ?_⟩
          clear HK K'
          try simp only [Act.put, List.setIfInBounds_toArray, List.set_cons_zero, List.set_cons_succ]
          refine wpAnyT_one2 10 rfl (by kernel_rfl) ?_
          intro K' hK'
          rw [if_pos (by rfl)]
          have HK := Lib.hid hK'
          clear hK'
          go_wp2_with (go_at_call 47; refine (CT.out _).mono ?_; rintro eq34 wq34 ⟨rfl, hb⟩)
          have HBq34 := Lib.hid (below_then HBq26.out hb)
          have HNq34 := Lib.hid (blk_later HNq26.out hb)
          clear hb
          refine HK.out _ _ ⟨HBq34.out, ?_⟩
          clear HK K'
          try simp only [Act.put, List.setIfInBounds_toArray, List.set_cons_zero, List.set_cons_succ]
          refine wpAnyT_take2 11 (v := ?tvq35) (by kernel_rfl) rfl (by kernel_rfl) (fun _ _ _ h => h) (Or.inl ⟨by rfl, ?tyq35⟩) HBq34.out ?trq35
          case tyq35 => (intro w' hSw; (try dsimp only at hSw); go_simp; try with_reducible rfl)
          try simp only [Act.put, List.setIfInBounds_toArray, List.set_cons_zero, List.set_cons_succ]
          refine wpAnyT_take2 14 (v := ?tvq36) (by kernel_rfl) rfl (by kernel_rfl) (fun _ _ _ h => h) (Or.inl ⟨by rfl, ?tyq36⟩) HBq34.out ?trq36
          case tyq36 => (intro w' hSw; (try dsimp only at hSw); go_simp; try with_reducible rfl)
          try simp only [Act.put, List.setIfInBounds_toArray, List.set_cons_zero, List.set_cons_succ]
          refine ⟨by kernel_rfl, ?_⟩
          change wpList _ _ _ [_] _ _
          go_wp2_with fail
          refine NoPanic.normal ?_
          go_wp2_with fail
          have HE := Lib.hid (HB.out.trans (HBq34.out.mono HB.out.size))
          go_roundw
          case rel => exact ⟨k + 1, by omega, by go_num, by rw [← HQ.out], HE.out⟩
          case measure => simp [RowKit.intOf]; omega
      · refine ⟨_, (by rfl), fun K' hK' => ?_⟩
        rw [if_pos (by rfl)]
        have HK := Lib.hid hK'
        clear hK'
        have hcvq37 := conv_u8 (ns := [10]) (c := 1) (own_one HNq25.out (Nat.le_refl _))
        have hcwq37 : bstr [10] = str [10] := rfl
        rw [hcwq37] at hcvq37
        go_simp
        refine HK.out _ _ ⟨HBq25.out, ?_⟩
        clear HK K'
        try simp only [Act.put, List.setIfInBounds_toArray, List.set_cons_zero, List.set_cons_succ]
        refine wpAnyT_one2 2 rfl (by kernel_rfl) ?_
        intro K' hK'
        rw [if_pos (by rfl)]
        have HK := Lib.hid hK'
        clear hK'
        go_wp2_with (go_at_call 46; refine (CK.out _).mono ?_; rintro eq38 wq38 ⟨rfl, hb⟩)
        have HBq38 := Lib.hid (below_then HBq25.out hb)
        have HNq38 := Lib.hid (blk_later HNq25.out hb)
        clear hb
        refine HK.out _ _ ⟨HBq38.out, ?_⟩
        clear HK K'
        try simp only [Act.put, List.setIfInBounds_toArray, List.set_cons_zero, List.set_cons_succ]
        refine wpAnyT_take2 3 (v := ?tvq39) (by kernel_rfl) rfl (by kernel_rfl) (fun _ _ _ h => h) (Or.inl ⟨by rfl, ?tyq39⟩) HBq38.out ?trq39
        case tyq39 => (intro w' hSw; (try dsimp only at hSw); go_simp; try with_reducible rfl)
        try simp only [Act.put, List.setIfInBounds_toArray, List.set_cons_zero, List.set_cons_succ]
        refine wpAnyT_take2 4 (v := ?tvq40) (by kernel_rfl) rfl (by kernel_rfl) (fun _ _ _ h => h) (Or.inl ⟨by rfl, ?tyq40⟩) HBq38.out ?trq40
        case tyq40 => (intro w' hSw; (try dsimp only at hSw); go_simp; try with_reducible rfl)
        try simp only [Act.put, List.setIfInBounds_toArray, List.set_cons_zero, List.set_cons_succ]
        refine wpAnyT_one2 10 rfl (by kernel_rfl) ?_
        intro K' hK'
        rw [if_pos (by rfl)]
        have HK := Lib.hid hK'
        clear hK'
        go_wp2_with (go_at_call 47; refine (CT.out _).mono ?_; rintro eq41 wq41 ⟨rfl, hb⟩)
        have HBq41 := Lib.hid (below_then HBq38.out hb)
        have HNq41 := Lib.hid (blk_later HNq38.out hb)
        clear hb
        refine HK.out _ _ ⟨HBq41.out, ?_⟩
        clear HK K'
        try simp only [Act.put, List.setIfInBounds_toArray, List.set_cons_zero, List.set_cons_succ]
        refine wpAnyT_take2 11 (v := ?tvq42) (by kernel_rfl) rfl (by kernel_rfl) (fun _ _ _ h => h) (Or.inl ⟨by rfl, ?tyq42⟩) HBq41.out ?trq42
        case tyq42 => (intro w' hSw; (try dsimp only at hSw); go_simp; try with_reducible rfl)
        try simp only [Act.put, List.setIfInBounds_toArray, List.set_cons_zero, List.set_cons_succ]
        refine wpAnyT_take2 14 (v := ?tvq43) (by kernel_rfl) rfl (by kernel_rfl) (fun _ _ _ h => h) (Or.inl ⟨by rfl, ?tyq43⟩) HBq41.out ?trq43
        case tyq43 => (intro w' hSw; (try dsimp only at hSw); go_simp; try with_reducible rfl)
        try simp only [Act.put, List.setIfInBounds_toArray, List.set_cons_zero, List.set_cons_succ]
        refine ⟨by kernel_rfl, ?_⟩
        change wpList _ _ _ [_] _ _
        go_wp2_with fail
        refine NoPanic.normal ?_
        go_wp2_with fail
        have HE := Lib.hid (HB.out.trans (HBq41.out.mono HB.out.size))
        go_roundw
        case rel => exact ⟨k + 1, by omega, by go_num, by rw [← HQ.out], HE.out⟩
        case measure => simp [RowKit.intOf]; omega
end Go.Proofs.YtpeheppiolfpfaaDoor
