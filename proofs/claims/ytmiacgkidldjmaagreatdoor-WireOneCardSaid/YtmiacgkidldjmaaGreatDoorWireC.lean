/- Chapter 12: Kind, the first number of a part, PutTable: what the code computes. Conditions: what each lemma says. -/
import Derived.Test.YtmiacgkidldjmaaGreatDoorWireB
import Derived.Test.YtmiacgkidldjmaaGreatDoorTabH
import Derived.Test.YtmiacgkidldjmaaGreatDoorOpenG
set_option linter.unusedVariables false
set_option linter.unusedSimpArgs false
namespace Go.Proofs.YtmiacgkidldjmaaGreatDoor.Plain
theorem rises_pw : ∀ (P : List Int) (a : Int), P.Pairwise (· < ·) → (∀ x ∈ P, a ≤ x ∧ x ≤ 1114111) → Rises a P := by
  intro P
  induction P with
  | nil => intro a _ _; exact trivial
  | cons x P ih =>
    intro a hp hb
    obtain ⟨h1, h2⟩ := List.pairwise_cons.1 hp
    exact ⟨(hb x (by simp)).1, (hb x (by simp)).2, ih x h2 fun y hy => ⟨Int.le_of_lt (h1 y hy), (hb y (by simp [hy])).2⟩⟩
/-- a right table's numbers may be put -/
theorem tab_fits {P : List Int} {N : List (List Int)} {C : List Bool} (h : tabRight P N C.length = true) : FitsT P N C := by
  obtain ⟨hp, hn, hn0, hn64, hrow⟩ := tab_right _ _ _ h
  obtain ⟨⟨b0, b64, _⟩, hb⟩ := parts_bound P hp
  have hm := parts_mono P hp
  refine ⟨b64, rises_pw P 0 (List.pairwise_iff_getElem.2 fun i j hi hj hij => ?_) fun x hx => ?_, hn64, by omega, fun r hr => ?_⟩
  · have := hm i j hij hj
    rwa [getD_lt P 0 i hi, getD_lt P 0 j hj] at this
  · obtain ⟨i, hi, rfl⟩ := List.getElem_of_mem hx
    have := hb i hi
    rwa [getD_lt P 0 i hi] at this
  · obtain ⟨h1, h2⟩ := hrow r hr
    exact ⟨h1, fun x hx => by have := h2 x hx; omega⟩
def prevP (P : List Int) (k : Nat) : Int := if k = 0 then 0 else P.getD (k - 1) 0
theorem diffs_get : ∀ (P : List Int) (a : Int) (k : Nat), k < P.length → (diffs a P).getD k 0 = P.getD k 0 - if k = 0 then a else P.getD (k - 1) 0 := by
  intro P
  induction P with
  | nil => intro a k hk; simp at hk
  | cons x P ih =>
    intro a k hk
    cases k with
    | zero => simp [diffs]
    | succ k =>
      have := ih x k (by simpa using hk)
      unfold diffs
      rw [List.getD_cons_succ, this]
      cases k with
      | zero => simp
      | succ k => simp
end Go.Proofs.YtmiacgkidldjmaaGreatDoor.Plain
namespace Go.Proofs.YtmiacgkidldjmaaGreatDoor
open Go.RowKit Go.Lib
theorem bit_any (b : Bool) (w : World) : Calls Tryz.prog 46 #[.bool b] w fun e w' => e = .returned (.int .i64 ((if b then 1 else 0 : Nat) : Int)) ∧ w' = w := by
  cases b
  · go_enter Tryz.func46, Tryz.ntmps46
    go_wp2
    go_ret
    exact ⟨rfl, rfl⟩
  · go_enter Tryz.func46, Tryz.ntmps46
    go_wp2
    go_ret
    exact ⟨rfl, rfl⟩
theorem low_none (P : List Int) (A : Option Addr) (c : Nat) (w : World) : Calls Tryz.prog 45 #[.slice A P.length c, .int .i64 (-1)] w fun e w' => e = .returned (.int .i32 0) ∧ w' = w := by
  go_enter Tryz.func45, Tryz.ntmps45
  go_wp2
  go_ret
  exact ⟨rfl, rfl⟩
theorem low_at (P : List Int) (A : Option Addr) (c : Nat) (k : Nat) (w : World) (hX : Sl w A (i32s P)) (hk : k < P.length) (hn : P.length ≤ maxLen) : Calls Tryz.prog 45 #[.slice A P.length c, .int .i64 (k : Int)] w fun e w' => e = .returned (.int .i32 (P.getD k 0)) ∧ w' = w := by
  obtain ⟨b, off, rfl, hb, hc⟩ := hX (by unfold i32s; rw [List.length_map]; omega)
  have c0 := hc k (.int .i32 (P.getD k 0)) (by unfold i32s; rw [List.getElem?_map, List.getElem?_eq_getElem hk, Plain.getD_lt P 0 k hk]; rfl)
  obtain ⟨v, hv⟩ : ∃ x, P.getD k 0 = x := ⟨_, rfl⟩
  rw [hv] at c0 ⊢
  obtain ⟨n, hN⟩ : ∃ x, P.length = x := ⟨_, rfl⟩
  unfold maxLen at hn
  rw [hN] at hk hn ⊢
  have d1 : decide ((k : Int) < 0) = false := decide_eq_false (by omega)
  have d2 : decide ((k : Int) ≥ (n : Int)) = false := decide_eq_false (by omega)
  clear hX hc hv hN
  go_enter Tryz.func45, Tryz.ntmps45
  go_wp2_with fail
  go_ret
  exact ⟨rfl, rfl⟩
/-- Kind -/
theorem kind_plain (a b c : UInt8) (t : List UInt8) (h8 : 8 ≤ (a :: b :: c :: t).length) (h16 : (a :: b :: c :: t).length ≤ 65536) :
    (if Lib.hasPrefix (a :: b :: c :: t) [87, 88] = true ∧ 1 ≤ Lib.indexByte [32, 80, 84] c then (Lib.indexByte [32, 80, 84] c, (0 : Int)) else (0, 6)) = Plain.kindE (a :: b :: c :: t) := by
  unfold Plain.kindE
  rw [if_neg (show ¬ 65536 < (a :: b :: c :: t).length by omega), if_neg (show ¬ (a :: b :: c :: t).length < 8 by omega)]
  have hp : Lib.hasPrefix (a :: b :: c :: t) [87, 88] = true ↔ a = 87 ∧ b = 88 := by
    unfold Lib.hasPrefix
    simp only [List.isPrefixOf, Bool.and_eq_true, beq_iff_eq, and_true]
    constructor
    · rintro ⟨h1, h2⟩; exact ⟨h1.symm, h2.symm⟩
    · rintro ⟨h1, h2⟩; exact ⟨h1.symm, h2.symm⟩
  have ht : (a :: b :: c :: t).take 3 = [a, b, c] := rfl
  rw [ht]
  simp only [List.cons.injEq, and_true, hp]
  by_cases h1 : c = 80
  · subst h1
    rw [show Lib.indexByte [32, 80, 84] 80 = 1 from rfl]
    by_cases h2 : a = 87 ∧ b = 88
    · rw [if_pos ⟨h2, by decide⟩, if_pos ⟨h2.1, h2.2, rfl⟩]
    · rw [if_neg (fun h => h2 h.1), if_neg (fun h => h2 ⟨h.1, h.2.1⟩), if_neg (fun h => h2 ⟨h.1, h.2.1⟩)]
  by_cases h3 : c = 84
  · subst h3
    rw [show Lib.indexByte [32, 80, 84] 84 = 2 from rfl]
    by_cases h2 : a = 87 ∧ b = 88
    · rw [if_pos ⟨h2, by decide⟩, if_neg (fun h => h1 h.2.2), if_pos ⟨h2.1, h2.2, rfl⟩]
    · rw [if_neg (fun h => h2 h.1), if_neg (fun h => h2 ⟨h.1, h.2.1⟩), if_neg (fun h => h2 ⟨h.1, h.2.1⟩)]
  · have hi : ¬ 1 ≤ Lib.indexByte [32, 80, 84] c := by
      have e1 : ((80 : UInt8) == c) = false := by simpa using fun h => h1 h.symm
      have e2 : ((84 : UInt8) == c) = false := by simpa using fun h => h3 h.symm
      simp only [Lib.indexByte, e1, e2]
      split <;> simp
    rw [if_neg (fun h => hi h.2), if_neg (fun h => h1 h.2.2), if_neg (fun h => h3 h.2.2)]
def kindV (s : ByteArray) : Value := .tuple #[.int .i64 (Plain.kindE s.data.toList).1, .int .i64 (Plain.kindE s.data.toList).2]
set_option maxRecDepth 100000 in
set_option maxHeartbeats 1000000 in
theorem kind_any (s : ByteArray) (w : World) (hs : s.size ≤ 1152921504606846976) : Calls Tryz.prog 20 #[.string s] w fun e w' => e = .returned (kindV s) ∧ w' = w := by
  have hl : s.data.toList.length = s.size := by simp
  unfold kindV
  by_cases h1 : 65536 < s.size
  · have e : Plain.kindE s.data.toList = (0, 3) := by unfold Plain.kindE; rw [if_pos (by omega)]
    rw [e]
    have d : decide ((s.size : Int) > 65536) = true := by simp; omega
    go_enter Tryz.func20, Tryz.ntmps20
    go_wp2_with fail
    go_ret2
    exact ⟨rfl, rfl⟩
  by_cases h2 : s.size < 8
  · have e : Plain.kindE s.data.toList = (0, 4) := by unfold Plain.kindE; rw [if_neg (by omega), if_pos (by omega)]
    rw [e]
    have d : decide ((s.size : Int) > 65536) = false := by simp; omega
    have d2 : decide ((s.size : Int) < 8) = true := by simp; omega
    go_enter Tryz.func20, Tryz.ntmps20
    go_wp2_with fail
    go_ret2
    exact ⟨rfl, rfl⟩
  have d : decide ((s.size : Int) > 65536) = false := by simp; omega
  have d2 : decide ((s.size : Int) < 8) = false := by simp; omega
  obtain ⟨a, b, c, t, ht⟩ : ∃ a b c t, s.data.toList = a :: b :: c :: t := by
    match h : s.data.toList, hl with
    | a :: b :: c :: t, _ => exact ⟨a, b, c, t, rfl⟩
    | [], hl => simp at hl; omega
    | [_], hl => simp at hl; omega
    | [_, _], hl => simp at hl; omega
  have hk := kind_plain a b c t (by rw [← ht, hl]; omega) (by rw [← ht, hl]; omega)
  rw [← ht] at hk
  have cI := fun W => Tryz.strings_IndexByte ⟨#[32, 80, 84]⟩ (c.toNat : Int) W
  have cH := fun W => Tryz.strings_HasPrefix s ⟨#[87, 88]⟩ W
  rw [show ((c.toNat : Int).toNat.toUInt8) = c by simp] at cI
  rw [show (⟨#[32, 80, 84]⟩ : ByteArray).data.toList = [32, 80, 84] from rfl] at cI
  rw [show (⟨#[87, 88]⟩ : ByteArray).data.toList = [87, 88] from rfl] at cH
  rw [← hk]
  obtain ⟨ix, hix⟩ : ∃ x, Lib.indexByte [32, 80, 84] c = x := ⟨_, rfl⟩
  obtain ⟨hp, hhp⟩ : ∃ x, Lib.hasPrefix s.data.toList [87, 88] = x := ⟨_, rfl⟩
  rw [hix] at cI ⊢
  rw [hhp] at cH ⊢
  have h2s : 2 < s.size := by omega
  have hc2 : s[2] = c := by
    have h3 : s.data.toList[2]? = some c := by rw [ht]; rfl
    have h4 : s.data.toList[2]? = some (s[2]) := by rw [List.getElem?_eq_getElem (by omega)]; simp [ByteArray.getElem_eq_getElem_data]
    rw [h4] at h3
    exact Option.some.inj h3
  have CI := Lib.hid cI
  have CH := Lib.hid cH
  clear cI cH hk hix hhp ht h1 h2 hl
  cases hp
  · rw [if_neg (fun h => by cases h.1)]
    go_enter Tryz.func20, Tryz.ntmps20
    go_wp2_with fail
    refine (CI.out _).mono ?_
    rintro e w1 ⟨rfl, rfl⟩
    go_wp2_with fail
    refine (CH.out _).mono ?_
    rintro e w1 ⟨rfl, rfl⟩
    go_wp2_with fail
    go_ret2
    exact ⟨rfl, rfl⟩
  · by_cases h3 : 1 ≤ ix
    · have d3 : decide (ix < 1) = false := by simp; omega
      rw [if_pos ⟨rfl, h3⟩]
      go_enter Tryz.func20, Tryz.ntmps20
      go_wp2_with fail
      refine (CI.out _).mono ?_
      rintro e w1 ⟨rfl, rfl⟩
      go_wp2_with fail
      refine (CH.out _).mono ?_
      rintro e w1 ⟨rfl, rfl⟩
      go_wp2_with fail
      go_ret2
      exact ⟨rfl, rfl⟩
    · have d3 : decide (ix < 1) = true := by simp; omega
      rw [if_neg (fun h => h3 h.2)]
      go_enter Tryz.func20, Tryz.ntmps20
      go_wp2_with fail
      refine (CI.out _).mono ?_
      rintro e w1 ⟨rfl, rfl⟩
      go_wp2_with fail
      refine (CH.out _).mono ?_
      rintro e w1 ⟨rfl, rfl⟩
      go_wp2_with fail
      go_ret2
      exact ⟨rfl, rfl⟩
end Go.Proofs.YtmiacgkidldjmaaGreatDoor
namespace Go.Proofs.YtmiacgkidldjmaaGreatDoor
open Go.RowKit Go.Lib
def partsP (P : List Int) (k : Nat) : List UInt8 := Plain.putL P.length ++ ((Plain.diffs 0 P).take k).flatMap fun d => Plain.putL d.toNat
def nextP (N : List (List Int)) (k : Nat) : List UInt8 := Plain.putL N.length ++ (N.take k).flatMap Plain.rowL
def accP (C : List Bool) (k : Nat) : List UInt8 := Plain.putL C.length ++ (C.take k).flatMap Plain.bitL
theorem partsP_succ (P : List Int) (k : Nat) (h : k < P.length) : partsP P (k + 1) = partsP P k ++ Plain.putL (P.getD k 0 - Plain.prevP P k).toNat := by
  have hl : k < (Plain.diffs 0 P).length := by rw [Plain.diffs_len]; exact h
  have hd := Plain.diffs_get P 0 k h
  rw [Plain.getD_lt _ 0 k hl] at hd
  unfold partsP Plain.prevP
  rw [List.take_succ_eq_append_getElem hl, List.flatMap_append, List.append_assoc, hd]; simp
theorem nextP_succ (N : List (List Int)) (k : Nat) (h : k < N.length) : nextP N (k + 1) = nextP N k ++ Plain.rowL N[k] := by unfold nextP; rw [List.take_succ_eq_append_getElem h, List.flatMap_append, List.append_assoc]; simp
theorem accP_succ (C : List Bool) (k : Nat) (h : k < C.length) : accP C (k + 1) = accP C k ++ Plain.bitL C[k] := by unfold accP; rw [List.take_succ_eq_append_getElem h, List.flatMap_append, List.append_assoc]; simp
theorem partsP_all (P : List Int) : partsP P P.length = Plain.partsL P := by unfold partsP Plain.partsL; rw [List.take_of_length_le (by rw [Plain.diffs_len]; exact Nat.le_refl _)]
theorem nextP_all (N : List (List Int)) : nextP N N.length = Plain.nextL N := by unfold nextP Plain.nextL; rw [List.take_of_length_le (Nat.le_refl _)]
theorem accP_all (C : List Bool) : accP C C.length = Plain.accL C := by unfold accP Plain.accL; rw [List.take_of_length_le (Nat.le_refl _)]
theorem numsB (a : Nat) {W : World} {g : Nat} (h : W.heap[g]? = some (.cells #[.int .i64 (a : Int)] 3 (0, 0))) (ha : a < 9223372036854775808) :
    Calls Tryz.prog 41 #[.slice (some ⟨g, 0, none⟩) 1 1] W fun e w' => e = .returned (.string (str (Plain.putL a))) ∧ Below W.heap.size W w' := by
  have hx := numbers_any [a] (some ⟨g, 0, none⟩) 1 W (fun _ => ⟨g, 0, rfl, lt_of_some h, fun i u hu => by rw [Nat.zero_add, cell_of_row _ _ _ _ _ _ h]; simpa [i64n] using hu⟩) (by simpa using ha) (by simp)
  rw [show numsL [a] = Plain.putL a from by simp [numsL]] at hx
  exact hx
/-- a row of a table -/
theorem nums_row (r : Row) (w : World) (hX : Sl w r.1 (i64s r.2.2)) (h0 : ∀ x ∈ r.2.2, 0 ≤ x ∧ x ≤ 16777215) (hl : r.2.2.length ≤ 1000000) :
    Calls Tryz.prog 41 #[rowV r] w fun e w' => e = .returned (.string (str (Plain.rowL r.2.2))) ∧ Below w.heap.size w w' := by
  have hn : i64n (r.2.2.map Int.toNat) = i64s r.2.2 := by
    unfold i64n i64s
    rw [List.map_map]
    refine List.map_congr_left fun x hx => ?_
    have := h0 x hx
    show Value.int .i64 ((x.toNat : Nat) : Int) = _
    rw [show ((x.toNat : Nat) : Int) = x by omega]
  have h := numbers_any (r.2.2.map Int.toNat) r.1 r.2.1 w (by rw [hn]; exact hX) (fun n hn => by obtain ⟨x, hx, rfl⟩ := List.mem_map.1 hn; have := h0 x hx; omega) (by rw [List.length_map]; exact hl)
  rw [List.length_map, show numsL (r.2.2.map Int.toNat) = Plain.rowL r.2.2 from by unfold numsL Plain.rowL; rw [List.flatMap_map]] at h
  exact h
theorem puttab_not (PA : Option Addr) (P : List Int) (pc : Nat) (NA : Option Addr) (R : List Row) (nc : Nat) (AA : Option Addr) (C : List Bool) (ac : Nat) (w : World) (hT : TabAt w PA P NA R AA C) (h : Plain.tabRight P (nums R) C.length = false) :
    Calls Tryz.prog 16 #[tabV PA P pc NA R nc AA C ac] w fun e w' => e = .returned (.tuple #[.string ⟨#[]⟩, .bool false]) ∧ Below w.heap.size w w' := by
  have hb0 : Below w.heap.size w (w.alloc (.cells #[.slice PA P.length pc, .slice NA R.length nc, .slice AA C.length ac] 34)) := below_alloc (Below.refl _ _) _
  have hR := tright_any PA P pc NA R nc AA C ac _ (hT.below hb0)
  rw [h] at hR
  unfold tabV at hR ⊢
  have HR := Lib.hid hR
  have HB0 := Lib.hid hb0
  clear hR hT h hb0
  go_enter Tryz.func16, Tryz.ntmps16
  go_wp2_with fail
  refine HR.out.mono ?_
  rintro e w1 ⟨rfl, hb⟩
  have HB := Lib.hid (below_then HB0.out hb)
  clear hb
  go_wp2_with fail
  go_ret2
  exact ⟨rfl, HB.out⟩
set_option maxRecDepth 1000000 in
set_option maxHeartbeats 16000000 in
theorem puttab_yes (PA : Option Addr) (P : List Int) (pc : Nat) (NA : Option Addr) (R : List Row) (nc : Nat) (AA : Option Addr) (C : List Bool) (ac : Nat) (w : World) (hT : TabAt w PA P NA R AA C) (h : Plain.tabRight P (nums R) C.length = true) :
    Calls Tryz.prog 16 #[tabV PA P pc NA R nc AA C ac] w fun e w' => e = .returned (.tuple #[.string (str (Plain.tabL P (nums R) C)), .bool true]) ∧ Below w.heap.size w w' := by
  have hfit := Plain.tab_fits h
  have hlen := Plain.tabL_len _ _ _ hfit
  have hb0 : Below w.heap.size w (w.alloc (.cells #[.slice PA P.length pc, .slice NA R.length nc, .slice AA C.length ac] 34)) := below_alloc (Below.refl _ _) _
  have hbx : (w.alloc (.cells #[.slice PA P.length pc, .slice NA R.length nc, .slice AA C.length ac] 34)).heap[w.heap.size]? = some (.cells #[.slice PA P.length pc, .slice NA R.length nc, .slice AA C.length ac] 34 (0, 0)) := heap_alloc_new2 _ _ _ _ rfl
  have hR := tright_any PA P pc NA R nc AA C ac _ (hT.below hb0)
  rw [h] at hR
  have hpn := hfit.pn
  have hnn := hfit.nn
  have hcn := hfit.cn
  have hNR : (nums R).length = R.length := by unfold nums; rw [List.length_map]
  rw [hNR] at hnn hcn
  have hpl := (Plain.partsL_len P hfit.pn hfit.pr).2
  have hxl := (Plain.nextL_len P (nums R) C hfit).2
  have hal := (Plain.accL_len C (by rw [hcn]; exact hnn)).2
  have hbd := Plain.parts_bound P (Plain.tab_right _ _ _ h).1
  have hmo := Plain.parts_mono P (Plain.tab_right _ _ _ h).1
  have HBD := Lib.hid hbd.2
  have HMO := Lib.hid hmo
  have HFIT := Lib.hid hfit
  have HT := Lib.hid (fun (w' : World) (hb : Below w.heap.size w w') => hT.below hb)
  unfold tabV at hR ⊢
  have HR := Lib.hid hR
  have HB0 := Lib.hid hb0
  have HBX := Lib.hid hbx
  have HLEN := Lib.hid hlen
  have HPL := Lib.hid hpl
  have HXL := Lib.hid hxl
  have HAL := Lib.hid hal
  obtain ⟨p, hp⟩ : ∃ x, P.length = x := ⟨_, rfl⟩
  obtain ⟨m, hm⟩ : ∃ x, R.length = x := ⟨_, rfl⟩
  have HPN := Lib.hid hp
  have HM := Lib.hid hm
  have HNR := Lib.hid hNR
  have HCN := Lib.hid hcn
  rw [hp] at hpn HR HB0 HBX ⊢
  rw [hcn, hm] at HR HB0 HBX ⊢
  rw [hm] at hnn
  have N1 := Lib.hid (fun a W x hx ha => nums1 a W x hx ha)
  obtain ⟨RES, hRES⟩ : ∃ x, Plain.tabL P (nums R) C = x := ⟨_, rfl⟩
  have HRES := Lib.hid hRES
  rw [hRES]
  clear hR hT h hb0 hbx hfit hlen hpl hxl hal hp hm hNR hcn hRES hbd hmo
  go_enter Tryz.func16, Tryz.ntmps16
  go_wp2_with fail
  refine HR.out.mono ?_
  rintro e w1 ⟨rfl, hb⟩
  have HB := Lib.hid (below_then HB0.out hb)
  have HBX1 := Lib.hid (blk_later HBX.out hb)
  clear hb HBX HR HB0
  have HX := Lib.hid (fun (w' : World) (h : Below w1.heap.size w1 w') => blk_cells3 (blk_later HBX1.out h))
  obtain ⟨x0, x1, x2⟩ := HX.out w1 (Below.refl _ _)
  go_wp2_with fail
  refine (N1.out p _ _ (by simp) (by omega)).mono ?_
  rintro e w2 ⟨rfl, hb⟩
  have HB2 := Lib.hid hb
  clear hb x0 x1 x2
  obtain ⟨x0, x1, x2⟩ := HX.out w2 HB2.out
  go_wp2_with fail
  go_loopw [4, 5, 6, 22] (fun s _ _ i wr => ∃ k : Nat, k ≤ p ∧ i = .int .i64 k ∧ s = .string (str (partsP P k)) ∧ RowKit.Below w1.heap.size w1 wr) (fun _ _ _ i _ => p - (RowKit.intOf i).toNat)
  case atStart => exact ⟨0, Nat.zero_le _, rfl, by unfold partsP; rw [HPN.out]; simp, HB2.out⟩
  clear x0 x1 x2
  case round =>
    obtain ⟨w0, rfl⟩ : ∃ x, x = wr := ⟨_, rfl⟩
    obtain ⟨k, hk, rfl, rfl, hB⟩ := hrel
    have HBr := Lib.hid hB
    clear hB
    obtain ⟨x0, x1, x2⟩ := HX.out w0 HBr.out
    by_cases hlt : k < p
    · have hkl : k < P.length := by rw [HPN.out]; exact hlt
      have hTA := HT.out w0 (below_then HB.out HBr.out)
      obtain ⟨b, off, he, hbb, hc⟩ := hTA.parts (by unfold i32s; rw [List.length_map]; omega)
      have c0 := hc k (.int .i32 (P.getD k 0)) (by unfold i32s; rw [List.getElem?_map, List.getElem?_eq_getElem hkl, Plain.getD_lt P 0 k hkl]; rfl)
      have hlow : ∀ j : Nat, j < P.length → Calls Tryz.prog 45 #[.slice PA P.length pc, .int .i64 (j : Int)] w0 fun e w' => e = .returned (.int .i32 (P.getD j 0)) ∧ w' = w0 := fun j hj => low_at P PA pc j w0 hTA.parts hj hTA.lp
      have hlow2 : Calls Tryz.prog 45 #[.slice PA p pc, .int .i64 ((k : Int) - 1)] w0 fun e w' => e = .returned (.int .i32 (Plain.prevP P k)) ∧ w' = w0 := by
        rw [HPN.out] at hlow
        unfold Plain.prevP
        by_cases h0 : k = 0
        · rw [if_pos h0, h0]
          have := low_none P PA pc w0
          rw [HPN.out] at this
          exact this
        · rw [if_neg h0, show (k : Int) - 1 = ((k - 1 : Nat) : Int) by omega]
          exact hlow (k - 1) (by omega)
      have hpv : 0 ≤ Plain.prevP P k ∧ Plain.prevP P k ≤ P.getD k 0 ∧ P.getD k 0 ≤ 1114111 := by
        have h1 := HBD.out k hkl
        unfold Plain.prevP
        by_cases h0 : k = 0
        · rw [if_pos h0]; omega
        · rw [if_neg h0]
          have h2 := HBD.out (k - 1) (by omega)
          have h3 := HMO.out (k - 1) k (by omega) hkl
          omega
      have hsu := partsP_succ P k hkl
      have hpl : (partsP P k).length ≤ 193 := by
        have h1 := take_len_le (fun d : Int => Plain.putL d.toNat) (Plain.diffs 0 P) k
        have h2 := HPL.out
        unfold Plain.partsL at h2
        unfold partsP
        rw [List.length_append] at h2 ⊢; omega
      obtain ⟨pv, hpve⟩ : ∃ x, Plain.prevP P k = x := ⟨_, rfl⟩
      obtain ⟨x, hxe⟩ : ∃ x, P.getD k 0 = x := ⟨_, rfl⟩
      rw [hpve, hxe] at hpv hsu
      rw [hpve] at hlow2
      rw [hxe] at c0
      obtain ⟨dd, hdd⟩ : ∃ z, (x - pv).toNat = z := ⟨_, rfl⟩
      rw [hdd] at hsu
      have hdb : dd < 2000000 := by omega
      have hw1 : IntKind.i32.wrap (x - pv) = (dd : Int) := by rw [IntKind.wrap_i32]; omega
      have hw3 : IntKind.i64.wrap (dd : Int) = (dd : Int) := by rw [IntKind.wrap_i64]; omega
      have hw4 : IntKind.i64.wrap ((k : Int) - 1) = (k : Int) - 1 := by rw [IntKind.wrap_i64]; omega
      have hcj : str (partsP P k) ++ str (Plain.putL dd) = str (partsP P (k + 1)) := by rw [str_app, hsu]
      have HCJ := Lib.hid hcj
      have hz3 : (str (partsP P k)).size ≤ 193 := by rw [str_size]; exact hpl
      have hz4 := put_len10' dd (by omega)
      obtain ⟨sj, hsje⟩ : ∃ x, str (partsP P k) = x := ⟨_, rfl⟩
      rw [hsje] at HCJ hz3
      rw [hsje]
      have g2 : ¬ (9223372036854775807 < sj.size + (str (Plain.putL dd)).size) := by omega
      have HLOW := Lib.hid hlow2
      subst he
      clear hTA hc hlow hlow2 hsu hpl hpve hxe hdd hcj hsje
      go_wp2_with fail
      refine HLOW.out.mono ?_
      rintro e w5 ⟨rfl, hw5⟩
      subst hw5
      go_wp2_with fail
      refine (N1.out dd _ _ (by simp) (by omega)).mono ?_
      rintro e w6 ⟨rfl, hb⟩
      have HB6 := Lib.hid (HBr.out.trans (hb.mono HBr.out.size))
      clear hb x0 x1 x2 c0
      go_wp2_with fail
      rw [HCJ.out]
      go_roundw
      case rel => exact ⟨k + 1, by omega, by go_num, rfl, HB6.out⟩
      case measure => simp [RowKit.intOf]; omega
    · obtain rfl : p = k := by omega
      have hfin : partsP P p = Plain.partsL P := by rw [← HPN.out, partsP_all]
      rw [hfin]
      obtain ⟨PL, hPL⟩ : ∃ x, Plain.partsL P = x := ⟨_, rfl⟩
      have HPLE := Lib.hid hPL
      rw [hPL]
      clear hfin hPL
      go_upto_region 9 with fail
      go_cut [7, 8] (fun s7 s8 wx => s7 = .string (str (Plain.putL m)) ∧ s8 = .string (str (Plain.putL m)) ∧ RowKit.Below w1.heap.size w1 wx)
      case first =>
        have HXd := Lib.hid (fun (w' : World) (h : Below w0.heap.size w0 w') => HX.out w' (HBr.out.trans (h.mono HBr.out.size)))
        have HBD0 := Lib.hid (Below.drew (Below.refl w0.heap.size w0))
        obtain ⟨wd, hwd⟩ : ∃ x, w0.drew = x := ⟨_, rfl⟩
        rw [hwd] at HBD0
        have NB := Lib.hid (fun (W : World) (g : Nat) h => numsB (W := W) (g := g) m h (by omega))
        clear x0 x1 x2
        refine wp_region_noPanic ?_
        refine wp_region_T 10 (S := fun w' : World => Below w0.heap.size w0 w') (by kernel_rfl) (by decide) ?_
        rw [hwd]
        clear hwd
        refine wpAnyT_take2 0 (v := ?tvc1) (by kernel_rfl) rfl (by kernel_rfl) (fun _ _ _ h => h) (Or.inl ⟨by rfl, ?tyc1⟩) HBD0.out ?trc1
        case tyc1 => (intro w' hSw; (try dsimp only at hSw); go_simp; try with_reducible rfl)
        try simp only [Act.put, List.setIfInBounds_toArray, List.set_cons_zero, List.set_cons_succ]
        refine wpAnyT_take2 1 (v := ?tvc2) (by kernel_rfl) rfl (by kernel_rfl) (fun _ _ _ h => h) (Or.inl ⟨by rfl, ?tyc2⟩) HBD0.out ?trc2
        case tyc2 => (intro w' hSw; obtain ⟨x0, x1, x2⟩ := HXd.out w' hSw; (try dsimp only at hSw); go_simp; try with_reducible rfl)
        try simp only [Act.put, List.setIfInBounds_toArray, List.set_cons_zero, List.set_cons_succ]
        refine wpAnyT_take2 2 (v := ?tvc3) (by kernel_rfl) rfl (by kernel_rfl) (fun _ _ _ h => h) (Or.inl ⟨by rfl, ?tyc3⟩) HBD0.out ?trc3
        case tyc3 => (intro w' hSw; (try dsimp only at hSw); go_simp; try with_reducible rfl)
        try simp only [Act.put, List.setIfInBounds_toArray, List.set_cons_zero, List.set_cons_succ]
        refine wpAnyT_take2 5 (v := ?tvc4) (by kernel_rfl) rfl (by kernel_rfl) (fun _ _ _ h => h) (Or.inl ⟨by rfl, ?tyc4⟩) HBD0.out ?trc4
        case tyc4 => (intro w' hSw; (try dsimp only at hSw); go_simp; try with_reducible rfl)
        try simp only [Act.put, List.setIfInBounds_toArray, List.set_cons_zero, List.set_cons_succ]
        refine wpAnyT_take2 6 (v := ?tvc5) (by kernel_rfl) rfl (by kernel_rfl) (fun _ _ _ h => h) (Or.inl ⟨by rfl, ?tyc5⟩) HBD0.out ?trc5
        case tyc5 => (intro w' hSw; obtain ⟨x0, x1, x2⟩ := HXd.out w' hSw; (try dsimp only at hSw); go_simp; try with_reducible rfl)
        try simp only [Act.put, List.setIfInBounds_toArray, List.set_cons_zero, List.set_cons_succ]
        refine wpAnyT_take2 7 (v := ?tvc6) (by kernel_rfl) rfl (by kernel_rfl) (fun _ _ _ h => h) (Or.inl ⟨by rfl, ?tyc6⟩) HBD0.out ?trc6
        case tyc6 => (intro w' hSw; (try dsimp only at hSw); go_simp; try with_reducible rfl)
        try simp only [Act.put, List.setIfInBounds_toArray, List.set_cons_zero, List.set_cons_succ]
        refine wpAnyT_all [3, 8] (by kernel_rfl) (by decide) (fun i hi => ?_)
        simp only [List.mem_cons, List.not_mem_nil, or_false] at hi
        rcases hi with rfl | rfl
        · refine ⟨_, (by rfl), fun K' hK' => ?_⟩
          rw [if_pos (by rfl)]
          have HK := Lib.hid hK'
          clear hK'
          have hnew := heap_alloc_new2 wd (.cells #[.int .i64 (m : Int)] 3) wd.heap.size _ rfl
          go_simp
          have HBc7 := Lib.hid (below_alloc HBD0.out (.cells #[.int .i64 (m : Int)] 3))
          refine HK.out _ _ ⟨HBc7.out, ?_⟩
          clear HK K'
          try simp only [Act.put, List.setIfInBounds_toArray, List.set_cons_zero, List.set_cons_succ]
          obtain ⟨wc7, hwc7⟩ : ∃ W0, wd.alloc (.cells #[.int .i64 (m : Int)] 3) = W0 := ⟨_, rfl⟩
          obtain ⟨ga, hga⟩ : ∃ x, wd.heap.size = x := ⟨_, rfl⟩
          rw [hwc7] at hnew HBc7 ⊢
          rw [hga] at hnew ⊢
          have Hb1c7 := Lib.hid hnew
          clear hnew hwc7 hga
          refine wpAnyT_all [4, 8] (by kernel_rfl) (by decide) (fun i hi => ?_)
          simp only [List.mem_cons, List.not_mem_nil, or_false] at hi
          rcases hi with rfl | rfl
          · refine ⟨_, (by rfl), fun K' hK' => ?_⟩
            rw [if_pos (by rfl)]
            have HK := Lib.hid hK'
            clear hK'
            go_wp2_with (go_at_call 41; refine (NB.out _ _ Hb1c7.out).mono ?_; rintro ec8 wc8 ⟨rfl, hb⟩)
            have HBc8 := Lib.hid (below_then HBc7.out hb)
            have Hb1c8 := Lib.hid (blk_later Hb1c7.out hb)
            clear hb
            refine HK.out _ _ ⟨HBc8.out, ?_⟩
            clear HK K'
            try simp only [Act.put, List.setIfInBounds_toArray, List.set_cons_zero, List.set_cons_succ]
            refine wpAnyT_one2 8 rfl (by kernel_rfl) ?_
            intro K' hK'
            rw [if_pos (by rfl)]
            have HK := Lib.hid hK'
            clear hK'
            have hnew := heap_alloc_new2 wc8 (.cells #[.int .i64 (m : Int)] 3) wc8.heap.size _ rfl
            go_simp
            have HBc9 := Lib.hid (below_alloc HBc8.out (.cells #[.int .i64 (m : Int)] 3))
            have Hb1c9 := Lib.hid (blk_alloc Hb1c8.out (.cells #[.int .i64 (m : Int)] 3))
            refine HK.out _ _ ⟨HBc9.out, ?_⟩
            clear HK K'
            try simp only [Act.put, List.setIfInBounds_toArray, List.set_cons_zero, List.set_cons_succ]
            obtain ⟨wc9, hwc9⟩ : ∃ W0, wc8.alloc (.cells #[.int .i64 (m : Int)] 3) = W0 := ⟨_, rfl⟩
            obtain ⟨gb, hgb⟩ : ∃ x, wc8.heap.size = x := ⟨_, rfl⟩
            rw [hwc9] at hnew HBc9 Hb1c9 ⊢
            rw [hgb] at hnew ⊢
            have Hb2c9 := Lib.hid hnew
            clear hnew hwc9 hgb
            refine wpAnyT_one2 9 rfl (by kernel_rfl) ?_
            intro K' hK'
            rw [if_pos (by rfl)]
            have HK := Lib.hid hK'
            clear hK'
            go_wp2_with (go_at_call 41; refine (NB.out _ _ Hb2c9.out).mono ?_; rintro ec10 wc10 ⟨rfl, hb⟩)
            have HBc10 := Lib.hid (below_then HBc9.out hb)
            have Hb1c10 := Lib.hid (blk_later Hb1c9.out hb)
            have Hb2c10 := Lib.hid (blk_later Hb2c9.out hb)
            clear hb
            refine HK.out _ _ ⟨HBc10.out, ?_⟩
            clear HK K'
            try simp only [Act.put, List.setIfInBounds_toArray, List.set_cons_zero, List.set_cons_succ]
            refine ⟨by kernel_rfl, ?_⟩
            change wpList _ _ _ [_, _] _ _
            go_wp2
            refine NoPanic.normal ?_
            go_wp2
            go_meet
            case rel => exact ⟨rfl, rfl, HBr.out.trans (HBc10.out.mono HBr.out.size)⟩
          · refine ⟨_, (by rfl), fun K' hK' => ?_⟩
            rw [if_pos (by rfl)]
            have HK := Lib.hid hK'
            clear hK'
            have hnew := heap_alloc_new2 wc7 (.cells #[.int .i64 (m : Int)] 3) wc7.heap.size _ rfl
            go_simp
            have HBc11 := Lib.hid (below_alloc HBc7.out (.cells #[.int .i64 (m : Int)] 3))
            have Hb1c11 := Lib.hid (blk_alloc Hb1c7.out (.cells #[.int .i64 (m : Int)] 3))
            refine HK.out _ _ ⟨HBc11.out, ?_⟩
            clear HK K'
            try simp only [Act.put, List.setIfInBounds_toArray, List.set_cons_zero, List.set_cons_succ]
            obtain ⟨wc11, hwc11⟩ : ∃ W0, wc7.alloc (.cells #[.int .i64 (m : Int)] 3) = W0 := ⟨_, rfl⟩
            obtain ⟨gb, hgb⟩ : ∃ x, wc7.heap.size = x := ⟨_, rfl⟩
            rw [hwc11] at hnew HBc11 Hb1c11 ⊢
            rw [hgb] at hnew ⊢
            have Hb2c11 := Lib.hid hnew
            clear hnew hwc11 hgb
            refine wpAnyT_one2 4 rfl (by kernel_rfl) ?_
            intro K' hK'
            rw [if_pos (by rfl)]
            have HK := Lib.hid hK'
            clear hK'
            go_wp2_with (go_at_call 41; refine (NB.out _ _ Hb1c11.out).mono ?_; rintro ec12 wc12 ⟨rfl, hb⟩)
            have HBc12 := Lib.hid (below_then HBc11.out hb)
            have Hb1c12 := Lib.hid (blk_later Hb1c11.out hb)
            have Hb2c12 := Lib.hid (blk_later Hb2c11.out hb)
            clear hb
            refine HK.out _ _ ⟨HBc12.out, ?_⟩
            clear HK K'
            try simp only [Act.put, List.setIfInBounds_toArray, List.set_cons_zero, List.set_cons_succ]
            refine wpAnyT_one2 9 rfl (by kernel_rfl) ?_
            intro K' hK'
            rw [if_pos (by rfl)]
            have HK := Lib.hid hK'
            clear hK'
            go_wp2_with (go_at_call 41; refine (NB.out _ _ Hb2c12.out).mono ?_; rintro ec13 wc13 ⟨rfl, hb⟩)
            have HBc13 := Lib.hid (below_then HBc12.out hb)
            have Hb1c13 := Lib.hid (blk_later Hb1c12.out hb)
            have Hb2c13 := Lib.hid (blk_later Hb2c12.out hb)
            clear hb
            refine HK.out _ _ ⟨HBc13.out, ?_⟩
            clear HK K'
            try simp only [Act.put, List.setIfInBounds_toArray, List.set_cons_zero, List.set_cons_succ]
            refine ⟨by kernel_rfl, ?_⟩
            change wpList _ _ _ [_, _] _ _
            go_wp2
            refine NoPanic.normal ?_
            go_wp2
            go_meet
            case rel => exact ⟨rfl, rfl, HBr.out.trans (HBc13.out.mono HBr.out.size)⟩
        · refine ⟨_, (by rfl), fun K' hK' => ?_⟩
          rw [if_pos (by rfl)]
          have HK := Lib.hid hK'
          clear hK'
          have hnew := heap_alloc_new2 wd (.cells #[.int .i64 (m : Int)] 3) wd.heap.size _ rfl
          go_simp
          have HBc14 := Lib.hid (below_alloc HBD0.out (.cells #[.int .i64 (m : Int)] 3))
          refine HK.out _ _ ⟨HBc14.out, ?_⟩
          clear HK K'
          try simp only [Act.put, List.setIfInBounds_toArray, List.set_cons_zero, List.set_cons_succ]
          obtain ⟨wc14, hwc14⟩ : ∃ W0, wd.alloc (.cells #[.int .i64 (m : Int)] 3) = W0 := ⟨_, rfl⟩
          obtain ⟨gb, hgb⟩ : ∃ x, wd.heap.size = x := ⟨_, rfl⟩
          rw [hwc14] at hnew HBc14 ⊢
          rw [hgb] at hnew ⊢
          have Hb2c14 := Lib.hid hnew
          clear hnew hwc14 hgb
          refine wpAnyT_one2 3 rfl (by kernel_rfl) ?_
          intro K' hK'
          rw [if_pos (by rfl)]
          have HK := Lib.hid hK'
          clear hK'
          have hnew := heap_alloc_new2 wc14 (.cells #[.int .i64 (m : Int)] 3) wc14.heap.size _ rfl
          go_simp
          have HBc15 := Lib.hid (below_alloc HBc14.out (.cells #[.int .i64 (m : Int)] 3))
          have Hb2c15 := Lib.hid (blk_alloc Hb2c14.out (.cells #[.int .i64 (m : Int)] 3))
          refine HK.out _ _ ⟨HBc15.out, ?_⟩
          clear HK K'
          try simp only [Act.put, List.setIfInBounds_toArray, List.set_cons_zero, List.set_cons_succ]
          obtain ⟨wc15, hwc15⟩ : ∃ W0, wc14.alloc (.cells #[.int .i64 (m : Int)] 3) = W0 := ⟨_, rfl⟩
          obtain ⟨ga, hga⟩ : ∃ x, wc14.heap.size = x := ⟨_, rfl⟩
          rw [hwc15] at hnew HBc15 Hb2c15 ⊢
          rw [hga] at hnew ⊢
          have Hb1c15 := Lib.hid hnew
          clear hnew hwc15 hga
          refine wpAnyT_one2 4 rfl (by kernel_rfl) ?_
          intro K' hK'
          rw [if_pos (by rfl)]
          have HK := Lib.hid hK'
          clear hK'
          go_wp2_with (go_at_call 41; refine (NB.out _ _ Hb1c15.out).mono ?_; rintro ec16 wc16 ⟨rfl, hb⟩)
          have HBc16 := Lib.hid (below_then HBc15.out hb)
          have Hb2c16 := Lib.hid (blk_later Hb2c15.out hb)
          have Hb1c16 := Lib.hid (blk_later Hb1c15.out hb)
          clear hb
          refine HK.out _ _ ⟨HBc16.out, ?_⟩
          clear HK K'
          try simp only [Act.put, List.setIfInBounds_toArray, List.set_cons_zero, List.set_cons_succ]
          refine wpAnyT_one2 9 rfl (by kernel_rfl) ?_
          intro K' hK'
          rw [if_pos (by rfl)]
          have HK := Lib.hid hK'
          clear hK'
          go_wp2_with (go_at_call 41; refine (NB.out _ _ Hb2c16.out).mono ?_; rintro ec17 wc17 ⟨rfl, hb⟩)
          have HBc17 := Lib.hid (below_then HBc16.out hb)
          have Hb2c17 := Lib.hid (blk_later Hb2c16.out hb)
          have Hb1c17 := Lib.hid (blk_later Hb1c16.out hb)
          clear hb
          refine HK.out _ _ ⟨HBc17.out, ?_⟩
          clear HK K'
          try simp only [Act.put, List.setIfInBounds_toArray, List.set_cons_zero, List.set_cons_succ]
          refine ⟨by kernel_rfl, ?_⟩
          change wpList _ _ _ [_, _] _ _
          go_wp2
          refine NoPanic.normal ?_
          go_wp2
          go_meet
          case rel => exact ⟨rfl, rfl, HBr.out.trans (HBc17.out.mono HBr.out.size)⟩
      case rest =>
        obtain ⟨rfl, rfl, hB⟩ := hcut
        have HBc := Lib.hid hB
        clear hB x0 x1 x2
        obtain ⟨x0, x1, x2⟩ := HX.out wc HBc.out
        go_wp2_with fail
        go_loopw [7, 8, 9, 10, 53] (fun s7 s8 _ _ i wr => ∃ k : Nat, k ≤ m ∧ i = .int .i64 k ∧ s7 = .string (str (nextP (nums R) k)) ∧ s8 = .string (str (accP C k)) ∧ RowKit.Below w1.heap.size w1 wr) (fun _ _ _ _ i _ => m - (RowKit.intOf i).toNat)
        case atStart => exact ⟨0, Nat.zero_le _, rfl, by unfold nextP; rw [HNR.out, HM.out]; simp, by unfold accP; rw [HCN.out, HM.out]; simp, HBc.out⟩
        clear x0 x1 x2
        case round =>
          obtain ⟨w4, rfl⟩ : ∃ x, x = wr := ⟨_, rfl⟩
          obtain ⟨k, hk, rfl, rfl, rfl, hB⟩ := hrel
          have HB4 := Lib.hid hB
          clear hB
          obtain ⟨x0, x1, x2⟩ := HX.out w4 HB4.out
          by_cases hlt : k < m
          · have hkl : k < R.length := by rw [HM.out]; exact hlt
            have hkn : k < (nums R).length := by rw [HNR.out]; exact hkl
            have hkc : k < C.length := by rw [HCN.out]; exact hkl
            have hTA := HT.out w4 (below_then HB.out HB4.out)
            obtain ⟨rb, ro, he1, hrb, hrc⟩ := hTA.rows (by rw [List.length_map]; omega)
            obtain ⟨ab, ao, he2, hab, hac⟩ := hTA.acc (by rw [List.length_map]; omega)
            have c0 := hrc k (rowV R[k]) (by rw [List.getElem?_map, List.getElem?_eq_getElem hkl]; rfl)
            have c1 := hac k (.bool C[k]) (by rw [List.getElem?_map, List.getElem?_eq_getElem hkc]; rfl)
            subst he1 he2
            have hrow := hTA.row R[k] (List.getElem_mem hkl)
            have hgn : (nums R)[k] = R[k].2.2 := by simp [nums]
            have hrn := HFIT.out.rn R[k].2.2 (by rw [← hgn]; exact List.getElem_mem hkn)
            have hs7 := nextP_succ (nums R) k hkn
            rw [hgn] at hs7
            have hs8 := accP_succ C k hkc
            have cN := nums_row R[k] w4 hrow.1 hrn.2 (by have := hrn.1; have := HPN.out; omega)
            have hl7 : (nextP (nums R) k).length ≤ 16385 := by
              have h1 := take_len_le Plain.rowL (nums R) k
              have h2 := HXL.out
              unfold Plain.nextL at h2
              unfold nextP
              rw [List.length_append] at h2 ⊢; omega
            have hl8 : (accP C k).length ≤ 65 := by
              have h1 := take_len_le Plain.bitL C k
              have h2 := HAL.out
              unfold Plain.accL at h2
              unfold accP
              rw [List.length_append] at h2 ⊢; omega
            have hlr : (Plain.rowL R[k].2.2).length ≤ 64 * 4 := by
              have h3 := Plain.flat_len (fun x : Int => Plain.putL x.toNat) 4 R[k].2.2 fun x hx => Plain.put_len4 x.toNat (by have := hrn.2 x hx; omega)
              have := hrn.1; have := HPN.out
              unfold Plain.rowL
              omega
            have c7 : str (nextP (nums R) k) ++ str (Plain.rowL R[k].2.2) = str (nextP (nums R) (k + 1)) := by rw [str_app, hs7]
            have c8 : str (accP C k) ++ str (Plain.bitL C[k]) = str (accP C (k + 1)) := by rw [str_app, hs8]
            have C7 := Lib.hid c7
            have C8 := Lib.hid c8
            have z7 : (str (nextP (nums R) k)).size ≤ 16385 := by rw [str_size]; exact hl7
            have z8 : (str (accP C k)).size ≤ 65 := by rw [str_size]; exact hl8
            have zr : (str (Plain.rowL R[k].2.2)).size ≤ 256 := by rw [str_size]; omega
            obtain ⟨b, hb⟩ : ∃ b, C[k] = b := ⟨_, rfl⟩
            rw [hb] at c1 C8
            have zb : (str (Plain.bitL b)).size ≤ 10 := by unfold Plain.bitL; exact put_len10' _ (by cases b <;> decide)
            obtain ⟨sr, hsr⟩ : ∃ x, str (Plain.rowL R[k].2.2) = x := ⟨_, rfl⟩
            rw [hsr] at cN C7 zr
            obtain ⟨⟨RA, rcap, RL⟩, hRk⟩ : ∃ x, R[k] = x := ⟨_, rfl⟩
            rw [hRk] at c0 cN
            unfold rowV at c0 cN
            dsimp only at c0 cN
            obtain ⟨s7, hs7e⟩ : ∃ x, str (nextP (nums R) k) = x := ⟨_, rfl⟩
            obtain ⟨s8, hs8e⟩ : ∃ x, str (accP C k) = x := ⟨_, rfl⟩
            rw [hs7e] at C7 z7
            rw [hs8e] at C8 z8
            rw [hs7e, hs8e]
            have CN := Lib.hid cN
            have HC1 := Lib.hid c1
            have CB := Lib.hid (fun W => bit_any b W)
            obtain ⟨bn, hbn⟩ : ∃ n : Nat, (if b then 1 else 0) = n := ⟨_, rfl⟩
            have hbl : Plain.bitL b = Plain.putL bn := by unfold Plain.bitL; rw [← hbn]
            rw [hbn] at CB
            have hbn1 : bn < 9223372036854775808 := by rw [← hbn]; cases b <;> decide
            rw [hbl] at zb C8
            have g1 : ¬ (9223372036854775807 < s7.size + sr.size) := by omega
            have g2 : ¬ (9223372036854775807 < s8.size + (str (Plain.putL bn)).size) := by omega
            have hcl1 : C.length = m := by rw [HCN.out, HM.out]
            have hbx1 := hab
            clear hTA hrc hac hrow hgn hrn hs7 hs8 cN hl7 hl8 hlr c7 c8 hsr hRk hs7e hs8e hb hbn hbl c1 hcl1
            go_wp2_with fail
            refine CN.out.mono ?_
            rintro e w5 ⟨rfl, hb5⟩
            have HB5 := Lib.hid (HB4.out.trans (hb5.mono HB4.out.size))
            have c1 := (hb5.cell (p := ⟨ab, ao + k, none⟩) hab).trans HC1.out
            clear hb5 x0 x1 x2 c0
            obtain ⟨x0, x1, x2⟩ := HX.out w5 HB5.out
            go_wp2_with fail
            refine (CB.out _).mono ?_
            rintro e w6 ⟨rfl, hw6⟩
            subst hw6
            go_wp2_with fail
            refine (N1.out bn _ _ (by simp) hbn1).mono ?_
            rintro e w7 ⟨rfl, hb7⟩
            have HB7 := Lib.hid (HB5.out.trans (hb7.mono HB5.out.size))
            clear hb7 x0 x1 x2 c1
            go_wp2_with fail
            rw [C7.out, C8.out]
            go_roundw
            case rel => exact ⟨k + 1, by omega, by go_num, rfl, rfl, HB7.out⟩
            case measure => simp [RowKit.intOf]; omega
          · obtain rfl : m = k := by omega
            have hf1 : nextP (nums R) m = Plain.nextL (nums R) := by rw [← HM.out, ← HNR.out, nextP_all]
            have hf2 : accP C m = Plain.accL C := by rw [← HM.out, ← HCN.out, accP_all]
            rw [hf1, hf2]
            have cB := Lib.hid (fun (A : Option Addr) (W : World) hX => blob_any 2 84 4 PL (Plain.nextL (nums R)) (Plain.accL C) A 3 W (by omega) rfl (by omega) (by rw [← HPLE.out]; have := HPL.out; omega) (by have := HXL.out; omega) (by have := HAL.out; omega) hX (by have := HLEN.out.2; unfold Plain.tabL at this; rw [HPLE.out] at this; omega))
            have hpv : Plain.tabL P (nums R) C = Plain.blobL 84 4 PL (Plain.nextL (nums R)) (Plain.accL C) := by unfold Plain.tabL; rw [HPLE.out]
            rw [← hpv, HRES.out] at cB
            obtain ⟨XL, hXL⟩ : ∃ x, Plain.nextL (nums R) = x := ⟨_, rfl⟩
            obtain ⟨AL, hAL⟩ : ∃ x, Plain.accL C = x := ⟨_, rfl⟩
            rw [hXL, hAL] at cB ⊢
            clear hf1 hf2 hpv hXL hAL x0 x1 x2
            go_wp2_with fail
            refine (cB.out _ _ (fun _ => ⟨_, 0, rfl, by simp, fun i u hu => by rw [Nat.zero_add]; exact (CellsAt.new w4 #[.string (str PL), .string (str XL), .string (str AL)] 9).2 i u hu⟩)).mono ?_
            rintro e w6 ⟨rfl, hb⟩
            have HB6 := Lib.hid (HB4.out.trans ((below_then (below_alloc (Below.refl w4.heap.size w4) _) hb).mono HB4.out.size))
            clear hb
            go_wp2_with fail
            go_ret2
            exact ⟨rfl, below_then HB.out HB6.out⟩
end Go.Proofs.YtmiacgkidldjmaaGreatDoor
