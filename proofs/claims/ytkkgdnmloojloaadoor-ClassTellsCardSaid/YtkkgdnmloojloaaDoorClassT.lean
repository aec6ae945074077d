/- Chapter 4, the document's answer: ranges taken over, May, hex: what the code computes. Conditions: what each lemma says. -/
import Derived.Test.YtkkgdnmloojloaaDoorFormW
import Derived.Deep.RegionHeld3
import Derived.Deep.QuietTactic
import Derived.Deep.Cut
import Derived.Deep.DeepCutAuto
set_option linter.unusedVariables false
set_option linter.unusedSimpArgs false
namespace Go
section
variable {P : Program} (w : World)
/-- the append to a row of one's own, as a single operation -/
theorem oper_append_own2 {o : Oper} {a : Act} {K : Act → World → Prop} {Q : Exit → Act → World → Prop} (s x : Operand) (t : TypeId)
    (ho : o.op = .call { callee := .builtin .append, args := #[s, x], argTypes := #[t, t] })
    (base : Nat) (e : TypeId) (i : TypeInfo) (z : Value) (size bytes : Nat) (ht : P.underlying t = some (.slice e)) (hi : P.info? e = some i) (hz : i.zero = some z)
    (hsize : i.size = size) (hby : i.bytes = bytes) (hzs : z.cells.size = size) (hsz : 0 < size)
    (v : Value) (n : Nat) (xs : List Value) (hs : a.eval s = v) (hown : w.ownsRow base e size v n xs)
    (ad : Addr) (m c : Nat) (news : List Value) (hx : a.eval x = .slice (some ad) m c) (hl : news.length = m * size) (hnews : ∀ j u, news[j]? = some u → w.cell? (ad.add j) = some u) (h1 : ∀ u ∈ news, u.oneCell' = true)
    (h63 : n + m ≤ maxLen) (hbytes : (n + m) * bytes ≤ 140737488355328) (hbase : base ≤ w.heap.size)
    (h : ∀ v' w', w'.ownsRow base e size v' (n + m) (xs ++ news) → w.grownBy w' v.ownBlock → (v'.ownBlock = v.ownBlock ∨ v'.ownBlock = some w.heap.size) → K (a.put o.dst v') w') : Oper.wp P o a w K Q := by
  obtain ⟨v', w', hr, h2, h3, h4⟩ := run_append_own (P := P) w base t o.type e i z size bytes ht hi hz hsize hby hzs hsz v n xs hown ad m c news hl hnews h1 h63 hbytes hbase
  have h5 := append_block (P := P) w base t o.type e i z size bytes ht hi hz hsize hby v n xs hown ad m c news hl hnews h1 h63 hbytes v' w' hr
  unfold Oper.wp execOp
  simp only [ho, resolve, invoke, builtin, Sem.run_bind, Sem.run_pure, Result.andThen_ok, List.map_toArray, List.map_cons, List.map_nil, hs, hx, hr]
  exact h v' w' h2 h3 h5
end
end Go
namespace Go.Proofs.YtkkgdnmloojloaaDoor
open Go.RowKit Go.Lib
open Plain (Rg Rn May mayB In Norm cls cnot rightB runOf)
theorem info91 : (Tryd.prog.info? 91).map (fun i => (i.zero, i.size, i.bytes)) = some (some (.agg #[.int .i32 0, .int .i32 0]), 2, 8) := by kernel_rfl
theorem Cl.of_own91 {w : World} {base n c : Nat} {A : Option Addr} {C : List Rg} (h : w.ownsRow base 91 2 (.slice A n c) n (rgs C)) (hl : C.length = n) : Cl w A n c C :=
  ⟨Rs.of_own h hl, hl, fun hA => by
    subst hA
    rcases h.2 with ⟨hv, _⟩ | ⟨g, cap, cur, hv, _⟩
    · injection hv
    · cases hv⟩
def RowRel (w : World) (n : Nat) (R : List Rg) (v i : Value) (wr : World) : Prop :=
  ∃ k : Nat, k ≤ n ∧ i = .int .i64 k ∧ wr.ownsRow w.heap.size 91 2 v k (rgs (R.take k)) ∧ Below w.heap.size w wr
set_option maxRecDepth 100000 in
set_option maxHeartbeats 4000000 in
/-- refClass -/
theorem rclass_any {R : List Rg} {A : Option Addr} {n c : Nat} {w : World} (h : Cl w A n c R) (hn : n ≤ 10000) : Calls Tryd.prog 32 #[.slice A n c] w (ClPost R w) := by
  obtain ⟨i91, hi91, y0, y1, y2⟩ := info_parts info91
  have HX := Lib.hid h.1
  have HR := Lib.hid h.2.1
  clear h
  go_enter Tryd.func32, Tryd.ntmps32
  go_wp2_with fail
  go_loopw [3, 4] (fun v i wr => RowRel w n R v i wr) (fun _ i _ => n - (RowKit.intOf i).toNat)
  case atStart => exact ⟨0, Nat.zero_le _, rfl, World.ownsRow_nil _ _ _ _, Below.refl _ _⟩
  case round =>
    obtain ⟨k, hk, rfl, hO, hB⟩ := hrel
    obtain ⟨ua, uc, rfl⟩ := own_slice hO
    have HO := Lib.hid hO
    have HB := Lib.hid hB
    clear hO hB
    by_cases hlt : k < n
    · have hkl : k < R.length := by rw [HR.out]; exact hlt
      obtain ⟨ba, off, rfl, hba0, d0, d1⟩ := HX.out.get k hkl
      obtain ⟨x, hx⟩ : ∃ x, R[k] = x := ⟨_, rfl⟩
      have hnext : rgs (R.take (k + 1)) = rgs (R.take k) ++ [.int .i32 x.1, .int .i32 x.2] := by
        rw [List.take_succ_eq_append_getElem hkl, hx, rgs_append]; rfl
      rw [hx] at d0 d1
      obtain ⟨lo, hi⟩ := x
      dsimp only at d0 d1 hnext
      have HNX := Lib.hid hnext
      have c0 := (HB.out.cell (p := ⟨ba, off + k * 2, none⟩) hba0).trans d0
      have c1 := (HB.out.cell (p := ⟨ba, off + k * 2 + 1, none⟩) hba0).trans d1
      have hba := Nat.lt_of_lt_of_le hba0 HB.out.size
      have HD0 := Lib.hid d0
      have HD1 := Lib.hid d1
      have HBA0 := Lib.hid hba0
      clear hnext hx d0 d1 hba0
      go_upto_region 5 with fail
      go_region_held3 (fun w' => w'.cell? ⟨ba, off + k * 2, none⟩ = some (.int .i32 lo) ∧ w'.cell? ⟨ba, off + k * 2 + 1, none⟩ = some (.int .i32 hi)) (first | go_keep | exact ⟨(hBn.cell (p := ⟨ba, off + k * 2, none⟩) HBA0.out).trans HD0.out, (hBn.cell (p := ⟨ba, off + k * 2 + 1, none⟩) HBA0.out).trans HD1.out⟩)
        ((rw [if_pos (by rfl)]; refine oper_append_own2 _ (.tmp 11) (.tmp 23) _ rfl w.heap.size 91 i91 _ 2 8 Tryd.underlying61 hi91 y0 y1 y2 rfl (by decide) (.slice ua k uc) k (rgs (R.take k)) rfl (own_below HO.out ((Below.refl _ _).drew.alloc (by simp) _)) ⟨wr.heap.size, 0, none⟩ 1 1 [.int .i32 lo, .int .i32 hi] rfl rfl (CellsAt_add (CellsAt.new wr.drew _ _)) (by intro u hu; simp only [List.mem_cons, List.not_mem_nil, or_false] at hu; rcases hu with rfl | rfl <;> rfl) (by simp only [maxLen]; omega) (by omega) (by have := HB.out.size; simp; omega) ?_; intro v3 w7 hown2 hg2 hvb; have hBn : Below w.heap.size w w7 := ((HB.out.drew).alloc HB.out.size _).grown hg2 (by have := HB.out.size; simp; omega) (fun g hg => (HO.out.lt g hg).1)))
      have HBn := Lib.hid hBn
      have HO7 := Lib.hid hown2
      clear hBn hg2 hown2 hvb c0 c1
      go_wp2
      go_roundw
      case rel =>
        refine ⟨k + 1, by omega, by go_num, ?_, HBn.out⟩
        rw [HNX.out]
        exact HO7.out
      case measure => simp [RowKit.intOf]; omega
    · obtain rfl : k = n := by omega
      have hT : R.take k = R := List.take_of_length_le (by rw [HR.out]; exact Nat.le_refl _)
      have HT := Lib.hid hT
      clear hT
      go_wp2
      go_ret
      refine ⟨ua, k, uc, rfl, ?_, HB.out⟩
      have h := HO.out
      rw [HT.out] at h
      exact Cl.of_own91 h HR.out
end Go.Proofs.YtkkgdnmloojloaaDoor
namespace Go.Proofs.YtkkgdnmloojloaaDoor
open Go.RowKit Go.Lib
open Plain (Rg Rn May mayB In Norm cls cnot rightB runOf)
theorem rmay_any (lo hi : Int) (w : World) : Calls Tryd.prog 60 #[.agg #[.int .i32 lo, .int .i32 hi]] w fun e w' => e = .returned (.bool (mayB (lo, hi))) ∧ Below w.heap.size w w' := by
  unfold mayB
  dsimp only
  by_cases h1 : 0 ≤ lo
  · by_cases h2 : hi ≤ 1114111
    · by_cases h3 : lo ≤ hi
      · have d1 : decide (0 ≤ lo) = true := by simp [h1]
        have d2 : decide (hi ≤ 1114111) = true := by simp [h2]
        have d3 : decide (lo ≤ hi) = true := by simp [h3]
        go_enter Tryd.func60, Tryd.ntmps60
        go_wp2
        go_ret
        exact ⟨ret_bool (by simp [*]), (Below.refl _ _).alloc (Nat.le_refl _) _⟩
      · have d1 : decide (0 ≤ lo) = true := by simp [h1]
        have d2 : decide (hi ≤ 1114111) = true := by simp [h2]
        have d3 : decide (lo ≤ hi) = false := by simp; omega
        go_enter Tryd.func60, Tryd.ntmps60
        go_wp2
        go_ret
        exact ⟨ret_bool (by simp [*]), (Below.refl _ _).alloc (Nat.le_refl _) _⟩
    · have d1 : decide (0 ≤ lo) = true := by simp [h1]
      have d2 : decide (hi ≤ 1114111) = false := by simp; omega
      go_enter Tryd.func60, Tryd.ntmps60
      go_wp2
      go_ret
      exact ⟨ret_bool (by simp [*]), (Below.refl _ _).alloc (Nat.le_refl _) _⟩
  · have d1 : decide (0 ≤ lo) = false := by simp; omega
    go_enter Tryd.func60, Tryd.ntmps60
    go_wp2
    go_ret
    exact ⟨ret_bool (by simp [*]), (Below.refl _ _).alloc (Nat.le_refl _) _⟩
/-- the document's hex -/
theorem dgq (r : Nat) (h : r < 16) : (ByteArray.mk #[48, 49, 50, 51, 52, 53, 54, 55, 56, 57, 97, 98, 99, 100, 101, 102]).extract r (r + 1) = str [Plain.dg r] := by
  have : ∀ r : Fin 16, ((ByteArray.mk #[48, 49, 50, 51, 52, 53, 54, 55, 56, 57, 97, 98, 99, 100, 101, 102]).extract r.1 (r.1 + 1)).data.toList = [Plain.dg r.1] := by decide
  exact str_ext (this ⟨r, h⟩)
end Go.Proofs.YtkkgdnmloojloaaDoor
namespace Go.Proofs.YtkkgdnmloojloaaDoor
open Go.RowKit Go.Lib
open Plain (hexN hexZ dg)
def DgRel (w : World) (n : Nat) (u s : Value) (wr : World) : Prop :=
  ∃ (q : Nat) (t : List UInt8), u = .int .i64 q ∧ s = .string (str t) ∧ wr = w ∧ q ≤ n ∧ t.length ≤ 16 ∧ ((q = 0 ∧ t ≠ [] ∧ t = hexN n) ∨ ((t = [] ∨ 0 < q) ∧ hexN q ++ t = hexN n))
def dgMeas (u s : Value) : Nat := 2 * (RowKit.intOf u).toNat + (match s with | .string b => if b.size = 0 then 1 else 0 | _ => 0)
set_option maxRecDepth 100000 in
set_option maxHeartbeats 2000000 in
theorem digits_any (n : Nat) (hn : n < 4294967296) (w : World) : Calls Tryd.prog 86 #[.int .i64 n] w fun e w' => e = .returned (.string (str (hexN n))) ∧ w' = w := by
  have hlen : (hexN n).length ≤ 16 := Plain.hexF_len 16 n
  go_enter Tryd.func86, Tryd.ntmps86
  go_wp2_with fail
  go_loopw [0, 3] (fun u s wr => DgRel w n u s wr) (fun u s _ => dgMeas u s)
  case atStart => exact ⟨n, [], rfl, rfl, rfl, Nat.le_refl _, by simp, .inr ⟨.inl rfl, by simp⟩⟩
  case round =>
    obtain ⟨q, t, rfl, rfl, rfl, hqn, htl, hx⟩ := hrel
    have step : (t = [] ∨ 0 < q) → hexN q ++ t = hexN n → DgRel wr n (.int .i64 ((q / 16 : Nat) : Int)) (.string (str (dg (q % 16) :: t))) wr := by
      intro h1 h2
      have hl : (hexN q ++ t).length ≤ 16 := by rw [h2]; exact hlen
      have hq1 : 1 ≤ (hexN q).length := by
        have := Plain.hexF_ne 15 q
        cases h : hexN q with
        | nil => exact absurd h this
        | cons a b => simp
      rw [List.length_append] at hl
      refine ⟨q / 16, _, rfl, rfl, rfl, by omega, by rw [List.length_cons]; omega, ?_⟩
      by_cases h16 : q < 16
      · refine .inl ⟨by omega, by simp, ?_⟩
        rw [← h2, Plain.hexN_lt h16, Nat.mod_eq_of_lt h16]; rfl
      · refine .inr ⟨.inr (by omega), ?_⟩
        have hge := Plain.hexN_ge (u := q) (by omega) (by omega)
        rw [← h2, hge, List.append_assoc]; rfl
    have HSTEP := Lib.hid step
    clear step
    obtain ⟨r, hr⟩ : ∃ r, q % 16 = r := ⟨_, rfl⟩
    have hr16 : r < 16 := by omega
    have e1 : (q : Int) % 16 = (r : Int) := by omega
    have e2 : Int.tmod (q : Int) 16 = (r : Int) := by rw [Int.tmod_eq_emod_of_nonneg (by omega)]; exact e1
    have e3 : IntKind.i64.wrap ((r : Int) + 1) = (r : Int) + 1 := by rw [IntKind.wrap_i64]; omega
    have e4x : Int.tdiv (q : Int) 16 = ((q / 16 : Nat) : Int) := by rw [Int.tdiv_eq_ediv_of_nonneg (by omega)]; omega
    have e5x : (q : Int) / 16 = ((q / 16 : Nat) : Int) := by omega
    clear e4x e5x
    have hsz : (str t).size ≤ 16 := by rw [str_size]; exact htl
    rcases Nat.eq_zero_or_pos q with h0 | h0
    · subst h0
      have d1 : decide ((((0 : Nat)) : Int) > 0) = false := by decide
      cases t with
      | nil =>
        have hst := HSTEP.out (.inl rfl) (by rcases hx with ⟨_, h, _⟩ | ⟨_, h⟩; exact absurd rfl h; exact h)
        rw [hr] at hst
        have HST := Lib.hid hst
        have hz0 : (str []).size = 0 := rfl
        have hd := dgq r hr16
        change DgRel wr n _ (.string (str ([dg r] ++ []))) wr at hst
        rw [← str_app, ← hd] at hst
        have HST2 := Lib.hid hst
        have hr0 : r = 0 := by omega
        clear hst HSTEP HST hd
        subst hr0
        have ts : ∀ l : List UInt8, (str l).toList = l := fun l => by rw [ByteArray.toList_eq]; rfl
        have k1 : ((str []).toList == ([] : List UInt8)) = true := by rw [ts]; rfl
        have k2 : ((str []).toList == (⟨#[]⟩ : ByteArray).toList) = true := by rw [ts, ByteArray.toList_eq]; rfl
        clear ts
        go_wp2_with fail
        go_roundw
        case rel => exact HST2.out
        case measure =>
          show dgMeas _ _ < 1
          decide
      | cons b t =>
        have hf : b :: t = hexN n := by
          rcases hx with ⟨_, _, h⟩ | ⟨h | h, _⟩
          · exact h
          · cases h
          · omega
        have ts : ∀ l : List UInt8, (str l).toList = l := fun l => by rw [ByteArray.toList_eq]; rfl
        have k1 : ((str (b :: t)).toList == ([] : List UInt8)) = false := by rw [ts]; rfl
        have k2 : ((str (b :: t)).toList == (⟨#[]⟩ : ByteArray).toList) = false := by rw [ts, ByteArray.toList_eq]; rfl
        have HF := Lib.hid hf
        clear ts hf
        go_wp2_with fail
        go_ret
        exact ⟨by rw [HF.out]; rfl, rfl⟩
    · have d1 : decide ((q : Int) > 0) = true := by simp; omega
      have d2 : decide (0 < q) = true := by simp; omega
      have hst := HSTEP.out (.inr h0) (by rcases hx with ⟨h, _⟩ | ⟨_, h⟩; omega; exact h)
      rw [hr] at hst
      have hd := dgq r hr16
      have hq16 : (q : Int) / 16 = ((q / 16 : Nat) : Int) := by omega
      change DgRel wr n _ (.string (str ([dg r] ++ t))) wr at hst
      rw [← str_app, ← hd, ← hq16] at hst
      have hsz2 : ¬ (((⟨#[48, 49, 50, 51, 52, 53, 54, 55, 56, 57, 97, 98, 99, 100, 101, 102]⟩ : ByteArray).extract r (r + 1)) ++ str t).size = 0 := by rw [hd, str_app, str_size]; simp
      have HST2 := Lib.hid hst
      have HZ2 := Lib.hid hsz2
      clear hst HSTEP hd hsz2 hq16
      go_wp2_with fail
      go_roundw
      case rel => exact HST2.out
      case measure =>
        unfold dgMeas
        simp only [RowKit.intOf]
        rw [if_neg HZ2.out]
        omega
end Go.Proofs.YtkkgdnmloojloaaDoor
namespace Go.Proofs.YtkkgdnmloojloaaDoor
open Go.RowKit Go.Lib
open Plain (Rg hexN hexZ dg putR cputL)
theorem rhex_any (n : Int) (h0 : -4294967296 < n) (h1 : n < 4294967296) (w : World) : Calls Tryd.prog 68 #[.int .i32 n] w fun e w' => e = .returned (.string (str (hexZ n))) ∧ w' = w := by
  have hw : IntKind.i64.wrap n = n := by rw [IntKind.wrap_i64]; omega
  unfold Plain.hexZ
  by_cases hn : n < 0
  · have d1 : decide (n < 0) = true := by simp [hn]
    obtain ⟨m, rfl⟩ : ∃ m : Nat, n = -(m : Int) := ⟨n.natAbs, by omega⟩
    have hw2 : IntKind.i64.wrap (-(-(m : Int))) = (m : Int) := by rw [IntKind.wrap_i64]; omega
    have hw3 : -(-(m : Int)) = (m : Int) := by omega
    have hw4 : IntKind.i64.wrap (m : Int) = (m : Int) := by rw [IntKind.wrap_i64]; omega
    have d2 : decide (0 < m) = true := by simp; omega
    have cD := Lib.hid (fun w => digits_any m (by omega) w)
    rw [if_pos hn, Int.natAbs_neg, Int.natAbs_natCast]
    have hsz : ¬ (9223372036854775807 < 1 + (str (hexN m)).size) := by rw [str_size]; have := Plain.hexF_len 16 m; unfold hexN; omega
    have hq : (⟨#[45]⟩ : ByteArray) ++ str (hexN m) = str (45 :: hexN m) := by rw [show (⟨#[45]⟩ : ByteArray) = str [45] from rfl, str_app]; rfl
    go_enter Tryd.func68, Tryd.ntmps68
    go_wp2_with fail
    refine (cD.out _).mono ?_
    rintro e w1 ⟨rfl, rfl⟩
    go_wp2_with fail
    go_ret
    exact ⟨rfl, rfl⟩
  · have d1 : decide (n < 0) = false := by simp; omega
    obtain ⟨m, rfl⟩ : ∃ m : Nat, n = (m : Int) := ⟨n.natAbs, by omega⟩
    have cD := Lib.hid (fun w => digits_any m (by omega) w)
    rw [if_neg hn, Int.natAbs_natCast]
    go_enter Tryd.func68, Tryd.ntmps68
    go_wp2_with fail
    refine (cD.out _).mono ?_
    rintro e w1 ⟨rfl, rfl⟩
    go_wp2_with fail
    go_ret
    exact ⟨rfl, rfl⟩
end Go.Proofs.YtkkgdnmloojloaaDoor
