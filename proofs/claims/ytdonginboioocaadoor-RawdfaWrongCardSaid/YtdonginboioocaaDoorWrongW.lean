/- The walk of RawdfaWrong. Conditions: what the lemma says. -/
import Derived.Deep.CutBlock
import Derived.Deep.DeepCutAuto
import Derived.Test.YtdonginboioocaaDoorReadsW
set_option linter.unusedVariables false
set_option linter.unusedSimpArgs false
namespace Go.Proofs.YtdonginboioocaaDoor.Plain
theorem getD_set (l : List Int) (j : Nat) (v : Int) (h : j < l.length) : (l.set j v).getD j 0 = v := by
  rw [List.getD, List.getElem?_set_self h]; rfl
theorem wrong0 (F K A : List Int) (hF : ∀ k, k < F.length → 0 ≤ F.getD k 0) (hK : ∀ k, k < K.length → 0 ≤ K.getD k 0) (hr : flatRight F K A = true) (j : Nat) (m : Int) (hj : j < K.length) (hm : 0 ≤ m) : flatRight F (K.set j (K.length + m)) A = false := by
  cases hf : flatRight F (K.set j (K.length + m)) A with
  | false => rfl
  | true =>
    have h := flat_right _ _ _ hF (fun k hk => by
      rw [List.length_set] at hk
      rcases Nat.decEq j k with h | h
      · rw [List.getD, List.getElem?_set_ne h]; exact hK k hk
      · subst h; rw [getD_set _ _ _ hj]; omega) hf
    obtain ⟨q, h1, h2⟩ := h.cell j (by rw [List.length_set]; exact hj)
    rw [getD_set _ _ _ hj] at h1
    have hl := h.len
    rw [List.length_set] at hl
    have h3 : F.length * q < F.length * A.length := Nat.mul_lt_mul_of_pos_left h2 h.p0
    rw [← hl] at h3
    omega
theorem wrong1 (F K A : List Int) (hF : ∀ k, k < F.length → 0 ≤ F.getD k 0) (hK : ∀ k, k < K.length → 0 ≤ K.getD k 0) (j : Nat) (m : Int) (hj : j < A.length) (hm : 0 ≤ m) : flatRight F K (A.set j (2 + m)) = false := by
  cases hf : flatRight F K (A.set j (2 + m)) with
  | false => rfl
  | true =>
    have h := (flat_right _ _ _ hF hK hf).acc j (by rw [List.length_set]; exact hj)
    rw [getD_set _ _ _ hj] at h
    omega
theorem wrong2 (F K A : List Int) (hF : ∀ k, k < F.length → 0 ≤ F.getD k 0) (hK : ∀ k, k < K.length → 0 ≤ K.getD k 0) (m : Int) (h0 : 0 < F.length) (hm : 0 ≤ m) : flatRight (F.set 0 (1 + m)) K A = false := by
  cases hf : flatRight (F.set 0 (1 + m)) K A with
  | false => rfl
  | true =>
    have h := (flat_right _ _ _ (fun k hk => by
      rw [List.length_set] at hk
      rcases Nat.decEq 0 k with h | h
      · rw [List.getD, List.getElem?_set_ne h]; exact hF k hk
      · subst h; rw [getD_set _ _ _ h0]; omega) hK hf).first
    rw [getD_set _ _ _ h0] at h
    omega
theorem wrong3 (F K A : List Int) (hF : ∀ k, k < F.length → 0 ≤ F.getD k 0) (hK : ∀ k, k < K.length → 0 ≤ K.getD k 0) (hr : flatRight F K A = true) : flatRight F K (A.drop 1) = false := by
  cases hf : flatRight F K (A.drop 1) with
  | false => rfl
  | true =>
    have h := flat_right _ _ _ hF hK hr
    have h' := flat_right _ _ _ hF hK hf
    have l1 := h.len
    have l2 := h'.len
    rw [List.length_drop] at l2
    have := h.a0
    have := h.p0
    have h3 : F.length * (A.length - 1) < F.length * A.length := Nat.mul_lt_mul_of_pos_left (by omega) h.p0
    omega
end Go.Proofs.YtdonginboioocaaDoor.Plain
namespace Go.Proofs.YtdonginboioocaaDoor
open Go.RowKit Go.Lib
theorem u32s_set (L : List Int) (j : Nat) (x : Int) : u32s (L.set j x) = (u32s L).set j (.int .u32 x) := by simp [u32s, List.map_set]
theorem own_put {w : World} {base n c g : Nat} {e : TypeId} {L : List Int} (h : w.ownsRow base e 1 (.slice (some ⟨g, 0, none⟩) n c) n (u32s L)) (j : Nat) (x : Int) : (w.setCell ⟨g, j, none⟩ (.int .u32 x)).ownsRow base e 1 (.slice (some ⟨g, 0, none⟩) n c) n (u32s (L.set j x)) := by
  have hs := h.stored j (.int .u32 x)
  rw [u32s_set]
  simpa using hs.1
theorem OwnFlat.put0 {base : Nat} {w : World} {KA AA : Option Addr} {F K A : List Int} {g fc kc ac : Nat} (h : OwnFlat base w (some ⟨g, 0, none⟩) F fc KA K kc AA A ac) (j : Nat) (x : Int) : OwnFlat base (w.setCell ⟨g, j, none⟩ (.int .u32 x)) (some ⟨g, 0, none⟩) (F.set j x) fc KA K kc AA A ac := by
  have hl : (F.set j x).length = F.length := List.length_set
  refine ⟨by rw [hl]; exact own_put h.o0 j x, ownsRow_setCell_other h.o1 (fun e => h.a01 g rfl e) _, ownsRow_setCell_other h.o2 (fun e => h.a02 g rfl e) _, by rw [hl]; exact h.a01, by rw [hl]; exact h.a02, h.a12⟩
theorem OwnFlat.put1 {base : Nat} {w : World} {FA AA : Option Addr} {F K A : List Int} {g fc kc ac : Nat} (h : OwnFlat base w FA F fc (some ⟨g, 0, none⟩) K kc AA A ac) (j : Nat) (x : Int) : OwnFlat base (w.setCell ⟨g, j, none⟩ (.int .u32 x)) FA F fc (some ⟨g, 0, none⟩) (K.set j x) kc AA A ac := by
  have hl : (K.set j x).length = K.length := List.length_set
  refine ⟨ownsRow_setCell_other h.o0 (fun e => h.a01 g e rfl) _, by rw [hl]; exact own_put h.o1 j x, ownsRow_setCell_other h.o2 (fun e => h.a12 g rfl e) _, by rw [hl]; exact h.a01, h.a02, by rw [hl]; exact h.a12⟩
theorem OwnFlat.put2 {base : Nat} {w : World} {FA KA : Option Addr} {F K A : List Int} {g fc kc ac : Nat} (h : OwnFlat base w FA F fc KA K kc (some ⟨g, 0, none⟩) A ac) (j : Nat) (x : Int) : OwnFlat base (w.setCell ⟨g, j, none⟩ (.int .u32 x)) FA F fc KA K kc (some ⟨g, 0, none⟩) (A.set j x) ac := by
  have hl : (A.set j x).length = A.length := List.length_set
  refine ⟨ownsRow_setCell_other h.o0 (fun e => h.a02 g e rfl) _, ownsRow_setCell_other h.o1 (fun e => h.a12 g e rfl) _, by rw [hl]; exact own_put h.o2 j x, h.a01, by rw [hl]; exact h.a02, by rw [hl]; exact h.a12⟩
theorem OwnFlat.drew {base : Nat} {w : World} {FA KA AA : Option Addr} {F K A : List Int} {fc kc ac : Nat} (h : OwnFlat base w FA F fc KA K kc AA A ac) : OwnFlat base w.drew FA F fc KA K kc AA A ac := ⟨h.o0, h.o1, h.o2, h.a01, h.a02, h.a12⟩
theorem Sl.drop1 {w : World} {g : Nat} {L : List Int} (h : Sl w (some ⟨g, 0, none⟩) (u32s L)) (o : Nat) (ho : o = 1 ∨ L.length = 1) : Sl w (some ⟨g, o, none⟩) (u32s (L.drop 1)) := fun hn => by
  have hd : (u32s (L.drop 1)).length = L.length - 1 := by simp [u32s]
  obtain ⟨b, off, e, hb, hc⟩ := h (by simp [u32s]; omega)
  injection e with e
  injection e with e1 e2 e3
  subst e1 e2
  rcases ho with rfl | ho
  · refine ⟨g, 1, rfl, hb, fun i u hu => ?_⟩
    have := hc (1 + i) u (by rw [← hu]; unfold u32s; rw [List.map_drop, List.getElem?_drop])
    rwa [Nat.zero_add] at this
  · omega
theorem set_bd (L : List Int) (j : Nat) (x : Int) (h : ∀ k, k < L.length → 0 ≤ L.getD k 0 ∧ L.getD k 0 < 4294967296) (hx : 0 ≤ x ∧ x < 4294967296) : ∀ k, k < (L.set j x).length → 0 ≤ (L.set j x).getD k 0 ∧ (L.set j x).getD k 0 < 4294967296 := fun k hk => by
  rw [List.length_set] at hk
  rcases Nat.decEq j k with h' | h'
  · rw [List.getD, List.getElem?_set_ne h']; exact h k hk
  · subst h'; rw [Plain.getD_set _ _ _ hk]; exact hx
/-- a place in cells that were made -/
theorem own_place {w : World} {base n c j : Nat} {e : TypeId} {A : Option Addr} {L : List Int} (h : w.ownsRow base e 1 (.slice A n c) n (u32s L)) (hj : j < n) : ∃ g, A = some ⟨g, 0, none⟩ ∧ base ≤ g ∧ g < w.heap.size ∧ w.frozen? ⟨g, j, none⟩ = false ∧ ∃ u, w.cell? ⟨g, j, none⟩ = some u := by
  obtain ⟨g, cap, hv, hc, hb, hat⟩ := own_at h (by omega)
  injection hv with h1 h2 h3
  subst h1 h3
  have hlen : (u32s L).length = n := by have := h.1; omega
  exact ⟨g, rfl, hb, hat.1, h.frozenAt j, _, hat.2 j _ (List.getElem?_eq_getElem (by omega))⟩
/-- cells that are wrong: nothing is found, there is no state -/
def WrongAt (w : World) (v : Array Value) : Prop := ∃ FA F fc KA K kc AA A ac, v = #[.slice FA F.length fc, .slice KA K.length kc, .slice AA A.length ac] ∧ FlatAt w FA F KA K AA A ∧ FlatNums F K A kc ∧ Plain.flatRight F K A = false
theorem WrongAt.find {w : World} {v : Array Value} (h : WrongAt w v) (s : ByteArray) (hs : s.size ≤ 4398046511104) (hT : Tabs w) (w' : World) (hb : Below w.heap.size w w') : Calls Tryd.prog 11 #[.agg v, .string s] w' fun e w'' => e = .returned (.tuple #[.int .i64 0, .bool false]) ∧ Below w'.heap.size w' w'' := by
  obtain ⟨FA, F, fc, KA, K, kc, AA, A, ac, rfl, hF, hN, hr⟩ := h
  have h := find_any FA F fc KA K kc AA A ac s w' (hF.below hb) hN hs (hT.below hb)
  rw [hr] at h
  exact h
theorem WrongAt.state {w : World} {v : Array Value} (h : WrongAt w v) (s : ByteArray) (hs : s.size ≤ 4398046511104) (hT : Tabs w) (w' : World) (hb : Below w.heap.size w w') : Calls Tryd.prog 12 #[.agg v, .string s] w' fun e w'' => e = .returned (.int .i64 (-1)) ∧ Below w'.heap.size w' w'' := by
  obtain ⟨FA, F, fc, KA, K, kc, AA, A, ac, rfl, hF, hN, hr⟩ := h
  have h := state_any FA F fc KA K kc AA A ac s w' (hF.below hb) hN hs (hT.below hb)
  rw [hr] at h
  exact h
end Go.Proofs.YtdonginboioocaaDoor
namespace Go.Proofs.YtdonginboioocaaDoor
open Go.RowKit Go.Lib
set_option maxRecDepth 1000000 in
set_option maxHeartbeats 8000000 in
theorem wrong_walk (TP : Option Addr) (tp tpc : Nat) (TN : Option Addr) (tn tnc : Nat) (TA : Option Addr) (ta tac : Nat) (own : Bool) (PA : Option Addr) (PL : List Int) (pc : Nat) (NA : Option Addr) (NL : List Int) (nc : Nat) (AA : Option Addr) (AL : List Bool) (ac : Nat)
    (how at_ more : Int) (XA : Option Addr) (X : List Int) (xc : Nat) (w : World) (hG : GridAt w PA PL NA NL AA AL) (hX : Sl w XA (u8s X)) (hxl : X.length ≤ maxLen)
    (hx8 : ∀ k, k < X.length → 0 ≤ X.getD k 0 ∧ X.getD k 0 < 256) (h8 : 0 ≤ how ∧ how < 256) (a8 : 0 ≤ at_ ∧ at_ < 256) (m8 : 0 ≤ more ∧ more < 65536) (hT : Tabs w) :
    Calls Tryd.prog 5 #[.agg #[.slice TP tp tpc, .slice TN tn tnc, .slice TA ta tac, .bool own, .slice PA PL.length pc, .slice NA NL.length nc, .slice AA AL.length ac], .int .u8 how, .int .u8 at_, .int .u16 more, .slice XA X.length xc] w fun e w' => e = .returned (.bool true) ∧ Below w.heap.size w w' := by
  have cG := fun (W : World) (hb : Below w.heap.size w W) => grid_own TP tp tpc TN tn tnc TA ta tac PA PL pc NA NL nc AA AL ac W (hG.below hb)
  have cX := fun (W : World) (hb : Below w.heap.size w W) => text_any XA X xc 8 W (hX.below hb) hxl hx8 (by decide)
  have la1 := txt_le (fun i => X.getD i 0) (min X.length 8)
  have hsA : (txt (fun i => X.getD i 0) (min X.length 8)).size ≤ 16 := by omega
  obtain ⟨sa, hsa⟩ : ∃ s, txt (fun i => X.getD i 0) (min X.length 8) = s := ⟨_, rfl⟩
  rw [hsa] at hsA cX
  clear la1 hsa
  have HT := Lib.hid hT
  have HG := Lib.hid cG
  have HX := Lib.hid cX
  have lp := hG.hp
  have ln := hG.hn
  have la := hG.ha
  unfold maxLen at lp ln la
  obtain ⟨h80, h81⟩ := h8
  obtain ⟨a80, a81⟩ := a8
  obtain ⟨m80, m81⟩ := m8
  clear hG hX hT cG cX hx8 hxl
  go_enter Tryd.func5, Tryd.ntmps5
  go_wp2_with fail
  have hb0 : Below w.heap.size w (w.alloc (.cells #[.slice TP tp tpc, .slice TN tn tnc, .slice TA ta tac, .bool own, .slice PA PL.length pc, .slice NA NL.length nc, .slice AA AL.length ac] 30)) := (Below.refl _ _).alloc (Nat.le_refl _) _
  refine (examples_any _ (HT.out.below hb0)).mono ?_
  rintro e w1 ⟨rfl, hb1⟩
  have hbk : w1.heap[w.heap.size]? = some (.cells #[.slice TP tp tpc, .slice TN tn tnc, .slice TA ta tac, .bool own, .slice PA PL.length pc, .slice NA NL.length nc, .slice AA AL.length ac] 30 (0, 0)) := by rw [hb1.block _ (by simp)]; exact heap_alloc_new _ _
  have hC1 : CellsAt w1 w.heap.size [.slice TP tp tpc, .slice TN tn tnc, .slice TA ta tac, .bool own, .slice PA PL.length pc, .slice NA NL.length nc, .slice AA AL.length ac] := (CellsAt.new w _ _).below hb1
  have k0 := hC1.at_ 0 _ rfl
  have k1 := hC1.at_ 1 _ rfl
  have k2 := hC1.at_ 2 _ rfl
  have k3 := hC1.at_ 3 _ rfl
  have k4 := hC1.at_ 4 _ rfl
  have k5 := hC1.at_ 5 _ rfl
  have k6 := hC1.at_ 6 _ rfl
  have f3 := blk_frozen hbk 3
  have hB1 := (hb0.trans (hb1.mono (by simp))).setCell (p := ⟨w.heap.size, 3, none⟩) (Nat.le_refl _) (.bool true)
  have HB1 := Lib.hid hB1
  clear hb0 hb1 hbk hC1 hB1
  go_wp2_with fail
  refine (HG.out _ HB1.out).mono ?_
  rintro e w2 ⟨a0, n0, a1, R, n1, a2, n2, rfl, hR, hO, hb2⟩
  have hq : Plain.tabRight (Plain.partsG (fun i => PL.getD i 0) (min PL.length 4)) (nums R) (Plain.accG (fun i => AL.getD i false) AL.length (1 + min AL.length 5)).length = true := by
    rw [hR]; exact Plain.grid_right _ _ _ _ _ _ _ (by omega) (by omega) (by omega)
  have hB2 := HB1.out.trans (hb2.mono HB1.out.size)
  generalize Plain.partsG (fun i => PL.getD i 0) (min PL.length 4) = P at hO hq ⊢
  generalize Plain.accG (fun i => AL.getD i false) AL.length (1 + min AL.length 5) = C at hO hq ⊢
  clear hR
  obtain ⟨hpr, hnl, hm0, hm64, hrows⟩ := Plain.tab_right _ _ _ hq
  obtain ⟨⟨hp0, hp64, _⟩, hpb⟩ := Plain.parts_bound P hpr
  have hRl : R.length ≤ 64 := by have : (nums R).length = R.length := by simp [nums]
                                 omega
  have hTab : TabAt w2 a0 P a1 R a2 C := hO.tab (by unfold maxLen; omega) (by unfold maxLen; omega) (by unfold maxLen; omega) fun r hr => by
    have := (hrows r.2.2 (by unfold nums; exact List.mem_map.2 ⟨r, hr, rfl⟩)).1
    unfold maxLen; omega
  have cL : ∀ W', Below w2.heap.size w2 W' → Calls Tryd.prog 10 #[.agg #[.slice a0 P.length n0, .slice a1 R.length n1, .slice a2 C.length n2]] W' (LaidRes P (nums R) C W') := fun W' hb => laid_any a0 P n0 a1 R n1 a2 C n2 W' (hTab.below hb) hq
  have hflat := Plain.flat_of_table P (nums R) C hq
  have HL := Lib.hid cL
  have HF := Lib.hid hflat
  have HB2 := Lib.hid hB2
  have hb0 : Below w2.heap.size w2 (w2.alloc (.cells #[.slice a0 P.length n0, .slice a1 R.length n1, .slice a2 C.length n2] 27)) := (Below.refl _ _).alloc (Nat.le_refl _) _
  have hC2 : CellsAt (w2.alloc (.cells #[.slice a0 P.length n0, .slice a1 R.length n1, .slice a2 C.length n2] 27)) w2.heap.size [.slice a0 P.length n0, .slice a1 R.length n1, .slice a2 C.length n2] := CellsAt.new w2 _ _
  have HQ2 := Lib.hid hb0
  have HC2 := Lib.hid hC2
  have HLEN := Lib.hid (And.intro hp64 (And.intro hm64 hnl))
  have HTB := Lib.hid hTab
  clear hb0 hC2 k0 k1 k2 k3 k4 k5 k6 f3 hO hq hB2 hTab cL hflat hb2 hpr hnl hm0 hm64 hrows hp0 hp64 hpb hRl
  unfold tabV
  have k0 := HC2.out.at_ 0 _ rfl
  have k1 := HC2.out.at_ 1 _ rfl
  have k2 := HC2.out.at_ 2 _ rfl
  go_wp2_with fail
  refine (HL.out _ HQ2.out).mono ?_
  rintro e w5 ⟨FA, fc, KA, kc, A3, ac3, rfl, hO, hN, hb⟩
  have HQ5 := Lib.hid (HQ2.out.trans (hb.mono HQ2.out.size))
  have hflat := HF.out
  have hRt := Plain.flat_right P _ _ (fun k hk => (hN.bF k hk).1) (fun k hk => (hN.bK k hk).1) hflat
  generalize Plain.cellsOf (nums R) = K at hO hN hflat hRt ⊢
  generalize Plain.accsOf C = A at hO hN hflat hRt ⊢
  have hc0 : CellsAt (w5.alloc (.cells #[.slice FA P.length fc, .slice KA K.length kc, .slice A3 A.length ac3] 36)) w5.heap.size [.slice FA P.length fc, .slice KA K.length kc, .slice A3 A.length ac3] := CellsAt.new w5 _ _
  have hb0 : Below w5.heap.size w5 (w5.alloc (.cells #[.slice FA P.length fc, .slice KA K.length kc, .slice A3 A.length ac3] 36)) := (Below.refl _ _).alloc (Nat.le_refl _) _
  have hk0 : (w5.alloc (.cells #[.slice FA P.length fc, .slice KA K.length kc, .slice A3 A.length ac3] 36)).heap[w5.heap.size]? = some (.cells #[.slice FA P.length fc, .slice KA K.length kc, .slice A3 A.length ac3] 36 (0, 0)) := heap_alloc_new _ _
  have hB0 := HB2.out.trans ((HQ5.out.trans (hb0.mono HQ5.out.size)).mono HB2.out.size)
  have hOa := hO.kept hb0
  have HR0 := Lib.hid hB0
  have HO0 := Lib.hid hOa
  have HK0 := Lib.hid hk0
  have HN := Lib.hid hN
  have HO5 := Lib.hid hO
  have HB56 := Lib.hid hb0
  have HFL := Lib.hid hflat
  have HRT := Lib.hid hRt
  have HW2 := Lib.hid (show w.heap.size ≤ w2.heap.size from HB2.out.size)
  have HW4 := Lib.hid hb.size
  have HW5 := Lib.hid (show w2.heap.size ≤ w5.heap.size from HQ5.out.size)
  clear hO hN hc0 hb0 hB0 hb k0 k1 k2 hflat hRt hk0 hOa
  unfold flatV
  generalize hw6 : w5.alloc (.cells #[.slice FA P.length fc, .slice KA K.length kc, .slice A3 A.length ac3] 36) = w6 at HR0 HO0 HK0 HB56
  go_wp2_with fail

  clear hw6
  refine (HX.out _ HR0.out).mono ?_
  rintro e w7 ⟨rfl, hb⟩
  have hk7 : w7.heap[w5.heap.size]? = some (.cells #[.slice FA P.length fc, .slice KA K.length kc, .slice A3 A.length ac3] 36 (0, 0)) := by rw [hb.block _ (Array.getElem?_eq_some_iff.1 HK0.out).1]; exact HK0.out
  have HK7 := Lib.hid hk7
  have HO7 := Lib.hid (HO0.out.kept hb)
  have HR7 := Lib.hid (HR0.out.trans (hb.mono HR0.out.size))
  have HB57 := Lib.hid (HB56.out.trans (hb.mono HB56.out.size))
  clear hb hk7
  obtain ⟨k0, k1, k2⟩ := blk_cells3 HK7.out
  have r := HRT.out
  have hKp : 0 < K.length := by rw [r.len]; exact Nat.mul_pos r.p0 r.a0
  have n0 : ((K.length : Int) == 0) = false := beq_eq_false_iff_ne.2 (by omega)
  have n1 : ((A.length : Int) == 0) = false := beq_eq_false_iff_ne.2 (by have := r.a0; omega)
  have n2 : ((P.length : Int) == 0) = false := beq_eq_false_iff_ne.2 (by have := r.p0; omega)
  clear r
  obtain ⟨c, hc⟩ : ∃ c, how % 4 = c := ⟨_, rfl⟩
  have htm : Int.tmod how 4 = c := by rw [← hc]; exact Int.tmod_eq_emod_of_nonneg h80
  have hc4 : c = 0 ∨ c = 1 ∨ c = 2 ∨ c = 3 := by omega
  clear hc h80 h81
  go_upto_block 0 with fail
  go_cut [] (fun wx => ∃ v0 v1 v2, WrongAt wx #[v0, v1, v2] ∧ wx.heap[w5.heap.size]? = some (.cells #[v0, v1, v2] 36 (0, 0)) ∧ Below w.heap.size w wx)
  case first =>
    have hkK : (K.length : Int) ≤ 4096 := by have r := HRT.out; have : P.length * A.length ≤ 64 * 64 := Nat.mul_le_mul r.p64 r.a64; rw [← r.len] at this; omega
    have hkA : (A.length : Int) ≤ 4096 := by have r := HRT.out; have := r.a64; omega
    have hA0 : 0 < A.length := HRT.out.a0
    have hP0 : 0 < P.length := HRT.out.p0
    rcases hc4 with rfl | rfl | rfl | rfl
    · obtain ⟨j, hj⟩ : ∃ j : Nat, at_ % (K.length : Int) = j := ⟨(at_ % (K.length : Int)).toNat, by have := Int.emod_nonneg at_ (show (K.length : Int) ≠ 0 by omega); omega⟩
      have hjl : j < K.length := by have := Int.emod_lt_of_pos at_ (show (0 : Int) < (K.length : Int) by omega); omega
      have htj : Int.tmod at_ (K.length : Int) = (j : Int) := by rw [← hj]; exact Int.tmod_eq_emod_of_nonneg a80
      obtain ⟨g, rfl, hgb, hgl, _⟩ := own_place HO5.out.o1 hjl
      obtain ⟨g', he, _, hg7, hgf, u, hgu⟩ := own_place HO7.out.o1 hjl
      cases he
      have hnb : g ≠ w5.heap.size := by omega
      have hk4 : (K.length : Int) ≤ 4096 := hkK
      have hi0 : (0 : Int) ≤ (j : Int) := by omega
      have hi1 : (j : Int) < (K.length : Int) := by omega
      have hS0 : w7.drew.cell? ⟨w5.heap.size, 1, none⟩ = some (.slice (some ⟨g, 0, none⟩) K.length kc) := k1
      have HS0 := Lib.hid hS0
      have hw0 := Plain.wrong0 P K A (fun k hk => (HN.out.bF k hk).1) (fun k hk => (HN.out.bK k hk).1) HFL.out j more hjl m80
      have HW0 := Lib.hid hw0
      clear hS0 hw0 hj
      obtain ⟨n, hn⟩ : ∃ n, K.length = n := ⟨_, rfl⟩
      have HNN := Lib.hid hn
      rw [hn] at hjl htj hk4 hi1 HS0 k1 ⊢
      clear hn
      have hn0 : n ≠ 0 := by omega
      have hn1 : 0 < n := by omega
      have q1 : IntKind.i64.wrap at_ = at_ := by rw [IntKind.wrap_i64]; omega
      have q2 : IntKind.i64.wrap (j : Int) = (j : Int) := by rw [IntKind.wrap_i64]; omega
      have q3 : IntKind.u32.wrap (n : Int) = (n : Int) := by rw [IntKind.wrap_u32]; omega
      have q4 : IntKind.u32.wrap more = more := by rw [IntKind.wrap_u32]; omega
      have q5 : IntKind.u32.wrap ((n : Int) + more) = (n : Int) + more := by rw [IntKind.wrap_u32]; omega
      go_upto_region 12 with fail
      refine wp_region_noPanic ?_
      refine wp_region_T 16 (S := fun w' => w'.cell? ⟨w5.heap.size, 1, none⟩ = some (.slice (some ⟨g, 0, none⟩) n kc)) (by kernel_rfl) (by decide) ?_
      refine wpAnyT_take2 0 (v := ?tv1) (by kernel_rfl) rfl (by kernel_rfl) (fun _ _ _ h => h) (Or.inl ⟨by rfl, ?ty1⟩) HS0.out ?tr1
      case ty1 => (intro w' hSw; (try dsimp only at hSw); go_simp; try with_reducible rfl)
      try simp only [Act.put, List.setIfInBounds_toArray, List.set_cons_zero, List.set_cons_succ]
      refine wpAnyT_take2 1 (v := ?tv2) (by kernel_rfl) rfl (by kernel_rfl) (fun _ _ _ h => h) (Or.inl ⟨by rfl, ?ty2⟩) HS0.out ?tr2
      case ty2 => (intro w' hSw; (try dsimp only at hSw); go_simp; try with_reducible rfl)
      try simp only [Act.put, List.setIfInBounds_toArray, List.set_cons_zero, List.set_cons_succ]
      refine wpAnyT_take2 2 (v := ?tv3) (by kernel_rfl) rfl (by kernel_rfl) (fun _ _ _ h => h) (Or.inl ⟨by rfl, ?ty3⟩) HS0.out ?tr3
      case ty3 => (intro w' hSw; (try dsimp only at hSw); go_simp; try with_reducible rfl)
      try simp only [Act.put, List.setIfInBounds_toArray, List.set_cons_zero, List.set_cons_succ]
      refine wpAnyT_take2 3 (v := ?tv4) (by kernel_rfl) rfl (by kernel_rfl) (fun _ _ _ h => h) (Or.inl ⟨by rfl, ?ty4⟩) HS0.out ?tr4
      case ty4 => (intro w' hSw; (try dsimp only at hSw); go_simp; try with_reducible rfl)
      try simp only [Act.put, List.setIfInBounds_toArray, List.set_cons_zero, List.set_cons_succ]
      refine wpAnyT_take2 4 (v := ?tv5) (by kernel_rfl) rfl (by kernel_rfl) (fun _ _ _ h => h) (Or.inl ⟨by rfl, ?ty5⟩) HS0.out ?tr5
      case ty5 => (intro w' hSw; (try dsimp only at hSw); go_simp; try with_reducible rfl)
      try simp only [Act.put, List.setIfInBounds_toArray, List.set_cons_zero, List.set_cons_succ]
      refine wpAnyT_take2 5 (v := ?tv6) (by kernel_rfl) rfl (by kernel_rfl) (fun _ _ _ h => h) (Or.inl ⟨by rfl, ?ty6⟩) HS0.out ?tr6
      case ty6 => (intro w' hSw; (try dsimp only at hSw); go_simp; try with_reducible rfl)
      try simp only [Act.put, List.setIfInBounds_toArray, List.set_cons_zero, List.set_cons_succ]
      refine wpAnyT_take2 6 (v := ?tv7) (by kernel_rfl) rfl (by kernel_rfl) (fun _ _ _ h => h) (Or.inl ⟨by rfl, ?ty7⟩) HS0.out ?tr7
      case ty7 => (intro w' hSw; (try dsimp only at hSw); go_simp; try with_reducible rfl)
      try simp only [Act.put, List.setIfInBounds_toArray, List.set_cons_zero, List.set_cons_succ]
      refine wpAnyT_take2 7 (v := ?tv8) (by kernel_rfl) rfl (by kernel_rfl) (fun _ _ _ h => h) (Or.inl ⟨by rfl, ?ty8⟩) HS0.out ?tr8
      case ty8 => (intro w' hSw; (try dsimp only at hSw); go_simp; try with_reducible rfl)
      try simp only [Act.put, List.setIfInBounds_toArray, List.set_cons_zero, List.set_cons_succ]
      refine wpAnyT_take2 8 (v := ?tv9) (by kernel_rfl) rfl (by kernel_rfl) (fun _ _ _ h => h) (Or.inl ⟨by rfl, ?ty9⟩) HS0.out ?tr9
      case ty9 => (intro w' hSw; (try dsimp only at hSw); go_simp; try with_reducible rfl)
      try simp only [Act.put, List.setIfInBounds_toArray, List.set_cons_zero, List.set_cons_succ]
      refine wpAnyT_take2 9 (v := ?tv10) (by kernel_rfl) rfl (by kernel_rfl) (fun _ _ _ h => h) (Or.inl ⟨by rfl, ?ty10⟩) HS0.out ?tr10
      case ty10 => (intro w' hSw; (try dsimp only at hSw); go_simp; try with_reducible rfl)
      try simp only [Act.put, List.setIfInBounds_toArray, List.set_cons_zero, List.set_cons_succ]
      refine wpAnyT_take2 10 (v := ?tv11) (by kernel_rfl) rfl (by kernel_rfl) (fun _ _ _ h => h) (Or.inl ⟨by rfl, ?ty11⟩) HS0.out ?tr11
      case ty11 => (intro w' hSw; (try dsimp only at hSw); go_simp; try with_reducible rfl)
      try simp only [Act.put, List.setIfInBounds_toArray, List.set_cons_zero, List.set_cons_succ]
      refine wpAnyT_take2 11 (v := ?tv12) (by kernel_rfl) rfl (by kernel_rfl) (fun _ _ _ h => h) (Or.inl ⟨by rfl, ?ty12⟩) HS0.out ?tr12
      case ty12 => (intro w' hSw; (try dsimp only at hSw); go_simp; try with_reducible rfl)
      try simp only [Act.put, List.setIfInBounds_toArray, List.set_cons_zero, List.set_cons_succ]
      refine wpAnyT_take2 12 (v := ?tv13) (by kernel_rfl) rfl (by kernel_rfl) (fun _ _ _ h => h) (Or.inl ⟨by rfl, ?ty13⟩) HS0.out ?tr13
      case ty13 => (intro w' hSw; (try dsimp only at hSw); go_simp; try with_reducible rfl)
      try simp only [Act.put, List.setIfInBounds_toArray, List.set_cons_zero, List.set_cons_succ]
      refine wpAnyT_take2 13 (v := ?tv14) (by kernel_rfl) rfl (by kernel_rfl) (fun _ _ _ h => h) (Or.inl ⟨by rfl, ?ty14⟩) HS0.out ?tr14
      case ty14 => (intro w' hSw; (try dsimp only at hSw); go_simp; try with_reducible rfl)
      try simp only [Act.put, List.setIfInBounds_toArray, List.set_cons_zero, List.set_cons_succ]
      refine wpAnyT_take2 14 (v := ?tv15) (by kernel_rfl) rfl (by kernel_rfl) (fun _ _ _ h => h) (Or.inl ⟨by rfl, ?ty15⟩) HS0.out ?tr15
      case ty15 => (intro w' hSw; (try dsimp only at hSw); go_simp; try with_reducible rfl)
      try simp only [Act.put, List.setIfInBounds_toArray, List.set_cons_zero, List.set_cons_succ]
      refine wpAnyT_take2 15 (v := ?tv16) (by kernel_rfl) rfl (by kernel_rfl) (fun _ _ _ h => h) (Or.inl ⟨by rfl, ?ty16⟩) HS0.out ?tr16
      case ty16 => (intro w' hSw; (try dsimp only at hSw); go_simp; try with_reducible rfl)
      try simp only [Act.put, List.setIfInBounds_toArray, List.set_cons_zero, List.set_cons_succ]
      refine ⟨by kernel_rfl, ?_⟩
      change wpList _ _ _ [_] _ _
      go_wp2
      refine NoPanic.normal ?_
      go_wp2
      go_meet
      rw [← HNN.out]
      refine ⟨_, _, _, ⟨FA, P, fc, some ⟨g, 0, none⟩, K.set j ((K.length : Int) + more), kc, A3, A, ac3, by rw [List.length_set], ((HO7.out.drew).put1 j _).flat, ⟨HN.out.hf, by rw [List.length_set]; exact HN.out.hk, HN.out.ha, by rw [List.length_set]; exact HN.out.hkc, HN.out.bF, set_bd K j _ HN.out.bK (by rw [HNN.out]; omega), HN.out.bA⟩, HW0.out⟩, ?_, (HR7.out.drew).setCell (by have := HW2.out; have := HW4.out; simp at *; omega) _⟩
      show (w7.setCell ⟨g, j, none⟩ _).heap[w5.heap.size]? = _
      rw [heap_setCell_other _ _ _ _ (fun e => hnb e.symm)]; exact HK7.out
    · obtain ⟨j, hj⟩ : ∃ j : Nat, at_ % (A.length : Int) = j := ⟨(at_ % (A.length : Int)).toNat, by have := Int.emod_nonneg at_ (show (A.length : Int) ≠ 0 by omega); omega⟩
      have hjl : j < A.length := by have := Int.emod_lt_of_pos at_ (show (0 : Int) < (A.length : Int) by omega); omega
      have htj : Int.tmod at_ (A.length : Int) = (j : Int) := by rw [← hj]; exact Int.tmod_eq_emod_of_nonneg a80
      obtain ⟨g, rfl, hgb, hgl, _⟩ := own_place HO5.out.o2 hjl
      obtain ⟨g', he, _, hg7, hgf, u, hgu⟩ := own_place HO7.out.o2 hjl
      cases he
      have hnb : g ≠ w5.heap.size := by omega
      have hk4 : (A.length : Int) ≤ 4096 := hkA
      have hi0 : (0 : Int) ≤ (j : Int) := by omega
      have hi1 : (j : Int) < (A.length : Int) := by omega
      have hS0 : w7.drew.cell? ⟨w5.heap.size, 2, none⟩ = some (.slice (some ⟨g, 0, none⟩) A.length ac3) := k2
      have HS0 := Lib.hid hS0
      have hw0 := Plain.wrong1 P K A (fun k hk => (HN.out.bF k hk).1) (fun k hk => (HN.out.bK k hk).1) j more hjl m80
      have HW0 := Lib.hid hw0
      clear hS0 hw0 hj
      obtain ⟨n, hn⟩ : ∃ n, A.length = n := ⟨_, rfl⟩
      have HNN := Lib.hid hn
      rw [hn] at hjl htj hk4 hi1 HS0 k2 ⊢
      clear hn
      have hn0 : n ≠ 0 := by omega
      have hn1 : 0 < n := by omega
      have q1 : IntKind.i64.wrap at_ = at_ := by rw [IntKind.wrap_i64]; omega
      have q2 : IntKind.i64.wrap (j : Int) = (j : Int) := by rw [IntKind.wrap_i64]; omega
      have q3 : IntKind.u32.wrap (n : Int) = (n : Int) := by rw [IntKind.wrap_u32]; omega
      have q4 : IntKind.u32.wrap more = more := by rw [IntKind.wrap_u32]; omega
      have q5 : IntKind.u32.wrap (2 + more) = 2 + more := by rw [IntKind.wrap_u32]; omega
      go_upto_region 14 with fail
      refine wp_region_noPanic ?_
      refine wp_region_T 12 (S := fun w' => w'.cell? ⟨w5.heap.size, 2, none⟩ = some (.slice (some ⟨g, 0, none⟩) n ac3)) (by kernel_rfl) (by decide) ?_
      refine wpAnyT_take2 0 (v := ?tv17) (by kernel_rfl) rfl (by kernel_rfl) (fun _ _ _ h => h) (Or.inl ⟨by rfl, ?ty17⟩) HS0.out ?tr17
      case ty17 => (intro w' hSw; (try dsimp only at hSw); go_simp; try with_reducible rfl)
      try simp only [Act.put, List.setIfInBounds_toArray, List.set_cons_zero, List.set_cons_succ]
      refine wpAnyT_take2 1 (v := ?tv18) (by kernel_rfl) rfl (by kernel_rfl) (fun _ _ _ h => h) (Or.inl ⟨by rfl, ?ty18⟩) HS0.out ?tr18
      case ty18 => (intro w' hSw; (try dsimp only at hSw); go_simp; try with_reducible rfl)
      try simp only [Act.put, List.setIfInBounds_toArray, List.set_cons_zero, List.set_cons_succ]
      refine wpAnyT_take2 2 (v := ?tv19) (by kernel_rfl) rfl (by kernel_rfl) (fun _ _ _ h => h) (Or.inl ⟨by rfl, ?ty19⟩) HS0.out ?tr19
      case ty19 => (intro w' hSw; (try dsimp only at hSw); go_simp; try with_reducible rfl)
      try simp only [Act.put, List.setIfInBounds_toArray, List.set_cons_zero, List.set_cons_succ]
      refine wpAnyT_take2 3 (v := ?tv20) (by kernel_rfl) rfl (by kernel_rfl) (fun _ _ _ h => h) (Or.inl ⟨by rfl, ?ty20⟩) HS0.out ?tr20
      case ty20 => (intro w' hSw; (try dsimp only at hSw); go_simp; try with_reducible rfl)
      try simp only [Act.put, List.setIfInBounds_toArray, List.set_cons_zero, List.set_cons_succ]
      refine wpAnyT_take2 4 (v := ?tv21) (by kernel_rfl) rfl (by kernel_rfl) (fun _ _ _ h => h) (Or.inl ⟨by rfl, ?ty21⟩) HS0.out ?tr21
      case ty21 => (intro w' hSw; (try dsimp only at hSw); go_simp; try with_reducible rfl)
      try simp only [Act.put, List.setIfInBounds_toArray, List.set_cons_zero, List.set_cons_succ]
      refine wpAnyT_take2 5 (v := ?tv22) (by kernel_rfl) rfl (by kernel_rfl) (fun _ _ _ h => h) (Or.inl ⟨by rfl, ?ty22⟩) HS0.out ?tr22
      case ty22 => (intro w' hSw; (try dsimp only at hSw); go_simp; try with_reducible rfl)
      try simp only [Act.put, List.setIfInBounds_toArray, List.set_cons_zero, List.set_cons_succ]
      refine wpAnyT_take2 6 (v := ?tv23) (by kernel_rfl) rfl (by kernel_rfl) (fun _ _ _ h => h) (Or.inl ⟨by rfl, ?ty23⟩) HS0.out ?tr23
      case ty23 => (intro w' hSw; (try dsimp only at hSw); go_simp; try with_reducible rfl)
      try simp only [Act.put, List.setIfInBounds_toArray, List.set_cons_zero, List.set_cons_succ]
      refine wpAnyT_take2 7 (v := ?tv24) (by kernel_rfl) rfl (by kernel_rfl) (fun _ _ _ h => h) (Or.inl ⟨by rfl, ?ty24⟩) HS0.out ?tr24
      case ty24 => (intro w' hSw; (try dsimp only at hSw); go_simp; try with_reducible rfl)
      try simp only [Act.put, List.setIfInBounds_toArray, List.set_cons_zero, List.set_cons_succ]
      refine wpAnyT_take2 8 (v := ?tv25) (by kernel_rfl) rfl (by kernel_rfl) (fun _ _ _ h => h) (Or.inl ⟨by rfl, ?ty25⟩) HS0.out ?tr25
      case ty25 => (intro w' hSw; (try dsimp only at hSw); go_simp; try with_reducible rfl)
      try simp only [Act.put, List.setIfInBounds_toArray, List.set_cons_zero, List.set_cons_succ]
      refine wpAnyT_take2 9 (v := ?tv26) (by kernel_rfl) rfl (by kernel_rfl) (fun _ _ _ h => h) (Or.inl ⟨by rfl, ?ty26⟩) HS0.out ?tr26
      case ty26 => (intro w' hSw; (try dsimp only at hSw); go_simp; try with_reducible rfl)
      try simp only [Act.put, List.setIfInBounds_toArray, List.set_cons_zero, List.set_cons_succ]
      refine wpAnyT_take2 10 (v := ?tv27) (by kernel_rfl) rfl (by kernel_rfl) (fun _ _ _ h => h) (Or.inl ⟨by rfl, ?ty27⟩) HS0.out ?tr27
      case ty27 => (intro w' hSw; (try dsimp only at hSw); go_simp; try with_reducible rfl)
      try simp only [Act.put, List.setIfInBounds_toArray, List.set_cons_zero, List.set_cons_succ]
      refine wpAnyT_take2 11 (v := ?tv28) (by kernel_rfl) rfl (by kernel_rfl) (fun _ _ _ h => h) (Or.inl ⟨by rfl, ?ty28⟩) HS0.out ?tr28
      case ty28 => (intro w' hSw; (try dsimp only at hSw); go_simp; try with_reducible rfl)
      try simp only [Act.put, List.setIfInBounds_toArray, List.set_cons_zero, List.set_cons_succ]
      refine ⟨by kernel_rfl, ?_⟩
      change wpList _ _ _ [_] _ _
      go_wp2
      refine NoPanic.normal ?_
      go_wp2
      go_meet
      refine ⟨_, _, _, ⟨FA, P, fc, KA, K, kc, some ⟨g, 0, none⟩, A.set j (2 + more), ac3, by rw [List.length_set], ((HO7.out.drew).put2 j _).flat, ⟨HN.out.hf, HN.out.hk, by rw [List.length_set]; exact HN.out.ha, HN.out.hkc, HN.out.bF, HN.out.bK, set_bd A j _ HN.out.bA (by omega)⟩, HW0.out⟩, ?_, (HR7.out.drew).setCell (by have := HW2.out; have := HW4.out; simp at *; omega) _⟩
      show (w7.setCell ⟨g, j, none⟩ _).heap[w5.heap.size]? = _
      rw [heap_setCell_other _ _ _ _ (fun e => hnb e.symm)]; exact HK7.out
    · obtain ⟨g, rfl, hgb, hgl, _⟩ := own_place HO5.out.o0 hP0
      obtain ⟨g', he, _, hg7, hgf, u, hgu⟩ := own_place HO7.out.o0 hP0
      cases he
      have hnb : g ≠ w5.heap.size := by omega
      have hw0 := Plain.wrong2 P K A (fun k hk => (HN.out.bF k hk).1) (fun k hk => (HN.out.bK k hk).1) more hP0 m80
      have HW0 := Lib.hid hw0
      clear hw0
      go_wp2_with fail
      go_meet
      refine ⟨_, _, _, ⟨some ⟨g, 0, none⟩, P.set 0 (1 + more), fc, KA, K, kc, A3, A, ac3, by rw [List.length_set], (HO7.out.put0 0 _).flat, ⟨by rw [List.length_set]; exact HN.out.hf, HN.out.hk, HN.out.ha, HN.out.hkc, set_bd P 0 _ HN.out.bF (by omega), HN.out.bK, HN.out.bA⟩, HW0.out⟩, ?_, HR7.out.setCell (by have := HW2.out; have := HW4.out; simp at *; omega) _⟩
      rw [heap_setCell_other _ _ _ _ (fun e => hnb e.symm)]; exact HK7.out
    · obtain ⟨g, rfl, hgb, hgl, _⟩ := own_place HO5.out.o2 hA0
      have hac := own_le HO5.out.o2
      have f2 := blk_frozen HK7.out 2
      have hw0 := Plain.wrong3 P K A (fun k hk => (HN.out.bF k hk).1) (fun k hk => (HN.out.bK k hk).1) HFL.out
      have HW0 := Lib.hid hw0
      have hdl : (A.drop 1).length = A.length - 1 := List.length_drop
      have HDL := Lib.hid hdl
      have hbA : ∀ k, k < (A.drop 1).length → 0 ≤ (A.drop 1).getD k 0 ∧ (A.drop 1).getD k 0 < 4294967296 := fun k hk => by
        have := HN.out.bA (1 + k) (by omega)
        rw [List.getD, List.getElem?_drop]; exact this
      have HBA := Lib.hid hbA
      clear hw0 hdl hbA
      have fin : ∀ (o c : Nat), o = 1 ∨ A.length = 1 → ∃ v0 v1 v2, WrongAt (w7.setCell ⟨w5.heap.size, 2, none⟩ (.slice (some ⟨g, o, none⟩) (A.length - 1) c)) #[v0, v1, v2] ∧ (w7.setCell ⟨w5.heap.size, 2, none⟩ (.slice (some ⟨g, o, none⟩) (A.length - 1) c)).heap[w5.heap.size]? = some (.cells #[v0, v1, v2] 36 (0, 0)) ∧ Below w.heap.size w (w7.setCell ⟨w5.heap.size, 2, none⟩ (.slice (some ⟨g, o, none⟩) (A.length - 1) c)) := fun o c ho => by
        have hF := (HO5.out.flat).below (HB57.out.setCell (p := ⟨w5.heap.size, 2, none⟩) (Nat.le_refl _) (.slice (some ⟨g, o, none⟩) (A.length - 1) c))
        refine ⟨_, _, _, ⟨FA, P, fc, KA, K, kc, some ⟨g, o, none⟩, A.drop 1, c, by rw [HDL.out], ⟨hF.parts, hF.cells, Sl.drop1 hF.acc o ho⟩, ⟨HN.out.hf, HN.out.hk, by rw [HDL.out]; have := HN.out.ha; omega, HN.out.hkc, HN.out.bF, HN.out.bK, HBA.out⟩, HW0.out⟩, heap_setCell_same _ _ 2 _ _ _ HK7.out, HR7.out.setCell (by have := HW2.out; have := HW5.out; simp at *; omega) _⟩
      have FIN := Lib.hid fin
      clear fin
      by_cases hc1 : ac3 = 1
      · have hA1 : A.length = 1 := by omega
        go_wp2_with fail
        go_meet
        have h := FIN.out 0 0 (.inr hA1)
        rw [show A.length - 1 = 0 from by omega] at h
        exact h
      · go_wp2_with fail
        go_meet
        exact FIN.out 1 (ac3 - 1) (.inl rfl)
  case rest =>
    obtain ⟨v0, v1, v2, hW, hk, hB⟩ := hcut
    have c1 := hW.find sa (by omega) (HT.out.below hB)
    have c2 := hW.state sa (by omega) (HT.out.below hB)
    have C1 := Lib.hid c1
    have C2 := Lib.hid c2
    have HB := Lib.hid hB
    have HK := Lib.hid hk
    obtain ⟨FA', F', fc', KA', K', kc', AA', A', ac', hv, _⟩ := hW
    simp only [Array.mk.injEq, List.cons.injEq, and_true] at hv
    obtain ⟨rfl, rfl, rfl⟩ := hv
    clear c1 c2 hB hk k0 k1 k2
    obtain ⟨k0, k1, k2⟩ := blk_cells3 HK.out
    go_wp2_with fail
    refine (C1.out _ (Below.refl _ _)).mono ?_
    rintro e w8 ⟨rfl, hb⟩
    have HB8 := Lib.hid hb
    have hk8 : w8.heap[w5.heap.size]? = _ := (hb.block _ (Array.getElem?_eq_some_iff.1 HK.out).1).trans HK.out
    clear hb k0 k1 k2
    obtain ⟨k0, k1, k2⟩ := blk_cells3 hk8
    clear hk8
    go_wp2_with fail
    refine (C2.out _ HB8.out).mono ?_
    rintro e w9 ⟨rfl, hb⟩
    have hF := HB.out.trans ((HB8.out.trans (hb.mono HB8.out.size)).mono HB.out.size)
    have HF9 := Lib.hid hF
    clear hF hb
    go_wp2
    go_ret
    exact ⟨rfl, HF9.out⟩
end Go.Proofs.YtdonginboioocaaDoor
