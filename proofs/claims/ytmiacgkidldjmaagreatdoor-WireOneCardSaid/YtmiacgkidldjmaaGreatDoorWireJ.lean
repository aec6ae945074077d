/- Chapter 12: what was put is got; the examples. Conditions: what each lemma says. -/
import Derived.Test.YtmiacgkidldjmaaGreatDoorWireI
import Derived.Test.YtmiacgkidldjmaaGreatDoorWireC
import Derived.Test.YtmiacgkidldjmaaGreatDoorLawA
set_option linter.unusedVariables false
set_option linter.unusedSimpArgs false
namespace Go.Proofs.YtmiacgkidldjmaaGreatDoor
open Go.RowKit Go.Lib
open Plain (Rg May mayB In Norm In4 slotsOf insB bnd riB cls cnot rightB normB)
theorem getE_put (L : List In4) (KR : List (List Rg)) (g : Int) (hf : Plain.Fits L KR g) (hp : pgP L KR g = true) :
    getE (Plain.progL L KR g) = 0 ∧ ∃ st, Plain.gProg (Plain.rd0 (Plain.progL L KR g)) = ⟨st, L, KR, g⟩ := by
  obtain ⟨st, h1, h2⟩ := Plain.prog_got L KR g hf
  refine ⟨?_, st, h1⟩
  unfold getE
  rw [if_neg (by rw [Plain.progL_open L KR g hf]; simp), h1]
  dsimp only
  rw [h2, hp]; rfl
theorem getTE_put (P : List Int) (N : List (List Int)) (C : List Bool) (hp : Plain.tabRight P N C.length = true) :
    getTE (Plain.tabL P N C) = 0 ∧ ∃ st, Plain.gTab (Plain.rd0 (Plain.tabL P N C)) = ⟨st, P, N, C⟩ := by
  have hf := Plain.tab_fits hp
  obtain ⟨st, h1, h2⟩ := Plain.tab_got P N C hf
  refine ⟨?_, st, h1⟩
  unfold getTE
  rw [if_neg (by rw [Plain.tabL_open P N C hf]; simp), h1]
  dsimp only
  rw [h2, hp]; rfl
def GotP (L : List In4) (KR : List (List Rg)) (g : Int) (w : World) (e : Ending) (w' : World) : Prop :=
  ∃ I c C d K, K.map Cs.R = KR ∧ e = .returned (.tuple #[pgV I L.length c C K.length d g, .int .i64 0]) ∧ PgAt w' I L C K ∧ Below w.heap.size w w'
def GotT (P : List Int) (N : List (List Int)) (C : List Bool) (w : World) (e : Ending) (w' : World) : Prop :=
  ∃ PA pc NA R nc AA ac, nums R = N ∧ e = .returned (.tuple #[tabV PA P pc NA R nc AA C ac, .int .i64 0]) ∧ TabAt w' PA P NA R AA C ∧ Below w.heap.size w w'
theorem getput_any (L : List In4) (K : List Cs) (g : Int) (h : pgR L K g = true) (w : World) : Calls Tryz.prog 32 #[.string (str (Plain.progL L (K.map Cs.R) g))] w (GotP L (K.map Cs.R) g w) := by
  have hf := pgR_fits h
  have hl := Plain.progL_len _ _ _ hf
  obtain ⟨h1, st, h2⟩ := getE_put L (K.map Cs.R) g hf (by rw [← pgP_eq]; exact h)
  refine (get_any (str (Plain.progL L (K.map Cs.R) g)) w (by rw [str_size]; omega)).mono ?_
  rintro e w' ⟨_, hok, hb⟩
  rw [str_list] at hok
  obtain ⟨I, c, C, d, K', hK, he, hP⟩ := hok h1
  rw [h2] at hK he hP
  exact ⟨I, c, C, d, K', hK, he, hP, hb⟩
theorem gettabput_any (P : List Int) (N : List (List Int)) (C : List Bool) (h : Plain.tabRight P N C.length = true) (w : World) : Calls Tryz.prog 33 #[.string (str (Plain.tabL P N C))] w (GotT P N C w) := by
  have hf := Plain.tab_fits h
  have hl := Plain.tabL_len _ _ _ hf
  obtain ⟨h1, st, h2⟩ := getTE_put P N C h
  refine (gettab_any (str (Plain.tabL P N C)) w (by rw [str_size]; omega)).mono ?_
  rintro e w' ⟨_, hok, hb⟩
  rw [str_list] at hok
  obtain ⟨PA, pc, NA, R, nc, AA, ac, hR, he, hT⟩ := hok h1
  rw [h2] at hR he hT
  exact ⟨PA, pc, NA, R, nc, AA, ac, hR, he, hT, hb⟩
theorem geterr_any (l : List UInt8) (hl : l.length ≤ 1000000) (x : Int) (hx : getE l = x) (h0 : x ≠ 0) (w : World) : Calls Tryz.prog 32 #[.string (str l)] w fun e w' => e = .returned (.tuple #[pg0, .int .i64 x]) ∧ Below w.heap.size w w' := by
  refine (get_any (str l) w (by rw [str_size]; omega)).mono ?_
  rintro e w' ⟨hbad, _, hb⟩
  rw [str_list, hx] at hbad
  exact ⟨hbad h0, hb⟩
theorem gettaberr_any (l : List UInt8) (hl : l.length ≤ 1000000) (x : Int) (hx : getTE l = x) (h0 : x ≠ 0) (w : World) : Calls Tryz.prog 33 #[.string (str l)] w fun e w' => e = .returned (.tuple #[tb0, .int .i64 x]) ∧ Below w.heap.size w w' := by
  refine (gettab_any (str l) w (by rw [str_size]; omega)).mono ?_
  rintro e w' ⟨hbad, _, hb⟩
  rw [str_list, hx] at hbad
  exact ⟨hbad h0, hb⟩
def exL : List In4 := [(1, 1, 0, 0), (0, 0, 0, 0)]
def exK : List (List Rg) := [[(97, 99)]]
def exB : List UInt8 := [87, 88, 80, 1, 1, 1, 2, 4, 1, 1, 97, 2, 3, 9, 2, 1, 1, 0, 0, 0, 0, 0, 0]
theorem ex_prog : Plain.progL exL exK 1 = Plain.sealL exB := by
  unfold Plain.progL Plain.blobL
  congr 1
  simp [Plain.bodyL, Plain.secL, Plain.textL, Plain.classesL, Plain.clsL, Plain.rgL, Plain.instsL, Plain.instL, exK, exL, exB, Plain.putL_small]
theorem ex_right : pgP exL exK 1 = true := by decide
theorem ex_fits : Plain.Fits exL exK 1 := ⟨by decide, by decide, by decide, by decide, by decide⟩
theorem ex_kind : Plain.kindE (Plain.progL exL exK 1) = (1, 0) := Plain.progL_kind _ _ _ ex_fits
theorem ex_sum : getE (Plain.progL exL exK 1 ++ [120]) = 10 := by
  have h : Plain.openE (Plain.progL exL exK 1 ++ [120]) 1 = 10 := by rw [ex_prog]; decide
  unfold getE
  rw [h]; rfl
theorem ex_other : getTE (Plain.progL exL exK 1) = 12 := by
  have h : Plain.openE (Plain.progL exL exK 1) 2 = 12 := by unfold Plain.openE; rw [ex_kind]; rfl
  unfold getTE
  rw [h]; rfl
end Go.Proofs.YtmiacgkidldjmaaGreatDoor
namespace Go.Proofs.YtmiacgkidldjmaaGreatDoor
open Go.RowKit Go.Lib
open Plain (Rg May mayB In Norm In4 slotsOf insB bnd riB cls cnot rightB normB)
theorem cells_of {w : World} {g : Nat} {cs : Array Value} {t : TypeId} (h : w.heap[g]? = some (.cells cs t (0, 0))) : CellsAt w g cs.toList := ⟨lt_of_some h, fun j u hu => by rw [cell_of_row _ _ _ _ _ _ h]; simpa using hu⟩
theorem one_class {K : List Cs} {R : List Rg} (h : K.map Cs.R = [R]) : ∃ A c, K = [⟨A, c, R⟩] := by
  rcases K with _ | ⟨⟨A, c, S⟩, _ | ⟨y, K⟩⟩
  · simp at h
  · simp at h; exact ⟨A, c, by rw [h]⟩
  · simp at h
theorem one_row {R : List Row} {x : List Int} (h : nums R = [x]) : ∃ A c, R = [(A, c, x)] := by
  unfold nums at h
  rcases R with _ | ⟨⟨A, c, S⟩, _ | ⟨y, K⟩⟩
  · simp at h
  · simp at h; exact ⟨A, c, by rw [h]⟩
  · simp at h
theorem seal_lit (s : ByteArray) (l : List UInt8) (h : s.data.toList = l) (hl : l.length ≤ 1000000) (w : World) : Calls Tryz.prog 29 #[.string s] w fun e w' => e = .returned (.string (str (Plain.sealL l))) ∧ Below w.heap.size w w' := by
  have h2 := seal_any s w (by have : s.data.toList.length = s.size := by simp
                              rw [h] at this; omega)
  rw [h] at h2
  exact h2
/-- a small table, made on the spot -/
theorem tab_lit (w : World) (n : Nat) (hn : w.heap.size = n) :
    TabAt ((((w.alloc (.cells #[.int .i32 0] 21)).alloc (.cells #[.int .i64 0] 3)).alloc (.cells #[.slice (some ⟨n + 1, 0, none⟩) 1 1] 60)).alloc (.cells #[.bool true] 4)) (some ⟨n, 0, none⟩) [0] (some ⟨n + 1 + 1, 0, none⟩) [(some ⟨n + 1, 0, none⟩, 1, [0])] (some ⟨n + 1 + 1 + 1, 0, none⟩) [true] ∧
    Below w.heap.size w ((((w.alloc (.cells #[.int .i32 0] 21)).alloc (.cells #[.int .i64 0] 3)).alloc (.cells #[.slice (some ⟨n + 1, 0, none⟩) 1 1] 60)).alloc (.cells #[.bool true] 4)) := by
  obtain ⟨w1, hw1⟩ : ∃ x, w.alloc (.cells #[.int .i32 0] 21) = x := ⟨_, rfl⟩
  obtain ⟨w2, hw2⟩ : ∃ x, w1.alloc (.cells #[.int .i64 0] 3) = x := ⟨_, rfl⟩
  obtain ⟨w3, hw3⟩ : ∃ x, w2.alloc (.cells #[.slice (some ⟨n + 1, 0, none⟩) 1 1] 60) = x := ⟨_, rfl⟩
  obtain ⟨w4, hw4⟩ : ∃ x, w3.alloc (.cells #[.bool true] 4) = x := ⟨_, rfl⟩
  rw [hw1, hw2, hw3, hw4]
  have hb1 : w1.heap.size = n + 1 := by rw [← hw1, ← hn]; simp
  have hb2 : w2.heap.size = n + 1 + 1 := by rw [← hw2, ← hb1]; simp
  have hb3 : w3.heap.size = n + 1 + 1 + 1 := by rw [← hw3, ← hb2]; simp
  have k1 : w1.heap[n]? = some (.cells #[.int .i32 0] 21 (0, 0)) := by rw [← hw1]; exact heap_alloc_new2 _ _ _ _ hn.symm
  have k2 : w2.heap[n + 1]? = some (.cells #[.int .i64 0] 3 (0, 0)) := by rw [← hw2]; exact heap_alloc_new2 _ _ _ _ hb1.symm
  have k3 : w3.heap[n + 1 + 1]? = some (.cells #[.slice (some ⟨n + 1, 0, none⟩) 1 1] 60 (0, 0)) := by rw [← hw3]; exact heap_alloc_new2 _ _ _ _ hb2.symm
  have k4 : w4.heap[n + 1 + 1 + 1]? = some (.cells #[.bool true] 4 (0, 0)) := by rw [← hw4]; exact heap_alloc_new2 _ _ _ _ hb3.symm
  have B1 : Below w.heap.size w w1 := by rw [← hw1]; exact below_alloc (Below.refl _ _) _
  have B2 : Below w1.heap.size w1 w2 := by rw [← hw2]; exact below_alloc (Below.refl _ _) _
  have B3 : Below w2.heap.size w2 w3 := by rw [← hw3]; exact below_alloc (Below.refl _ _) _
  have B4 : Below w3.heap.size w3 w4 := by rw [← hw4]; exact below_alloc (Below.refl _ _) _
  have j1 := blk_later (blk_later (blk_later k1 B2) B3) B4
  have j2 := blk_later (blk_later k2 B3) B4
  have j3 := blk_later k3 B4
  exact ⟨⟨Sl.of_cells (xs := i32s [0]) (cells_of j1), Sl.of_cells (xs := [rowV (some ⟨n + 1, 0, none⟩, 1, [0])]) (cells_of j3), (fun r hr => by
      obtain rfl : r = (some ⟨n + 1, 0, none⟩, 1, [0]) := by simpa using hr
      exact ⟨Sl.of_cells (xs := i64s [0]) (cells_of j2), by show 1 ≤ maxLen; decide⟩), Sl.of_cells (xs := [Value.bool true]) (cells_of k4), by show 1 ≤ maxLen; decide, by show 1 ≤ maxLen; decide, by show 1 ≤ maxLen; decide⟩,
    below_then (below_then (below_then B1 B2) B3) B4⟩
set_option maxRecDepth 1000000 in
set_option maxHeartbeats 8000000 in
theorem ex12_any (w : World) : Calls Tryz.prog 19 #[] w fun e w' => e = .returned (.bool true) ∧ Below w.heap.size w w' := by
  have cP := fun (I C A : Option Addr) (W : World) (hP : PgAt W I exL C [⟨A, 1, [(97, 99)]⟩]) =>
    (show Calls Tryz.prog 14 #[.agg #[.slice I 2 2, .slice C 1 1, .int .i64 1]] W fun e w' => e = .returned (.tuple #[.string (str (Plain.progL exL exK 1)), .bool true]) ∧ Below W.heap.size W w' from
      putprog_yes I C exL [⟨A, 1, [(97, 99)]⟩] 2 1 1 W hP (by rw [pgP_eq]; exact ex_right))
  have cG := fun (W : World) => getput_any exL [⟨none, 1, [(97, 99)]⟩] 1 (by rw [pgP_eq]; exact ex_right) W
  have cK := fun (W : World) => kind_any (str (Plain.progL exL exK 1)) W (by rw [str_size]; have := (Plain.progL_len _ _ _ ex_fits).2; omega)
  unfold kindV at cK
  rw [str_list, ex_kind] at cK
  have cE := fun (W : World) => geterr_any (Plain.progL exL exK 1 ++ [120]) (by have := (Plain.progL_len _ _ _ ex_fits).2; rw [List.length_append]; simp; omega) 10 ex_sum (by decide) W
  have cO := fun (W : World) => gettaberr_any (Plain.progL exL exK 1) (by have := (Plain.progL_len _ _ _ ex_fits).2; omega) 12 ex_other (by decide) W
  have cN := fun (W : World) => (show Calls Tryz.prog 14 #[.agg #[.slice none 0 0, .slice none 0 0, .int .i64 0]] W fun e w' => e = .returned (.tuple #[.string ⟨#[]⟩, .bool false]) ∧ Below W.heap.size W w' from
    putprog_not none none [] [] 0 0 0 W ⟨Sl.nil _ _, Sl.nil _ _, (fun x hx => by cases hx), by decide, by decide⟩ rfl)
  have cT := fun (PA NA AA RA : Option Addr) (W : World) (hT : TabAt W PA [0] NA [(RA, 1, [0])] AA [true]) =>
    (show Calls Tryz.prog 16 #[.agg #[.slice PA 1 1, .slice NA 1 1, .slice AA 1 1]] W fun e w' => e = .returned (.tuple #[.string (str (Plain.tabL [0] [[0]] [true])), .bool true]) ∧ Below W.heap.size W w' from
      puttab_yes PA [0] 1 NA [(RA, 1, [0])] 1 AA [true] 1 W hT (by show Plain.tabRight [0] [[0]] 1 = true; decide))
  have cU := fun (W : World) => gettabput_any [0] [[0]] [true] (by decide) W
  have cS := fun (W : World) => seal_lit ⟨#[87, 88, 80, 1, 1, 1, 2, 4, 1, 1, 97, 2, 3, 9, 2, 1, 1, 0, 0, 0, 0, 0, 0]⟩ exB rfl (by decide) W
  have hsz : (str (Plain.progL exL exK 1)).size ≤ 40000 := by rw [str_size]; exact (Plain.progL_len _ _ _ ex_fits).2
  rw [← ex_prog] at cS
  rw [← str_app] at cE
  have cG : ∀ W : World, Calls Tryz.prog 32 #[.string (str (Plain.progL exL exK 1))] W (GotP exL exK 1 W) := cG
  obtain ⟨S, hS⟩ : ∃ x, str (Plain.progL exL exK 1) = x := ⟨_, rfl⟩
  obtain ⟨T, hT⟩ : ∃ x, str (Plain.tabL [0] [[0]] [true]) = x := ⟨_, rfl⟩
  rw [hS] at cG cK cE cO cS hsz
  rw [hT] at cU
  simp only [hS] at cP
  simp only [hT] at cT
  have CP := Lib.hid cP
  have CG := Lib.hid cG
  have CK := Lib.hid cK
  have CE := Lib.hid cE
  have CO := Lib.hid cO
  have CN := Lib.hid cN
  have CT := Lib.hid cT
  have CU := Lib.hid cU
  have CS := Lib.hid cS
  have g1 : ¬ (9223372036854775807 < S.size + 1) := by omega
  clear cP cG cK cE cO cN cT cU cS hS hT
  go_enter Tryz.func19, Tryz.ntmps19
  go_upto_region 2 with fail
  obtain ⟨w1, hw1⟩ : ∃ x, w.alloc (.cells #[.int .i64 1, .int .i64 1, .int .i64 0, .int .i64 0, .int .i64 0, .int .i64 0, .int .i64 0, .int .i64 0] 94) = x := ⟨_, rfl⟩
  obtain ⟨w2, hw2⟩ : ∃ x, w1.alloc (.cells #[.int .i32 97, .int .i32 99] 104) = x := ⟨_, rfl⟩
  obtain ⟨w3, hw3⟩ : ∃ x, w2.alloc (.cells #[.slice (some ⟨w.heap.size + 1, 0, none⟩) 1 1] 102) = x := ⟨_, rfl⟩
  obtain ⟨w4, hw4⟩ : ∃ x, w3.alloc (.cells #[.slice (some ⟨w.heap.size, 0, none⟩) 2 2, .slice (some ⟨w.heap.size + 1 + 1, 0, none⟩) 1 1, .int .i64 1] 25) = x := ⟨_, rfl⟩
  rw [hw1, hw2, hw3, hw4]
  obtain ⟨b0, hb0⟩ : ∃ x, w.heap.size = x := ⟨_, rfl⟩
  have hb1 : w1.heap.size = b0 + 1 := by rw [← hw1, ← hb0]; simp
  have hb2 : w2.heap.size = b0 + 1 + 1 := by rw [← hw2, ← hb1]; simp
  have hb3 : w3.heap.size = b0 + 1 + 1 + 1 := by rw [← hw3, ← hb2]; simp
  rw [hb0] at hw3 hw4 ⊢
  have k1 : w1.heap[b0]? = some (.cells #[.int .i64 1, .int .i64 1, .int .i64 0, .int .i64 0, .int .i64 0, .int .i64 0, .int .i64 0, .int .i64 0] 94 (0, 0)) := by rw [← hw1]; exact heap_alloc_new2 _ _ _ _ hb0.symm
  have k2 : w2.heap[b0 + 1]? = some (.cells #[.int .i32 97, .int .i32 99] 104 (0, 0)) := by rw [← hw2]; exact heap_alloc_new2 _ _ _ _ hb1.symm
  have k3 : w3.heap[b0 + 1 + 1]? = some (.cells #[.slice (some ⟨b0 + 1, 0, none⟩) 1 1] 102 (0, 0)) := by rw [← hw3]; exact heap_alloc_new2 _ _ _ _ hb2.symm
  have k4 : w4.heap[b0 + 1 + 1 + 1]? = some (.cells #[.slice (some ⟨b0, 0, none⟩) 2 2, .slice (some ⟨b0 + 1 + 1, 0, none⟩) 1 1, .int .i64 1] 25 (0, 0)) := by rw [← hw4]; exact heap_alloc_new2 _ _ _ _ hb3.symm
  have B1 : Below w.heap.size w w1 := by rw [← hw1]; exact below_alloc (Below.refl _ _) _
  have B2 : Below w1.heap.size w1 w2 := by rw [← hw2]; exact below_alloc (Below.refl _ _) _
  have B3 : Below w2.heap.size w2 w3 := by rw [← hw3]; exact below_alloc (Below.refl _ _) _
  have B4 : Below w3.heap.size w3 w4 := by rw [← hw4]; exact below_alloc (Below.refl _ _) _
  have j1 := blk_later (blk_later (blk_later k1 B2) B3) B4
  have j2 := blk_later (blk_later k2 B3) B4
  have j3 := blk_later k3 B4
  have hPg : PgAt w4 (some ⟨b0, 0, none⟩) exL (some ⟨b0 + 1 + 1, 0, none⟩) [⟨some ⟨b0 + 1, 0, none⟩, 1, [(97, 99)]⟩] :=
    ⟨Sl.of_cells (xs := i4s exL) (cells_of j1), Sl.of_cells (xs := [clV ⟨some ⟨b0 + 1, 0, none⟩, 1, [(97, 99)]⟩]) (cells_of j3),
      (fun x hx => by
        obtain rfl : x = ⟨some ⟨b0 + 1, 0, none⟩, 1, [(97, 99)]⟩ := by simpa using hx
        exact ⟨Rs.of_two j2, by show 1 ≤ maxLen; decide⟩), by decide, by show 1 ≤ maxLen; decide⟩
  have HB := Lib.hid (below_then (below_then (below_then B1 B2) B3) B4)
  have HPG := Lib.hid hPg
  have HX := Lib.hid k4
  clear hw1 hw2 hw3 hw4 hb1 hb2 hb3 k1 k2 k3 B1 B2 B3 B4 j1 j2 j3 hPg hb0
  obtain ⟨p0, p1, p2⟩ := blk_cells3 k4
  clear k4
  go_wp2_with fail
  clear p0 p1 p2
  refine (CP.out _ _ _ _ HPG.out).mono ?_
  rintro _ w5 ⟨rfl, hb⟩
  have HB5 := Lib.hid (below_then HB.out hb)
  have HPG5 := Lib.hid (HPG.out.below hb)
  have HX5 := Lib.hid (blk_later HX.out hb)
  clear hb HPG HX HB
  go_wp2_with fail
  refine (CG.out _).mono ?_
  rintro _ w6 ⟨I, c, C, d, K, hK, rfl, hP, hb⟩
  obtain ⟨A, ac, rfl⟩ := one_class hK
  rw [show exL.length = 2 from rfl]
  unfold pgV
  rw [show [(⟨A, ac, [(97, 99)]⟩ : Cs)].length = 1 from rfl]
  have HB_1 := Lib.hid (below_then HB5.out hb)
  have HPG_1 := Lib.hid (HPG5.out.below hb)
  have HX_1 := Lib.hid (blk_later HX5.out hb)
  clear hb HB5 HPG5 HX5
  have HQ_0 := Lib.hid hP
  clear hP hK
  go_wp2_with fail
  obtain ⟨w7, hw⟩ : ∃ x, w6.alloc (.cells #[.slice I 2 c, .slice C 1 d, .int .i64 1] 25) = x := ⟨_, rfl⟩
  have hb : Below w6.heap.size w6 w7 := by rw [← hw]; exact below_alloc (Below.refl _ _) _
  have hx : w7.heap[w6.heap.size]? = some (.cells #[.slice I 2 c, .slice C 1 d, .int .i64 1] 25 (0, 0)) := by rw [← hw]; exact heap_alloc_new2 _ _ _ _ rfl
  have HB_2 := Lib.hid (below_then HB_1.out hb)
  have HPG_2 := Lib.hid (HPG_1.out.below hb)
  have HX_2 := Lib.hid (blk_later HX_1.out hb)
  have HQ_2 := Lib.hid (HQ_0.out.below hb)
  clear hb HB_1 HPG_1 HX_1 HQ_0
  rw [hw]
  obtain ⟨yb, hbn⟩ : ∃ x, w6.heap.size = x := ⟨_, rfl⟩
  rw [hbn] at hx ⊢
  have HY_02 := Lib.hid hx
  clear hw hx hbn
  refine (CK.out _).mono ?_
  rintro _ w8 ⟨rfl, hw8⟩
  subst hw8
  go_wp2_with fail
  refine (CE.out _).mono ?_
  rintro _ w9 ⟨rfl, hb⟩
  have HB_3 := Lib.hid (below_then HB_2.out hb)
  have HPG_3 := Lib.hid (HPG_2.out.below hb)
  have HX_3 := Lib.hid (blk_later HX_2.out hb)
  have HQ_3 := Lib.hid (HQ_2.out.below hb)
  have HY_3 := Lib.hid (blk_later HY_02.out hb)
  clear hb HB_2 HPG_2 HX_2 HQ_2 HY_02
  unfold pg0
  go_wp2_with fail
  obtain ⟨w10, hw⟩ : ∃ x, w9.alloc (.cells #[.slice none 0 0, .slice none 0 0, .int .i64 0] 25) = x := ⟨_, rfl⟩
  have hb : Below w9.heap.size w9 w10 := by rw [← hw]; exact below_alloc (Below.refl _ _) _
  have hx : w10.heap[w9.heap.size]? = some (.cells #[.slice none 0 0, .slice none 0 0, .int .i64 0] 25 (0, 0)) := by rw [← hw]; exact heap_alloc_new2 _ _ _ _ rfl
  have HB_4 := Lib.hid (below_then HB_3.out hb)
  have HPG_4 := Lib.hid (HPG_3.out.below hb)
  have HX_4 := Lib.hid (blk_later HX_3.out hb)
  have HQ_4 := Lib.hid (HQ_3.out.below hb)
  have HY_4 := Lib.hid (blk_later HY_3.out hb)
  clear hb HB_3 HPG_3 HX_3 HQ_3 HY_3
  rw [hw]
  clear hw hx
  refine (CO.out _).mono ?_
  rintro _ w11 ⟨rfl, hb⟩
  have HB_5 := Lib.hid (below_then HB_4.out hb)
  have HPG_5 := Lib.hid (HPG_4.out.below hb)
  have HX_5 := Lib.hid (blk_later HX_4.out hb)
  have HQ_5 := Lib.hid (HQ_4.out.below hb)
  have HY_5 := Lib.hid (blk_later HY_4.out hb)
  clear hb HB_4 HPG_4 HX_4 HQ_4 HY_4
  unfold tb0
  go_wp2_with fail
  obtain ⟨w12, hw⟩ : ∃ x, w11.alloc (.cells #[.slice none 0 0, .slice none 0 0, .slice none 0 0] 34) = x := ⟨_, rfl⟩
  have hb : Below w11.heap.size w11 w12 := by rw [← hw]; exact below_alloc (Below.refl _ _) _
  have hx : w12.heap[w11.heap.size]? = some (.cells #[.slice none 0 0, .slice none 0 0, .slice none 0 0] 34 (0, 0)) := by rw [← hw]; exact heap_alloc_new2 _ _ _ _ rfl
  have HB_6 := Lib.hid (below_then HB_5.out hb)
  have HPG_6 := Lib.hid (HPG_5.out.below hb)
  have HX_6 := Lib.hid (blk_later HX_5.out hb)
  have HQ_6 := Lib.hid (HQ_5.out.below hb)
  have HY_6 := Lib.hid (blk_later HY_5.out hb)
  clear hb HB_5 HPG_5 HX_5 HQ_5 HY_5
  rw [hw]
  clear hw hx
  refine (CN.out _).mono ?_
  rintro _ w13 ⟨rfl, hb⟩
  have HB_7 := Lib.hid (below_then HB_6.out hb)
  have HPG_7 := Lib.hid (HPG_6.out.below hb)
  have HX_7 := Lib.hid (blk_later HX_6.out hb)
  have HQ_7 := Lib.hid (HQ_6.out.below hb)
  have HY_7 := Lib.hid (blk_later HY_6.out hb)
  clear hb HB_6 HPG_6 HX_6 HQ_6 HY_6
  go_wp2_with fail
  obtain ⟨t0, ht0⟩ : ∃ x, w13.heap.size = x := ⟨_, rfl⟩
  rw [ht0]
  have hl := tab_lit w13 t0 ht0
  obtain ⟨w14, hw14⟩ : ∃ x, (((w13.alloc (.cells #[.int .i32 0] 21)).alloc (.cells #[.int .i64 0] 3)).alloc (.cells #[.slice (some ⟨t0 + 1, 0, none⟩) 1 1] 60)).alloc (.cells #[.bool true] 4) = x := ⟨_, rfl⟩
  rw [hw14] at hl ⊢
  obtain ⟨hT, hb⟩ := hl
  have HB_8 := Lib.hid (below_then HB_7.out hb)
  have HPG_8 := Lib.hid (HPG_7.out.below hb)
  have HX_8 := Lib.hid (blk_later HX_7.out hb)
  have HQ_8 := Lib.hid (HQ_7.out.below hb)
  have HY_8 := Lib.hid (blk_later HY_7.out hb)
  clear hb HB_7 HPG_7 HX_7 HQ_7 HY_7
  refine (CT.out _ _ _ _ _ hT).mono ?_
  rintro _ w15 ⟨rfl, hb⟩
  clear hT hw14 ht0
  have HB_9 := Lib.hid (below_then HB_8.out hb)
  have HPG_9 := Lib.hid (HPG_8.out.below hb)
  have HX_9 := Lib.hid (blk_later HX_8.out hb)
  have HQ_9 := Lib.hid (HQ_8.out.below hb)
  have HY_9 := Lib.hid (blk_later HY_8.out hb)
  clear hb HB_8 HPG_8 HX_8 HQ_8 HY_8
  go_wp2_with fail
  refine (CU.out _).mono ?_
  rintro _ w16 ⟨PA, pc, NA, R, nc, AA, aac, hR, rfl, hT, hb⟩
  obtain ⟨RA, rc, rfl⟩ := one_row hR
  unfold tabV
  rw [show ([0] : List Int).length = 1 from rfl, show [((RA, rc, [0]) : Row)].length = 1 from rfl, show [true].length = 1 from rfl]
  have HB_10 := Lib.hid (below_then HB_9.out hb)
  have HPG_10 := Lib.hid (HPG_9.out.below hb)
  have HX_10 := Lib.hid (blk_later HX_9.out hb)
  have HQ_10 := Lib.hid (HQ_9.out.below hb)
  have HY_10 := Lib.hid (blk_later HY_9.out hb)
  clear hb HB_9 HPG_9 HX_9 HQ_9 HY_9
  have HTT_0 := Lib.hid hT
  clear hT hR
  go_wp2_with fail
  obtain ⟨w17, hw⟩ : ∃ x, w16.alloc (.cells #[.slice PA 1 pc, .slice NA 1 nc, .slice AA 1 aac] 34) = x := ⟨_, rfl⟩
  have hb : Below w16.heap.size w16 w17 := by rw [← hw]; exact below_alloc (Below.refl _ _) _
  have hx : w17.heap[w16.heap.size]? = some (.cells #[.slice PA 1 pc, .slice NA 1 nc, .slice AA 1 aac] 34 (0, 0)) := by rw [← hw]; exact heap_alloc_new2 _ _ _ _ rfl
  have HB_11 := Lib.hid (below_then HB_10.out hb)
  have HPG_11 := Lib.hid (HPG_10.out.below hb)
  have HX_11 := Lib.hid (blk_later HX_10.out hb)
  have HQ_11 := Lib.hid (HQ_10.out.below hb)
  have HY_11 := Lib.hid (blk_later HY_10.out hb)
  have HTT_11 := Lib.hid (HTT_0.out.below hb)
  clear hb HB_10 HPG_10 HX_10 HQ_10 HY_10 HTT_0
  rw [hw]
  obtain ⟨zb, hbn⟩ : ∃ x, w16.heap.size = x := ⟨_, rfl⟩
  rw [hbn] at hx ⊢
  have HZ_011 := Lib.hid hx
  clear hw hx hbn
  obtain ⟨p0, p1, p2⟩ := blk_cells3 HX_11.out
  obtain ⟨q0, q1, q2⟩ := blk_cells3 HY_11.out
  refine (CS.out _).mono ?_
  rintro _ w18 ⟨rfl, hb⟩
  clear p0 p1 p2 q0 q1 q2
  have HB_12 := Lib.hid (below_then HB_11.out hb)
  have HPG_12 := Lib.hid (HPG_11.out.below hb)
  have HX_12 := Lib.hid (blk_later HX_11.out hb)
  have HQ_12 := Lib.hid (HQ_11.out.below hb)
  have HY_12 := Lib.hid (blk_later HY_11.out hb)
  have HTT_12 := Lib.hid (HTT_11.out.below hb)
  have HZ_12 := Lib.hid (blk_later HZ_011.out hb)
  clear hb HB_11 HPG_11 HX_11 HQ_11 HY_11 HTT_11 HZ_011
  obtain ⟨p0, p1, p2⟩ := blk_cells3 HX_12.out
  obtain ⟨q0, q1, q2⟩ := blk_cells3 HY_12.out
  have cs := psame_any _ _ _ _ _ _ _ _ 2 c 1 d 1 1 w18 HPG_12.out HQ_12.out
  have hsm : pgS exL exL [⟨some ⟨b0 + 1, 0, none⟩, 1, [(97, 99)]⟩] [⟨A, ac, [(97, 99)]⟩] 1 1 = true := by unfold pgS; simp
  rw [hsm] at cs
  unfold pgV at cs
  rw [show exL.length = 2 from rfl, show [(⟨some ⟨b0 + 1, 0, none⟩, 1, [(97, 99)]⟩ : Cs)].length = 1 from rfl, show [(⟨A, ac, [(97, 99)]⟩ : Cs)].length = 1 from rfl] at cs
  have CQ := Lib.hid cs
  clear cs hsm
  go_wp2_with fail
  refine CQ.out.mono ?_
  rintro _ w19 ⟨rfl, hb⟩
  clear p0 p1 p2 q0 q1 q2
  have HB_13 := Lib.hid (below_then HB_12.out hb)
  have HPG_13 := Lib.hid (HPG_12.out.below hb)
  have HX_13 := Lib.hid (blk_later HX_12.out hb)
  have HQ_13 := Lib.hid (HQ_12.out.below hb)
  have HY_13 := Lib.hid (blk_later HY_12.out hb)
  have HTT_13 := Lib.hid (HTT_12.out.below hb)
  have HZ_13 := Lib.hid (blk_later HZ_12.out hb)
  clear hb HB_12 HPG_12 HX_12 HQ_12 HY_12 HTT_12 HZ_12
  obtain ⟨z0, z1, z2⟩ := blk_cells3 HZ_13.out
  have hacc := HTT_13.out.acc
  obtain ⟨ab, ao, rfl, _, hc⟩ := hacc (by decide)
  have c0 := hc 0 (.bool true) rfl
  rw [Nat.add_zero] at c0
  clear hacc hc
  go_wp2
  go_ret
  exact ⟨rfl, HB_13.out⟩
end Go.Proofs.YtmiacgkidldjmaaGreatDoor
