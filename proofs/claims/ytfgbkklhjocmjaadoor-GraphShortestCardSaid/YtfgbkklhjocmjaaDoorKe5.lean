/- Joined by a program out of this work's texts and the print's (what the law needs of them): Xq18, Xq3, Xq7, Xq12, GvVS, GvEv, GvP1, GvQ1, GvQ2, GvP2. -/
import Derived.Test.YtfgbkklhjocmjaaDoorKe4
set_option linter.unusedVariables false
set_option linter.unusedSimpArgs false
namespace Go.Proofs.YtfgbkklhjocmjaaDoor.Xq
open Go.RowKit Go.Proofs.YtfgbkklhjocmjaaDoorW.PrintWords Go.Proofs.YtfgbkklhjocmjaaDoorW.PrintLast Go.Proofs.YtfgbkklhjocmjaaDoorW.PrintMore
attribute [local go_sem] max2_int min2_int max_two min_two max_three min_three max_four min_four
mutual
def w4_GraphShortest.j0 : Nat → List Int → Bool → Int → List (S53) → Option (Bool)
 | 0, _, _, _, _ => none
 | k + 1, x1, x29, x494000, x494001 => if x29 = true then ((w4_awake.f).bind fun t495 => (some t495)) else (w4_GraphShortest.l0 k x1 0 x494000 x494001)
def w4_GraphShortest.l0 : Nat → List Int → Int → Int → List (S53) → Option (Bool)
 | 0, _, _, _, _ => none
 | k + 1, x1, x5, x494000, x494001 => if x5 < (x1.length : Int) then (if 0 ≤ x5 then (if (rd x1 x5) < 0 then ((w4_awake.f).bind fun t497 => (some t497)) else (if (rd x1 x5) ≥ x494000 then ((w4_awake.f).bind fun t499 => (some t499)) else (if x5 > 0 then (if 0 ≤ (wrap64 (x5 - 1)) then (if (wrap64 (x5 - 1)) < (x1.length : Int) then ((r4_Succ.f k x494000 x494001 (rd x1 (wrap64 (x5 - 1)))).bind fun t501 => ((w4_in.f k t501 (rd x1 x5)).bind fun t505 => (if t505 = true then (w4_GraphShortest.l0 k x1 (wrap64 (x5 + 1)) x494000 x494001) else ((w4_awake.f).bind fun t506 => (some t506))))) else (none)) else (none)) else (w4_GraphShortest.l0 k x1 (wrap64 (x5 + 1)) x494000 x494001)))) else (none)) else (if 0 < (x1.length : Int) then (if 0 ≤ (wrap64 ((x1.length : Int) - 1)) then (if (wrap64 ((x1.length : Int) - 1)) < (x1.length : Int) then ((graph_Path.f x494000 x494001 (rd x1 0) (rd x1 (wrap64 ((x1.length : Int) - 1)))).bind fun bt509 => (if bt509.2 = true then (if (bt509.1.length : Int) = 0 then (w4_GraphShortest.j2 k (rd x1 0) (rd x1 (wrap64 ((x1.length : Int) - 1))) bt509.1 true x494000 x494001) else (if (bt509.1.length : Int) > (x1.length : Int) then (w4_GraphShortest.j2 k (rd x1 0) (rd x1 (wrap64 ((x1.length : Int) - 1))) bt509.1 true x494000 x494001) else (if 0 < (bt509.1.length : Int) then (if (rd bt509.1 0) = (rd x1 0) then (if 0 ≤ (wrap64 ((bt509.1.length : Int) - 1)) then (if (wrap64 ((bt509.1.length : Int) - 1)) < (bt509.1.length : Int) then (w4_GraphShortest.j2 k (rd x1 0) (rd x1 (wrap64 ((x1.length : Int) - 1))) bt509.1 ((rd bt509.1 (wrap64 ((bt509.1.length : Int) - 1))) != (rd x1 (wrap64 ((x1.length : Int) - 1)))) x494000 x494001) else (none)) else (none)) else (w4_GraphShortest.j2 k (rd x1 0) (rd x1 (wrap64 ((x1.length : Int) - 1))) bt509.1 true x494000 x494001)) else (none)))) else (w4_GraphShortest.j2 k (rd x1 0) (rd x1 (wrap64 ((x1.length : Int) - 1))) bt509.1 true x494000 x494001))) else (none)) else (none)) else (none))
def w4_GraphShortest.j2 : Nat → Int → Int → List Int → Bool → Int → List (S53) → Option (Bool)
 | 0, _, _, _, _, _, _ => none
 | k + 1, x6, x7, x8, x117, x494000, x494001 => if x117 = true then (some false) else (w4_GraphShortest.l1 k x6 x7 x8 1 x494000 x494001)
def w4_GraphShortest.l1 : Nat → Int → Int → List Int → Int → Int → List (S53) → Option (Bool)
 | 0, _, _, _, _, _, _ => none
 | k + 1, x6, x7, x8, x10, x494000, x494001 => if x10 < (x8.length : Int) then (if 0 ≤ (wrap64 (x10 - 1)) then (if (wrap64 (x10 - 1)) < (x8.length : Int) then ((graph_Succ.f x494000 x494001 (rd x8 (wrap64 (x10 - 1)))).bind fun t524 => (if 0 ≤ x10 then ((w4_in.f k t524 (rd x8 x10)).bind fun t528 => (if t528 = true then (w4_GraphShortest.l1 k x6 x7 x8 (wrap64 (x10 + 1)) x494000 x494001) else (some false))) else (none))) else (none)) else (none)) else ((graph_Reach.f x494000 x494001 (([x6] : List Int))).bind fun t518 => ((w4_in.f k t518 x7).bind fun t521 => (if t521 = true then ((w4_awake.f).bind fun t522 => (some t522)) else (some false))))
end
def w4_GraphShortest.f (k : Nat) (a0_0 : Int) (l0_1 : List (S53)) (l1 : List Int) : Option (Bool) := if (l0_1.length : Int) > 200 then (w4_GraphShortest.j0 k l1 true a0_0 l0_1) else (if (l1.length : Int) = 0 then (w4_GraphShortest.j0 k l1 true a0_0 l0_1) else (if (l1.length : Int) > 100 then (w4_GraphShortest.j0 k l1 true a0_0 l0_1) else ((r4_Check.f k a0_0 l0_1).bind fun t494 => (w4_GraphShortest.j0 k l1 (t494 != 0) a0_0 l0_1))))
def w4_GraphShortest.T6 : Bool × List (List Nat × List Nat) := (true, [([], []), ([], []), ([0, 1], [0, 1]), ([2], [2]), ([3], [3]), ([4], [4]), ([5], [5]), ([5], [5]), ([6, 7, 5], [5, 6, 7]), ([8, 5], [5, 8]), ([5], [5]), ([10, 5], [5, 10]), ([9, 11, 5], [5, 9, 11]), ([5, 12], [5, 12]), ([13, 5], [13]), ([14], [14]), ([15, 14], [14, 15]), ([16, 14, 14], [14, 16]), ([17], [17]), ([17], [17]), ([17], [17]), ([20, 17], [17, 20]), ([19, 21, 17], [17, 19, 21]), ([22, 17], [17, 22]), ([18, 23, 17, 17], [17, 18, 23]), ([17], [17]), ([17], [17]), ([25, 26, 17], [17, 25, 26]), ([27, 17], [17, 27]), ([24, 28, 24, 17], [17, 24, 28]), ([29, 17], [17, 29]), ([17, 30, 14], [14, 17, 30]), ([14, 31], [14, 31])])
def w4_GraphShortest.B6 : List Nat := [0, 0, 3, 7, 15, 31, 63, 63, 255, 511, 63, 1087, 4095, 8191, 16383, 32767, 65535, 131071, 262143, 262143, 262143, 1310719, 3932159, 8126463, 16777215, 262143, 262143, 100925439, 235143167, 536870911, 1073741823, 2147483647, 4294967295]
theorem w4_GraphShortest.tab6 : rtab .any (opsOf Tryd.f8 6) = w4_GraphShortest.T6 := by kernel_rfl
theorem w4_GraphShortest.bits6 : waitsOk w4_GraphShortest.T6.2 w4_GraphShortest.B6 = true := by kernel_rfl
def w4_GraphShortest.T8 : Bool × List (List Nat × List Nat) := (true, [([], []), ([0], [0]), ([1], [1]), ([], []), ([], []), ([4], [4]), ([5], [5]), ([3, 6], [3, 6]), ([7], [7]), ([2, 0, 1, 2], [2]), ([8, 9, 0, 1, 2, 3, 4, 5, 6, 7, 8, 9], [8])])
def w4_GraphShortest.B8 : List Nat := [0, 1, 3, 0, 0, 16, 48, 120, 248, 7, 1023]
theorem w4_GraphShortest.tab8 : rtab .any (opsOf Tryd.f8 8) = w4_GraphShortest.T8 := by kernel_rfl
theorem w4_GraphShortest.bits8 : waitsOk w4_GraphShortest.T8.2 w4_GraphShortest.B8 = true := by kernel_rfl
def w4_GraphShortest.T15 : Bool × List (List Nat × List Nat) := (true, [([], []), ([], []), ([], []), ([2], [2]), ([1, 3], [1, 3]), ([4], [4]), ([0, 5], [0, 5]), ([], []), ([], []), ([7, 8], [7, 8]), ([9], [9]), ([6, 10, 6], [6, 10]), ([11], [11])])
def w4_GraphShortest.B15 : List Nat := [0, 0, 0, 4, 14, 30, 63, 0, 0, 384, 896, 2047, 4095]
theorem w4_GraphShortest.tab15 : rtab .any (opsOf Tryd.f8 15) = w4_GraphShortest.T15 := by kernel_rfl
theorem w4_GraphShortest.bits15 : waitsOk w4_GraphShortest.T15.2 w4_GraphShortest.B15 = true := by kernel_rfl
set_option maxHeartbeats 8000000 in
set_option maxRecDepth 100000 in
theorem w4_GraphShortest.calls (k : Nat) (a0_0 : Int) (A0_1 : Option Addr) (c0_1 : Nat) (l0_1 : List (S53)) (A1 : Option Addr) (c1 : Nat) (l1 : List Int) (r : Bool) (w : World) (hr0_1 : Kd.C k53 w A0_1 l0_1.length l0_1) (hc0_1 : l0_1.length ≤ c0_1) (hr1 : Kd.C (Kd.int .i64) w A1 l1.length l1) (hc1 : l1.length ≤ c1) (hG_ : TabW w) (h : w4_GraphShortest.f k a0_0 l0_1 l1 = some r) :
  Calls Tryd.prog 8 #[.agg #[.int .i64 a0_0, .slice A0_1 l0_1.length c0_1], .slice A1 l1.length c1] w fun e w' => e = .returned (.bool r) ∧ Below w.heap.size w w' := by
 have hu24 := Tryd.underlying24
 have HR0_1 := aM_ hr0_1
 have HC0_1 := aM_ hc0_1
 clear hr0_1 hc0_1
 have HR1 := aM_ hr1
 have HC1 := aM_ hc1
 clear hr1 hc1
 have HB := aM_ (Below.refl w.heap.size w)
 have HG_ := aM_ hG_
 clear hG_
 have H : (if (l0_1.length : Int) > 200 then (w4_GraphShortest.j0 k l1 true a0_0 l0_1) else (if (l1.length : Int) = 0 then (w4_GraphShortest.j0 k l1 true a0_0 l0_1) else (if (l1.length : Int) > 100 then (w4_GraphShortest.j0 k l1 true a0_0 l0_1) else ((r4_Check.f k a0_0 l0_1).bind fun t494 => (w4_GraphShortest.j0 k l1 (t494 != 0) a0_0 l0_1))))) = some r := h
 clear h
 have HC3 := aM_ H
 clear H
 go_enter Tryd.func8, Tryd.ntmps8
 go_upto_region 1 with (first | ((with_reducible refine gate_dst (N := 2) rfl ?_); (try (refine gate_guard (by rfl) ?_; dsimp only)); refine box_event ?hg (N := 2) ?hd (cs := #[.int .i64 a0_0, .slice A0_1 l0_1.length c0_1]) (t := 24) ?hr ?_; (case hd => rfl); (case hg => rfl); (case hr => first | (go_simp; done) | (go_simp; rfl)); intro gb493 hg w4 hbox hb; have n0_ := aM_ (below_step (by repeat (first | (with_reducible first | exact HB.out | apply bA_ | apply bB_ | apply bC_) | exact HB.out)) hb); have n1_ := aM_ (hbox); have n2_ := aM_ ((by rw [hg]; exact (below_size (by repeat (first | (with_reducible first | exact HB.out | apply bA_ | apply bB_ | apply bC_) | exact HB.out))) : w.heap.size ≤ gb493)); have n3_ := aM_ ((by rw [hg]; exact (below_size (by repeat (first | (with_reducible first | exact HB.out | apply bA_ | apply bB_ | apply bC_) | exact HB.out))) : w.heap.size ≤ gb493)); clear HB; have HB := n0_; have BK493 := n1_; have GW493 := n2_; have GE493 := n3_; clear n0_ n1_ n2_ n3_; clear hb hbox hg))
 (try simp only [Act.put, uA_, uB_, uC_])
 go_cut [29] (fun v29 wc => ∃ (kq : Nat) (x29_2 : Bool), v29 = .bool x29_2 ∧ Aside0 (w4_GraphShortest.j0 kq l1 x29_2 a0_0 l0_1 = some r) ∧ Aside0 (kq ≤ k) ∧ Aside0 (wc.heap[gb493]? = some (.cells #[.int .i64 a0_0, (.slice A0_1 l0_1.length c0_1)] 24 (0, 0))) ∧ Aside0 (Below w.heap.size w wc))
 case first =>
  have H := HC3.out
  clear HC3
  by_cases c5 : (l0_1.length : Int) > 200
  ·rw [if_pos c5] at H
   have c5b0 : decide (200 < (l0_1.length : Int)) = true := decide_eq_true c5
   have c5b1 : decide (200 < l0_1.length) = true := decide_eq_true (by omega)
   clear c5
   (first | rw [c5b0] | (simp only [i64_w, i32_w]; rw [c5b0]) | skip)
   have H' := aM_ H
   clear H
   have hcz6_0 : w4.cell? ⟨gb493, 0, none⟩ = some (.int .i64 a0_0) := (blk_cell BK493.out 0).trans rfl
   have hcz6_1 : w4.cell? ⟨gb493, 1, none⟩ = some (.slice A0_1 l0_1.length c0_1) := (blk_cell BK493.out 1).trans rfl
   have hfz6_0 := blk_frozen BK493.out 0
   have hfz6_1 := blk_frozen BK493.out 1
   go_wp2
   go_meet
   case rel => exact ⟨_, (true), (by first | rfl | (simp; done) | (simp [*]; done)), H', ⟨by first | omega | exact Nat.le_refl _⟩, ⟨by (with_reducible repeat (first | refine blk_drewN ?_ _ | refine blk_drew ?_ | refine blk_alloc ?_ _)); exact BK493.out⟩, ⟨by repeat (first | (with_reducible first | exact HB.out | apply bA_ | apply bB_ | apply bC_ | refine below_set ?_ GE493.out) | exact HB.out)⟩⟩
  ·rw [if_neg c5] at H
   have c5b0 : decide (200 < (l0_1.length : Int)) = false := decide_eq_false c5
   have c5b1 : decide (200 < l0_1.length) = false := decide_eq_false (by omega)
   clear c5
   (first | rw [c5b0] | (simp only [i64_w, i32_w]; rw [c5b0]) | skip)
   by_cases c7 : (l1.length : Int) = 0
   ·rw [if_pos c7] at H
    have c7b0 : ((l1.length : Int) == 0) = true := beq_iff_eq.mpr c7
    have c7b1 : ((l1.length : Int) != 0) = false := bne_eq_false_iff_eq.mpr c7
    clear c7
    have H' := aM_ H
    clear H
    have hcz8_0 : w4.cell? ⟨gb493, 0, none⟩ = some (.int .i64 a0_0) := (blk_cell BK493.out 0).trans rfl
    have hcz8_1 : w4.cell? ⟨gb493, 1, none⟩ = some (.slice A0_1 l0_1.length c0_1) := (blk_cell BK493.out 1).trans rfl
    have hfz8_0 := blk_frozen BK493.out 0
    have hfz8_1 := blk_frozen BK493.out 1
    go_wp2
    go_meet
    case rel => exact ⟨_, (true), (by first | rfl | (simp; done) | (simp [*]; done)), H', ⟨by first | omega | exact Nat.le_refl _⟩, ⟨by (with_reducible repeat (first | refine blk_drewN ?_ _ | refine blk_drew ?_ | refine blk_alloc ?_ _)); exact BK493.out⟩, ⟨by repeat (first | (with_reducible first | exact HB.out | apply bA_ | apply bB_ | apply bC_ | refine below_set ?_ GE493.out) | exact HB.out)⟩⟩
   ·rw [if_neg c7] at H
    have c7b0 : ((l1.length : Int) == 0) = false := beq_eq_false_iff_ne.mpr c7
    have c7b1 : ((l1.length : Int) != 0) = true := bne_iff_ne.mpr c7
    have c7b2 : ¬ (l1 = []) := fun h_ => c7 (by rw [h_]; rfl)
    by_cases c9 : (l1.length : Int) > 100
    ·rw [if_pos c9] at H
     have c9b0 : decide (100 < (l1.length : Int)) = true := decide_eq_true c9
     have c9b1 : decide (100 < l1.length) = true := decide_eq_true (by omega)
     clear c9
     have H' := aM_ H
     clear H
     have hcz10_0 : w4.cell? ⟨gb493, 0, none⟩ = some (.int .i64 a0_0) := (blk_cell BK493.out 0).trans rfl
     have hcz10_1 : w4.cell? ⟨gb493, 1, none⟩ = some (.slice A0_1 l0_1.length c0_1) := (blk_cell BK493.out 1).trans rfl
     have hfz10_0 := blk_frozen BK493.out 0
     have hfz10_1 := blk_frozen BK493.out 1
     go_wp2
     go_meet
     case rel => exact ⟨_, (true), (by first | rfl | (simp; done) | (simp [*]; done)), H', ⟨by first | omega | exact Nat.le_refl _⟩, ⟨by (with_reducible repeat (first | refine blk_drewN ?_ _ | refine blk_drew ?_ | refine blk_alloc ?_ _)); exact BK493.out⟩, ⟨by repeat (first | (with_reducible first | exact HB.out | apply bA_ | apply bB_ | apply bC_ | refine below_set ?_ GE493.out) | exact HB.out)⟩⟩
    ·rw [if_neg c9] at H
     have c9b0 : decide (100 < (l1.length : Int)) = false := decide_eq_false c9
     have c9b1 : decide (100 < l1.length) = false := decide_eq_false (by omega)
     clear c9
     replace H := Option.bind_eq_some_iff.mp H
     obtain ⟨t494, A110, H⟩ := H
     replace H : (w4_GraphShortest.j0 k l1 (t494 != 0) a0_0 l0_1) = some r := H
     have A11 := aM_ A110
     clear A110
     have H' := aM_ H
     clear H
     have hcz12_0 : w4.cell? ⟨gb493, 0, none⟩ = some (.int .i64 a0_0) := (blk_cell BK493.out 0).trans rfl
     have hcz12_1 : w4.cell? ⟨gb493, 1, none⟩ = some (.slice A0_1 l0_1.length c0_1) := (blk_cell BK493.out 1).trans rfl
     have hfz12_0 := blk_frozen BK493.out 0
     have hfz12_1 := blk_frozen BK493.out 1
     go_wp2_with (first | (go_at_call 38; (with_reducible refine (r4_Check.calls k a0_0 _ _ l0_1 t494 _ ?side1 ?side2 A11.out).mono ?_); (case side1 => repeat (first | exact (Kd.C_below HR0_1.out HB.out) | (with_reducible refine Kd.C_alloc ?_ _) | (with_reducible refine Kd.C_drewN ?_ _) | (with_reducible refine Kd.C_drew ?_))); (case side2 => exact HC0_1.out); rintro e w13 ⟨rfl, hb⟩; have n0_ := aM_ (blk_below (g := gb493) (o := .cells #[.int .i64 a0_0, .slice A0_1 l0_1.length c0_1] 24 (0, 0)) (by (with_reducible repeat (first | refine blk_drewN ?_ _ | refine blk_drew ?_ | refine blk_alloc ?_ _)); exact BK493.out) hb); have n1_ := aM_ (below_step (by repeat (first | (with_reducible first | exact HB.out | apply bA_ | apply bB_ | apply bC_ | refine below_set ?_ GE493.out) | exact HB.out)) hb); clear BK493; clear HB; have BK493 := n0_; have HB := n1_; clear n0_ n1_; (try clear hb); (try clear hb2); (try clear hk); (try clear hi)))
     go_meet
     case rel => exact ⟨_, ((t494 != 0)), (by first | rfl | (simp; done) | (simp [*]; done)), H', ⟨by first | omega | exact Nat.le_refl _⟩, ⟨by (with_reducible repeat (first | refine blk_drewN ?_ _ | refine blk_drew ?_ | refine blk_alloc ?_ _)); exact BK493.out⟩, ⟨by repeat (first | (with_reducible first | exact HB.out | apply bA_ | apply bB_ | apply bC_ | refine below_set ?_ GE493.out) | exact HB.out)⟩⟩
 case rest =>
  clear HC3
  try clear c1
  try clear p2
  try clear c5
  try clear c5b0
  try clear c5b1
  try clear c7
  try clear c7b0
  try clear c7b1
  try clear c7b2
  try clear c8
  try clear c9
  try clear c9b0
  try clear c9b1
  try clear hcz10_0
  try clear hcz10_1
  try clear hcz12_0
  try clear hcz12_1
  try clear hcz6_0
  try clear hcz6_1
  try clear hcz8_0
  try clear hcz8_1
  try clear hfz10_0
  try clear hfz10_1
  try clear hfz12_0
  try clear hfz12_1
  try clear hfz6_0
  try clear hfz6_1
  try clear hfz8_0
  try clear hfz8_1
  obtain ⟨kq, x29_2, rfl, HA, HJ2, BK493, HB⟩ := hcut
  cases kq with
  | zero => exact absurd HA.out (by simp [w4_GraphShortest.j0])
  | succ kj2 =>
   have H := HA.out
   clear HA
   simp only [w4_GraphShortest.j0] at H
   by_cases c14 : x29_2 = true
   ·subst c14
    have H1 : ((w4_awake.f).bind fun t495 => (some t495)) = some r := by rw [if_pos rfl] at H; exact H
    clear H
    have H := H1
    clear H1
    replace H := Option.bind_eq_some_iff.mp H
    obtain ⟨t495, A150, H⟩ := H
    replace H : (some t495) = some r := H
    have A15 := aM_ A150
    clear A150
    obtain rfl := Option.some.inj H
    go_wp2_with (first | ((with_reducible refine gate_callee (f := 30) rfl ?_); refine goesL_ (some 30) rfl rfl Tryd.func30 (by kernel_rfl) rfl #[] rfl (by (try simp only [List.map_toArray, List.map_cons, List.map_nil]); first | done | rfl | (simp only [List.length_drop, List.length_take]; rfl)) ?_; (with_reducible refine (w4_awake.calls  t495 _ ?side1 A15.out).mono ?_); (case side1 => exact TabW.below HG_.out (by repeat (first | (with_reducible first | exact HB.out | apply bA_ | apply bB_ | apply bC_ | refine below_set ?_ GE493.out) | exact HB.out))); rintro e w16 ⟨rfl, hb⟩; refine ⟨_, rfl, ?_⟩; have n0_ := aM_ (blk_below (g := gb493) (o := .cells #[.int .i64 a0_0, .slice A0_1 l0_1.length c0_1] 24 (0, 0)) (by (with_reducible repeat (first | refine blk_drewN ?_ _ | refine blk_drew ?_ | refine blk_alloc ?_ _)); exact BK493.out) hb); have n1_ := aM_ (below_step (by repeat (first | (with_reducible first | exact HB.out | apply bA_ | apply bB_ | apply bC_ | refine below_set ?_ GE493.out) | exact HB.out)) hb); clear BK493; clear HB; have BK493 := n0_; have HB := n1_; clear n0_ n1_; (try clear hb); (try clear hb2); (try clear hk); (try clear hi)))
    go_ret
    exact ⟨by first | rfl | (simp [errW_none, errW_some] <;> rfl) | (simp [*, errW_none, errW_some] <;> rfl), by repeat (first | (with_reducible first | exact HB.out | apply bA_ | apply bB_ | apply bC_ | refine below_set ?_ GE493.out) | exact HB.out)⟩
   ·replace c14 := Bool.eq_false_iff.mpr c14
    subst c14
    have H1 : (w4_GraphShortest.l0 kj2 l1 0 a0_0 l0_1) = some r := by rw [if_neg (show ¬ (false = true) by decide)] at H; exact H
    clear H
    have H := H1
    clear H1
    have H' := aM_ H
    clear H
    go_wp2
    go_loopg [5] kj2 (fun kq v5 w' => ∃ (x5_2 : Int), v5 = .int .i64 x5_2 ∧ Aside0 (w4_GraphShortest.l0 kq l1 x5_2 a0_0 l0_1 = some r) ∧ Aside0 (kq ≤ kj2) ∧ Aside0 (w'.heap[gb493]? = some (.cells #[.int .i64 a0_0, (.slice A0_1 l0_1.length c0_1)] 24 (0, 0))) ∧ Aside0 (Below w.heap.size w w'))
    case atStart => exact ⟨(0), (by first | rfl | (simp; done) | (simp [*]; done)), H', ⟨Nat.le_refl _⟩, ⟨by (with_reducible repeat (first | refine blk_drewN ?_ _ | refine blk_drew ?_ | refine blk_alloc ?_ _)); exact BK493.out⟩, ⟨by repeat (first | (with_reducible first | exact HB.out | apply bA_ | apply bB_ | apply bC_ | refine below_set ?_ GE493.out) | exact HB.out)⟩⟩
    case round =>
     clear H'
     try clear c1
     try clear p2
     try clear c3
     try clear c5
     try clear c5b0
     try clear c5b1
     try clear c7
     try clear c7b0
     try clear c7b1
     try clear c7b2
     try clear c8
     try clear c9
     try clear c9b0
     try clear c9b1
     try clear c14
     try clear hcz10_0
     try clear hcz10_1
     try clear hcz12_0
     try clear hcz12_1
     try clear hcz6_0
     try clear hcz6_1
     try clear hcz8_0
     try clear hcz8_1
     try clear hfz10_0
     try clear hfz10_1
     try clear hfz12_0
     try clear hfz12_1
     try clear hfz6_0
     try clear hfz6_1
     try clear hfz8_0
     try clear hfz8_1
     try clear p2
     obtain ⟨x5_2, rfl, HA, HK2, BK493, HB⟩ := hrel
     cases gk with
     | zero => exact absurd HA.out (by simp [w4_GraphShortest.l0])
     | succ k2 =>
      have H := HA.out
      clear HA
      simp only [w4_GraphShortest.l0] at H
      by_cases c17 : x5_2 < (l1.length : Int)
      ·rw [if_pos c17] at H
       have c17b0 : decide (x5_2 < (l1.length : Int)) = true := decide_eq_true c17
       clear c17
       by_cases c18 : 0 ≤ x5_2
       ·rw [if_pos c18] at H
        have c18b0 : decide (0 ≤ x5_2) = true := decide_eq_true c18
        clear c18
        by_cases c19 : (rd l1 x5_2) < 0
        ·rw [if_pos c19] at H
         have c19b0 : decide ((rd l1 x5_2) < 0) = true := decide_eq_true c19
         clear c19
         replace H := Option.bind_eq_some_iff.mp H
         obtain ⟨t497, A200, H⟩ := H
         replace H : (some t497) = some r := H
         have A20 := aM_ A200
         clear A200
         obtain rfl := Option.some.inj H
         try go_wp2
         have n0_ := aM_ (blk_drew BK493.out)
         have n1_ := aM_ (below_drew1 HB.out)
         clear BK493
         clear HB
         have BK493 := n0_
         have HB := n1_
         clear n0_ n1_
         have p496 : 0 ≤ (x5_2 : Int) := of_decide_eq_true (by assumption)
         have q496 : x5_2 < (l1.length : Int) := of_decide_eq_true (by assumption)
         obtain ⟨ad496, e496, hx496_0⟩ := Kd.at_int HR1.out x5_2 p496 q496
         have hw496_0 := hx496_0
         cases e496
         replace hx496_0 := (HB.out.cell (World.block_lt_of_cell? w _ hx496_0)).trans hx496_0
         replace p496 := eq_true p496
         replace q496 := eq_true q496
         refine start_ (n := 33) (S := fun w' => w'.cell? (ad496.add (x5_2).toNat) = some (.int .i64 (rd l1 x5_2))) (ds := []) #[f_,f_,f_,f_,f_,f_,f_,f_,f_,f_,f_,f_,f_,f_,f_,f_,f_,f_,f_,f_,f_,f_,f_,f_,f_,f_,f_,f_,f_,f_,f_,f_,f_] (by kernel_rfl) rfl rfl (((HB.out.cell (World.block_lt_of_cell? w _ hw496_0)).trans hw496_0)) (fun hHeld => ?_); refine with_tabW w4_GraphShortest.tab6 w4_GraphShortest.bits6 (fun HT_ HW_ => ?_)
         generalize wr.drew = w21 at BK493 HB hx496_0 hHeld ⊢
         refine pure_ (i := 0) (N := some 37) (v := ?_) (a' := ?_) #[t_,f_,f_,f_,f_,f_,f_,f_,f_,f_,f_,f_,f_,f_,f_,f_,f_,f_,f_,f_,f_,f_,f_,f_,f_,f_,f_,f_,f_,f_,f_,f_,f_] rfl rfl (any_of HT_.out (by kernel_rfl)) (fun _ _ _ h => h) (Or.inl ⟨by rfl, ?_⟩) ?_ ?_
         rotate_left
         ·intro w'
          go_simp
          with_reducible rfl
         rotate_left
         ·simp only [Act.put,uA_,uB_,uC_,i64_w,i32_w]
          rfl
         refine pure_ (i := 1) (N := some 38) (v := ?_) (a' := ?_) #[t_,t_,f_,f_,f_,f_,f_,f_,f_,f_,f_,f_,f_,f_,f_,f_,f_,f_,f_,f_,f_,f_,f_,f_,f_,f_,f_,f_,f_,f_,f_,f_,f_] rfl rfl (any_of HT_.out (by kernel_rfl)) (fun _ _ _ h => h) (Or.inl ⟨by rfl, ?_⟩) ?_ ?_
         rotate_left
         ·intro w'
          go_simp
          with_reducible rfl
         rotate_left
         ·simp only [Act.put,uA_,uB_,uC_,i64_w,i32_w]
          rfl
         refine pure_ (i := 2) (N := some 39) (v := ?_) (a' := ?_) #[t_,t_,t_,f_,f_,f_,f_,f_,f_,f_,f_,f_,f_,f_,f_,f_,f_,f_,f_,f_,f_,f_,f_,f_,f_,f_,f_,f_,f_,f_,f_,f_,f_] rfl rfl (any_of HT_.out (by kernel_rfl)) (fun _ _ _ h => h) (Or.inl ⟨by rfl, ?_⟩) ?_ ?_
         rotate_left
         ·intro w'
          go_simp
          with_reducible rfl
         rotate_left
         ·simp only [Act.put,uA_,uB_,uC_,i64_w,i32_w]
          rfl
         refine take_ (i := 3) (N := some 40) (v := ?_) (a' := ?_) #[t_,t_,t_,t_,f_,f_,f_,f_,f_,f_,f_,f_,f_,f_,f_,f_,f_,f_,f_,f_,f_,f_,f_,f_,f_,f_,f_,f_,f_,f_,f_,f_,f_] rfl rfl (take_ofW HT_.out HW_.out (by kernel_rfl)) (fun _ _ _ h => h) (Or.inl ⟨by rfl, ?_⟩) hHeld ?_ ?_
         rotate_left
         ·intro w' s0
          go_simp
          with_reducible rfl
         rotate_left
         ·simp only [Act.put,uA_,uB_,uC_,i64_w,i32_w]
          rfl
         refine pure_ (i := 4) (N := some 41) (v := ?_) (a' := ?_) #[t_,t_,t_,t_,t_,f_,f_,f_,f_,f_,f_,f_,f_,f_,f_,f_,f_,f_,f_,f_,f_,f_,f_,f_,f_,f_,f_,f_,f_,f_,f_,f_,f_] rfl rfl (any_of HT_.out (by kernel_rfl)) (fun _ _ _ h => h) (Or.inl ⟨by rfl, ?_⟩) ?_ ?_
         rotate_left
         ·intro w'
          go_simp
          with_reducible rfl
         rotate_left
         ·simp only [Act.put,uA_,uB_,uC_,i64_w,i32_w]
          rfl
         refine pure_ (i := 5) (N := some 42) (v := ?_) (a' := ?_) #[t_,t_,t_,t_,t_,t_,f_,f_,f_,f_,f_,f_,f_,f_,f_,f_,f_,f_,f_,f_,f_,f_,f_,f_,f_,f_,f_,f_,f_,f_,f_,f_,f_] rfl rfl (any_of HT_.out (by kernel_rfl)) (fun _ _ _ h => h) (Or.inl ⟨by rfl, ?_⟩) ?_ ?_
         rotate_left
         ·intro w'
          go_simp
          with_reducible rfl
         rotate_left
         ·simp only [Act.put,uA_,uB_,uC_,i64_w,i32_w]
          rfl
         refine pure_ (i := 6) (N := some 43) (v := undef) (a' := ?_) #[t_,t_,t_,t_,t_,t_,t_,f_,f_,f_,f_,f_,f_,f_,f_,f_,f_,f_,f_,f_,f_,f_,f_,f_,f_,f_,f_,f_,f_,f_,f_,f_,f_] rfl rfl (any_of HT_.out (by kernel_rfl)) (fun _ _ _ h => h) (Or.inr ⟨by rfl, rfl⟩) ?_ ?_
         rotate_left
         ·simp only [Act.put,uA_,uB_,uC_,i64_w,i32_w]
          rfl
         refine pure_ (i := 7) (N := some 44) (v := undef) (a' := ?_) #[t_,t_,t_,t_,t_,t_,t_,t_,f_,f_,f_,f_,f_,f_,f_,f_,f_,f_,f_,f_,f_,f_,f_,f_,f_,f_,f_,f_,f_,f_,f_,f_,f_] rfl rfl (any_of HT_.out (by kernel_rfl)) (fun _ _ _ h => h) (Or.inr ⟨by rfl, rfl⟩) ?_ ?_
         rotate_left
         ·simp only [Act.put,uA_,uB_,uC_,i64_w,i32_w]
          rfl
         refine pure_ (i := 8) (N := some 45) (v := undef) (a' := ?_) #[t_,t_,t_,t_,t_,t_,t_,t_,t_,f_,f_,f_,f_,f_,f_,f_,f_,f_,f_,f_,f_,f_,f_,f_,f_,f_,f_,f_,f_,f_,f_,f_,f_] rfl rfl (any_of HT_.out (by kernel_rfl)) (fun _ _ _ h => h) (Or.inr ⟨by rfl, rfl⟩) ?_ ?_
         rotate_left
         ·simp only [Act.put,uA_,uB_,uC_,i64_w,i32_w]
          rfl
         refine pure_ (i := 9) (N := some 46) (v := undef) (a' := ?_) #[t_,t_,t_,t_,t_,t_,t_,t_,t_,t_,f_,f_,f_,f_,f_,f_,f_,f_,f_,f_,f_,f_,f_,f_,f_,f_,f_,f_,f_,f_,f_,f_,f_] rfl rfl (any_of HT_.out (by kernel_rfl)) (fun _ _ _ h => h) (Or.inr ⟨by rfl, rfl⟩) ?_ ?_
         rotate_left
         ·simp only [Act.put,uA_,uB_,uC_,i64_w,i32_w]
          rfl
         refine pure_ (i := 10) (N := some 47) (v := undef) (a' := ?_) #[t_,t_,t_,t_,t_,t_,t_,t_,t_,t_,t_,f_,f_,f_,f_,f_,f_,f_,f_,f_,f_,f_,f_,f_,f_,f_,f_,f_,f_,f_,f_,f_,f_] rfl rfl (any_of HT_.out (by kernel_rfl)) (fun _ _ _ h => h) (Or.inr ⟨by rfl, rfl⟩) ?_ ?_
         rotate_left
         ·simp only [Act.put,uA_,uB_,uC_,i64_w,i32_w]
          rfl
         refine pure_ (i := 11) (N := some 48) (v := undef) (a' := ?_) #[t_,t_,t_,t_,t_,t_,t_,t_,t_,t_,t_,t_,f_,f_,f_,f_,f_,f_,f_,f_,f_,f_,f_,f_,f_,f_,f_,f_,f_,f_,f_,f_,f_] rfl rfl (any_of HT_.out (by kernel_rfl)) (fun _ _ _ h => h) (Or.inr ⟨by rfl, rfl⟩) ?_ ?_
         rotate_left
         ·simp only [Act.put,uA_,uB_,uC_,i64_w,i32_w]
          rfl
         refine pure_ (i := 12) (N := some 49) (v := undef) (a' := ?_) #[t_,t_,t_,t_,t_,t_,t_,t_,t_,t_,t_,t_,t_,f_,f_,f_,f_,f_,f_,f_,f_,f_,f_,f_,f_,f_,f_,f_,f_,f_,f_,f_,f_] rfl rfl (any_of HT_.out (by kernel_rfl)) (fun _ _ _ h => h) (Or.inr ⟨by rfl, rfl⟩) ?_ ?_
         rotate_left
         ·simp only [Act.put,uA_,uB_,uC_,i64_w,i32_w]
          rfl
         refine pure_ (i := 13) (N := some 50) (v := ?_) (a' := ?_) #[t_,t_,t_,t_,t_,t_,t_,t_,t_,t_,t_,t_,t_,t_,f_,f_,f_,f_,f_,f_,f_,f_,f_,f_,f_,f_,f_,f_,f_,f_,f_,f_,f_] rfl rfl (any_of HT_.out (by kernel_rfl)) (fun _ _ _ h => h) (Or.inl ⟨by rfl, ?_⟩) ?_ ?_
         rotate_left
         ·intro w'
          go_simp
          with_reducible rfl
         rotate_left
         ·simp only [Act.put,uA_,uB_,uC_,i64_w,i32_w]
          rfl
         refine pure_ (i := 14) (N := some 51) (v := ?_) (a' := ?_) #[t_,t_,t_,t_,t_,t_,t_,t_,t_,t_,t_,t_,t_,t_,t_,f_,f_,f_,f_,f_,f_,f_,f_,f_,f_,f_,f_,f_,f_,f_,f_,f_,f_] rfl rfl (any_of HT_.out (by kernel_rfl)) (fun _ _ _ h => h) (Or.inl ⟨by rfl, ?_⟩) ?_ ?_
         rotate_left
         ·intro w'
          go_simp
          with_reducible rfl
         rotate_left
         ·simp only [Act.put,uA_,uB_,uC_,i64_w,i32_w]
          rfl
         refine pure_ (i := 15) (N := some 52) (v := undef) (a' := ?_) #[t_,t_,t_,t_,t_,t_,t_,t_,t_,t_,t_,t_,t_,t_,t_,t_,f_,f_,f_,f_,f_,f_,f_,f_,f_,f_,f_,f_,f_,f_,f_,f_,f_] rfl rfl (any_of HT_.out (by kernel_rfl)) (fun _ _ _ h => h) (Or.inr ⟨by rfl, rfl⟩) ?_ ?_
         rotate_left
         ·simp only [Act.put,uA_,uB_,uC_,i64_w,i32_w]
          rfl
         refine pure_ (i := 16) (N := some 53) (v := undef) (a' := ?_) #[t_,t_,t_,t_,t_,t_,t_,t_,t_,t_,t_,t_,t_,t_,t_,t_,t_,f_,f_,f_,f_,f_,f_,f_,f_,f_,f_,f_,f_,f_,f_,f_,f_] rfl rfl (any_of HT_.out (by kernel_rfl)) (fun _ _ _ h => h) (Or.inr ⟨by rfl, rfl⟩) ?_ ?_
         rotate_left
         ·simp only [Act.put,uA_,uB_,uC_,i64_w,i32_w]
          rfl
         refine pure_ (i := 17) (N := some 54) (v := undef) (a' := ?_) #[t_,t_,t_,t_,t_,t_,t_,t_,t_,t_,t_,t_,t_,t_,t_,t_,t_,t_,f_,f_,f_,f_,f_,f_,f_,f_,f_,f_,f_,f_,f_,f_,f_] rfl rfl (any_of HT_.out (by kernel_rfl)) (fun _ _ _ h => h) (Or.inr ⟨by rfl, rfl⟩) ?_ ?_
         rotate_left
         ·simp only [Act.put,uA_,uB_,uC_,i64_w,i32_w]
          rfl
         refine pure_ (i := 18) (N := some 55) (v := undef) (a' := ?_) #[t_,t_,t_,t_,t_,t_,t_,t_,t_,t_,t_,t_,t_,t_,t_,t_,t_,t_,t_,f_,f_,f_,f_,f_,f_,f_,f_,f_,f_,f_,f_,f_,f_] rfl rfl (any_of HT_.out (by kernel_rfl)) (fun _ _ _ h => h) (Or.inr ⟨by rfl, rfl⟩) ?_ ?_
         rotate_left
         ·simp only [Act.put,uA_,uB_,uC_,i64_w,i32_w]
          rfl
         refine pure_ (i := 19) (N := some 56) (v := undef) (a' := ?_) #[t_,t_,t_,t_,t_,t_,t_,t_,t_,t_,t_,t_,t_,t_,t_,t_,t_,t_,t_,t_,f_,f_,f_,f_,f_,f_,f_,f_,f_,f_,f_,f_,f_] rfl rfl (any_of HT_.out (by kernel_rfl)) (fun _ _ _ h => h) (Or.inr ⟨by rfl, rfl⟩) ?_ ?_
         rotate_left
         ·simp only [Act.put,uA_,uB_,uC_,i64_w,i32_w]
          rfl
         refine pure_ (i := 20) (N := some 57) (v := undef) (a' := ?_) #[t_,t_,t_,t_,t_,t_,t_,t_,t_,t_,t_,t_,t_,t_,t_,t_,t_,t_,t_,t_,t_,f_,f_,f_,f_,f_,f_,f_,f_,f_,f_,f_,f_] rfl rfl (any_of HT_.out (by kernel_rfl)) (fun _ _ _ h => h) (Or.inr ⟨by rfl, rfl⟩) ?_ ?_
         rotate_left
         ·simp only [Act.put,uA_,uB_,uC_,i64_w,i32_w]
          rfl
         refine pure_ (i := 21) (N := some 58) (v := undef) (a' := ?_) #[t_,t_,t_,t_,t_,t_,t_,t_,t_,t_,t_,t_,t_,t_,t_,t_,t_,t_,t_,t_,t_,t_,f_,f_,f_,f_,f_,f_,f_,f_,f_,f_,f_] rfl rfl (any_of HT_.out (by kernel_rfl)) (fun _ _ _ h => h) (Or.inr ⟨by rfl, rfl⟩) ?_ ?_
         rotate_left
         ·simp only [Act.put,uA_,uB_,uC_,i64_w,i32_w]
          rfl
         refine pure_ (i := 22) (N := some 59) (v := undef) (a' := ?_) #[t_,t_,t_,t_,t_,t_,t_,t_,t_,t_,t_,t_,t_,t_,t_,t_,t_,t_,t_,t_,t_,t_,t_,f_,f_,f_,f_,f_,f_,f_,f_,f_,f_] rfl rfl (any_of HT_.out (by kernel_rfl)) (fun _ _ _ h => h) (Or.inr ⟨by rfl, rfl⟩) ?_ ?_
         rotate_left
         ·simp only [Act.put,uA_,uB_,uC_,i64_w,i32_w]
          rfl
         refine pure_ (i := 23) (N := some 60) (v := undef) (a' := ?_) #[t_,t_,t_,t_,t_,t_,t_,t_,t_,t_,t_,t_,t_,t_,t_,t_,t_,t_,t_,t_,t_,t_,t_,t_,f_,f_,f_,f_,f_,f_,f_,f_,f_] rfl rfl (any_of HT_.out (by kernel_rfl)) (fun _ _ _ h => h) (Or.inr ⟨by rfl, rfl⟩) ?_ ?_
         rotate_left
         ·simp only [Act.put,uA_,uB_,uC_,i64_w,i32_w]
          rfl
         refine pure_ (i := 24) (N := some 61) (v := undef) (a' := ?_) #[t_,t_,t_,t_,t_,t_,t_,t_,t_,t_,t_,t_,t_,t_,t_,t_,t_,t_,t_,t_,t_,t_,t_,t_,t_,f_,f_,f_,f_,f_,f_,f_,f_] rfl rfl (any_of HT_.out (by kernel_rfl)) (fun _ _ _ h => h) (Or.inr ⟨by rfl, rfl⟩) ?_ ?_
         rotate_left
         ·simp only [Act.put,uA_,uB_,uC_,i64_w,i32_w]
          rfl
         refine pure_ (i := 25) (N := some 62) (v := undef) (a' := ?_) #[t_,t_,t_,t_,t_,t_,t_,t_,t_,t_,t_,t_,t_,t_,t_,t_,t_,t_,t_,t_,t_,t_,t_,t_,t_,t_,f_,f_,f_,f_,f_,f_,f_] rfl rfl (any_of HT_.out (by kernel_rfl)) (fun _ _ _ h => h) (Or.inr ⟨by rfl, rfl⟩) ?_ ?_
         rotate_left
         ·simp only [Act.put,uA_,uB_,uC_,i64_w,i32_w]
          rfl
         refine pure_ (i := 26) (N := some 63) (v := undef) (a' := ?_) #[t_,t_,t_,t_,t_,t_,t_,t_,t_,t_,t_,t_,t_,t_,t_,t_,t_,t_,t_,t_,t_,t_,t_,t_,t_,t_,t_,f_,f_,f_,f_,f_,f_] rfl rfl (any_of HT_.out (by kernel_rfl)) (fun _ _ _ h => h) (Or.inr ⟨by rfl, rfl⟩) ?_ ?_
         rotate_left
         ·simp only [Act.put,uA_,uB_,uC_,i64_w,i32_w]
          rfl
         refine pure_ (i := 27) (N := some 64) (v := undef) (a' := ?_) #[t_,t_,t_,t_,t_,t_,t_,t_,t_,t_,t_,t_,t_,t_,t_,t_,t_,t_,t_,t_,t_,t_,t_,t_,t_,t_,t_,t_,f_,f_,f_,f_,f_] rfl rfl (any_of HT_.out (by kernel_rfl)) (fun _ _ _ h => h) (Or.inr ⟨by rfl, rfl⟩) ?_ ?_
         rotate_left
         ·simp only [Act.put,uA_,uB_,uC_,i64_w,i32_w]
          rfl
         refine pure_ (i := 28) (N := some 65) (v := undef) (a' := ?_) #[t_,t_,t_,t_,t_,t_,t_,t_,t_,t_,t_,t_,t_,t_,t_,t_,t_,t_,t_,t_,t_,t_,t_,t_,t_,t_,t_,t_,t_,f_,f_,f_,f_] rfl rfl (any_of HT_.out (by kernel_rfl)) (fun _ _ _ h => h) (Or.inr ⟨by rfl, rfl⟩) ?_ ?_
         rotate_left
         ·simp only [Act.put,uA_,uB_,uC_,i64_w,i32_w]
          rfl
         refine pure_ (i := 29) (N := some 66) (v := undef) (a' := ?_) #[t_,t_,t_,t_,t_,t_,t_,t_,t_,t_,t_,t_,t_,t_,t_,t_,t_,t_,t_,t_,t_,t_,t_,t_,t_,t_,t_,t_,t_,t_,f_,f_,f_] rfl rfl (any_of HT_.out (by kernel_rfl)) (fun _ _ _ h => h) (Or.inr ⟨by rfl, rfl⟩) ?_ ?_
         rotate_left
         ·simp only [Act.put,uA_,uB_,uC_,i64_w,i32_w]
          rfl
         refine pure_ (i := 30) (N := some 67) (v := undef) (a' := ?_) #[t_,t_,t_,t_,t_,t_,t_,t_,t_,t_,t_,t_,t_,t_,t_,t_,t_,t_,t_,t_,t_,t_,t_,t_,t_,t_,t_,t_,t_,t_,t_,f_,f_] rfl rfl (any_of HT_.out (by kernel_rfl)) (fun _ _ _ h => h) (Or.inr ⟨by rfl, rfl⟩) ?_ ?_
         rotate_left
         ·simp only [Act.put,uA_,uB_,uC_,i64_w,i32_w]
          rfl
         refine pure_ (i := 31) (N := some 68) (v := undef) (a' := ?_) #[t_,t_,t_,t_,t_,t_,t_,t_,t_,t_,t_,t_,t_,t_,t_,t_,t_,t_,t_,t_,t_,t_,t_,t_,t_,t_,t_,t_,t_,t_,t_,t_,f_] rfl rfl (any_of HT_.out (by kernel_rfl)) (fun _ _ _ h => h) (Or.inr ⟨by rfl, rfl⟩) ?_ ?_
         rotate_left
         ·simp only [Act.put,uA_,uB_,uC_,i64_w,i32_w]
          rfl
         refine pure_ (i := 32) (N := some 69) (v := ?_) (a' := ?_) #[t_,t_,t_,t_,t_,t_,t_,t_,t_,t_,t_,t_,t_,t_,t_,t_,t_,t_,t_,t_,t_,t_,t_,t_,t_,t_,t_,t_,t_,t_,t_,t_,t_] rfl rfl (any_of HT_.out (by kernel_rfl)) (fun _ _ _ h => h) (Or.inl ⟨by rfl, ?_⟩) ?_ ?_
         rotate_left
         ·intro w'
          go_simp
          with_reducible rfl
         rotate_left
         ·simp only [Act.put,uA_,uB_,uC_,i64_w,i32_w]
          rfl
         refine done_ (done_of HT_.out (by kernel_rfl)) ?_
         try go_wp2_with (first | ((with_reducible refine gate_callee (f := 30) rfl ?_); refine goesL_ (some 70) rfl rfl Tryd.func30 (by kernel_rfl) rfl #[] rfl (by (try simp only [List.map_toArray, List.map_cons, List.map_nil]); first | done | rfl | (simp only [List.length_drop, List.length_take]; rfl)) ?_; (with_reducible refine (w4_awake.calls  t497 _ ?side1 A20.out).mono ?_); (case side1 => exact TabW.below HG_.out (by repeat (first | (with_reducible first | exact HB.out | apply bA_ | apply bB_ | apply bC_ | refine below_set ?_ GE493.out) | exact HB.out))); rintro e w22 ⟨rfl, hb⟩; refine ⟨_, rfl, ?_⟩; have n0_ := aM_ (blk_below (g := gb493) (o := .cells #[.int .i64 a0_0, .slice A0_1 l0_1.length c0_1] 24 (0, 0)) (by (with_reducible repeat (first | refine blk_drewN ?_ _ | refine blk_drew ?_ | refine blk_alloc ?_ _)); exact BK493.out) hb); have n1_ := aM_ (below_step (by repeat (first | (with_reducible first | exact HB.out | apply bA_ | apply bB_ | apply bC_ | refine below_set ?_ GE493.out) | exact HB.out)) hb); clear BK493; clear HB; have BK493 := n0_; have HB := n1_; clear n0_ n1_; (try clear hb); (try clear hb2); (try clear hk); (try clear hi)))
         go_ret
         exact ⟨by first | rfl | (simp [errW_none, errW_some] <;> rfl) | (simp [*, errW_none, errW_some] <;> rfl), by repeat (first | (with_reducible first | exact HB.out | apply bA_ | apply bB_ | apply bC_ | refine below_set ?_ GE493.out) | exact HB.out)⟩
        ·rw [if_neg c19] at H
         have c19b0 : decide ((rd l1 x5_2) < 0) = false := decide_eq_false c19
         clear c19
         by_cases c23 : (rd l1 x5_2) ≥ a0_0
         ·rw [if_pos c23] at H
          have c23b0 : decide (a0_0 ≤ (rd l1 x5_2)) = true := decide_eq_true c23
          clear c23
          replace H := Option.bind_eq_some_iff.mp H
          obtain ⟨t499, A240, H⟩ := H
          replace H : (some t499) = some r := H
          have A24 := aM_ A240
          clear A240
          obtain rfl := Option.some.inj H
          try go_wp2
          have n0_ := aM_ (blk_drew BK493.out)
          have n1_ := aM_ (below_drew1 HB.out)
          clear BK493
          clear HB
          have BK493 := n0_
          have HB := n1_
          clear n0_ n1_
          have p496 : 0 ≤ (x5_2 : Int) := of_decide_eq_true (by assumption)
          have q496 : x5_2 < (l1.length : Int) := of_decide_eq_true (by assumption)
          obtain ⟨ad496, e496, hx496_0⟩ := Kd.at_int HR1.out x5_2 p496 q496
          have hw496_0 := hx496_0
          cases e496
          replace hx496_0 := (HB.out.cell (World.block_lt_of_cell? w _ hx496_0)).trans hx496_0
          replace p496 := eq_true p496
          replace q496 := eq_true q496
          have p498 : 0 ≤ (x5_2 : Int) := of_decide_eq_true (by assumption)
          have q498 : x5_2 < (l1.length : Int) := of_decide_eq_true (by assumption)
          obtain ⟨ad498, e498, hx498_0⟩ := Kd.at_int HR1.out x5_2 p498 q498
          have hw498_0 := hx498_0
          obtain rfl : ad496 = ad498 := (by injection e498)
          replace hx498_0 := (HB.out.cell (World.block_lt_of_cell? w _ hx498_0)).trans hx498_0
          replace p498 := eq_true p498
          replace q498 := eq_true q498
          refine start_ (n := 33) (S := fun w' => w'.cell? ⟨gb493, 0, none⟩ = some (.int .i64 a0_0) ∧ w'.cell? ⟨gb493, 1, none⟩ = some (.slice A0_1 l0_1.length c0_1) ∧ w'.cell? (ad496.add (x5_2).toNat) = some (.int .i64 (rd l1 x5_2)) ∧ w'.cell? (ad496.add (x5_2).toNat) = some (.int .i64 (rd l1 x5_2))) (ds := []) #[f_,f_,f_,f_,f_,f_,f_,f_,f_,f_,f_,f_,f_,f_,f_,f_,f_,f_,f_,f_,f_,f_,f_,f_,f_,f_,f_,f_,f_,f_,f_,f_,f_] (by kernel_rfl) rfl rfl ⟨(blk_cell BK493.out 0).trans rfl, (blk_cell BK493.out 1).trans rfl, ((HB.out.cell (World.block_lt_of_cell? w _ hw496_0)).trans hw496_0), ((HB.out.cell (World.block_lt_of_cell? w _ hw498_0)).trans hw498_0)⟩ (fun hHeld => ?_); refine with_tabW w4_GraphShortest.tab6 w4_GraphShortest.bits6 (fun HT_ HW_ => ?_)
          generalize wr.drew = w25 at BK493 HB hx496_0 hx498_0 hHeld ⊢
          refine pure_ (i := 0) (N := some 37) (v := ?_) (a' := ?_) #[t_,f_,f_,f_,f_,f_,f_,f_,f_,f_,f_,f_,f_,f_,f_,f_,f_,f_,f_,f_,f_,f_,f_,f_,f_,f_,f_,f_,f_,f_,f_,f_,f_] rfl rfl (any_of HT_.out (by kernel_rfl)) (fun _ _ _ h => h) (Or.inl ⟨by rfl, ?_⟩) ?_ ?_
          rotate_left
          ·intro w'
           go_simp
           with_reducible rfl
          rotate_left
          ·simp only [Act.put,uA_,uB_,uC_,i64_w,i32_w]
           rfl
          refine pure_ (i := 1) (N := some 38) (v := ?_) (a' := ?_) #[t_,t_,f_,f_,f_,f_,f_,f_,f_,f_,f_,f_,f_,f_,f_,f_,f_,f_,f_,f_,f_,f_,f_,f_,f_,f_,f_,f_,f_,f_,f_,f_,f_] rfl rfl (any_of HT_.out (by kernel_rfl)) (fun _ _ _ h => h) (Or.inl ⟨by rfl, ?_⟩) ?_ ?_
          rotate_left
          ·intro w'
           go_simp
           with_reducible rfl
          rotate_left
          ·simp only [Act.put,uA_,uB_,uC_,i64_w,i32_w]
           rfl
          refine pure_ (i := 2) (N := some 39) (v := ?_) (a' := ?_) #[t_,t_,t_,f_,f_,f_,f_,f_,f_,f_,f_,f_,f_,f_,f_,f_,f_,f_,f_,f_,f_,f_,f_,f_,f_,f_,f_,f_,f_,f_,f_,f_,f_] rfl rfl (any_of HT_.out (by kernel_rfl)) (fun _ _ _ h => h) (Or.inl ⟨by rfl, ?_⟩) ?_ ?_
          rotate_left
          ·intro w'
           go_simp
           with_reducible rfl
          rotate_left
          ·simp only [Act.put,uA_,uB_,uC_,i64_w,i32_w]
           rfl
          refine take_ (i := 3) (N := some 40) (v := ?_) (a' := ?_) #[t_,t_,t_,t_,f_,f_,f_,f_,f_,f_,f_,f_,f_,f_,f_,f_,f_,f_,f_,f_,f_,f_,f_,f_,f_,f_,f_,f_,f_,f_,f_,f_,f_] rfl rfl (take_ofW HT_.out HW_.out (by kernel_rfl)) (fun _ _ _ h => h) (Or.inl ⟨by rfl, ?_⟩) hHeld ?_ ?_
          rotate_left
          ·rintro w' ⟨s0, s1, s2, s3⟩
           go_simp
           with_reducible rfl
          rotate_left
          ·simp only [Act.put,uA_,uB_,uC_,i64_w,i32_w]
           rfl
          refine pure_ (i := 4) (N := some 41) (v := ?_) (a' := ?_) #[t_,t_,t_,t_,t_,f_,f_,f_,f_,f_,f_,f_,f_,f_,f_,f_,f_,f_,f_,f_,f_,f_,f_,f_,f_,f_,f_,f_,f_,f_,f_,f_,f_] rfl rfl (any_of HT_.out (by kernel_rfl)) (fun _ _ _ h => h) (Or.inl ⟨by rfl, ?_⟩) ?_ ?_
          rotate_left
          ·intro w'
           go_simp
           with_reducible rfl
          rotate_left
          ·simp only [Act.put,uA_,uB_,uC_,i64_w,i32_w]
           rfl
          refine pure_ (i := 5) (N := some 42) (v := ?_) (a' := ?_) #[t_,t_,t_,t_,t_,t_,f_,f_,f_,f_,f_,f_,f_,f_,f_,f_,f_,f_,f_,f_,f_,f_,f_,f_,f_,f_,f_,f_,f_,f_,f_,f_,f_] rfl rfl (any_of HT_.out (by kernel_rfl)) (fun _ _ _ h => h) (Or.inl ⟨by rfl, ?_⟩) ?_ ?_
          rotate_left
          ·intro w'
           go_simp
           with_reducible rfl
          rotate_left
          ·simp only [Act.put,uA_,uB_,uC_,i64_w,i32_w]
           rfl
          refine pure_ (i := 6) (N := some 43) (v := ?_) (a' := ?_) #[t_,t_,t_,t_,t_,t_,t_,f_,f_,f_,f_,f_,f_,f_,f_,f_,f_,f_,f_,f_,f_,f_,f_,f_,f_,f_,f_,f_,f_,f_,f_,f_,f_] rfl rfl (any_of HT_.out (by kernel_rfl)) (fun _ _ _ h => h) (Or.inl ⟨by rfl, ?_⟩) ?_ ?_
          rotate_left
          ·intro w'
           go_simp
           with_reducible rfl
          rotate_left
          ·simp only [Act.put,uA_,uB_,uC_,i64_w,i32_w]
           rfl
          refine pure_ (i := 7) (N := some 44) (v := ?_) (a' := ?_) #[t_,t_,t_,t_,t_,t_,t_,t_,f_,f_,f_,f_,f_,f_,f_,f_,f_,f_,f_,f_,f_,f_,f_,f_,f_,f_,f_,f_,f_,f_,f_,f_,f_] rfl rfl (any_of HT_.out (by kernel_rfl)) (fun _ _ _ h => h) (Or.inl ⟨by rfl, ?_⟩) ?_ ?_
          rotate_left
          ·intro w'
           go_simp
           with_reducible rfl
          rotate_left
          ·simp only [Act.put,uA_,uB_,uC_,i64_w,i32_w]
           rfl
          refine pure_ (i := 8) (N := some 45) (v := ?_) (a' := ?_) #[t_,t_,t_,t_,t_,t_,t_,t_,t_,f_,f_,f_,f_,f_,f_,f_,f_,f_,f_,f_,f_,f_,f_,f_,f_,f_,f_,f_,f_,f_,f_,f_,f_] rfl rfl (any_of HT_.out (by kernel_rfl)) (fun _ _ _ h => h) (Or.inl ⟨by rfl, ?_⟩) ?_ ?_
          rotate_left
          ·intro w'
           go_simp
           with_reducible rfl
          rotate_left
          ·simp only [Act.put,uA_,uB_,uC_,i64_w,i32_w]
           rfl
          refine pure_ (i := 10) (N := some 47) (v := ?_) (a' := ?_) #[t_,t_,t_,t_,t_,t_,t_,t_,t_,f_,t_,f_,f_,f_,f_,f_,f_,f_,f_,f_,f_,f_,f_,f_,f_,f_,f_,f_,f_,f_,f_,f_,f_] rfl rfl (any_of HT_.out (by kernel_rfl)) (fun _ _ _ h => h) (Or.inl ⟨by rfl, ?_⟩) ?_ ?_
          rotate_left
          ·intro w'
           go_simp
           with_reducible rfl
          rotate_left
          ·simp only [Act.put,uA_,uB_,uC_,i64_w,i32_w]
           rfl
          refine take_ (i := 9) (N := some 46) (v := ?_) (a' := ?_) #[t_,t_,t_,t_,t_,t_,t_,t_,t_,t_,t_,f_,f_,f_,f_,f_,f_,f_,f_,f_,f_,f_,f_,f_,f_,f_,f_,f_,f_,f_,f_,f_,f_] rfl rfl (take_ofW HT_.out HW_.out (by kernel_rfl)) (fun _ _ _ h => h) (Or.inl ⟨by rfl, ?_⟩) hHeld ?_ ?_
          rotate_left
          ·rintro w' ⟨s0, s1, s2, s3⟩
           go_simp
           with_reducible rfl
          rotate_left
          ·simp only [Act.put,uA_,uB_,uC_,i64_w,i32_w]
           rfl
          refine take_ (i := 11) (N := some 48) (v := ?_) (a' := ?_) #[t_,t_,t_,t_,t_,t_,t_,t_,t_,t_,t_,t_,f_,f_,f_,f_,f_,f_,f_,f_,f_,f_,f_,f_,f_,f_,f_,f_,f_,f_,f_,f_,f_] rfl rfl (take_ofW HT_.out HW_.out (by kernel_rfl)) (fun _ _ _ h => h) (Or.inl ⟨by rfl, ?_⟩) hHeld ?_ ?_
          rotate_left
          ·rintro w' ⟨s0, s1, s2, s3⟩
           go_simp
           with_reducible rfl
          rotate_left
          ·simp only [Act.put,uA_,uB_,uC_,i64_w,i32_w]
           rfl
          refine pure_ (i := 12) (N := some 49) (v := ?_) (a' := ?_) #[t_,t_,t_,t_,t_,t_,t_,t_,t_,t_,t_,t_,t_,f_,f_,f_,f_,f_,f_,f_,f_,f_,f_,f_,f_,f_,f_,f_,f_,f_,f_,f_,f_] rfl rfl (any_of HT_.out (by kernel_rfl)) (fun _ _ _ h => h) (Or.inl ⟨by rfl, ?_⟩) ?_ ?_
          rotate_left
          ·intro w'
           go_simp
           with_reducible rfl
          rotate_left
          ·simp only [Act.put,uA_,uB_,uC_,i64_w,i32_w]
           rfl
          refine pure_ (i := 13) (N := some 50) (v := ?_) (a' := ?_) #[t_,t_,t_,t_,t_,t_,t_,t_,t_,t_,t_,t_,t_,t_,f_,f_,f_,f_,f_,f_,f_,f_,f_,f_,f_,f_,f_,f_,f_,f_,f_,f_,f_] rfl rfl (any_of HT_.out (by kernel_rfl)) (fun _ _ _ h => h) (Or.inl ⟨by rfl, ?_⟩) ?_ ?_
          rotate_left
          ·intro w'
           go_simp
           with_reducible rfl
          rotate_left
          ·simp only [Act.put,uA_,uB_,uC_,i64_w,i32_w]
           rfl
          refine pure_ (i := 14) (N := some 51) (v := ?_) (a' := ?_) #[t_,t_,t_,t_,t_,t_,t_,t_,t_,t_,t_,t_,t_,t_,t_,f_,f_,f_,f_,f_,f_,f_,f_,f_,f_,f_,f_,f_,f_,f_,f_,f_,f_] rfl rfl (any_of HT_.out (by kernel_rfl)) (fun _ _ _ h => h) (Or.inl ⟨by rfl, ?_⟩) ?_ ?_
          rotate_left
          ·intro w'
           go_simp
           with_reducible rfl
          rotate_left
          ·simp only [Act.put,uA_,uB_,uC_,i64_w,i32_w]
           rfl
          refine pure_ (i := 15) (N := some 52) (v := undef) (a' := ?_) #[t_,t_,t_,t_,t_,t_,t_,t_,t_,t_,t_,t_,t_,t_,t_,t_,f_,f_,f_,f_,f_,f_,f_,f_,f_,f_,f_,f_,f_,f_,f_,f_,f_] rfl rfl (any_of HT_.out (by kernel_rfl)) (fun _ _ _ h => h) (Or.inr ⟨by rfl, rfl⟩) ?_ ?_
          rotate_left
          ·simp only [Act.put,uA_,uB_,uC_,i64_w,i32_w]
           rfl
          refine pure_ (i := 16) (N := some 53) (v := undef) (a' := ?_) #[t_,t_,t_,t_,t_,t_,t_,t_,t_,t_,t_,t_,t_,t_,t_,t_,t_,f_,f_,f_,f_,f_,f_,f_,f_,f_,f_,f_,f_,f_,f_,f_,f_] rfl rfl (any_of HT_.out (by kernel_rfl)) (fun _ _ _ h => h) (Or.inr ⟨by rfl, rfl⟩) ?_ ?_
          rotate_left
          ·simp only [Act.put,uA_,uB_,uC_,i64_w,i32_w]
           rfl
          refine pure_ (i := 17) (N := some 54) (v := undef) (a' := ?_) #[t_,t_,t_,t_,t_,t_,t_,t_,t_,t_,t_,t_,t_,t_,t_,t_,t_,t_,f_,f_,f_,f_,f_,f_,f_,f_,f_,f_,f_,f_,f_,f_,f_] rfl rfl (any_of HT_.out (by kernel_rfl)) (fun _ _ _ h => h) (Or.inr ⟨by rfl, rfl⟩) ?_ ?_
          rotate_left
          ·simp only [Act.put,uA_,uB_,uC_,i64_w,i32_w]
           rfl
          refine pure_ (i := 18) (N := some 55) (v := undef) (a' := ?_) #[t_,t_,t_,t_,t_,t_,t_,t_,t_,t_,t_,t_,t_,t_,t_,t_,t_,t_,t_,f_,f_,f_,f_,f_,f_,f_,f_,f_,f_,f_,f_,f_,f_] rfl rfl (any_of HT_.out (by kernel_rfl)) (fun _ _ _ h => h) (Or.inr ⟨by rfl, rfl⟩) ?_ ?_
          rotate_left
          ·simp only [Act.put,uA_,uB_,uC_,i64_w,i32_w]
           rfl
          refine pure_ (i := 19) (N := some 56) (v := undef) (a' := ?_) #[t_,t_,t_,t_,t_,t_,t_,t_,t_,t_,t_,t_,t_,t_,t_,t_,t_,t_,t_,t_,f_,f_,f_,f_,f_,f_,f_,f_,f_,f_,f_,f_,f_] rfl rfl (any_of HT_.out (by kernel_rfl)) (fun _ _ _ h => h) (Or.inr ⟨by rfl, rfl⟩) ?_ ?_
          rotate_left
          ·simp only [Act.put,uA_,uB_,uC_,i64_w,i32_w]
           rfl
          refine pure_ (i := 20) (N := some 57) (v := undef) (a' := ?_) #[t_,t_,t_,t_,t_,t_,t_,t_,t_,t_,t_,t_,t_,t_,t_,t_,t_,t_,t_,t_,t_,f_,f_,f_,f_,f_,f_,f_,f_,f_,f_,f_,f_] rfl rfl (any_of HT_.out (by kernel_rfl)) (fun _ _ _ h => h) (Or.inr ⟨by rfl, rfl⟩) ?_ ?_
          rotate_left
          ·simp only [Act.put,uA_,uB_,uC_,i64_w,i32_w]
           rfl
          refine pure_ (i := 21) (N := some 58) (v := undef) (a' := ?_) #[t_,t_,t_,t_,t_,t_,t_,t_,t_,t_,t_,t_,t_,t_,t_,t_,t_,t_,t_,t_,t_,t_,f_,f_,f_,f_,f_,f_,f_,f_,f_,f_,f_] rfl rfl (any_of HT_.out (by kernel_rfl)) (fun _ _ _ h => h) (Or.inr ⟨by rfl, rfl⟩) ?_ ?_
          rotate_left
          ·simp only [Act.put,uA_,uB_,uC_,i64_w,i32_w]
           rfl
          refine pure_ (i := 22) (N := some 59) (v := undef) (a' := ?_) #[t_,t_,t_,t_,t_,t_,t_,t_,t_,t_,t_,t_,t_,t_,t_,t_,t_,t_,t_,t_,t_,t_,t_,f_,f_,f_,f_,f_,f_,f_,f_,f_,f_] rfl rfl (any_of HT_.out (by kernel_rfl)) (fun _ _ _ h => h) (Or.inr ⟨by rfl, rfl⟩) ?_ ?_
          rotate_left
          ·simp only [Act.put,uA_,uB_,uC_,i64_w,i32_w]
           rfl
          refine pure_ (i := 23) (N := some 60) (v := undef) (a' := ?_) #[t_,t_,t_,t_,t_,t_,t_,t_,t_,t_,t_,t_,t_,t_,t_,t_,t_,t_,t_,t_,t_,t_,t_,t_,f_,f_,f_,f_,f_,f_,f_,f_,f_] rfl rfl (any_of HT_.out (by kernel_rfl)) (fun _ _ _ h => h) (Or.inr ⟨by rfl, rfl⟩) ?_ ?_
          rotate_left
          ·simp only [Act.put,uA_,uB_,uC_,i64_w,i32_w]
           rfl
          refine pure_ (i := 24) (N := some 61) (v := undef) (a' := ?_) #[t_,t_,t_,t_,t_,t_,t_,t_,t_,t_,t_,t_,t_,t_,t_,t_,t_,t_,t_,t_,t_,t_,t_,t_,t_,f_,f_,f_,f_,f_,f_,f_,f_] rfl rfl (any_of HT_.out (by kernel_rfl)) (fun _ _ _ h => h) (Or.inr ⟨by rfl, rfl⟩) ?_ ?_
          rotate_left
          ·simp only [Act.put,uA_,uB_,uC_,i64_w,i32_w]
           rfl
          refine pure_ (i := 25) (N := some 62) (v := undef) (a' := ?_) #[t_,t_,t_,t_,t_,t_,t_,t_,t_,t_,t_,t_,t_,t_,t_,t_,t_,t_,t_,t_,t_,t_,t_,t_,t_,t_,f_,f_,f_,f_,f_,f_,f_] rfl rfl (any_of HT_.out (by kernel_rfl)) (fun _ _ _ h => h) (Or.inr ⟨by rfl, rfl⟩) ?_ ?_
          rotate_left
          ·simp only [Act.put,uA_,uB_,uC_,i64_w,i32_w]
           rfl
          refine pure_ (i := 26) (N := some 63) (v := undef) (a' := ?_) #[t_,t_,t_,t_,t_,t_,t_,t_,t_,t_,t_,t_,t_,t_,t_,t_,t_,t_,t_,t_,t_,t_,t_,t_,t_,t_,t_,f_,f_,f_,f_,f_,f_] rfl rfl (any_of HT_.out (by kernel_rfl)) (fun _ _ _ h => h) (Or.inr ⟨by rfl, rfl⟩) ?_ ?_
          rotate_left
          ·simp only [Act.put,uA_,uB_,uC_,i64_w,i32_w]
           rfl
          refine pure_ (i := 27) (N := some 64) (v := undef) (a' := ?_) #[t_,t_,t_,t_,t_,t_,t_,t_,t_,t_,t_,t_,t_,t_,t_,t_,t_,t_,t_,t_,t_,t_,t_,t_,t_,t_,t_,t_,f_,f_,f_,f_,f_] rfl rfl (any_of HT_.out (by kernel_rfl)) (fun _ _ _ h => h) (Or.inr ⟨by rfl, rfl⟩) ?_ ?_
          rotate_left
          ·simp only [Act.put,uA_,uB_,uC_,i64_w,i32_w]
           rfl
          refine pure_ (i := 28) (N := some 65) (v := undef) (a' := ?_) #[t_,t_,t_,t_,t_,t_,t_,t_,t_,t_,t_,t_,t_,t_,t_,t_,t_,t_,t_,t_,t_,t_,t_,t_,t_,t_,t_,t_,t_,f_,f_,f_,f_] rfl rfl (any_of HT_.out (by kernel_rfl)) (fun _ _ _ h => h) (Or.inr ⟨by rfl, rfl⟩) ?_ ?_
          rotate_left
          ·simp only [Act.put,uA_,uB_,uC_,i64_w,i32_w]
           rfl
          refine pure_ (i := 29) (N := some 66) (v := undef) (a' := ?_) #[t_,t_,t_,t_,t_,t_,t_,t_,t_,t_,t_,t_,t_,t_,t_,t_,t_,t_,t_,t_,t_,t_,t_,t_,t_,t_,t_,t_,t_,t_,f_,f_,f_] rfl rfl (any_of HT_.out (by kernel_rfl)) (fun _ _ _ h => h) (Or.inr ⟨by rfl, rfl⟩) ?_ ?_
          rotate_left
          ·simp only [Act.put,uA_,uB_,uC_,i64_w,i32_w]
           rfl
          refine pure_ (i := 30) (N := some 67) (v := undef) (a' := ?_) #[t_,t_,t_,t_,t_,t_,t_,t_,t_,t_,t_,t_,t_,t_,t_,t_,t_,t_,t_,t_,t_,t_,t_,t_,t_,t_,t_,t_,t_,t_,t_,f_,f_] rfl rfl (any_of HT_.out (by kernel_rfl)) (fun _ _ _ h => h) (Or.inr ⟨by rfl, rfl⟩) ?_ ?_
          rotate_left
          ·simp only [Act.put,uA_,uB_,uC_,i64_w,i32_w]
           rfl
          refine pure_ (i := 31) (N := some 68) (v := undef) (a' := ?_) #[t_,t_,t_,t_,t_,t_,t_,t_,t_,t_,t_,t_,t_,t_,t_,t_,t_,t_,t_,t_,t_,t_,t_,t_,t_,t_,t_,t_,t_,t_,t_,t_,f_] rfl rfl (any_of HT_.out (by kernel_rfl)) (fun _ _ _ h => h) (Or.inr ⟨by rfl, rfl⟩) ?_ ?_
          rotate_left
          ·simp only [Act.put,uA_,uB_,uC_,i64_w,i32_w]
           rfl
          refine pure_ (i := 32) (N := some 69) (v := ?_) (a' := ?_) #[t_,t_,t_,t_,t_,t_,t_,t_,t_,t_,t_,t_,t_,t_,t_,t_,t_,t_,t_,t_,t_,t_,t_,t_,t_,t_,t_,t_,t_,t_,t_,t_,t_] rfl rfl (any_of HT_.out (by kernel_rfl)) (fun _ _ _ h => h) (Or.inl ⟨by rfl, ?_⟩) ?_ ?_
          rotate_left
          ·intro w'
           go_simp
           with_reducible rfl
          rotate_left
          ·simp only [Act.put,uA_,uB_,uC_,i64_w,i32_w]
           rfl
          refine done_ (done_of HT_.out (by kernel_rfl)) ?_
          try go_wp2_with (first | ((with_reducible refine gate_callee (f := 30) rfl ?_); refine goesL_ (some 70) rfl rfl Tryd.func30 (by kernel_rfl) rfl #[] rfl (by (try simp only [List.map_toArray, List.map_cons, List.map_nil]); first | done | rfl | (simp only [List.length_drop, List.length_take]; rfl)) ?_; (with_reducible refine (w4_awake.calls  t499 _ ?side1 A24.out).mono ?_); (case side1 => exact TabW.below HG_.out (by repeat (first | (with_reducible first | exact HB.out | apply bA_ | apply bB_ | apply bC_ | refine below_set ?_ GE493.out) | exact HB.out))); rintro e w26 ⟨rfl, hb⟩; refine ⟨_, rfl, ?_⟩; have n0_ := aM_ (blk_below (g := gb493) (o := .cells #[.int .i64 a0_0, .slice A0_1 l0_1.length c0_1] 24 (0, 0)) (by (with_reducible repeat (first | refine blk_drewN ?_ _ | refine blk_drew ?_ | refine blk_alloc ?_ _)); exact BK493.out) hb); have n1_ := aM_ (below_step (by repeat (first | (with_reducible first | exact HB.out | apply bA_ | apply bB_ | apply bC_ | refine below_set ?_ GE493.out) | exact HB.out)) hb); clear BK493; clear HB; have BK493 := n0_; have HB := n1_; clear n0_ n1_; (try clear hb); (try clear hb2); (try clear hk); (try clear hi)))
          go_ret
          exact ⟨by first | rfl | (simp [errW_none, errW_some] <;> rfl) | (simp [*, errW_none, errW_some] <;> rfl), by repeat (first | (with_reducible first | exact HB.out | apply bA_ | apply bB_ | apply bC_ | refine below_set ?_ GE493.out) | exact HB.out)⟩
         ·rw [if_neg c23] at H
          have c23b0 : decide (a0_0 ≤ (rd l1 x5_2)) = false := decide_eq_false c23
          clear c23
          by_cases c27 : x5_2 > 0
          ·rw [if_pos c27] at H
           have c27b0 : decide (0 < x5_2) = true := decide_eq_true c27
           clear c27
           obtain ⟨ji28, hji28⟩ : ∃ j_ : Int, (wrap64 (x5_2 - 1)) = j_ := ⟨_, rfl⟩
           replace H : (if 0 ≤ (ji28) then (if (ji28) < (l1.length : Int) then ((r4_Succ.f k2 a0_0 l0_1 (rd l1 (ji28))).bind fun t501 => ((w4_in.f k2 t501 (rd l1 x5_2)).bind fun t505 => (if t505 = true then (w4_GraphShortest.l0 k2 l1 (wrap64 (x5_2 + 1)) a0_0 l0_1) else ((w4_awake.f).bind fun t506 => (some t506))))) else (none)) else (none)) = some r := by first | (rw [hji28] at H; exact H) | (simp only [hji28] at H ⊢; exact H)
           have hji28w : (IntKind.i64.wrap (x5_2 - 1)) = ji28 := (i64_w _).trans hji28
           by_cases c29 : 0 ≤ (ji28)
           ·rw [if_pos c29] at H
            have c29b0 : decide (0 ≤ (ji28)) = true := decide_eq_true c29
            clear c29
            by_cases c30 : (ji28) < (l1.length : Int)
            ·rw [if_pos c30] at H
             have c30b0 : decide ((ji28) < (l1.length : Int)) = true := decide_eq_true c30
             clear c30
             replace H := Option.bind_eq_some_iff.mp H
             obtain ⟨t501, A310, H⟩ := H
             replace H : ((w4_in.f k2 t501 (rd l1 x5_2)).bind fun t505 => (if t505 = true then (w4_GraphShortest.l0 k2 l1 (wrap64 (x5_2 + 1)) a0_0 l0_1) else ((w4_awake.f).bind fun t506 => (some t506)))) = some r := H
             have A31 := aM_ A310
             clear A310
             replace H := Option.bind_eq_some_iff.mp H
             obtain ⟨t505, A320, H⟩ := H
             replace H : (if t505 = true then (w4_GraphShortest.l0 k2 l1 (wrap64 (x5_2 + 1)) a0_0 l0_1) else ((w4_awake.f).bind fun t506 => (some t506))) = some r := H
             have A32 := aM_ A320
             clear A320
             by_cases c33 : t505 = true
             ·subst c33
              have H1 : (w4_GraphShortest.l0 k2 l1 (wrap64 (x5_2 + 1)) a0_0 l0_1) = some r := by rw [if_pos rfl] at H; exact H
              clear H
              have H := H1
              clear H1
              have H' := aM_ H
              clear H
              try go_wp2
              have n0_ := aM_ (blk_drew BK493.out)
              have n1_ := aM_ (below_drew1 HB.out)
              clear BK493
              clear HB
              have BK493 := n0_
              have HB := n1_
              clear n0_ n1_
              have p496 : 0 ≤ (x5_2 : Int) := of_decide_eq_true (by assumption)
              have q496 : x5_2 < (l1.length : Int) := of_decide_eq_true (by assumption)
              obtain ⟨ad496, e496, hx496_0⟩ := Kd.at_int HR1.out x5_2 p496 q496
              have hw496_0 := hx496_0
              cases e496
              replace hx496_0 := (HB.out.cell (World.block_lt_of_cell? w _ hx496_0)).trans hx496_0
              replace p496 := eq_true p496
              replace q496 := eq_true q496
              have p498 : 0 ≤ (x5_2 : Int) := of_decide_eq_true (by assumption)
              have q498 : x5_2 < (l1.length : Int) := of_decide_eq_true (by assumption)
              obtain ⟨ad498, e498, hx498_0⟩ := Kd.at_int HR1.out x5_2 p498 q498
              have hw498_0 := hx498_0
              obtain rfl : ad496 = ad498 := (by injection e498)
              replace hx498_0 := (HB.out.cell (World.block_lt_of_cell? w _ hx498_0)).trans hx498_0
              replace p498 := eq_true p498
              replace q498 := eq_true q498
              have p500 : 0 ≤ ((ji28) : Int) := of_decide_eq_true (by assumption)
              have q500 : (ji28) < (l1.length : Int) := of_decide_eq_true (by assumption)
              obtain ⟨ad500, e500, hx500_0⟩ := Kd.at_int HR1.out (ji28) p500 q500
              have hw500_0 := hx500_0
              obtain rfl : ad496 = ad500 := (by injection e500)
              replace hx500_0 := (HB.out.cell (World.block_lt_of_cell? w _ hx500_0)).trans hx500_0
              replace p500 := eq_true p500
              replace q500 := eq_true q500
              have p504 : 0 ≤ (x5_2 : Int) := of_decide_eq_true (by assumption)
              have q504 : x5_2 < (l1.length : Int) := of_decide_eq_true (by assumption)
              obtain ⟨ad504, e504, hx504_0⟩ := Kd.at_int HR1.out x5_2 p504 q504
              have hw504_0 := hx504_0
              obtain rfl : ad496 = ad504 := (by injection e504)
              replace hx504_0 := (HB.out.cell (World.block_lt_of_cell? w _ hx504_0)).trans hx504_0
              replace p504 := eq_true p504
              replace q504 := eq_true q504
              refine start_ (n := 33) (S := fun w' => w'.cell? ⟨gb493, 0, none⟩ = some (.int .i64 a0_0) ∧ w'.cell? ⟨gb493, 1, none⟩ = some (.slice A0_1 l0_1.length c0_1) ∧ w'.cell? (ad496.add (x5_2).toNat) = some (.int .i64 (rd l1 x5_2)) ∧ w'.cell? (ad496.add (x5_2).toNat) = some (.int .i64 (rd l1 x5_2)) ∧ w'.cell? (ad496.add ((ji28)).toNat) = some (.int .i64 (rd l1 (ji28))) ∧ w'.cell? (ad496.add (x5_2).toNat) = some (.int .i64 (rd l1 x5_2))) (ds := []) #[f_,f_,f_,f_,f_,f_,f_,f_,f_,f_,f_,f_,f_,f_,f_,f_,f_,f_,f_,f_,f_,f_,f_,f_,f_,f_,f_,f_,f_,f_,f_,f_,f_] (by kernel_rfl) rfl rfl ⟨(blk_cell BK493.out 0).trans rfl, (blk_cell BK493.out 1).trans rfl, ((HB.out.cell (World.block_lt_of_cell? w _ hw496_0)).trans hw496_0), ((HB.out.cell (World.block_lt_of_cell? w _ hw498_0)).trans hw498_0), ((HB.out.cell (World.block_lt_of_cell? w _ hw500_0)).trans hw500_0), ((HB.out.cell (World.block_lt_of_cell? w _ hw504_0)).trans hw504_0)⟩ (fun hHeld => ?_); refine with_tabW w4_GraphShortest.tab6 w4_GraphShortest.bits6 (fun HT_ HW_ => ?_)
              generalize wr.drew = w34 at BK493 HB hx496_0 hx498_0 hx500_0 hx504_0 hHeld ⊢
              refine pure_ (i := 0) (N := some 37) (v := ?_) (a' := ?_) #[t_,f_,f_,f_,f_,f_,f_,f_,f_,f_,f_,f_,f_,f_,f_,f_,f_,f_,f_,f_,f_,f_,f_,f_,f_,f_,f_,f_,f_,f_,f_,f_,f_] rfl rfl (any_of HT_.out (by kernel_rfl)) (fun _ _ _ h => h) (Or.inl ⟨by rfl, ?_⟩) ?_ ?_
              rotate_left
              ·intro w'
               go_simp
               with_reducible rfl
              rotate_left
              ·simp only [Act.put,uA_,uB_,uC_,i64_w,i32_w]
               rfl
              refine pure_ (i := 1) (N := some 38) (v := ?_) (a' := ?_) #[t_,t_,f_,f_,f_,f_,f_,f_,f_,f_,f_,f_,f_,f_,f_,f_,f_,f_,f_,f_,f_,f_,f_,f_,f_,f_,f_,f_,f_,f_,f_,f_,f_] rfl rfl (any_of HT_.out (by kernel_rfl)) (fun _ _ _ h => h) (Or.inl ⟨by rfl, ?_⟩) ?_ ?_
              rotate_left
              ·intro w'
               go_simp
               with_reducible rfl
              rotate_left
              ·simp only [Act.put,uA_,uB_,uC_,i64_w,i32_w]
               rfl
              refine pure_ (i := 2) (N := some 39) (v := ?_) (a' := ?_) #[t_,t_,t_,f_,f_,f_,f_,f_,f_,f_,f_,f_,f_,f_,f_,f_,f_,f_,f_,f_,f_,f_,f_,f_,f_,f_,f_,f_,f_,f_,f_,f_,f_] rfl rfl (any_of HT_.out (by kernel_rfl)) (fun _ _ _ h => h) (Or.inl ⟨by rfl, ?_⟩) ?_ ?_
              rotate_left
              ·intro w'
               go_simp
               with_reducible rfl
              rotate_left
              ·simp only [Act.put,uA_,uB_,uC_,i64_w,i32_w]
               rfl
              refine take_ (i := 3) (N := some 40) (v := ?_) (a' := ?_) #[t_,t_,t_,t_,f_,f_,f_,f_,f_,f_,f_,f_,f_,f_,f_,f_,f_,f_,f_,f_,f_,f_,f_,f_,f_,f_,f_,f_,f_,f_,f_,f_,f_] rfl rfl (take_ofW HT_.out HW_.out (by kernel_rfl)) (fun _ _ _ h => h) (Or.inl ⟨by rfl, ?_⟩) hHeld ?_ ?_
              rotate_left
              ·rintro w' ⟨s0, s1, s2, s3, s4, s5⟩
               go_simp
               with_reducible rfl
              rotate_left
              ·simp only [Act.put,uA_,uB_,uC_,i64_w,i32_w]
               rfl
              refine pure_ (i := 4) (N := some 41) (v := ?_) (a' := ?_) #[t_,t_,t_,t_,t_,f_,f_,f_,f_,f_,f_,f_,f_,f_,f_,f_,f_,f_,f_,f_,f_,f_,f_,f_,f_,f_,f_,f_,f_,f_,f_,f_,f_] rfl rfl (any_of HT_.out (by kernel_rfl)) (fun _ _ _ h => h) (Or.inl ⟨by rfl, ?_⟩) ?_ ?_
              rotate_left
              ·intro w'
               go_simp
               with_reducible rfl
              rotate_left
              ·simp only [Act.put,uA_,uB_,uC_,i64_w,i32_w]
               rfl
              refine pure_ (i := 5) (N := some 42) (v := ?_) (a' := ?_) #[t_,t_,t_,t_,t_,t_,f_,f_,f_,f_,f_,f_,f_,f_,f_,f_,f_,f_,f_,f_,f_,f_,f_,f_,f_,f_,f_,f_,f_,f_,f_,f_,f_] rfl rfl (any_of HT_.out (by kernel_rfl)) (fun _ _ _ h => h) (Or.inl ⟨by rfl, ?_⟩) ?_ ?_
              rotate_left
              ·intro w'
               go_simp
               with_reducible rfl
              rotate_left
              ·simp only [Act.put,uA_,uB_,uC_,i64_w,i32_w]
               rfl
              refine pure_ (i := 6) (N := some 43) (v := ?_) (a' := ?_) #[t_,t_,t_,t_,t_,t_,t_,f_,f_,f_,f_,f_,f_,f_,f_,f_,f_,f_,f_,f_,f_,f_,f_,f_,f_,f_,f_,f_,f_,f_,f_,f_,f_] rfl rfl (any_of HT_.out (by kernel_rfl)) (fun _ _ _ h => h) (Or.inl ⟨by rfl, ?_⟩) ?_ ?_
              rotate_left
              ·intro w'
               go_simp
               with_reducible rfl
              rotate_left
              ·simp only [Act.put,uA_,uB_,uC_,i64_w,i32_w]
               rfl
              refine pure_ (i := 7) (N := some 44) (v := ?_) (a' := ?_) #[t_,t_,t_,t_,t_,t_,t_,t_,f_,f_,f_,f_,f_,f_,f_,f_,f_,f_,f_,f_,f_,f_,f_,f_,f_,f_,f_,f_,f_,f_,f_,f_,f_] rfl rfl (any_of HT_.out (by kernel_rfl)) (fun _ _ _ h => h) (Or.inl ⟨by rfl, ?_⟩) ?_ ?_
              rotate_left
              ·intro w'
               go_simp
               with_reducible rfl
              rotate_left
              ·simp only [Act.put,uA_,uB_,uC_,i64_w,i32_w]
               rfl
              refine pure_ (i := 8) (N := some 45) (v := ?_) (a' := ?_) #[t_,t_,t_,t_,t_,t_,t_,t_,t_,f_,f_,f_,f_,f_,f_,f_,f_,f_,f_,f_,f_,f_,f_,f_,f_,f_,f_,f_,f_,f_,f_,f_,f_] rfl rfl (any_of HT_.out (by kernel_rfl)) (fun _ _ _ h => h) (Or.inl ⟨by rfl, ?_⟩) ?_ ?_
              rotate_left
              ·intro w'
               go_simp
               with_reducible rfl
              rotate_left
              ·simp only [Act.put,uA_,uB_,uC_,i64_w,i32_w]
               rfl
              refine pure_ (i := 10) (N := some 47) (v := ?_) (a' := ?_) #[t_,t_,t_,t_,t_,t_,t_,t_,t_,f_,t_,f_,f_,f_,f_,f_,f_,f_,f_,f_,f_,f_,f_,f_,f_,f_,f_,f_,f_,f_,f_,f_,f_] rfl rfl (any_of HT_.out (by kernel_rfl)) (fun _ _ _ h => h) (Or.inl ⟨by rfl, ?_⟩) ?_ ?_
              rotate_left
              ·intro w'
               go_simp
               with_reducible rfl
              rotate_left
              ·simp only [Act.put,uA_,uB_,uC_,i64_w,i32_w]
               rfl
              refine take_ (i := 9) (N := some 46) (v := ?_) (a' := ?_) #[t_,t_,t_,t_,t_,t_,t_,t_,t_,t_,t_,f_,f_,f_,f_,f_,f_,f_,f_,f_,f_,f_,f_,f_,f_,f_,f_,f_,f_,f_,f_,f_,f_] rfl rfl (take_ofW HT_.out HW_.out (by kernel_rfl)) (fun _ _ _ h => h) (Or.inl ⟨by rfl, ?_⟩) hHeld ?_ ?_
              rotate_left
              ·rintro w' ⟨s0, s1, s2, s3, s4, s5⟩
               go_simp
               with_reducible rfl
              rotate_left
              ·simp only [Act.put,uA_,uB_,uC_,i64_w,i32_w]
               rfl
              refine take_ (i := 11) (N := some 48) (v := ?_) (a' := ?_) #[t_,t_,t_,t_,t_,t_,t_,t_,t_,t_,t_,t_,f_,f_,f_,f_,f_,f_,f_,f_,f_,f_,f_,f_,f_,f_,f_,f_,f_,f_,f_,f_,f_] rfl rfl (take_ofW HT_.out HW_.out (by kernel_rfl)) (fun _ _ _ h => h) (Or.inl ⟨by rfl, ?_⟩) hHeld ?_ ?_
              rotate_left
              ·rintro w' ⟨s0, s1, s2, s3, s4, s5⟩
               go_simp
               with_reducible rfl
              rotate_left
              ·simp only [Act.put,uA_,uB_,uC_,i64_w,i32_w]
               rfl
              refine pure_ (i := 12) (N := some 49) (v := ?_) (a' := ?_) #[t_,t_,t_,t_,t_,t_,t_,t_,t_,t_,t_,t_,t_,f_,f_,f_,f_,f_,f_,f_,f_,f_,f_,f_,f_,f_,f_,f_,f_,f_,f_,f_,f_] rfl rfl (any_of HT_.out (by kernel_rfl)) (fun _ _ _ h => h) (Or.inl ⟨by rfl, ?_⟩) ?_ ?_
              rotate_left
              ·intro w'
               go_simp
               with_reducible rfl
              rotate_left
              ·simp only [Act.put,uA_,uB_,uC_,i64_w,i32_w]
               rfl
              refine pure_ (i := 13) (N := some 50) (v := ?_) (a' := ?_) #[t_,t_,t_,t_,t_,t_,t_,t_,t_,t_,t_,t_,t_,t_,f_,f_,f_,f_,f_,f_,f_,f_,f_,f_,f_,f_,f_,f_,f_,f_,f_,f_,f_] rfl rfl (any_of HT_.out (by kernel_rfl)) (fun _ _ _ h => h) (Or.inl ⟨by rfl, ?_⟩) ?_ ?_
              rotate_left
              ·intro w'
               go_simp
               with_reducible rfl
              rotate_left
              ·simp only [Act.put,uA_,uB_,uC_,i64_w,i32_w]
               rfl
              refine pure_ (i := 14) (N := some 51) (v := ?_) (a' := ?_) #[t_,t_,t_,t_,t_,t_,t_,t_,t_,t_,t_,t_,t_,t_,t_,f_,f_,f_,f_,f_,f_,f_,f_,f_,f_,f_,f_,f_,f_,f_,f_,f_,f_] rfl rfl (any_of HT_.out (by kernel_rfl)) (fun _ _ _ h => h) (Or.inl ⟨by rfl, ?_⟩) ?_ ?_
              rotate_left
              ·intro w'
               go_simp
               with_reducible rfl
              rotate_left
              ·simp only [Act.put,uA_,uB_,uC_,i64_w,i32_w]
               rfl
              refine pure_ (i := 15) (N := some 52) (v := ?_) (a' := ?_) #[t_,t_,t_,t_,t_,t_,t_,t_,t_,t_,t_,t_,t_,t_,t_,t_,f_,f_,f_,f_,f_,f_,f_,f_,f_,f_,f_,f_,f_,f_,f_,f_,f_] rfl rfl (any_of HT_.out (by kernel_rfl)) (fun _ _ _ h => h) (Or.inl ⟨by rfl, ?_⟩) ?_ ?_
              rotate_left
              ·intro w'
               go_simp
               with_reducible rfl
              rotate_left
              ·simp only [Act.put,uA_,uB_,uC_,i64_w,i32_w]
               rfl
              refine pure_ (i := 16) (N := some 53) (v := ?_) (a' := ?_) #[t_,t_,t_,t_,t_,t_,t_,t_,t_,t_,t_,t_,t_,t_,t_,t_,t_,f_,f_,f_,f_,f_,f_,f_,f_,f_,f_,f_,f_,f_,f_,f_,f_] rfl rfl (any_of HT_.out (by kernel_rfl)) (fun _ _ _ h => h) (Or.inl ⟨by rfl, ?_⟩) ?_ ?_
              rotate_left
              ·intro w'
               go_simp
               with_reducible rfl
              rotate_left
              ·simp only [Act.put,uA_,uB_,uC_,i64_w,i32_w]
               rfl
              refine pure_ (i := 17) (N := some 54) (v := ?_) (a' := ?_) #[t_,t_,t_,t_,t_,t_,t_,t_,t_,t_,t_,t_,t_,t_,t_,t_,t_,t_,f_,f_,f_,f_,f_,f_,f_,f_,f_,f_,f_,f_,f_,f_,f_] rfl rfl (any_of HT_.out (by kernel_rfl)) (fun _ _ _ h => h) (Or.inl ⟨by rfl, ?_⟩) ?_ ?_
              rotate_left
              ·intro w'
               go_simp
               with_reducible rfl
              rotate_left
              ·simp only [Act.put,uA_,uB_,uC_,i64_w,i32_w]
               rfl
              refine pure_ (i := 19) (N := some 56) (v := ?_) (a' := ?_) #[t_,t_,t_,t_,t_,t_,t_,t_,t_,t_,t_,t_,t_,t_,t_,t_,t_,t_,f_,t_,f_,f_,f_,f_,f_,f_,f_,f_,f_,f_,f_,f_,f_] rfl rfl (any_of HT_.out (by kernel_rfl)) (fun _ _ _ h => h) (Or.inl ⟨by rfl, ?_⟩) ?_ ?_
              rotate_left
              ·intro w'
               go_simp
               with_reducible rfl
              rotate_left
              ·simp only [Act.put,uA_,uB_,uC_,i64_w,i32_w]
               rfl
              refine pure_ (i := 20) (N := some 57) (v := ?_) (a' := ?_) #[t_,t_,t_,t_,t_,t_,t_,t_,t_,t_,t_,t_,t_,t_,t_,t_,t_,t_,f_,t_,t_,f_,f_,f_,f_,f_,f_,f_,f_,f_,f_,f_,f_] rfl rfl (any_of HT_.out (by kernel_rfl)) (fun _ _ _ h => h) (Or.inl ⟨by rfl, ?_⟩) ?_ ?_
              rotate_left
              ·intro w'
               go_simp
               with_reducible rfl
              rotate_left
              ·simp only [Act.put,uA_,uB_,uC_,i64_w,i32_w]
               rfl
              refine pure_ (i := 21) (N := some 58) (v := ?_) (a' := ?_) #[t_,t_,t_,t_,t_,t_,t_,t_,t_,t_,t_,t_,t_,t_,t_,t_,t_,t_,f_,t_,t_,t_,f_,f_,f_,f_,f_,f_,f_,f_,f_,f_,f_] rfl rfl (any_of HT_.out (by kernel_rfl)) (fun _ _ _ h => h) (Or.inl ⟨by rfl, ?_⟩) ?_ ?_
              rotate_left
              ·intro w'
               go_simp
               with_reducible rfl
              rotate_left
              ·simp only [Act.put,uA_,uB_,uC_,i64_w,i32_w]
               rfl
              refine pure_ (i := 22) (N := some 59) (v := ?_) (a' := ?_) #[t_,t_,t_,t_,t_,t_,t_,t_,t_,t_,t_,t_,t_,t_,t_,t_,t_,t_,f_,t_,t_,t_,t_,f_,f_,f_,f_,f_,f_,f_,f_,f_,f_] rfl rfl (any_of HT_.out (by kernel_rfl)) (fun _ _ _ h => h) (Or.inl ⟨by rfl, ?_⟩) ?_ ?_
              rotate_left
              ·intro w'
               go_simp
               with_reducible rfl
              rotate_left
              ·simp only [Act.put,uA_,uB_,uC_,i64_w,i32_w]
               rfl
              refine pure_ (i := 25) (N := some 62) (v := ?_) (a' := ?_) #[t_,t_,t_,t_,t_,t_,t_,t_,t_,t_,t_,t_,t_,t_,t_,t_,t_,t_,f_,t_,t_,t_,t_,f_,f_,t_,f_,f_,f_,f_,f_,f_,f_] rfl rfl (any_of HT_.out (by kernel_rfl)) (fun _ _ _ h => h) (Or.inl ⟨by rfl, ?_⟩) ?_ ?_
              rotate_left
              ·intro w'
               go_simp
               with_reducible rfl
              rotate_left
              ·simp only [Act.put,uA_,uB_,uC_,i64_w,i32_w]
               rfl
              refine pure_ (i := 26) (N := some 63) (v := ?_) (a' := ?_) #[t_,t_,t_,t_,t_,t_,t_,t_,t_,t_,t_,t_,t_,t_,t_,t_,t_,t_,f_,t_,t_,t_,t_,f_,f_,t_,t_,f_,f_,f_,f_,f_,f_] rfl rfl (any_of HT_.out (by kernel_rfl)) (fun _ _ _ h => h) (Or.inl ⟨by rfl, ?_⟩) ?_ ?_
              rotate_left
              ·intro w'
               go_simp
               with_reducible rfl
              rotate_left
              ·simp only [Act.put,uA_,uB_,uC_,i64_w,i32_w]
               rfl
              refine pure_ (i := 27) (N := some 64) (v := ?_) (a' := ?_) #[t_,t_,t_,t_,t_,t_,t_,t_,t_,t_,t_,t_,t_,t_,t_,t_,t_,t_,f_,t_,t_,t_,t_,f_,f_,t_,t_,t_,f_,f_,f_,f_,f_] rfl rfl (any_of HT_.out (by kernel_rfl)) (fun _ _ _ h => h) (Or.inl ⟨by rfl, ?_⟩) ?_ ?_
              rotate_left
              ·intro w'
               go_simp
               with_reducible rfl
              rotate_left
              ·simp only [Act.put,uA_,uB_,uC_,i64_w,i32_w]
               rfl
              refine take_ (i := 18) (N := some 55) (v := ?_) (a' := ?_) #[t_,t_,t_,t_,t_,t_,t_,t_,t_,t_,t_,t_,t_,t_,t_,t_,t_,t_,t_,t_,t_,t_,t_,f_,f_,t_,t_,t_,f_,f_,f_,f_,f_] rfl rfl (take_ofW HT_.out HW_.out (by kernel_rfl)) (fun _ _ _ h => h) (Or.inl ⟨by rfl, ?_⟩) hHeld ?_ ?_
              rotate_left
              ·rintro w' ⟨s0, s1, s2, s3, s4, s5⟩
               go_simp
               with_reducible rfl
              rotate_left
              ·simp only [Act.put,uA_,uB_,uC_,i64_w,i32_w]
               rfl
              refine take_ (i := 23) (N := some 60) (v := ?_) (a' := ?_) #[t_,t_,t_,t_,t_,t_,t_,t_,t_,t_,t_,t_,t_,t_,t_,t_,t_,t_,t_,t_,t_,t_,t_,t_,f_,t_,t_,t_,f_,f_,f_,f_,f_] rfl rfl (take_ofW HT_.out HW_.out (by kernel_rfl)) (fun _ _ _ h => h) (Or.inl ⟨by rfl, ?_⟩) hHeld ?_ ?_
              rotate_left
              ·rintro w' ⟨s0, s1, s2, s3, s4, s5⟩
               go_simp
               with_reducible rfl
              rotate_left
              ·simp only [Act.put,uA_,uB_,uC_,i64_w,i32_w]
               rfl
              refine take_ (i := 28) (N := some 65) (v := ?_) (a' := ?_) #[t_,t_,t_,t_,t_,t_,t_,t_,t_,t_,t_,t_,t_,t_,t_,t_,t_,t_,t_,t_,t_,t_,t_,t_,f_,t_,t_,t_,t_,f_,f_,f_,f_] rfl rfl (take_ofW HT_.out HW_.out (by kernel_rfl)) (fun _ _ _ h => h) (Or.inl ⟨by rfl, ?_⟩) hHeld ?_ ?_
              rotate_left
              ·rintro w' ⟨s0, s1, s2, s3, s4, s5⟩
               go_simp
               with_reducible rfl
              rotate_left
              ·simp only [Act.put,uA_,uB_,uC_,i64_w,i32_w]
               rfl
              refine one_ (i := 24) (N := some 61) #[t_,t_,t_,t_,t_,t_,t_,t_,t_,t_,t_,t_,t_,t_,t_,t_,t_,t_,t_,t_,t_,t_,t_,t_,t_,t_,t_,t_,t_,f_,f_,f_,f_] rfl rfl (one_of HT_.out (by kernel_rfl)) (by decide) (fun K hK => ?_)
              refine goes_ Tryd.func21 (by kernel_rfl) rfl #[.agg #[.int .i64 a0_0, .slice A0_1 l0_1.length c0_1], .int .i64 (rd l1 (ji28))] (by rfl) rfl rfl (by (try simp only [List.map_toArray, List.map_cons, List.map_nil]); first | done | (simp only [hji28]; rfl) | rfl | (simp only [List.length_drop, List.length_take]; rfl)) ?_
              with_reducible refine (r4_Succ.calls k2 a0_0 _ _ l0_1 (rd l1 (ji28)) t501 _ ?side1 ?side2 A31.out).mono ?_
              (case side1 => repeat (first | exact (Kd.C_below HR0_1.out HB.out) | (with_reducible refine Kd.C_alloc ?_ _) | (with_reducible refine Kd.C_drewN ?_ _) | (with_reducible refine Kd.C_drew ?_)))
              (case side2 => exact HC0_1.out)
              rintro e w35 ⟨v502, rfl, ho0, hb⟩
              refine ⟨_, rfl, ?_⟩
              have n0_ := aM_ (Kd.R_lower ho0 (below_size (by repeat (first | (with_reducible first | exact HB.out | apply bA_ | apply bB_ | apply bC_ | refine below_set ?_ GE493.out) | exact HB.out))))
              have n1_ := aM_ (blk_below (g := gb493) (o := .cells #[.int .i64 a0_0, .slice A0_1 l0_1.length c0_1] 24 (0, 0)) (by (with_reducible repeat (first | refine blk_drewN ?_ _ | refine blk_drew ?_ | refine blk_alloc ?_ _)); exact BK493.out) hb)
              have n2_ := aM_ (below_step (by repeat (first | (with_reducible first | exact HB.out | apply bA_ | apply bB_ | apply bC_ | refine below_set ?_ GE493.out) | exact HB.out)) hb)
              clear BK493
              clear HB
              have HO503 := n0_
              have BK493 := n1_
              have HB := n2_
              clear n0_ n1_ n2_
              (try clear hb)
              (try clear hb2)
              (try clear hk)
              (try clear hi)
              (try clear ho0)
              obtain ⟨Ao36, co36, eo36⟩ := Kd.R_slice HO503.out
              (first | subst eo36 | (injection eo36 with f1_ f2_ f3_; have f4_ := f1_.symm; have f5_ := f3_.symm; clear f1_ f2_ f3_; subst f4_; subst f5_))
              refine hK.out _ _ ⟨(blk_cell BK493.out 0).trans rfl, (blk_cell BK493.out 1).trans rfl, ((HB.out.cell (World.block_lt_of_cell? w _ hw496_0)).trans hw496_0), ((HB.out.cell (World.block_lt_of_cell? w _ hw498_0)).trans hw498_0), ((HB.out.cell (World.block_lt_of_cell? w _ hw500_0)).trans hw500_0), ((HB.out.cell (World.block_lt_of_cell? w _ hw504_0)).trans hw504_0)⟩ (fun hHeld => ?_)
              clear hK K
              refine norm_ (a' := ?_) ?_ ?_
              rotate_left
              ·show Act.put _ (some 61) _ = _
               simp only [Act.put,uA_,uB_,uC_,i64_w,i32_w]
               rfl
              refine one_ (i := 29) (N := some 66) #[t_,t_,t_,t_,t_,t_,t_,t_,t_,t_,t_,t_,t_,t_,t_,t_,t_,t_,t_,t_,t_,t_,t_,t_,t_,t_,t_,t_,t_,t_,f_,f_,f_] rfl rfl (one_of HT_.out (by kernel_rfl)) (by decide) (fun K hK => ?_)
              refine goes_ Tryd.func39 (by kernel_rfl) rfl #[.slice Ao36 t501.length co36, .int .i64 (rd l1 x5_2)] (by rfl) rfl rfl (by (try simp only [List.map_toArray, List.map_cons, List.map_nil]); first | done | rfl | (simp only [List.length_drop, List.length_take]; rfl)) ?_
              with_reducible refine (w4_in.calls k2 _ _ t501 (rd l1 x5_2) true _ ?side1 ?side2 A32.out).mono ?_
              (case side1 => repeat (first | exact (Kd.R_reads' HO503.out).2.2 | (with_reducible refine Kd.C_alloc ?_ _) | (with_reducible refine Kd.C_drewN ?_ _) | (with_reducible refine Kd.C_drew ?_)))
              (case side2 => exact (Kd.R_reads' HO503.out).2.1)
              rintro e w' ⟨rfl, ⟨nd, rfl⟩⟩
              refine ⟨_, rfl, ?_⟩
              refine hK.out _ _ ⟨(blk_cell BK493.out 0).trans rfl, (blk_cell BK493.out 1).trans rfl, ((HB.out.cell (World.block_lt_of_cell? w _ hw496_0)).trans hw496_0), ((HB.out.cell (World.block_lt_of_cell? w _ hw498_0)).trans hw498_0), ((HB.out.cell (World.block_lt_of_cell? w _ hw500_0)).trans hw500_0), ((HB.out.cell (World.block_lt_of_cell? w _ hw504_0)).trans hw504_0)⟩ (fun hHeld => ?_)
              clear hK K
              refine norm_ (a' := ?_) ?_ ?_
              rotate_left
              ·show Act.put _ (some 66) _ = _
               simp only [Act.put,uA_,uB_,uC_,i64_w,i32_w]
               rfl
              refine pure_ (i := 30) (N := some 67) (v := ?_) (a' := ?_) #[t_,t_,t_,t_,t_,t_,t_,t_,t_,t_,t_,t_,t_,t_,t_,t_,t_,t_,t_,t_,t_,t_,t_,t_,t_,t_,t_,t_,t_,t_,t_,f_,f_] rfl rfl (any_of HT_.out (by kernel_rfl)) (fun _ _ _ h => h) (Or.inl ⟨by rfl, ?_⟩) ?_ ?_
              rotate_left
              ·intro w'
               go_simp
               with_reducible rfl
              rotate_left
              ·simp only [Act.put,uA_,uB_,uC_,i64_w,i32_w]
               rfl
              refine pure_ (i := 31) (N := some 68) (v := ?_) (a' := ?_) #[t_,t_,t_,t_,t_,t_,t_,t_,t_,t_,t_,t_,t_,t_,t_,t_,t_,t_,t_,t_,t_,t_,t_,t_,t_,t_,t_,t_,t_,t_,t_,t_,f_] rfl rfl (any_of HT_.out (by kernel_rfl)) (fun _ _ _ h => h) (Or.inl ⟨by rfl, ?_⟩) ?_ ?_
              rotate_left
              ·intro w'
               go_simp
               with_reducible rfl
              rotate_left
              ·simp only [Act.put,uA_,uB_,uC_,i64_w,i32_w]
               rfl
              refine pure_ (i := 32) (N := some 69) (v := ?_) (a' := ?_) #[t_,t_,t_,t_,t_,t_,t_,t_,t_,t_,t_,t_,t_,t_,t_,t_,t_,t_,t_,t_,t_,t_,t_,t_,t_,t_,t_,t_,t_,t_,t_,t_,t_] rfl rfl (any_of HT_.out (by kernel_rfl)) (fun _ _ _ h => h) (Or.inl ⟨by rfl, ?_⟩) ?_ ?_
              rotate_left
              ·intro w'
               go_simp
               with_reducible rfl
              rotate_left
              ·simp only [Act.put,uA_,uB_,uC_,i64_w,i32_w]
               rfl
              refine done_ (done_of HT_.out (by kernel_rfl)) ?_
              try go_wp2
              go_roundg k2
              case measure => have := HJ2.out; have := HK2.out; omega
              case rel => exact ⟨(wrap64 (x5_2 + 1)), (by first | rfl | (simp; done) | (simp [*]; done)), H', ⟨by have := HJ2.out; have := HK2.out; omega⟩, ⟨by (with_reducible repeat (first | refine blk_drewN ?_ _ | refine blk_drew ?_ | refine blk_alloc ?_ _)); exact BK493.out⟩, ⟨by repeat (first | (with_reducible first | exact HB.out | apply bA_ | apply bB_ | apply bC_ | refine below_set ?_ GE493.out) | exact HB.out)⟩⟩
             ·replace c33 := Bool.eq_false_iff.mpr c33
              subst c33
              have H1 : ((w4_awake.f).bind fun t506 => (some t506)) = some r := by rw [if_neg (show ¬ (false = true) by decide)] at H; exact H
              clear H
              have H := H1
              clear H1
              replace H := Option.bind_eq_some_iff.mp H
              obtain ⟨t506, A370, H⟩ := H
              replace H : (some t506) = some r := H
              have A37 := aM_ A370
              clear A370
              obtain rfl := Option.some.inj H
              try go_wp2
              have n0_ := aM_ (blk_drew BK493.out)
              have n1_ := aM_ (below_drew1 HB.out)
              clear BK493
              clear HB
              have BK493 := n0_
              have HB := n1_
              clear n0_ n1_
              have p496 : 0 ≤ (x5_2 : Int) := of_decide_eq_true (by assumption)
              have q496 : x5_2 < (l1.length : Int) := of_decide_eq_true (by assumption)
              obtain ⟨ad496, e496, hx496_0⟩ := Kd.at_int HR1.out x5_2 p496 q496
              have hw496_0 := hx496_0
              cases e496
              replace hx496_0 := (HB.out.cell (World.block_lt_of_cell? w _ hx496_0)).trans hx496_0
              replace p496 := eq_true p496
              replace q496 := eq_true q496
              have p498 : 0 ≤ (x5_2 : Int) := of_decide_eq_true (by assumption)
              have q498 : x5_2 < (l1.length : Int) := of_decide_eq_true (by assumption)
              obtain ⟨ad498, e498, hx498_0⟩ := Kd.at_int HR1.out x5_2 p498 q498
              have hw498_0 := hx498_0
              obtain rfl : ad496 = ad498 := (by injection e498)
              replace hx498_0 := (HB.out.cell (World.block_lt_of_cell? w _ hx498_0)).trans hx498_0
              replace p498 := eq_true p498
              replace q498 := eq_true q498
              have p500 : 0 ≤ ((ji28) : Int) := of_decide_eq_true (by assumption)
              have q500 : (ji28) < (l1.length : Int) := of_decide_eq_true (by assumption)
              obtain ⟨ad500, e500, hx500_0⟩ := Kd.at_int HR1.out (ji28) p500 q500
              have hw500_0 := hx500_0
              obtain rfl : ad496 = ad500 := (by injection e500)
              replace hx500_0 := (HB.out.cell (World.block_lt_of_cell? w _ hx500_0)).trans hx500_0
              replace p500 := eq_true p500
              replace q500 := eq_true q500
              have p504 : 0 ≤ (x5_2 : Int) := of_decide_eq_true (by assumption)
              have q504 : x5_2 < (l1.length : Int) := of_decide_eq_true (by assumption)
              obtain ⟨ad504, e504, hx504_0⟩ := Kd.at_int HR1.out x5_2 p504 q504
              have hw504_0 := hx504_0
              obtain rfl : ad496 = ad504 := (by injection e504)
              replace hx504_0 := (HB.out.cell (World.block_lt_of_cell? w _ hx504_0)).trans hx504_0
              replace p504 := eq_true p504
              replace q504 := eq_true q504
              refine start_ (n := 33) (S := fun w' => w'.cell? ⟨gb493, 0, none⟩ = some (.int .i64 a0_0) ∧ w'.cell? ⟨gb493, 1, none⟩ = some (.slice A0_1 l0_1.length c0_1) ∧ w'.cell? (ad496.add (x5_2).toNat) = some (.int .i64 (rd l1 x5_2)) ∧ w'.cell? (ad496.add (x5_2).toNat) = some (.int .i64 (rd l1 x5_2)) ∧ w'.cell? (ad496.add ((ji28)).toNat) = some (.int .i64 (rd l1 (ji28))) ∧ w'.cell? (ad496.add (x5_2).toNat) = some (.int .i64 (rd l1 x5_2))) (ds := []) #[f_,f_,f_,f_,f_,f_,f_,f_,f_,f_,f_,f_,f_,f_,f_,f_,f_,f_,f_,f_,f_,f_,f_,f_,f_,f_,f_,f_,f_,f_,f_,f_,f_] (by kernel_rfl) rfl rfl ⟨(blk_cell BK493.out 0).trans rfl, (blk_cell BK493.out 1).trans rfl, ((HB.out.cell (World.block_lt_of_cell? w _ hw496_0)).trans hw496_0), ((HB.out.cell (World.block_lt_of_cell? w _ hw498_0)).trans hw498_0), ((HB.out.cell (World.block_lt_of_cell? w _ hw500_0)).trans hw500_0), ((HB.out.cell (World.block_lt_of_cell? w _ hw504_0)).trans hw504_0)⟩ (fun hHeld => ?_); refine with_tabW w4_GraphShortest.tab6 w4_GraphShortest.bits6 (fun HT_ HW_ => ?_)
              generalize wr.drew = w38 at BK493 HB hx496_0 hx498_0 hx500_0 hx504_0 hHeld ⊢
              refine pure_ (i := 0) (N := some 37) (v := ?_) (a' := ?_) #[t_,f_,f_,f_,f_,f_,f_,f_,f_,f_,f_,f_,f_,f_,f_,f_,f_,f_,f_,f_,f_,f_,f_,f_,f_,f_,f_,f_,f_,f_,f_,f_,f_] rfl rfl (any_of HT_.out (by kernel_rfl)) (fun _ _ _ h => h) (Or.inl ⟨by rfl, ?_⟩) ?_ ?_
              rotate_left
              ·intro w'
               go_simp
               with_reducible rfl
              rotate_left
              ·simp only [Act.put,uA_,uB_,uC_,i64_w,i32_w]
               rfl
              refine pure_ (i := 1) (N := some 38) (v := ?_) (a' := ?_) #[t_,t_,f_,f_,f_,f_,f_,f_,f_,f_,f_,f_,f_,f_,f_,f_,f_,f_,f_,f_,f_,f_,f_,f_,f_,f_,f_,f_,f_,f_,f_,f_,f_] rfl rfl (any_of HT_.out (by kernel_rfl)) (fun _ _ _ h => h) (Or.inl ⟨by rfl, ?_⟩) ?_ ?_
              rotate_left
              ·intro w'
               go_simp
               with_reducible rfl
              rotate_left
              ·simp only [Act.put,uA_,uB_,uC_,i64_w,i32_w]
               rfl
              refine pure_ (i := 2) (N := some 39) (v := ?_) (a' := ?_) #[t_,t_,t_,f_,f_,f_,f_,f_,f_,f_,f_,f_,f_,f_,f_,f_,f_,f_,f_,f_,f_,f_,f_,f_,f_,f_,f_,f_,f_,f_,f_,f_,f_] rfl rfl (any_of HT_.out (by kernel_rfl)) (fun _ _ _ h => h) (Or.inl ⟨by rfl, ?_⟩) ?_ ?_
              rotate_left
              ·intro w'
               go_simp
               with_reducible rfl
              rotate_left
              ·simp only [Act.put,uA_,uB_,uC_,i64_w,i32_w]
               rfl
              refine take_ (i := 3) (N := some 40) (v := ?_) (a' := ?_) #[t_,t_,t_,t_,f_,f_,f_,f_,f_,f_,f_,f_,f_,f_,f_,f_,f_,f_,f_,f_,f_,f_,f_,f_,f_,f_,f_,f_,f_,f_,f_,f_,f_] rfl rfl (take_ofW HT_.out HW_.out (by kernel_rfl)) (fun _ _ _ h => h) (Or.inl ⟨by rfl, ?_⟩) hHeld ?_ ?_
              rotate_left
              ·rintro w' ⟨s0, s1, s2, s3, s4, s5⟩
               go_simp
               with_reducible rfl
              rotate_left
              ·simp only [Act.put,uA_,uB_,uC_,i64_w,i32_w]
               rfl
              refine pure_ (i := 4) (N := some 41) (v := ?_) (a' := ?_) #[t_,t_,t_,t_,t_,f_,f_,f_,f_,f_,f_,f_,f_,f_,f_,f_,f_,f_,f_,f_,f_,f_,f_,f_,f_,f_,f_,f_,f_,f_,f_,f_,f_] rfl rfl (any_of HT_.out (by kernel_rfl)) (fun _ _ _ h => h) (Or.inl ⟨by rfl, ?_⟩) ?_ ?_
              rotate_left
              ·intro w'
               go_simp
               with_reducible rfl
              rotate_left
              ·simp only [Act.put,uA_,uB_,uC_,i64_w,i32_w]
               rfl
              refine pure_ (i := 5) (N := some 42) (v := ?_) (a' := ?_) #[t_,t_,t_,t_,t_,t_,f_,f_,f_,f_,f_,f_,f_,f_,f_,f_,f_,f_,f_,f_,f_,f_,f_,f_,f_,f_,f_,f_,f_,f_,f_,f_,f_] rfl rfl (any_of HT_.out (by kernel_rfl)) (fun _ _ _ h => h) (Or.inl ⟨by rfl, ?_⟩) ?_ ?_
              rotate_left
              ·intro w'
               go_simp
               with_reducible rfl
              rotate_left
              ·simp only [Act.put,uA_,uB_,uC_,i64_w,i32_w]
               rfl
              refine pure_ (i := 6) (N := some 43) (v := ?_) (a' := ?_) #[t_,t_,t_,t_,t_,t_,t_,f_,f_,f_,f_,f_,f_,f_,f_,f_,f_,f_,f_,f_,f_,f_,f_,f_,f_,f_,f_,f_,f_,f_,f_,f_,f_] rfl rfl (any_of HT_.out (by kernel_rfl)) (fun _ _ _ h => h) (Or.inl ⟨by rfl, ?_⟩) ?_ ?_
              rotate_left
              ·intro w'
               go_simp
               with_reducible rfl
              rotate_left
              ·simp only [Act.put,uA_,uB_,uC_,i64_w,i32_w]
               rfl
              refine pure_ (i := 7) (N := some 44) (v := ?_) (a' := ?_) #[t_,t_,t_,t_,t_,t_,t_,t_,f_,f_,f_,f_,f_,f_,f_,f_,f_,f_,f_,f_,f_,f_,f_,f_,f_,f_,f_,f_,f_,f_,f_,f_,f_] rfl rfl (any_of HT_.out (by kernel_rfl)) (fun _ _ _ h => h) (Or.inl ⟨by rfl, ?_⟩) ?_ ?_
              rotate_left
              ·intro w'
               go_simp
               with_reducible rfl
              rotate_left
              ·simp only [Act.put,uA_,uB_,uC_,i64_w,i32_w]
               rfl
              refine pure_ (i := 8) (N := some 45) (v := ?_) (a' := ?_) #[t_,t_,t_,t_,t_,t_,t_,t_,t_,f_,f_,f_,f_,f_,f_,f_,f_,f_,f_,f_,f_,f_,f_,f_,f_,f_,f_,f_,f_,f_,f_,f_,f_] rfl rfl (any_of HT_.out (by kernel_rfl)) (fun _ _ _ h => h) (Or.inl ⟨by rfl, ?_⟩) ?_ ?_
              rotate_left
              ·intro w'
               go_simp
               with_reducible rfl
              rotate_left
              ·simp only [Act.put,uA_,uB_,uC_,i64_w,i32_w]
               rfl
              refine pure_ (i := 10) (N := some 47) (v := ?_) (a' := ?_) #[t_,t_,t_,t_,t_,t_,t_,t_,t_,f_,t_,f_,f_,f_,f_,f_,f_,f_,f_,f_,f_,f_,f_,f_,f_,f_,f_,f_,f_,f_,f_,f_,f_] rfl rfl (any_of HT_.out (by kernel_rfl)) (fun _ _ _ h => h) (Or.inl ⟨by rfl, ?_⟩) ?_ ?_
              rotate_left
              ·intro w'
               go_simp
               with_reducible rfl
              rotate_left
              ·simp only [Act.put,uA_,uB_,uC_,i64_w,i32_w]
               rfl
              refine take_ (i := 9) (N := some 46) (v := ?_) (a' := ?_) #[t_,t_,t_,t_,t_,t_,t_,t_,t_,t_,t_,f_,f_,f_,f_,f_,f_,f_,f_,f_,f_,f_,f_,f_,f_,f_,f_,f_,f_,f_,f_,f_,f_] rfl rfl (take_ofW HT_.out HW_.out (by kernel_rfl)) (fun _ _ _ h => h) (Or.inl ⟨by rfl, ?_⟩) hHeld ?_ ?_
              rotate_left
              ·rintro w' ⟨s0, s1, s2, s3, s4, s5⟩
               go_simp
               with_reducible rfl
              rotate_left
              ·simp only [Act.put,uA_,uB_,uC_,i64_w,i32_w]
               rfl
              refine take_ (i := 11) (N := some 48) (v := ?_) (a' := ?_) #[t_,t_,t_,t_,t_,t_,t_,t_,t_,t_,t_,t_,f_,f_,f_,f_,f_,f_,f_,f_,f_,f_,f_,f_,f_,f_,f_,f_,f_,f_,f_,f_,f_] rfl rfl (take_ofW HT_.out HW_.out (by kernel_rfl)) (fun _ _ _ h => h) (Or.inl ⟨by rfl, ?_⟩) hHeld ?_ ?_
              rotate_left
              ·rintro w' ⟨s0, s1, s2, s3, s4, s5⟩
               go_simp
               with_reducible rfl
              rotate_left
              ·simp only [Act.put,uA_,uB_,uC_,i64_w,i32_w]
               rfl
              refine pure_ (i := 12) (N := some 49) (v := ?_) (a' := ?_) #[t_,t_,t_,t_,t_,t_,t_,t_,t_,t_,t_,t_,t_,f_,f_,f_,f_,f_,f_,f_,f_,f_,f_,f_,f_,f_,f_,f_,f_,f_,f_,f_,f_] rfl rfl (any_of HT_.out (by kernel_rfl)) (fun _ _ _ h => h) (Or.inl ⟨by rfl, ?_⟩) ?_ ?_
              rotate_left
              ·intro w'
               go_simp
               with_reducible rfl
              rotate_left
              ·simp only [Act.put,uA_,uB_,uC_,i64_w,i32_w]
               rfl
              refine pure_ (i := 13) (N := some 50) (v := ?_) (a' := ?_) #[t_,t_,t_,t_,t_,t_,t_,t_,t_,t_,t_,t_,t_,t_,f_,f_,f_,f_,f_,f_,f_,f_,f_,f_,f_,f_,f_,f_,f_,f_,f_,f_,f_] rfl rfl (any_of HT_.out (by kernel_rfl)) (fun _ _ _ h => h) (Or.inl ⟨by rfl, ?_⟩) ?_ ?_
              rotate_left
              ·intro w'
               go_simp
               with_reducible rfl
              rotate_left
              ·simp only [Act.put,uA_,uB_,uC_,i64_w,i32_w]
               rfl
              refine pure_ (i := 14) (N := some 51) (v := ?_) (a' := ?_) #[t_,t_,t_,t_,t_,t_,t_,t_,t_,t_,t_,t_,t_,t_,t_,f_,f_,f_,f_,f_,f_,f_,f_,f_,f_,f_,f_,f_,f_,f_,f_,f_,f_] rfl rfl (any_of HT_.out (by kernel_rfl)) (fun _ _ _ h => h) (Or.inl ⟨by rfl, ?_⟩) ?_ ?_
              rotate_left
              ·intro w'
               go_simp
               with_reducible rfl
              rotate_left
              ·simp only [Act.put,uA_,uB_,uC_,i64_w,i32_w]
               rfl
              refine pure_ (i := 15) (N := some 52) (v := ?_) (a' := ?_) #[t_,t_,t_,t_,t_,t_,t_,t_,t_,t_,t_,t_,t_,t_,t_,t_,f_,f_,f_,f_,f_,f_,f_,f_,f_,f_,f_,f_,f_,f_,f_,f_,f_] rfl rfl (any_of HT_.out (by kernel_rfl)) (fun _ _ _ h => h) (Or.inl ⟨by rfl, ?_⟩) ?_ ?_
              rotate_left
              ·intro w'
               go_simp
               with_reducible rfl
              rotate_left
              ·simp only [Act.put,uA_,uB_,uC_,i64_w,i32_w]
               rfl
              refine pure_ (i := 16) (N := some 53) (v := ?_) (a' := ?_) #[t_,t_,t_,t_,t_,t_,t_,t_,t_,t_,t_,t_,t_,t_,t_,t_,t_,f_,f_,f_,f_,f_,f_,f_,f_,f_,f_,f_,f_,f_,f_,f_,f_] rfl rfl (any_of HT_.out (by kernel_rfl)) (fun _ _ _ h => h) (Or.inl ⟨by rfl, ?_⟩) ?_ ?_
              rotate_left
              ·intro w'
               go_simp
               with_reducible rfl
              rotate_left
              ·simp only [Act.put,uA_,uB_,uC_,i64_w,i32_w]
               rfl
              refine pure_ (i := 17) (N := some 54) (v := ?_) (a' := ?_) #[t_,t_,t_,t_,t_,t_,t_,t_,t_,t_,t_,t_,t_,t_,t_,t_,t_,t_,f_,f_,f_,f_,f_,f_,f_,f_,f_,f_,f_,f_,f_,f_,f_] rfl rfl (any_of HT_.out (by kernel_rfl)) (fun _ _ _ h => h) (Or.inl ⟨by rfl, ?_⟩) ?_ ?_
              rotate_left
              ·intro w'
               go_simp
               with_reducible rfl
              rotate_left
              ·simp only [Act.put,uA_,uB_,uC_,i64_w,i32_w]
               rfl
              refine pure_ (i := 19) (N := some 56) (v := ?_) (a' := ?_) #[t_,t_,t_,t_,t_,t_,t_,t_,t_,t_,t_,t_,t_,t_,t_,t_,t_,t_,f_,t_,f_,f_,f_,f_,f_,f_,f_,f_,f_,f_,f_,f_,f_] rfl rfl (any_of HT_.out (by kernel_rfl)) (fun _ _ _ h => h) (Or.inl ⟨by rfl, ?_⟩) ?_ ?_
              rotate_left
              ·intro w'
               go_simp
               with_reducible rfl
              rotate_left
              ·simp only [Act.put,uA_,uB_,uC_,i64_w,i32_w]
               rfl
              refine pure_ (i := 20) (N := some 57) (v := ?_) (a' := ?_) #[t_,t_,t_,t_,t_,t_,t_,t_,t_,t_,t_,t_,t_,t_,t_,t_,t_,t_,f_,t_,t_,f_,f_,f_,f_,f_,f_,f_,f_,f_,f_,f_,f_] rfl rfl (any_of HT_.out (by kernel_rfl)) (fun _ _ _ h => h) (Or.inl ⟨by rfl, ?_⟩) ?_ ?_
              rotate_left
              ·intro w'
               go_simp
               with_reducible rfl
              rotate_left
              ·simp only [Act.put,uA_,uB_,uC_,i64_w,i32_w]
               rfl
              refine pure_ (i := 21) (N := some 58) (v := ?_) (a' := ?_) #[t_,t_,t_,t_,t_,t_,t_,t_,t_,t_,t_,t_,t_,t_,t_,t_,t_,t_,f_,t_,t_,t_,f_,f_,f_,f_,f_,f_,f_,f_,f_,f_,f_] rfl rfl (any_of HT_.out (by kernel_rfl)) (fun _ _ _ h => h) (Or.inl ⟨by rfl, ?_⟩) ?_ ?_
              rotate_left
              ·intro w'
               go_simp
               with_reducible rfl
              rotate_left
              ·simp only [Act.put,uA_,uB_,uC_,i64_w,i32_w]
               rfl
              refine pure_ (i := 22) (N := some 59) (v := ?_) (a' := ?_) #[t_,t_,t_,t_,t_,t_,t_,t_,t_,t_,t_,t_,t_,t_,t_,t_,t_,t_,f_,t_,t_,t_,t_,f_,f_,f_,f_,f_,f_,f_,f_,f_,f_] rfl rfl (any_of HT_.out (by kernel_rfl)) (fun _ _ _ h => h) (Or.inl ⟨by rfl, ?_⟩) ?_ ?_
              rotate_left
              ·intro w'
               go_simp
               with_reducible rfl
              rotate_left
              ·simp only [Act.put,uA_,uB_,uC_,i64_w,i32_w]
               rfl
              refine pure_ (i := 25) (N := some 62) (v := ?_) (a' := ?_) #[t_,t_,t_,t_,t_,t_,t_,t_,t_,t_,t_,t_,t_,t_,t_,t_,t_,t_,f_,t_,t_,t_,t_,f_,f_,t_,f_,f_,f_,f_,f_,f_,f_] rfl rfl (any_of HT_.out (by kernel_rfl)) (fun _ _ _ h => h) (Or.inl ⟨by rfl, ?_⟩) ?_ ?_
              rotate_left
              ·intro w'
               go_simp
               with_reducible rfl
              rotate_left
              ·simp only [Act.put,uA_,uB_,uC_,i64_w,i32_w]
               rfl
              refine pure_ (i := 26) (N := some 63) (v := ?_) (a' := ?_) #[t_,t_,t_,t_,t_,t_,t_,t_,t_,t_,t_,t_,t_,t_,t_,t_,t_,t_,f_,t_,t_,t_,t_,f_,f_,t_,t_,f_,f_,f_,f_,f_,f_] rfl rfl (any_of HT_.out (by kernel_rfl)) (fun _ _ _ h => h) (Or.inl ⟨by rfl, ?_⟩) ?_ ?_
              rotate_left
              ·intro w'
               go_simp
               with_reducible rfl
              rotate_left
              ·simp only [Act.put,uA_,uB_,uC_,i64_w,i32_w]
               rfl
              refine pure_ (i := 27) (N := some 64) (v := ?_) (a' := ?_) #[t_,t_,t_,t_,t_,t_,t_,t_,t_,t_,t_,t_,t_,t_,t_,t_,t_,t_,f_,t_,t_,t_,t_,f_,f_,t_,t_,t_,f_,f_,f_,f_,f_] rfl rfl (any_of HT_.out (by kernel_rfl)) (fun _ _ _ h => h) (Or.inl ⟨by rfl, ?_⟩) ?_ ?_
              rotate_left
              ·intro w'
               go_simp
               with_reducible rfl
              rotate_left
              ·simp only [Act.put,uA_,uB_,uC_,i64_w,i32_w]
               rfl
              refine take_ (i := 18) (N := some 55) (v := ?_) (a' := ?_) #[t_,t_,t_,t_,t_,t_,t_,t_,t_,t_,t_,t_,t_,t_,t_,t_,t_,t_,t_,t_,t_,t_,t_,f_,f_,t_,t_,t_,f_,f_,f_,f_,f_] rfl rfl (take_ofW HT_.out HW_.out (by kernel_rfl)) (fun _ _ _ h => h) (Or.inl ⟨by rfl, ?_⟩) hHeld ?_ ?_
              rotate_left
              ·rintro w' ⟨s0, s1, s2, s3, s4, s5⟩
               go_simp
               with_reducible rfl
              rotate_left
              ·simp only [Act.put,uA_,uB_,uC_,i64_w,i32_w]
               rfl
              refine take_ (i := 23) (N := some 60) (v := ?_) (a' := ?_) #[t_,t_,t_,t_,t_,t_,t_,t_,t_,t_,t_,t_,t_,t_,t_,t_,t_,t_,t_,t_,t_,t_,t_,t_,f_,t_,t_,t_,f_,f_,f_,f_,f_] rfl rfl (take_ofW HT_.out HW_.out (by kernel_rfl)) (fun _ _ _ h => h) (Or.inl ⟨by rfl, ?_⟩) hHeld ?_ ?_
              rotate_left
              ·rintro w' ⟨s0, s1, s2, s3, s4, s5⟩
               go_simp
               with_reducible rfl
              rotate_left
              ·simp only [Act.put,uA_,uB_,uC_,i64_w,i32_w]
               rfl
              refine take_ (i := 28) (N := some 65) (v := ?_) (a' := ?_) #[t_,t_,t_,t_,t_,t_,t_,t_,t_,t_,t_,t_,t_,t_,t_,t_,t_,t_,t_,t_,t_,t_,t_,t_,f_,t_,t_,t_,t_,f_,f_,f_,f_] rfl rfl (take_ofW HT_.out HW_.out (by kernel_rfl)) (fun _ _ _ h => h) (Or.inl ⟨by rfl, ?_⟩) hHeld ?_ ?_
              rotate_left
              ·rintro w' ⟨s0, s1, s2, s3, s4, s5⟩
               go_simp
               with_reducible rfl
              rotate_left
              ·simp only [Act.put,uA_,uB_,uC_,i64_w,i32_w]
               rfl
              refine one_ (i := 24) (N := some 61) #[t_,t_,t_,t_,t_,t_,t_,t_,t_,t_,t_,t_,t_,t_,t_,t_,t_,t_,t_,t_,t_,t_,t_,t_,t_,t_,t_,t_,t_,f_,f_,f_,f_] rfl rfl (one_of HT_.out (by kernel_rfl)) (by decide) (fun K hK => ?_)
              refine goes_ Tryd.func21 (by kernel_rfl) rfl #[.agg #[.int .i64 a0_0, .slice A0_1 l0_1.length c0_1], .int .i64 (rd l1 (ji28))] (by rfl) rfl rfl (by (try simp only [List.map_toArray, List.map_cons, List.map_nil]); first | done | (simp only [hji28]; rfl) | rfl | (simp only [List.length_drop, List.length_take]; rfl)) ?_
              with_reducible refine (r4_Succ.calls k2 a0_0 _ _ l0_1 (rd l1 (ji28)) t501 _ ?side1 ?side2 A31.out).mono ?_
              (case side1 => repeat (first | exact (Kd.C_below HR0_1.out HB.out) | (with_reducible refine Kd.C_alloc ?_ _) | (with_reducible refine Kd.C_drewN ?_ _) | (with_reducible refine Kd.C_drew ?_)))
              (case side2 => exact HC0_1.out)
              rintro e w39 ⟨v502, rfl, ho0, hb⟩
              refine ⟨_, rfl, ?_⟩
              have n0_ := aM_ (Kd.R_lower ho0 (below_size (by repeat (first | (with_reducible first | exact HB.out | apply bA_ | apply bB_ | apply bC_ | refine below_set ?_ GE493.out) | exact HB.out))))
              have n1_ := aM_ (blk_below (g := gb493) (o := .cells #[.int .i64 a0_0, .slice A0_1 l0_1.length c0_1] 24 (0, 0)) (by (with_reducible repeat (first | refine blk_drewN ?_ _ | refine blk_drew ?_ | refine blk_alloc ?_ _)); exact BK493.out) hb)
              have n2_ := aM_ (below_step (by repeat (first | (with_reducible first | exact HB.out | apply bA_ | apply bB_ | apply bC_ | refine below_set ?_ GE493.out) | exact HB.out)) hb)
              clear BK493
              clear HB
              have HO503 := n0_
              have BK493 := n1_
              have HB := n2_
              clear n0_ n1_ n2_
              (try clear hb)
              (try clear hb2)
              (try clear hk)
              (try clear hi)
              (try clear ho0)
              obtain ⟨Ao40, co40, eo40⟩ := Kd.R_slice HO503.out
              (first | subst eo40 | (injection eo40 with f1_ f2_ f3_; have f4_ := f1_.symm; have f5_ := f3_.symm; clear f1_ f2_ f3_; subst f4_; subst f5_))
              refine hK.out _ _ ⟨(blk_cell BK493.out 0).trans rfl, (blk_cell BK493.out 1).trans rfl, ((HB.out.cell (World.block_lt_of_cell? w _ hw496_0)).trans hw496_0), ((HB.out.cell (World.block_lt_of_cell? w _ hw498_0)).trans hw498_0), ((HB.out.cell (World.block_lt_of_cell? w _ hw500_0)).trans hw500_0), ((HB.out.cell (World.block_lt_of_cell? w _ hw504_0)).trans hw504_0)⟩ (fun hHeld => ?_)
              clear hK K
              refine norm_ (a' := ?_) ?_ ?_
              rotate_left
              ·show Act.put _ (some 61) _ = _
               simp only [Act.put,uA_,uB_,uC_,i64_w,i32_w]
               rfl
              refine one_ (i := 29) (N := some 66) #[t_,t_,t_,t_,t_,t_,t_,t_,t_,t_,t_,t_,t_,t_,t_,t_,t_,t_,t_,t_,t_,t_,t_,t_,t_,t_,t_,t_,t_,t_,f_,f_,f_] rfl rfl (one_of HT_.out (by kernel_rfl)) (by decide) (fun K hK => ?_)
              refine goes_ Tryd.func39 (by kernel_rfl) rfl #[.slice Ao40 t501.length co40, .int .i64 (rd l1 x5_2)] (by rfl) rfl rfl (by (try simp only [List.map_toArray, List.map_cons, List.map_nil]); first | done | rfl | (simp only [List.length_drop, List.length_take]; rfl)) ?_
              with_reducible refine (w4_in.calls k2 _ _ t501 (rd l1 x5_2) false _ ?side1 ?side2 A32.out).mono ?_
              (case side1 => repeat (first | exact (Kd.R_reads' HO503.out).2.2 | (with_reducible refine Kd.C_alloc ?_ _) | (with_reducible refine Kd.C_drewN ?_ _) | (with_reducible refine Kd.C_drew ?_)))
              (case side2 => exact (Kd.R_reads' HO503.out).2.1)
              rintro e w' ⟨rfl, ⟨nd, rfl⟩⟩
              refine ⟨_, rfl, ?_⟩
              refine hK.out _ _ ⟨(blk_cell BK493.out 0).trans rfl, (blk_cell BK493.out 1).trans rfl, ((HB.out.cell (World.block_lt_of_cell? w _ hw496_0)).trans hw496_0), ((HB.out.cell (World.block_lt_of_cell? w _ hw498_0)).trans hw498_0), ((HB.out.cell (World.block_lt_of_cell? w _ hw500_0)).trans hw500_0), ((HB.out.cell (World.block_lt_of_cell? w _ hw504_0)).trans hw504_0)⟩ (fun hHeld => ?_)
              clear hK K
              refine norm_ (a' := ?_) ?_ ?_
              rotate_left
              ·show Act.put _ (some 66) _ = _
               simp only [Act.put,uA_,uB_,uC_,i64_w,i32_w]
               rfl
              refine pure_ (i := 30) (N := some 67) (v := ?_) (a' := ?_) #[t_,t_,t_,t_,t_,t_,t_,t_,t_,t_,t_,t_,t_,t_,t_,t_,t_,t_,t_,t_,t_,t_,t_,t_,t_,t_,t_,t_,t_,t_,t_,f_,f_] rfl rfl (any_of HT_.out (by kernel_rfl)) (fun _ _ _ h => h) (Or.inl ⟨by rfl, ?_⟩) ?_ ?_
              rotate_left
              ·intro w'
               go_simp
               with_reducible rfl
              rotate_left
              ·simp only [Act.put,uA_,uB_,uC_,i64_w,i32_w]
               rfl
              refine pure_ (i := 31) (N := some 68) (v := ?_) (a' := ?_) #[t_,t_,t_,t_,t_,t_,t_,t_,t_,t_,t_,t_,t_,t_,t_,t_,t_,t_,t_,t_,t_,t_,t_,t_,t_,t_,t_,t_,t_,t_,t_,t_,f_] rfl rfl (any_of HT_.out (by kernel_rfl)) (fun _ _ _ h => h) (Or.inl ⟨by rfl, ?_⟩) ?_ ?_
              rotate_left
              ·intro w'
               go_simp
               with_reducible rfl
              rotate_left
              ·simp only [Act.put,uA_,uB_,uC_,i64_w,i32_w]
               rfl
              refine pure_ (i := 32) (N := some 69) (v := ?_) (a' := ?_) #[t_,t_,t_,t_,t_,t_,t_,t_,t_,t_,t_,t_,t_,t_,t_,t_,t_,t_,t_,t_,t_,t_,t_,t_,t_,t_,t_,t_,t_,t_,t_,t_,t_] rfl rfl (any_of HT_.out (by kernel_rfl)) (fun _ _ _ h => h) (Or.inl ⟨by rfl, ?_⟩) ?_ ?_
              rotate_left
              ·intro w'
               go_simp
               with_reducible rfl
              rotate_left
              ·simp only [Act.put,uA_,uB_,uC_,i64_w,i32_w]
               rfl
              refine done_ (done_of HT_.out (by kernel_rfl)) ?_
              try go_wp2_with (first | ((with_reducible refine gate_callee (f := 30) rfl ?_); refine goesL_ (some 70) rfl rfl Tryd.func30 (by kernel_rfl) rfl #[] rfl (by (try simp only [List.map_toArray, List.map_cons, List.map_nil]); first | done | rfl | (simp only [List.length_drop, List.length_take]; rfl)) ?_; (with_reducible refine (w4_awake.calls  t506 _ ?side1 A37.out).mono ?_); (case side1 => exact TabW.below HG_.out (by repeat (first | (with_reducible first | exact HB.out | apply bA_ | apply bB_ | apply bC_ | refine below_set ?_ GE493.out) | exact HB.out))); rintro e w41 ⟨rfl, hb⟩; refine ⟨_, rfl, ?_⟩; have n0_ := aM_ (Kd.R_below (by (with_reducible repeat (first | apply rA_ | apply rB_ | apply rC_)); exact HO503.out) hb); have n1_ := aM_ (blk_below (g := gb493) (o := .cells #[.int .i64 a0_0, .slice A0_1 l0_1.length c0_1] 24 (0, 0)) (by (with_reducible repeat (first | refine blk_drewN ?_ _ | refine blk_drew ?_ | refine blk_alloc ?_ _)); exact BK493.out) hb); have n2_ := aM_ (below_step (by repeat (first | (with_reducible first | exact HB.out | apply bA_ | apply bB_ | apply bC_ | refine below_set ?_ GE493.out) | exact HB.out)) hb); clear HO503; clear BK493; clear HB; have HO503 := n0_; have BK493 := n1_; have HB := n2_; clear n0_ n1_ n2_; (try clear hb); (try clear hb2); (try clear hk); (try clear hi)))
              go_ret
              exact ⟨by first | rfl | (simp [errW_none, errW_some] <;> rfl) | (simp only [← hji28]; first | rfl | (simp [errW_none, errW_some] <;> rfl)) | (simp [*, errW_none, errW_some] <;> rfl), by repeat (first | (with_reducible first | exact HB.out | apply bA_ | apply bB_ | apply bC_ | refine below_set ?_ GE493.out) | exact HB.out)⟩
            ·rw [if_neg c30] at H
             exact absurd H (by simp)
           ·rw [if_neg c29] at H
            exact absurd H (by simp)
          ·rw [if_neg c27] at H
           have c27b0 : decide (0 < x5_2) = false := decide_eq_false c27
           clear c27
           have H' := aM_ H
           clear H
           try go_wp2
           have n0_ := aM_ (blk_drew BK493.out)
           have n1_ := aM_ (below_drew1 HB.out)
           clear BK493
           clear HB
           have BK493 := n0_
           have HB := n1_
           clear n0_ n1_
           have p496 : 0 ≤ (x5_2 : Int) := of_decide_eq_true (by assumption)
           have q496 : x5_2 < (l1.length : Int) := of_decide_eq_true (by assumption)
           obtain ⟨ad496, e496, hx496_0⟩ := Kd.at_int HR1.out x5_2 p496 q496
           have hw496_0 := hx496_0
           cases e496
           replace hx496_0 := (HB.out.cell (World.block_lt_of_cell? w _ hx496_0)).trans hx496_0
           replace p496 := eq_true p496
           replace q496 := eq_true q496
           have p498 : 0 ≤ (x5_2 : Int) := of_decide_eq_true (by assumption)
           have q498 : x5_2 < (l1.length : Int) := of_decide_eq_true (by assumption)
           obtain ⟨ad498, e498, hx498_0⟩ := Kd.at_int HR1.out x5_2 p498 q498
           have hw498_0 := hx498_0
           obtain rfl : ad496 = ad498 := (by injection e498)
           replace hx498_0 := (HB.out.cell (World.block_lt_of_cell? w _ hx498_0)).trans hx498_0
           replace p498 := eq_true p498
           replace q498 := eq_true q498
           refine start_ (n := 33) (S := fun w' => w'.cell? ⟨gb493, 0, none⟩ = some (.int .i64 a0_0) ∧ w'.cell? ⟨gb493, 1, none⟩ = some (.slice A0_1 l0_1.length c0_1) ∧ w'.cell? (ad496.add (x5_2).toNat) = some (.int .i64 (rd l1 x5_2)) ∧ w'.cell? (ad496.add (x5_2).toNat) = some (.int .i64 (rd l1 x5_2))) (ds := []) #[f_,f_,f_,f_,f_,f_,f_,f_,f_,f_,f_,f_,f_,f_,f_,f_,f_,f_,f_,f_,f_,f_,f_,f_,f_,f_,f_,f_,f_,f_,f_,f_,f_] (by kernel_rfl) rfl rfl ⟨(blk_cell BK493.out 0).trans rfl, (blk_cell BK493.out 1).trans rfl, ((HB.out.cell (World.block_lt_of_cell? w _ hw496_0)).trans hw496_0), ((HB.out.cell (World.block_lt_of_cell? w _ hw498_0)).trans hw498_0)⟩ (fun hHeld => ?_); refine with_tabW w4_GraphShortest.tab6 w4_GraphShortest.bits6 (fun HT_ HW_ => ?_)
           generalize wr.drew = w42 at BK493 HB hx496_0 hx498_0 hHeld ⊢
           refine pure_ (i := 0) (N := some 37) (v := ?_) (a' := ?_) #[t_,f_,f_,f_,f_,f_,f_,f_,f_,f_,f_,f_,f_,f_,f_,f_,f_,f_,f_,f_,f_,f_,f_,f_,f_,f_,f_,f_,f_,f_,f_,f_,f_] rfl rfl (any_of HT_.out (by kernel_rfl)) (fun _ _ _ h => h) (Or.inl ⟨by rfl, ?_⟩) ?_ ?_
           rotate_left
           ·intro w'
            go_simp
            with_reducible rfl
           rotate_left
           ·simp only [Act.put,uA_,uB_,uC_,i64_w,i32_w]
            rfl
           refine pure_ (i := 1) (N := some 38) (v := ?_) (a' := ?_) #[t_,t_,f_,f_,f_,f_,f_,f_,f_,f_,f_,f_,f_,f_,f_,f_,f_,f_,f_,f_,f_,f_,f_,f_,f_,f_,f_,f_,f_,f_,f_,f_,f_] rfl rfl (any_of HT_.out (by kernel_rfl)) (fun _ _ _ h => h) (Or.inl ⟨by rfl, ?_⟩) ?_ ?_
           rotate_left
           ·intro w'
            go_simp
            with_reducible rfl
           rotate_left
           ·simp only [Act.put,uA_,uB_,uC_,i64_w,i32_w]
            rfl
           refine pure_ (i := 2) (N := some 39) (v := ?_) (a' := ?_) #[t_,t_,t_,f_,f_,f_,f_,f_,f_,f_,f_,f_,f_,f_,f_,f_,f_,f_,f_,f_,f_,f_,f_,f_,f_,f_,f_,f_,f_,f_,f_,f_,f_] rfl rfl (any_of HT_.out (by kernel_rfl)) (fun _ _ _ h => h) (Or.inl ⟨by rfl, ?_⟩) ?_ ?_
           rotate_left
           ·intro w'
            go_simp
            with_reducible rfl
           rotate_left
           ·simp only [Act.put,uA_,uB_,uC_,i64_w,i32_w]
            rfl
           refine take_ (i := 3) (N := some 40) (v := ?_) (a' := ?_) #[t_,t_,t_,t_,f_,f_,f_,f_,f_,f_,f_,f_,f_,f_,f_,f_,f_,f_,f_,f_,f_,f_,f_,f_,f_,f_,f_,f_,f_,f_,f_,f_,f_] rfl rfl (take_ofW HT_.out HW_.out (by kernel_rfl)) (fun _ _ _ h => h) (Or.inl ⟨by rfl, ?_⟩) hHeld ?_ ?_
           rotate_left
           ·rintro w' ⟨s0, s1, s2, s3⟩
            go_simp
            with_reducible rfl
           rotate_left
           ·simp only [Act.put,uA_,uB_,uC_,i64_w,i32_w]
            rfl
           refine pure_ (i := 4) (N := some 41) (v := ?_) (a' := ?_) #[t_,t_,t_,t_,t_,f_,f_,f_,f_,f_,f_,f_,f_,f_,f_,f_,f_,f_,f_,f_,f_,f_,f_,f_,f_,f_,f_,f_,f_,f_,f_,f_,f_] rfl rfl (any_of HT_.out (by kernel_rfl)) (fun _ _ _ h => h) (Or.inl ⟨by rfl, ?_⟩) ?_ ?_
           rotate_left
           ·intro w'
            go_simp
            with_reducible rfl
           rotate_left
           ·simp only [Act.put,uA_,uB_,uC_,i64_w,i32_w]
            rfl
           refine pure_ (i := 5) (N := some 42) (v := ?_) (a' := ?_) #[t_,t_,t_,t_,t_,t_,f_,f_,f_,f_,f_,f_,f_,f_,f_,f_,f_,f_,f_,f_,f_,f_,f_,f_,f_,f_,f_,f_,f_,f_,f_,f_,f_] rfl rfl (any_of HT_.out (by kernel_rfl)) (fun _ _ _ h => h) (Or.inl ⟨by rfl, ?_⟩) ?_ ?_
           rotate_left
           ·intro w'
            go_simp
            with_reducible rfl
           rotate_left
           ·simp only [Act.put,uA_,uB_,uC_,i64_w,i32_w]
            rfl
           refine pure_ (i := 6) (N := some 43) (v := ?_) (a' := ?_) #[t_,t_,t_,t_,t_,t_,t_,f_,f_,f_,f_,f_,f_,f_,f_,f_,f_,f_,f_,f_,f_,f_,f_,f_,f_,f_,f_,f_,f_,f_,f_,f_,f_] rfl rfl (any_of HT_.out (by kernel_rfl)) (fun _ _ _ h => h) (Or.inl ⟨by rfl, ?_⟩) ?_ ?_
           rotate_left
           ·intro w'
            go_simp
            with_reducible rfl
           rotate_left
           ·simp only [Act.put,uA_,uB_,uC_,i64_w,i32_w]
            rfl
           refine pure_ (i := 7) (N := some 44) (v := ?_) (a' := ?_) #[t_,t_,t_,t_,t_,t_,t_,t_,f_,f_,f_,f_,f_,f_,f_,f_,f_,f_,f_,f_,f_,f_,f_,f_,f_,f_,f_,f_,f_,f_,f_,f_,f_] rfl rfl (any_of HT_.out (by kernel_rfl)) (fun _ _ _ h => h) (Or.inl ⟨by rfl, ?_⟩) ?_ ?_
           rotate_left
           ·intro w'
            go_simp
            with_reducible rfl
           rotate_left
           ·simp only [Act.put,uA_,uB_,uC_,i64_w,i32_w]
            rfl
           refine pure_ (i := 8) (N := some 45) (v := ?_) (a' := ?_) #[t_,t_,t_,t_,t_,t_,t_,t_,t_,f_,f_,f_,f_,f_,f_,f_,f_,f_,f_,f_,f_,f_,f_,f_,f_,f_,f_,f_,f_,f_,f_,f_,f_] rfl rfl (any_of HT_.out (by kernel_rfl)) (fun _ _ _ h => h) (Or.inl ⟨by rfl, ?_⟩) ?_ ?_
           rotate_left
           ·intro w'
            go_simp
            with_reducible rfl
           rotate_left
           ·simp only [Act.put,uA_,uB_,uC_,i64_w,i32_w]
            rfl
           refine pure_ (i := 10) (N := some 47) (v := ?_) (a' := ?_) #[t_,t_,t_,t_,t_,t_,t_,t_,t_,f_,t_,f_,f_,f_,f_,f_,f_,f_,f_,f_,f_,f_,f_,f_,f_,f_,f_,f_,f_,f_,f_,f_,f_] rfl rfl (any_of HT_.out (by kernel_rfl)) (fun _ _ _ h => h) (Or.inl ⟨by rfl, ?_⟩) ?_ ?_
           rotate_left
           ·intro w'
            go_simp
            with_reducible rfl
           rotate_left
           ·simp only [Act.put,uA_,uB_,uC_,i64_w,i32_w]
            rfl
           refine take_ (i := 9) (N := some 46) (v := ?_) (a' := ?_) #[t_,t_,t_,t_,t_,t_,t_,t_,t_,t_,t_,f_,f_,f_,f_,f_,f_,f_,f_,f_,f_,f_,f_,f_,f_,f_,f_,f_,f_,f_,f_,f_,f_] rfl rfl (take_ofW HT_.out HW_.out (by kernel_rfl)) (fun _ _ _ h => h) (Or.inl ⟨by rfl, ?_⟩) hHeld ?_ ?_
           rotate_left
           ·rintro w' ⟨s0, s1, s2, s3⟩
            go_simp
            with_reducible rfl
           rotate_left
           ·simp only [Act.put,uA_,uB_,uC_,i64_w,i32_w]
            rfl
           refine take_ (i := 11) (N := some 48) (v := ?_) (a' := ?_) #[t_,t_,t_,t_,t_,t_,t_,t_,t_,t_,t_,t_,f_,f_,f_,f_,f_,f_,f_,f_,f_,f_,f_,f_,f_,f_,f_,f_,f_,f_,f_,f_,f_] rfl rfl (take_ofW HT_.out HW_.out (by kernel_rfl)) (fun _ _ _ h => h) (Or.inl ⟨by rfl, ?_⟩) hHeld ?_ ?_
           rotate_left
           ·rintro w' ⟨s0, s1, s2, s3⟩
            go_simp
            with_reducible rfl
           rotate_left
           ·simp only [Act.put,uA_,uB_,uC_,i64_w,i32_w]
            rfl
           refine pure_ (i := 12) (N := some 49) (v := ?_) (a' := ?_) #[t_,t_,t_,t_,t_,t_,t_,t_,t_,t_,t_,t_,t_,f_,f_,f_,f_,f_,f_,f_,f_,f_,f_,f_,f_,f_,f_,f_,f_,f_,f_,f_,f_] rfl rfl (any_of HT_.out (by kernel_rfl)) (fun _ _ _ h => h) (Or.inl ⟨by rfl, ?_⟩) ?_ ?_
           rotate_left
           ·intro w'
            go_simp
            with_reducible rfl
           rotate_left
           ·simp only [Act.put,uA_,uB_,uC_,i64_w,i32_w]
            rfl
           refine pure_ (i := 13) (N := some 50) (v := ?_) (a' := ?_) #[t_,t_,t_,t_,t_,t_,t_,t_,t_,t_,t_,t_,t_,t_,f_,f_,f_,f_,f_,f_,f_,f_,f_,f_,f_,f_,f_,f_,f_,f_,f_,f_,f_] rfl rfl (any_of HT_.out (by kernel_rfl)) (fun _ _ _ h => h) (Or.inl ⟨by rfl, ?_⟩) ?_ ?_
           rotate_left
           ·intro w'
            go_simp
            with_reducible rfl
           rotate_left
           ·simp only [Act.put,uA_,uB_,uC_,i64_w,i32_w]
            rfl
           refine pure_ (i := 14) (N := some 51) (v := ?_) (a' := ?_) #[t_,t_,t_,t_,t_,t_,t_,t_,t_,t_,t_,t_,t_,t_,t_,f_,f_,f_,f_,f_,f_,f_,f_,f_,f_,f_,f_,f_,f_,f_,f_,f_,f_] rfl rfl (any_of HT_.out (by kernel_rfl)) (fun _ _ _ h => h) (Or.inl ⟨by rfl, ?_⟩) ?_ ?_
           rotate_left
           ·intro w'
            go_simp
            with_reducible rfl
           rotate_left
           ·simp only [Act.put,uA_,uB_,uC_,i64_w,i32_w]
            rfl
           refine pure_ (i := 15) (N := some 52) (v := ?_) (a' := ?_) #[t_,t_,t_,t_,t_,t_,t_,t_,t_,t_,t_,t_,t_,t_,t_,t_,f_,f_,f_,f_,f_,f_,f_,f_,f_,f_,f_,f_,f_,f_,f_,f_,f_] rfl rfl (any_of HT_.out (by kernel_rfl)) (fun _ _ _ h => h) (Or.inl ⟨by rfl, ?_⟩) ?_ ?_
           rotate_left
           ·intro w'
            go_simp
            with_reducible rfl
           rotate_left
           ·simp only [Act.put,uA_,uB_,uC_,i64_w,i32_w]
            rfl
           refine pure_ (i := 16) (N := some 53) (v := ?_) (a' := ?_) #[t_,t_,t_,t_,t_,t_,t_,t_,t_,t_,t_,t_,t_,t_,t_,t_,t_,f_,f_,f_,f_,f_,f_,f_,f_,f_,f_,f_,f_,f_,f_,f_,f_] rfl rfl (any_of HT_.out (by kernel_rfl)) (fun _ _ _ h => h) (Or.inl ⟨by rfl, ?_⟩) ?_ ?_
           rotate_left
           ·intro w'
            go_simp
            with_reducible rfl
           rotate_left
           ·simp only [Act.put,uA_,uB_,uC_,i64_w,i32_w]
            rfl
           refine pure_ (i := 17) (N := some 54) (v := ?_) (a' := ?_) #[t_,t_,t_,t_,t_,t_,t_,t_,t_,t_,t_,t_,t_,t_,t_,t_,t_,t_,f_,f_,f_,f_,f_,f_,f_,f_,f_,f_,f_,f_,f_,f_,f_] rfl rfl (any_of HT_.out (by kernel_rfl)) (fun _ _ _ h => h) (Or.inl ⟨by rfl, ?_⟩) ?_ ?_
           rotate_left
           ·intro w'
            go_simp
            with_reducible rfl
           rotate_left
           ·simp only [Act.put,uA_,uB_,uC_,i64_w,i32_w]
            rfl
           refine pure_ (i := 18) (N := some 55) (v := undef) (a' := ?_) #[t_,t_,t_,t_,t_,t_,t_,t_,t_,t_,t_,t_,t_,t_,t_,t_,t_,t_,t_,f_,f_,f_,f_,f_,f_,f_,f_,f_,f_,f_,f_,f_,f_] rfl rfl (any_of HT_.out (by kernel_rfl)) (fun _ _ _ h => h) (Or.inr ⟨by rfl, rfl⟩) ?_ ?_
           rotate_left
           ·simp only [Act.put,uA_,uB_,uC_,i64_w,i32_w]
            rfl
           refine pure_ (i := 19) (N := some 56) (v := undef) (a' := ?_) #[t_,t_,t_,t_,t_,t_,t_,t_,t_,t_,t_,t_,t_,t_,t_,t_,t_,t_,t_,t_,f_,f_,f_,f_,f_,f_,f_,f_,f_,f_,f_,f_,f_] rfl rfl (any_of HT_.out (by kernel_rfl)) (fun _ _ _ h => h) (Or.inr ⟨by rfl, rfl⟩) ?_ ?_
           rotate_left
           ·simp only [Act.put,uA_,uB_,uC_,i64_w,i32_w]
            rfl
           refine pure_ (i := 20) (N := some 57) (v := undef) (a' := ?_) #[t_,t_,t_,t_,t_,t_,t_,t_,t_,t_,t_,t_,t_,t_,t_,t_,t_,t_,t_,t_,t_,f_,f_,f_,f_,f_,f_,f_,f_,f_,f_,f_,f_] rfl rfl (any_of HT_.out (by kernel_rfl)) (fun _ _ _ h => h) (Or.inr ⟨by rfl, rfl⟩) ?_ ?_
           rotate_left
           ·simp only [Act.put,uA_,uB_,uC_,i64_w,i32_w]
            rfl
           refine pure_ (i := 21) (N := some 58) (v := undef) (a' := ?_) #[t_,t_,t_,t_,t_,t_,t_,t_,t_,t_,t_,t_,t_,t_,t_,t_,t_,t_,t_,t_,t_,t_,f_,f_,f_,f_,f_,f_,f_,f_,f_,f_,f_] rfl rfl (any_of HT_.out (by kernel_rfl)) (fun _ _ _ h => h) (Or.inr ⟨by rfl, rfl⟩) ?_ ?_
           rotate_left
           ·simp only [Act.put,uA_,uB_,uC_,i64_w,i32_w]
            rfl
           refine pure_ (i := 22) (N := some 59) (v := undef) (a' := ?_) #[t_,t_,t_,t_,t_,t_,t_,t_,t_,t_,t_,t_,t_,t_,t_,t_,t_,t_,t_,t_,t_,t_,t_,f_,f_,f_,f_,f_,f_,f_,f_,f_,f_] rfl rfl (any_of HT_.out (by kernel_rfl)) (fun _ _ _ h => h) (Or.inr ⟨by rfl, rfl⟩) ?_ ?_
           rotate_left
           ·simp only [Act.put,uA_,uB_,uC_,i64_w,i32_w]
            rfl
           refine pure_ (i := 23) (N := some 60) (v := undef) (a' := ?_) #[t_,t_,t_,t_,t_,t_,t_,t_,t_,t_,t_,t_,t_,t_,t_,t_,t_,t_,t_,t_,t_,t_,t_,t_,f_,f_,f_,f_,f_,f_,f_,f_,f_] rfl rfl (any_of HT_.out (by kernel_rfl)) (fun _ _ _ h => h) (Or.inr ⟨by rfl, rfl⟩) ?_ ?_
           rotate_left
           ·simp only [Act.put,uA_,uB_,uC_,i64_w,i32_w]
            rfl
           refine pure_ (i := 24) (N := some 61) (v := undef) (a' := ?_) #[t_,t_,t_,t_,t_,t_,t_,t_,t_,t_,t_,t_,t_,t_,t_,t_,t_,t_,t_,t_,t_,t_,t_,t_,t_,f_,f_,f_,f_,f_,f_,f_,f_] rfl rfl (any_of HT_.out (by kernel_rfl)) (fun _ _ _ h => h) (Or.inr ⟨by rfl, rfl⟩) ?_ ?_
           rotate_left
           ·simp only [Act.put,uA_,uB_,uC_,i64_w,i32_w]
            rfl
           refine pure_ (i := 25) (N := some 62) (v := undef) (a' := ?_) #[t_,t_,t_,t_,t_,t_,t_,t_,t_,t_,t_,t_,t_,t_,t_,t_,t_,t_,t_,t_,t_,t_,t_,t_,t_,t_,f_,f_,f_,f_,f_,f_,f_] rfl rfl (any_of HT_.out (by kernel_rfl)) (fun _ _ _ h => h) (Or.inr ⟨by rfl, rfl⟩) ?_ ?_
           rotate_left
           ·simp only [Act.put,uA_,uB_,uC_,i64_w,i32_w]
            rfl
           refine pure_ (i := 26) (N := some 63) (v := undef) (a' := ?_) #[t_,t_,t_,t_,t_,t_,t_,t_,t_,t_,t_,t_,t_,t_,t_,t_,t_,t_,t_,t_,t_,t_,t_,t_,t_,t_,t_,f_,f_,f_,f_,f_,f_] rfl rfl (any_of HT_.out (by kernel_rfl)) (fun _ _ _ h => h) (Or.inr ⟨by rfl, rfl⟩) ?_ ?_
           rotate_left
           ·simp only [Act.put,uA_,uB_,uC_,i64_w,i32_w]
            rfl
           refine pure_ (i := 27) (N := some 64) (v := undef) (a' := ?_) #[t_,t_,t_,t_,t_,t_,t_,t_,t_,t_,t_,t_,t_,t_,t_,t_,t_,t_,t_,t_,t_,t_,t_,t_,t_,t_,t_,t_,f_,f_,f_,f_,f_] rfl rfl (any_of HT_.out (by kernel_rfl)) (fun _ _ _ h => h) (Or.inr ⟨by rfl, rfl⟩) ?_ ?_
           rotate_left
           ·simp only [Act.put,uA_,uB_,uC_,i64_w,i32_w]
            rfl
           refine pure_ (i := 28) (N := some 65) (v := undef) (a' := ?_) #[t_,t_,t_,t_,t_,t_,t_,t_,t_,t_,t_,t_,t_,t_,t_,t_,t_,t_,t_,t_,t_,t_,t_,t_,t_,t_,t_,t_,t_,f_,f_,f_,f_] rfl rfl (any_of HT_.out (by kernel_rfl)) (fun _ _ _ h => h) (Or.inr ⟨by rfl, rfl⟩) ?_ ?_
           rotate_left
           ·simp only [Act.put,uA_,uB_,uC_,i64_w,i32_w]
            rfl
           refine pure_ (i := 29) (N := some 66) (v := undef) (a' := ?_) #[t_,t_,t_,t_,t_,t_,t_,t_,t_,t_,t_,t_,t_,t_,t_,t_,t_,t_,t_,t_,t_,t_,t_,t_,t_,t_,t_,t_,t_,t_,f_,f_,f_] rfl rfl (any_of HT_.out (by kernel_rfl)) (fun _ _ _ h => h) (Or.inr ⟨by rfl, rfl⟩) ?_ ?_
           rotate_left
           ·simp only [Act.put,uA_,uB_,uC_,i64_w,i32_w]
            rfl
           refine pure_ (i := 30) (N := some 67) (v := undef) (a' := ?_) #[t_,t_,t_,t_,t_,t_,t_,t_,t_,t_,t_,t_,t_,t_,t_,t_,t_,t_,t_,t_,t_,t_,t_,t_,t_,t_,t_,t_,t_,t_,t_,f_,f_] rfl rfl (any_of HT_.out (by kernel_rfl)) (fun _ _ _ h => h) (Or.inr ⟨by rfl, rfl⟩) ?_ ?_
           rotate_left
           ·simp only [Act.put,uA_,uB_,uC_,i64_w,i32_w]
            rfl
           refine pure_ (i := 31) (N := some 68) (v := ?_) (a' := ?_) #[t_,t_,t_,t_,t_,t_,t_,t_,t_,t_,t_,t_,t_,t_,t_,t_,t_,t_,t_,t_,t_,t_,t_,t_,t_,t_,t_,t_,t_,t_,t_,t_,f_] rfl rfl (any_of HT_.out (by kernel_rfl)) (fun _ _ _ h => h) (Or.inl ⟨by rfl, ?_⟩) ?_ ?_
           rotate_left
           ·intro w'
            go_simp
            with_reducible rfl
           rotate_left
           ·simp only [Act.put,uA_,uB_,uC_,i64_w,i32_w]
            rfl
           refine pure_ (i := 32) (N := some 69) (v := ?_) (a' := ?_) #[t_,t_,t_,t_,t_,t_,t_,t_,t_,t_,t_,t_,t_,t_,t_,t_,t_,t_,t_,t_,t_,t_,t_,t_,t_,t_,t_,t_,t_,t_,t_,t_,t_] rfl rfl (any_of HT_.out (by kernel_rfl)) (fun _ _ _ h => h) (Or.inl ⟨by rfl, ?_⟩) ?_ ?_
           rotate_left
           ·intro w'
            go_simp
            with_reducible rfl
           rotate_left
           ·simp only [Act.put,uA_,uB_,uC_,i64_w,i32_w]
            rfl
           refine done_ (done_of HT_.out (by kernel_rfl)) ?_
           try go_wp2
           go_roundg k2
           case measure => have := HJ2.out; have := HK2.out; omega
           case rel => exact ⟨(wrap64 (x5_2 + 1)), (by first | rfl | (simp; done) | (simp [*]; done)), H', ⟨by have := HJ2.out; have := HK2.out; omega⟩, ⟨by (with_reducible repeat (first | refine blk_drewN ?_ _ | refine blk_drew ?_ | refine blk_alloc ?_ _)); exact BK493.out⟩, ⟨by repeat (first | (with_reducible first | exact HB.out | apply bA_ | apply bB_ | apply bC_ | refine below_set ?_ GE493.out) | exact HB.out)⟩⟩
       ·rw [if_neg c18] at H
        exact absurd H (by simp)
      ·rw [if_neg c17] at H
       have c17b0 : decide (x5_2 < (l1.length : Int)) = false := decide_eq_false c17
       clear c17
       by_cases c43 : 0 < (l1.length : Int)
       ·rw [if_pos c43] at H
        have c43b0 : decide (0 < (l1.length : Int)) = true := decide_eq_true c43
        have c43b1 : decide (0 < l1.length) = true := decide_eq_true (by omega)
        clear c43
        obtain ⟨ji44, hji44⟩ : ∃ j_ : Int, (wrap64 ((l1.length : Int) - 1)) = j_ := ⟨_, rfl⟩
        replace H : (if 0 ≤ (ji44) then (if (ji44) < (l1.length : Int) then ((graph_Path.f a0_0 l0_1 (rd l1 0) (rd l1 (ji44))).bind fun bt509 => (if bt509.2 = true then (if (bt509.1.length : Int) = 0 then (w4_GraphShortest.j2 k2 (rd l1 0) (rd l1 (ji44)) bt509.1 true a0_0 l0_1) else (if (bt509.1.length : Int) > (l1.length : Int) then (w4_GraphShortest.j2 k2 (rd l1 0) (rd l1 (ji44)) bt509.1 true a0_0 l0_1) else (if 0 < (bt509.1.length : Int) then (if (rd bt509.1 0) = (rd l1 0) then (if 0 ≤ (wrap64 ((bt509.1.length : Int) - 1)) then (if (wrap64 ((bt509.1.length : Int) - 1)) < (bt509.1.length : Int) then (w4_GraphShortest.j2 k2 (rd l1 0) (rd l1 (ji44)) bt509.1 ((rd bt509.1 (wrap64 ((bt509.1.length : Int) - 1))) != (rd l1 (ji44))) a0_0 l0_1) else (none)) else (none)) else (w4_GraphShortest.j2 k2 (rd l1 0) (rd l1 (ji44)) bt509.1 true a0_0 l0_1)) else (none)))) else (w4_GraphShortest.j2 k2 (rd l1 0) (rd l1 (ji44)) bt509.1 true a0_0 l0_1))) else (none)) else (none)) = some r := by first | (rw [hji44] at H; exact H) | (simp only [hji44] at H ⊢; exact H)
        have hji44w : (IntKind.i64.wrap ((l1.length : Int) - 1)) = ji44 := (i64_w _).trans hji44
        by_cases c45 : 0 ≤ (ji44)
        ·rw [if_pos c45] at H
         have c45b0 : decide (0 ≤ (ji44)) = true := decide_eq_true c45
         clear c45
         by_cases c46 : (ji44) < (l1.length : Int)
         ·rw [if_pos c46] at H
          have c46b0 : decide ((ji44) < (l1.length : Int)) = true := decide_eq_true c46
          clear c46
          replace H := Option.bind_eq_some_iff.mp H
          obtain ⟨⟨t509, t512⟩, A470, H⟩ := H
          replace H : (if t512 = true then (if (t509.length : Int) = 0 then (w4_GraphShortest.j2 k2 (rd l1 0) (rd l1 (ji44)) t509 true a0_0 l0_1) else (if (t509.length : Int) > (l1.length : Int) then (w4_GraphShortest.j2 k2 (rd l1 0) (rd l1 (ji44)) t509 true a0_0 l0_1) else (if 0 < (t509.length : Int) then (if (rd t509 0) = (rd l1 0) then (if 0 ≤ (wrap64 ((t509.length : Int) - 1)) then (if (wrap64 ((t509.length : Int) - 1)) < (t509.length : Int) then (w4_GraphShortest.j2 k2 (rd l1 0) (rd l1 (ji44)) t509 ((rd t509 (wrap64 ((t509.length : Int) - 1))) != (rd l1 (ji44))) a0_0 l0_1) else (none)) else (none)) else (w4_GraphShortest.j2 k2 (rd l1 0) (rd l1 (ji44)) t509 true a0_0 l0_1)) else (none)))) else (w4_GraphShortest.j2 k2 (rd l1 0) (rd l1 (ji44)) t509 true a0_0 l0_1)) = some r := H
          have A47 := aM_ A470
          clear A470
          have HC48 := aM_ H
          clear H
          try go_wp2
          have n0_ := aM_ (blk_drew BK493.out)
          have n1_ := aM_ (below_drew1 HB.out)
          clear BK493
          clear HB
          have BK493 := n0_
          have HB := n1_
          clear n0_ n1_
          have p507 : 0 ≤ (0 : Int) := (by omega)
          have q507 : 0 < (l1.length : Int) := of_decide_eq_true (by assumption)
          obtain ⟨ad507, e507, hx507_0⟩ := Kd.at_int HR1.out 0 p507 q507
          have hw507_0 := hx507_0
          (try rw [show ((0 : Int)).toNat = 0 from rfl] at hw507_0)
          (try rw [show 0 * 1 = 0 from rfl] at hw507_0)
          (try rw [Addr.add_zero'] at hw507_0)
          cases e507
          have qi507 : (0 < l1.length) = True := eq_true (by omega)
          (try rw [show ((0 : Int)).toNat = 0 from rfl] at hx507_0)
          (try rw [Addr.add_zero'] at hx507_0)
          replace hx507_0 := (HB.out.cell (World.block_lt_of_cell? w _ hx507_0)).trans hx507_0
          replace p507 := eq_true p507
          replace q507 := eq_true q507
          have p508 : 0 ≤ ((ji44) : Int) := of_decide_eq_true (by assumption)
          have q508 : (ji44) < (l1.length : Int) := of_decide_eq_true (by assumption)
          obtain ⟨ad508, e508, hx508_0⟩ := Kd.at_int HR1.out (ji44) p508 q508
          have hw508_0 := hx508_0
          obtain rfl : ad507 = ad508 := (by injection e508)
          replace hx508_0 := (HB.out.cell (World.block_lt_of_cell? w _ hx508_0)).trans hx508_0
          replace p508 := eq_true p508
          replace q508 := eq_true q508
          refine start_ (n := 11) (S := fun w' => w'.cell? ad507 = some (.int .i64 (rd l1 0)) ∧ w'.cell? (ad507.add ((ji44)).toNat) = some (.int .i64 (rd l1 (ji44)))) (ds := []) #[f_,f_,f_,f_,f_,f_,f_,f_,f_,f_,f_] (by kernel_rfl) rfl rfl ⟨((HB.out.cell (World.block_lt_of_cell? w _ hw507_0)).trans hw507_0), ((HB.out.cell (World.block_lt_of_cell? w _ hw508_0)).trans hw508_0)⟩ (fun hHeld => ?_); refine with_tabW w4_GraphShortest.tab8 w4_GraphShortest.bits8 (fun HT_ HW_ => ?_)
          generalize wr.drew = w49 at BK493 HB hx507_0 hx508_0 hHeld ⊢
          refine pure_ (i := 0) (N := some 71) (v := ?_) (a' := ?_) #[t_,f_,f_,f_,f_,f_,f_,f_,f_,f_,f_] rfl rfl (any_of HT_.out (by kernel_rfl)) (fun _ _ _ h => h) (Or.inl ⟨by rfl, ?_⟩) ?_ ?_
          rotate_left
          ·intro w'
           go_simp
           with_reducible rfl
          rotate_left
          ·simp only [Act.put,uA_,uB_,uC_,i64_w,i32_w]
           rfl
          refine pure_ (i := 1) (N := some 72) (v := ?_) (a' := ?_) #[t_,t_,f_,f_,f_,f_,f_,f_,f_,f_,f_] rfl rfl (any_of HT_.out (by kernel_rfl)) (fun _ _ _ h => h) (Or.inl ⟨by rfl, ?_⟩) ?_ ?_
          rotate_left
          ·intro w'
           go_simp
           with_reducible rfl
          rotate_left
          ·simp only [Act.put,uA_,uB_,uC_,i64_w,i32_w]
           rfl
          refine pure_ (i := 3) (N := some 74) (v := ?_) (a' := ?_) #[t_,t_,f_,t_,f_,f_,f_,f_,f_,f_,f_] rfl rfl (any_of HT_.out (by kernel_rfl)) (fun _ _ _ h => h) (Or.inl ⟨by rfl, ?_⟩) ?_ ?_
          rotate_left
          ·intro w'
           go_simp
           with_reducible rfl
          rotate_left
          ·simp only [Act.put,uA_,uB_,uC_,i64_w,i32_w]
           rfl
          refine pure_ (i := 4) (N := some 75) (v := ?_) (a' := ?_) #[t_,t_,f_,t_,t_,f_,f_,f_,f_,f_,f_] rfl rfl (any_of HT_.out (by kernel_rfl)) (fun _ _ _ h => h) (Or.inl ⟨by rfl, ?_⟩) ?_ ?_
          rotate_left
          ·intro w'
           go_simp
           with_reducible rfl
          rotate_left
          ·simp only [Act.put,uA_,uB_,uC_,i64_w,i32_w]
           rfl
          refine pure_ (i := 5) (N := some 76) (v := ?_) (a' := ?_) #[t_,t_,f_,t_,t_,t_,f_,f_,f_,f_,f_] rfl rfl (any_of HT_.out (by kernel_rfl)) (fun _ _ _ h => h) (Or.inl ⟨by rfl, ?_⟩) ?_ ?_
          rotate_left
          ·intro w'
           go_simp
           with_reducible rfl
          rotate_left
          ·simp only [Act.put,uA_,uB_,uC_,i64_w,i32_w]
           rfl
          refine pure_ (i := 6) (N := some 77) (v := ?_) (a' := ?_) #[t_,t_,f_,t_,t_,t_,t_,f_,f_,f_,f_] rfl rfl (any_of HT_.out (by kernel_rfl)) (fun _ _ _ h => h) (Or.inl ⟨by rfl, ?_⟩) ?_ ?_
          rotate_left
          ·intro w'
           go_simp
           with_reducible rfl
          rotate_left
          ·simp only [Act.put,uA_,uB_,uC_,i64_w,i32_w]
           rfl
          refine pure_ (i := 7) (N := some 78) (v := ?_) (a' := ?_) #[t_,t_,f_,t_,t_,t_,t_,t_,f_,f_,f_] rfl rfl (any_of HT_.out (by kernel_rfl)) (fun _ _ _ h => h) (Or.inl ⟨by rfl, ?_⟩) ?_ ?_
          rotate_left
          ·intro w'
           go_simp
           with_reducible rfl
          rotate_left
          ·simp only [Act.put,uA_,uB_,uC_,i64_w,i32_w]
           rfl
          refine take_ (i := 2) (N := some 73) (v := ?_) (a' := ?_) #[t_,t_,t_,t_,t_,t_,t_,t_,f_,f_,f_] rfl rfl (take_ofW HT_.out HW_.out (by kernel_rfl)) (fun _ _ _ h => h) (Or.inl ⟨by rfl, ?_⟩) hHeld ?_ ?_
          rotate_left
          ·rintro w' ⟨s0, s1⟩
           go_simp
           with_reducible rfl
          rotate_left
          ·simp only [Act.put,uA_,uB_,uC_,i64_w,i32_w]
           rfl
          refine pure_ (i := 9) (N := some 6) (v := ?_) (a' := ?_) #[t_,t_,t_,t_,t_,t_,t_,t_,f_,t_,f_] rfl rfl (any_of HT_.out (by kernel_rfl)) (fun _ _ _ h => h) (Or.inl ⟨by rfl, ?_⟩) ?_ ?_
          rotate_left
          ·intro w'
           go_simp
           with_reducible rfl
          rotate_left
          ·simp only [Act.put,uA_,uB_,uC_,i64_w,i32_w]
           rfl
          refine take_ (i := 8) (N := some 79) (v := ?_) (a' := ?_) #[t_,t_,t_,t_,t_,t_,t_,t_,t_,t_,f_] rfl rfl (take_ofW HT_.out HW_.out (by kernel_rfl)) (fun _ _ _ h => h) (Or.inl ⟨by rfl, ?_⟩) hHeld ?_ ?_
          rotate_left
          ·rintro w' ⟨s0, s1⟩
           go_simp
           with_reducible rfl
          rotate_left
          ·simp only [Act.put,uA_,uB_,uC_,i64_w,i32_w]
           rfl
          refine pure_ (i := 10) (N := some 7) (v := ?_) (a' := ?_) #[t_,t_,t_,t_,t_,t_,t_,t_,t_,t_,t_] rfl rfl (any_of HT_.out (by kernel_rfl)) (fun _ _ _ h => h) (Or.inl ⟨by rfl, ?_⟩) ?_ ?_
          rotate_left
          ·intro w'
           go_simp
           with_reducible rfl
          rotate_left
          ·simp only [Act.put,uA_,uB_,uC_,i64_w,i32_w]
           rfl
          refine done_ (done_of HT_.out (by kernel_rfl)) ?_
          have hcz50_0 : w49.cell? ⟨gb493, 0, none⟩ = some (.int .i64 a0_0) := (blk_cell BK493.out 0).trans rfl
          have hcz50_1 : w49.cell? ⟨gb493, 1, none⟩ = some (.slice A0_1 l0_1.length c0_1) := (blk_cell BK493.out 1).trans rfl
          have hfz50_0 := blk_frozen BK493.out 0
          have hfz50_1 := blk_frozen BK493.out 1
          go_upto_region 10 with (first | ((with_reducible refine gate_callee (f := 40) rfl ?_); refine goesL_ (some 84) rfl rfl Tryd.func40 (by kernel_rfl) rfl #[.agg #[.int .i64 a0_0, .slice A0_1 l0_1.length c0_1], .int .i64 (rd l1 0), .int .i64 (rd l1 (ji44))] rfl (by (try simp only [List.map_toArray, List.map_cons, List.map_nil]); first | done | (simp only [hji44]; rfl) | rfl | (simp only [List.length_drop, List.length_take]; rfl)) ?_; (with_reducible refine (graph_Path.calls a0_0 _ _ l0_1 (rd l1 0) (rd l1 (ji44)) t509 t512 _ ?side1 ?side2 A47.out).mono ?_); (case side1 => repeat (first | exact (Kd.C_below HR0_1.out HB.out) | (with_reducible refine Kd.C_alloc ?_ _) | (with_reducible refine Kd.C_drewN ?_ _) | (with_reducible refine Kd.C_drew ?_))); (case side2 => exact HC0_1.out); rintro e w51 ⟨v510, rfl, ho0, hb⟩; refine ⟨_, rfl, ?_⟩; have n0_ := aM_ (Kd.R_lower ho0 (below_size (by repeat (first | (with_reducible first | exact HB.out | apply bA_ | apply bB_ | apply bC_ | refine below_set ?_ GE493.out) | exact HB.out)))); have n1_ := aM_ (blk_below (g := gb493) (o := .cells #[.int .i64 a0_0, .slice A0_1 l0_1.length c0_1] 24 (0, 0)) (by (with_reducible repeat (first | refine blk_drewN ?_ _ | refine blk_drew ?_ | refine blk_alloc ?_ _)); exact BK493.out) hb); have n2_ := aM_ (below_step (by repeat (first | (with_reducible first | exact HB.out | apply bA_ | apply bB_ | apply bC_ | refine below_set ?_ GE493.out) | exact HB.out)) hb); clear BK493; clear HB; have HO511 := n0_; have BK493 := n1_; have HB := n2_; clear n0_ n1_ n2_; (try clear hb); (try clear hb2); (try clear hk); (try clear hi); (try clear ho0)))
          (try simp only [Act.put, uA_, uB_, uC_])
          go_cut [117] (fun v117 wc => ∃ (kq : Nat) (x117_47 : Bool), v117 = .bool x117_47 ∧ Aside0 (w4_GraphShortest.j2 kq (rd l1 0) (rd l1 (ji44)) t509 x117_47 a0_0 l0_1 = some r) ∧ Aside0 (kq ≤ k2) ∧ Aside0 (Kd.R (Kd.int .i64) 3 wc w.heap.size (fun _ => True) v510 t509) ∧ Aside0 (wc.heap[gb493]? = some (.cells #[.int .i64 a0_0, (.slice A0_1 l0_1.length c0_1)] 24 (0, 0))) ∧ Aside0 (Below w.heap.size w wc))
          case first =>
           have H := HC48.out
           clear HC48
           by_cases c52 : t512 = true
           ·subst c52
            have H1 : (if (t509.length : Int) = 0 then (w4_GraphShortest.j2 k2 (rd l1 0) (rd l1 (ji44)) t509 true a0_0 l0_1) else (if (t509.length : Int) > (l1.length : Int) then (w4_GraphShortest.j2 k2 (rd l1 0) (rd l1 (ji44)) t509 true a0_0 l0_1) else (if 0 < (t509.length : Int) then (if (rd t509 0) = (rd l1 0) then (if 0 ≤ (wrap64 ((t509.length : Int) - 1)) then (if (wrap64 ((t509.length : Int) - 1)) < (t509.length : Int) then (w4_GraphShortest.j2 k2 (rd l1 0) (rd l1 (ji44)) t509 ((rd t509 (wrap64 ((t509.length : Int) - 1))) != (rd l1 (ji44))) a0_0 l0_1) else (none)) else (none)) else (w4_GraphShortest.j2 k2 (rd l1 0) (rd l1 (ji44)) t509 true a0_0 l0_1)) else (none)))) = some r := by rw [if_pos rfl] at H; exact H
            clear H
            have H := H1
            clear H1
            by_cases c53 : (t509.length : Int) = 0
            ·rw [if_pos c53] at H
             have c53b0 : ((t509.length : Int) == 0) = true := beq_iff_eq.mpr c53
             have c53b1 : ((t509.length : Int) != 0) = false := bne_eq_false_iff_eq.mpr c53
             clear c53
             (first | rw [c53b0] | (simp only [i64_w, i32_w]; rw [c53b0]) | skip)
             have H' := aM_ H
             clear H
             obtain ⟨Ao54, co54, eo54⟩ := Kd.R_slice HO511.out
             subst eo54
             go_wp2
             go_meet
             case rel => exact ⟨_, (true), (by first | rfl | (simp; done) | (simp [*]; done)), H', ⟨by have := HJ2.out; have := HK2.out; first | omega | exact Nat.le_refl _⟩, ⟨by (with_reducible repeat (first | apply rA_ | apply rB_ | apply rC_)); exact HO511.out⟩, ⟨by (with_reducible repeat (first | refine blk_drewN ?_ _ | refine blk_drew ?_ | refine blk_alloc ?_ _)); exact BK493.out⟩, ⟨by repeat (first | (with_reducible first | exact HB.out | apply bA_ | apply bB_ | apply bC_ | refine below_set ?_ GE493.out) | exact HB.out)⟩⟩
            ·rw [if_neg c53] at H
             have c53b0 : ((t509.length : Int) == 0) = false := beq_eq_false_iff_ne.mpr c53
             have c53b1 : ((t509.length : Int) != 0) = true := bne_iff_ne.mpr c53
             have c53b2 : ¬ (t509 = []) := fun h_ => c53 (by rw [h_]; rfl)
             (first | rw [c53b0] | (simp only [i64_w, i32_w]; rw [c53b0]) | skip)
             by_cases c55 : (t509.length : Int) > (l1.length : Int)
             ·rw [if_pos c55] at H
              have c55b0 : decide ((l1.length : Int) < (t509.length : Int)) = true := decide_eq_true c55
              have c55b1 : decide (l1.length < t509.length) = true := decide_eq_true (Int.ofNat_lt.mp c55)
              clear c55
              have H' := aM_ H
              clear H
              obtain ⟨Ao56, co56, eo56⟩ := Kd.R_slice HO511.out
              subst eo56
              go_wp2
              go_meet
              case rel => exact ⟨_, (true), (by first | rfl | (simp; done) | (simp [*]; done)), H', ⟨by have := HJ2.out; have := HK2.out; first | omega | exact Nat.le_refl _⟩, ⟨by (with_reducible repeat (first | apply rA_ | apply rB_ | apply rC_)); exact HO511.out⟩, ⟨by (with_reducible repeat (first | refine blk_drewN ?_ _ | refine blk_drew ?_ | refine blk_alloc ?_ _)); exact BK493.out⟩, ⟨by repeat (first | (with_reducible first | exact HB.out | apply bA_ | apply bB_ | apply bC_ | refine below_set ?_ GE493.out) | exact HB.out)⟩⟩
             ·rw [if_neg c55] at H
              have c55b0 : decide ((l1.length : Int) < (t509.length : Int)) = false := decide_eq_false c55
              have c55b1 : decide (l1.length < t509.length) = false := decide_eq_false (fun h => c55 (Int.ofNat_lt.mpr h))
              clear c55
              by_cases c57 : 0 < (t509.length : Int)
              ·rw [if_pos c57] at H
               have c57b0 : decide (0 < (t509.length : Int)) = true := decide_eq_true c57
               have c57b1 : decide (0 < t509.length) = true := decide_eq_true (by omega)
               clear c57
               by_cases c58 : (rd t509 0) = (rd l1 0)
               ·rw [if_pos c58] at H
                have c58b0 : ((rd t509 0) == (rd l1 0)) = true := beq_iff_eq.mpr c58
                have c58b1 : ((rd t509 0) != (rd l1 0)) = false := bne_eq_false_iff_eq.mpr c58
                clear c58
                obtain ⟨ji59, hji59⟩ : ∃ j_ : Int, (wrap64 ((t509.length : Int) - 1)) = j_ := ⟨_, rfl⟩
                replace H : (if 0 ≤ (ji59) then (if (ji59) < (t509.length : Int) then (w4_GraphShortest.j2 k2 (rd l1 0) (rd l1 (ji44)) t509 ((rd t509 (ji59)) != (rd l1 (ji44))) a0_0 l0_1) else (none)) else (none)) = some r := by first | (rw [hji59] at H; exact H) | (simp only [hji59] at H ⊢; exact H)
                have hji59w : (IntKind.i64.wrap ((t509.length : Int) - 1)) = ji59 := (i64_w _).trans hji59
                by_cases c60 : 0 ≤ (ji59)
                ·rw [if_pos c60] at H
                 have c60b0 : decide (0 ≤ (ji59)) = true := decide_eq_true c60
                 clear c60
                 by_cases c61 : (ji59) < (t509.length : Int)
                 ·rw [if_pos c61] at H
                  have c61b0 : decide ((ji59) < (t509.length : Int)) = true := decide_eq_true c61
                  clear c61
                  have H' := aM_ H
                  clear H
                  obtain ⟨Ao62, co62, eo62⟩ := Kd.R_slice HO511.out
                  subst eo62
                  have p513 : 0 ≤ (0 : Int) := (by omega)
                  have q513 : 0 < (t509.length : Int) := of_decide_eq_true (by assumption)
                  obtain ⟨ad513, e513, hx513_0⟩ := Kd.at_int (Kd.R_reads' HO511.out).2.2 0 p513 q513
                  cases e513
                  have qi513 : (0 < t509.length) = True := eq_true (by omega)
                  (try rw [show ((0 : Int)).toNat = 0 from rfl] at hx513_0)
                  (try rw [Addr.add_zero'] at hx513_0)
                  replace p513 := eq_true p513
                  replace q513 := eq_true q513
                  have p514 : 0 ≤ ((ji59) : Int) := of_decide_eq_true (by assumption)
                  have q514 : (ji59) < (t509.length : Int) := of_decide_eq_true (by assumption)
                  obtain ⟨ad514, e514, hx514_0⟩ := Kd.at_int (Kd.R_reads' HO511.out).2.2 (ji59) p514 q514
                  obtain rfl : ad513 = ad514 := (by injection e514)
                  replace p514 := eq_true p514
                  replace q514 := eq_true q514
                  go_wp2
                  go_meet
                  case rel => exact ⟨_, (((rd t509 (ji59)) != (rd l1 (ji44)))), (by first | rfl | (simp; done) | (simp only [← hji44, ← hji59] <;> (first | rfl | simp)) | (simp [*]; done)), H', ⟨by have := HJ2.out; have := HK2.out; first | omega | exact Nat.le_refl _⟩, ⟨by (with_reducible repeat (first | apply rA_ | apply rB_ | apply rC_)); exact HO511.out⟩, ⟨by (with_reducible repeat (first | refine blk_drewN ?_ _ | refine blk_drew ?_ | refine blk_alloc ?_ _)); exact BK493.out⟩, ⟨by repeat (first | (with_reducible first | exact HB.out | apply bA_ | apply bB_ | apply bC_ | refine below_set ?_ GE493.out) | exact HB.out)⟩⟩
                 ·rw [if_neg c61] at H
                  exact absurd H (by simp)
                ·rw [if_neg c60] at H
                 exact absurd H (by simp)
               ·rw [if_neg c58] at H
                have c58b0 : ((rd t509 0) == (rd l1 0)) = false := beq_eq_false_iff_ne.mpr c58
                have c58b1 : ((rd t509 0) != (rd l1 0)) = true := bne_iff_ne.mpr c58
                have H' := aM_ H
                clear H
                obtain ⟨Ao63, co63, eo63⟩ := Kd.R_slice HO511.out
                subst eo63
                have p513 : 0 ≤ (0 : Int) := (by omega)
                have q513 : 0 < (t509.length : Int) := of_decide_eq_true (by assumption)
                obtain ⟨ad513, e513, hx513_0⟩ := Kd.at_int (Kd.R_reads' HO511.out).2.2 0 p513 q513
                cases e513
                have qi513 : (0 < t509.length) = True := eq_true (by omega)
                (try rw [show ((0 : Int)).toNat = 0 from rfl] at hx513_0)
                (try rw [Addr.add_zero'] at hx513_0)
                replace p513 := eq_true p513
                replace q513 := eq_true q513
                go_wp2
                go_meet
                case rel => exact ⟨_, (true), (by first | rfl | (simp; done) | (simp [*]; done)), H', ⟨by have := HJ2.out; have := HK2.out; first | omega | exact Nat.le_refl _⟩, ⟨by (with_reducible repeat (first | apply rA_ | apply rB_ | apply rC_)); exact HO511.out⟩, ⟨by (with_reducible repeat (first | refine blk_drewN ?_ _ | refine blk_drew ?_ | refine blk_alloc ?_ _)); exact BK493.out⟩, ⟨by repeat (first | (with_reducible first | exact HB.out | apply bA_ | apply bB_ | apply bC_ | refine below_set ?_ GE493.out) | exact HB.out)⟩⟩
              ·rw [if_neg c57] at H
               exact absurd H (by simp)
           ·replace c52 := Bool.eq_false_iff.mpr c52
            subst c52
            have H1 : (w4_GraphShortest.j2 k2 (rd l1 0) (rd l1 (ji44)) t509 true a0_0 l0_1) = some r := by rw [if_neg (show ¬ (false = true) by decide)] at H; exact H
            clear H
            have H := H1
            clear H1
            have H' := aM_ H
            clear H
            go_wp2
            go_meet
            case rel => exact ⟨_, (true), (by first | rfl | (simp; done) | (simp [*]; done)), H', ⟨by have := HJ2.out; have := HK2.out; first | omega | exact Nat.le_refl _⟩, ⟨by (with_reducible repeat (first | apply rA_ | apply rB_ | apply rC_)); exact HO511.out⟩, ⟨by (with_reducible repeat (first | refine blk_drewN ?_ _ | refine blk_drew ?_ | refine blk_alloc ?_ _)); exact BK493.out⟩, ⟨by repeat (first | (with_reducible first | exact HB.out | apply bA_ | apply bB_ | apply bC_ | refine below_set ?_ GE493.out) | exact HB.out)⟩⟩
          case rest =>
           clear HC48
           try clear c1
           try clear c2
           try clear p2
           try clear c3
           try clear c4
           try clear p4
           try clear q4
           try clear hx4
           try clear c5
           try clear p5
           try clear q5
           try clear hx5
           try clear qi5
           try clear c6
           try clear p6
           try clear c17
           try clear c17b0
           try clear c18
           try clear c27
           try clear c27b0
           try clear c29
           try clear c30
           try clear c39
           try clear c40
           try clear c43
           try clear c43b0
           try clear c43b1
           try clear c45
           try clear c45b0
           try clear c46
           try clear c46b0
           try clear p49
           try clear q49
           try clear hx49
           try clear p50
           try clear q50
           try clear hx50
           try clear qi50
           try clear p51
           try clear q51
           try clear hx51
           try clear qi51
           try clear c52
           try clear c53
           try clear c53b0
           try clear c53b1
           try clear c53b2
           try clear c55
           try clear c55b0
           try clear c55b1
           try clear c57
           try clear c57b0
           try clear c57b1
           try clear c58
           try clear c58b0
           try clear c58b1
           try clear c60
           try clear c60b0
           try clear c61
           try clear c61b0
           try clear hcz50_0
           try clear hcz50_1
           try clear hfz50_0
           try clear hfz50_1
           try clear hx496_0
           try clear hx498_0
           try clear hx507_0
           try clear hx508_0
           try clear hx513_0
           try clear hx514_0
           try clear p496
           try clear p498
           try clear p507
           try clear p508
           try clear p513
           try clear p514
           try clear q496
           try clear q498
           try clear q507
           try clear q508
           try clear q513
           try clear q514
           obtain ⟨kq, x117_47, rfl, HA, HJ47, HO_8, BK493, HB⟩ := hcut
           cases kq with
           | zero => exact absurd HA.out (by simp [w4_GraphShortest.j2])
           | succ kj47 =>
            have H := HA.out
            clear HA
            simp only [w4_GraphShortest.j2] at H
            by_cases c64 : x117_47 = true
            ·subst c64
             have H1 : (some false) = some r := by rw [if_pos rfl] at H; exact H
             clear H
             have H := H1
             clear H1
             obtain rfl := Option.some.inj H
             go_wp2
             go_ret
             exact ⟨by first | rfl | (simp [errW_none, errW_some] <;> rfl) | (simp only [← hji44]; first | rfl | (simp [errW_none, errW_some] <;> rfl)) | (simp [*, errW_none, errW_some] <;> rfl), by repeat (first | (with_reducible first | exact HB.out | apply bA_ | apply bB_ | apply bC_ | refine below_set ?_ GE493.out) | exact HB.out)⟩
            ·replace c64 := Bool.eq_false_iff.mpr c64
             subst c64
             have H1 : (w4_GraphShortest.l1 kj47 (rd l1 0) (rd l1 (ji44)) t509 1 a0_0 l0_1) = some r := by rw [if_neg (show ¬ (false = true) by decide)] at H; exact H
             clear H
             have H := H1
             clear H1
             have H' := aM_ H
             clear H
             go_wp2
             go_loopg [10] kj47 (fun kq v10 w' => ∃ (x10_4 : Int), v10 = .int .i64 x10_4 ∧ Aside0 (w4_GraphShortest.l1 kq (rd l1 0) (rd l1 (ji44)) t509 x10_4 a0_0 l0_1 = some r) ∧ Aside0 (kq ≤ kj47) ∧ Aside0 (Kd.R (Kd.int .i64) 3 w' w.heap.size (fun _ => True) v510 t509) ∧ Aside0 (w'.heap[gb493]? = some (.cells #[.int .i64 a0_0, (.slice A0_1 l0_1.length c0_1)] 24 (0, 0))) ∧ Aside0 (Below w.heap.size w w'))
             case atStart => exact ⟨(1), (by first | rfl | (simp; done) | (simp [*]; done)), H', ⟨Nat.le_refl _⟩, ⟨by (with_reducible repeat (first | apply rA_ | apply rB_ | apply rC_)); exact HO_8.out⟩, ⟨by (with_reducible repeat (first | refine blk_drewN ?_ _ | refine blk_drew ?_ | refine blk_alloc ?_ _)); exact BK493.out⟩, ⟨by repeat (first | (with_reducible first | exact HB.out | apply bA_ | apply bB_ | apply bC_ | refine below_set ?_ GE493.out) | exact HB.out)⟩⟩
             case round =>
              clear H'
              try clear c1
              try clear c2
              try clear p2
              try clear c3
              try clear c4
              try clear p4
              try clear q4
              try clear hx4
              try clear c5
              try clear p5
              try clear q5
              try clear hx5
              try clear qi5
              try clear c6
              try clear p6
              try clear c17
              try clear c17b0
              try clear c18
              try clear c27
              try clear c27b0
              try clear c29
              try clear c30
              try clear c39
              try clear c40
              try clear c43
              try clear c43b0
              try clear c43b1
              try clear c45
              try clear c45b0
              try clear c46
              try clear c46b0
              try clear p49
              try clear q49
              try clear hx49
              try clear p50
              try clear q50
              try clear hx50
              try clear qi50
              try clear p51
              try clear q51
              try clear hx51
              try clear qi51
              try clear c52
              try clear c53
              try clear c53b0
              try clear c53b1
              try clear c53b2
              try clear c55
              try clear c55b0
              try clear c55b1
              try clear c57
              try clear c57b0
              try clear c57b1
              try clear c58
              try clear c58b0
              try clear c58b1
              try clear c60
              try clear c60b0
              try clear c61
              try clear c61b0
              try clear c64
              try clear p64
              try clear hcz50_0
              try clear hcz50_1
              try clear hfz50_0
              try clear hfz50_1
              try clear hx496_0
              try clear hx498_0
              try clear hx507_0
              try clear hx508_0
              try clear hx513_0
              try clear hx514_0
              try clear p2
              try clear p4
              try clear p49
              try clear p496
              try clear p498
              try clear p5
              try clear p50
              try clear p507
              try clear p508
              try clear p51
              try clear p513
              try clear p514
              try clear p6
              try clear q4
              try clear q49
              try clear q496
              try clear q498
              try clear q5
              try clear q50
              try clear q507
              try clear q508
              try clear q51
              try clear q513
              try clear q514
              obtain ⟨x10_4, rfl, HA, HK4, HO_8, BK493, HB⟩ := hrel
              cases gk with
              | zero => exact absurd HA.out (by simp [w4_GraphShortest.l1])
              | succ k4 =>
               have H := HA.out
               clear HA
               simp only [w4_GraphShortest.l1] at H
               by_cases c65 : x10_4 < (t509.length : Int)
               ·rw [if_pos c65] at H
                have c65b0 : decide (x10_4 < (t509.length : Int)) = true := decide_eq_true c65
                clear c65
                obtain ⟨ji66, hji66⟩ : ∃ j_ : Int, (wrap64 (x10_4 - 1)) = j_ := ⟨_, rfl⟩
                replace H : (if 0 ≤ (ji66) then (if (ji66) < (t509.length : Int) then ((graph_Succ.f a0_0 l0_1 (rd t509 (ji66))).bind fun t524 => (if 0 ≤ x10_4 then ((w4_in.f k4 t524 (rd t509 x10_4)).bind fun t528 => (if t528 = true then (w4_GraphShortest.l1 k4 (rd l1 0) (rd l1 (ji44)) t509 (wrap64 (x10_4 + 1)) a0_0 l0_1) else (some false))) else (none))) else (none)) else (none)) = some r := by first | (rw [hji66] at H; exact H) | (simp only [hji66] at H ⊢; exact H)
                have hji66w : (IntKind.i64.wrap (x10_4 - 1)) = ji66 := (i64_w _).trans hji66
                by_cases c67 : 0 ≤ (ji66)
                ·rw [if_pos c67] at H
                 have c67b0 : decide (0 ≤ (ji66)) = true := decide_eq_true c67
                 clear c67
                 by_cases c68 : (ji66) < (t509.length : Int)
                 ·rw [if_pos c68] at H
                  have c68b0 : decide ((ji66) < (t509.length : Int)) = true := decide_eq_true c68
                  clear c68
                  replace H := Option.bind_eq_some_iff.mp H
                  obtain ⟨t524, A690, H⟩ := H
                  replace H : (if 0 ≤ x10_4 then ((w4_in.f k4 t524 (rd t509 x10_4)).bind fun t528 => (if t528 = true then (w4_GraphShortest.l1 k4 (rd l1 0) (rd l1 (ji44)) t509 (wrap64 (x10_4 + 1)) a0_0 l0_1) else (some false))) else (none)) = some r := H
                  have A69 := aM_ A690
                  clear A690
                  by_cases c70 : 0 ≤ x10_4
                  ·rw [if_pos c70] at H
                   have c70b0 : decide (0 ≤ x10_4) = true := decide_eq_true c70
                   clear c70
                   replace H := Option.bind_eq_some_iff.mp H
                   obtain ⟨t528, A710, H⟩ := H
                   replace H : (if t528 = true then (w4_GraphShortest.l1 k4 (rd l1 0) (rd l1 (ji44)) t509 (wrap64 (x10_4 + 1)) a0_0 l0_1) else (some false)) = some r := H
                   have A71 := aM_ A710
                   clear A710
                   by_cases c72 : t528 = true
                   ·subst c72
                    have H1 : (w4_GraphShortest.l1 k4 (rd l1 0) (rd l1 (ji44)) t509 (wrap64 (x10_4 + 1)) a0_0 l0_1) = some r := by rw [if_pos rfl] at H; exact H
                    clear H
                    have H := H1
                    clear H1
                    have H' := aM_ H
                    clear H
                    obtain ⟨Ao73, co73, eo73⟩ := Kd.R_slice HO_8.out
                    subst eo73
                    try go_wp2
                    have n0_ := aM_ (Kd.R_drew HO_8.out)
                    have n1_ := aM_ (blk_drew BK493.out)
                    have n2_ := aM_ (below_drew1 HB.out)
                    clear HO_8
                    clear BK493
                    clear HB
                    have HO_8 := n0_
                    have BK493 := n1_
                    have HB := n2_
                    clear n0_ n1_ n2_
                    have p523 : 0 ≤ ((ji66) : Int) := of_decide_eq_true (by assumption)
                    have q523 : (ji66) < (t509.length : Int) := of_decide_eq_true (by assumption)
                    obtain ⟨ad523, e523, hx523_0⟩ := Kd.at_int (Kd.R_reads' HO_8.out).2.2 (ji66) p523 q523
                    cases e523
                    replace p523 := eq_true p523
                    replace q523 := eq_true q523
                    have p527 : 0 ≤ (x10_4 : Int) := of_decide_eq_true (by assumption)
                    have q527 : x10_4 < (t509.length : Int) := of_decide_eq_true (by assumption)
                    obtain ⟨ad527, e527, hx527_0⟩ := Kd.at_int (Kd.R_reads' HO_8.out).2.2 x10_4 p527 q527
                    obtain rfl : ad523 = ad527 := (by injection e527)
                    replace p527 := eq_true p527
                    replace q527 := eq_true q527
                    refine start_ (n := 13) (S := fun w' => w'.cell? ⟨gb493, 0, none⟩ = some (.int .i64 a0_0) ∧ w'.cell? ⟨gb493, 1, none⟩ = some (.slice A0_1 l0_1.length c0_1) ∧ w'.cell? (ad523.add ((ji66)).toNat) = some (.int .i64 (rd t509 (ji66))) ∧ w'.cell? (ad523.add (x10_4).toNat) = some (.int .i64 (rd t509 x10_4))) (ds := []) #[f_,f_,f_,f_,f_,f_,f_,f_,f_,f_,f_,f_,f_] (by kernel_rfl) rfl rfl ⟨(blk_cell BK493.out 0).trans rfl, (blk_cell BK493.out 1).trans rfl, hx523_0, hx527_0⟩ (fun hHeld => ?_); refine with_tabW w4_GraphShortest.tab15 w4_GraphShortest.bits15 (fun HT_ HW_ => ?_)
                    generalize wr.drew = w74 at HO_8 BK493 HB hx523_0 hx527_0 hHeld ⊢
                    refine pure_ (i := 1) (N := some 125) (v := ?_) (a' := ?_) #[f_,t_,f_,f_,f_,f_,f_,f_,f_,f_,f_,f_,f_] rfl rfl (any_of HT_.out (by kernel_rfl)) (fun _ _ _ h => h) (Or.inl ⟨by rfl, ?_⟩) ?_ ?_
                    rotate_left
                    ·intro w'
                     go_simp
                     with_reducible rfl
                    rotate_left
                    ·simp only [Act.put,uA_,uB_,uC_,i64_w,i32_w]
                     rfl
                    refine pure_ (i := 2) (N := some 126) (v := ?_) (a' := ?_) #[f_,t_,t_,f_,f_,f_,f_,f_,f_,f_,f_,f_,f_] rfl rfl (any_of HT_.out (by kernel_rfl)) (fun _ _ _ h => h) (Or.inl ⟨by rfl, ?_⟩) ?_ ?_
                    rotate_left
                    ·intro w'
                     go_simp
                     with_reducible rfl
                    rotate_left
                    ·simp only [Act.put,uA_,uB_,uC_,i64_w,i32_w]
                     rfl
                    refine pure_ (i := 3) (N := some 127) (v := ?_) (a' := ?_) #[f_,t_,t_,t_,f_,f_,f_,f_,f_,f_,f_,f_,f_] rfl rfl (any_of HT_.out (by kernel_rfl)) (fun _ _ _ h => h) (Or.inl ⟨by rfl, ?_⟩) ?_ ?_
                    rotate_left
                    ·intro w'
                     go_simp
                     with_reducible rfl
                    rotate_left
                    ·simp only [Act.put,uA_,uB_,uC_,i64_w,i32_w]
                     rfl
                    refine pure_ (i := 4) (N := some 128) (v := ?_) (a' := ?_) #[f_,t_,t_,t_,t_,f_,f_,f_,f_,f_,f_,f_,f_] rfl rfl (any_of HT_.out (by kernel_rfl)) (fun _ _ _ h => h) (Or.inl ⟨by rfl, ?_⟩) ?_ ?_
                    rotate_left
                    ·intro w'
                     go_simp
                     with_reducible rfl
                    rotate_left
                    ·simp only [Act.put,uA_,uB_,uC_,i64_w,i32_w]
                     rfl
                    refine pure_ (i := 7) (N := some 131) (v := ?_) (a' := ?_) #[f_,t_,t_,t_,t_,f_,f_,t_,f_,f_,f_,f_,f_] rfl rfl (any_of HT_.out (by kernel_rfl)) (fun _ _ _ h => h) (Or.inl ⟨by rfl, ?_⟩) ?_ ?_
                    rotate_left
                    ·intro w'
                     go_simp
                     with_reducible rfl
                    rotate_left
                    ·simp only [Act.put,uA_,uB_,uC_,i64_w,i32_w]
                     rfl
                    refine pure_ (i := 8) (N := some 132) (v := ?_) (a' := ?_) #[f_,t_,t_,t_,t_,f_,f_,t_,t_,f_,f_,f_,f_] rfl rfl (any_of HT_.out (by kernel_rfl)) (fun _ _ _ h => h) (Or.inl ⟨by rfl, ?_⟩) ?_ ?_
                    rotate_left
                    ·intro w'
                     go_simp
                     with_reducible rfl
                    rotate_left
                    ·simp only [Act.put,uA_,uB_,uC_,i64_w,i32_w]
                     rfl
                    refine pure_ (i := 9) (N := some 133) (v := ?_) (a' := ?_) #[f_,t_,t_,t_,t_,f_,f_,t_,t_,t_,f_,f_,f_] rfl rfl (any_of HT_.out (by kernel_rfl)) (fun _ _ _ h => h) (Or.inl ⟨by rfl, ?_⟩) ?_ ?_
                    rotate_left
                    ·intro w'
                     go_simp
                     with_reducible rfl
                    rotate_left
                    ·simp only [Act.put,uA_,uB_,uC_,i64_w,i32_w]
                     rfl
                    refine take_ (i := 0) (N := some 124) (v := ?_) (a' := ?_) #[t_,t_,t_,t_,t_,f_,f_,t_,t_,t_,f_,f_,f_] rfl rfl (take_ofW HT_.out HW_.out (by kernel_rfl)) (fun _ _ _ h => h) (Or.inl ⟨by rfl, ?_⟩) hHeld ?_ ?_
                    rotate_left
                    ·rintro w' ⟨s0, s1, s2, s3⟩
                     go_simp
                     with_reducible rfl
                    rotate_left
                    ·simp only [Act.put,uA_,uB_,uC_,i64_w,i32_w]
                     rfl
                    refine take_ (i := 5) (N := some 129) (v := ?_) (a' := ?_) #[t_,t_,t_,t_,t_,t_,f_,t_,t_,t_,f_,f_,f_] rfl rfl (take_ofW HT_.out HW_.out (by kernel_rfl)) (fun _ _ _ h => h) (Or.inl ⟨by rfl, ?_⟩) hHeld ?_ ?_
                    rotate_left
                    ·rintro w' ⟨s0, s1, s2, s3⟩
                     go_simp
                     with_reducible rfl
                    rotate_left
                    ·simp only [Act.put,uA_,uB_,uC_,i64_w,i32_w]
                     rfl
                    refine take_ (i := 10) (N := some 134) (v := ?_) (a' := ?_) #[t_,t_,t_,t_,t_,t_,f_,t_,t_,t_,t_,f_,f_] rfl rfl (take_ofW HT_.out HW_.out (by kernel_rfl)) (fun _ _ _ h => h) (Or.inl ⟨by rfl, ?_⟩) hHeld ?_ ?_
                    rotate_left
                    ·rintro w' ⟨s0, s1, s2, s3⟩
                     go_simp
                     with_reducible rfl
                    rotate_left
                    ·simp only [Act.put,uA_,uB_,uC_,i64_w,i32_w]
                     rfl
                    refine one_ (i := 6) (N := some 130) #[t_,t_,t_,t_,t_,t_,t_,t_,t_,t_,t_,f_,f_] rfl rfl (one_of HT_.out (by kernel_rfl)) (by decide) (fun K hK => ?_)
                    refine goes_ Tryd.func42 (by kernel_rfl) rfl #[.agg #[.int .i64 a0_0, .slice A0_1 l0_1.length c0_1], .int .i64 (rd t509 (ji66))] (by rfl) rfl rfl (by (try simp only [List.map_toArray, List.map_cons, List.map_nil]); first | done | (simp only [hji66]; rfl) | rfl | (simp only [List.length_drop, List.length_take]; rfl)) ?_
                    with_reducible refine (graph_Succ.calls a0_0 _ _ l0_1 (rd t509 (ji66)) t524 _ ?side1 ?side2 A69.out).mono ?_
                    (case side1 => repeat (first | exact (Kd.C_below HR0_1.out HB.out) | (with_reducible refine Kd.C_alloc ?_ _) | (with_reducible refine Kd.C_drewN ?_ _) | (with_reducible refine Kd.C_drew ?_)))
                    (case side2 => exact HC0_1.out)
                    rintro e w75 ⟨v525, rfl, ho0, hb⟩
                    have HS2_ := (hb.cell (World.block_lt_of_cell? _ _ (hHeld.2.2.1))).trans (hHeld.2.2.1)
                    have HS3_ := (hb.cell (World.block_lt_of_cell? _ _ (hHeld.2.2.2))).trans (hHeld.2.2.2)
                    refine ⟨_, rfl, ?_⟩
                    have n0_ := aM_ (Kd.R_elder' (by (with_reducible repeat (first | apply rA_ | apply rB_ | apply rC_)); exact HO_8.out) (Kd.R_base ho0) hb)
                    have n1_ := aM_ (Kd.R_lower (Kd.R_new' ho0 (Kd.R_lt (by (with_reducible repeat (first | apply rA_ | apply rB_ | apply rC_)); exact HO_8.out))) (below_size (by repeat (first | (with_reducible first | exact HB.out | apply bA_ | apply bB_ | apply bC_ | refine below_set ?_ GE493.out) | exact HB.out))))
                    have n2_ := aM_ (blk_below (g := gb493) (o := .cells #[.int .i64 a0_0, .slice A0_1 l0_1.length c0_1] 24 (0, 0)) (by (with_reducible repeat (first | refine blk_drewN ?_ _ | refine blk_drew ?_ | refine blk_alloc ?_ _)); exact BK493.out) hb)
                    have n3_ := aM_ (below_step (by repeat (first | (with_reducible first | exact HB.out | apply bA_ | apply bB_ | apply bC_ | refine below_set ?_ GE493.out) | exact HB.out)) hb)
                    clear HO_8
                    clear BK493
                    clear HB
                    have HO_8 := n0_
                    have HO526 := n1_
                    have BK493 := n2_
                    have HB := n3_
                    clear n0_ n1_ n2_ n3_
                    (try clear hb)
                    (try clear hb2)
                    (try clear hk)
                    (try clear hi)
                    (try clear ho0)
                    obtain ⟨Ao76, co76, eo76⟩ := Kd.R_slice HO526.out
                    (first | subst eo76 | (injection eo76 with f1_ f2_ f3_; have f4_ := f1_.symm; have f5_ := f3_.symm; clear f1_ f2_ f3_; subst f4_; subst f5_))
                    refine hK.out _ _ ⟨(blk_cell BK493.out 0).trans rfl, (blk_cell BK493.out 1).trans rfl, HS2_, HS3_⟩ (fun hHeld => ?_)
                    clear hK K
                    refine norm_ (a' := ?_) ?_ ?_
                    rotate_left
                    ·show Act.put _ (some 130) _ = _
                     simp only [Act.put,uA_,uB_,uC_,i64_w,i32_w]
                     rfl
                    refine one_ (i := 11) (N := some 135) #[t_,t_,t_,t_,t_,t_,t_,t_,t_,t_,t_,t_,f_] rfl rfl (one_of HT_.out (by kernel_rfl)) (by decide) (fun K hK => ?_)
                    refine goes_ Tryd.func39 (by kernel_rfl) rfl #[.slice Ao76 t524.length co76, .int .i64 (rd t509 x10_4)] (by rfl) rfl rfl (by (try simp only [List.map_toArray, List.map_cons, List.map_nil]); first | done | rfl | (simp only [List.length_drop, List.length_take]; rfl)) ?_
                    with_reducible refine (w4_in.calls k4 _ _ t524 (rd t509 x10_4) true _ ?side1 ?side2 A71.out).mono ?_
                    (case side1 => repeat (first | exact (Kd.R_reads' HO526.out).2.2 | (with_reducible refine Kd.C_alloc ?_ _) | (with_reducible refine Kd.C_drewN ?_ _) | (with_reducible refine Kd.C_drew ?_)))
                    (case side2 => exact (Kd.R_reads' HO526.out).2.1)
                    rintro e w' ⟨rfl, ⟨nd, rfl⟩⟩
                    refine ⟨_, rfl, ?_⟩
                    refine hK.out _ _ ⟨(blk_cell BK493.out 0).trans rfl, (blk_cell BK493.out 1).trans rfl, hHeld.2.2.1, hHeld.2.2.2⟩ (fun hHeld => ?_)
                    clear hK K
                    refine norm_ (a' := ?_) ?_ ?_
                    rotate_left
                    ·show Act.put _ (some 135) _ = _
                     simp only [Act.put,uA_,uB_,uC_,i64_w,i32_w]
                     rfl
                    refine pure_ (i := 12) (N := some 136) (v := ?_) (a' := ?_) #[t_,t_,t_,t_,t_,t_,t_,t_,t_,t_,t_,t_,t_] rfl rfl (any_of HT_.out (by kernel_rfl)) (fun _ _ _ h => h) (Or.inl ⟨by rfl, ?_⟩) ?_ ?_
                    rotate_left
                    ·intro w'
                     go_simp
                     with_reducible rfl
                    rotate_left
                    ·simp only [Act.put,uA_,uB_,uC_,i64_w,i32_w]
                     rfl
                    refine done_ (done_of HT_.out (by kernel_rfl)) ?_
                    try go_wp2
                    go_roundg k4
                    case measure => have := HJ2.out; have := HK2.out; have := HJ47.out; have := HK4.out; omega
                    case rel => exact ⟨(wrap64 (x10_4 + 1)), (by first | rfl | (simp; done) | (simp [*]; done)), H', ⟨by have := HJ2.out; have := HK2.out; have := HJ47.out; have := HK4.out; omega⟩, ⟨by (with_reducible repeat (first | apply rA_ | apply rB_ | apply rC_)); exact Kd.R_mono HO_8.out (fun _ hk => trivial)⟩, ⟨by (with_reducible repeat (first | refine blk_drewN ?_ _ | refine blk_drew ?_ | refine blk_alloc ?_ _)); exact BK493.out⟩, ⟨by repeat (first | (with_reducible first | exact HB.out | apply bA_ | apply bB_ | apply bC_ | refine below_set ?_ GE493.out) | exact HB.out)⟩⟩
                   ·replace c72 := Bool.eq_false_iff.mpr c72
                    subst c72
                    have H1 : (some false) = some r := by rw [if_neg (show ¬ (false = true) by decide)] at H; exact H
                    clear H
                    have H := H1
                    clear H1
                    obtain rfl := Option.some.inj H
                    obtain ⟨Ao77, co77, eo77⟩ := Kd.R_slice HO_8.out
                    subst eo77
                    try go_wp2
                    have n0_ := aM_ (Kd.R_drew HO_8.out)
                    have n1_ := aM_ (blk_drew BK493.out)
                    have n2_ := aM_ (below_drew1 HB.out)
                    clear HO_8
                    clear BK493
                    clear HB
                    have HO_8 := n0_
                    have BK493 := n1_
                    have HB := n2_
                    clear n0_ n1_ n2_
                    have p523 : 0 ≤ ((ji66) : Int) := of_decide_eq_true (by assumption)
                    have q523 : (ji66) < (t509.length : Int) := of_decide_eq_true (by assumption)
                    obtain ⟨ad523, e523, hx523_0⟩ := Kd.at_int (Kd.R_reads' HO_8.out).2.2 (ji66) p523 q523
                    cases e523
                    replace p523 := eq_true p523
                    replace q523 := eq_true q523
                    have p527 : 0 ≤ (x10_4 : Int) := of_decide_eq_true (by assumption)
                    have q527 : x10_4 < (t509.length : Int) := of_decide_eq_true (by assumption)
                    obtain ⟨ad527, e527, hx527_0⟩ := Kd.at_int (Kd.R_reads' HO_8.out).2.2 x10_4 p527 q527
                    obtain rfl : ad523 = ad527 := (by injection e527)
                    replace p527 := eq_true p527
                    replace q527 := eq_true q527
                    refine start_ (n := 13) (S := fun w' => w'.cell? ⟨gb493, 0, none⟩ = some (.int .i64 a0_0) ∧ w'.cell? ⟨gb493, 1, none⟩ = some (.slice A0_1 l0_1.length c0_1) ∧ w'.cell? (ad523.add ((ji66)).toNat) = some (.int .i64 (rd t509 (ji66))) ∧ w'.cell? (ad523.add (x10_4).toNat) = some (.int .i64 (rd t509 x10_4))) (ds := []) #[f_,f_,f_,f_,f_,f_,f_,f_,f_,f_,f_,f_,f_] (by kernel_rfl) rfl rfl ⟨(blk_cell BK493.out 0).trans rfl, (blk_cell BK493.out 1).trans rfl, hx523_0, hx527_0⟩ (fun hHeld => ?_); refine with_tabW w4_GraphShortest.tab15 w4_GraphShortest.bits15 (fun HT_ HW_ => ?_)
                    generalize wr.drew = w78 at HO_8 BK493 HB hx523_0 hx527_0 hHeld ⊢
                    refine pure_ (i := 1) (N := some 125) (v := ?_) (a' := ?_) #[f_,t_,f_,f_,f_,f_,f_,f_,f_,f_,f_,f_,f_] rfl rfl (any_of HT_.out (by kernel_rfl)) (fun _ _ _ h => h) (Or.inl ⟨by rfl, ?_⟩) ?_ ?_
                    rotate_left
                    ·intro w'
                     go_simp
                     with_reducible rfl
                    rotate_left
                    ·simp only [Act.put,uA_,uB_,uC_,i64_w,i32_w]
                     rfl
                    refine pure_ (i := 2) (N := some 126) (v := ?_) (a' := ?_) #[f_,t_,t_,f_,f_,f_,f_,f_,f_,f_,f_,f_,f_] rfl rfl (any_of HT_.out (by kernel_rfl)) (fun _ _ _ h => h) (Or.inl ⟨by rfl, ?_⟩) ?_ ?_
                    rotate_left
                    ·intro w'
                     go_simp
                     with_reducible rfl
                    rotate_left
                    ·simp only [Act.put,uA_,uB_,uC_,i64_w,i32_w]
                     rfl
                    refine pure_ (i := 3) (N := some 127) (v := ?_) (a' := ?_) #[f_,t_,t_,t_,f_,f_,f_,f_,f_,f_,f_,f_,f_] rfl rfl (any_of HT_.out (by kernel_rfl)) (fun _ _ _ h => h) (Or.inl ⟨by rfl, ?_⟩) ?_ ?_
                    rotate_left
                    ·intro w'
                     go_simp
                     with_reducible rfl
                    rotate_left
                    ·simp only [Act.put,uA_,uB_,uC_,i64_w,i32_w]
                     rfl
                    refine pure_ (i := 4) (N := some 128) (v := ?_) (a' := ?_) #[f_,t_,t_,t_,t_,f_,f_,f_,f_,f_,f_,f_,f_] rfl rfl (any_of HT_.out (by kernel_rfl)) (fun _ _ _ h => h) (Or.inl ⟨by rfl, ?_⟩) ?_ ?_
                    rotate_left
                    ·intro w'
                     go_simp
                     with_reducible rfl
                    rotate_left
                    ·simp only [Act.put,uA_,uB_,uC_,i64_w,i32_w]
                     rfl
                    refine pure_ (i := 7) (N := some 131) (v := ?_) (a' := ?_) #[f_,t_,t_,t_,t_,f_,f_,t_,f_,f_,f_,f_,f_] rfl rfl (any_of HT_.out (by kernel_rfl)) (fun _ _ _ h => h) (Or.inl ⟨by rfl, ?_⟩) ?_ ?_
                    rotate_left
                    ·intro w'
                     go_simp
                     with_reducible rfl
                    rotate_left
                    ·simp only [Act.put,uA_,uB_,uC_,i64_w,i32_w]
                     rfl
                    refine pure_ (i := 8) (N := some 132) (v := ?_) (a' := ?_) #[f_,t_,t_,t_,t_,f_,f_,t_,t_,f_,f_,f_,f_] rfl rfl (any_of HT_.out (by kernel_rfl)) (fun _ _ _ h => h) (Or.inl ⟨by rfl, ?_⟩) ?_ ?_
                    rotate_left
                    ·intro w'
                     go_simp
                     with_reducible rfl
                    rotate_left
                    ·simp only [Act.put,uA_,uB_,uC_,i64_w,i32_w]
                     rfl
                    refine pure_ (i := 9) (N := some 133) (v := ?_) (a' := ?_) #[f_,t_,t_,t_,t_,f_,f_,t_,t_,t_,f_,f_,f_] rfl rfl (any_of HT_.out (by kernel_rfl)) (fun _ _ _ h => h) (Or.inl ⟨by rfl, ?_⟩) ?_ ?_
                    rotate_left
                    ·intro w'
                     go_simp
                     with_reducible rfl
                    rotate_left
                    ·simp only [Act.put,uA_,uB_,uC_,i64_w,i32_w]
                     rfl
                    refine take_ (i := 0) (N := some 124) (v := ?_) (a' := ?_) #[t_,t_,t_,t_,t_,f_,f_,t_,t_,t_,f_,f_,f_] rfl rfl (take_ofW HT_.out HW_.out (by kernel_rfl)) (fun _ _ _ h => h) (Or.inl ⟨by rfl, ?_⟩) hHeld ?_ ?_
                    rotate_left
                    ·rintro w' ⟨s0, s1, s2, s3⟩
                     go_simp
                     with_reducible rfl
                    rotate_left
                    ·simp only [Act.put,uA_,uB_,uC_,i64_w,i32_w]
                     rfl
                    refine take_ (i := 5) (N := some 129) (v := ?_) (a' := ?_) #[t_,t_,t_,t_,t_,t_,f_,t_,t_,t_,f_,f_,f_] rfl rfl (take_ofW HT_.out HW_.out (by kernel_rfl)) (fun _ _ _ h => h) (Or.inl ⟨by rfl, ?_⟩) hHeld ?_ ?_
                    rotate_left
                    ·rintro w' ⟨s0, s1, s2, s3⟩
                     go_simp
                     with_reducible rfl
                    rotate_left
                    ·simp only [Act.put,uA_,uB_,uC_,i64_w,i32_w]
                     rfl
                    refine take_ (i := 10) (N := some 134) (v := ?_) (a' := ?_) #[t_,t_,t_,t_,t_,t_,f_,t_,t_,t_,t_,f_,f_] rfl rfl (take_ofW HT_.out HW_.out (by kernel_rfl)) (fun _ _ _ h => h) (Or.inl ⟨by rfl, ?_⟩) hHeld ?_ ?_
                    rotate_left
                    ·rintro w' ⟨s0, s1, s2, s3⟩
                     go_simp
                     with_reducible rfl
                    rotate_left
                    ·simp only [Act.put,uA_,uB_,uC_,i64_w,i32_w]
                     rfl
                    refine one_ (i := 6) (N := some 130) #[t_,t_,t_,t_,t_,t_,t_,t_,t_,t_,t_,f_,f_] rfl rfl (one_of HT_.out (by kernel_rfl)) (by decide) (fun K hK => ?_)
                    refine goes_ Tryd.func42 (by kernel_rfl) rfl #[.agg #[.int .i64 a0_0, .slice A0_1 l0_1.length c0_1], .int .i64 (rd t509 (ji66))] (by rfl) rfl rfl (by (try simp only [List.map_toArray, List.map_cons, List.map_nil]); first | done | (simp only [hji66]; rfl) | rfl | (simp only [List.length_drop, List.length_take]; rfl)) ?_
                    with_reducible refine (graph_Succ.calls a0_0 _ _ l0_1 (rd t509 (ji66)) t524 _ ?side1 ?side2 A69.out).mono ?_
                    (case side1 => repeat (first | exact (Kd.C_below HR0_1.out HB.out) | (with_reducible refine Kd.C_alloc ?_ _) | (with_reducible refine Kd.C_drewN ?_ _) | (with_reducible refine Kd.C_drew ?_)))
                    (case side2 => exact HC0_1.out)
                    rintro e w79 ⟨v525, rfl, ho0, hb⟩
                    have HS2_ := (hb.cell (World.block_lt_of_cell? _ _ (hHeld.2.2.1))).trans (hHeld.2.2.1)
                    have HS3_ := (hb.cell (World.block_lt_of_cell? _ _ (hHeld.2.2.2))).trans (hHeld.2.2.2)
                    refine ⟨_, rfl, ?_⟩
                    have n0_ := aM_ (Kd.R_elder' (by (with_reducible repeat (first | apply rA_ | apply rB_ | apply rC_)); exact HO_8.out) (Kd.R_base ho0) hb)
                    have n1_ := aM_ (Kd.R_lower (Kd.R_new' ho0 (Kd.R_lt (by (with_reducible repeat (first | apply rA_ | apply rB_ | apply rC_)); exact HO_8.out))) (below_size (by repeat (first | (with_reducible first | exact HB.out | apply bA_ | apply bB_ | apply bC_ | refine below_set ?_ GE493.out) | exact HB.out))))
                    have n2_ := aM_ (blk_below (g := gb493) (o := .cells #[.int .i64 a0_0, .slice A0_1 l0_1.length c0_1] 24 (0, 0)) (by (with_reducible repeat (first | refine blk_drewN ?_ _ | refine blk_drew ?_ | refine blk_alloc ?_ _)); exact BK493.out) hb)
                    have n3_ := aM_ (below_step (by repeat (first | (with_reducible first | exact HB.out | apply bA_ | apply bB_ | apply bC_ | refine below_set ?_ GE493.out) | exact HB.out)) hb)
                    clear HO_8
                    clear BK493
                    clear HB
                    have HO_8 := n0_
                    have HO526 := n1_
                    have BK493 := n2_
                    have HB := n3_
                    clear n0_ n1_ n2_ n3_
                    (try clear hb)
                    (try clear hb2)
                    (try clear hk)
                    (try clear hi)
                    (try clear ho0)
                    obtain ⟨Ao80, co80, eo80⟩ := Kd.R_slice HO526.out
                    (first | subst eo80 | (injection eo80 with f1_ f2_ f3_; have f4_ := f1_.symm; have f5_ := f3_.symm; clear f1_ f2_ f3_; subst f4_; subst f5_))
                    refine hK.out _ _ ⟨(blk_cell BK493.out 0).trans rfl, (blk_cell BK493.out 1).trans rfl, HS2_, HS3_⟩ (fun hHeld => ?_)
                    clear hK K
                    refine norm_ (a' := ?_) ?_ ?_
                    rotate_left
                    ·show Act.put _ (some 130) _ = _
                     simp only [Act.put,uA_,uB_,uC_,i64_w,i32_w]
                     rfl
                    refine one_ (i := 11) (N := some 135) #[t_,t_,t_,t_,t_,t_,t_,t_,t_,t_,t_,t_,f_] rfl rfl (one_of HT_.out (by kernel_rfl)) (by decide) (fun K hK => ?_)
                    refine goes_ Tryd.func39 (by kernel_rfl) rfl #[.slice Ao80 t524.length co80, .int .i64 (rd t509 x10_4)] (by rfl) rfl rfl (by (try simp only [List.map_toArray, List.map_cons, List.map_nil]); first | done | rfl | (simp only [List.length_drop, List.length_take]; rfl)) ?_
                    with_reducible refine (w4_in.calls k4 _ _ t524 (rd t509 x10_4) false _ ?side1 ?side2 A71.out).mono ?_
                    (case side1 => repeat (first | exact (Kd.R_reads' HO526.out).2.2 | (with_reducible refine Kd.C_alloc ?_ _) | (with_reducible refine Kd.C_drewN ?_ _) | (with_reducible refine Kd.C_drew ?_)))
                    (case side2 => exact (Kd.R_reads' HO526.out).2.1)
                    rintro e w' ⟨rfl, ⟨nd, rfl⟩⟩
                    refine ⟨_, rfl, ?_⟩
                    refine hK.out _ _ ⟨(blk_cell BK493.out 0).trans rfl, (blk_cell BK493.out 1).trans rfl, hHeld.2.2.1, hHeld.2.2.2⟩ (fun hHeld => ?_)
                    clear hK K
                    refine norm_ (a' := ?_) ?_ ?_
                    rotate_left
                    ·show Act.put _ (some 135) _ = _
                     simp only [Act.put,uA_,uB_,uC_,i64_w,i32_w]
                     rfl
                    refine pure_ (i := 12) (N := some 136) (v := ?_) (a' := ?_) #[t_,t_,t_,t_,t_,t_,t_,t_,t_,t_,t_,t_,t_] rfl rfl (any_of HT_.out (by kernel_rfl)) (fun _ _ _ h => h) (Or.inl ⟨by rfl, ?_⟩) ?_ ?_
                    rotate_left
                    ·intro w'
                     go_simp
                     with_reducible rfl
                    rotate_left
                    ·simp only [Act.put,uA_,uB_,uC_,i64_w,i32_w]
                     rfl
                    refine done_ (done_of HT_.out (by kernel_rfl)) ?_
                    try go_wp2
                    go_ret
                    exact ⟨by first | rfl | (simp [errW_none, errW_some] <;> rfl) | (simp only [← hji44, ← hji66]; first | rfl | (simp [errW_none, errW_some] <;> rfl)) | (simp [*, errW_none, errW_some] <;> rfl), by repeat (first | (with_reducible first | exact HB.out | apply bA_ | apply bB_ | apply bC_ | refine below_set ?_ GE493.out) | exact HB.out)⟩
                  ·rw [if_neg c70] at H
                   exact absurd H (by simp)
                 ·rw [if_neg c68] at H
                  exact absurd H (by simp)
                ·rw [if_neg c67] at H
                 exact absurd H (by simp)
               ·rw [if_neg c65] at H
                have c65b0 : decide (x10_4 < (t509.length : Int)) = false := decide_eq_false c65
                clear c65
                obtain ⟨y515, hy515⟩ : ∃ y_ : List Int, y_ = (([(rd l1 0)] : List Int)) := ⟨_, rfl⟩
                replace H : ((graph_Reach.f a0_0 l0_1 y515).bind fun t518 => ((w4_in.f k4 t518 (rd l1 (ji44))).bind fun t521 => (if t521 = true then ((w4_awake.f).bind fun t522 => (some t522)) else (some false)))) = some r := by first | (rw [hy515]; with_reducible exact H) | (have H2_ := (Option.bind_some _ _).symm.trans H; rw [hy515]; with_reducible exact H2_) | (have H2_ := (Option.bind_some _ _).symm.trans H; with_reducible exact H2_) | with_reducible exact H | (rw [hy515]; exact H) | exact H
                have Ny515 := aM_ hy515
                clear hy515
                replace H := Option.bind_eq_some_iff.mp H
                obtain ⟨t518, A810, H⟩ := H
                replace H : ((w4_in.f k4 t518 (rd l1 (ji44))).bind fun t521 => (if t521 = true then ((w4_awake.f).bind fun t522 => (some t522)) else (some false))) = some r := H
                have A81 := aM_ A810
                clear A810
                replace H := Option.bind_eq_some_iff.mp H
                obtain ⟨t521, A820, H⟩ := H
                replace H : (if t521 = true then ((w4_awake.f).bind fun t522 => (some t522)) else (some false)) = some r := H
                have A82 := aM_ A820
                clear A820
                by_cases c83 : t521 = true
                ·subst c83
                 have H1 : ((w4_awake.f).bind fun t522 => (some t522)) = some r := by rw [if_pos rfl] at H; exact H
                 clear H
                 have H := H1
                 clear H1
                 replace H := Option.bind_eq_some_iff.mp H
                 obtain ⟨t522, A840, H⟩ := H
                 replace H : (some t522) = some r := H
                 have A84 := aM_ A840
                 clear A840
                 obtain rfl := Option.some.inj H
                 obtain ⟨Ao85, co85, eo85⟩ := Kd.R_slice HO_8.out
                 subst eo85
                 have hcz86_0 : wr.cell? ⟨gb493, 0, none⟩ = some (.int .i64 a0_0) := (blk_cell BK493.out 0).trans rfl
                 have hcz86_1 : wr.cell? ⟨gb493, 1, none⟩ = some (.slice A0_1 l0_1.length c0_1) := (blk_cell BK493.out 1).trans rfl
                 have hfz86_0 := blk_frozen BK493.out 0
                 have hfz86_1 := blk_frozen BK493.out 1
                 go_wp2_with (first | ((with_reducible refine gate_dst (N := 139) rfl ?_); (try (refine gate_guard (by rfl) ?_; dsimp only)); refine Kd.R_lit (Kd.int .i64) _ 3 ?hg (N := 139) ?hd (xs := ([(rd l1 0)] : List Int)) (inner := [.int .i64 (rd l1 0)]) (ok := fun _ => True) (okp := fun _ => True) ?hr ?hp (fun _ hk => hk) trivial (Below.refl _ _) (Nat.le_refl _) (by simp) ?_; (case hd => rfl); (case hg => rfl); (case hr => first | (go_simp; done) | (go_simp; rfl)); (case hp => exact (Reps.one (show Kd.M (Kd.int .i64) _ _ _ (rd l1 0) [.int .i64 (rd l1 0)] from rfl) (Reps.none _ _))); intro v516 w87 ho88 hb hg_ hnew_; clear hg_ hnew_; (first | rw [← Ny515.out] at ho88 | (simp only [Int.reduceToNat] at ho88; rw [← Ny515.out] at ho88)); have n0_ := aM_ (Kd.R_elder' (by (with_reducible repeat (first | apply rA_ | apply rB_ | apply rC_)); exact HO_8.out) (Kd.R_base ho88) hb); have n1_ := aM_ (Kd.R_lower (Kd.R_new' ho88 (Kd.R_lt (by (with_reducible repeat (first | apply rA_ | apply rB_ | apply rC_)); exact HO_8.out))) (below_size (by repeat (first | (with_reducible first | exact HB.out | apply bA_ | apply bB_ | apply bC_ | refine below_set ?_ GE493.out) | exact HB.out)))); have n2_ := aM_ (blk_below (g := gb493) (o := .cells #[.int .i64 a0_0, .slice A0_1 l0_1.length c0_1] 24 (0, 0)) (by (with_reducible repeat (first | refine blk_drewN ?_ _ | refine blk_drew ?_ | refine blk_alloc ?_ _)); exact BK493.out) hb); have n3_ := aM_ (below_step (by repeat (first | (with_reducible first | exact HB.out | apply bA_ | apply bB_ | apply bC_ | refine below_set ?_ GE493.out) | exact HB.out)) hb); clear HO_8; clear BK493; clear HB; have HO_8 := n0_; have HO517 := n1_; have BK493 := n2_; have HB := n3_; clear n0_ n1_ n2_ n3_; clear hb ho88; obtain ⟨Ao89, co89, eo89⟩ := Kd.R_slice HO517.out; subst eo89) | ((with_reducible refine gate_callee (f := 35) rfl ?_); refine goesL_ (some 140) rfl rfl Tryd.func35 (by kernel_rfl) rfl #[.agg #[.int .i64 a0_0, .slice A0_1 l0_1.length c0_1], .slice Ao89 y515.length co89] rfl (by (try simp only [List.map_toArray, List.map_cons, List.map_nil]); first | done | rfl | (simp only [List.length_drop, List.length_take]; rfl)) ?_; (with_reducible refine (graph_Reach.calls a0_0 _ _ l0_1 _ _ y515 t518 _ ?side1 ?side2 ?side3 ?side4 ?side5 A81.out).mono ?_); (case side1 => repeat (first | exact (Kd.C_below HR0_1.out HB.out) | (with_reducible refine Kd.C_alloc ?_ _) | (with_reducible refine Kd.C_drewN ?_ _) | (with_reducible refine Kd.C_drew ?_))); (case side2 => exact HC0_1.out); (case side3 => repeat (first | exact (Kd.R_reads' HO517.out).2.2 | (with_reducible refine Kd.C_alloc ?_ _) | (with_reducible refine Kd.C_drewN ?_ _) | (with_reducible refine Kd.C_drew ?_))); (case side4 => exact (Kd.R_reads' HO517.out).2.1); (case side5 => exact TabW.below HG_.out (by repeat (first | (with_reducible first | exact HB.out | apply bA_ | apply bB_ | apply bC_ | refine below_set ?_ GE493.out) | exact HB.out))); rintro e w90 ⟨v519, rfl, ho0, hb⟩; refine ⟨_, rfl, ?_⟩; have n0_ := aM_ (Kd.R_elder' (by (with_reducible repeat (first | apply rA_ | apply rB_ | apply rC_)); exact HO_8.out) (Kd.R_base ho0) hb); have n1_ := aM_ (Kd.R_elder' (by (with_reducible repeat (first | apply rA_ | apply rB_ | apply rC_)); exact HO517.out) (Kd.R_base ho0) hb); have n2_ := aM_ (Kd.R_lower (Kd.R_new' (Kd.R_new' ho0 (Kd.R_lt (by (with_reducible repeat (first | apply rA_ | apply rB_ | apply rC_)); exact HO_8.out))) (Kd.R_lt (by (with_reducible repeat (first | apply rA_ | apply rB_ | apply rC_)); exact HO517.out))) (below_size (by repeat (first | (with_reducible first | exact HB.out | apply bA_ | apply bB_ | apply bC_ | refine below_set ?_ GE493.out) | exact HB.out)))); have n3_ := aM_ (blk_below (g := gb493) (o := .cells #[.int .i64 a0_0, .slice A0_1 l0_1.length c0_1] 24 (0, 0)) (by (with_reducible repeat (first | refine blk_drewN ?_ _ | refine blk_drew ?_ | refine blk_alloc ?_ _)); exact BK493.out) hb); have n4_ := aM_ (below_step (by repeat (first | (with_reducible first | exact HB.out | apply bA_ | apply bB_ | apply bC_ | refine below_set ?_ GE493.out) | exact HB.out)) hb); clear HO_8; clear HO517; clear BK493; clear HB; have HO_8 := n0_; have HO517 := n1_; have HO520 := n2_; have BK493 := n3_; have HB := n4_; clear n0_ n1_ n2_ n3_ n4_; (try clear hb); (try clear hb2); (try clear hk); (try clear hi); (try clear ho0); obtain ⟨Ao91, co91, eo91⟩ := Kd.R_slice HO520.out; subst eo91) | ((with_reducible refine gate_callee (f := 39) rfl ?_); refine goesL_ (some 142) rfl rfl Tryd.func39 (by kernel_rfl) rfl #[.slice Ao91 t518.length co91, .int .i64 (rd l1 (ji44))] rfl (by (try simp only [List.map_toArray, List.map_cons, List.map_nil]); first | done | (simp only [hji44]; rfl) | rfl | (simp only [List.length_drop, List.length_take]; rfl)) ?_; (with_reducible refine (w4_in.calls k4 _ _ t518 (rd l1 (ji44)) true _ ?side1 ?side2 A82.out).mono ?_); (case side1 => repeat (first | exact (Kd.R_reads' HO520.out).2.2 | (with_reducible refine Kd.C_alloc ?_ _) | (with_reducible refine Kd.C_drewN ?_ _) | (with_reducible refine Kd.C_drew ?_))); (case side2 => exact (Kd.R_reads' HO520.out).2.1); rintro e w' ⟨rfl, ⟨nd, rfl⟩⟩; refine ⟨_, rfl, ?_⟩) | (go_at_call 30; (with_reducible refine (w4_awake.calls  t522 _ ?side1 A84.out).mono ?_); (case side1 => exact TabW.below HG_.out (by repeat (first | (with_reducible first | exact HB.out | apply bA_ | apply bB_ | apply bC_ | refine below_set ?_ GE493.out) | exact HB.out))); rintro e w92 ⟨rfl, hb⟩; have n0_ := aM_ (Kd.R_below (by (with_reducible repeat (first | apply rA_ | apply rB_ | apply rC_)); exact HO_8.out) hb); have n1_ := aM_ (Kd.R_below (by (with_reducible repeat (first | apply rA_ | apply rB_ | apply rC_)); exact HO517.out) hb); have n2_ := aM_ (Kd.R_below (by (with_reducible repeat (first | apply rA_ | apply rB_ | apply rC_)); exact HO520.out) hb); have n3_ := aM_ (blk_below (g := gb493) (o := .cells #[.int .i64 a0_0, .slice A0_1 l0_1.length c0_1] 24 (0, 0)) (by (with_reducible repeat (first | refine blk_drewN ?_ _ | refine blk_drew ?_ | refine blk_alloc ?_ _)); exact BK493.out) hb); have n4_ := aM_ (below_step (by repeat (first | (with_reducible first | exact HB.out | apply bA_ | apply bB_ | apply bC_ | refine below_set ?_ GE493.out) | exact HB.out)) hb); clear HO_8; clear HO517; clear HO520; clear BK493; clear HB; have HO_8 := n0_; have HO517 := n1_; have HO520 := n2_; have BK493 := n3_; have HB := n4_; clear n0_ n1_ n2_ n3_ n4_; (try clear hb); (try clear hb2); (try clear hk); (try clear hi)))
                 go_ret
                 exact ⟨by first | rfl | (simp [errW_none, errW_some] <;> rfl) | (simp only [← hji44]; first | rfl | (simp [errW_none, errW_some] <;> rfl)) | (simp [*, errW_none, errW_some] <;> rfl), by repeat (first | (with_reducible first | exact HB.out | apply bA_ | apply bB_ | apply bC_ | refine below_set ?_ GE493.out) | exact HB.out)⟩
                ·replace c83 := Bool.eq_false_iff.mpr c83
                 subst c83
                 have H1 : (some false) = some r := by rw [if_neg (show ¬ (false = true) by decide)] at H; exact H
                 clear H
                 have H := H1
                 clear H1
                 obtain rfl := Option.some.inj H
                 obtain ⟨Ao93, co93, eo93⟩ := Kd.R_slice HO_8.out
                 subst eo93
                 have hcz94_0 : wr.cell? ⟨gb493, 0, none⟩ = some (.int .i64 a0_0) := (blk_cell BK493.out 0).trans rfl
                 have hcz94_1 : wr.cell? ⟨gb493, 1, none⟩ = some (.slice A0_1 l0_1.length c0_1) := (blk_cell BK493.out 1).trans rfl
                 have hfz94_0 := blk_frozen BK493.out 0
                 have hfz94_1 := blk_frozen BK493.out 1
                 go_wp2_with (first | ((with_reducible refine gate_dst (N := 139) rfl ?_); (try (refine gate_guard (by rfl) ?_; dsimp only)); refine Kd.R_lit (Kd.int .i64) _ 3 ?hg (N := 139) ?hd (xs := ([(rd l1 0)] : List Int)) (inner := [.int .i64 (rd l1 0)]) (ok := fun _ => True) (okp := fun _ => True) ?hr ?hp (fun _ hk => hk) trivial (Below.refl _ _) (Nat.le_refl _) (by simp) ?_; (case hd => rfl); (case hg => rfl); (case hr => first | (go_simp; done) | (go_simp; rfl)); (case hp => exact (Reps.one (show Kd.M (Kd.int .i64) _ _ _ (rd l1 0) [.int .i64 (rd l1 0)] from rfl) (Reps.none _ _))); intro v516 w95 ho96 hb hg_ hnew_; clear hg_ hnew_; (first | rw [← Ny515.out] at ho96 | (simp only [Int.reduceToNat] at ho96; rw [← Ny515.out] at ho96)); have n0_ := aM_ (Kd.R_elder' (by (with_reducible repeat (first | apply rA_ | apply rB_ | apply rC_)); exact HO_8.out) (Kd.R_base ho96) hb); have n1_ := aM_ (Kd.R_lower (Kd.R_new' ho96 (Kd.R_lt (by (with_reducible repeat (first | apply rA_ | apply rB_ | apply rC_)); exact HO_8.out))) (below_size (by repeat (first | (with_reducible first | exact HB.out | apply bA_ | apply bB_ | apply bC_ | refine below_set ?_ GE493.out) | exact HB.out)))); have n2_ := aM_ (blk_below (g := gb493) (o := .cells #[.int .i64 a0_0, .slice A0_1 l0_1.length c0_1] 24 (0, 0)) (by (with_reducible repeat (first | refine blk_drewN ?_ _ | refine blk_drew ?_ | refine blk_alloc ?_ _)); exact BK493.out) hb); have n3_ := aM_ (below_step (by repeat (first | (with_reducible first | exact HB.out | apply bA_ | apply bB_ | apply bC_ | refine below_set ?_ GE493.out) | exact HB.out)) hb); clear HO_8; clear BK493; clear HB; have HO_8 := n0_; have HO517 := n1_; have BK493 := n2_; have HB := n3_; clear n0_ n1_ n2_ n3_; clear hb ho96; obtain ⟨Ao97, co97, eo97⟩ := Kd.R_slice HO517.out; subst eo97) | ((with_reducible refine gate_callee (f := 35) rfl ?_); refine goesL_ (some 140) rfl rfl Tryd.func35 (by kernel_rfl) rfl #[.agg #[.int .i64 a0_0, .slice A0_1 l0_1.length c0_1], .slice Ao97 y515.length co97] rfl (by (try simp only [List.map_toArray, List.map_cons, List.map_nil]); first | done | rfl | (simp only [List.length_drop, List.length_take]; rfl)) ?_; (with_reducible refine (graph_Reach.calls a0_0 _ _ l0_1 _ _ y515 t518 _ ?side1 ?side2 ?side3 ?side4 ?side5 A81.out).mono ?_); (case side1 => repeat (first | exact (Kd.C_below HR0_1.out HB.out) | (with_reducible refine Kd.C_alloc ?_ _) | (with_reducible refine Kd.C_drewN ?_ _) | (with_reducible refine Kd.C_drew ?_))); (case side2 => exact HC0_1.out); (case side3 => repeat (first | exact (Kd.R_reads' HO517.out).2.2 | (with_reducible refine Kd.C_alloc ?_ _) | (with_reducible refine Kd.C_drewN ?_ _) | (with_reducible refine Kd.C_drew ?_))); (case side4 => exact (Kd.R_reads' HO517.out).2.1); (case side5 => exact TabW.below HG_.out (by repeat (first | (with_reducible first | exact HB.out | apply bA_ | apply bB_ | apply bC_ | refine below_set ?_ GE493.out) | exact HB.out))); rintro e w98 ⟨v519, rfl, ho0, hb⟩; refine ⟨_, rfl, ?_⟩; have n0_ := aM_ (Kd.R_elder' (by (with_reducible repeat (first | apply rA_ | apply rB_ | apply rC_)); exact HO_8.out) (Kd.R_base ho0) hb); have n1_ := aM_ (Kd.R_elder' (by (with_reducible repeat (first | apply rA_ | apply rB_ | apply rC_)); exact HO517.out) (Kd.R_base ho0) hb); have n2_ := aM_ (Kd.R_lower (Kd.R_new' (Kd.R_new' ho0 (Kd.R_lt (by (with_reducible repeat (first | apply rA_ | apply rB_ | apply rC_)); exact HO_8.out))) (Kd.R_lt (by (with_reducible repeat (first | apply rA_ | apply rB_ | apply rC_)); exact HO517.out))) (below_size (by repeat (first | (with_reducible first | exact HB.out | apply bA_ | apply bB_ | apply bC_ | refine below_set ?_ GE493.out) | exact HB.out)))); have n3_ := aM_ (blk_below (g := gb493) (o := .cells #[.int .i64 a0_0, .slice A0_1 l0_1.length c0_1] 24 (0, 0)) (by (with_reducible repeat (first | refine blk_drewN ?_ _ | refine blk_drew ?_ | refine blk_alloc ?_ _)); exact BK493.out) hb); have n4_ := aM_ (below_step (by repeat (first | (with_reducible first | exact HB.out | apply bA_ | apply bB_ | apply bC_ | refine below_set ?_ GE493.out) | exact HB.out)) hb); clear HO_8; clear HO517; clear BK493; clear HB; have HO_8 := n0_; have HO517 := n1_; have HO520 := n2_; have BK493 := n3_; have HB := n4_; clear n0_ n1_ n2_ n3_ n4_; (try clear hb); (try clear hb2); (try clear hk); (try clear hi); (try clear ho0); obtain ⟨Ao99, co99, eo99⟩ := Kd.R_slice HO520.out; subst eo99) | ((with_reducible refine gate_callee (f := 39) rfl ?_); refine goesL_ (some 142) rfl rfl Tryd.func39 (by kernel_rfl) rfl #[.slice Ao99 t518.length co99, .int .i64 (rd l1 (ji44))] rfl (by (try simp only [List.map_toArray, List.map_cons, List.map_nil]); first | done | (simp only [hji44]; rfl) | rfl | (simp only [List.length_drop, List.length_take]; rfl)) ?_; (with_reducible refine (w4_in.calls k4 _ _ t518 (rd l1 (ji44)) false _ ?side1 ?side2 A82.out).mono ?_); (case side1 => repeat (first | exact (Kd.R_reads' HO520.out).2.2 | (with_reducible refine Kd.C_alloc ?_ _) | (with_reducible refine Kd.C_drewN ?_ _) | (with_reducible refine Kd.C_drew ?_))); (case side2 => exact (Kd.R_reads' HO520.out).2.1); rintro e w' ⟨rfl, ⟨nd, rfl⟩⟩; refine ⟨_, rfl, ?_⟩))
                 go_ret
                 exact ⟨by first | rfl | (simp [errW_none, errW_some] <;> rfl) | (simp only [← hji44]; first | rfl | (simp [errW_none, errW_some] <;> rfl)) | (simp [*, errW_none, errW_some] <;> rfl), by repeat (first | (with_reducible first | exact HB.out | apply bA_ | apply bB_ | apply bC_ | refine below_set ?_ GE493.out) | exact HB.out)⟩
         ·rw [if_neg c46] at H
          exact absurd H (by simp)
        ·rw [if_neg c45] at H
         exact absurd H (by simp)
       ·rw [if_neg c43] at H
        exact absurd H (by simp)
end Go.Proofs.YtfgbkklhjocmjaaDoor.Xq
namespace Go.Proofs.YtfgbkklhjocmjaaDoor.Xq
open Go.RowKit Go.Proofs.YtfgbkklhjocmjaaDoorW.PrintWords Go.Proofs.YtfgbkklhjocmjaaDoorW.PrintLast Go.Proofs.YtfgbkklhjocmjaaDoorW.PrintMore
attribute [local go_sem] max2_int min2_int max_two min_two max_three min_three max_four min_four
mutual
def r4_sorted.l0 : Nat → List (S53) → List (S53) → List (S53) → Int → Int → Option ((List (S53)))
 | 0, _, _, _, _, _ => none
 | k + 1, x3, x4, x5, x6, x7 => if x6 < (x3.length : Int) then (r4_sorted.j1 k x3 x4 x5 x6 x7 true) else (r4_sorted.j1 k x3 x4 x5 x6 x7 (decide (x7 < (x4.length : Int))))
def r4_sorted.j1 : Nat → List (S53) → List (S53) → List (S53) → Int → Int → Bool → Option ((List (S53)))
 | 0, _, _, _, _, _, _ => none
 | k + 1, x3, x4, x5, x6, x7, x35 => if x35 = true then (if x7 = (x4.length : Int) then (r4_sorted.j2 k x3 x4 x5 x6 x7 true) else (if x6 < (x3.length : Int) then (if 0 ≤ x6 then (if 0 ≤ x7 then (if x7 < (x4.length : Int) then ((r4_less.f ((rd_T53 x3 x6).f0) ((rd_T53 x3 x6).f1) ((rd_T53 x4 x7).f0) ((rd_T53 x4 x7).f1)).bind fun t144 => (r4_sorted.j2 k x3 x4 x5 x6 x7 t144)) else (none)) else (none)) else (none)) else (r4_sorted.j2 k x3 x4 x5 x6 x7 false))) else (some x5)
def r4_sorted.j2 : Nat → List (S53) → List (S53) → List (S53) → Int → Int → Bool → Option ((List (S53)))
 | 0, _, _, _, _, _, _ => none
 | k + 1, x3, x4, x5, x6, x7, x38 => if x38 = true then (if 0 ≤ x6 then (if x6 < (x3.length : Int) then (if x5.length < 8796093022208 then (r4_sorted.l0 k x3 x4 (x5 ++ [(⟨(rd_T53 x3 x6).f0, (rd_T53 x3 x6).f1⟩ : S53)]) (wrap64 (x6 + 1)) x7) else (none)) else (none)) else (none)) else (if x6 = (x3.length : Int) then (if 0 ≤ x7 then (if x7 < (x4.length : Int) then (if x5.length < 8796093022208 then (r4_sorted.l0 k x3 x4 (x5 ++ [(⟨(rd_T53 x4 x7).f0, (rd_T53 x4 x7).f1⟩ : S53)]) x6 (wrap64 (x7 + 1))) else (none)) else (none)) else (none)) else (if 0 ≤ x7 then (if x7 < (x4.length : Int) then (if 0 ≤ x6 then (if x6 < (x3.length : Int) then ((r4_less.f ((rd_T53 x4 x7).f0) ((rd_T53 x4 x7).f1) ((rd_T53 x3 x6).f0) ((rd_T53 x3 x6).f1)).bind fun t155 => (if t155 = true then (if x5.length < 8796093022208 then (r4_sorted.l0 k x3 x4 (x5 ++ [(⟨(rd_T53 x4 x7).f0, (rd_T53 x4 x7).f1⟩ : S53)]) x6 (wrap64 (x7 + 1))) else (none)) else (r4_sorted.l0 k x3 x4 x5 (wrap64 (x6 + 1)) x7))) else (none)) else (none)) else (none)) else (none)))
def r4_sorted.f : Nat → List (S53) → Option ((List (S53)))
 | 0, _ => none
 | k + 1, l0 => if (l0.length : Int) < 2 then ((some (([] : List (S53)) : List (S53))).bind fun y122 => (if y122.length + l0.length < 8796093022208 then (some (y122 ++ l0)) else (none))) else (if 0 ≤ (wrap64 ((l0.length : Int) / 2)) then (if (wrap64 ((l0.length : Int) / 2)) ≤ (l0.length : Int) then ((r4_sorted.f k (l0.take ((wrap64 ((l0.length : Int) / 2)) : Int).toNat)).bind fun t132 => ((r4_sorted.f k (l0.drop ((wrap64 ((l0.length : Int) / 2)) : Int).toNat)).bind fun t139 => (r4_sorted.l0 k t132 t139 ([] : List (S53)) 0 0))) else (none)) else (none))
end
theorem r4_sorted.mono_l : ∀ k, (∀ y0, LeO (r4_sorted.f k y0) (r4_sorted.f (k + 1) y0)) ∧ (∀ y0 y1 y2 y3 y4, LeO (r4_sorted.l0 k y0 y1 y2 y3 y4) (r4_sorted.l0 (k + 1) y0 y1 y2 y3 y4)) ∧ (∀ y0 y1 y2 y3 y4 y5, LeO (r4_sorted.j1 k y0 y1 y2 y3 y4 y5) (r4_sorted.j1 (k + 1) y0 y1 y2 y3 y4 y5)) ∧ (∀ y0 y1 y2 y3 y4 y5, LeO (r4_sorted.j2 k y0 y1 y2 y3 y4 y5) (r4_sorted.j2 (k + 1) y0 y1 y2 y3 y4 y5))
 | 0 => ⟨fun _ r h => by simp [r4_sorted.f] at h, fun _ _ _ _ _ r h => by simp [r4_sorted.l0] at h, fun _ _ _ _ _ _ r h => by simp [r4_sorted.j1] at h, fun _ _ _ _ _ _ r h => by simp [r4_sorted.j2] at h⟩
 | k + 1 => by
  obtain ⟨ih0, ih1, ih2, ih3⟩ := r4_sorted.mono_l k
  refine ⟨?_, ?_, ?_, ?_⟩
  ·intro y0
   unfold r4_sorted.f
   repeat' first
   | (with_reducible exact ih0 _)
   | (with_reducible exact ih1 _ _ _ _ _)
   | (with_reducible exact ih2 _ _ _ _ _ _)
   | (with_reducible exact ih3 _ _ _ _ _ _)
   | (with_reducible exact LeO.refl _)
   | (with_reducible exact LeO.none _)
   | (with_reducible refine LeO.ite ?_ ?_)
   | (with_reducible refine LeO.bind ?_ (fun _ => ?_))
   | exact ih0 _
   | exact ih1 _ _ _ _ _
   | exact ih2 _ _ _ _ _ _
   | exact ih3 _ _ _ _ _ _
   | exact LeO.none _
   | refine LeO.ite ?_ ?_
   | refine LeO.bind ?_ (fun _ => ?_)
  ·intro y0 y1 y2 y3 y4
   unfold r4_sorted.l0
   repeat' first
   | (with_reducible exact ih0 _)
   | (with_reducible exact ih1 _ _ _ _ _)
   | (with_reducible exact ih2 _ _ _ _ _ _)
   | (with_reducible exact ih3 _ _ _ _ _ _)
   | (with_reducible exact LeO.refl _)
   | (with_reducible exact LeO.none _)
   | (with_reducible refine LeO.ite ?_ ?_)
   | (with_reducible refine LeO.bind ?_ (fun _ => ?_))
   | exact ih0 _
   | exact ih1 _ _ _ _ _
   | exact ih2 _ _ _ _ _ _
   | exact ih3 _ _ _ _ _ _
   | exact LeO.none _
   | refine LeO.ite ?_ ?_
   | refine LeO.bind ?_ (fun _ => ?_)
  ·intro y0 y1 y2 y3 y4 y5
   unfold r4_sorted.j1
   repeat' first
   | (with_reducible exact ih0 _)
   | (with_reducible exact ih1 _ _ _ _ _)
   | (with_reducible exact ih2 _ _ _ _ _ _)
   | (with_reducible exact ih3 _ _ _ _ _ _)
   | (with_reducible exact LeO.refl _)
   | (with_reducible exact LeO.none _)
   | (with_reducible refine LeO.ite ?_ ?_)
   | (with_reducible refine LeO.bind ?_ (fun _ => ?_))
   | exact ih0 _
   | exact ih1 _ _ _ _ _
   | exact ih2 _ _ _ _ _ _
   | exact ih3 _ _ _ _ _ _
   | exact LeO.none _
   | refine LeO.ite ?_ ?_
   | refine LeO.bind ?_ (fun _ => ?_)
  ·intro y0 y1 y2 y3 y4 y5
   unfold r4_sorted.j2
   repeat' first
   | (with_reducible exact ih0 _)
   | (with_reducible exact ih1 _ _ _ _ _)
   | (with_reducible exact ih2 _ _ _ _ _ _)
   | (with_reducible exact ih3 _ _ _ _ _ _)
   | (with_reducible exact LeO.refl _)
   | (with_reducible exact LeO.none _)
   | (with_reducible refine LeO.ite ?_ ?_)
   | (with_reducible refine LeO.bind ?_ (fun _ => ?_))
   | exact ih0 _
   | exact ih1 _ _ _ _ _
   | exact ih2 _ _ _ _ _ _
   | exact ih3 _ _ _ _ _ _
   | exact LeO.none _
   | refine LeO.ite ?_ ?_
   | refine LeO.bind ?_ (fun _ => ?_)
theorem r4_sorted.mono : ∀ a0 k, LeO (r4_sorted.f k a0) (r4_sorted.f (k + 1) a0) := by
 intro a0 k
 obtain ⟨ih0, ih1, ih2, ih3⟩ := r4_sorted.mono_l k
 exact ih0 a0
end Go.Proofs.YtfgbkklhjocmjaaDoor.Xq
namespace Go.Proofs.YtfgbkklhjocmjaaDoor.Xq
open Go.RowKit Go.Proofs.YtfgbkklhjocmjaaDoorW.PrintWords Go.Proofs.YtfgbkklhjocmjaaDoorW.PrintLast Go.Proofs.YtfgbkklhjocmjaaDoorW.PrintMore
attribute [local go_sem] max2_int min2_int max_two min_two max_three min_three max_four min_four
def r4_Reverse.l0 : Nat → List (S53) → Int → Int → List (S53) → Option (Int × (List (S53)))
 | 0, _, _, _, _ => none
 | k + 1, x3, x4, x213000, x213001 => if x4 < (x213001.length : Int) then (if 0 ≤ x4 then (if x3.length < 8796093022208 then (r4_Reverse.l0 k (x3 ++ [(⟨(rd_T53 x213001 x4).f1, (rd_T53 x213001 x4).f0⟩ : S53)]) (wrap64 (x4 + 1)) x213000 x213001) else (none)) else (none)) else ((r4_sorted.f k x3).bind fun t220 => (some (x213000, t220)))
def r4_Reverse.f (k : Nat) (a0_0 : Int) (l0_1 : List (S53)) : Option (Int × (List (S53))) := (r4_Check.f k a0_0 l0_1).bind fun t214 => (if t214 = 0 then (r4_Reverse.l0 k ([] : List (S53)) 0 a0_0 l0_1) else (some (0, ([] : List (S53)))))
end Go.Proofs.YtfgbkklhjocmjaaDoor.Xq
namespace Go.Proofs.YtfgbkklhjocmjaaDoor.Xq
open Go.RowKit Go.Proofs.YtfgbkklhjocmjaaDoorW.PrintWords Go.Proofs.YtfgbkklhjocmjaaDoorW.PrintLast Go.Proofs.YtfgbkklhjocmjaaDoorW.PrintMore
attribute [local go_sem] max2_int min2_int max_two min_two max_three min_three max_four min_four
mutual
def r4_Path.j0 : Nat → Int → Int → Bool → Int → List (S53) → Option (List Int × Bool)
 | 0, _, _, _, _, _ => none
 | k + 1, x1, x2, x23, x309000, x309001 => if x23 = true then (some (([] : List Int), false)) else ((r4_Reverse.f k x309000 x309001).bind fun bt311 => ((r4_Distances.f k bt311.1 bt311.2 (([x2] : List Int))).bind fun t318 => (if 0 ≤ x1 then (if x1 < (t318.length : Int) then (if (rd t318 x1) < 0 then (some (([] : List Int), false)) else ((r4_Lists.f k x309000 x309001).bind fun t322 => (r4_Path.l0 k x2 t318 t322 (([x1] : List Int)) x1))) else (none)) else (none))))
def r4_Path.l0 : Nat → Int → List Int → List (List Int) → List Int → Int → Option (List Int × Bool)
 | 0, _, _, _, _, _ => none
 | k + 1, x2, x8, x9, x10, x11 => if x11 = x2 then (some (x10, true)) else (r4_Path.l1 k x2 x8 x9 x10 x11 (-1) 0)
def r4_Path.l1 : Nat → Int → List Int → List (List Int) → List Int → Int → Int → Int → Option (List Int × Bool)
 | 0, _, _, _, _, _, _, _ => none
 | k + 1, x2, x8, x9, x10, x11, x12, x13 => if 0 ≤ x11 then (if x11 < (x9.length : Int) then (if x13 < ((rd_L5 x9 x11).length : Int) then (r4_Path.j3 k x2 x8 x9 x10 x11 x12 x13 (decide (x12 < 0))) else (r4_Path.j3 k x2 x8 x9 x10 x11 x12 x13 false)) else (none)) else (none)
def r4_Path.j3 : Nat → Int → List Int → List (List Int) → List Int → Int → Int → Int → Bool → Option (List Int × Bool)
 | 0, _, _, _, _, _, _, _, _ => none
 | k + 1, x2, x8, x9, x10, x11, x12, x13, x52 => if x52 = true then (if 0 ≤ x11 then (if x11 < (x9.length : Int) then (if 0 ≤ x13 then (if x13 < ((rd_L5 x9 x11).length : Int) then (if 0 ≤ (rd (rd_L5 x9 x11) x13) then (if (rd (rd_L5 x9 x11) x13) < (x8.length : Int) then (if x11 < (x8.length : Int) then (if (rd x8 (rd (rd_L5 x9 x11) x13)) = (wrap64 ((rd x8 x11) - 1)) then (if (rd x8 (rd (rd_L5 x9 x11) x13)) ≥ 0 then (r4_Path.l1 k x2 x8 x9 x10 x11 (rd (rd_L5 x9 x11) x13) (wrap64 (x13 + 1))) else (r4_Path.l1 k x2 x8 x9 x10 x11 x12 (wrap64 (x13 + 1)))) else (r4_Path.l1 k x2 x8 x9 x10 x11 x12 (wrap64 (x13 + 1)))) else (none)) else (none)) else (none)) else (none)) else (none)) else (none)) else (none)) else (if x10.length < 17592186044416 then (r4_Path.l0 k x2 x8 x9 (x10 ++ [x12]) x12) else (none))
end
def r4_Path.f (k : Nat) (a0_0 : Int) (l0_1 : List (S53)) (a1 : Int) (a2 : Int) : Option (List Int × Bool) := (r4_Node.f k a0_0 l0_1 a1).bind fun t309 => (if t309 = true then ((r4_Node.f k a0_0 l0_1 a2).bind fun t310 => (r4_Path.j0 k a1 a2 (!t310) a0_0 l0_1)) else (r4_Path.j0 k a1 a2 true a0_0 l0_1))
end Go.Proofs.YtfgbkklhjocmjaaDoor.Xq
namespace Go.Proofs.YtfgbkklhjocmjaaDoor.Xq
open Go.RowKit Go.Shelf Go.Proofs.YtfgbkklhjocmjaaDoorW.PrintWords Go.Proofs.YtfgbkklhjocmjaaDoorW.PrintLast Go.Proofs.YtfgbkklhjocmjaaDoor.Gv
def cnt (b : List Bool) : Nat := b.countP (fun x => !x)
def Keep1 (s s' : List Bool × List Int) : Prop := s'.1.length = s.1.length ∧ cnt s'.1 ≤ cnt s.1 ∧ s'.2.length + cnt s'.1 ≤ s.2.length + cnt s.1
theorem Keep1.refl (s : List Bool × List Int) : Keep1 s s := ⟨rfl, Nat.le_refl _, Nat.le_refl _⟩
theorem Keep1.trans {s t u : List Bool × List Int} (h : Keep1 s t) (k : Keep1 t u) : Keep1 s u := ⟨k.1.trans h.1, Nat.le_trans k.2.1 h.2.1, Nat.le_trans k.2.2 h.2.2⟩
structure VS (w0 : World) (n : Int) (A : Option Addr) (c : Nat) (l : List S53) (Bg Bs Bf Bo gs base : Nat) (Pr : Nat → Prop) (seen : List Bool) (out : List Int) (W : World) : Prop where
  hg : W.heap[Bg]? = some (.cells #[.int .i64 n, .slice A l.length c] 24)
  hs : W.heap[Bs]? = some (.cells #[.slice (some ⟨gs, 0, none⟩) seen.length seen.length] 64)
  hc : W.heap[gs]? = some (.cells ((seen.map Value.bool).toArray) 4 (0, 0))
  hf : W.heap[Bf]? = some (.cells #[.func (.func 79) #[] #[.pointer (some ⟨Bs, 0, none⟩), .pointer (some ⟨Bg, 0, none⟩), .pointer (some ⟨Bf, 0, none⟩), .pointer (some ⟨Bo, 0, none⟩)]] 88)
  hw : ∃ vw, W.heap[Bo]? = some (.cells #[vw] 31) ∧ Kd.R (Kd.int .i64) 3 W base (fun k => ¬ Pr k) vw out
  pr : ∀ k, Pr k → k < W.heap.size ∧ k ≠ gs ∧ k ≠ Bo
  bl : Below base w0 W
section
variable {w0 : World} {n : Int} {A : Option Addr} {c : Nat} {l : List S53} {Bg Bs Bf Bo gs base : Nat} {Pr Pr' : Nat → Prop} {seen : List Bool} {out : List Int} {W W' : World}
theorem VS.own (h : VS w0 n A c l Bg Bs Bf Bo gs base Pr seen out W) {row : Option Nat} (hb : base ≤ w0.heap.size) (hg : W.grownBy W' row) (hr : ∀ r, row = some r → base ≤ r ∧ ∃ o : Obj, W.heap[r]? = some o ∧ o.isCells = false) : VS w0 n A c l Bg Bs Bf Bo gs base Pr seen out W' := by
  obtain ⟨vw, h1, h2⟩ := h.hw
  have hr2 := fun r e => (hr r e).2
  refine ⟨(hg.block _ (blk_lt h.hg) (cells_ne hr2 h.hg)).trans h.hg, (hg.block _ (blk_lt h.hs) (cells_ne hr2 h.hs)).trans h.hs, (hg.block _ (blk_lt h.hc) (cells_ne hr2 h.hc)).trans h.hc, (hg.block _ (blk_lt h.hf) (cells_ne hr2 h.hf)).trans h.hf, ⟨vw, (hg.block _ (blk_lt h1) (cells_ne hr2 h1)).trans h1, Kd.R_grown2 h2 rfl hg (fun k e => ?_)⟩, fun k hk => ?_, h.bl.grown hg (Nat.le_trans hb h.bl.size) (fun r e => (hr r e).1)⟩
  · obtain ⟨_, o, ho, hc⟩ := hr k e
    exact own_ne h2 ho hc
  · obtain ⟨p1, p2, p3⟩ := h.pr k hk
    exact ⟨Nat.lt_of_lt_of_le p1 hg.size, p2, p3⟩
theorem VS.below (h : VS w0 n A c l Bg Bs Bf Bo gs base Pr seen out W) (hbs : base ≤ w0.heap.size) (hb : Below W.heap.size W W') (hp : ∀ k, Pr' k → Pr k ∨ (W.heap.size ≤ k ∧ k < W'.heap.size)) : VS w0 n A c l Bg Bs Bf Bo gs base Pr' seen out W' := by
  obtain ⟨vw, h1, h2⟩ := h.hw
  refine ⟨blk_below h.hg hb, blk_below h.hs hb, blk_below h.hc hb, blk_below h.hf hb, ⟨vw, blk_below h1 hb, Kd.R_below (Kd.R_reok rfl h2 (fun k hk hp' => ?_)) hb⟩, fun k hk => ?_, h.bl.trans (hb.mono (Nat.le_trans hbs h.bl.size))⟩
  · rcases hp k hp' with h3 | h3
    · exact h2.1 k hk h3
    · have := Kd.R_lt h2 k hk; omega
  · rcases hp k hk with h3 | h3
    · obtain ⟨p1, p2, p3⟩ := h.pr k h3
      exact ⟨Nat.lt_of_lt_of_le p1 hb.size, p2, p3⟩
    · have := blk_lt h.hc
      have := blk_lt h1
      exact ⟨h3.2, by omega, by omega⟩
end
end Go.Proofs.YtfgbkklhjocmjaaDoor.Xq
namespace Go.Proofs.YtfgbkklhjocmjaaDoor.Xq
open Go.RowKit Go.Proofs.YtfgbkklhjocmjaaDoorW.PrintWords
variable {α β : Type}
theorem evPos {c : Prop} [Decidable c] {f g : Nat → Option α} {r : α} (hc : c) (h : Ev f r) : Ev (fun n => if c then f n else g n) r := by
  obtain ⟨K, h⟩ := h
  refine ⟨K, fun k hk => ?_⟩
  show (if c then f k else g k) = _
  rw [if_pos hc]
  exact h k hk
theorem evNeg {c : Prop} [Decidable c] {f g : Nat → Option α} {r : α} (hc : ¬ c) (h : Ev g r) : Ev (fun n => if c then f n else g n) r := by
  obtain ⟨K, h⟩ := h
  refine ⟨K, fun k hk => ?_⟩
  show (if c then f k else g k) = _
  rw [if_neg hc]
  exact h k hk
theorem evK {x : Option α} {r : α} (h : x = some r) : Ev (fun _ => x) r := ⟨0, fun _ _ => h⟩
theorem evSome {x r : α} (h : x = r) : Ev (fun _ => some x) r := evK (congrArg some h)
theorem evBind {g : Nat → Option α} {f : Nat → α → Option β} {a : α} {r : β} (h : Ev g a) (k : Ev (fun n => f n a) r) : Ev (fun n => (g n).bind (f n)) r := by
  obtain ⟨K, h⟩ := h
  obtain ⟨J, k⟩ := k
  refine ⟨max K J, fun n hn => ?_⟩
  show (g n).bind (f n) = _
  rw [h n (Nat.le_trans (Nat.le_max_left _ _) hn), Option.bind_some]
  exact k n (Nat.le_trans (Nat.le_max_right _ _) hn)
theorem evBindK {x : Option α} {f : Nat → α → Option β} {a : α} {r : β} (h : x = some a) (k : Ev (fun n => f n a) r) : Ev (fun n => x.bind (f n)) r := evBind (evK h) k
theorem evStep {g f : Nat → Option α} {r : α} (h : ∀ k, g (k + 1) = f k) (k : Ev f r) : Ev g r := by
  obtain ⟨K, k⟩ := k
  refine ⟨K + 1, fun n hn => ?_⟩
  obtain ⟨m, rfl⟩ : ∃ m, n = m + 1 := ⟨n - 1, by omega⟩
  rw [h m]
  exact k m (by omega)
theorem evEq {g : Nat → Option α} {r s : α} (h : Ev g r) (e : r = s) : Ev g s := e ▸ h
theorem evCase {c : Prop} [Decidable c] {f g : Nat → Option α} {r s : α} (h : c → Ev f r) (k : ¬ c → Ev g s) : Ev (fun n => if c then f n else g n) (if c then r else s) := by
  by_cases hc : c
  · rw [if_pos hc]; exact evPos hc (h hc)
  · rw [if_neg hc]; exact evNeg hc (k hc)
end Go.Proofs.YtfgbkklhjocmjaaDoor.Xq
namespace Go.Proofs.YtfgbkklhjocmjaaDoor.Xq
open Go.RowKit Go.Lib Go.Sort Go.Proofs.YtfgbkklhjocmjaaDoorW.PrintWords Go.Proofs.YtfgbkklhjocmjaaDoorW.PrintLast Go.Proofs.YtfgbkklhjocmjaaDoor.Gv
theorem wrap_s {i : Int} (h0 : 0 ≤ i) (h1 : i ≤ 4611686018427387904) : wrap64 (i + 1) = i + 1 := by unfold wrap64; omega
theorem S53_ext {x y : S53} (h0 : x.f0 = y.f0) (h1 : x.f1 = y.f1) : x = y := by cases x; cases y; simp_all
instance decS53 : DecidableEq S53 := fun x y => decidable_of_iff (x.f0 = y.f0 ∧ x.f1 = y.f1) ⟨fun h => S53_ext h.1 h.2, fun h => by subst h; exact ⟨rfl, rfl⟩⟩
theorem ltE_LtP {x y : S53} : ltE x y = true ↔ LtP (toP x) (toP y) := by rw [ltE_iff]; rfl
theorem less_eq (x y : S53) : r4_less.f x.f0 x.f1 y.f0 y.f1 = some (ltE x y) := by
  unfold r4_less.f ltE
  by_cases h : x.f0 < y.f0
  · simp [h]
  · by_cases h2 : x.f0 = y.f0
    · simp [h, h2]
    · simp [h, h2]
def Asc (l : List S53) : Prop := l.Pairwise fun a b => ltE a b = true
theorem asc_toP {l : List S53} : Asc l ↔ (l.map toP).Pairwise LtP := by
  unfold Asc
  rw [List.pairwise_map]
  exact ⟨fun h => h.imp fun h => ltE_LtP.1 h, fun h => h.imp fun h => ltE_LtP.2 h⟩
theorem ltE_irrefl (x : S53) : ltE x x = false := by simp [ltE]
theorem ltE_tri {x y : S53} (h1 : ltE x y = false) (h2 : ltE y x = false) : x = y := by
  have a : ¬ _ := fun h => by rw [ltE_iff.2 h] at h1; cases h1
  have b : ¬ _ := fun h => by rw [ltE_iff.2 h] at h2; cases h2
  exact S53_ext (by omega) (by omega)
theorem dedupE_eq {l m : List S53} (hm : Asc m) (h : ∀ x, x ∈ m ↔ x ∈ l) : dedupE l = m := by
  unfold dedupE
  rw [sortDedup_eq (asc_toP.1 hm) (fun x => ?_)]
  · rw [List.map_map]; exact List.map_id' _
  · constructor
    · intro hx
      obtain ⟨y, hy, rfl⟩ := List.mem_map.1 hx
      exact List.mem_map.2 ⟨y, (h y).1 hy, rfl⟩
    · intro hx
      obtain ⟨y, hy, rfl⟩ := List.mem_map.1 hx
      exact List.mem_map.2 ⟨y, (h y).2 hy, rfl⟩
theorem dedupE_asc (l : List S53) : Asc (dedupE l) := by
  rw [asc_toP]
  unfold dedupE
  rw [List.map_map, show (toP ∘ ofP) = id from rfl, List.map_id]
  exact sortDedup_sorted _
theorem mem_dedupE (l : List S53) (x : S53) : x ∈ dedupE l ↔ x ∈ l := by
  unfold dedupE
  rw [List.mem_map]
  constructor
  · rintro ⟨p, hp, rfl⟩
    obtain ⟨y, hy, rfl⟩ := List.mem_map.1 ((mem_sortDedup _ _).1 hp)
    exact hy
  · intro h
    exact ⟨toP x, (mem_sortDedup _ _).2 (List.mem_map.2 ⟨x, h, rfl⟩), rfl⟩
theorem dedupE_len (l : List S53) : (dedupE l).length ≤ l.length := by
  unfold dedupE sortDedup compactUpTo
  rw [List.length_map, List.length_map]
  refine Nat.le_trans (List.length_filter_le _ _) ?_
  simp [srtP_size]
theorem take_drop_head {l : List S53} {i : Nat} (h : i < l.length) : l.drop i = l[i] :: l.drop (i + 1) := List.drop_eq_getElem_cons h
theorem asc_drop {l : List S53} (h : Asc l) {i : Nat} (hi : i < l.length) : (∀ y ∈ l.drop (i + 1), ltE l[i] y = true) := by
  have := List.Pairwise.drop (i := i) h
  rw [take_drop_head hi] at this
  exact (List.pairwise_cons.1 this).1
theorem merge_l0 (a b : List S53) (ha : Asc a) (hb : Asc b) (hla : a.length ≤ 1000000) (hlb : b.length ≤ 1000000) : ∀ (d i j : Nat) (k : Nat) (out : List S53), a.length - i + (b.length - j) = d → i ≤ a.length → j ≤ b.length → out.length + d ≤ 4000000 → 3 * d + 3 ≤ k →
    ∃ m, r4_sorted.l0 k a b out (i : Int) (j : Int) = some (out ++ m) ∧ Asc m ∧ m.length ≤ d ∧ ∀ x, x ∈ m ↔ x ∈ a.drop i ∨ x ∈ b.drop j := by
  intro d
  induction d with
  | zero =>
    intro i j k out hd hi hj ho hk
    obtain ⟨k, rfl⟩ : ∃ k', k = k' + 2 := ⟨k - 2, by omega⟩
    have h1 : ¬ ((i : Int) < (a.length : Int)) := by omega
    have h2 : ¬ ((j : Int) < (b.length : Int)) := by omega
    refine ⟨[], ?_, List.Pairwise.nil, Nat.le_refl _, fun x => ?_⟩
    · rw [r4_sorted.l0, if_neg h1, decide_eq_false h2, r4_sorted.j1, if_neg (by simp)]
      simp
    · rw [List.drop_eq_nil_of_le (by omega), List.drop_eq_nil_of_le (by omega)]
      simp
  | succ d ih =>
    intro i j k out hd hi hj ho hk
    obtain ⟨k, rfl⟩ : ∃ k', k = k' + 3 := ⟨k - 3, by omega⟩
    have e0 : r4_sorted.l0 (k + 3) a b out (i : Int) (j : Int) = r4_sorted.j1 (k + 2) a b out (i : Int) (j : Int) true := by
      rw [r4_sorted.l0]
      by_cases h1 : (i : Int) < (a.length : Int)
      · rw [if_pos h1]
      · rw [if_neg h1, decide_eq_true (by omega)]
    rw [e0, r4_sorted.j1, if_pos rfl]
    have takeA : ∀ (hi' : i < a.length), (∀ y ∈ b.drop j, ltE a[i] y = true) → ∃ m, r4_sorted.j2 (k + 1) a b out (i : Int) (j : Int) true = some (out ++ m) ∧ Asc m ∧ m.length ≤ d + 1 ∧ ∀ x, x ∈ m ↔ x ∈ a.drop i ∨ x ∈ b.drop j := by
      intro hi' hlt
      obtain ⟨m, h1, h2, hl, h3⟩ := ih (i + 1) j k (out ++ [a[i]]) (by omega) (by omega) hj (by simp; omega) (by omega)
      refine ⟨a[i] :: m, ?_, List.pairwise_cons.2 ⟨fun y hy => ?_, h2⟩, by simp; omega, fun x => ?_⟩
      · rw [r4_sorted.j2, if_pos rfl, if_pos (by omega), if_pos (by omega), if_pos (by omega), rd_at' hi', wrap_s (by omega) (by omega)]
        have : (⟨a[i].f0, a[i].f1⟩ : S53) = a[i] := rfl
        rw [this, show (i : Int) + 1 = ((i + 1 : Nat) : Int) by omega, h1]
        simp
      · rcases (h3 y).1 hy with h | h
        · exact asc_drop ha hi' y h
        · exact hlt y h
      · rw [List.mem_cons, h3, take_drop_head hi', List.mem_cons, or_assoc]
    have takeB : ∀ (hj' : j < b.length), (∀ y ∈ a.drop i, ltE b[j] y = true) → ∃ m, r4_sorted.l0 k a b (out ++ [(⟨b[j].f0, b[j].f1⟩ : S53)]) (i : Int) (wrap64 ((j : Int) + 1)) = some (out ++ m) ∧ Asc m ∧ m.length ≤ d + 1 ∧ ∀ x, x ∈ m ↔ x ∈ a.drop i ∨ x ∈ b.drop j := by
      intro hj' hlt
      obtain ⟨m, h1, h2, hl, h3⟩ := ih i (j + 1) k (out ++ [b[j]]) (by omega) hi (by omega) (by simp; omega) (by omega)
      refine ⟨b[j] :: m, ?_, List.pairwise_cons.2 ⟨fun y hy => ?_, h2⟩, by simp; omega, fun x => ?_⟩
      · have : (⟨b[j].f0, b[j].f1⟩ : S53) = b[j] := rfl
        rw [wrap_s (by omega) (by omega), this, show (j : Int) + 1 = ((j + 1 : Nat) : Int) by omega, h1]
        simp
      · rcases (h3 y).1 hy with h | h
        · exact hlt y h
        · exact asc_drop hb hj' y h
      · rw [List.mem_cons, h3, take_drop_head hj', List.mem_cons]
        constructor
        · rintro (h | h | h)
          · exact .inr (.inl h)
          · exact .inl h
          · exact .inr (.inr h)
        · rintro (h | h | h)
          · exact .inr (.inl h)
          · exact .inl h
          · exact .inr (.inr h)
    by_cases hjb : j = b.length
    · rw [if_pos (by omega)]
      have hi' : i < a.length := by omega
      exact takeA hi' (by rw [List.drop_eq_nil_of_le (by omega)]; simp)
    · rw [if_neg (by omega)]
      have hj' : j < b.length := by omega
      by_cases hia : i < a.length
      · rw [if_pos (by omega), if_pos (by omega), if_pos (by omega), if_pos (by omega), rd_at' hia, rd_at' hj', less_eq, Option.bind_some]
        cases hlt : ltE a[i] b[j] with
        | true =>
          refine takeA hia (fun y hy => ?_)
          rw [take_drop_head hj'] at hy
          rcases List.mem_cons.1 hy with rfl | h
          · exact hlt
          · exact ltE_trans hlt (asc_drop hb hj' y h)
        | false =>
          rw [r4_sorted.j2, if_neg (by simp), if_neg (by omega), if_pos (by omega), if_pos (by omega), if_pos (by omega), if_pos (by omega), rd_at' hia, rd_at' hj', less_eq, Option.bind_some]
          cases hgt : ltE b[j] a[i] with
          | true =>
            rw [if_pos rfl, if_pos (by omega)]
            refine takeB hj' (fun y hy => ?_)
            rw [take_drop_head hia] at hy
            rcases List.mem_cons.1 hy with rfl | h
            · exact hgt
            · exact ltE_trans hgt (asc_drop ha hia y h)
          | false =>
            rw [if_neg (by simp), wrap_s (by omega) (by omega), show (i : Int) + 1 = ((i + 1 : Nat) : Int) by omega]
            obtain ⟨m, h1, h2, hl, h3⟩ := ih (i + 1) j k out (by omega) (by omega) hj (by omega) (by omega)
            refine ⟨m, h1, h2, by omega, fun x => ?_⟩
            have e := ltE_tri hlt hgt
            rw [h3, take_drop_head hia, List.mem_cons]
            constructor
            · rintro (h | h)
              · exact .inl (.inr h)
              · exact .inr h
            · rintro ((h | h) | h)
              · rw [h, e]; exact .inr (by rw [take_drop_head hj']; exact List.mem_cons_self)
              · exact .inl h
              · exact .inr h
      · rw [if_neg (by omega), r4_sorted.j2, if_neg (by simp), if_pos (by omega), if_pos (by omega), if_pos (by omega), if_pos (by omega), rd_at' hj']
        exact takeB hj' (by rw [List.drop_eq_nil_of_le (by omega)]; simp)
theorem sorted_eq : ∀ (N : Nat) (l : List S53) (k : Nat), l.length ≤ N → N ≤ 1000000 → 4 * N + 4 ≤ k → r4_sorted.f k l = some (dedupE l) := by
  intro N
  induction N with
  | zero =>
    intro l k hl hN hk
    obtain rfl : l = [] := List.eq_nil_of_length_eq_zero (by omega)
    obtain ⟨k, rfl⟩ : ∃ k', k = k' + 1 := ⟨k - 1, by omega⟩
    rw [r4_sorted.f, if_pos (by simp), Option.bind_some, if_pos (by simp), dedupE_eq (m := []) List.Pairwise.nil (fun x => Iff.rfl)]
    rfl
  | succ N ih =>
    intro l k hl hN hk
    obtain ⟨k, rfl⟩ : ∃ k', k = k' + 1 := ⟨k - 1, by omega⟩
    rw [r4_sorted.f]
    by_cases h2 : (l.length : Int) < 2
    · rw [if_pos h2, Option.bind_some, if_pos (by simp; omega)]
      match l, h2 with
      | [], _ => rw [dedupE_eq (m := []) List.Pairwise.nil (fun x => Iff.rfl)]; rfl
      | [x], _ => rw [dedupE_eq (m := [x]) (List.pairwise_singleton _ _) (fun x => Iff.rfl)]; rfl
      | _ :: _ :: _, h => simp at h; omega
    · rw [if_neg h2]
      have e : wrap64 ((l.length : Int) / 2) = ((l.length / 2 : Nat) : Int) := by unfold wrap64; omega
      rw [e, if_pos (by omega), if_pos (by omega), Int.toNat_natCast]
      have h3 := ih (l.take (l.length / 2)) k (by simp; omega) (by omega) (by omega)
      have h4 := ih (l.drop (l.length / 2)) k (by simp; omega) (by omega) (by omega)
      rw [h3, Option.bind_some, h4, Option.bind_some]
      have la := dedupE_len (l.take (l.length / 2))
      have lb := dedupE_len (l.drop (l.length / 2))
      rw [List.length_take] at la
      rw [List.length_drop] at lb
      obtain ⟨m, h5, h6, _, h7⟩ := merge_l0 _ _ (dedupE_asc (l.take (l.length / 2))) (dedupE_asc (l.drop (l.length / 2))) (by omega) (by omega) _ 0 0 k [] rfl (Nat.zero_le _) (Nat.zero_le _) (by simp; omega) (by simp; omega)
      rw [show ((0 : Nat) : Int) = 0 from rfl] at h5
      rw [h5, List.nil_append, dedupE_eq h6]
      intro x
      rw [h7, List.drop_zero, List.drop_zero, mem_dedupE, mem_dedupE, ← List.mem_append, List.take_append_drop]
theorem within_alt (n : Int) (x : S53) : withinB n x = false ↔ x.f0 < 0 ∨ x.f0 ≥ n ∨ x.f1 < 0 ∨ x.f1 ≥ n := by
  have := @within_iff n x
  cases h : withinB n x with
  | true => have := this.1 h; simp; omega
  | false =>
    rw [h] at this
    simp at this
    simp
    omega
theorem exE : dedupE [⟨1, 2⟩, ⟨0, 1⟩, ⟨1, 2⟩] = [⟨0, 1⟩, ⟨1, 2⟩] := dedupE_eq (by unfold Asc; decide) (fun x => by simp only [List.mem_cons, List.not_mem_nil, or_false]; constructor; (rintro (h | h) <;> simp [h]); (rintro (h | h | h) <;> simp [h]))
theorem ex_make : graph_Make.f 3 [⟨1, 2⟩, ⟨0, 1⟩, ⟨1, 2⟩] = some (3, [⟨0, 1⟩, ⟨1, 2⟩], 0) := by
  unfold graph_Make.f
  rw [if_neg (by decide), if_neg (by decide), if_neg (by decide), if_pos (by decide), exE, if_neg (by decide)]
theorem ex_chk : chk 3 [⟨0, 1⟩, ⟨1, 2⟩] = 0 := by decide
theorem nodup_map_ {α β : Type} {f : α → β} (hf : ∀ a b, f a = f b → a = b) {l : List α} (h : l.Nodup) : (l.map f).Nodup := by
  rw [List.nodup_iff_pairwise_ne] at h ⊢
  rw [List.pairwise_map]
  exact h.imp (fun hne e => hne (hf _ _ e))
theorem srtP_perm (d : Array (Int × Int)) : (srtP d).toList.Perm d.toList := by
  obtain ⟨hp, hs⟩ := pdq_sorts (ltOf cmpP) swoP d 0 d.size (Lib.bitLen d.size) true true (Nat.zero_le _) (Nat.le_refl _) (Or.inl rfl)
  change PermIn 0 d.size d (srtP d) at hp
  have z := hp.2.2
  rw [Array.extract_eq_self_of_le (Nat.le_refl _), Array.extract_eq_self_of_le (by rw [hp.1]; exact Nat.le_refl _)] at z
  exact z
theorem sortE_perm (l : List S53) : (sortE l).Perm l := by
  unfold sortE
  have := (srtP_perm (l.map toP).toArray).map ofP
  simpa [List.map_map, show (ofP ∘ toP) = id from rfl] using this
theorem sortE_asc {l : List S53} (h : l.Nodup) : Asc (sortE l) := by
  have hn : (sortE l).Nodup := (sortE_perm l).nodup_iff.2 h
  obtain ⟨hs, _⟩ := srtP_spec (l.map toP).toArray
  rw [asc_toP]
  have e : (sortE l).map toP = (srtP (l.map toP).toArray).toList := by
    unfold sortE
    rw [List.map_map, show (toP ∘ ofP) = id from rfl, List.map_id]
  have hn2 : (srtP (l.map toP).toArray).toList.Nodup := by
    rw [← e]
    exact nodup_map_ (fun a b hab => by cases a; cases b; simpa [toP] using hab) hn
  rw [e]
  have hz := srtP_size (l.map toP).toArray
  generalize srtP (l.map toP).toArray = s at hs hn2 hz
  rw [List.pairwise_iff_getElem]
  intro i j hi hj hij
  have hi' : i < s.size := by simpa using hi
  have hj' : j < s.size := by simpa using hj
  have h1 := hs i j hij (by rw [← hz]; exact hj')
  rw [getElem!_pos s i hi', getElem!_pos s j hj'] at h1
  refine LtP.of_ne h1 (fun e => ?_)
  have := (List.nodup_iff_pairwise_ne.1 hn2)
  rw [List.pairwise_iff_getElem] at this
  exact this i j hi hj hij e
theorem asc_ext {l m : List S53} (hl : Asc l) (hm : Asc m) (h : ∀ x, x ∈ l ↔ x ∈ m) : l = m := by
  rw [← dedupE_eq hl (fun x => Iff.rfl), dedupE_eq hm (fun x => (h x).symm)]
theorem sortE_eq {l m : List S53} (h : l.Nodup) (hm : Asc m) (he : ∀ x, x ∈ m ↔ x ∈ l) : sortE l = m := asc_ext (sortE_asc h) hm (fun x => ((sortE_perm l).mem_iff).trans (he x).symm)
theorem asc_nodup {l : List S53} (h : Asc l) : l.Nodup := List.nodup_iff_pairwise_ne.2 (List.Pairwise.imp (fun {a b} h e => by subst e; rw [ltE_irrefl] at h; cases h) h)
theorem swap_nodup {l : List S53} (h : l.Nodup) : (l.map swapE).Nodup := nodup_map_ (fun a b hab => by cases a; cases b; simp [swapE] at hab; simp [hab]) h
theorem ex_sort : sortE ([⟨0, 1⟩, ⟨1, 2⟩].map swapE) = [⟨1, 0⟩, ⟨2, 1⟩] := sortE_eq (by decide) (by unfold Asc; decide) (fun x => by simp [swapE])
theorem ex_path : graph_Path.f 3 [⟨0, 1⟩, ⟨1, 2⟩] 0 2 = some ([0, 1, 2], true) := by
  unfold graph_Path.f
  rw [if_pos ⟨⟨by decide, by decide, ex_chk⟩, by decide, by decide⟩, ex_sort]
  kernel_rfl
theorem ex_reach : graph_Reach.f 3 [⟨0, 1⟩, ⟨1, 2⟩] [1] = some [1, 2] := by
  unfold graph_Reach.f
  rw [if_pos ex_chk, if_pos (by decide)]
  kernel_rfl
theorem awake_eq : w4_awake.f = some true := by
  unfold w4_awake.f
  rw [ex_make, Option.bind_some, ex_path, Option.bind_some]
  simp [ex_reach]
end Go.Proofs.YtfgbkklhjocmjaaDoor.Xq
namespace Go.Proofs.YtfgbkklhjocmjaaDoor.Xq
open Go.RowKit Go.Shelf Go.Proofs.YtfgbkklhjocmjaaDoorW.PrintWords Go.Proofs.YtfgbkklhjocmjaaDoorW.PrintLast Go.Proofs.YtfgbkklhjocmjaaDoor.Gv
theorem mem_succL {l : List S53} {v w : Int} : w ∈ succL l v ↔ (⟨v, w⟩ : S53) ∈ l := by
  unfold succL
  rw [List.mem_map]
  constructor
  · rintro ⟨x, hx, rfl⟩
    rw [List.mem_filter] at hx
    obtain ⟨h1, h2⟩ := hx
    have h2 : x.f0 = v := by simpa using h2
    subst h2
    exact h1
  · intro h
    exact ⟨_, List.mem_filter.2 ⟨h, by simp⟩, rfl⟩
inductive Way (l : List S53) : Nat → Int → Int → Prop
  | nil (v : Int) : Way l 0 v v
  | snoc {k : Nat} {v w x : Int} : Way l k v w → x ∈ succL l w → Way l (k + 1) v x
def Rch (l : List S53) (v w : Int) : Prop := ∃ k, Way l k v w
theorem Rch.refl (l : List S53) (v : Int) : Rch l v v := ⟨0, .nil v⟩
theorem Rch.step {l : List S53} {v w x : Int} (h : Rch l v w) (hx : x ∈ succL l w) : Rch l v x := h.elim fun k hk => ⟨k + 1, hk.snoc hx⟩
theorem Way.trans {l : List S53} {j : Nat} {u v : Int} (h : Way l j u v) : ∀ {k : Nat} {w : Int}, Way l k v w → Way l (j + k) u w
  | _, _, .nil _ => h
  | _, _, .snoc h1 hx => .snoc (h.trans h1) hx
theorem Rch.trans {l : List S53} {u v w : Int} (h : Rch l u v) (k : Rch l v w) : Rch l u w := by
  obtain ⟨a, ha⟩ := h
  obtain ⟨b, hb⟩ := k
  exact ⟨a + b, ha.trans hb⟩
theorem Way.cons {l : List S53} {u v : Int} (hx : v ∈ succL l u) {k : Nat} {w : Int} (h : Way l k v w) : Way l (k + 1) u w := by
  have := (Way.snoc (Way.nil u) hx).trans h
  rwa [show 0 + 1 + k = k + 1 by omega] at this
def negs (far : List Int) : Nat := far.countP fun x => decide (x < 0)
theorem negs_set : ∀ {b : List Int} {i : Nat} {x : Int}, b.getD i 0 < 0 → 0 ≤ x → negs (b.set i x) + 1 = negs b
  | [], i, x, h, _ => by simp at h
  | y :: r, 0, x, h, hx => by
    have h : y < 0 := by simpa using h
    unfold negs
    rw [List.set_cons_zero, List.countP_cons_of_neg (by simpa using hx), List.countP_cons_of_pos (by simpa using h)]
  | y :: r, i + 1, x, h, hx => by
    have ih := negs_set (b := r) (i := i) (x := x) (by simpa using h) hx
    unfold negs at ih ⊢
    rw [List.set_cons_succ, List.countP_cons, List.countP_cons]
    omega
theorem negs_le (far : List Int) : negs far ≤ far.length := List.countP_le_length
theorem rd_set {xs : List Int} {i j : Int} {x : Int} (hi : 0 ≤ i) (hj : 0 ≤ j) (hl : i < xs.length) : rd (xs.set i.toNat x) j = if i = j then x else rd xs j := by
  unfold rd
  by_cases h : i = j
  · subst h
    rw [if_pos rfl]
    have : i.toNat < xs.length := by omega
    simp [List.getD, this]
  · have : i.toNat ≠ j.toNat := by omega
    rw [if_neg h]
    simp [List.getD, List.getElem?_set_ne this]
def Inn (n : Nat) (l : List S53) : Prop := ∀ v w : Int, w ∈ succL l v → 0 ≤ v ∧ v < n ∧ 0 ≤ w ∧ w < n
structure BF (n : Nat) (l : List S53) (src : Int → Prop) (N : Int) (far work : List Int) : Prop where
  len : far.length = n
  wk : ∀ v ∈ work, 0 ≤ v ∧ v < n ∧ 0 ≤ rd far v
  bd : ∀ v : Int, 0 ≤ v → v < n → rd far v + negs far ≤ N
  lo : ∀ v : Int, 0 ≤ v → v < n → -1 ≤ rd far v
  cl : ∀ v : Int, 0 ≤ v → v < n → 0 ≤ rd far v → v ∉ work → ∀ w ∈ succL l v, 0 ≤ rd far w ∧ rd far w ≤ rd far v + 1
  srt : work.Pairwise fun a b => rd far a ≤ rd far b
  hd : ∀ h ∈ work.head?, ∀ v : Int, 0 ≤ v → v < n → rd far v ≤ rd far h + 1
  st : ∀ v : Int, 0 ≤ v → v < n → 0 ≤ rd far v → v ∉ work → ∀ h ∈ work, rd far v ≤ rd far h
  so : ∀ v : Int, 0 ≤ v → v < n → 0 ≤ rd far v → (rd far v = 0 ∧ src v) ∨ ∃ u : Int, 0 ≤ u ∧ u < n ∧ v ∈ succL l u ∧ 0 ≤ rd far u ∧ rd far v = rd far u + 1
  ss : ∀ v : Int, src v → 0 ≤ v → v < n → rd far v = 0
  nd : work.Nodup
section
variable {n : Nat} {l : List S53} {src : Int → Prop} {N : Int} {far : List Int}
theorem BF.push {v w : Int} {r : List Int} (h : BF n l src N far (v :: r)) (hN : N ≤ 1000000) (hE : Inn n l) (hw : w ∈ succL l v) (hf : rd far w < 0) :
    BF n l src N (far.set w.toNat (wrap64 (rd far v + 1))) (v :: (r ++ [w])) ∧ negs (far.set w.toNat (wrap64 (rd far v + 1))) + 1 = negs far := by
  obtain ⟨_, _, w0, w1⟩ := hE v w hw
  obtain ⟨v0, v1, v2⟩ := h.wk v List.mem_cons_self
  have hb := h.bd v v0 v1
  have e : wrap64 (rd far v + 1) = rd far v + 1 := by unfold wrap64; omega
  rw [e]
  have hlw : w < far.length := by rw [h.len]; exact w1
  have hneg : negs (far.set w.toNat (rd far v + 1)) + 1 = negs far := negs_set (by unfold rd at hf; exact hf) (by omega)
  have R : ∀ u : Int, 0 ≤ u → rd (far.set w.toNat (rd far v + 1)) u = if w = u then rd far v + 1 else rd far u := fun u hu => rd_set w0 hu hlw
  have same : ∀ u : Int, 0 ≤ u → 0 ≤ rd far u → rd (far.set w.toNat (rd far v + 1)) u = rd far u := fun u hu hs => by
    rw [R u hu, if_neg (fun e => by subst e; omega)]
  have hmem : ∀ u ∈ v :: r, rd (far.set w.toNat (rd far v + 1)) u = rd far u := fun u hu => same u (h.wk u hu).1 (h.wk u hu).2.2
  have hcons : v :: (r ++ [w]) = (v :: r) ++ [w] := rfl
  have hwn : w ∉ v :: r := fun hm => by have := (h.wk w hm).2.2; omega
  refine ⟨⟨by rw [List.length_set]; exact h.len, ?_, ?_, ?_, ?_, ?_, ?_, ?_, ?_, ?_, ?_⟩, hneg⟩
  · intro u hu
    rw [hcons, List.mem_append, List.mem_singleton] at hu
    rcases hu with hu | rfl
    · rw [hmem u hu]; exact h.wk u hu
    · rw [R u w0, if_pos rfl]; exact ⟨w0, w1, by omega⟩
  · intro u u0 u1
    rw [R u u0]
    split
    · omega
    · have := h.bd u u0 u1; omega
  · intro u u0 u1
    rw [R u u0]
    split
    · omega
    · exact h.lo u u0 u1
  · intro u u0 u1 u2 hu x hx
    rw [hcons, List.mem_append, List.mem_singleton, not_or] at hu
    rw [R u u0, if_neg (Ne.symm hu.2)] at u2 ⊢
    obtain ⟨h1, h2⟩ := h.cl u u0 u1 u2 hu.1 x hx
    rw [same x (hE u x hx).2.2.1 h1]
    exact ⟨h1, h2⟩
  · rw [hcons, List.pairwise_append]
    refine ⟨?_, List.pairwise_singleton _ _, ?_⟩
    · refine List.Pairwise.imp_of_mem ?_ h.srt
      intro a b ha hb hab
      rw [hmem a ha, hmem b hb]
      exact hab
    · intro a ha b hb
      rw [List.mem_singleton] at hb
      subst hb
      rw [hmem a ha, R b w0, if_pos rfl]
      exact h.hd v rfl a (h.wk a ha).1 (h.wk a ha).2.1
  · intro a ha u u0 u1
    obtain rfl : v = a := by simpa using ha
    rw [hmem v List.mem_cons_self, R u u0]
    split
    · omega
    · exact h.hd v rfl u u0 u1
  · intro u u0 u1 u2 hu a ha
    rw [hcons, List.mem_append, List.mem_singleton, not_or] at hu
    rw [R u u0, if_neg (Ne.symm hu.2)] at u2 ⊢
    rw [hcons, List.mem_append, List.mem_singleton] at ha
    rcases ha with ha | rfl
    · rw [hmem a ha]; exact h.st u u0 u1 u2 hu.1 a ha
    · rw [R a w0, if_pos rfl]
      have := h.st u u0 u1 u2 hu.1 v List.mem_cons_self
      omega
  · intro u u0 u1 u2
    rw [R u u0] at u2 ⊢
    by_cases e : w = u
    · subst e
      rw [if_pos rfl]
      exact .inr ⟨v, v0, v1, hw, by rw [hmem v List.mem_cons_self]; exact v2, by rw [hmem v List.mem_cons_self]⟩
    · rw [if_neg e] at u2 ⊢
      rcases h.so u u0 u1 u2 with h1 | ⟨y, y0, y1, y2, y3, y4⟩
      · exact .inl h1
      · exact .inr ⟨y, y0, y1, y2, by rw [same y y0 y3]; exact y3, by rw [same y y0 y3]; exact y4⟩
  · intro u hs u0 u1
    have := h.ss u hs u0 u1
    rw [same u u0 (by omega), this]
  · rw [hcons, List.nodup_append]
    refine ⟨h.nd, by simp, ?_⟩
    intro a ha b hb e
    rw [List.mem_singleton] at hb
    subst hb
    subst e
    exact hwn ha
theorem BF.bstep {v w : Int} {r : List Int} (h : BF n l src N far (v :: r)) (hN : N ≤ 1000000) (hE : Inn n l) (hw : w ∈ succL l v) :
    BF n l src N (bstep v (far, r) w).1 (v :: (bstep v (far, r) w).2) ∧ negs (bstep v (far, r) w).1 + (bstep v (far, r) w).2.length = negs far + r.length ∧
      rd (bstep v (far, r) w).1 v = rd far v ∧ 0 ≤ rd (bstep v (far, r) w).1 w ∧ (∀ u : Int, 0 ≤ u → 0 ≤ rd far u → rd (bstep v (far, r) w).1 u = rd far u) ∧ (∀ x ∈ r, x ∈ (bstep v (far, r) w).2) := by
  obtain ⟨_, _, w0, w1⟩ := hE v w hw
  obtain ⟨v0, v1, v2⟩ := h.wk v List.mem_cons_self
  have hb := h.bd v v0 v1
  have e : wrap64 (rd far v + 1) = rd far v + 1 := by unfold wrap64; omega
  have hlw : w < far.length := by rw [h.len]; exact w1
  unfold Xq.bstep
  by_cases hf : rd far w < 0
  · rw [if_pos (show rd (far, r).1 w < 0 from hf)]
    obtain ⟨h1, h2⟩ := h.push hN hE hw hf
    refine ⟨h1, by simp; omega, ?_, ?_, ?_, by simp; intro x hx; exact .inl hx⟩
    · show rd (far.set w.toNat (wrap64 (rd far v + 1))) v = rd far v
      rw [rd_set w0 v0 hlw, if_neg (fun e => by subst e; omega)]
    · show 0 ≤ rd (far.set w.toNat (wrap64 (rd far v + 1))) w
      rw [rd_set w0 w0 hlw, if_pos rfl, e]
      omega
    · intro u u0 u1
      show rd (far.set w.toNat (wrap64 (rd far v + 1))) u = rd far u
      rw [rd_set w0 u0 hlw, if_neg (fun e => by subst e; omega)]
  · rw [if_neg (show ¬ rd (far, r).1 w < 0 from hf)]
    exact ⟨h, rfl, rfl, by show 0 ≤ rd far w; omega, fun _ _ _ => rfl, fun _ hx => hx⟩
theorem BF.bsteps {v : Int} (hN : N ≤ 1000000) (hE : Inn n l) : ∀ (xs : List Int) (far r : List Int), (∀ x ∈ xs, x ∈ succL l v) → BF n l src N far (v :: r) →
    BF n l src N (xs.foldl (Xq.bstep v) (far, r)).1 (v :: (xs.foldl (Xq.bstep v) (far, r)).2) ∧ negs (xs.foldl (Xq.bstep v) (far, r)).1 + (xs.foldl (Xq.bstep v) (far, r)).2.length = negs far + r.length ∧
      (∀ x ∈ xs, 0 ≤ rd (xs.foldl (Xq.bstep v) (far, r)).1 x) ∧ (∀ u : Int, 0 ≤ u → 0 ≤ rd far u → rd (xs.foldl (Xq.bstep v) (far, r)).1 u = rd far u) := by
  intro xs
  induction xs with
  | nil => intro far r _ h; exact ⟨h, rfl, by simp, fun _ _ _ => rfl⟩
  | cons x xs ih =>
    intro far r hx h
    rw [List.foldl_cons]
    have hxs := hx x List.mem_cons_self
    obtain ⟨h1, h2, h3, h4, h5, h6⟩ := h.bstep hN hE hxs
    obtain ⟨g1, g2, g3, g4⟩ := ih _ _ (fun y hy => hx y (List.mem_cons_of_mem _ hy)) h1
    rw [Prod.eta] at g1 g2 g3 g4
    refine ⟨g1, by omega, ?_, ?_⟩
    · intro y hy
      rcases List.mem_cons.1 hy with rfl | hy
      · rw [g4 y (hE v y hxs).2.2.1 h4]; exact h4
      · exact g3 y hy
    · intro u u0 u1
      rw [g4 u u0 (by rw [h5 u u0 u1]; exact u1), h5 u u0 u1]
theorem BF.round {v : Int} {r : List Int} (h : BF n l src N far (v :: r)) (hN : N ≤ 1000000) (hE : Inn n l) :
    BF n l src N ((succL l v).foldl (Xq.bstep v) (far, r)).1 ((succL l v).foldl (Xq.bstep v) (far, r)).2 ∧
      negs ((succL l v).foldl (Xq.bstep v) (far, r)).1 + ((succL l v).foldl (Xq.bstep v) (far, r)).2.length = negs far + r.length := by
  obtain ⟨h1, h2, h3, h4⟩ := BF.bsteps hN hE (succL l v) far r (fun _ hx => hx) h
  refine ⟨?_, h2⟩
  generalize (succL l v).foldl (Xq.bstep v) (far, r) = s at h1 h2 h3 h4 ⊢
  obtain ⟨v0, v1, v2⟩ := h1.wk v List.mem_cons_self
  have hnd := List.nodup_cons.1 h1.nd
  have hp := List.pairwise_cons.1 h1.srt
  refine ⟨h1.len, fun u hu => h1.wk u (List.mem_cons_of_mem _ hu), h1.bd, h1.lo, ?_, hp.2, ?_, ?_, h1.so, h1.ss, hnd.2⟩
  · intro u u0 u1 u2 hu w hw
    by_cases e : u = v
    · subst e
      exact ⟨h3 w hw, h1.hd u rfl w (hE u w hw).2.2.1 (hE u w hw).2.2.2⟩
    · exact h1.cl u u0 u1 u2 (by rw [List.mem_cons, not_or]; exact ⟨e, hu⟩) w hw
  · intro a ha u u0 u1
    have ham : a ∈ s.2 := by
      cases hs : s.2 with
      | nil => rw [hs] at ha; simp at ha
      | cons b t => rw [hs] at ha; simp at ha; simp [ha]
    have := h1.hd v rfl u u0 u1
    have := hp.1 a ham
    omega
  · intro u u0 u1 u2 hu a ha
    by_cases e : u = v
    · subst e; exact hp.1 a ha
    · exact h1.st u u0 u1 u2 (by rw [List.mem_cons, not_or]; exact ⟨e, hu⟩) a (List.mem_cons_of_mem _ ha)
theorem BF.run (hN : N ≤ 1000000) (hE : Inn n l) (hn : n ≤ 100000) : ∀ (k : Nat) (far work : List Int), BF n l src N far work → negs far + work.length < k → negs far + work.length ≤ n →
    ∃ ws, distF l k (far, work) = some ws ∧ BF n l src N ws [] := by
  intro k
  induction k with
  | zero => intro far work h hk; omega
  | succ k ih =>
    intro far work h hk hn2
    match work, h, hk, hn2 with
    | [], h, hk, hn2 => exact ⟨far, rfl, h⟩
    | v :: r, h, hk, hn2 =>
      obtain ⟨h1, h2⟩ := h.round hN hE
      rw [List.length_cons] at hk hn2
      obtain ⟨ws, h3, h4⟩ := ih _ _ h1 (by omega) (by omega)
      refine ⟨ws, ?_, h4⟩
      unfold distF
      simp only
      rw [if_pos (by omega), ← h3]
theorem BF.way {ws : List Int} (h : BF n l src N ws []) (hE : Inn n l) {s : Int} (hs : src s) (s0 : 0 ≤ s) (s1 : s < n) : ∀ {k : Nat} {v : Int}, Way l k s v → 0 ≤ rd ws v ∧ rd ws v ≤ k
  | _, _, .nil _ => by
    have := h.ss s hs s0 s1
    omega
  | _, _, .snoc hw hx => by
    obtain ⟨h1, h2⟩ := h.way hE hs s0 s1 hw
    obtain ⟨v0, v1, w0, w1⟩ := hE _ _ hx
    obtain ⟨h3, h4⟩ := h.cl _ v0 v1 h1 (by simp) _ hx
    omega
theorem BF.back {ws : List Int} (h : BF n l src N ws []) : ∀ (d : Nat) (v : Int), 0 ≤ v → v < n → rd ws v = d → ∃ s, src s ∧ 0 ≤ s ∧ s < n ∧ Way l d s v
  | 0, v, v0, v1, hd => by
    rcases h.so v v0 v1 (by omega) with ⟨_, h1⟩ | ⟨u, _, _, _, h2, h3⟩
    · exact ⟨v, h1, v0, v1, .nil _⟩
    · omega
  | d + 1, v, v0, v1, hd => by
    rcases h.so v v0 v1 (by omega) with ⟨h1, _⟩ | ⟨u, u0, u1, u2, h2, h3⟩
    · omega
    · obtain ⟨s, h4, h5, h6, h7⟩ := h.back d u u0 u1 (by omega)
      exact ⟨s, h4, h5, h6, h7.snoc u2⟩
theorem BF.reach {ws : List Int} (h : BF n l src N ws []) (hE : Inn n l) {v : Int} (v0 : 0 ≤ v) (v1 : v < n) : 0 ≤ rd ws v ↔ ∃ s, src s ∧ 0 ≤ s ∧ s < n ∧ Rch l s v := by
  constructor
  · intro hv
    obtain ⟨s, h1, h2, h3, h4⟩ := h.back (rd ws v).toNat v v0 v1 (by omega)
    exact ⟨s, h1, h2, h3, _, h4⟩
  · rintro ⟨s, h1, h2, h3, k, h4⟩
    exact (h.way hE h1 h2 h3 h4).1
end
def istep (n : Nat) (s : List Int × List Int) (x : Int) : List Int × List Int := if 0 ≤ x ∧ x < n ∧ rd s.1 x < 0 then (s.1.set x.toNat 0, s.2 ++ [x]) else s
structure BI (n : Nat) (src : Int → Prop) (far work : List Int) : Prop where
  len : far.length = n
  lo : ∀ v : Int, 0 ≤ v → v < n → rd far v = -1 ∨ rd far v = 0
  wk : ∀ v : Int, v ∈ work ↔ (0 ≤ v ∧ v < n ∧ rd far v = 0)
  so : ∀ v : Int, 0 ≤ v → v < n → (rd far v = 0 ↔ src v)
  nd : work.Nodup
  cnt : negs far + work.length ≤ n
theorem BI.mono {n : Nat} {src src' : Int → Prop} {far work : List Int} (h : BI n src far work) (hs : ∀ v : Int, 0 ≤ v → v < n → (src v ↔ src' v)) : BI n src' far work :=
  ⟨h.len, h.lo, h.wk, fun v v0 v1 => (h.so v v0 v1).trans (hs v v0 v1), h.nd, h.cnt⟩
theorem BI.istep {n : Nat} {src : Int → Prop} {far work : List Int} (h : BI n src far work) (x : Int) : BI n (fun v => src v ∨ v = x) (istep n (far, work) x).1 (istep n (far, work) x).2 := by
  unfold Xq.istep
  by_cases hx : 0 ≤ x ∧ x < n ∧ rd far x < 0
  · rw [if_pos (show 0 ≤ x ∧ x < n ∧ rd (far, work).1 x < 0 from hx)]
    obtain ⟨x0, x1, x2⟩ := hx
    have hl : x < far.length := by rw [h.len]; exact x1
    have R : ∀ u : Int, 0 ≤ u → rd (far.set x.toNat 0) u = if x = u then 0 else rd far u := fun u hu => rd_set x0 hu hl
    have hneg : negs (far.set x.toNat 0) + 1 = negs far := negs_set (by unfold rd at x2; exact x2) (Int.le_refl 0)
    have hxw : x ∉ work := fun hm => by have := ((h.wk x).1 hm).2.2; omega
    refine ⟨by show (far.set x.toNat 0).length = n; rw [List.length_set]; exact h.len, ?_, ?_, ?_, ?_, ?_⟩
    · intro v v0 v1
      show rd (far.set x.toNat 0) v = -1 ∨ rd (far.set x.toNat 0) v = 0
      rw [R v v0]
      split
      · exact .inr rfl
      · exact h.lo v v0 v1
    · intro v
      show v ∈ work ++ [x] ↔ (0 ≤ v ∧ v < n ∧ rd (far.set x.toNat 0) v = 0)
      rw [List.mem_append, List.mem_singleton, h.wk v]
      constructor
      · rintro (⟨a, b, c⟩ | rfl)
        · refine ⟨a, b, ?_⟩
          rw [R v a]
          split
          · rfl
          · exact c
        · exact ⟨x0, x1, by rw [R v x0, if_pos rfl]⟩
      · rintro ⟨a, b, c⟩
        rw [R v a] at c
        by_cases e : x = v
        · exact .inr e.symm
        · rw [if_neg e] at c; exact .inl ⟨a, b, c⟩
    · intro v v0 v1
      show rd (far.set x.toNat 0) v = 0 ↔ src v ∨ v = x
      rw [R v v0]
      by_cases e : x = v
      · rw [if_pos e]; simp [e]
      · rw [if_neg e, h.so v v0 v1]
        simp [Ne.symm e]
    · show (work ++ [x]).Nodup
      rw [List.nodup_append]
      refine ⟨h.nd, by simp, ?_⟩
      intro a ha b hb e
      rw [List.mem_singleton] at hb
      subst hb
      subst e
      exact hxw ha
    · show negs (far.set x.toNat 0) + (work ++ [x]).length ≤ n
      rw [List.length_append, List.length_singleton]
      have := h.cnt
      omega
  · rw [if_neg (show ¬ (0 ≤ x ∧ x < n ∧ rd (far, work).1 x < 0) from hx)]
    refine h.mono (fun v v0 v1 => ⟨.inl, ?_⟩)
    rintro (h1 | rfl)
    · exact h1
    · have h3 : ¬ rd far v < 0 := fun h3 => hx ⟨v0, v1, h3⟩
      rcases h.lo v v0 v1 with h4 | h4
      · omega
      · exact (h.so v v0 v1).1 h4
theorem BI.isteps {n : Nat} : ∀ (xs : List Int) (src : Int → Prop) (far work : List Int), BI n src far work → BI n (fun v => src v ∨ v ∈ xs) (xs.foldl (Xq.istep n) (far, work)).1 (xs.foldl (Xq.istep n) (far, work)).2 := by
  intro xs
  induction xs with
  | nil => intro src far work h; exact h.mono (fun v _ _ => by simp)
  | cons x xs ih =>
    intro src far work h
    have := ih _ _ _ (h.istep x)
    rw [Prod.eta] at this
    rw [List.foldl_cons]
    exact this.mono (fun v _ _ => by rw [List.mem_cons, or_assoc])
theorem rd_rep {n : Nat} {x v : Int} (v0 : 0 ≤ v) (v1 : v < n) : rd (List.replicate n x) v = x := by
  have : v.toNat < n := by omega
  unfold rd
  simp [List.getD, this]
theorem BI.start (n : Nat) : BI n (fun _ => False) (List.replicate n (-1)) [] := by
  refine ⟨by simp, fun v v0 v1 => .inl (rd_rep v0 v1), ?_, ?_, List.nodup_nil, ?_⟩
  · intro v
    constructor
    · intro h; cases h
    · rintro ⟨a, b, c⟩
      rw [rd_rep a b] at c
      omega
  · intro v v0 v1
    rw [rd_rep v0 v1]
    simp
  · have := negs_le (List.replicate n (-1 : Int))
    rw [List.length_replicate] at this
    simpa using this
theorem BI.bf {n : Nat} {src : Int → Prop} {far work : List Int} (h : BI n src far work) (l : List S53) : BF n l src n far work := by
  have z : ∀ v : Int, v ∈ work → rd far v = 0 := fun v hv => ((h.wk v).1 hv).2.2
  have f : ∀ v : Int, 0 ≤ v → v < (n : Int) → 0 ≤ rd far v → v ∈ work := fun v v0 v1 h1 => (h.wk v).2 ⟨v0, v1, by rcases h.lo v v0 v1 with h4 | h4 <;> omega⟩
  have hc := h.cnt
  refine ⟨h.len, ?_, ?_, ?_, ?_, ?_, ?_, ?_, ?_, ?_, h.nd⟩
  · intro v hv
    obtain ⟨a, b, c⟩ := (h.wk v).1 hv
    exact ⟨a, b, by omega⟩
  · intro v v0 v1
    rcases h.lo v v0 v1 with h4 | h4 <;> omega
  · intro v v0 v1
    rcases h.lo v v0 v1 with h4 | h4 <;> omega
  · intro v v0 v1 h1 h2
    exact absurd (f v v0 v1 h1) h2
  · refine List.Pairwise.imp_of_mem (R := fun _ _ => True) ?_ (by rw [List.pairwise_iff_getElem]; intros; trivial)
    intro a b ha hb _
    rw [z a ha, z b hb]
    exact Int.le_refl 0
  · intro a ha v v0 v1
    have ham : a ∈ work := List.mem_of_mem_head? ha
    rw [z a ham]
    rcases h.lo v v0 v1 with h4 | h4 <;> omega
  · intro v v0 v1 h1 h2
    exact absurd (f v v0 v1 h1) h2
  · intro v v0 v1 h1
    have := z v (f v v0 v1 h1)
    exact .inl ⟨this, (h.so v v0 v1).1 this⟩
  · intro v hs v0 v1
    exact (h.so v v0 v1).2 hs
theorem dist_all {n : Nat} (hn : n ≤ 100000) {l : List S53} (hE : Inn n l) (from_ : List Int) (k : Nat) (hk : n < k) :
    ∃ ws, distF l k (from_.foldl (istep n) (List.replicate n (-1), [])) = some ws ∧ BF n l (fun v => v ∈ from_) n ws [] := by
  have h := (BI.isteps from_ _ _ _ (BI.start n)).mono (src' := fun v => v ∈ from_) (fun v _ _ => by simp)
  obtain ⟨ws, h1, h2⟩ := BF.run (by omega) hE hn k _ _ (h.bf l) (by have := h.cnt; omega) h.cnt
  rw [Prod.eta] at h1
  exact ⟨ws, h1, h2⟩
theorem istep_one {n : Nat} {t : Int} (t0 : 0 ≤ t) (t1 : t < n) : [t].foldl (istep n) (List.replicate n (-1), []) = ((List.replicate n (-1)).set t.toNat 0, [t]) := by
  show istep n (List.replicate n (-1), []) t = _
  unfold istep
  rw [if_pos ⟨t0, t1, by show rd (List.replicate n (-1)) t < 0; rw [rd_rep t0 t1]; omega⟩]
  rfl
end Go.Proofs.YtfgbkklhjocmjaaDoor.Xq
namespace Go.Proofs.YtfgbkklhjocmjaaDoor.Xq
open Go.RowKit Go.Shelf Go.Proofs.YtfgbkklhjocmjaaDoorW.PrintWords Go.Proofs.YtfgbkklhjocmjaaDoorW.PrintLast Go.Proofs.YtfgbkklhjocmjaaDoor.Gv
def AscI (l : List Int) : Prop := l.Pairwise fun a b => a < b
theorem ascI_ext : ∀ {l m : List Int}, AscI l → AscI m → (∀ x, x ∈ l ↔ x ∈ m) → l = m
  | [], [], _, _, _ => rfl
  | [], y :: m, _, _, h => absurd ((h y).2 List.mem_cons_self) (by simp)
  | x :: l, [], _, _, h => absurd ((h x).1 List.mem_cons_self) (by simp)
  | x :: l, y :: m, hl, hm, h => by
    obtain ⟨h1, h2⟩ := List.pairwise_cons.1 hl
    obtain ⟨h3, h4⟩ := List.pairwise_cons.1 hm
    have e : x = y := by
      rcases List.mem_cons.1 ((h x).1 List.mem_cons_self) with e | e
      · exact e
      · rcases List.mem_cons.1 ((h y).2 List.mem_cons_self) with e' | e'
        · exact e'.symm
        · have := h1 y e'
          have := h3 x e
          omega
    subst e
    rw [ascI_ext h2 h4 (fun z => ?_)]
    constructor
    · intro hz
      rcases List.mem_cons.1 ((h z).1 (List.mem_cons_of_mem _ hz)) with e | e
      · have := h1 z hz; omega
      · exact e
    · intro hz
      rcases List.mem_cons.1 ((h z).2 (List.mem_cons_of_mem _ hz)) with e | e
      · have := h3 z hz; omega
      · exact e
def those (n : Nat) (p : Nat → Bool) : List Int := ((List.range n).filter p).map fun x : Nat => (x : Int)
theorem mem_those {n : Nat} {p : Nat → Bool} {v : Int} : v ∈ those n p ↔ 0 ≤ v ∧ v < n ∧ p v.toNat = true := by
  unfold those
  rw [List.mem_map]
  constructor
  · rintro ⟨x, hx, rfl⟩
    rw [List.mem_filter, List.mem_range] at hx
    exact ⟨by omega, by omega, by simpa using hx.2⟩
  · rintro ⟨a, b, c⟩
    exact ⟨v.toNat, List.mem_filter.2 ⟨List.mem_range.2 (by omega), c⟩, by omega⟩
theorem those_asc (n : Nat) (p : Nat → Bool) : AscI (those n p) := by
  unfold those AscI
  rw [List.pairwise_map]
  refine List.Pairwise.imp (R := fun a b : Nat => a < b) (fun {a b} h => by omega) ?_
  exact List.Pairwise.filter _ List.pairwise_lt_range
theorem listW_eq : ∀ (ws : List Nat) (i : Nat), (∀ y ∈ ws, y < 18446744073709551616) →
    listW i ws = ((List.range' (i * 64) (64 * ws.length)).filter fun x => (ws.getD (x / 64 - i) 0).testBit (x % 64)).map fun x : Nat => (x : Int)
  | [], i, _ => by simp [listW]
  | y :: r, i, h => by
    have h1 := bitsL_eq y (h y (by simp))
    have h2 := listW_eq r (i + 1) (fun z hz => h z (by simp [hz]))
    have e : List.range' (i * 64) (64 * (y :: r).length) = List.range' (i * 64) 64 ++ List.range' ((i + 1) * 64) (64 * r.length) := by
      rw [List.length_cons, show 64 * (r.length + 1) = 64 + 64 * r.length by omega, show (i + 1) * 64 = i * 64 + 1 * 64 by omega, List.range'_append]
    rw [listW, e, List.filter_append, List.map_append, h1, h2]
    congr 1
    · have e2 : List.range' (i * 64) 64 = (List.range 64).map fun b => i * 64 + b := by
        rw [List.range_eq_range', List.map_add_range']
        simp
      rw [e2, List.filter_map, List.map_map]
      congr 1
      apply List.filter_congr
      intro b hb
      have hb : b < 64 := List.mem_range.1 hb
      show _ = ((y :: r).getD ((i * 64 + b) / 64 - i) 0).testBit ((i * 64 + b) % 64)
      rw [show (i * 64 + b) / 64 - i = 0 by omega, show (i * 64 + b) % 64 = b by omega]
      rfl
    · congr 1
      apply List.filter_congr
      intro x hx
      have := (List.mem_range'_1.1 hx).1
      rw [show x / 64 - i = (x / 64 - (i + 1)) + 1 by omega]
      rfl
theorem listW_those (ws : List Nat) (h : ∀ y ∈ ws, y < 18446744073709551616) : listW 0 ws = those (64 * ws.length) (hasN ws) := by
  rw [listW_eq ws 0 h]
  unfold those
  rw [List.range_eq_range', Nat.zero_mul]
  rfl
def free (n : Nat) (ws : List Nat) : Nat := (List.range n).countP fun x => !hasN ws x
theorem free_le (n : Nat) (ws : List Nat) : free n ws ≤ n := by
  have := @List.countP_le_length _ (fun x => !hasN ws x) (List.range n)
  rwa [List.length_range] at this
theorem countP_one {p q : Nat → Bool} {v : Nat} (hp : p v = true) (hq : ∀ x, q x = (p x && decide (x ≠ v))) : ∀ n : Nat, (List.range n).countP q + (if v < n then 1 else 0) = (List.range n).countP p
  | 0 => by simp
  | n + 1 => by
    have ih := countP_one hp hq n
    rw [List.range_succ, List.countP_append, List.countP_append, List.countP_singleton, List.countP_singleton, hq n]
    rcases Nat.lt_trichotomy v n with h | h | h
    · rw [if_pos h] at ih
      rw [if_pos (show v < n + 1 by omega), show decide (n ≠ v) = true by simp; omega, Bool.and_true]
      omega
    · subst h
      rw [if_neg (Nat.lt_irrefl v)] at ih
      rw [if_pos (show v < v + 1 by omega), hp, show decide (v ≠ v) = false by simp, Bool.and_false]
      simp
      omega
    · rw [if_neg (show ¬ v < n by omega)] at ih
      rw [if_neg (show ¬ v < n + 1 by omega), show decide (n ≠ v) = true by simp; omega, Bool.and_true]
      omega
theorem free_set {n : Nat} {ws : List Nat} {v : Nat} (hl : v / 64 < ws.length) (hv : v < n) (hn : hasN ws v = false) : free n (setN ws v) + 1 = free n ws := by
  have := countP_one (p := fun x => !hasN ws x) (q := fun x => !hasN (setN ws v) x) (v := v) (by simp [hn]) (fun x => by
    rw [hasN_setN ws v x hl]
    simp) n
  rw [if_pos hv] at this
  exact this
structure Adds (n : Nat) (ws : List Nat) (wk : List Int) (xs : List Int) (s : List Nat × List Int) : Prop where
  len : s.1.length = ws.length
  lt : ∀ y ∈ s.1, y < 18446744073709551616
  has : ∀ x : Nat, hasN s.1 x = true ↔ hasN ws x = true ∨ ((x : Int) ∈ xs ∧ x < n)
  mem : ∀ v : Int, v ∈ s.2 ↔ v ∈ wk ∨ (v ∈ xs ∧ 0 ≤ v ∧ v < n ∧ hasN ws v.toNat = false)
  cnt : free n s.1 + s.2.length = free n ws + wk.length
theorem addFs_spec (n : Nat) : ∀ (xs : List Int) (ws : List Nat) (wk : List Int), ws.length = n / 64 + 1 → (∀ y ∈ ws, y < 18446744073709551616) → Adds n ws wk xs (xs.foldl (addF n) (ws, wk)) := by
  intro xs
  induction xs with
  | nil => intro ws wk hl hlt; exact ⟨rfl, hlt, fun x => by simp, fun v => by simp, rfl⟩
  | cons x xs ih =>
    intro ws wk hl hlt
    rw [List.foldl_cons]
    by_cases hx : 0 ≤ x ∧ x < n ∧ hasN ws x.toNat = false
    · have e : addF n (ws, wk) x = (setN ws x.toNat, wk ++ [x]) := by unfold addF; rw [if_pos hx]
      rw [e]
      obtain ⟨x0, x1, x2⟩ := hx
      have hq : x.toNat / 64 < ws.length := by omega
      have hs := fun y => hasN_setN ws x.toNat y hq
      obtain ⟨h1, h2, h3, h4, h5⟩ := ih (setN ws x.toNat) (wk ++ [x]) (by rw [setN_len, hl]) (setN_lt ws x.toNat hlt)
      refine ⟨by rw [h1, setN_len], h2, fun y => ?_, fun v => ?_, ?_⟩
      · rw [h3, hs]
        simp only [Bool.or_eq_true, decide_eq_true_eq, List.mem_cons]
        constructor
        · rintro ((h | rfl) | ⟨h, g⟩)
          · exact .inl h
          · exact .inr ⟨.inl (by omega), by omega⟩
          · exact .inr ⟨.inr h, g⟩
        · rintro (h | ⟨h | h, g⟩)
          · exact .inl (.inl h)
          · exact .inl (.inr (by omega))
          · exact .inr ⟨h, g⟩
      · rw [h4, hs, List.mem_append, List.mem_singleton, List.mem_cons, Bool.or_eq_false_iff, decide_eq_false_iff_not]
        constructor
        · rintro ((h | rfl) | ⟨h, g0, g1, g2, g3⟩)
          · exact .inl h
          · exact .inr ⟨.inl rfl, x0, x1, x2⟩
          · exact .inr ⟨.inr h, g0, g1, g2⟩
        · rintro (h | ⟨h | h, g0, g1, g2⟩)
          · exact .inl (.inl h)
          · exact .inl (.inr h)
          · by_cases e : v = x
            · exact .inl (.inr e)
            · exact .inr ⟨h, g0, g1, g2, by omega⟩
      · have := free_set hq (show x.toNat < n by omega) x2
        rw [h5, List.length_append, List.length_singleton]
        omega
    · have e : addF n (ws, wk) x = (ws, wk) := by unfold addF; rw [if_neg hx]
      rw [e]
      obtain ⟨h1, h2, h3, h4, h5⟩ := ih ws wk hl hlt
      refine ⟨h1, h2, fun y => ?_, fun v => ?_, h5⟩
      · rw [h3, List.mem_cons]
        constructor
        · rintro (h | ⟨h, g⟩)
          · exact .inl h
          · exact .inr ⟨.inr h, g⟩
        · rintro (h | ⟨h | h, g⟩)
          · exact .inl h
          · subst h
            have h2 : ¬ hasN ws y = false := fun h2 => hx ⟨by omega, by omega, by simpa using h2⟩
            exact .inl (by simpa using h2)
          · exact .inr ⟨h, g⟩
      · rw [h4, List.mem_cons]
        constructor
        · rintro (h | ⟨h, g⟩)
          · exact .inl h
          · exact .inr ⟨.inr h, g⟩
        · rintro (h | ⟨h | h, g⟩)
          · exact .inl h
          · subst h; exact absurd g hx
          · exact .inr ⟨h, g⟩
structure RF (n : Nat) (l : List S53) (src : Int → Prop) (ws : List Nat) (wk : List Int) : Prop where
  len : ws.length = n / 64 + 1
  lt : ∀ y ∈ ws, y < 18446744073709551616
  rg : ∀ x : Nat, hasN ws x = true → x < n
  wkn : ∀ v ∈ wk, 0 ≤ v ∧ hasN ws v.toNat = true
  cl : ∀ x : Nat, hasN ws x = true → (x : Int) ∉ wk → ∀ w ∈ succL l x, hasN ws w.toNat = true
  so : ∀ x : Nat, hasN ws x = true → ∃ s, src s ∧ 0 ≤ s ∧ s < n ∧ Rch l s x
  ss : ∀ s, src s → 0 ≤ s → s < n → hasN ws s.toNat = true
theorem RF.round {n : Nat} {l : List S53} {src : Int → Prop} {ws : List Nat} {r : List Int} {v : Int} (hE : Inn n l) (h : RF n l src ws (r ++ [v])) :
    RF n l src ((succL l v).foldl (addF n) (ws, r)).1 ((succL l v).foldl (addF n) (ws, r)).2 ∧ free n ((succL l v).foldl (addF n) (ws, r)).1 + ((succL l v).foldl (addF n) (ws, r)).2.length = free n ws + r.length := by
  have a := addFs_spec n (succL l v) ws r h.len h.lt
  generalize (succL l v).foldl (addF n) (ws, r) = s at a ⊢
  obtain ⟨v0, hv⟩ := h.wkn v (by simp)
  have up : ∀ x : Nat, hasN ws x = true → hasN s.1 x = true := fun x hx => (a.has x).2 (.inl hx)
  have sc : ∀ w ∈ succL l v, hasN s.1 w.toNat = true := fun w hw => by
    obtain ⟨_, _, w0, w1⟩ := hE v w hw
    exact (a.has _).2 (.inr ⟨by rwa [show ((w.toNat : Nat) : Int) = w by omega], by omega⟩)
  refine ⟨⟨a.len.trans h.len, a.lt, ?_, ?_, ?_, ?_, fun s hs s0 s1 => up _ (h.ss s hs s0 s1)⟩, a.cnt⟩
  · intro x hx
    rcases (a.has x).1 hx with h1 | ⟨_, h1⟩
    · exact h.rg x h1
    · exact h1
  · intro w hw
    rcases (a.mem w).1 hw with h1 | ⟨h1, h2, h3, h4⟩
    · obtain ⟨h2, h3⟩ := h.wkn w (by simp [h1])
      exact ⟨h2, up _ h3⟩
    · exact ⟨h2, sc w h1⟩
  · intro x hx hxn w hw
    have hxr : (x : Int) ∉ r := fun hm => hxn ((a.mem _).2 (.inl hm))
    by_cases e : (x : Int) = v
    · rw [e] at hw; exact sc w hw
    · rcases (a.has x).1 hx with h1 | ⟨h1, h2⟩
      · exact up _ (h.cl x h1 (by simp [hxr, e]) w hw)
      · by_cases hn : hasN ws x = true
        · exact up _ (h.cl x hn (by simp [hxr, e]) w hw)
        · exact absurd ((a.mem _).2 (.inr ⟨h1, by omega, by omega, by simpa using hn⟩)) hxn
  · intro x hx
    rcases (a.has x).1 hx with h1 | ⟨h1, h2⟩
    · exact h.so x h1
    · obtain ⟨s, g1, g2, g3, g4⟩ := h.so v.toNat hv
      rw [show ((v.toNat : Nat) : Int) = v by omega] at g4
      exact ⟨s, g1, g2, g3, g4.step h1⟩
theorem RF.run {n : Nat} {l : List S53} {src : Int → Prop} (hE : Inn n l) (hn : n ≤ 100000) : ∀ (k : Nat) (ws : List Nat) (wk : List Int), RF n l src ws wk → free n ws + wk.length < k → free n ws + wk.length ≤ n →
    ∃ r, reachF n l k (ws, wk) = some r ∧ RF n l src r [] := by
  intro k
  induction k with
  | zero => intro ws wk h hk; omega
  | succ k ih =>
    intro ws wk h hk hn2
    unfold reachF
    by_cases he : wk = []
    · subst he
      exact ⟨ws, by rw [if_pos rfl], h⟩
    · rw [if_neg he, if_pos (show wk.length ≤ 100000 by omega)]
      obtain ⟨r, v, rfl⟩ : ∃ r v, wk = r ++ [v] := ⟨wk.dropLast, wk.getLast he, (List.dropLast_concat_getLast he).symm⟩
      obtain ⟨h1, h2⟩ := h.round hE
      rw [List.length_append, List.length_singleton] at hk hn2
      simp only [List.getLast?_concat, Option.getD_some, List.dropLast_concat]
      exact ih _ _ h1 (by omega) (by omega)
theorem hasN_rep (m x : Nat) : hasN (List.replicate m 0) x = false := by
  have : (List.replicate m 0).getD (x / 64) 0 = 0 := by
    rw [List.getD_eq_getElem?_getD, List.getElem?_replicate]
    split <;> rfl
  unfold hasN
  rw [this, Nat.zero_testBit]
theorem reach_some {n : Nat} {l : List S53} (hv : Valid n l) (from_ : List Int) (hf : from_.length ≤ 60000) : ∃ p : Nat → Bool, graph_Reach.f n l from_ = some (those n p) ∧ ∀ v : Int, 0 ≤ v → v < n → (p v.toNat = true ↔ ∃ s, s ∈ from_ ∧ 0 ≤ s ∧ s < n ∧ Rch l s v) := by
  have hn : (n : Int) ≤ 8192 := hv.n1
  have hE : Inn n l := fun v w hw => by
    obtain ⟨a, b, c, d⟩ := hv.succ_lt hw
    exact ⟨c, d, a, b⟩
  have a := addFs_spec n from_ (List.replicate (n / 64 + 1) 0) [] (by simp) (fun y hy => by
    rw [List.mem_replicate] at hy
    omega)
  have hfr := free_le n (List.replicate (n / 64 + 1) 0)
  have h0 : RF n l (fun s => s ∈ from_) (from_.foldl (addF n) (List.replicate (n / 64 + 1) 0, [])).1 (from_.foldl (addF n) (List.replicate (n / 64 + 1) 0, [])).2 := by
    have hh : ∀ x : Nat, hasN (from_.foldl (addF n) (List.replicate (n / 64 + 1) 0, [])).1 x = true ↔ ((x : Int) ∈ from_ ∧ x < n) := fun x => by
      rw [a.has, hasN_rep]
      simp
    refine ⟨by rw [a.len]; simp, a.lt, fun x hx => ((hh x).1 hx).2, ?_, ?_, ?_, ?_⟩
    · intro v hv
      rcases (a.mem v).1 hv with h1 | ⟨h1, h2, h3, h4⟩
      · cases h1
      · exact ⟨h2, (hh _).2 ⟨by rwa [show ((v.toNat : Nat) : Int) = v by omega], by omega⟩⟩
    · intro x hx hxn
      obtain ⟨h1, h2⟩ := (hh x).1 hx
      exact absurd ((a.mem _).2 (.inr ⟨h1, by omega, by omega, hasN_rep _ _⟩)) hxn
    · intro x hx
      obtain ⟨h1, h2⟩ := (hh x).1 hx
      exact ⟨x, h1, by omega, by omega, Rch.refl _ _⟩
    · intro s hs s0 s1
      exact (hh _).2 ⟨by rwa [show ((s.toNat : Nat) : Int) = s by omega], by omega⟩
  obtain ⟨r, h1, h2⟩ := RF.run hE (by omega) 10000 _ _ h0 (by rw [a.cnt]; simp; omega) (by rw [a.cnt]; simp; exact hfr)
  rw [Prod.eta] at h1
  refine ⟨hasN r, ?_, ?_⟩
  · unfold graph_Reach.f
    rw [if_pos ((chk_zero _ _).2 hv), if_pos hf, Int.toNat_natCast, h1, Option.map_some, listW_those r h2.lt]
    congr 1
    refine ascI_ext (those_asc _ _) (those_asc _ _) (fun v => ?_)
    rw [mem_those, mem_those]
    constructor
    · rintro ⟨a, b, c⟩
      have := h2.rg _ c
      exact ⟨a, by omega, c⟩
    · rintro ⟨a, b, c⟩
      have := h2.len
      exact ⟨a, by omega, c⟩
  · intro v v0 v1
    constructor
    · intro h
      have := h2.so _ h
      rwa [show ((v.toNat : Nat) : Int) = v by omega] at this
    · rintro ⟨s, g1, g2, g3, k, g4⟩
      have hs := h2.ss s g1 g2 g3
      clear g1 g3
      induction g4 with
      | nil => exact hs
      | snoc hw hx ih =>
        obtain ⟨c, d, _, _⟩ := hE _ _ hx
        have h3 := ih c d g2 hs
        refine h2.cl _ h3 (by simp) _ ?_
        rwa [show ((_ : Int).toNat : Int) = _ from Int.toNat_of_nonneg c]
end Go.Proofs.YtfgbkklhjocmjaaDoor.Xq
namespace Go.Proofs.YtfgbkklhjocmjaaDoor.Xq
open Go.RowKit Go.Proofs.YtfgbkklhjocmjaaDoorW.PrintWords Go.Proofs.YtfgbkklhjocmjaaDoorW.PrintLast Go.Proofs.YtfgbkklhjocmjaaDoor.Gv
theorem refCheck_j2 (n : Int) (l : List S53) (i : Nat) (hi : i < l.length) (hl : l.length ≤ 32768) (R : Int) (ih : Ev (fun k => r4_Check.l0 k ((i + 1 : Nat) : Int) n l) R) :
    ∀ b : Bool, Ev (fun k => r4_Check.j2 k (i : Int) b n l l[i].f0 l[i].f1) (if b = true then 4 else if (match (if i = 0 then none else some (rd_T53 l ((i : Int) - 1))) with | none => false | some y => !ltE y l[i]) = true then 13 else R) := by
  intro b
  refine evStep (fun k => by rw [r4_Check.j2]) ?_
  refine evCase (fun _ => evSome rfl) (fun _ => ?_)
  have hw : wrap64 ((i : Int) + 1) = ((i + 1 : Nat) : Int) := by unfold wrap64; omega
  rw [hw]
  by_cases h0 : i = 0
  · subst h0
    refine evNeg (by omega) ?_
    rw [if_pos rfl]
    simpa using ih
  · have hw2 : wrap64 ((i : Int) - 1) = ((i - 1 : Nat) : Int) := by unfold wrap64; omega
    have e2 : (i : Int) - 1 = ((i - 1 : Nat) : Int) := by omega
    rw [hw2, if_neg h0, e2]
    refine evPos (by omega) (evPos (by omega) (evPos (by omega) ?_))
    rw [rd_at' (show i - 1 < l.length by omega)]
    refine evBindK (less_eq _ _) ?_
    by_cases hc : ltE l[i - 1] l[i] = true
    · refine evPos hc ?_
      simpa [hc] using ih
    · refine evNeg hc (evSome ?_)
      simp at hc
      simp [hc]
theorem refCheck_l0 (n : Int) (l : List S53) (hl : l.length ≤ 32768) : ∀ (d i : Nat), i + d = l.length →
    Ev (fun k => r4_Check.l0 k (i : Int) n l) (chkL n (if i = 0 then none else some (rd_T53 l ((i : Int) - 1))) (l.drop i)) := by
  intro d
  induction d with
  | zero =>
    intro i hi
    refine evStep (fun k => by rw [r4_Check.l0]) ?_
    refine evNeg (by omega) (evSome ?_)
    rw [List.drop_eq_nil_of_le (by omega)]
    simp only [chkL]
  | succ d ih =>
    intro i hi
    have hlt : i < l.length := by omega
    have IH := ih (i + 1) (by omega)
    rw [if_neg (show ¬ i + 1 = 0 by omega), show ((i + 1 : Nat) : Int) - 1 = (i : Int) by omega, rd_at' hlt] at IH
    have J := refCheck_j2 n l i hlt hl _ IH
    refine evStep (fun k => by rw [r4_Check.l0]) ?_
    rw [rd_at' hlt]
    refine evPos (by omega) (evPos (by omega) ?_)
    rw [List.drop_eq_getElem_cons hlt, chkL_cons]
    have W := within_alt n l[i]
    by_cases h1 : l[i].f0 < 0
    · refine evPos h1 (evEq (J true) ?_)
      rw [if_pos rfl, if_pos (W.2 (.inl h1))]
    · refine evNeg h1 ?_
      by_cases h2 : l[i].f0 ≥ n
      · refine evPos h2 (evEq (J true) ?_)
        rw [if_pos rfl, if_pos (W.2 (.inr (.inl h2)))]
      · refine evNeg h2 ?_
        by_cases h3 : l[i].f1 < 0
        · refine evPos h3 (evEq (J true) ?_)
          rw [if_pos rfl, if_pos (W.2 (.inr (.inr (.inl h3))))]
        · refine evNeg h3 (evEq (J _) ?_)
          by_cases h4 : l[i].f1 ≥ n
          · have e1 : decide (l[i].f1 ≥ n) = true := by simpa using h4
            have e2 : withinB n l[i] = false := W.2 (.inr (.inr (.inr h4)))
            rw [if_pos e1, if_pos e2]
          · have e1 : ¬ decide (l[i].f1 ≥ n) = true := by simpa using h4
            have e2 : ¬ withinB n l[i] = false := fun h => by have := W.1 h; omega
            rw [if_neg e1, if_neg e2]
            rfl
theorem refCheck_ev (n : Int) (l : List S53) : Ev (fun k => r4_Check.f k n l) (chk n l) := by
  unfold r4_Check.f chk
  refine evCase (fun _ => evSome rfl) (fun h0 => evCase (fun h1 => ?_) (fun h1 => ?_))
  · exact evStep (fun k => by rw [r4_Check.j0]) (evPos rfl (evSome rfl))
  · refine evStep (fun k => by rw [r4_Check.j0]) ?_
    by_cases h3 : (l.length : Int) > 32768
    · rw [if_pos h3]
      exact evPos (by simpa using h3) (evSome rfl)
    · rw [if_neg h3]
      refine evNeg (by simpa using h3) ?_
      have := refCheck_l0 n l (by omega) l.length 0 (by omega)
      simpa using this
def nodeB (n : Int) (l : List S53) (v : Int) : Bool := decide (0 ≤ v ∧ v < n ∧ chk n l = 0)
theorem refNode_ev (n : Int) (l : List S53) (v : Int) : Ev (fun k => r4_Node.f k n l v) (nodeB n l v) := by
  unfold r4_Node.f nodeB
  refine evBind (refCheck_ev n l) ?_
  by_cases h : chk n l = 0
  · refine evPos h ?_
    by_cases h1 : v ≥ 0
    · refine evPos h1 (evSome ?_)
      rw [decide_eq_decide]
      omega
    · refine evNeg h1 (evSome ?_)
      exact (decide_eq_false (fun hc => h1 hc.1)).symm
  · refine evNeg h (evSome ?_)
    exact (decide_eq_false (fun hc => h hc.2.2)).symm
theorem take_succ' {α : Type} {l : List α} {i : Nat} (h : i < l.length) : l.take (i + 1) = l.take i ++ [l[i]] := List.take_succ_eq_append_getElem h
theorem succL_take {l : List S53} {v : Int} {i : Nat} (h : i < l.length) : succL (l.take (i + 1)) v = succL (l.take i) v ++ (if l[i].f0 = v then [l[i].f1] else []) := by
  rw [take_succ' h]
  unfold succL
  rw [List.filter_append, List.map_append]
  congr 1
  by_cases e : l[i].f0 = v
  · rw [if_pos e, List.filter_cons_of_pos (by simpa using e)]; rfl
  · rw [if_neg e, List.filter_cons_of_neg (by simpa using e)]; rfl
theorem succL_len (l : List S53) (v : Int) : (succL l v).length ≤ l.length := by
  unfold succL
  rw [List.length_map]
  exact List.length_filter_le _ _
theorem refSucc_l0 (n v : Int) (l : List S53) (hl : l.length ≤ 1000000) : ∀ (d i : Nat), i + d = l.length → Ev (fun k => r4_Succ.l0 k v (succL (l.take i) v) (i : Int) n l) (succL l v) := by
  intro d
  induction d with
  | zero =>
    intro i hi
    refine evStep (fun k => by rw [r4_Succ.l0]) (evNeg (by omega) (evSome ?_))
    rw [List.take_of_length_le (by omega)]
  | succ d ih =>
    intro i hi
    have hlt : i < l.length := by omega
    have hw : wrap64 ((i : Int) + 1) = ((i + 1 : Nat) : Int) := by unfold wrap64; omega
    have IH := ih (i + 1) (by omega)
    rw [succL_take hlt] at IH
    refine evStep (fun k => by rw [r4_Succ.l0]) (evPos (by omega) (evPos (by omega) ?_))
    rw [rd_at' hlt, hw]
    by_cases e : l[i].f0 = v
    · rw [if_pos e] at IH
      refine evPos e (evPos ?_ IH)
      have := succL_len (l.take i) v
      rw [List.length_take] at this
      omega
    · rw [if_neg e, List.append_nil] at IH
      exact evNeg e IH
def succN (n : Int) (l : List S53) (v : Int) : List Int := if 0 ≤ v ∧ v < n ∧ chk n l = 0 then succL l v else []
theorem chk_len {n : Int} {l : List S53} (h : chk n l = 0) : l.length ≤ 32768 := ((chk_zero n l).1 h).len
theorem refSucc_ev (n : Int) (l : List S53) (v : Int) : Ev (fun k => r4_Succ.f k n l v) (succN n l v) := by
  unfold r4_Succ.f succN
  refine evBind (refNode_ev n l v) ?_
  unfold nodeB
  by_cases h : 0 ≤ v ∧ v < n ∧ chk n l = 0
  · rw [if_pos h]
    refine evPos (decide_eq_true h) ?_
    have := refSucc_l0 n v l (by have := chk_len h.2.2; omega) l.length 0 (by omega)
    simpa [succL] using this
  · rw [if_neg h]
    exact evNeg (by simpa using h) (evSome rfl)
def revL (l : List S53) : List S53 := sortE (l.map swapE)
theorem mem_revL {l : List S53} {x : S53} : x ∈ revL l ↔ swapE x ∈ l := by
  unfold revL
  rw [(sortE_perm _).mem_iff, List.mem_map]
  constructor
  · rintro ⟨y, hy, rfl⟩; exact hy
  · intro h; exact ⟨_, h, rfl⟩
theorem revL_asc {l : List S53} (h : Asc l) : Asc (revL l) := sortE_asc (swap_nodup (asc_nodup h))
theorem revL_len (l : List S53) : (revL l).length = l.length := by
  unfold revL
  rw [(sortE_perm _).length_eq, List.length_map]
theorem revL_valid {n : Int} {l : List S53} (h : Valid n l) : Valid n (revL l) :=
  ⟨h.n0, h.n1, by rw [revL_len]; exact h.len, fun x hx => by
    have := within_iff.1 (h.ins _ (mem_revL.1 hx))
    exact within_iff.2 ⟨this.2.2.1, this.2.2.2, this.1, this.2.1⟩, revL_asc h.asc⟩
theorem revL_dedup {l : List S53} (h : Asc l) : dedupE (l.map swapE) = revL l := dedupE_eq (revL_asc h) (fun x => by rw [mem_revL, List.mem_map]; exact ⟨fun hx => ⟨_, hx, rfl⟩, fun ⟨y, hy, e⟩ => by rw [← e]; exact hy⟩)
theorem refRev_l0 (n : Int) (l : List S53) (hl : l.length ≤ 1000000) : ∀ (d i : Nat), i + d = l.length → Ev (fun k => r4_Reverse.l0 k ((l.take i).map swapE) (i : Int) n l) (n, dedupE (l.map swapE)) := by
  intro d
  induction d with
  | zero =>
    intro i hi
    refine evStep (fun k => by rw [r4_Reverse.l0]) (evNeg (by omega) ?_)
    rw [List.take_of_length_le (by omega)]
    refine evBind (Ev.of (fun k => r4_sorted.mono _ k) (sorted_eq (l.map swapE).length (l.map swapE) _ (Nat.le_refl _) (by rw [List.length_map]; exact hl) (Nat.le_refl _))) (evSome rfl)
  | succ d ih =>
    intro i hi
    have hlt : i < l.length := by omega
    have hw : wrap64 ((i : Int) + 1) = ((i + 1 : Nat) : Int) := by unfold wrap64; omega
    have IH := ih (i + 1) (by omega)
    rw [take_succ' hlt, List.map_append] at IH
    refine evStep (fun k => by rw [r4_Reverse.l0]) (evPos (by omega) (evPos (by omega) (evPos ?_ ?_)))
    · rw [List.length_map, List.length_take]
      omega
    · rw [rd_at' hlt, hw]
      exact IH
def revN (n : Int) (l : List S53) : Int × List S53 := if chk n l = 0 then (n, revL l) else (0, [])
theorem refRev_ev (n : Int) (l : List S53) : Ev (fun k => r4_Reverse.f k n l) (revN n l) := by
  unfold r4_Reverse.f revN
  refine evBind (refCheck_ev n l) ?_
  by_cases h : chk n l = 0
  · rw [if_pos h]
    refine evPos h ?_
    have hv := (chk_zero n l).1 h
    have := refRev_l0 n l (by have := hv.len; omega) l.length 0 (by omega)
    rw [revL_dedup hv.asc] at this
    simpa using this
  · rw [if_neg h]
    exact evNeg h (evSome rfl)
theorem succ_some (n : Int) (l : List S53) (v : Int) : graph_Succ.f n l v = some (succN n l v) := rfl
theorem mem_succ_revL {l : List S53} {v w : Int} : w ∈ succL (revL l) v ↔ v ∈ succL l w := by rw [mem_succL, mem_succL, mem_revL]; exact Iff.rfl
end Go.Proofs.YtfgbkklhjocmjaaDoor.Xq
