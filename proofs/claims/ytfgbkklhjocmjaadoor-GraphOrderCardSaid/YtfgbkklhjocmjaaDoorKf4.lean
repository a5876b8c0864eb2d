/- Joined by a program out of this work's texts and the print's (what the law needs of them): Xq5, Xq6, Xq11, GvSucc, GvVS, GvPost, Xq16, GvEv, GvP1. -/
import Derived.Test.YtfgbkklhjocmjaaDoorKf3
set_option linter.unusedVariables false
set_option linter.unusedSimpArgs false
namespace Go.Proofs.YtfgbkklhjocmjaaDoor.Xq
open Go.RowKit Go.Proofs.YtfgbkklhjocmjaaDoorW.PrintWords Go.Proofs.YtfgbkklhjocmjaaDoorW.PrintLast Go.Proofs.YtfgbkklhjocmjaaDoorW.PrintMore
attribute [local go_sem] max2_int min2_int max_two min_two max_three min_three max_four min_four
mutual
def r4_Check.j0 : Nat → Bool → Int → List (S53) → Option (Int)
 | 0, _, _, _ => none
 | k + 1, x16, x190000, x190001 => if x16 = true then (some 3) else (r4_Check.l0 k 0 x190000 x190001)
def r4_Check.l0 : Nat → Int → Int → List (S53) → Option (Int)
 | 0, _, _, _ => none
 | k + 1, x3, x190000, x190001 => if x3 < (x190001.length : Int) then (if 0 ≤ x3 then (if ((rd_T53 x190001 x3).f0) < 0 then (r4_Check.j2 k x3 true x190000 x190001 ((rd_T53 x190001 x3).f0) ((rd_T53 x190001 x3).f1)) else (if ((rd_T53 x190001 x3).f0) ≥ x190000 then (r4_Check.j2 k x3 true x190000 x190001 ((rd_T53 x190001 x3).f0) ((rd_T53 x190001 x3).f1)) else (if ((rd_T53 x190001 x3).f1) < 0 then (r4_Check.j2 k x3 true x190000 x190001 ((rd_T53 x190001 x3).f0) ((rd_T53 x190001 x3).f1)) else (r4_Check.j2 k x3 (decide (((rd_T53 x190001 x3).f1) ≥ x190000)) x190000 x190001 ((rd_T53 x190001 x3).f0) ((rd_T53 x190001 x3).f1))))) else (none)) else (some 0)
def r4_Check.j2 : Nat → Int → Bool → Int → List (S53) → Int → Int → Option (Int)
 | 0, _, _, _, _, _, _ => none
 | k + 1, x3, x50, x190000, x190001, x192000, x192001 => if x50 = true then (some 4) else (if x3 > 0 then (if 0 ≤ (wrap64 (x3 - 1)) then (if (wrap64 (x3 - 1)) < (x190001.length : Int) then ((r4_less.f ((rd_T53 x190001 (wrap64 (x3 - 1))).f0) ((rd_T53 x190001 (wrap64 (x3 - 1))).f1) x192000 x192001).bind fun t193 => (if t193 = true then (r4_Check.l0 k (wrap64 (x3 + 1)) x190000 x190001) else (some 13))) else (none)) else (none)) else (r4_Check.l0 k (wrap64 (x3 + 1)) x190000 x190001))
end
def r4_Check.f (k : Nat) (a0_0 : Int) (l0_1 : List (S53)) : Option (Int) := if a0_0 < 0 then (some 4) else (if a0_0 > 8192 then (r4_Check.j0 k true a0_0 l0_1) else (r4_Check.j0 k (decide ((l0_1.length : Int) > 32768)) a0_0 l0_1))
def r4_Check.T11 : Bool × List (List Nat × List Nat) := (true, [([], []), ([0], [0]), ([1], [1]), ([2], [2]), ([3, 2], [2, 3]), ([2], [2]), ([5, 2], [2, 5]), ([4, 6, 2], [2, 4, 6]), ([7, 2], [2, 7]), ([2], [2]), ([8, 9, 2, 2], [2, 8, 9]), ([10, 2], [2, 10]), ([2, 11], [2, 11])])
def r4_Check.B11 : List Nat := [0, 1, 3, 7, 15, 7, 39, 127, 255, 7, 1023, 2047, 4095]
theorem r4_Check.tab11 : rtab .any (opsOf Tryd.f38 11) = r4_Check.T11 := by kernel_rfl
theorem r4_Check.bits11 : waitsOk r4_Check.T11.2 r4_Check.B11 = true := by kernel_rfl
set_option maxHeartbeats 8000000 in
set_option maxRecDepth 100000 in
theorem r4_Check.calls (k : Nat) (a0_0 : Int) (A0_1 : Option Addr) (c0_1 : Nat) (l0_1 : List (S53)) (r : Int) (w : World) (hr0_1 : Kd.C k53 w A0_1 l0_1.length l0_1) (hc0_1 : l0_1.length ≤ c0_1) (h : r4_Check.f k a0_0 l0_1 = some r) :
  Calls Tryd.prog 38 #[.agg #[.int .i64 a0_0, .slice A0_1 l0_1.length c0_1]] w fun e w' => e = .returned (.int .i64 r) ∧ Below w.heap.size w w' := by
 have hu24 := Tryd.underlying24
 have hu53 := Tryd.underlying53
 have HR0_1 := aM_ hr0_1
 have HC0_1 := aM_ hc0_1
 clear hr0_1 hc0_1
 have HB := aM_ (Below.refl w.heap.size w)
 have H : (if a0_0 < 0 then (some 4) else (if a0_0 > 8192 then (r4_Check.j0 k true a0_0 l0_1) else (r4_Check.j0 k (decide ((l0_1.length : Int) > 32768)) a0_0 l0_1))) = some r := h
 clear h
 by_cases c2 : a0_0 < 0
 ·rw [if_pos c2] at H
  have c2b0 : decide (a0_0 < 0) = true := decide_eq_true c2
  clear c2
  obtain rfl := Option.some.inj H
  go_enter Tryd.func38, Tryd.ntmps38
  go_wp2_with (first | ((with_reducible refine gate_dst (N := 1) rfl ?_); (try (refine gate_guard (by rfl) ?_; dsimp only)); refine box_event ?hg (N := 1) ?hd (cs := #[.int .i64 a0_0, .slice A0_1 l0_1.length c0_1]) (t := 24) ?hr ?_; (case hd => rfl); (case hg => rfl); (case hr => first | (go_simp; done) | (go_simp; rfl)); intro gb189 hg w3 hbox hb; have n0_ := aM_ (below_step (by repeat (first | (with_reducible first | exact HB.out | apply bA_ | apply bB_ | apply bC_) | exact HB.out)) hb); have n1_ := aM_ (hbox); have n2_ := aM_ ((by rw [hg]; exact (below_size (by repeat (first | (with_reducible first | exact HB.out | apply bA_ | apply bB_ | apply bC_) | exact HB.out))) : w.heap.size ≤ gb189)); have n3_ := aM_ ((by rw [hg]; exact (below_size (by repeat (first | (with_reducible first | exact HB.out | apply bA_ | apply bB_ | apply bC_) | exact HB.out))) : w.heap.size ≤ gb189)); clear HB; have HB := n0_; have BK189 := n1_; have GW189 := n2_; have GE189 := n3_; clear n0_ n1_ n2_ n3_; clear hb hbox hg; have hcz4_0 : w3.cell? ⟨gb189, 0, none⟩ = some (.int .i64 a0_0) := (blk_cell BK189.out 0).trans rfl; have hcz4_1 : w3.cell? ⟨gb189, 1, none⟩ = some (.slice A0_1 l0_1.length c0_1) := (blk_cell BK189.out 1).trans rfl; have hfz4_0 := blk_frozen BK189.out 0; have hfz4_1 := blk_frozen BK189.out 1))
  go_ret
  exact ⟨by first | rfl | (simp [errW_none, errW_some] <;> rfl) | (simp [*, errW_none, errW_some] <;> rfl), by repeat (first | (with_reducible first | exact HB.out | apply bA_ | apply bB_ | apply bC_ | refine below_set ?_ GE189.out) | exact HB.out)⟩
 ·rw [if_neg c2] at H
  have c2b0 : decide (a0_0 < 0) = false := decide_eq_false c2
  clear c2
  have HC5 := aM_ H
  clear H
  go_enter Tryd.func38, Tryd.ntmps38
  go_upto_region 3 with (first | ((with_reducible refine gate_dst (N := 1) rfl ?_); (try (refine gate_guard (by rfl) ?_; dsimp only)); refine box_event ?hg (N := 1) ?hd (cs := #[.int .i64 a0_0, .slice A0_1 l0_1.length c0_1]) (t := 24) ?hr ?_; (case hd => rfl); (case hg => rfl); (case hr => first | (go_simp; done) | (go_simp; rfl)); intro gb189 hg w6 hbox hb; have n0_ := aM_ (below_step (by repeat (first | (with_reducible first | exact HB.out | apply bA_ | apply bB_ | apply bC_) | exact HB.out)) hb); have n1_ := aM_ (hbox); have n2_ := aM_ ((by rw [hg]; exact (below_size (by repeat (first | (with_reducible first | exact HB.out | apply bA_ | apply bB_ | apply bC_) | exact HB.out))) : w.heap.size ≤ gb189)); have n3_ := aM_ ((by rw [hg]; exact (below_size (by repeat (first | (with_reducible first | exact HB.out | apply bA_ | apply bB_ | apply bC_) | exact HB.out))) : w.heap.size ≤ gb189)); clear HB; have HB := n0_; have BK189 := n1_; have GW189 := n2_; have GE189 := n3_; clear n0_ n1_ n2_ n3_; clear hb hbox hg; have hcz7_0 : w6.cell? ⟨gb189, 0, none⟩ = some (.int .i64 a0_0) := (blk_cell BK189.out 0).trans rfl; have hcz7_1 : w6.cell? ⟨gb189, 1, none⟩ = some (.slice A0_1 l0_1.length c0_1) := (blk_cell BK189.out 1).trans rfl; have hfz7_0 := blk_frozen BK189.out 0; have hfz7_1 := blk_frozen BK189.out 1))
  (try simp only [Act.put, uA_, uB_, uC_])
  go_cut [16] (fun v16 wc => ∃ (kq : Nat) (x16_4 : Bool), v16 = .bool x16_4 ∧ Aside0 (r4_Check.j0 kq x16_4 a0_0 l0_1 = some r) ∧ Aside0 (kq ≤ k) ∧ Aside0 (wc.heap[gb189]? = some (.cells #[.int .i64 a0_0, (.slice A0_1 l0_1.length c0_1)] 24 (0, 0))) ∧ Aside0 (Below w.heap.size w wc))
  case first =>
   have H := HC5.out
   clear HC5
   by_cases c8 : a0_0 > 8192
   ·rw [if_pos c8] at H
    have c8b0 : decide (8192 < a0_0) = true := decide_eq_true c8
    clear c8
    (first | rw [c8b0] | (simp only [i64_w, i32_w]; rw [c8b0]) | skip)
    have H' := aM_ H
    clear H
    have hcz9_0 : w6.cell? ⟨gb189, 0, none⟩ = some (.int .i64 a0_0) := (blk_cell BK189.out 0).trans rfl
    have hcz9_1 : w6.cell? ⟨gb189, 1, none⟩ = some (.slice A0_1 l0_1.length c0_1) := (blk_cell BK189.out 1).trans rfl
    have hfz9_0 := blk_frozen BK189.out 0
    have hfz9_1 := blk_frozen BK189.out 1
    go_wp2
    go_meet
    case rel => exact ⟨_, (true), (by first | rfl | (simp; done) | (simp [*]; done)), H', ⟨by first | omega | exact Nat.le_refl _⟩, ⟨by (with_reducible repeat (first | refine blk_drewN ?_ _ | refine blk_drew ?_ | refine blk_alloc ?_ _)); exact BK189.out⟩, ⟨by repeat (first | (with_reducible first | exact HB.out | apply bA_ | apply bB_ | apply bC_ | refine below_set ?_ GE189.out) | exact HB.out)⟩⟩
   ·rw [if_neg c8] at H
    have c8b0 : decide (8192 < a0_0) = false := decide_eq_false c8
    clear c8
    (first | rw [c8b0] | (simp only [i64_w, i32_w]; rw [c8b0]) | skip)
    have H' := aM_ H
    clear H
    have hcz10_0 : w6.cell? ⟨gb189, 0, none⟩ = some (.int .i64 a0_0) := (blk_cell BK189.out 0).trans rfl
    have hcz10_1 : w6.cell? ⟨gb189, 1, none⟩ = some (.slice A0_1 l0_1.length c0_1) := (blk_cell BK189.out 1).trans rfl
    have hfz10_0 := blk_frozen BK189.out 0
    have hfz10_1 := blk_frozen BK189.out 1
    go_wp2
    go_meet
    case rel => exact ⟨_, (decide ((l0_1.length : Int) > 32768)), (by first | rfl | (simp; done) | (simp [*]; done)), H', ⟨by first | omega | exact Nat.le_refl _⟩, ⟨by (with_reducible repeat (first | refine blk_drewN ?_ _ | refine blk_drew ?_ | refine blk_alloc ?_ _)); exact BK189.out⟩, ⟨by repeat (first | (with_reducible first | exact HB.out | apply bA_ | apply bB_ | apply bC_ | refine below_set ?_ GE189.out) | exact HB.out)⟩⟩
  case rest =>
   clear HC5
   try clear c2
   try clear c2b0
   try clear p2
   try clear c3
   try clear c8
   try clear c8b0
   try clear hcz10_0
   try clear hcz10_1
   try clear hcz4_0
   try clear hcz4_1
   try clear hcz7_0
   try clear hcz7_1
   try clear hcz9_0
   try clear hcz9_1
   try clear hfz10_0
   try clear hfz10_1
   try clear hfz4_0
   try clear hfz4_1
   try clear hfz7_0
   try clear hfz7_1
   try clear hfz9_0
   try clear hfz9_1
   obtain ⟨kq, x16_4, rfl, HA, HJ4, BK189, HB⟩ := hcut
   cases kq with
   | zero => exact absurd HA.out (by simp [r4_Check.j0])
   | succ kj4 =>
    have H := HA.out
    clear HA
    simp only [r4_Check.j0] at H
    by_cases c11 : x16_4 = true
    ·subst c11
     have H1 : (some 3) = some r := by rw [if_pos rfl] at H; exact H
     clear H
     have H := H1
     clear H1
     obtain rfl := Option.some.inj H
     go_wp2
     go_ret
     exact ⟨by first | rfl | (simp [errW_none, errW_some] <;> rfl) | (simp [*, errW_none, errW_some] <;> rfl), by repeat (first | (with_reducible first | exact HB.out | apply bA_ | apply bB_ | apply bC_ | refine below_set ?_ GE189.out) | exact HB.out)⟩
    ·replace c11 := Bool.eq_false_iff.mpr c11
     subst c11
     have H1 : (r4_Check.l0 kj4 0 a0_0 l0_1) = some r := by rw [if_neg (show ¬ (false = true) by decide)] at H; exact H
     clear H
     have H := H1
     clear H1
     have H' := aM_ H
     clear H
     go_wp2
     go_loopg [3] kj4 (fun kq v3 w' => ∃ (x3_2 : Int), v3 = .int .i64 x3_2 ∧ Aside0 (r4_Check.l0 kq x3_2 a0_0 l0_1 = some r) ∧ Aside0 (kq ≤ kj4) ∧ Aside0 (w'.heap[gb189]? = some (.cells #[.int .i64 a0_0, (.slice A0_1 l0_1.length c0_1)] 24 (0, 0))) ∧ Aside0 (Below w.heap.size w w'))
     case atStart => exact ⟨(0), (by first | rfl | (simp; done) | (simp [*]; done)), H', ⟨Nat.le_refl _⟩, ⟨by (with_reducible repeat (first | refine blk_drewN ?_ _ | refine blk_drew ?_ | refine blk_alloc ?_ _)); exact BK189.out⟩, ⟨by repeat (first | (with_reducible first | exact HB.out | apply bA_ | apply bB_ | apply bC_ | refine below_set ?_ GE189.out) | exact HB.out)⟩⟩
     case round =>
      clear H'
      try clear c1
      try clear c2
      try clear c2b0
      try clear p2
      try clear c3
      try clear c8
      try clear c8b0
      try clear c11
      try clear hcz10_0
      try clear hcz10_1
      try clear hcz4_0
      try clear hcz4_1
      try clear hcz7_0
      try clear hcz7_1
      try clear hcz9_0
      try clear hcz9_1
      try clear hfz10_0
      try clear hfz10_1
      try clear hfz4_0
      try clear hfz4_1
      try clear hfz7_0
      try clear hfz7_1
      try clear hfz9_0
      try clear hfz9_1
      try clear p2
      obtain ⟨x3_2, rfl, HA, HK2, BK189, HB⟩ := hrel
      cases gk with
      | zero => exact absurd HA.out (by simp [r4_Check.l0])
      | succ k2 =>
       have H := HA.out
       clear HA
       simp only [r4_Check.l0] at H
       by_cases c12 : x3_2 < (l0_1.length : Int)
       ·rw [if_pos c12] at H
        have c12b0 : decide (x3_2 < (l0_1.length : Int)) = true := decide_eq_true c12
        clear c12
        by_cases c13 : 0 ≤ x3_2
        ·rw [if_pos c13] at H
         have c13b0 : decide (0 ≤ x3_2) = true := decide_eq_true c13
         clear c13
         have HC14 := aM_ H
         clear H
         have hcz15_0 : wr.cell? ⟨gb189, 0, none⟩ = some (.int .i64 a0_0) := (blk_cell BK189.out 0).trans rfl
         have hcz15_1 : wr.cell? ⟨gb189, 1, none⟩ = some (.slice A0_1 l0_1.length c0_1) := (blk_cell BK189.out 1).trans rfl
         have hfz15_0 := blk_frozen BK189.out 0
         have hfz15_1 := blk_frozen BK189.out 1
         have p190 : 0 ≤ (x3_2 : Int) := of_decide_eq_true (by assumption)
         have q190 : x3_2 < (l0_1.length : Int) := of_decide_eq_true (by assumption)
         obtain ⟨ad190, e190, hx190_0, hx190_1⟩ := at_T53 HR0_1.out x3_2 p190 q190
         cases e190
         replace hx190_0 := (HB.out.cell (World.block_lt_of_cell? w _ hx190_0)).trans hx190_0
         replace hx190_1 := (HB.out.cell (World.block_lt_of_cell? w _ hx190_1)).trans hx190_1
         replace p190 := eq_true p190
         replace q190 := eq_true q190
         go_upto_region 9 with (first | ((with_reducible refine gate_dst (N := 4) rfl ?_); (try (refine gate_guard (by rfl) ?_; dsimp only)); refine box_event ?hg (N := 4) ?hd (cs := #[.int .i64 0, .int .i64 0]) (t := 53) ?hr ?_; (case hd => rfl); (case hg => rfl); (case hr => first | (go_simp; done) | (go_simp; rfl)); intro gb191 hg w16 hbox hb; have n0_ := aM_ (blk_below (g := gb189) (o := .cells #[.int .i64 a0_0, .slice (some ad190) l0_1.length c0_1] 24 (0, 0)) (by (with_reducible repeat (first | refine blk_drewN ?_ _ | refine blk_drew ?_ | refine blk_alloc ?_ _)); exact BK189.out) hb); have n1_ := aM_ (below_step (by repeat (first | (with_reducible first | exact HB.out | apply bA_ | apply bB_ | apply bC_ | refine below_set ?_ GE189.out) | exact HB.out)) hb); have n2_ := aM_ (hbox); have n3_ := aM_ ((by rw [hg]; exact (below_size (by repeat (first | (with_reducible first | exact HB.out | apply bA_ | apply bB_ | apply bC_ | refine below_set ?_ GE189.out) | exact HB.out))) : w.heap.size ≤ gb191)); have n4_ := aM_ ((by rw [hg]; exact (below_size (by repeat (first | (with_reducible first | exact HB.out | apply bA_ | apply bB_ | apply bC_ | refine below_set ?_ GE189.out) | exact HB.out))) : w.heap.size ≤ gb191)); have n5_ := aM_ ((by rw [hg]; exact Nat.ne_of_lt (blk_lt (g := gb189) (o := .cells #[.int .i64 a0_0, .slice (some ad190) l0_1.length c0_1] 24 (0, 0)) (by (with_reducible repeat (first | refine blk_drewN ?_ _ | refine blk_drew ?_ | refine blk_alloc ?_ _)); exact BK189.out)) : gb189 ≠ gb191)); have n6_ := aM_ ((by rw [hg]; exact Nat.ne_of_gt (blk_lt (g := gb189) (o := .cells #[.int .i64 a0_0, .slice (some ad190) l0_1.length c0_1] 24 (0, 0)) (by (with_reducible repeat (first | refine blk_drewN ?_ _ | refine blk_drew ?_ | refine blk_alloc ?_ _)); exact BK189.out)) : gb191 ≠ gb189)); clear BK189; clear HB; have BK189 := n0_; have HB := n1_; have BK191 := n2_; have GW191 := n3_; have GE191 := n4_; have NB189_191 := n5_; have NB191_189 := n6_; clear n0_ n1_ n2_ n3_ n4_ n5_ n6_; clear hb hbox hg; have hnb17 := NB191_189.out; have hnc17 := NB189_191.out; have hcz18_0 : w16.cell? ⟨gb191, 0, none⟩ = some (.int .i64 0) := (blk_cell BK191.out 0).trans rfl; have hcz18_1 : w16.cell? ⟨gb191, 1, none⟩ = some (.int .i64 0) := (blk_cell BK191.out 1).trans rfl; have hfz18_0 := blk_frozen BK191.out 0; have hfz18_1 := blk_frozen BK191.out 1))
         (try simp only [Act.put, uA_, uB_, uC_])
         go_cut [50] (fun v50 wc => ∃ (kq : Nat) (x50_13 : Bool), v50 = .bool x50_13 ∧ Aside0 (r4_Check.j2 kq x3_2 x50_13 a0_0 l0_1 ((rd_T53 l0_1 x3_2).f0) ((rd_T53 l0_1 x3_2).f1) = some r) ∧ Aside0 (kq ≤ k2) ∧ Aside0 (wc.heap[gb189]? = some (.cells #[.int .i64 a0_0, (.slice (some ad190) l0_1.length c0_1)] 24 (0, 0))) ∧ Aside0 (wc.heap[gb191]? = some (.cells #[.int .i64 ((rd_T53 l0_1 x3_2).f0), .int .i64 ((rd_T53 l0_1 x3_2).f1)] 53 (0, 0))) ∧ Aside0 (Below w.heap.size w wc))
         case first =>
          have H := HC14.out
          clear HC14
          by_cases c19 : ((rd_T53 l0_1 x3_2).f0) < 0
          ·rw [if_pos c19] at H
           have c19b0 : decide (((rd_T53 l0_1 x3_2).f0) < 0) = true := decide_eq_true c19
           clear c19
           (first | rw [c19b0] | (simp only [i64_w, i32_w]; rw [c19b0]) | skip)
           have H' := aM_ H
           clear H
           have hnb20 := NB191_189.out
           have hnc20 := NB189_191.out
           have hcz21_0 : w16.cell? ⟨gb191, 0, none⟩ = some (.int .i64 0) := (blk_cell BK191.out 0).trans rfl
           have hcz21_1 : w16.cell? ⟨gb191, 1, none⟩ = some (.int .i64 0) := (blk_cell BK191.out 1).trans rfl
           have hfz21_0 := blk_frozen BK191.out 0
           have hfz21_1 := blk_frozen BK191.out 1
           go_wp2
           go_meet
           case rel => exact ⟨_, (true), (by first | rfl | (simp; done) | (simp [*]; done)), H', ⟨by have := HJ4.out; have := HK2.out; first | omega | exact Nat.le_refl _⟩, ⟨by (with_reducible repeat (first | refine blk_drewN ?_ _ | refine blk_drew ?_ | refine blk_alloc ?_ _)); refine blk_far ?_ NB189_191.out _; (with_reducible repeat (first | refine blk_drewN ?_ _ | refine blk_drew ?_ | refine blk_alloc ?_ _)); refine blk_far ?_ NB189_191.out _; (with_reducible repeat (first | refine blk_drewN ?_ _ | refine blk_drew ?_ | refine blk_alloc ?_ _)); exact BK189.out⟩, ⟨by (with_reducible repeat (first | refine blk_drewN ?_ _ | refine blk_drew ?_ | refine blk_alloc ?_ _)); refine blk_put (cs := #[.int .i64 ((rd_T53 l0_1 x3_2).f0), .int .i64 0]) ?_ 1 _ rfl; (with_reducible repeat (first | refine blk_drewN ?_ _ | refine blk_drew ?_ | refine blk_alloc ?_ _)); refine blk_put (cs := #[.int .i64 0, .int .i64 0]) ?_ 0 _ rfl; (with_reducible repeat (first | refine blk_drewN ?_ _ | refine blk_drew ?_ | refine blk_alloc ?_ _)); exact BK191.out⟩, ⟨by repeat (first | (with_reducible first | exact HB.out | apply bA_ | apply bB_ | apply bC_ | refine below_set ?_ GE189.out | refine below_set ?_ GE191.out) | exact HB.out)⟩⟩
          ·rw [if_neg c19] at H
           have c19b0 : decide (((rd_T53 l0_1 x3_2).f0) < 0) = false := decide_eq_false c19
           clear c19
           (first | rw [c19b0] | (simp only [i64_w, i32_w]; rw [c19b0]) | skip)
           by_cases c22 : ((rd_T53 l0_1 x3_2).f0) ≥ a0_0
           ·rw [if_pos c22] at H
            have c22b0 : decide (a0_0 ≤ ((rd_T53 l0_1 x3_2).f0)) = true := decide_eq_true c22
            clear c22
            have H' := aM_ H
            clear H
            have hnb23 := NB191_189.out
            have hnc23 := NB189_191.out
            have hcz24_0 : w16.cell? ⟨gb191, 0, none⟩ = some (.int .i64 0) := (blk_cell BK191.out 0).trans rfl
            have hcz24_1 : w16.cell? ⟨gb191, 1, none⟩ = some (.int .i64 0) := (blk_cell BK191.out 1).trans rfl
            have hfz24_0 := blk_frozen BK191.out 0
            have hfz24_1 := blk_frozen BK191.out 1
            have hcz25_0 : w16.cell? ⟨gb189, 0, none⟩ = some (.int .i64 a0_0) := (blk_cell BK189.out 0).trans rfl
            have hcz25_1 : w16.cell? ⟨gb189, 1, none⟩ = some (.slice (some ad190) l0_1.length c0_1) := (blk_cell BK189.out 1).trans rfl
            have hfz25_0 := blk_frozen BK189.out 0
            have hfz25_1 := blk_frozen BK189.out 1
            go_wp2
            go_meet
            case rel => exact ⟨_, (true), (by first | rfl | (simp; done) | (simp [*]; done)), H', ⟨by have := HJ4.out; have := HK2.out; first | omega | exact Nat.le_refl _⟩, ⟨by (with_reducible repeat (first | refine blk_drewN ?_ _ | refine blk_drew ?_ | refine blk_alloc ?_ _)); refine blk_far ?_ NB189_191.out _; (with_reducible repeat (first | refine blk_drewN ?_ _ | refine blk_drew ?_ | refine blk_alloc ?_ _)); refine blk_far ?_ NB189_191.out _; (with_reducible repeat (first | refine blk_drewN ?_ _ | refine blk_drew ?_ | refine blk_alloc ?_ _)); exact BK189.out⟩, ⟨by (with_reducible repeat (first | refine blk_drewN ?_ _ | refine blk_drew ?_ | refine blk_alloc ?_ _)); refine blk_put (cs := #[.int .i64 ((rd_T53 l0_1 x3_2).f0), .int .i64 0]) ?_ 1 _ rfl; (with_reducible repeat (first | refine blk_drewN ?_ _ | refine blk_drew ?_ | refine blk_alloc ?_ _)); refine blk_put (cs := #[.int .i64 0, .int .i64 0]) ?_ 0 _ rfl; (with_reducible repeat (first | refine blk_drewN ?_ _ | refine blk_drew ?_ | refine blk_alloc ?_ _)); exact BK191.out⟩, ⟨by repeat (first | (with_reducible first | exact HB.out | apply bA_ | apply bB_ | apply bC_ | refine below_set ?_ GE189.out | refine below_set ?_ GE191.out) | exact HB.out)⟩⟩
           ·rw [if_neg c22] at H
            have c22b0 : decide (a0_0 ≤ ((rd_T53 l0_1 x3_2).f0)) = false := decide_eq_false c22
            clear c22
            by_cases c26 : ((rd_T53 l0_1 x3_2).f1) < 0
            ·rw [if_pos c26] at H
             have c26b0 : decide (((rd_T53 l0_1 x3_2).f1) < 0) = true := decide_eq_true c26
             clear c26
             have H' := aM_ H
             clear H
             have hnb27 := NB191_189.out
             have hnc27 := NB189_191.out
             have hcz28_0 : w16.cell? ⟨gb191, 0, none⟩ = some (.int .i64 0) := (blk_cell BK191.out 0).trans rfl
             have hcz28_1 : w16.cell? ⟨gb191, 1, none⟩ = some (.int .i64 0) := (blk_cell BK191.out 1).trans rfl
             have hfz28_0 := blk_frozen BK191.out 0
             have hfz28_1 := blk_frozen BK191.out 1
             have hcz29_0 : w16.cell? ⟨gb189, 0, none⟩ = some (.int .i64 a0_0) := (blk_cell BK189.out 0).trans rfl
             have hcz29_1 : w16.cell? ⟨gb189, 1, none⟩ = some (.slice (some ad190) l0_1.length c0_1) := (blk_cell BK189.out 1).trans rfl
             have hfz29_0 := blk_frozen BK189.out 0
             have hfz29_1 := blk_frozen BK189.out 1
             go_wp2
             go_meet
             case rel => exact ⟨_, (true), (by first | rfl | (simp; done) | (simp [*]; done)), H', ⟨by have := HJ4.out; have := HK2.out; first | omega | exact Nat.le_refl _⟩, ⟨by (with_reducible repeat (first | refine blk_drewN ?_ _ | refine blk_drew ?_ | refine blk_alloc ?_ _)); refine blk_far ?_ NB189_191.out _; (with_reducible repeat (first | refine blk_drewN ?_ _ | refine blk_drew ?_ | refine blk_alloc ?_ _)); refine blk_far ?_ NB189_191.out _; (with_reducible repeat (first | refine blk_drewN ?_ _ | refine blk_drew ?_ | refine blk_alloc ?_ _)); exact BK189.out⟩, ⟨by (with_reducible repeat (first | refine blk_drewN ?_ _ | refine blk_drew ?_ | refine blk_alloc ?_ _)); refine blk_put (cs := #[.int .i64 ((rd_T53 l0_1 x3_2).f0), .int .i64 0]) ?_ 1 _ rfl; (with_reducible repeat (first | refine blk_drewN ?_ _ | refine blk_drew ?_ | refine blk_alloc ?_ _)); refine blk_put (cs := #[.int .i64 0, .int .i64 0]) ?_ 0 _ rfl; (with_reducible repeat (first | refine blk_drewN ?_ _ | refine blk_drew ?_ | refine blk_alloc ?_ _)); exact BK191.out⟩, ⟨by repeat (first | (with_reducible first | exact HB.out | apply bA_ | apply bB_ | apply bC_ | refine below_set ?_ GE189.out | refine below_set ?_ GE191.out) | exact HB.out)⟩⟩
            ·rw [if_neg c26] at H
             have c26b0 : decide (((rd_T53 l0_1 x3_2).f1) < 0) = false := decide_eq_false c26
             clear c26
             have H' := aM_ H
             clear H
             have hnb30 := NB191_189.out
             have hnc30 := NB189_191.out
             have hcz31_0 : w16.cell? ⟨gb191, 0, none⟩ = some (.int .i64 0) := (blk_cell BK191.out 0).trans rfl
             have hcz31_1 : w16.cell? ⟨gb191, 1, none⟩ = some (.int .i64 0) := (blk_cell BK191.out 1).trans rfl
             have hfz31_0 := blk_frozen BK191.out 0
             have hfz31_1 := blk_frozen BK191.out 1
             have hcz32_0 : w16.cell? ⟨gb189, 0, none⟩ = some (.int .i64 a0_0) := (blk_cell BK189.out 0).trans rfl
             have hcz32_1 : w16.cell? ⟨gb189, 1, none⟩ = some (.slice (some ad190) l0_1.length c0_1) := (blk_cell BK189.out 1).trans rfl
             have hfz32_0 := blk_frozen BK189.out 0
             have hfz32_1 := blk_frozen BK189.out 1
             go_wp2
             go_meet
             case rel => exact ⟨_, (decide (((rd_T53 l0_1 x3_2).f1) ≥ a0_0)), (by first | rfl | (simp; done) | (simp [*]; done)), H', ⟨by have := HJ4.out; have := HK2.out; first | omega | exact Nat.le_refl _⟩, ⟨by (with_reducible repeat (first | refine blk_drewN ?_ _ | refine blk_drew ?_ | refine blk_alloc ?_ _)); refine blk_far ?_ NB189_191.out _; (with_reducible repeat (first | refine blk_drewN ?_ _ | refine blk_drew ?_ | refine blk_alloc ?_ _)); refine blk_far ?_ NB189_191.out _; (with_reducible repeat (first | refine blk_drewN ?_ _ | refine blk_drew ?_ | refine blk_alloc ?_ _)); exact BK189.out⟩, ⟨by (with_reducible repeat (first | refine blk_drewN ?_ _ | refine blk_drew ?_ | refine blk_alloc ?_ _)); refine blk_put (cs := #[.int .i64 ((rd_T53 l0_1 x3_2).f0), .int .i64 0]) ?_ 1 _ rfl; (with_reducible repeat (first | refine blk_drewN ?_ _ | refine blk_drew ?_ | refine blk_alloc ?_ _)); refine blk_put (cs := #[.int .i64 0, .int .i64 0]) ?_ 0 _ rfl; (with_reducible repeat (first | refine blk_drewN ?_ _ | refine blk_drew ?_ | refine blk_alloc ?_ _)); exact BK191.out⟩, ⟨by repeat (first | (with_reducible first | exact HB.out | apply bA_ | apply bB_ | apply bC_ | refine below_set ?_ GE189.out | refine below_set ?_ GE191.out) | exact HB.out)⟩⟩
         case rest =>
          clear HC14
          try clear c1
          try clear p1
          try clear q1
          try clear hx1
          try clear c2
          try clear c2b0
          try clear p2
          try clear c3
          try clear c8
          try clear c8b0
          try clear c11
          try clear c12
          try clear c12b0
          try clear c13
          try clear c13b0
          try clear c17
          try clear c19
          try clear c19b0
          try clear p19
          try clear q19
          try clear hx19
          try clear c20
          try clear c22
          try clear c22b0
          try clear c23
          try clear c26
          try clear c26b0
          try clear c27
          try clear c30
          try clear hcz10_0
          try clear hcz10_1
          try clear hcz15_0
          try clear hcz15_1
          try clear hcz18_0
          try clear hcz18_1
          try clear hcz21_0
          try clear hcz21_1
          try clear hcz24_0
          try clear hcz24_1
          try clear hcz25_0
          try clear hcz25_1
          try clear hcz28_0
          try clear hcz28_1
          try clear hcz29_0
          try clear hcz29_1
          try clear hcz31_0
          try clear hcz31_1
          try clear hcz32_0
          try clear hcz32_1
          try clear hcz4_0
          try clear hcz4_1
          try clear hcz7_0
          try clear hcz7_1
          try clear hcz9_0
          try clear hcz9_1
          try clear hfz10_0
          try clear hfz10_1
          try clear hfz15_0
          try clear hfz15_1
          try clear hfz18_0
          try clear hfz18_1
          try clear hfz21_0
          try clear hfz21_1
          try clear hfz24_0
          try clear hfz24_1
          try clear hfz25_0
          try clear hfz25_1
          try clear hfz28_0
          try clear hfz28_1
          try clear hfz29_0
          try clear hfz29_1
          try clear hfz31_0
          try clear hfz31_1
          try clear hfz32_0
          try clear hfz32_1
          try clear hfz4_0
          try clear hfz4_1
          try clear hfz7_0
          try clear hfz7_1
          try clear hfz9_0
          try clear hfz9_1
          try clear hx190_0
          try clear hx190_1
          try clear p190
          try clear p2
          try clear q190
          obtain ⟨kq, x50_13, rfl, HA, HJ13, BK189, BK191, HB⟩ := hcut
          cases kq with
          | zero => exact absurd HA.out (by simp [r4_Check.j2])
          | succ kj13 =>
           have H := HA.out
           clear HA
           simp only [r4_Check.j2] at H
           by_cases c33 : x50_13 = true
           ·subst c33
            have H1 : (some 4) = some r := by rw [if_pos rfl] at H; exact H
            clear H
            have H := H1
            clear H1
            obtain rfl := Option.some.inj H
            go_wp2
            go_ret
            exact ⟨by first | rfl | (simp [errW_none, errW_some] <;> rfl) | (simp [*, errW_none, errW_some] <;> rfl), by repeat (first | (with_reducible first | exact HB.out | apply bA_ | apply bB_ | apply bC_ | refine below_set ?_ GE189.out | refine below_set ?_ GE191.out) | exact HB.out)⟩
           ·replace c33 := Bool.eq_false_iff.mpr c33
            subst c33
            have H1 : (if x3_2 > 0 then (if 0 ≤ (wrap64 (x3_2 - 1)) then (if (wrap64 (x3_2 - 1)) < (l0_1.length : Int) then ((r4_less.f ((rd_T53 l0_1 (wrap64 (x3_2 - 1))).f0) ((rd_T53 l0_1 (wrap64 (x3_2 - 1))).f1) ((rd_T53 l0_1 x3_2).f0) ((rd_T53 l0_1 x3_2).f1)).bind fun t193 => (if t193 = true then (r4_Check.l0 kj13 (wrap64 (x3_2 + 1)) a0_0 l0_1) else (some 13))) else (none)) else (none)) else (r4_Check.l0 kj13 (wrap64 (x3_2 + 1)) a0_0 l0_1)) = some r := by rw [if_neg (show ¬ (false = true) by decide)] at H; exact H
            clear H
            have H := H1
            clear H1
            by_cases c34 : x3_2 > 0
            ·rw [if_pos c34] at H
             have c34b0 : decide (0 < x3_2) = true := decide_eq_true c34
             clear c34
             obtain ⟨ji35, hji35⟩ : ∃ j_ : Int, (wrap64 (x3_2 - 1)) = j_ := ⟨_, rfl⟩
             replace H : (if 0 ≤ (ji35) then (if (ji35) < (l0_1.length : Int) then ((r4_less.f ((rd_T53 l0_1 (ji35)).f0) ((rd_T53 l0_1 (ji35)).f1) ((rd_T53 l0_1 x3_2).f0) ((rd_T53 l0_1 x3_2).f1)).bind fun t193 => (if t193 = true then (r4_Check.l0 kj13 (wrap64 (x3_2 + 1)) a0_0 l0_1) else (some 13))) else (none)) else (none)) = some r := by first | (rw [hji35] at H; exact H) | (simp only [hji35] at H ⊢; exact H)
             have hji35w : (IntKind.i64.wrap (x3_2 - 1)) = ji35 := (i64_w _).trans hji35
             by_cases c36 : 0 ≤ (ji35)
             ·rw [if_pos c36] at H
              have c36b0 : decide (0 ≤ (ji35)) = true := decide_eq_true c36
              clear c36
              by_cases c37 : (ji35) < (l0_1.length : Int)
              ·rw [if_pos c37] at H
               have c37b0 : decide ((ji35) < (l0_1.length : Int)) = true := decide_eq_true c37
               clear c37
               replace H := Option.bind_eq_some_iff.mp H
               obtain ⟨t193, A380, H⟩ := H
               replace H : (if t193 = true then (r4_Check.l0 kj13 (wrap64 (x3_2 + 1)) a0_0 l0_1) else (some 13)) = some r := H
               have A38 := aM_ A380
               clear A380
               by_cases c39 : t193 = true
               ·subst c39
                have H1 : (r4_Check.l0 kj13 (wrap64 (x3_2 + 1)) a0_0 l0_1) = some r := by rw [if_pos rfl] at H; exact H
                clear H
                have H := H1
                clear H1
                have H' := aM_ H
                clear H
                try go_wp2
                have n0_ := aM_ (blk_drew BK189.out)
                have n1_ := aM_ (blk_drew BK191.out)
                have n2_ := aM_ (below_drew1 HB.out)
                clear BK189
                clear BK191
                clear HB
                have BK189 := n0_
                have BK191 := n1_
                have HB := n2_
                clear n0_ n1_ n2_
                have p192 : 0 ≤ ((ji35) : Int) := of_decide_eq_true (by assumption)
                have q192 : (ji35) < (l0_1.length : Int) := of_decide_eq_true (by assumption)
                obtain ⟨ad192, e192, hx192_0, hx192_1⟩ := at_T53 HR0_1.out (ji35) p192 q192
                have hw192_1 := hx192_1
                have hw192_0 := hx192_0
                obtain rfl : ad190 = ad192 := (by injection e192)
                replace hx192_0 := (HB.out.cell (World.block_lt_of_cell? w _ hx192_0)).trans hx192_0
                replace hx192_1 := (HB.out.cell (World.block_lt_of_cell? w _ hx192_1)).trans hx192_1
                replace p192 := eq_true p192
                replace q192 := eq_true q192
                refine start_ (n := 13) (S := fun w' => w'.cell? ⟨gb189, 0, none⟩ = some (.int .i64 a0_0) ∧ w'.cell? ⟨gb189, 1, none⟩ = some (.slice (some ad190) l0_1.length c0_1) ∧ w'.cell? ⟨gb191, 0, none⟩ = some (.int .i64 ((rd_T53 l0_1 x3_2).f0)) ∧ w'.cell? ⟨gb191, 1, none⟩ = some (.int .i64 ((rd_T53 l0_1 x3_2).f1)) ∧ w'.cell? (ad190.add (((ji35)).toNat * 2)) = some (.int .i64 ((rd_T53 l0_1 (ji35)).f0)) ∧ w'.cell? ⟨(ad190.add (((ji35)).toNat * 2)).block, (ad190.add (((ji35)).toNat * 2)).off + 1, none⟩ = some (.int .i64 ((rd_T53 l0_1 (ji35)).f1))) (ds := []) #[f_,f_,f_,f_,f_,f_,f_,f_,f_,f_,f_,f_,f_] (by kernel_rfl) rfl rfl ⟨(blk_cell BK189.out 0).trans rfl, (blk_cell BK189.out 1).trans rfl, (blk_cell BK191.out 0).trans rfl, (blk_cell BK191.out 1).trans rfl, ((HB.out.cell (World.block_lt_of_cell? w _ hw192_0)).trans hw192_0), ((HB.out.cell (World.block_lt_of_cell? w _ hw192_1)).trans hw192_1)⟩ (fun hHeld => ?_); refine with_tabW r4_Check.tab11 r4_Check.bits11 (fun HT_ HW_ => ?_)
                generalize wc.drew = w40 at BK189 BK191 HB hx192_0 hx192_1 hHeld ⊢
                refine pure_ (i := 0) (N := some 51) (v := ?_) (a' := ?_) #[t_,f_,f_,f_,f_,f_,f_,f_,f_,f_,f_,f_,f_] rfl rfl (any_of HT_.out (by kernel_rfl)) (fun _ _ _ h => h) (Or.inl ⟨by rfl, ?_⟩) ?_ ?_
                rotate_left
                ·intro w'
                 go_simp
                 with_reducible rfl
                rotate_left
                ·simp only [Act.put,uA_,uB_,uC_,i64_w,i32_w]
                 rfl
                refine pure_ (i := 1) (N := some 52) (v := ?_) (a' := ?_) #[t_,t_,f_,f_,f_,f_,f_,f_,f_,f_,f_,f_,f_] rfl rfl (any_of HT_.out (by kernel_rfl)) (fun _ _ _ h => h) (Or.inl ⟨by rfl, ?_⟩) ?_ ?_
                rotate_left
                ·intro w'
                 go_simp
                 with_reducible rfl
                rotate_left
                ·simp only [Act.put,uA_,uB_,uC_,i64_w,i32_w]
                 rfl
                refine pure_ (i := 2) (N := some 53) (v := ?_) (a' := ?_) #[t_,t_,t_,f_,f_,f_,f_,f_,f_,f_,f_,f_,f_] rfl rfl (any_of HT_.out (by kernel_rfl)) (fun _ _ _ h => h) (Or.inl ⟨by rfl, ?_⟩) ?_ ?_
                rotate_left
                ·intro w'
                 go_simp
                 with_reducible rfl
                rotate_left
                ·simp only [Act.put,uA_,uB_,uC_,i64_w,i32_w]
                 rfl
                refine pure_ (i := 3) (N := some 54) (v := ?_) (a' := ?_) #[t_,t_,t_,t_,f_,f_,f_,f_,f_,f_,f_,f_,f_] rfl rfl (any_of HT_.out (by kernel_rfl)) (fun _ _ _ h => h) (Or.inl ⟨by rfl, ?_⟩) ?_ ?_
                rotate_left
                ·intro w'
                 go_simp
                 with_reducible rfl
                rotate_left
                ·simp only [Act.put,uA_,uB_,uC_,i64_w,i32_w]
                 rfl
                refine pure_ (i := 5) (N := some 56) (v := ?_) (a' := ?_) #[t_,t_,t_,t_,f_,t_,f_,f_,f_,f_,f_,f_,f_] rfl rfl (any_of HT_.out (by kernel_rfl)) (fun _ _ _ h => h) (Or.inl ⟨by rfl, ?_⟩) ?_ ?_
                rotate_left
                ·intro w'
                 go_simp
                 with_reducible rfl
                rotate_left
                ·simp only [Act.put,uA_,uB_,uC_,i64_w,i32_w]
                 rfl
                refine pure_ (i := 6) (N := some 57) (v := ?_) (a' := ?_) #[t_,t_,t_,t_,f_,t_,t_,f_,f_,f_,f_,f_,f_] rfl rfl (any_of HT_.out (by kernel_rfl)) (fun _ _ _ h => h) (Or.inl ⟨by rfl, ?_⟩) ?_ ?_
                rotate_left
                ·intro w'
                 go_simp
                 with_reducible rfl
                rotate_left
                ·simp only [Act.put,uA_,uB_,uC_,i64_w,i32_w]
                 rfl
                refine take_ (i := 4) (N := some 55) (v := ?_) (a' := ?_) #[t_,t_,t_,t_,t_,t_,t_,f_,f_,f_,f_,f_,f_] rfl rfl (take_ofW HT_.out HW_.out (by kernel_rfl)) (fun _ _ _ h => h) (Or.inl ⟨by rfl, ?_⟩) hHeld ?_ ?_
                rotate_left
                ·rintro w' ⟨s0, s1, s2, s3, s4, s5⟩
                 go_simp
                 with_reducible rfl
                rotate_left
                ·simp only [Act.put,uA_,uB_,uC_,i64_w,i32_w]
                 rfl
                refine pure_ (i := 7) (N := some 58) (v := ?_) (a' := ?_) #[t_,t_,t_,t_,t_,t_,t_,t_,f_,f_,f_,f_,f_] rfl rfl (any_of HT_.out (by kernel_rfl)) (fun _ _ _ h => h) (Or.inl ⟨by rfl, ?_⟩) ?_ ?_
                rotate_left
                ·intro w'
                 go_simp
                 with_reducible rfl
                rotate_left
                ·simp only [Act.put,uA_,uB_,uC_,i64_w,i32_w]
                 rfl
                refine take_ (i := 8) (N := some 59) (v := ?_) (a' := ?_) #[t_,t_,t_,t_,t_,t_,t_,t_,t_,f_,f_,f_,f_] rfl rfl (take_ofW HT_.out HW_.out (by kernel_rfl)) (fun _ _ _ h => h) (Or.inl ⟨by rfl, ?_⟩) hHeld ?_ ?_
                rotate_left
                ·rintro w' ⟨s0, s1, s2, s3, s4, s5⟩
                 go_simp
                 with_reducible rfl
                rotate_left
                ·simp only [Act.put,uA_,uB_,uC_,i64_w,i32_w]
                 rfl
                refine take_ (i := 9) (N := some 60) (v := ?_) (a' := ?_) #[t_,t_,t_,t_,t_,t_,t_,t_,t_,t_,f_,f_,f_] rfl rfl (take_ofW HT_.out HW_.out (by kernel_rfl)) (fun _ _ _ h => h) (Or.inl ⟨by rfl, ?_⟩) hHeld ?_ ?_
                rotate_left
                ·rintro w' ⟨s0, s1, s2, s3, s4, s5⟩
                 go_simp
                 with_reducible rfl
                rotate_left
                ·simp only [Act.put,uA_,uB_,uC_,i64_w,i32_w]
                 rfl
                refine one_ (i := 10) (N := some 61) #[t_,t_,t_,t_,t_,t_,t_,t_,t_,t_,t_,f_,f_] rfl rfl (one_of HT_.out (by kernel_rfl)) (by decide) (fun K hK => ?_)
                refine goes_ Tryd.func74 (by kernel_rfl) rfl #[.agg #[.int .i64 ((rd_T53 l0_1 (ji35)).f0), .int .i64 ((rd_T53 l0_1 (ji35)).f1)], .agg #[.int .i64 ((rd_T53 l0_1 x3_2).f0), .int .i64 ((rd_T53 l0_1 x3_2).f1)]] (by rfl) rfl rfl (by (try simp only [List.map_toArray, List.map_cons, List.map_nil]); first | done | (simp only [hji35]; rfl) | rfl | (simp only [List.length_drop, List.length_take]; rfl)) ?_
                with_reducible refine (r4_less.calls ((rd_T53 l0_1 (ji35)).f0) ((rd_T53 l0_1 (ji35)).f1) ((rd_T53 l0_1 x3_2).f0) ((rd_T53 l0_1 x3_2).f1) true _ A38.out).mono ?_
                rintro e w41 ⟨rfl, hb⟩
                refine ⟨_, rfl, ?_⟩
                have n0_ := aM_ (blk_below (g := gb189) (o := .cells #[.int .i64 a0_0, .slice (some ad190) l0_1.length c0_1] 24 (0, 0)) (by (with_reducible repeat (first | refine blk_drewN ?_ _ | refine blk_drew ?_ | refine blk_alloc ?_ _)); exact BK189.out) hb)
                have n1_ := aM_ (blk_below (g := gb191) (o := .cells #[.int .i64 ((rd_T53 l0_1 x3_2).f0), .int .i64 ((rd_T53 l0_1 x3_2).f1)] 53 (0, 0)) (by (with_reducible repeat (first | refine blk_drewN ?_ _ | refine blk_drew ?_ | refine blk_alloc ?_ _)); exact BK191.out) hb)
                have n2_ := aM_ (below_step (by repeat (first | (with_reducible first | exact HB.out | apply bA_ | apply bB_ | apply bC_ | refine below_set ?_ GE189.out | refine below_set ?_ GE191.out) | exact HB.out)) hb)
                clear BK189
                clear BK191
                clear HB
                have BK189 := n0_
                have BK191 := n1_
                have HB := n2_
                clear n0_ n1_ n2_
                (try clear hb)
                (try clear hb2)
                (try clear hk)
                (try clear hi)
                refine hK.out _ _ ⟨(blk_cell BK189.out 0).trans rfl, (blk_cell BK189.out 1).trans rfl, (blk_cell BK191.out 0).trans rfl, (blk_cell BK191.out 1).trans rfl, ((HB.out.cell (World.block_lt_of_cell? w _ hw192_0)).trans hw192_0), ((HB.out.cell (World.block_lt_of_cell? w _ hw192_1)).trans hw192_1)⟩ (fun hHeld => ?_)
                clear hK K
                refine norm_ (a' := ?_) ?_ ?_
                rotate_left
                ·show Act.put _ (some 61) _ = _
                 simp only [Act.put,uA_,uB_,uC_,i64_w,i32_w]
                 rfl
                refine pure_ (i := 11) (N := some 62) (v := ?_) (a' := ?_) #[t_,t_,t_,t_,t_,t_,t_,t_,t_,t_,t_,t_,f_] rfl rfl (any_of HT_.out (by kernel_rfl)) (fun _ _ _ h => h) (Or.inl ⟨by rfl, ?_⟩) ?_ ?_
                rotate_left
                ·intro w'
                 go_simp
                 with_reducible rfl
                rotate_left
                ·simp only [Act.put,uA_,uB_,uC_,i64_w,i32_w]
                 rfl
                refine pure_ (i := 12) (N := some 63) (v := ?_) (a' := ?_) #[t_,t_,t_,t_,t_,t_,t_,t_,t_,t_,t_,t_,t_] rfl rfl (any_of HT_.out (by kernel_rfl)) (fun _ _ _ h => h) (Or.inl ⟨by rfl, ?_⟩) ?_ ?_
                rotate_left
                ·intro w'
                 go_simp
                 with_reducible rfl
                rotate_left
                ·simp only [Act.put,uA_,uB_,uC_,i64_w,i32_w]
                 rfl
                refine done_ (done_of HT_.out (by kernel_rfl)) ?_
                try go_wp2
                go_roundg kj13
                case measure => have := HJ4.out; have := HK2.out; have := HJ13.out; omega
                case rel => exact ⟨(wrap64 (x3_2 + 1)), (by first | rfl | (simp; done) | (simp [*]; done)), H', ⟨by have := HJ4.out; have := HK2.out; have := HJ13.out; omega⟩, ⟨by (with_reducible repeat (first | refine blk_drewN ?_ _ | refine blk_drew ?_ | refine blk_alloc ?_ _)); exact BK189.out⟩, ⟨by repeat (first | (with_reducible first | exact HB.out | apply bA_ | apply bB_ | apply bC_ | refine below_set ?_ GE189.out | refine below_set ?_ GE191.out) | exact HB.out)⟩⟩
               ·replace c39 := Bool.eq_false_iff.mpr c39
                subst c39
                have H1 : (some 13) = some r := by rw [if_neg (show ¬ (false = true) by decide)] at H; exact H
                clear H
                have H := H1
                clear H1
                obtain rfl := Option.some.inj H
                try go_wp2
                have n0_ := aM_ (blk_drew BK189.out)
                have n1_ := aM_ (blk_drew BK191.out)
                have n2_ := aM_ (below_drew1 HB.out)
                clear BK189
                clear BK191
                clear HB
                have BK189 := n0_
                have BK191 := n1_
                have HB := n2_
                clear n0_ n1_ n2_
                have p192 : 0 ≤ ((ji35) : Int) := of_decide_eq_true (by assumption)
                have q192 : (ji35) < (l0_1.length : Int) := of_decide_eq_true (by assumption)
                obtain ⟨ad192, e192, hx192_0, hx192_1⟩ := at_T53 HR0_1.out (ji35) p192 q192
                have hw192_1 := hx192_1
                have hw192_0 := hx192_0
                obtain rfl : ad190 = ad192 := (by injection e192)
                replace hx192_0 := (HB.out.cell (World.block_lt_of_cell? w _ hx192_0)).trans hx192_0
                replace hx192_1 := (HB.out.cell (World.block_lt_of_cell? w _ hx192_1)).trans hx192_1
                replace p192 := eq_true p192
                replace q192 := eq_true q192
                refine start_ (n := 13) (S := fun w' => w'.cell? ⟨gb189, 0, none⟩ = some (.int .i64 a0_0) ∧ w'.cell? ⟨gb189, 1, none⟩ = some (.slice (some ad190) l0_1.length c0_1) ∧ w'.cell? ⟨gb191, 0, none⟩ = some (.int .i64 ((rd_T53 l0_1 x3_2).f0)) ∧ w'.cell? ⟨gb191, 1, none⟩ = some (.int .i64 ((rd_T53 l0_1 x3_2).f1)) ∧ w'.cell? (ad190.add (((ji35)).toNat * 2)) = some (.int .i64 ((rd_T53 l0_1 (ji35)).f0)) ∧ w'.cell? ⟨(ad190.add (((ji35)).toNat * 2)).block, (ad190.add (((ji35)).toNat * 2)).off + 1, none⟩ = some (.int .i64 ((rd_T53 l0_1 (ji35)).f1))) (ds := []) #[f_,f_,f_,f_,f_,f_,f_,f_,f_,f_,f_,f_,f_] (by kernel_rfl) rfl rfl ⟨(blk_cell BK189.out 0).trans rfl, (blk_cell BK189.out 1).trans rfl, (blk_cell BK191.out 0).trans rfl, (blk_cell BK191.out 1).trans rfl, ((HB.out.cell (World.block_lt_of_cell? w _ hw192_0)).trans hw192_0), ((HB.out.cell (World.block_lt_of_cell? w _ hw192_1)).trans hw192_1)⟩ (fun hHeld => ?_); refine with_tabW r4_Check.tab11 r4_Check.bits11 (fun HT_ HW_ => ?_)
                generalize wc.drew = w42 at BK189 BK191 HB hx192_0 hx192_1 hHeld ⊢
                refine pure_ (i := 0) (N := some 51) (v := ?_) (a' := ?_) #[t_,f_,f_,f_,f_,f_,f_,f_,f_,f_,f_,f_,f_] rfl rfl (any_of HT_.out (by kernel_rfl)) (fun _ _ _ h => h) (Or.inl ⟨by rfl, ?_⟩) ?_ ?_
                rotate_left
                ·intro w'
                 go_simp
                 with_reducible rfl
                rotate_left
                ·simp only [Act.put,uA_,uB_,uC_,i64_w,i32_w]
                 rfl
                refine pure_ (i := 1) (N := some 52) (v := ?_) (a' := ?_) #[t_,t_,f_,f_,f_,f_,f_,f_,f_,f_,f_,f_,f_] rfl rfl (any_of HT_.out (by kernel_rfl)) (fun _ _ _ h => h) (Or.inl ⟨by rfl, ?_⟩) ?_ ?_
                rotate_left
                ·intro w'
                 go_simp
                 with_reducible rfl
                rotate_left
                ·simp only [Act.put,uA_,uB_,uC_,i64_w,i32_w]
                 rfl
                refine pure_ (i := 2) (N := some 53) (v := ?_) (a' := ?_) #[t_,t_,t_,f_,f_,f_,f_,f_,f_,f_,f_,f_,f_] rfl rfl (any_of HT_.out (by kernel_rfl)) (fun _ _ _ h => h) (Or.inl ⟨by rfl, ?_⟩) ?_ ?_
                rotate_left
                ·intro w'
                 go_simp
                 with_reducible rfl
                rotate_left
                ·simp only [Act.put,uA_,uB_,uC_,i64_w,i32_w]
                 rfl
                refine pure_ (i := 3) (N := some 54) (v := ?_) (a' := ?_) #[t_,t_,t_,t_,f_,f_,f_,f_,f_,f_,f_,f_,f_] rfl rfl (any_of HT_.out (by kernel_rfl)) (fun _ _ _ h => h) (Or.inl ⟨by rfl, ?_⟩) ?_ ?_
                rotate_left
                ·intro w'
                 go_simp
                 with_reducible rfl
                rotate_left
                ·simp only [Act.put,uA_,uB_,uC_,i64_w,i32_w]
                 rfl
                refine pure_ (i := 5) (N := some 56) (v := ?_) (a' := ?_) #[t_,t_,t_,t_,f_,t_,f_,f_,f_,f_,f_,f_,f_] rfl rfl (any_of HT_.out (by kernel_rfl)) (fun _ _ _ h => h) (Or.inl ⟨by rfl, ?_⟩) ?_ ?_
                rotate_left
                ·intro w'
                 go_simp
                 with_reducible rfl
                rotate_left
                ·simp only [Act.put,uA_,uB_,uC_,i64_w,i32_w]
                 rfl
                refine pure_ (i := 6) (N := some 57) (v := ?_) (a' := ?_) #[t_,t_,t_,t_,f_,t_,t_,f_,f_,f_,f_,f_,f_] rfl rfl (any_of HT_.out (by kernel_rfl)) (fun _ _ _ h => h) (Or.inl ⟨by rfl, ?_⟩) ?_ ?_
                rotate_left
                ·intro w'
                 go_simp
                 with_reducible rfl
                rotate_left
                ·simp only [Act.put,uA_,uB_,uC_,i64_w,i32_w]
                 rfl
                refine take_ (i := 4) (N := some 55) (v := ?_) (a' := ?_) #[t_,t_,t_,t_,t_,t_,t_,f_,f_,f_,f_,f_,f_] rfl rfl (take_ofW HT_.out HW_.out (by kernel_rfl)) (fun _ _ _ h => h) (Or.inl ⟨by rfl, ?_⟩) hHeld ?_ ?_
                rotate_left
                ·rintro w' ⟨s0, s1, s2, s3, s4, s5⟩
                 go_simp
                 with_reducible rfl
                rotate_left
                ·simp only [Act.put,uA_,uB_,uC_,i64_w,i32_w]
                 rfl
                refine pure_ (i := 7) (N := some 58) (v := ?_) (a' := ?_) #[t_,t_,t_,t_,t_,t_,t_,t_,f_,f_,f_,f_,f_] rfl rfl (any_of HT_.out (by kernel_rfl)) (fun _ _ _ h => h) (Or.inl ⟨by rfl, ?_⟩) ?_ ?_
                rotate_left
                ·intro w'
                 go_simp
                 with_reducible rfl
                rotate_left
                ·simp only [Act.put,uA_,uB_,uC_,i64_w,i32_w]
                 rfl
                refine take_ (i := 8) (N := some 59) (v := ?_) (a' := ?_) #[t_,t_,t_,t_,t_,t_,t_,t_,t_,f_,f_,f_,f_] rfl rfl (take_ofW HT_.out HW_.out (by kernel_rfl)) (fun _ _ _ h => h) (Or.inl ⟨by rfl, ?_⟩) hHeld ?_ ?_
                rotate_left
                ·rintro w' ⟨s0, s1, s2, s3, s4, s5⟩
                 go_simp
                 with_reducible rfl
                rotate_left
                ·simp only [Act.put,uA_,uB_,uC_,i64_w,i32_w]
                 rfl
                refine take_ (i := 9) (N := some 60) (v := ?_) (a' := ?_) #[t_,t_,t_,t_,t_,t_,t_,t_,t_,t_,f_,f_,f_] rfl rfl (take_ofW HT_.out HW_.out (by kernel_rfl)) (fun _ _ _ h => h) (Or.inl ⟨by rfl, ?_⟩) hHeld ?_ ?_
                rotate_left
                ·rintro w' ⟨s0, s1, s2, s3, s4, s5⟩
                 go_simp
                 with_reducible rfl
                rotate_left
                ·simp only [Act.put,uA_,uB_,uC_,i64_w,i32_w]
                 rfl
                refine one_ (i := 10) (N := some 61) #[t_,t_,t_,t_,t_,t_,t_,t_,t_,t_,t_,f_,f_] rfl rfl (one_of HT_.out (by kernel_rfl)) (by decide) (fun K hK => ?_)
                refine goes_ Tryd.func74 (by kernel_rfl) rfl #[.agg #[.int .i64 ((rd_T53 l0_1 (ji35)).f0), .int .i64 ((rd_T53 l0_1 (ji35)).f1)], .agg #[.int .i64 ((rd_T53 l0_1 x3_2).f0), .int .i64 ((rd_T53 l0_1 x3_2).f1)]] (by rfl) rfl rfl (by (try simp only [List.map_toArray, List.map_cons, List.map_nil]); first | done | (simp only [hji35]; rfl) | rfl | (simp only [List.length_drop, List.length_take]; rfl)) ?_
                with_reducible refine (r4_less.calls ((rd_T53 l0_1 (ji35)).f0) ((rd_T53 l0_1 (ji35)).f1) ((rd_T53 l0_1 x3_2).f0) ((rd_T53 l0_1 x3_2).f1) false _ A38.out).mono ?_
                rintro e w43 ⟨rfl, hb⟩
                refine ⟨_, rfl, ?_⟩
                have n0_ := aM_ (blk_below (g := gb189) (o := .cells #[.int .i64 a0_0, .slice (some ad190) l0_1.length c0_1] 24 (0, 0)) (by (with_reducible repeat (first | refine blk_drewN ?_ _ | refine blk_drew ?_ | refine blk_alloc ?_ _)); exact BK189.out) hb)
                have n1_ := aM_ (blk_below (g := gb191) (o := .cells #[.int .i64 ((rd_T53 l0_1 x3_2).f0), .int .i64 ((rd_T53 l0_1 x3_2).f1)] 53 (0, 0)) (by (with_reducible repeat (first | refine blk_drewN ?_ _ | refine blk_drew ?_ | refine blk_alloc ?_ _)); exact BK191.out) hb)
                have n2_ := aM_ (below_step (by repeat (first | (with_reducible first | exact HB.out | apply bA_ | apply bB_ | apply bC_ | refine below_set ?_ GE189.out | refine below_set ?_ GE191.out) | exact HB.out)) hb)
                clear BK189
                clear BK191
                clear HB
                have BK189 := n0_
                have BK191 := n1_
                have HB := n2_
                clear n0_ n1_ n2_
                (try clear hb)
                (try clear hb2)
                (try clear hk)
                (try clear hi)
                refine hK.out _ _ ⟨(blk_cell BK189.out 0).trans rfl, (blk_cell BK189.out 1).trans rfl, (blk_cell BK191.out 0).trans rfl, (blk_cell BK191.out 1).trans rfl, ((HB.out.cell (World.block_lt_of_cell? w _ hw192_0)).trans hw192_0), ((HB.out.cell (World.block_lt_of_cell? w _ hw192_1)).trans hw192_1)⟩ (fun hHeld => ?_)
                clear hK K
                refine norm_ (a' := ?_) ?_ ?_
                rotate_left
                ·show Act.put _ (some 61) _ = _
                 simp only [Act.put,uA_,uB_,uC_,i64_w,i32_w]
                 rfl
                refine pure_ (i := 11) (N := some 62) (v := ?_) (a' := ?_) #[t_,t_,t_,t_,t_,t_,t_,t_,t_,t_,t_,t_,f_] rfl rfl (any_of HT_.out (by kernel_rfl)) (fun _ _ _ h => h) (Or.inl ⟨by rfl, ?_⟩) ?_ ?_
                rotate_left
                ·intro w'
                 go_simp
                 with_reducible rfl
                rotate_left
                ·simp only [Act.put,uA_,uB_,uC_,i64_w,i32_w]
                 rfl
                refine pure_ (i := 12) (N := some 63) (v := ?_) (a' := ?_) #[t_,t_,t_,t_,t_,t_,t_,t_,t_,t_,t_,t_,t_] rfl rfl (any_of HT_.out (by kernel_rfl)) (fun _ _ _ h => h) (Or.inl ⟨by rfl, ?_⟩) ?_ ?_
                rotate_left
                ·intro w'
                 go_simp
                 with_reducible rfl
                rotate_left
                ·simp only [Act.put,uA_,uB_,uC_,i64_w,i32_w]
                 rfl
                refine done_ (done_of HT_.out (by kernel_rfl)) ?_
                try go_wp2
                go_ret
                exact ⟨by first | rfl | (simp [errW_none, errW_some] <;> rfl) | (simp only [← hji35]; first | rfl | (simp [errW_none, errW_some] <;> rfl)) | (simp [*, errW_none, errW_some] <;> rfl), by repeat (first | (with_reducible first | exact HB.out | apply bA_ | apply bB_ | apply bC_ | refine below_set ?_ GE189.out | refine below_set ?_ GE191.out) | exact HB.out)⟩
              ·rw [if_neg c37] at H
               exact absurd H (by simp)
             ·rw [if_neg c36] at H
              exact absurd H (by simp)
            ·rw [if_neg c34] at H
             have c34b0 : decide (0 < x3_2) = false := decide_eq_false c34
             clear c34
             have H' := aM_ H
             clear H
             try go_wp2
             have n0_ := aM_ (blk_drew BK189.out)
             have n1_ := aM_ (blk_drew BK191.out)
             have n2_ := aM_ (below_drew1 HB.out)
             clear BK189
             clear BK191
             clear HB
             have BK189 := n0_
             have BK191 := n1_
             have HB := n2_
             clear n0_ n1_ n2_
             refine start_ (n := 13) (S := fun w' => True) (ds := []) #[f_,f_,f_,f_,f_,f_,f_,f_,f_,f_,f_,f_,f_] (by kernel_rfl) rfl rfl trivial (fun hHeld => ?_); refine with_tabW r4_Check.tab11 r4_Check.bits11 (fun HT_ HW_ => ?_)
             generalize wc.drew = w44 at BK189 BK191 HB hHeld ⊢
             refine pure_ (i := 0) (N := some 51) (v := ?_) (a' := ?_) #[t_,f_,f_,f_,f_,f_,f_,f_,f_,f_,f_,f_,f_] rfl rfl (any_of HT_.out (by kernel_rfl)) (fun _ _ _ h => h) (Or.inl ⟨by rfl, ?_⟩) ?_ ?_
             rotate_left
             ·intro w'
              go_simp
              with_reducible rfl
             rotate_left
             ·simp only [Act.put,uA_,uB_,uC_,i64_w,i32_w]
              rfl
             refine pure_ (i := 1) (N := some 52) (v := ?_) (a' := ?_) #[t_,t_,f_,f_,f_,f_,f_,f_,f_,f_,f_,f_,f_] rfl rfl (any_of HT_.out (by kernel_rfl)) (fun _ _ _ h => h) (Or.inl ⟨by rfl, ?_⟩) ?_ ?_
             rotate_left
             ·intro w'
              go_simp
              with_reducible rfl
             rotate_left
             ·simp only [Act.put,uA_,uB_,uC_,i64_w,i32_w]
              rfl
             refine pure_ (i := 2) (N := some 53) (v := ?_) (a' := ?_) #[t_,t_,t_,f_,f_,f_,f_,f_,f_,f_,f_,f_,f_] rfl rfl (any_of HT_.out (by kernel_rfl)) (fun _ _ _ h => h) (Or.inl ⟨by rfl, ?_⟩) ?_ ?_
             rotate_left
             ·intro w'
              go_simp
              with_reducible rfl
             rotate_left
             ·simp only [Act.put,uA_,uB_,uC_,i64_w,i32_w]
              rfl
             refine pure_ (i := 3) (N := some 54) (v := undef) (a' := ?_) #[t_,t_,t_,t_,f_,f_,f_,f_,f_,f_,f_,f_,f_] rfl rfl (any_of HT_.out (by kernel_rfl)) (fun _ _ _ h => h) (Or.inr ⟨by rfl, rfl⟩) ?_ ?_
             rotate_left
             ·simp only [Act.put,uA_,uB_,uC_,i64_w,i32_w]
              rfl
             refine pure_ (i := 4) (N := some 55) (v := undef) (a' := ?_) #[t_,t_,t_,t_,t_,f_,f_,f_,f_,f_,f_,f_,f_] rfl rfl (any_of HT_.out (by kernel_rfl)) (fun _ _ _ h => h) (Or.inr ⟨by rfl, rfl⟩) ?_ ?_
             rotate_left
             ·simp only [Act.put,uA_,uB_,uC_,i64_w,i32_w]
              rfl
             refine pure_ (i := 5) (N := some 56) (v := undef) (a' := ?_) #[t_,t_,t_,t_,t_,t_,f_,f_,f_,f_,f_,f_,f_] rfl rfl (any_of HT_.out (by kernel_rfl)) (fun _ _ _ h => h) (Or.inr ⟨by rfl, rfl⟩) ?_ ?_
             rotate_left
             ·simp only [Act.put,uA_,uB_,uC_,i64_w,i32_w]
              rfl
             refine pure_ (i := 6) (N := some 57) (v := undef) (a' := ?_) #[t_,t_,t_,t_,t_,t_,t_,f_,f_,f_,f_,f_,f_] rfl rfl (any_of HT_.out (by kernel_rfl)) (fun _ _ _ h => h) (Or.inr ⟨by rfl, rfl⟩) ?_ ?_
             rotate_left
             ·simp only [Act.put,uA_,uB_,uC_,i64_w,i32_w]
              rfl
             refine pure_ (i := 7) (N := some 58) (v := undef) (a' := ?_) #[t_,t_,t_,t_,t_,t_,t_,t_,f_,f_,f_,f_,f_] rfl rfl (any_of HT_.out (by kernel_rfl)) (fun _ _ _ h => h) (Or.inr ⟨by rfl, rfl⟩) ?_ ?_
             rotate_left
             ·simp only [Act.put,uA_,uB_,uC_,i64_w,i32_w]
              rfl
             refine pure_ (i := 8) (N := some 59) (v := undef) (a' := ?_) #[t_,t_,t_,t_,t_,t_,t_,t_,t_,f_,f_,f_,f_] rfl rfl (any_of HT_.out (by kernel_rfl)) (fun _ _ _ h => h) (Or.inr ⟨by rfl, rfl⟩) ?_ ?_
             rotate_left
             ·simp only [Act.put,uA_,uB_,uC_,i64_w,i32_w]
              rfl
             refine pure_ (i := 9) (N := some 60) (v := undef) (a' := ?_) #[t_,t_,t_,t_,t_,t_,t_,t_,t_,t_,f_,f_,f_] rfl rfl (any_of HT_.out (by kernel_rfl)) (fun _ _ _ h => h) (Or.inr ⟨by rfl, rfl⟩) ?_ ?_
             rotate_left
             ·simp only [Act.put,uA_,uB_,uC_,i64_w,i32_w]
              rfl
             refine pure_ (i := 10) (N := some 61) (v := undef) (a' := ?_) #[t_,t_,t_,t_,t_,t_,t_,t_,t_,t_,t_,f_,f_] rfl rfl (any_of HT_.out (by kernel_rfl)) (fun _ _ _ h => h) (Or.inr ⟨by rfl, rfl⟩) ?_ ?_
             rotate_left
             ·simp only [Act.put,uA_,uB_,uC_,i64_w,i32_w]
              rfl
             refine pure_ (i := 11) (N := some 62) (v := undef) (a' := ?_) #[t_,t_,t_,t_,t_,t_,t_,t_,t_,t_,t_,t_,f_] rfl rfl (any_of HT_.out (by kernel_rfl)) (fun _ _ _ h => h) (Or.inr ⟨by rfl, rfl⟩) ?_ ?_
             rotate_left
             ·simp only [Act.put,uA_,uB_,uC_,i64_w,i32_w]
              rfl
             refine pure_ (i := 12) (N := some 63) (v := ?_) (a' := ?_) #[t_,t_,t_,t_,t_,t_,t_,t_,t_,t_,t_,t_,t_] rfl rfl (any_of HT_.out (by kernel_rfl)) (fun _ _ _ h => h) (Or.inl ⟨by rfl, ?_⟩) ?_ ?_
             rotate_left
             ·intro w'
              go_simp
              with_reducible rfl
             rotate_left
             ·simp only [Act.put,uA_,uB_,uC_,i64_w,i32_w]
              rfl
             refine done_ (done_of HT_.out (by kernel_rfl)) ?_
             try go_wp2
             go_roundg kj13
             case measure => have := HJ4.out; have := HK2.out; have := HJ13.out; omega
             case rel => exact ⟨(wrap64 (x3_2 + 1)), (by first | rfl | (simp; done) | (simp [*]; done)), H', ⟨by have := HJ4.out; have := HK2.out; have := HJ13.out; omega⟩, ⟨by (with_reducible repeat (first | refine blk_drewN ?_ _ | refine blk_drew ?_ | refine blk_alloc ?_ _)); exact BK189.out⟩, ⟨by repeat (first | (with_reducible first | exact HB.out | apply bA_ | apply bB_ | apply bC_ | refine below_set ?_ GE189.out | refine below_set ?_ GE191.out) | exact HB.out)⟩⟩
        ·rw [if_neg c13] at H
         exact absurd H (by simp)
       ·rw [if_neg c12] at H
        have c12b0 : decide (x3_2 < (l0_1.length : Int)) = false := decide_eq_false c12
        clear c12
        obtain rfl := Option.some.inj H
        have hcz45_0 : wr.cell? ⟨gb189, 0, none⟩ = some (.int .i64 a0_0) := (blk_cell BK189.out 0).trans rfl
        have hcz45_1 : wr.cell? ⟨gb189, 1, none⟩ = some (.slice A0_1 l0_1.length c0_1) := (blk_cell BK189.out 1).trans rfl
        have hfz45_0 := blk_frozen BK189.out 0
        have hfz45_1 := blk_frozen BK189.out 1
        go_wp2
        go_ret
        exact ⟨by first | rfl | (simp [errW_none, errW_some] <;> rfl) | (simp [*, errW_none, errW_some] <;> rfl), by repeat (first | (with_reducible first | exact HB.out | apply bA_ | apply bB_ | apply bC_ | refine below_set ?_ GE189.out) | exact HB.out)⟩
end Go.Proofs.YtfgbkklhjocmjaaDoor.Xq
namespace Go.Proofs.YtfgbkklhjocmjaaDoor.Xq
open Go.RowKit Go.Proofs.YtfgbkklhjocmjaaDoorW.PrintWords Go.Proofs.YtfgbkklhjocmjaaDoorW.PrintLast Go.Proofs.YtfgbkklhjocmjaaDoorW.PrintMore
attribute [local go_sem] max2_int min2_int max_two min_two max_three min_three max_four min_four
def r4_Node.f (k : Nat) (a0_0 : Int) (l0_1 : List (S53)) (a1 : Int) : Option (Bool) := (r4_Check.f k a0_0 l0_1).bind fun t195 => (if t195 = 0 then (if a1 ≥ 0 then (some (decide (a1 < a0_0))) else (some false)) else (some false))
set_option maxHeartbeats 8000000 in
set_option maxRecDepth 100000 in
theorem r4_Node.calls (k : Nat) (a0_0 : Int) (A0_1 : Option Addr) (c0_1 : Nat) (l0_1 : List (S53)) (a1 : Int) (r : Bool) (w : World) (hr0_1 : Kd.C k53 w A0_1 l0_1.length l0_1) (hc0_1 : l0_1.length ≤ c0_1) (h : r4_Node.f k a0_0 l0_1 a1 = some r) :
  Calls Tryd.prog 16 #[.agg #[.int .i64 a0_0, .slice A0_1 l0_1.length c0_1], .int .i64 a1] w fun e w' => e = .returned (.bool r) ∧ Below w.heap.size w w' := by
 have hu24 := Tryd.underlying24
 have HR0_1 := aM_ hr0_1
 have HC0_1 := aM_ hc0_1
 clear hr0_1 hc0_1
 have HB := aM_ (Below.refl w.heap.size w)
 have H : ((r4_Check.f k a0_0 l0_1).bind fun t195 => (if t195 = 0 then (if a1 ≥ 0 then (some (decide (a1 < a0_0))) else (some false)) else (some false))) = some r := h
 clear h
 replace H := Option.bind_eq_some_iff.mp H
 obtain ⟨t195, A30, H⟩ := H
 replace H : (if t195 = 0 then (if a1 ≥ 0 then (some (decide (a1 < a0_0))) else (some false)) else (some false)) = some r := H
 have A3 := aM_ A30
 clear A30
 by_cases c4 : t195 = 0
 ·rw [if_pos c4] at H
  have c4b0 : (t195 == 0) = true := beq_iff_eq.mpr c4
  have c4b1 : (t195 != 0) = false := bne_eq_false_iff_eq.mpr c4
  clear c4
  by_cases c5 : a1 ≥ 0
  ·rw [if_pos c5] at H
   have c5b0 : decide (0 ≤ a1) = true := decide_eq_true c5
   clear c5
   obtain rfl := Option.some.inj H
   go_enter Tryd.func16, Tryd.ntmps16
   go_wp2_with (first | ((with_reducible refine gate_dst (N := 2) rfl ?_); refine box_event ?hg (N := 2) ?hd (cs := #[.int .i64 a0_0, .slice A0_1 l0_1.length c0_1]) (t := 24) ?hr ?_; (case hd => rfl); (case hg => rfl); (case hr => first | (go_simp; done) | (go_simp; rfl)); intro gb194 hg w6 hbox hb; have n0_ := aM_ (below_step (by repeat (first | (with_reducible first | exact HB.out | apply bA_ | apply bB_ | apply bC_) | exact HB.out)) hb); have n1_ := aM_ (hbox); have n2_ := aM_ ((by rw [hg]; exact (below_size (by repeat (first | (with_reducible first | exact HB.out | apply bA_ | apply bB_ | apply bC_) | exact HB.out))) : w.heap.size ≤ gb194)); have n3_ := aM_ ((by rw [hg]; exact (below_size (by repeat (first | (with_reducible first | exact HB.out | apply bA_ | apply bB_ | apply bC_) | exact HB.out))) : w.heap.size ≤ gb194)); clear HB; have HB := n0_; have BK194 := n1_; have GW194 := n2_; have GE194 := n3_; clear n0_ n1_ n2_ n3_; clear hb hbox hg; have hcz7_0 : w6.cell? ⟨gb194, 0, none⟩ = some (.int .i64 a0_0) := (blk_cell BK194.out 0).trans rfl; have hcz7_1 : w6.cell? ⟨gb194, 1, none⟩ = some (.slice A0_1 l0_1.length c0_1) := (blk_cell BK194.out 1).trans rfl; have hfz7_0 := blk_frozen BK194.out 0; have hfz7_1 := blk_frozen BK194.out 1) | ((with_reducible refine gate_callee (f := 38) rfl ?_); refine goesL_ (some 6) rfl rfl Tryd.func38 (by kernel_rfl) rfl #[.agg #[.int .i64 a0_0, .slice A0_1 l0_1.length c0_1]] rfl (by (try simp only [List.map_toArray, List.map_cons, List.map_nil]); first | done | rfl | (simp only [List.length_drop, List.length_take]; rfl)) ?_; (with_reducible refine (r4_Check.calls k a0_0 _ _ l0_1 t195 _ ?side1 ?side2 A3.out).mono ?_); (case side1 => repeat (first | exact (Kd.C_below HR0_1.out HB.out) | (with_reducible refine Kd.C_alloc ?_ _) | (with_reducible refine Kd.C_drewN ?_ _) | (with_reducible refine Kd.C_drew ?_))); (case side2 => exact HC0_1.out); rintro e w8 ⟨rfl, hb⟩; refine ⟨_, rfl, ?_⟩; have n0_ := aM_ (blk_below (g := gb194) (o := .cells #[.int .i64 a0_0, .slice A0_1 l0_1.length c0_1] 24 (0, 0)) (by (with_reducible repeat (first | refine blk_drewN ?_ _ | refine blk_drew ?_ | refine blk_alloc ?_ _)); exact BK194.out) hb); have n1_ := aM_ (below_step (by repeat (first | (with_reducible first | exact HB.out | apply bA_ | apply bB_ | apply bC_ | refine below_set ?_ GE194.out) | exact HB.out)) hb); clear BK194; clear HB; have BK194 := n0_; have HB := n1_; clear n0_ n1_; (try clear hb); (try clear hb2); (try clear hk); (try clear hi); have hcz9_0 : w8.cell? ⟨gb194, 0, none⟩ = some (.int .i64 a0_0) := (blk_cell BK194.out 0).trans rfl; have hcz9_1 : w8.cell? ⟨gb194, 1, none⟩ = some (.slice A0_1 l0_1.length c0_1) := (blk_cell BK194.out 1).trans rfl; have hfz9_0 := blk_frozen BK194.out 0; have hfz9_1 := blk_frozen BK194.out 1))
   go_ret
   exact ⟨by first | rfl | (simp [errW_none, errW_some] <;> rfl) | (simp [*, errW_none, errW_some] <;> rfl), by repeat (first | (with_reducible first | exact HB.out | apply bA_ | apply bB_ | apply bC_ | refine below_set ?_ GE194.out) | exact HB.out)⟩
  ·rw [if_neg c5] at H
   have c5b0 : decide (0 ≤ a1) = false := decide_eq_false c5
   clear c5
   obtain rfl := Option.some.inj H
   go_enter Tryd.func16, Tryd.ntmps16
   go_wp2_with (first | ((with_reducible refine gate_dst (N := 2) rfl ?_); refine box_event ?hg (N := 2) ?hd (cs := #[.int .i64 a0_0, .slice A0_1 l0_1.length c0_1]) (t := 24) ?hr ?_; (case hd => rfl); (case hg => rfl); (case hr => first | (go_simp; done) | (go_simp; rfl)); intro gb194 hg w10 hbox hb; have n0_ := aM_ (below_step (by repeat (first | (with_reducible first | exact HB.out | apply bA_ | apply bB_ | apply bC_) | exact HB.out)) hb); have n1_ := aM_ (hbox); have n2_ := aM_ ((by rw [hg]; exact (below_size (by repeat (first | (with_reducible first | exact HB.out | apply bA_ | apply bB_ | apply bC_) | exact HB.out))) : w.heap.size ≤ gb194)); have n3_ := aM_ ((by rw [hg]; exact (below_size (by repeat (first | (with_reducible first | exact HB.out | apply bA_ | apply bB_ | apply bC_) | exact HB.out))) : w.heap.size ≤ gb194)); clear HB; have HB := n0_; have BK194 := n1_; have GW194 := n2_; have GE194 := n3_; clear n0_ n1_ n2_ n3_; clear hb hbox hg; have hcz11_0 : w10.cell? ⟨gb194, 0, none⟩ = some (.int .i64 a0_0) := (blk_cell BK194.out 0).trans rfl; have hcz11_1 : w10.cell? ⟨gb194, 1, none⟩ = some (.slice A0_1 l0_1.length c0_1) := (blk_cell BK194.out 1).trans rfl; have hfz11_0 := blk_frozen BK194.out 0; have hfz11_1 := blk_frozen BK194.out 1) | ((with_reducible refine gate_callee (f := 38) rfl ?_); refine goesL_ (some 6) rfl rfl Tryd.func38 (by kernel_rfl) rfl #[.agg #[.int .i64 a0_0, .slice A0_1 l0_1.length c0_1]] rfl (by (try simp only [List.map_toArray, List.map_cons, List.map_nil]); first | done | rfl | (simp only [List.length_drop, List.length_take]; rfl)) ?_; (with_reducible refine (r4_Check.calls k a0_0 _ _ l0_1 t195 _ ?side1 ?side2 A3.out).mono ?_); (case side1 => repeat (first | exact (Kd.C_below HR0_1.out HB.out) | (with_reducible refine Kd.C_alloc ?_ _) | (with_reducible refine Kd.C_drewN ?_ _) | (with_reducible refine Kd.C_drew ?_))); (case side2 => exact HC0_1.out); rintro e w12 ⟨rfl, hb⟩; refine ⟨_, rfl, ?_⟩; have n0_ := aM_ (blk_below (g := gb194) (o := .cells #[.int .i64 a0_0, .slice A0_1 l0_1.length c0_1] 24 (0, 0)) (by (with_reducible repeat (first | refine blk_drewN ?_ _ | refine blk_drew ?_ | refine blk_alloc ?_ _)); exact BK194.out) hb); have n1_ := aM_ (below_step (by repeat (first | (with_reducible first | exact HB.out | apply bA_ | apply bB_ | apply bC_ | refine below_set ?_ GE194.out) | exact HB.out)) hb); clear BK194; clear HB; have BK194 := n0_; have HB := n1_; clear n0_ n1_; (try clear hb); (try clear hb2); (try clear hk); (try clear hi)))
   go_ret
   exact ⟨by first | rfl | (simp [errW_none, errW_some] <;> rfl) | (simp [*, errW_none, errW_some] <;> rfl), by repeat (first | (with_reducible first | exact HB.out | apply bA_ | apply bB_ | apply bC_ | refine below_set ?_ GE194.out) | exact HB.out)⟩
 ·rw [if_neg c4] at H
  have c4b0 : (t195 == 0) = false := beq_eq_false_iff_ne.mpr c4
  have c4b1 : (t195 != 0) = true := bne_iff_ne.mpr c4
  obtain rfl := Option.some.inj H
  go_enter Tryd.func16, Tryd.ntmps16
  go_wp2_with (first | ((with_reducible refine gate_dst (N := 2) rfl ?_); refine box_event ?hg (N := 2) ?hd (cs := #[.int .i64 a0_0, .slice A0_1 l0_1.length c0_1]) (t := 24) ?hr ?_; (case hd => rfl); (case hg => rfl); (case hr => first | (go_simp; done) | (go_simp; rfl)); intro gb194 hg w13 hbox hb; have n0_ := aM_ (below_step (by repeat (first | (with_reducible first | exact HB.out | apply bA_ | apply bB_ | apply bC_) | exact HB.out)) hb); have n1_ := aM_ (hbox); have n2_ := aM_ ((by rw [hg]; exact (below_size (by repeat (first | (with_reducible first | exact HB.out | apply bA_ | apply bB_ | apply bC_) | exact HB.out))) : w.heap.size ≤ gb194)); have n3_ := aM_ ((by rw [hg]; exact (below_size (by repeat (first | (with_reducible first | exact HB.out | apply bA_ | apply bB_ | apply bC_) | exact HB.out))) : w.heap.size ≤ gb194)); clear HB; have HB := n0_; have BK194 := n1_; have GW194 := n2_; have GE194 := n3_; clear n0_ n1_ n2_ n3_; clear hb hbox hg; have hcz14_0 : w13.cell? ⟨gb194, 0, none⟩ = some (.int .i64 a0_0) := (blk_cell BK194.out 0).trans rfl; have hcz14_1 : w13.cell? ⟨gb194, 1, none⟩ = some (.slice A0_1 l0_1.length c0_1) := (blk_cell BK194.out 1).trans rfl; have hfz14_0 := blk_frozen BK194.out 0; have hfz14_1 := blk_frozen BK194.out 1) | ((with_reducible refine gate_callee (f := 38) rfl ?_); refine goesL_ (some 6) rfl rfl Tryd.func38 (by kernel_rfl) rfl #[.agg #[.int .i64 a0_0, .slice A0_1 l0_1.length c0_1]] rfl (by (try simp only [List.map_toArray, List.map_cons, List.map_nil]); first | done | rfl | (simp only [List.length_drop, List.length_take]; rfl)) ?_; (with_reducible refine (r4_Check.calls k a0_0 _ _ l0_1 t195 _ ?side1 ?side2 A3.out).mono ?_); (case side1 => repeat (first | exact (Kd.C_below HR0_1.out HB.out) | (with_reducible refine Kd.C_alloc ?_ _) | (with_reducible refine Kd.C_drewN ?_ _) | (with_reducible refine Kd.C_drew ?_))); (case side2 => exact HC0_1.out); rintro e w15 ⟨rfl, hb⟩; refine ⟨_, rfl, ?_⟩; have n0_ := aM_ (blk_below (g := gb194) (o := .cells #[.int .i64 a0_0, .slice A0_1 l0_1.length c0_1] 24 (0, 0)) (by (with_reducible repeat (first | refine blk_drewN ?_ _ | refine blk_drew ?_ | refine blk_alloc ?_ _)); exact BK194.out) hb); have n1_ := aM_ (below_step (by repeat (first | (with_reducible first | exact HB.out | apply bA_ | apply bB_ | apply bC_ | refine below_set ?_ GE194.out) | exact HB.out)) hb); clear BK194; clear HB; have BK194 := n0_; have HB := n1_; clear n0_ n1_; (try clear hb); (try clear hb2); (try clear hk); (try clear hi)))
  go_ret
  exact ⟨by first | rfl | (simp [errW_none, errW_some] <;> rfl) | (simp [*, errW_none, errW_some] <;> rfl), by repeat (first | (with_reducible first | exact HB.out | apply bA_ | apply bB_ | apply bC_ | refine below_set ?_ GE194.out) | exact HB.out)⟩
def r4_Succ.l0 : Nat → Int → List Int → Int → Int → List (S53) → Option (List Int)
 | 0, _, _, _, _, _ => none
 | k + 1, x1, x5, x6, x197000, x197001 => if x6 < (x197001.length : Int) then (if 0 ≤ x6 then (if ((rd_T53 x197001 x6).f0) = x1 then (if x5.length < 17592186044416 then (r4_Succ.l0 k x1 (x5 ++ [(rd_T53 x197001 x6).f1]) (wrap64 (x6 + 1)) x197000 x197001) else (none)) else (r4_Succ.l0 k x1 x5 (wrap64 (x6 + 1)) x197000 x197001)) else (none)) else (some x5)
def r4_Succ.f (k : Nat) (a0_0 : Int) (l0_1 : List (S53)) (a1 : Int) : Option (List Int) := (r4_Node.f k a0_0 l0_1 a1).bind fun t197 => (if t197 = true then (r4_Succ.l0 k a1 ([] : List Int) 0 a0_0 l0_1) else (some ([] : List Int)))
set_option maxHeartbeats 8000000 in
set_option maxRecDepth 100000 in
theorem r4_Succ.calls (k : Nat) (a0_0 : Int) (A0_1 : Option Addr) (c0_1 : Nat) (l0_1 : List (S53)) (a1 : Int) (r : List Int) (w : World) (hr0_1 : Kd.C k53 w A0_1 l0_1.length l0_1) (hc0_1 : l0_1.length ≤ c0_1) (h : r4_Succ.f k a0_0 l0_1 a1 = some r) :
  Calls Tryd.prog 21 #[.agg #[.int .i64 a0_0, .slice A0_1 l0_1.length c0_1], .int .i64 a1] w fun e w' => ∃ v0_ : Value, e = .returned (v0_) ∧ Kd.R (Kd.int .i64) 3 w' w.heap.size (fun _ => True) v0_ r ∧ Below w.heap.size w w' := by
 have hu24 := Tryd.underlying24
 have HR0_1 := aM_ hr0_1
 have HC0_1 := aM_ hc0_1
 clear hr0_1 hc0_1
 have HB := aM_ (Below.refl w.heap.size w)
 have H : ((r4_Node.f k a0_0 l0_1 a1).bind fun t197 => (if t197 = true then (r4_Succ.l0 k a1 ([] : List Int) 0 a0_0 l0_1) else (some ([] : List Int)))) = some r := h
 clear h
 replace H := Option.bind_eq_some_iff.mp H
 obtain ⟨t197, A30, H⟩ := H
 replace H : (if t197 = true then (r4_Succ.l0 k a1 ([] : List Int) 0 a0_0 l0_1) else (some ([] : List Int))) = some r := H
 have A3 := aM_ A30
 clear A30
 by_cases c4 : t197 = true
 ·subst c4
  have H1 : (r4_Succ.l0 k a1 ([] : List Int) 0 a0_0 l0_1) = some r := by rw [if_pos rfl] at H; exact H
  clear H
  have H := H1
  clear H1
  have H' := aM_ H
  clear H
  go_enter Tryd.func21, Tryd.ntmps21
  go_wp2_with (first | ((with_reducible refine gate_dst (N := 2) rfl ?_); refine box_event ?hg (N := 2) ?hd (cs := #[.int .i64 a0_0, .slice A0_1 l0_1.length c0_1]) (t := 24) ?hr ?_; (case hd => rfl); (case hg => rfl); (case hr => first | (go_simp; done) | (go_simp; rfl)); intro gb196 hg w5 hbox hb; have n0_ := aM_ (below_step (by repeat (first | (with_reducible first | exact HB.out | apply bA_ | apply bB_ | apply bC_) | exact HB.out)) hb); have n1_ := aM_ (hbox); have n2_ := aM_ ((by rw [hg]; exact (below_size (by repeat (first | (with_reducible first | exact HB.out | apply bA_ | apply bB_ | apply bC_) | exact HB.out))) : w.heap.size ≤ gb196)); have n3_ := aM_ ((by rw [hg]; exact (below_size (by repeat (first | (with_reducible first | exact HB.out | apply bA_ | apply bB_ | apply bC_) | exact HB.out))) : w.heap.size ≤ gb196)); clear HB; have HB := n0_; have BK196 := n1_; have GW196 := n2_; have GE196 := n3_; clear n0_ n1_ n2_ n3_; clear hb hbox hg; have hcz6_0 : w5.cell? ⟨gb196, 0, none⟩ = some (.int .i64 a0_0) := (blk_cell BK196.out 0).trans rfl; have hcz6_1 : w5.cell? ⟨gb196, 1, none⟩ = some (.slice A0_1 l0_1.length c0_1) := (blk_cell BK196.out 1).trans rfl; have hfz6_0 := blk_frozen BK196.out 0; have hfz6_1 := blk_frozen BK196.out 1) | ((with_reducible refine gate_callee (f := 16) rfl ?_); refine goesL_ (some 9) rfl rfl Tryd.func16 (by kernel_rfl) rfl #[.agg #[.int .i64 a0_0, .slice A0_1 l0_1.length c0_1], .int .i64 a1] rfl (by (try simp only [List.map_toArray, List.map_cons, List.map_nil]); first | done | rfl | (simp only [List.length_drop, List.length_take]; rfl)) ?_; (with_reducible refine (r4_Node.calls k a0_0 _ _ l0_1 a1 true _ ?side1 ?side2 A3.out).mono ?_); (case side1 => repeat (first | exact (Kd.C_below HR0_1.out HB.out) | (with_reducible refine Kd.C_alloc ?_ _) | (with_reducible refine Kd.C_drewN ?_ _) | (with_reducible refine Kd.C_drew ?_))); (case side2 => exact HC0_1.out); rintro e w7 ⟨rfl, hb⟩; refine ⟨_, rfl, ?_⟩; have n0_ := aM_ (blk_below (g := gb196) (o := .cells #[.int .i64 a0_0, .slice A0_1 l0_1.length c0_1] 24 (0, 0)) (by (with_reducible repeat (first | refine blk_drewN ?_ _ | refine blk_drew ?_ | refine blk_alloc ?_ _)); exact BK196.out) hb); have n1_ := aM_ (below_step (by repeat (first | (with_reducible first | exact HB.out | apply bA_ | apply bB_ | apply bC_ | refine below_set ?_ GE196.out) | exact HB.out)) hb); clear BK196; clear HB; have BK196 := n0_; have HB := n1_; clear n0_ n1_; (try clear hb); (try clear hb2); (try clear hk); (try clear hi)))
  go_loopg [5, 6] k (fun kq v5 v6 w' => ∃ (x5_1 : List Int) (x6_1 : Int), v6 = .int .i64 x6_1 ∧ Aside0 (r4_Succ.l0 kq a1 x5_1 x6_1 a0_0 l0_1 = some r) ∧ Aside0 (kq ≤ k) ∧ Aside0 (Kd.R (Kd.int .i64) 3 w' w.heap.size (fun _ => True) v5 x5_1) ∧ Aside0 (w'.heap[gb196]? = some (.cells #[.int .i64 a0_0, (.slice A0_1 l0_1.length c0_1)] 24 (0, 0))) ∧ Aside0 (Below w.heap.size w w'))
  case atStart => exact ⟨(([] : List Int)), (0), (by first | rfl | (simp; done) | (simp [*]; done)), H', ⟨Nat.le_refl _⟩, ⟨by first | exact Kd.R_nil _ _ _ _ _ | exact Kd.N_nil _ _ _ _ _ | exact Kd.V_nil _ _ _ _ _ | exact Kd.Q_nil _ _ _ _ _ | exact Kd.S_nil _ _ _ _ _⟩, ⟨by (with_reducible repeat (first | refine blk_drewN ?_ _ | refine blk_drew ?_ | refine blk_alloc ?_ _)); exact BK196.out⟩, ⟨by repeat (first | (with_reducible first | exact HB.out | apply bA_ | apply bB_ | apply bC_ | refine below_set ?_ GE196.out) | exact HB.out)⟩⟩
  case round =>
   clear H'
   try clear c1
   try clear c2
   try clear p2
   try clear c4
   try clear hcz6_0
   try clear hcz6_1
   try clear hfz6_0
   try clear hfz6_1
   obtain ⟨x5_1, x6_1, rfl, HA, HK1, HO_5, BK196, HB⟩ := hrel
   cases gk with
   | zero => exact absurd HA.out (by simp [r4_Succ.l0])
   | succ k1 =>
    have H := HA.out
    clear HA
    simp only [r4_Succ.l0] at H
    by_cases c8 : x6_1 < (l0_1.length : Int)
    ·rw [if_pos c8] at H
     have c8b0 : decide (x6_1 < (l0_1.length : Int)) = true := decide_eq_true c8
     clear c8
     by_cases c9 : 0 ≤ x6_1
     ·rw [if_pos c9] at H
      have c9b0 : decide (0 ≤ x6_1) = true := decide_eq_true c9
      clear c9
      by_cases c10 : ((rd_T53 l0_1 x6_1).f0) = a1
      ·rw [if_pos c10] at H
       have c10b0 : (((rd_T53 l0_1 x6_1).f0) == a1) = true := beq_iff_eq.mpr c10
       have c10b1 : (((rd_T53 l0_1 x6_1).f0) != a1) = false := bne_eq_false_iff_eq.mpr c10
       clear c10
       by_cases c11 : x5_1.length < 17592186044416
       ·rw [if_pos c11] at H
        have LMc11 := aM_ c11
        clear c11
        obtain ⟨y200, hy200⟩ : ∃ y_ : List Int, y_ = (x5_1 ++ [(rd_T53 l0_1 x6_1).f1]) := ⟨_, rfl⟩
        replace H : (r4_Succ.l0 k1 a1 y200 (wrap64 (x6_1 + 1)) a0_0 l0_1) = some r := by first | (rw [hy200]; with_reducible exact H) | (have H2_ := (Option.bind_some _ _).symm.trans H; rw [hy200]; with_reducible exact H2_) | (have H2_ := (Option.bind_some _ _).symm.trans H; with_reducible exact H2_) | with_reducible exact H | (rw [hy200]; exact H) | exact H
        have Ny200 := aM_ hy200
        clear hy200
        have H' := aM_ H
        clear H
        have hcz12_0 : wr.cell? ⟨gb196, 0, none⟩ = some (.int .i64 a0_0) := (blk_cell BK196.out 0).trans rfl
        have hcz12_1 : wr.cell? ⟨gb196, 1, none⟩ = some (.slice A0_1 l0_1.length c0_1) := (blk_cell BK196.out 1).trans rfl
        have hfz12_0 := blk_frozen BK196.out 0
        have hfz12_1 := blk_frozen BK196.out 1
        have p198 : 0 ≤ (x6_1 : Int) := of_decide_eq_true (by assumption)
        have q198 : x6_1 < (l0_1.length : Int) := of_decide_eq_true (by assumption)
        obtain ⟨ad198, e198, hx198_0, hx198_1⟩ := at_T53 HR0_1.out x6_1 p198 q198
        cases e198
        replace hx198_0 := (HB.out.cell (World.block_lt_of_cell? w _ hx198_0)).trans hx198_0
        replace hx198_1 := (HB.out.cell (World.block_lt_of_cell? w _ hx198_1)).trans hx198_1
        replace p198 := eq_true p198
        replace q198 := eq_true q198
        have p199 : 0 ≤ (x6_1 : Int) := of_decide_eq_true (by assumption)
        have q199 : x6_1 < (l0_1.length : Int) := of_decide_eq_true (by assumption)
        obtain ⟨ad199, e199, hx199_0, hx199_1⟩ := at_T53 HR0_1.out x6_1 p199 q199
        obtain rfl : ad198 = ad199 := (by injection e199)
        replace hx199_0 := (HB.out.cell (World.block_lt_of_cell? w _ hx199_0)).trans hx199_0
        replace hx199_1 := (HB.out.cell (World.block_lt_of_cell? w _ hx199_1)).trans hx199_1
        replace p199 := eq_true p199
        replace q199 := eq_true q199
        go_wp2_with (first | ((with_reducible refine gate_builtin (b := .append) (xs := #[.tmp 27, .tmp 34]) rfl ?_); at_builtin; refine Kd.R_append (Kd.int .i64) (w0 := w) w.heap.size rfl (.tmp 27) (.tmp 34) 31 3 (.int .i64 0) 8 rfl Tryd.underlying31 info3 rfl (by decide) (by omega) u5 x5_1 ((rd_T53 l0_1 x6_1).f1) [.int .i64 ((rd_T53 l0_1 x6_1).f1)] (fun _ => True) (fun _ => False) rfl rfl ?aP (fun _ hk => hk.elim) ?aF ?aO ?aB ?aS ?aL ?_; (case aP => exact rfl); (case aB => exact (by repeat (first | (with_reducible first | exact HB.out | apply bA_ | apply bB_ | apply bC_ | refine below_set ?_ GE196.out) | exact HB.out))); (case aF => exact (fun _ _ => trivial)); (case aO => exact (by (with_reducible repeat (first | apply rA_ | apply rB_ | apply rC_)); exact HO_5.out)); (case aS => exact (below_size (by repeat (first | (with_reducible first | exact HB.out | apply bA_ | apply bB_ | apply bC_ | refine below_set ?_ GE196.out) | exact HB.out)))); (case aL => have := LMc11.out; omega); intro v201 w13 ho hb hg hat; rw [← Ny200.out] at ho; have n0_ := aM_ (blk_grown (g := gb196) (o := .cells #[.int .i64 a0_0, .slice (some ad198) l0_1.length c0_1] 24 (0, 0)) (by (with_reducible repeat (first | refine blk_drewN ?_ _ | refine blk_drew ?_ | refine blk_alloc ?_ _)); exact BK196.out) hg (Kd.R_ne HO_5.out BK196.out (by decide))); have n1_ := aM_ (hb); have n2_ := aM_ (ho); clear BK196; clear HB; clear HO_5; have BK196 := n0_; have HB := n1_; have HO202 := n2_; clear n0_ n1_ n2_; clear ho hb hg hat))
        go_roundg k1
        case measure => have := HK1.out; omega
        case rel => exact ⟨(y200), (wrap64 (x6_1 + 1)), (by first | rfl | (simp; done) | (simp [*]; done)), H', ⟨by have := HK1.out; omega⟩, ⟨by (with_reducible repeat (first | apply rA_ | apply rB_ | apply rC_)); exact HO202.out⟩, ⟨by (with_reducible repeat (first | refine blk_drewN ?_ _ | refine blk_drew ?_ | refine blk_alloc ?_ _)); exact BK196.out⟩, ⟨by repeat (first | (with_reducible first | exact HB.out | apply bA_ | apply bB_ | apply bC_ | refine below_set ?_ GE196.out) | exact HB.out)⟩⟩
       ·rw [if_neg c11] at H
        exact absurd H (by simp)
      ·rw [if_neg c10] at H
       have c10b0 : (((rd_T53 l0_1 x6_1).f0) == a1) = false := beq_eq_false_iff_ne.mpr c10
       have c10b1 : (((rd_T53 l0_1 x6_1).f0) != a1) = true := bne_iff_ne.mpr c10
       have H' := aM_ H
       clear H
       have hcz14_0 : wr.cell? ⟨gb196, 0, none⟩ = some (.int .i64 a0_0) := (blk_cell BK196.out 0).trans rfl
       have hcz14_1 : wr.cell? ⟨gb196, 1, none⟩ = some (.slice A0_1 l0_1.length c0_1) := (blk_cell BK196.out 1).trans rfl
       have hfz14_0 := blk_frozen BK196.out 0
       have hfz14_1 := blk_frozen BK196.out 1
       have p198 : 0 ≤ (x6_1 : Int) := of_decide_eq_true (by assumption)
       have q198 : x6_1 < (l0_1.length : Int) := of_decide_eq_true (by assumption)
       obtain ⟨ad198, e198, hx198_0, hx198_1⟩ := at_T53 HR0_1.out x6_1 p198 q198
       cases e198
       replace hx198_0 := (HB.out.cell (World.block_lt_of_cell? w _ hx198_0)).trans hx198_0
       replace hx198_1 := (HB.out.cell (World.block_lt_of_cell? w _ hx198_1)).trans hx198_1
       replace p198 := eq_true p198
       replace q198 := eq_true q198
       go_wp2
       go_roundg k1
       case measure => have := HK1.out; omega
       case rel => exact ⟨(x5_1), (wrap64 (x6_1 + 1)), (by first | rfl | (simp; done) | (simp [*]; done)), H', ⟨by have := HK1.out; omega⟩, ⟨by (with_reducible repeat (first | apply rA_ | apply rB_ | apply rC_)); exact HO_5.out⟩, ⟨by (with_reducible repeat (first | refine blk_drewN ?_ _ | refine blk_drew ?_ | refine blk_alloc ?_ _)); exact BK196.out⟩, ⟨by repeat (first | (with_reducible first | exact HB.out | apply bA_ | apply bB_ | apply bC_ | refine below_set ?_ GE196.out) | exact HB.out)⟩⟩
     ·rw [if_neg c9] at H
      exact absurd H (by simp)
    ·rw [if_neg c8] at H
     have c8b0 : decide (x6_1 < (l0_1.length : Int)) = false := decide_eq_false c8
     clear c8
     obtain rfl := Option.some.inj H
     have hcz15_0 : wr.cell? ⟨gb196, 0, none⟩ = some (.int .i64 a0_0) := (blk_cell BK196.out 0).trans rfl
     have hcz15_1 : wr.cell? ⟨gb196, 1, none⟩ = some (.slice A0_1 l0_1.length c0_1) := (blk_cell BK196.out 1).trans rfl
     have hfz15_0 := blk_frozen BK196.out 0
     have hfz15_1 := blk_frozen BK196.out 1
     go_wp2
     go_ret
     exact ⟨_, by first | rfl | (simp [errW_none, errW_some] <;> rfl) | (simp [*, errW_none, errW_some] <;> rfl), by (with_reducible repeat (first | apply rA_ | apply rB_ | apply rC_)); exact HO_5.out, by repeat (first | (with_reducible first | exact HB.out | apply bA_ | apply bB_ | apply bC_ | refine below_set ?_ GE196.out) | exact HB.out)⟩
 ·replace c4 := Bool.eq_false_iff.mpr c4
  subst c4
  have H1 : (some ([] : List Int)) = some r := by rw [if_neg (show ¬ (false = true) by decide)] at H; exact H
  clear H
  have H := H1
  clear H1
  obtain rfl := Option.some.inj H
  go_enter Tryd.func21, Tryd.ntmps21
  go_wp2_with (first | ((with_reducible refine gate_dst (N := 2) rfl ?_); refine box_event ?hg (N := 2) ?hd (cs := #[.int .i64 a0_0, .slice A0_1 l0_1.length c0_1]) (t := 24) ?hr ?_; (case hd => rfl); (case hg => rfl); (case hr => first | (go_simp; done) | (go_simp; rfl)); intro gb196 hg w16 hbox hb; have n0_ := aM_ (below_step (by repeat (first | (with_reducible first | exact HB.out | apply bA_ | apply bB_ | apply bC_) | exact HB.out)) hb); have n1_ := aM_ (hbox); have n2_ := aM_ ((by rw [hg]; exact (below_size (by repeat (first | (with_reducible first | exact HB.out | apply bA_ | apply bB_ | apply bC_) | exact HB.out))) : w.heap.size ≤ gb196)); have n3_ := aM_ ((by rw [hg]; exact (below_size (by repeat (first | (with_reducible first | exact HB.out | apply bA_ | apply bB_ | apply bC_) | exact HB.out))) : w.heap.size ≤ gb196)); clear HB; have HB := n0_; have BK196 := n1_; have GW196 := n2_; have GE196 := n3_; clear n0_ n1_ n2_ n3_; clear hb hbox hg; have hcz17_0 : w16.cell? ⟨gb196, 0, none⟩ = some (.int .i64 a0_0) := (blk_cell BK196.out 0).trans rfl; have hcz17_1 : w16.cell? ⟨gb196, 1, none⟩ = some (.slice A0_1 l0_1.length c0_1) := (blk_cell BK196.out 1).trans rfl; have hfz17_0 := blk_frozen BK196.out 0; have hfz17_1 := blk_frozen BK196.out 1) | ((with_reducible refine gate_callee (f := 16) rfl ?_); refine goesL_ (some 9) rfl rfl Tryd.func16 (by kernel_rfl) rfl #[.agg #[.int .i64 a0_0, .slice A0_1 l0_1.length c0_1], .int .i64 a1] rfl (by (try simp only [List.map_toArray, List.map_cons, List.map_nil]); first | done | rfl | (simp only [List.length_drop, List.length_take]; rfl)) ?_; (with_reducible refine (r4_Node.calls k a0_0 _ _ l0_1 a1 false _ ?side1 ?side2 A3.out).mono ?_); (case side1 => repeat (first | exact (Kd.C_below HR0_1.out HB.out) | (with_reducible refine Kd.C_alloc ?_ _) | (with_reducible refine Kd.C_drewN ?_ _) | (with_reducible refine Kd.C_drew ?_))); (case side2 => exact HC0_1.out); rintro e w18 ⟨rfl, hb⟩; refine ⟨_, rfl, ?_⟩; have n0_ := aM_ (blk_below (g := gb196) (o := .cells #[.int .i64 a0_0, .slice A0_1 l0_1.length c0_1] 24 (0, 0)) (by (with_reducible repeat (first | refine blk_drewN ?_ _ | refine blk_drew ?_ | refine blk_alloc ?_ _)); exact BK196.out) hb); have n1_ := aM_ (below_step (by repeat (first | (with_reducible first | exact HB.out | apply bA_ | apply bB_ | apply bC_ | refine below_set ?_ GE196.out) | exact HB.out)) hb); clear BK196; clear HB; have BK196 := n0_; have HB := n1_; clear n0_ n1_; (try clear hb); (try clear hb2); (try clear hk); (try clear hi)))
  go_ret
  exact ⟨_, by first | rfl | (simp [errW_none, errW_some] <;> rfl) | (simp [*, errW_none, errW_some] <;> rfl), by first | exact Kd.R_nil _ _ _ _ _ | exact Kd.N_nil _ _ _ _ _ | exact Kd.V_nil _ _ _ _ _ | exact Kd.Q_nil _ _ _ _ _ | exact Kd.S_nil _ _ _ _ _, by repeat (first | (with_reducible first | exact HB.out | apply bA_ | apply bB_ | apply bC_ | refine below_set ?_ GE196.out) | exact HB.out)⟩
end Go.Proofs.YtfgbkklhjocmjaaDoor.Xq
namespace Go.Proofs.YtfgbkklhjocmjaaDoor.Xq
open Go.RowKit Go.Proofs.YtfgbkklhjocmjaaDoorW.PrintWords Go.Proofs.YtfgbkklhjocmjaaDoorW.PrintLast Go.Proofs.YtfgbkklhjocmjaaDoorW.PrintMore
attribute [local go_sem] max2_int min2_int max_two min_two max_three min_three max_four min_four
def w4_in.l0 : Nat → List Int → Int → Int → Option (Bool)
 | 0, _, _, _ => none
 | k + 1, x0, x1, x5 => if x5 < (x0.length : Int) then (if 0 ≤ x5 then (if (rd x0 x5) = x1 then (some true) else (w4_in.l0 k x0 x1 (wrap64 (x5 + 1)))) else (none)) else (some false)
def w4_in.f (k : Nat) (l0 : List Int) (a1 : Int) : Option (Bool) := w4_in.l0 k l0 a1 0
set_option maxHeartbeats 8000000 in
set_option maxRecDepth 100000 in
theorem w4_in.calls (k : Nat) (A0 : Option Addr) (c0 : Nat) (l0 : List Int) (a1 : Int) (r : Bool) (w : World) (hr0 : Kd.C (Kd.int .i64) w A0 l0.length l0) (hc0 : l0.length ≤ c0) (h : w4_in.f k l0 a1 = some r) :
  Calls Tryd.prog 39 #[.slice A0 l0.length c0, .int .i64 a1] w fun e w' => e = .returned (.bool r) ∧ Drawn0 w w' := by
 have HR0 := aM_ hr0
 have HC0 := aM_ hc0
 clear hr0 hc0
 have H : (w4_in.l0 k l0 a1 0) = some r := h
 clear h
 have H' := aM_ H
 clear H
 go_enter Tryd.func39, Tryd.ntmps39
 go_wp2
 go_loopg [5] k (fun kq v5 w' => ∃ (x5_1 : Int), v5 = .int .i64 x5_1 ∧ Aside0 (w4_in.l0 kq l0 a1 x5_1 = some r) ∧ Aside0 (kq ≤ k) ∧ Drawn0 w w')
 case atStart => exact ⟨(0), (by first | rfl | (simp; done) | (simp [*]; done)), H', ⟨Nat.le_refl _⟩, by repeat (first | exact Drawn0.refl _ | apply Drawn0.step)⟩
 case round =>
  clear H'
  try clear p2
  obtain ⟨x5_1, rfl, HA, HK1, ⟨m1, rfl⟩⟩ := hrel
  cases gk with
  | zero => exact absurd HA.out (by simp [w4_in.l0])
  | succ k1 =>
   have H := HA.out
   clear HA
   simp only [w4_in.l0] at H
   by_cases c3 : x5_1 < (l0.length : Int)
   ·rw [if_pos c3] at H
    have c3b0 : decide (x5_1 < (l0.length : Int)) = true := decide_eq_true c3
    clear c3
    by_cases c4 : 0 ≤ x5_1
    ·rw [if_pos c4] at H
     have c4b0 : decide (0 ≤ x5_1) = true := decide_eq_true c4
     clear c4
     by_cases c5 : (rd l0 x5_1) = a1
     ·rw [if_pos c5] at H
      have c5b0 : ((rd l0 x5_1) == a1) = true := beq_iff_eq.mpr c5
      have c5b1 : ((rd l0 x5_1) != a1) = false := bne_eq_false_iff_eq.mpr c5
      clear c5
      obtain rfl := Option.some.inj H
      have p307 : 0 ≤ (x5_1 : Int) := of_decide_eq_true (by assumption)
      have q307 : x5_1 < (l0.length : Int) := of_decide_eq_true (by assumption)
      obtain ⟨ad307, e307, hx307_0⟩ := Kd.at_int HR0.out x5_1 p307 q307
      cases e307
      replace p307 := eq_true p307
      replace q307 := eq_true q307
      go_wp2
      go_ret
      exact ⟨by first | rfl | (simp; done) | (simp [*]; done), by repeat (first | exact Drawn0.refl _ | apply Drawn0.step)⟩
     ·rw [if_neg c5] at H
      have c5b0 : ((rd l0 x5_1) == a1) = false := beq_eq_false_iff_ne.mpr c5
      have c5b1 : ((rd l0 x5_1) != a1) = true := bne_iff_ne.mpr c5
      have H' := aM_ H
      clear H
      have p307 : 0 ≤ (x5_1 : Int) := of_decide_eq_true (by assumption)
      have q307 : x5_1 < (l0.length : Int) := of_decide_eq_true (by assumption)
      obtain ⟨ad307, e307, hx307_0⟩ := Kd.at_int HR0.out x5_1 p307 q307
      cases e307
      replace p307 := eq_true p307
      replace q307 := eq_true q307
      go_wp2
      go_roundg k1
      case measure => have := HK1.out; omega
      case rel => exact ⟨(wrap64 (x5_1 + 1)), (by first | rfl | (simp; done) | (simp [*]; done)), H', ⟨by have := HK1.out; omega⟩, by repeat (first | exact Drawn0.refl _ | apply Drawn0.step)⟩
    ·rw [if_neg c4] at H
     exact absurd H (by simp)
   ·rw [if_neg c3] at H
    have c3b0 : decide (x5_1 < (l0.length : Int)) = false := decide_eq_false c3
    clear c3
    obtain rfl := Option.some.inj H
    go_wp2
    go_ret
    exact ⟨by first | rfl | (simp; done) | (simp [*]; done), by repeat (first | exact Drawn0.refl _ | apply Drawn0.step)⟩
end Go.Proofs.YtfgbkklhjocmjaaDoor.Xq
namespace Go.Proofs.YtfgbkklhjocmjaaDoor.Xq
open Go.RowKit Go.Shelf Go.Proofs.YtfgbkklhjocmjaaDoorW.PrintWords Go.Proofs.YtfgbkklhjocmjaaDoorW.PrintLast Go.Proofs.YtfgbkklhjocmjaaDoor.Gv
attribute [local go_sem] Oper.semAt_some
structure LSt (Bs base : Nat) (Pr : Nat → Prop) (p : List Int) (W : World) : Prop where
  hw : ∃ vw, W.heap[Bs]? = some (.cells #[vw] 31) ∧ Kd.R (Kd.int .i64) 3 W base (fun k => ¬ Pr k) vw p
  pr : ∀ k, Pr k → k < W.heap.size ∧ k ≠ Bs
section
variable {Bs base : Nat} {Pr Pr' : Nat → Prop} {p : List Int} {W W' : World}
theorem LSt.own (h : LSt Bs base Pr p W) {row : Option Nat} (hg : W.grownBy W' row) (hr : ∀ r, row = some r → ∃ o : Obj, W.heap[r]? = some o ∧ o.isCells = false) : LSt Bs base Pr p W' := by
  obtain ⟨vw, h1, h2⟩ := h.hw
  exact ⟨⟨vw, (hg.block _ (blk_lt h1) (cells_ne hr h1)).trans h1, Kd.R_grown2 h2 rfl hg (fun k e => by
    obtain ⟨o, ho, hc⟩ := hr k e
    exact own_ne h2 ho hc)⟩, fun k hk => ⟨Nat.lt_of_lt_of_le (h.pr k hk).1 hg.size, (h.pr k hk).2⟩⟩
end
end Go.Proofs.YtfgbkklhjocmjaaDoor.Xq
namespace Go.Proofs.YtfgbkklhjocmjaaDoor.Xq
open Go.RowKit Go.Shelf Go.Proofs.YtfgbkklhjocmjaaDoorW.PrintWords Go.Proofs.YtfgbkklhjocmjaaDoorW.PrintLast Go.Proofs.YtfgbkklhjocmjaaDoor.Gv
def visT (l : List S53) : Nat → Int → List Bool × List Int → List Bool × List Int
  | 0, _, s => s
  | k + 1, v, s => (((succL l v).foldl (fun s w => if s.1.getD w.toNat true = true then s else visT l k w s) (s.1.set v.toNat true, s.2)).1, ((succL l v).foldl (fun s w => if s.1.getD w.toNat true = true then s else visT l k w s) (s.1.set v.toNat true, s.2)).2 ++ [v])
def vstep (l : List S53) (k : Nat) (s : List Bool × List Int) (w : Int) : List Bool × List Int := if s.1.getD w.toNat true = true then s else visT l k w s
theorem visT_succ (l : List S53) (k : Nat) (v : Int) (s : List Bool × List Int) : visT l (k + 1) v s = (((succL l v).foldl (vstep l k) (s.1.set v.toNat true, s.2)).1, ((succL l v).foldl (vstep l k) (s.1.set v.toNat true, s.2)).2 ++ [v]) := rfl
def cnt (b : List Bool) : Nat := b.countP (fun x => !x)
theorem cnt_set : ∀ {b : List Bool} {i : Nat}, b.getD i true = false → cnt (b.set i true) + 1 = cnt b
  | [], i, h => by simp at h
  | x :: r, 0, h => by
    have : x = false := by simpa using h
    subst this
    simp [cnt]
  | x :: r, i + 1, h => by
    have h2 : r.getD i true = false := by simpa using h
    have := cnt_set h2
    simp only [cnt, List.set_cons_succ, List.countP_cons] at this ⊢
    omega
theorem cnt_pos {b : List Bool} {i : Nat} (h : b.getD i true = false) : 1 ≤ cnt b := by have := cnt_set h; omega
def Keep1 (s s' : List Bool × List Int) : Prop := s'.1.length = s.1.length ∧ cnt s'.1 ≤ cnt s.1 ∧ s'.2.length + cnt s'.1 ≤ s.2.length + cnt s.1
theorem Keep1.refl (s : List Bool × List Int) : Keep1 s s := ⟨rfl, Nat.le_refl _, Nat.le_refl _⟩
theorem Keep1.trans {s t u : List Bool × List Int} (h : Keep1 s t) (k : Keep1 t u) : Keep1 s u := ⟨k.1.trans h.1, Nat.le_trans k.2.1 h.2.1, Nat.le_trans k.2.2 h.2.2⟩
theorem vsteps_keep (l : List S53) (k : Nat) (ih : ∀ v s, s.1.getD v.toNat true = false → Keep1 s (visT l k v s)) : ∀ (xs : List Int) (s : List Bool × List Int), Keep1 s (xs.foldl (vstep l k) s)
  | [], s => Keep1.refl s
  | x :: r, s => by
    rw [List.foldl_cons]
    refine Keep1.trans ?_ (vsteps_keep l k ih r _)
    unfold vstep
    by_cases h : s.1.getD x.toNat true = true
    · rw [if_pos h]; exact Keep1.refl s
    · rw [if_neg h]; exact ih x s (by simpa using h)
theorem visT_keep (l : List S53) : ∀ (k : Nat) (v : Int) (s : List Bool × List Int), s.1.getD v.toNat true = false → Keep1 s (visT l k v s)
  | 0, v, s, h => Keep1.refl s
  | k + 1, v, s, h => by
    have h1 := vsteps_keep l k (visT_keep l k) (succL l v) (s.1.set v.toNat true, s.2)
    have h2 := cnt_set h
    rw [visT_succ]
    generalize (succL l v).foldl (vstep l k) (s.1.set v.toNat true, s.2) = F at h1 ⊢
    obtain ⟨F1, F2⟩ := F
    obtain ⟨a, b, c⟩ := h1
    have a2 : F1.length = (s.1.set v.toNat true).length := a
    have b2 : cnt F1 ≤ cnt (s.1.set v.toNat true) := b
    have c2 : F2.length + cnt F1 ≤ s.2.length + cnt (s.1.set v.toNat true) := c
    refine ⟨by show F1.length = s.1.length; rw [a2]; simp, ?_, ?_⟩
    · show cnt F1 ≤ cnt s.1
      omega
    · show (F2 ++ [v]).length + cnt F1 ≤ s.2.length + cnt s.1
      rw [List.length_append, List.length_singleton]
      omega
structure VS (w0 : World) (n : Int) (A : Option Addr) (c : Nat) (l : List S53) (Bg Bs Bf Bo gs base : Nat) (Pr : Nat → Prop) (seen : List Bool) (out : List Int) (W : World) : Prop where
  hg : W.heap[Bg]? = some (.cells #[.int .i64 n, .slice A l.length c] 24)
  hs : W.heap[Bs]? = some (.cells #[.slice (some ⟨gs, 0, none⟩) seen.length seen.length] 64)
  hc : W.heap[gs]? = some (.cells ((seen.map Value.bool).toArray) 4 (0, 0))
  hf : W.heap[Bf]? = some (.cells #[.func (.func 79) #[] #[.pointer (some ⟨Bs, 0, none⟩), .pointer (some ⟨Bg, 0, none⟩), .pointer (some ⟨Bf, 0, none⟩), .pointer (some ⟨Bo, 0, none⟩)]] 88)
  hw : ∃ vw, W.heap[Bo]? = some (.cells #[vw] 31) ∧ Kd.R (Kd.int .i64) 3 W base (fun k => ¬ Pr k) vw out
  pr : ∀ k, Pr k → k < W.heap.size ∧ k ≠ gs ∧ k ≠ Bo
  bl : Below base w0 W
section
variable {w0 : World} {n : Int} {A : Option Addr} {c : Nat} {l : List S53} {Bg Bs Bf Bo gs base : Nat} {Pr Pr' : Nat → Prop} {seen : List Bool} {out : List Int} {W W' : World}
theorem VS.own (h : VS w0 n A c l Bg Bs Bf Bo gs base Pr seen out W) {row : Option Nat} (hb : base ≤ w0.heap.size) (hg : W.grownBy W' row) (hr : ∀ r, row = some r → base ≤ r ∧ ∃ o : Obj, W.heap[r]? = some o ∧ o.isCells = false) : VS w0 n A c l Bg Bs Bf Bo gs base Pr seen out W' := by
  obtain ⟨vw, h1, h2⟩ := h.hw
  have hr2 := fun r e => (hr r e).2
  refine ⟨(hg.block _ (blk_lt h.hg) (cells_ne hr2 h.hg)).trans h.hg, (hg.block _ (blk_lt h.hs) (cells_ne hr2 h.hs)).trans h.hs, (hg.block _ (blk_lt h.hc) (cells_ne hr2 h.hc)).trans h.hc, (hg.block _ (blk_lt h.hf) (cells_ne hr2 h.hf)).trans h.hf, ⟨vw, (hg.block _ (blk_lt h1) (cells_ne hr2 h1)).trans h1, Kd.R_grown2 h2 rfl hg (fun k e => ?_)⟩, fun k hk => ?_, h.bl.grown hg (Nat.le_trans hb h.bl.size) (fun r e => (hr r e).1)⟩
  · obtain ⟨_, o, ho, hc⟩ := hr k e
    exact own_ne h2 ho hc
  · obtain ⟨p1, p2, p3⟩ := h.pr k hk
    exact ⟨Nat.lt_of_lt_of_le p1 hg.size, p2, p3⟩
theorem VS.below (h : VS w0 n A c l Bg Bs Bf Bo gs base Pr seen out W) (hbs : base ≤ w0.heap.size) (hb : Below W.heap.size W W') (hp : ∀ k, Pr' k → Pr k ∨ (W.heap.size ≤ k ∧ k < W'.heap.size)) : VS w0 n A c l Bg Bs Bf Bo gs base Pr' seen out W' := by
  obtain ⟨vw, h1, h2⟩ := h.hw
  refine ⟨blk_below h.hg hb, blk_below h.hs hb, blk_below h.hc hb, blk_below h.hf hb, ⟨vw, blk_below h1 hb, Kd.R_below (Kd.R_reok rfl h2 (fun k hk hp' => ?_)) hb⟩, fun k hk => ?_, h.bl.trans (hb.mono (Nat.le_trans hbs h.bl.size))⟩
  · rcases hp k hp' with h3 | h3
    · exact h2.1 k hk h3
    · have := Kd.R_lt h2 k hk; omega
  · rcases hp k hk with h3 | h3
    · obtain ⟨p1, p2, p3⟩ := h.pr k h3
      exact ⟨Nat.lt_of_lt_of_le p1 hb.size, p2, p3⟩
    · have := blk_lt h.hc
      have := blk_lt h1
      exact ⟨h3.2, by omega, by omega⟩
theorem VS.prot (h : VS w0 n A c l Bg Bs Bf Bo gs base Pr seen out W) (hp : ∀ k, Pr' k → Pr k ∨ ∃ o : Obj, W.heap[k]? = some o ∧ o.isCells = false) : VS w0 n A c l Bg Bs Bf Bo gs base Pr' seen out W := by
  obtain ⟨vw, h1, h2⟩ := h.hw
  refine ⟨h.hg, h.hs, h.hc, h.hf, ⟨vw, h1, Kd.R_reok rfl h2 (fun k hk hp' => ?_)⟩, fun k hk => ?_, h.bl⟩
  · rcases hp k hp' with h3 | ⟨o, ho, hc⟩
    · exact h2.1 k hk h3
    · exact own_ne h2 ho hc hk.symm
  · rcases hp k hk with h3 | ⟨o, ho, hc⟩
    · exact h.pr k h3
    · refine ⟨blk_lt ho, ?_, ?_⟩
      · intro e; subst e; rw [h.hc] at ho; cases ho; simp [Obj.isCells] at hc
      · intro e; subst e; rw [h1] at ho; cases ho; simp [Obj.isCells] at hc
theorem VS.mark (h : VS w0 n A c l Bg Bs Bf Bo gs base Pr seen out W) (hb : base ≤ gs) (q : Nat) : VS w0 n A c l Bg Bs Bf Bo gs base Pr (seen.set q true) out (W.setCell ⟨gs, q, none⟩ (.bool true)) ∧ (∀ k, Pr k → (W.setCell ⟨gs, q, none⟩ (.bool true)).heap[k]? = W.heap[k]?) ∧ KeepsOthers W (W.setCell ⟨gs, q, none⟩ (.bool true)) := by
  obtain ⟨vw, h1, h2⟩ := h.hw
  have oth : ∀ k, k ≠ gs → (W.setCell ⟨gs, q, none⟩ (.bool true)).heap[k]? = W.heap[k]? := fun k hk => Below.heap_setCell W ⟨gs, q, none⟩ _ k hk
  have n1 : Bg ≠ gs := by intro e; have h3 := h.hg; rw [e, h.hc] at h3; simp at h3
  have n2 : Bs ≠ gs := by intro e; have h3 := h.hs; rw [e, h.hc] at h3; simp at h3
  have n3 : Bf ≠ gs := by intro e; have h3 := h.hf; rw [e, h.hc] at h3; simp at h3
  have n4 : Bo ≠ gs := by intro e; have h3 := h1; rw [e, h.hc] at h3; simp at h3
  refine ⟨⟨(oth _ n1).trans h.hg, by rw [List.length_set]; exact (oth _ n2).trans h.hs, blk_put h.hc q _ (by rw [List.setIfInBounds_toArray, List.map_set]), (oth _ n3).trans h.hf, ⟨vw, (oth _ n4).trans h1, Kd.R_set h2 h.hc (by decide) q _⟩, fun k hk => ?_, h.bl.setCell (p := ⟨gs, q, none⟩) hb _⟩, fun k hk => oth k (h.pr k hk).2.1, ⟨by simp, fun k o hk ho => (oth k (fun e => by rw [e, h.hc] at hk; cases hk; simp [Obj.isCells] at ho)).trans hk⟩⟩
  obtain ⟨p1, p2, p3⟩ := h.pr k hk
  exact ⟨by simpa using p1, p2, p3⟩
theorem VS.app (h : VS w0 n A c l Bg Bs Bf Bo gs base Pr seen out W) (hb1 : base ≤ Bo) (hb2 : base ≤ w0.heap.size) {vw v1 : Value} {x : Int} {w3 : World} (hvw : W.heap[Bo]? = some (.cells #[vw] 31)) (hr : Kd.R (Kd.int .i64) 3 W base (fun k => ¬ Pr k) vw out)
    (hF : Kd.R (Kd.int .i64) 3 w3 base (fun k => ¬ Pr k) v1 (out ++ [x])) (hg : W.grownBy w3 vw.ownBlock) :
    VS w0 n A c l Bg Bs Bf Bo gs base Pr seen (out ++ [x]) (w3.setCell ⟨Bo, 0, none⟩ v1) ∧ (∀ k, Pr k → (w3.setCell ⟨Bo, 0, none⟩ v1).heap[k]? = W.heap[k]?) ∧ KeepsOthers W (w3.setCell ⟨Bo, 0, none⟩ v1) := by
  have oth : ∀ k, k < W.heap.size → k ≠ Bo → some k ≠ vw.ownBlock → (w3.setCell ⟨Bo, 0, none⟩ v1).heap[k]? = W.heap[k]? := fun k hk h2 h3 =>
    (Below.heap_setCell w3 ⟨Bo, 0, none⟩ v1 k h2).trans (hg.block k hk h3)
  have hw3 : w3.heap[Bo]? = some (.cells #[vw] 31) := (hg.block Bo (blk_lt hvw) (Kd.R_ne hr hvw (by decide))).trans hvw
  have n1 : Bg ≠ Bo := by intro e; have h3 := h.hg; rw [e, hvw] at h3; simp at h3
  have n2 : Bs ≠ Bo := by intro e; have h3 := h.hs; rw [e, hvw] at h3; simp at h3
  have n3 : Bf ≠ Bo := by intro e; have h3 := h.hf; rw [e, hvw] at h3; simp at h3
  have n4 : gs ≠ Bo := by intro e; have h3 := h.hc; rw [e, hvw] at h3; simp at h3
  refine ⟨⟨(oth _ (blk_lt h.hg) n1 (Kd.R_ne hr h.hg (by decide))).trans h.hg, (oth _ (blk_lt h.hs) n2 (Kd.R_ne hr h.hs (by decide))).trans h.hs, (oth _ (blk_lt h.hc) n4 (Kd.R_ne hr h.hc (by decide))).trans h.hc, (oth _ (blk_lt h.hf) n3 (Kd.R_ne hr h.hf (by decide))).trans h.hf, ⟨v1, blk_put hw3 0 v1 rfl, Kd.R_set hF hw3 (by decide) 0 v1⟩, fun k hk => ⟨?_, (h.pr k hk).2⟩, (h.bl.grown hg (Nat.le_trans hb2 h.bl.size) (fun k hk => Kd.R_base hr k hk)).setCell (p := ⟨Bo, 0, none⟩) hb1 v1⟩, fun k hk => oth k (h.pr k hk).1 (h.pr k hk).2.2 (fun e => hr.1 k e.symm hk), ⟨?_, fun k o hk ho => (oth k (blk_lt hk) ?_ ?_).trans hk⟩⟩
  · have := hg.size
    have := (h.pr k hk).1
    simp
    omega
  · have := hg.size
    simp
    omega
  · intro e; subst e; rw [hvw] at hk; cases hk; simp [Obj.isCells] at ho
  · exact own_ne hr hk ho
end
end Go.Proofs.YtfgbkklhjocmjaaDoor.Xq
namespace Go.Proofs.YtfgbkklhjocmjaaDoor.Xq
open Go.RowKit Go.Shelf Go.Proofs.YtfgbkklhjocmjaaDoorW.PrintWords Go.Proofs.YtfgbkklhjocmjaaDoorW.PrintLast Go.Proofs.YtfgbkklhjocmjaaDoor.Gv
attribute [local go_sem] Oper.semAt_some
set_option maxRecDepth 100000 in
set_option maxHeartbeats 4000000 in
theorem visit_calls (w0 : World) (n : Nat) (A : Option Addr) (c : Nat) (l : List S53) (Bg Bs Bf Bo gs base : Nat) (hv : Valid n l) (hC0 : Kd.C k53 w0 A l.length l) (hbase : base = w0.heap.size) (hb1 : base ≤ gs) (hb2 : base ≤ Bo) : ∀ (k : Nat) (v : Nat) (Pr : Nat → Prop) (seen : List Bool) (out : List Int) (W : World),
    cnt seen ≤ k → v < n → seen.getD v true = false → seen.length = n → out.length + cnt seen ≤ 100000 → VS w0 n A c l Bg Bs Bf Bo gs base Pr seen out W →
    Calls Tryd.prog 79 #[.int .i64 v, .pointer (some ⟨Bs, 0, none⟩), .pointer (some ⟨Bg, 0, none⟩), .pointer (some ⟨Bf, 0, none⟩), .pointer (some ⟨Bo, 0, none⟩)] W fun e W' => e = .returned (.tuple #[]) ∧
      VS w0 n A c l Bg Bs Bf Bo gs base Pr (visT l k v (seen, out)).1 (visT l k v (seen, out)).2 W' ∧ (∀ j, Pr j → W'.heap[j]? = W.heap[j]?) ∧ KeepsOthers W W' := by
  intro k
  induction k with
  | zero =>
    intro v Pr seen out W h1 h2 h3
    have := cnt_pos h3
    omega
  | succ k ih =>
  intro v Pr seen out W hcnt hvn hsv hlen hol hVS
  have IH := As2.mk ih
  have HV := As2.mk hv
  have C0 := As2.mk hC0
  have S0 := As2.mk hVS
  have HB := As2.mk hbase
  have hn1 : (n : Int) ≤ 8192 := hv.n1
  have hcs : W.cell? ⟨Bs, 0, none⟩ = some (.slice (some ⟨gs, 0, none⟩) seen.length seen.length) := (blk_cell hVS.hs 0).trans rfl
  have hvl : v < seen.length := by rw [hlen]; exact hvn
  have hvi : (v : Int) < (seen.length : Int) := by omega
  have hcv : W.cell? ⟨gs, v, none⟩ = some (.bool false) := by
    rw [blk_cell hVS.hc]
    have : seen[v] = false := by simpa [List.getD, hvl] using hsv
    simp [hvl, this]
  have hfv : W.frozen? ⟨gs, v, none⟩ = false := blk_frozen hVS.hc v
  have hg0 : W.cell? ⟨Bg, 0, none⟩ = some (.int .i64 n) := (blk_cell hVS.hg 0).trans rfl
  have hg1 : W.cell? ⟨Bg, 1, none⟩ = some (.slice A l.length c) := (blk_cell hVS.hg 1).trans rfl
  have ngg : Bg ≠ gs := by intro e; have h3 := hVS.hg; rw [e, hVS.hc] at h3; simp at h3
  have ngg2 : gs ≠ Bg := fun e => ngg e.symm
  have HC := As2.mk (cnt_set hsv)
  have HL := As2.mk hlen
  have HK := As2.mk (And.intro hcnt hol)
  have BB := As2.mk (And.intro hb1 hb2)
  have HVN := As2.mk hvn
  clear ih hv hC0 hVS hbase hcnt hol hlen hsv hb1 hb2 hvn hvl
  refine (callsIn_wide (n := 3)).1 ?_
  refine callsIn_of_wp_marks (F := Fence.wide) (n := 3) Tryd.func79 rfl trivial ?_ rfl
  simp only [Tryd.ntmps79, List.size_toArray, List.length_cons, List.length_nil, Nat.reduceAdd, Nat.reduceSub, Array.replicate_succ, Array.replicate_zero, List.push_toArray, List.append_toArray, List.nil_append, List.cons_append]
  gi_wp2_with (refine ⟨trivial, ?_⟩; gi_at_call 73; obtain ⟨W3, hW3⟩ : ∃ W3, W3 = W.setCell ⟨gs, v, none⟩ (.bool true) := ⟨_, rfl⟩; rw [← hW3]; have MK := S0.out.mark BB.out.1 v; rw [← hW3] at MK; have M3 := As2.mk MK; clear MK; have sz3 : W3.heap.size = W.heap.size := (by subst hW3; simp); clear hW3 hcs hcv hfv hg0 hg1; refine (callsIn_wide.2 (next_calls (n : Int) (v : Int) A c l W3 (Kd.C_below C0.out (by rw [← HB.out]; exact M3.out.1.bl)) (by have := HV.out.len; omega) HV.out.rising HV.out.ends)).mono ?_; rintro e W4 ⟨Ba, Bg2, Bv, i, rfl, hna, hrd, hb4, hge, hbk⟩; have NA := As2.mk hna.out; have RD := As2.mk hrd; have B4 := As2.mk hb4; have GE := As2.mk hge; have BK := As2.mk hbk.out; clear hna hrd hb4 hge hbk)
  have SZ := As2.mk sz3
  clear sz3
  have LT4 := As2.mk (show W3.heap.size ≤ Ba ∧ W3.heap.size ≤ Bg2 ∧ W3.heap.size ≤ Bv ∧ Ba < W4.heap.size ∧ Bg2 < W4.heap.size ∧ Bv < W4.heap.size from ⟨GE.out.1, GE.out.2.1, GE.out.2.2, blk_lt BK.out.1, blk_lt BK.out.2.1, blk_lt BK.out.2.2⟩)
  have L4 := As2.mk (show VS w0 n A c l Bg Bs Bf Bo gs base (fun k => Pr k ∨ k = Ba ∨ k = Bg2 ∨ k = Bv) (seen.set v true) out W4 from M3.out.1.below (by rw [HB.out]; exact Nat.le_refl _) B4.out (fun k hk => by
    rcases hk with h | h | h | h
    · exact .inl h
    · subst h; exact .inr ⟨LT4.out.1, LT4.out.2.2.2.1⟩
    · subst h; exact .inr ⟨LT4.out.2.1, LT4.out.2.2.2.2.1⟩
    · subst h; exact .inr ⟨LT4.out.2.2.1, LT4.out.2.2.2.2.2⟩))
  have hbg := As2.mk (show base ≤ W4.heap.size by have := L4.out.bl.size; rw [← HB.out] at this; exact this)
  have hw4 := As2.mk (show W.heap.size ≤ W4.heap.size by have := B4.out.size; have := SZ.out; omega)
  have P4 := As2.mk (show ∀ j, Pr j → W4.heap[j]? = W.heap[j]? from fun j hj => (B4.out.block j (M3.out.1.pr j hj).1).trans (M3.out.2.1 j hj))
  have O4 := As2.mk (show ∀ (j : Nat) (o : Obj), W.heap[j]? = some o → o.isCells = false → W4.heap[j]? = some o from fun j o hj ho => blk_below (M3.out.2.2.2 j o hj ho) B4.out)
  have PY := As2.mk (show ∀ y ∈ succL l (v : Int), 0 ≤ y ∧ y < (n : Int) by
    intro y hy
    unfold succL at hy
    obtain ⟨x, hx, rfl⟩ := List.mem_map.1 hy
    have := within_iff.1 (HV.out.ins x (List.mem_filter.1 hx).1)
    exact ⟨this.2.2.1, this.2.2.2⟩)
  have hvni : (v : Int) < (n : Int) := by have := HVN.out; omega
  rename_i K1 hK1
  refine wpIn_rangeFunc_ownG (F := Fence.wide) (n := 3) rfl (by omega) (gf := 94) (lb := #[.pointer (some ⟨Ba, 0, none⟩), .pointer (some ⟨Bg2, 0, none⟩), .pointer (some ⟨Bv, 0, none⟩)]) rfl trivial (enters_of Tryd.func94 (by kernel_rfl) rfl)
    (next_stopsP 2 (by omega) Ba Bg2 Bv A c l (v : Int) i HV.out.rising NA.out (fun y => 0 ≤ y ∧ y < (n : Int)) ⟨(v : Int), Int.natCast_nonneg _, hvni⟩ PY.out W4 RD.out) nextK_t nextK_b (Below.refl _ _) (fun _ => rfl)
    (fun (pre : List {y : Int // 0 ≤ y ∧ y < (n : Int)}) X => VS w0 n A c l Bg Bs Bf Bo gs base (fun k => Pr k ∨ k = Ba ∨ k = Bg2 ∨ k = Bv) ((pre.map (·.1)).foldl (vstep l k) (seen.set v true, out)).1 ((pre.map (·.1)).foldl (vstep l k) (seen.set v true, out)).2 X ∧ (∀ j, Pr j → X.heap[j]? = W.heap[j]?) ∧ (∀ (j : Nat) (o : Obj), W.heap[j]? = some o → o.isCells = false → X.heap[j]? = some o) ∧ NextRd Ba Bg2 Bv A c l (v : Int) i X)
    (fun _ _ _ => False) ?hI (fun _ _ _ _ _ hs _ _ => hs) ⟨L4.out, P4.out, O4.out, RD.out⟩
    (fun y => { tmps := #[Value.int .i64 ↑v, Value.pointer (some ⟨Bs, 0, none⟩), Value.pointer (some ⟨Bg, 0, none⟩), Value.pointer (some ⟨Bf, 0, none⟩), Value.pointer (some ⟨Bo, 0, none⟩), undef, Value.int .i64 y.1, Value.slice (some ⟨gs, 0, none⟩) seen.length seen.length, Value.int .i64 ↑v, Value.pointer (some ⟨gs, v, none⟩), Value.agg #[Value.int .i64 ↑n, Value.slice A l.length c], Value.int .i64 ↑v, Value.func (Fn.func 94) #[] #[Value.pointer (some ⟨Ba, 0, none⟩), Value.pointer (some ⟨Bg2, 0, none⟩), Value.pointer (some ⟨Bv, 0, none⟩)], Value.int .i64 y.1, undef, undef, undef, undef, undef, undef, undef, undef, undef, undef, undef, undef], defers := [] }) ?assign ?body ?done ?stop
  case hI =>
    rintro pre X Y row ⟨h1, h2, h3, h4⟩ hg hr
    have lt : ∀ k0, k0 < W4.heap.size → some k0 ≠ row := fun k0 hk0 e => by
      have := (hr k0 e.symm).1
      omega
    exact ⟨h1.own (by rw [HB.out]; exact Nat.le_refl _) hg (fun r e => ⟨Nat.le_trans hbg.out (hr r e).1, (hr r e).2⟩), fun j hj => (hg.block j (by have := (h1.pr j (.inl hj)).1; exact this) (lt j (by have := (S0.out.pr j hj).1; have := hw4.out; omega))).trans (h2 j hj), fun j o hj ho => (hg.block j (blk_lt (h3 j o hj ho)) (lt j (by have := blk_lt hj; have := hw4.out; omega))).trans (h3 j o hj ho), next_own (β := Unit) Ba Bg2 Bv A c l (v : Int) i () X Y row h4 hg (fun r e => (hr r e).2)⟩
  case assign =>
    intro lp y W K hK
    gi_wp2
    exact hK
  case body =>
    rintro lp pre ⟨y, hy0, hy1⟩ W5 ⟨h1, h2, h3, h4⟩ hpl
    obtain ⟨yn, rfl⟩ := Int.eq_ofNat_of_zero_le hy0
    clear hpl
    have ST := As2.mk (show ((pre ++ [(⟨(yn : Int), hy0, hy1⟩ : {y : Int // 0 ≤ y ∧ y < (n : Int)})]).map (·.1)).foldl (vstep l k) (seen.set v true, out) = vstep l k ((pre.map (·.1)).foldl (vstep l k) (seen.set v true, out)) (yn : Int) by rw [List.map_append, List.foldl_append]; rfl)
    have KP := As2.mk (vsteps_keep l k (visT_keep l k) (pre.map (·.1)) (seen.set v true, out))
    generalize ((pre.map (·.1)).foldl (vstep l k) (seen.set v true, out)) = sj at h1 ST KP
    obtain ⟨bj, oj⟩ := sj
    have kl : bj.length = n := by have := KP.out.1; simp at this; rw [this]; exact HL.out
    have kc : cnt bj ≤ k := by have h1 : cnt bj ≤ cnt (seen.set v true) := KP.out.2.1; have := HC.out; have := HK.out.1; omega
    have ko : oj.length + cnt bj ≤ 100000 := by have h1 : oj.length + cnt bj ≤ out.length + cnt (seen.set v true) := KP.out.2.2; have := HC.out; have := HK.out.2; omega
    have KK := As2.mk (And.intro kl (And.intro kc ko))
    have hyl : yn < bj.length := by rw [kl]; omega
    have hyi : (yn : Int) < (bj.length : Int) := by omega
    have cs : W5.cell? ⟨Bs, 0, none⟩ = some (.slice (some ⟨gs, 0, none⟩) bj.length bj.length) := (blk_cell h1.hs 0).trans rfl
    have cf : W5.cell? ⟨Bf, 0, none⟩ = some (.func (.func 79) #[] #[.pointer (some ⟨Bs, 0, none⟩), .pointer (some ⟨Bg, 0, none⟩), .pointer (some ⟨Bf, 0, none⟩), .pointer (some ⟨Bo, 0, none⟩)]) := (blk_cell h1.hf 0).trans rfl
    have cy : W5.cell? ⟨gs, yn, none⟩ = some (.bool bj[yn]) := by rw [blk_cell h1.hc]; simp [hyl]
    have hgd : bj.getD yn true = bj[yn] := by simp [List.getD, hyl]
    have HH := As2.mk (And.intro h1 (And.intro h2 (And.intro h3 h4)))
    clear h1 h2 h3 h4 kl kc ko
    generalize hbz : bj[yn] = bz at cy hgd
    have HGD := As2.mk hgd
    clear hgd hbz
    cases bz with
    | true =>
      gi_wp2_with fail
      have EBs : vstep l k (bj, oj) (yn : Int) = (bj, oj) := by
        unfold vstep
        rw [if_pos (by rw [Int.toNat_natCast]; exact HGD.out)]
      refine ⟨⟨Nat.le_refl _, fun _ _ _ h _ => h⟩, fun h => h, ?_⟩
      show VS w0 n A c l Bg Bs Bf Bo gs base _ (((pre ++ [(⟨(yn : Int), hy0, hy1⟩ : {y : Int // 0 ≤ y ∧ y < (n : Int)})]).map (·.1)).foldl (vstep l k) (seen.set v true, out)).1 (((pre ++ [(⟨(yn : Int), hy0, hy1⟩ : {y : Int // 0 ≤ y ∧ y < (n : Int)})]).map (·.1)).foldl (vstep l k) (seen.set v true, out)).2 W5 ∧ _
      rw [ST.out, EBs]
      exact HH.out
    | false =>
      gi_wp2_with (refine ⟨trivial, ?_⟩; gi_at_call 79; refine (CallsIn.inRound lp (callsIn_wide.2 (IH.out yn (fun k => Pr k ∨ k = Ba ∨ k = Bg2 ∨ k = Bv) bj oj W5 KK.out.2.1 (by omega) HGD.out KK.out.1 KK.out.2.2 HH.out.1))).mono ?_; rintro e w' ⟨rfl, hs, hp, hko⟩; have S' := As2.mk hs; have P' := As2.mk hp; have KO := As2.mk hko; clear hs hp hko)
      have EBs : vstep l k (bj, oj) (yn : Int) = visT l k (yn : Int) (bj, oj) := by
        unfold vstep
        rw [if_neg (by rw [Int.toNat_natCast, HGD.out]; simp)]
      have nr5 : NextRd Ba Bg2 Bv A c l (v : Int) i W5 → NextRd Ba Bg2 Bv A c l (v : Int) i w' := fun h => ⟨(World.cell?_of_block (P'.out Ba (.inr (.inl rfl)))).trans h.ca, (World.cell?_of_block (P'.out Bg2 (.inr (.inr (.inl rfl))))).trans h.cg, (World.cell?_of_block (P'.out Bv (.inr (.inr (.inr rfl))))).trans h.cv, Kd.C_below C0.out (by rw [← HB.out]; exact S'.out.bl)⟩
      refine ⟨KO.out.from _, nr5, ?_⟩
      show VS w0 n A c l Bg Bs Bf Bo gs base _ (((pre ++ [(⟨(yn : Int), hy0, hy1⟩ : {y : Int // 0 ≤ y ∧ y < (n : Int)})]).map (·.1)).foldl (vstep l k) (seen.set v true, out)).1 (((pre ++ [(⟨(yn : Int), hy0, hy1⟩ : {y : Int // 0 ≤ y ∧ y < (n : Int)})]).map (·.1)).foldl (vstep l k) (seen.set v true, out)).2 w' ∧ _
      rw [ST.out, EBs]
      exact ⟨S'.out, fun j hj => (P'.out j (.inl hj)).trans (HH.out.2.1 j hj), fun j o hj ho => KO.out.2 j o (HH.out.2.2.1 j o hj ho) ho, nr5 HH.out.2.2.2⟩
  case done =>
    rintro D ys W5 hD hys ⟨h1, h2, h3, h4⟩ hKD
    have hys2 : ys.map (·.1) = succL l (v : Int) := hys
    rw [hys2] at h1
    refine (show K1 _ _ from hK1 _ _ ?_)
    have KP := As2.mk (vsteps_keep l k (visT_keep l k) (succL l (v : Int)) (seen.set v true, out))
    obtain ⟨FL, hFL⟩ : ∃ FL, FL = (succL l (v : Int)).foldl (vstep l k) (seen.set v true, out) := ⟨_, rfl⟩
    rw [← hFL] at h1 KP
    have EF := As2.mk (show visT l (k + 1) (v : Int) (seen, out) = (FL.1, FL.2 ++ [(v : Int)]) by rw [visT_succ, Int.toNat_natCast, ← hFL])
    clear hFL
    obtain ⟨bj, oj⟩ := FL
    have kc : cnt bj ≤ k := by have h1 : cnt bj ≤ cnt (seen.set v true) := KP.out.2.1; have := HC.out; have := HK.out.1; omega
    have ko : oj.length + cnt bj ≤ 100000 := by have h1 : oj.length + cnt bj ≤ out.length + cnt (seen.set v true) := KP.out.2.2; have := HC.out; have := HK.out.2; omega
    have KK := As2.mk (And.intro kc ko)
    obtain ⟨vw, hw1, hw2⟩ := h1.hw
    obtain ⟨Ap, cp, hvp, hcp, _⟩ := Kd.R_reads hw2
    subst hvp
    have HW1 := As2.mk hw1
    have HW2 := As2.mk hw2
    have co : W5.cell? ⟨Bo, 0, none⟩ = some (.slice Ap oj.length cp) := (blk_cell hw1 0).trans rfl
    have lt2 := blk_lt hw1
    have HH := As2.mk (And.intro h1 (And.intro h2 (And.intro h3 h4)))
    have HKD := As2.mk hKD
    have HD := As2.mk hD
    clear h1 h2 h3 h4 hw1 hw2 kc ko hKD hD hys hys2 hK1 K1
    refine region_w ?hno ?hnd ?_
    case hno => rintro ⟨_, _, h, _⟩; cases h
    case hnd => kernel_rfl
    go_wp2_with (at_builtin; ((change wpList _ _ _ _ _ (World.alloc W5 (.cells #[.int .i64 v] 3))); go_must (refine Kd.R_append (Kd.int .i64) (w0 := w0) base rfl (.tmp 22) (.tmp 24) 31 3 (.int .i64 0) 8 rfl Tryd.underlying31 infoI3 rfl (by decide) (by omega) (.slice Ap oj.length cp) oj (v : Int) [.int .i64 v] (fun k => ¬ (Pr k ∨ k = Ba ∨ k = Bg2 ∨ k = Bv)) (fun _ => False) ?a0 ?aX ?aP (fun _ hk => hk.elim) ?aF ?aO ?aB ?aS ?aL ?_); (case a0 => rfl); (case aX => go_must (first | exact rfl | exact congrArg (fun z => Value.slice (some ⟨z, 0, none⟩) 1 1) (by simp))); (case aP => exact rfl); (case aB => exact HH.out.1.bl); (case aF => intro k hk hp; have := (HH.out.1.pr k hp).1; omega); (case aO => exact HW2.out); (case aS => have := HH.out.1.bl.size; rw [← HB.out] at this; exact this); (case aL => have := KK.out.2; omega); intro v1 w3 hF hb hg hat; obtain ⟨A1, c1, hv1, hc1, _⟩ := Kd.R_reads hF; subst hv1; have F := As2.mk hF; have GR := As2.mk hg; have gw3 : w3.heap[Bo]? = some (.cells #[.slice Ap oj.length cp] 31) := (hg.block Bo (blk_lt HW1.out) (Kd.R_ne HW2.out HW1.out (by decide))).trans HW1.out; have k3 : w3.cell? ⟨Bo, 0, none⟩ = some (.slice Ap oj.length cp) := (blk_cell gw3 0).trans rfl; have f3 := blk_frozen gw3 0; clear hF hb hg hat gw3))
    obtain ⟨E1, E2, E3⟩ := HH.out.1.app BB.out.2 (by rw [HB.out]; exact Nat.le_refl _) HW1.out HW2.out F.out GR.out
    have el : (oj ++ [(v : Int)]).length = oj.length + 1 := by simp
    rw [el] at E1 E2 E3
    have hdw : W.heap.size ≤ D := Nat.le_trans hw4.out HD.out
    refine leaves_marks [D] _ (by simp) (fun D' hD' => by obtain rfl : D' = D := (by simpa using hD'); exact E3.2 _ _ HKD.out rfl) ?_
    intro W' hW'
    refine ⟨_, results_none rfl _ _ _, rfl, ?_, ?_, ?_⟩
    · rw [EF.out]
      have E4 := E1.prot (Pr' := Pr) (fun k hk => .inl (.inl hk))
      obtain ⟨vw, h1, h2⟩ := E4.hw
      have nD : ∀ k (cs : Array Value) (t : TypeId) (fr : Nat × Nat), (w3.setCell ⟨Bo, 0, none⟩ (.slice A1 (oj.length + 1) c1)).heap[k]? = some (.cells cs t fr) → k ∉ [D] := fun k cs t fr hk hm => by
        obtain rfl : k = D := by simpa using hm
        rw [E3.2 _ _ HKD.out rfl] at hk
        cases hk
      refine ⟨(hW'.same _ (nD _ _ _ _ E4.hg)).trans E4.hg, (hW'.same _ (nD _ _ _ _ E4.hs)).trans E4.hs, (hW'.same _ (nD _ _ _ _ E4.hc)).trans E4.hc, (hW'.same _ (nD _ _ _ _ E4.hf)).trans E4.hf, ⟨vw, (hW'.same _ (nD _ _ _ _ h1)).trans h1, ?_⟩, fun k hk => ?_, E4.bl.trans (hW'.below (fun D' hD' => by obtain rfl : D' = D := (by simpa using hD'); exact Nat.le_trans hbg.out HD.out))⟩
      · refine Kd.R_mono (Kd.R_step (Kd.R_tight rfl h2) (fun k0 hk0 hlt => hW'.same k0 (fun hm => ?_))) (fun k hk => h2.1 k hk.symm)
        obtain rfl : k0 = D := by simpa using hm
        exact own_ne h2 (E3.2 _ _ HKD.out rfl) rfl hk0
      · obtain ⟨p1, p2, p3⟩ := E4.pr k hk
        exact ⟨by rw [hW'.size]; exact p1, p2, p3⟩
    · intro j hj
      have hjl := (S0.out.pr j hj).1
      exact (hW'.same j (fun hm => by have e : j = D := (by simpa using hm); omega)).trans ((E2 j (.inl hj)).trans (HH.out.2.1 j hj))
    · refine ⟨?_, fun j o hj ho => ?_⟩
      · rw [hW'.size]
        have h5 := blk_lt HKD.out
        have h6 := E3.1
        omega
      · have hjl := blk_lt hj
        exact (hW'.same j (fun hm => by have e : j = D := (by simpa using hm); omega)).trans (E3.2 j o (HH.out.2.2.1 j o hj ho) ho)
  case stop =>
    rintro D c pre W5 _ _ h _
    exact h.elim
def graph_Postorder.f (a0_0 : Int) (l0_1 : List S53) (a1 : Int) : Option (List Int) := some (if 0 ≤ a1 ∧ a1 < a0_0 ∧ chk a0_0 l0_1 = 0 then (visT l0_1 a0_0.toNat a1 (List.replicate a0_0.toNat false, [])).2 else [])
theorem madeB (m : Nat) : madeCells #[.bool false] m = (((List.replicate m false).map Value.bool).toArray) := by
  apply Array.ext
  · simp [madeCells]
  · intro i h1 h2
    simp [madeCells, Nat.mod_one]
theorem cnt_rep (n : Nat) : cnt (List.replicate n false) = n := by simp [cnt, List.countP_replicate]
set_option maxRecDepth 100000 in
set_option maxHeartbeats 1000000 in
theorem graph_Postorder.calls (a0_0 : Int) (A0_1 : Option Addr) (c0_1 : Nat) (l0_1 : List S53) (a1 : Int) (r : List Int) (w : World) (hr0_1 : Kd.C k53 w A0_1 l0_1.length l0_1) (hc0_1 : l0_1.length ≤ c0_1) (h : graph_Postorder.f a0_0 l0_1 a1 = some r) :
    Calls Tryd.prog 43 #[.agg #[.int .i64 a0_0, .slice A0_1 l0_1.length c0_1], .int .i64 a1] w fun e w' => ∃ v0_ : Value, e = .returned v0_ ∧ Kd.R (Kd.int .i64) 3 w' w.heap.size (fun _ => True) v0_ r ∧ Below w.heap.size w w' := by
  have R0 := As2.mk hr0_1
  have HF := As2.mk (usable_f a0_0 l0_1 a1 _ (Nat.le_refl _))
  unfold graph_Postorder.f at h
  have H := As2.mk (Option.some.inj h)
  clear hr0_1 h
  by_cases hu : 0 ≤ a1 ∧ a1 < a0_0 ∧ chk a0_0 l0_1 = 0
  · rw [if_pos hu] at H
    rw [decide_eq_true hu] at HF
    obtain ⟨h0, h1, h2⟩ := hu
    obtain ⟨n, rfl⟩ := Int.eq_ofNat_of_zero_le (Int.le_trans h0 (Int.le_of_lt h1))
    obtain ⟨v, rfl⟩ := Int.eq_ofNat_of_zero_le h0
    have HV := As2.mk ((chk_zero _ _).1 h2)
    have hn1 := HV.out.n1
    have hvn := As2.mk (show v < n by omega)
    rw [Int.toNat_natCast] at H
    clear h0 h1 h2
    have hmk : ∀ W : World, (Instr.makeSlice 64 (.int .i64 (n : Int)) (.int .i64 (n : Int))).run Tryd.prog W = .ok (.slice (some ⟨W.heap.size, 0, none⟩) n n) (W.alloc (.cells (madeCells #[.bool false] n) 4)) := by
      intro W
      obtain ⟨i0, hi, hz⟩ := Option.map_eq_some_iff.1 (show (Tryd.prog.info? 4).map (fun i => (i.zero, i.size, i.bytes)) = some (some (.bool false), 1, 1) by kernel_rfl)
      simp only [Prod.mk.injEq] at hz
      obtain ⟨hz0, hz1, hz2⟩ := hz
      have z := run_make (P := Tryd.prog) W 64 4 i0 _ Tryd.underlying64 hi hz0 .i64 .i64 (n : Int) (n : Int) (by omega) (by omega) (by rw [hz2]; omega) (by omega)
      rw [hz1, Int.toNat_natCast, Nat.mul_one] at z
      exact z
    go_enter Tryd.func43, Tryd.ntmps43
    go_wp2_with (first | (go_at_call 75; refine (graph_usable.calls _ (n : Int) A0_1 c0_1 l0_1 (v : Int) true _ ?hr hc0_1 HF.out).mono ?_; (case hr => exact Kd.C_alloc R0.out _); rintro e w1 ⟨rfl, hb⟩; have B1 := As2.mk hb; clear hb; have kk := blk_below (heap_alloc_new w (.cells #[.int .i64 n, .slice A0_1 l0_1.length c0_1] 24)) B1.out; have g0 : w1.cell? ⟨w.heap.size, 0, none⟩ = some (.int .i64 n) := (blk_cell kk 0).trans rfl; have hs1 := blk_lt kk; have KK := As2.mk kk; clear kk) | (go_at_call 79; obtain ⟨W2, hW2⟩ : ∃ W2, W2 = ((((w1.alloc (.cells #[.slice none 0 0] 31)).alloc (.cells (madeCells #[.bool false] n) 4)).alloc (.cells #[.slice (some ⟨w1.heap.size + 1, 0, none⟩) n n] 64)).alloc (.cells #[.func (.func 79) #[] #[.pointer (some ⟨w1.heap.size + 1 + 1, 0, none⟩), .pointer (some ⟨w.heap.size, 0, none⟩), .pointer (some ⟨w1.heap.size + 1 + 1 + 1, 0, none⟩), .pointer (some ⟨w1.heap.size, 0, none⟩)]] 88)) := ⟨_, rfl⟩; rw [← hW2]; have S2 := As2.mk (show VS w n A0_1 c0_1 l0_1 w.heap.size (w1.heap.size + 1 + 1) (w1.heap.size + 1 + 1 + 1) w1.heap.size (w1.heap.size + 1) w.heap.size (fun _ => False) (List.replicate n false) [] W2 from ⟨by subst hW2; exact blk_alloc (blk_alloc (blk_alloc (blk_alloc KK.out _) _) _) _, by subst hW2; have z := heap_alloc_new ((w1.alloc (.cells #[.slice none 0 0] 31)).alloc (.cells (madeCells #[.bool false] n) 4)) (.cells #[.slice (some ⟨w1.heap.size + 1, 0, none⟩) n n] 64); rw [World.size_alloc, World.size_alloc] at z; simpa using blk_alloc z _, by subst hW2; rw [← madeB]; have z := heap_alloc_new (w1.alloc (.cells #[.slice none 0 0] 31)) (.cells (madeCells #[.bool false] n) 4); rw [World.size_alloc] at z; exact blk_alloc (blk_alloc z _) _, by subst hW2; have z := heap_alloc_new (((w1.alloc (.cells #[.slice none 0 0] 31)).alloc (.cells (madeCells #[.bool false] n) 4)).alloc (.cells #[.slice (some ⟨w1.heap.size + 1, 0, none⟩) n n] 64)) (.cells #[.func (.func 79) #[] #[.pointer (some ⟨w1.heap.size + 1 + 1, 0, none⟩), .pointer (some ⟨w.heap.size, 0, none⟩), .pointer (some ⟨w1.heap.size + 1 + 1 + 1, 0, none⟩), .pointer (some ⟨w1.heap.size, 0, none⟩)]] 88); rw [World.size_alloc, World.size_alloc, World.size_alloc] at z; exact z, ⟨_, by subst hW2; exact blk_alloc (blk_alloc (blk_alloc (heap_alloc_new w1 _) _) _) _, Kd.R_nil _ _ _ _ _⟩, fun _ h => h.elim, by subst hW2; exact ((((below_step ((Below.refl w.heap.size w).alloc (Nat.le_refl _) _) B1.out).alloc (by omega) _).alloc (by simp; omega) _).alloc (by simp; omega) _).alloc (by simp; omega) _⟩); clear hW2; refine (visit_calls w n A0_1 c0_1 l0_1 w.heap.size (w1.heap.size + 1 + 1) (w1.heap.size + 1 + 1 + 1) w1.heap.size (w1.heap.size + 1) w.heap.size HV.out R0.out rfl (by omega) (by omega) n v (fun _ => False) (List.replicate n false) [] W2 (by rw [cnt_rep]; exact Nat.le_refl _) hvn.out (by have := hvn.out; simp [List.getD, this]) (by simp) (by rw [cnt_rep]; simp; omega) S2.out).mono ?_; rintro e w3 ⟨rfl, h3, _, _⟩; have S3 := As2.mk h3; obtain ⟨vw, hw1, hw2⟩ := h3.hw; have HW2 := As2.mk hw2; have co : w3.cell? ⟨w1.heap.size, 0, none⟩ = some vw := (blk_cell hw1 0).trans rfl; clear h3 hw1 hw2 g0))
    go_ret
    exact ⟨_, rfl, by rw [← H.out]; exact Kd.R_mono HW2.out (fun _ _ => trivial), S3.out.bl⟩
  · rw [if_neg hu] at H
    rw [decide_eq_false hu] at HF
    clear hu
    go_enter Tryd.func43, Tryd.ntmps43
    go_wp2_with (go_at_call 75; refine (graph_usable.calls _ a0_0 A0_1 c0_1 l0_1 a1 false _ ?hr hc0_1 HF.out).mono ?_; (case hr => exact Kd.C_alloc R0.out _); rintro e w1 ⟨rfl, hb⟩; have B1 := As2.mk hb; clear hb)
    go_ret
    exact ⟨_, rfl, by rw [← H.out]; exact Kd.R_nil _ _ _ _ _, below_step ((Below.refl _ _).alloc (Nat.le_refl _) _) B1.out⟩
end Go.Proofs.YtfgbkklhjocmjaaDoor.Xq
namespace Go.Proofs.YtfgbkklhjocmjaaDoor.Xq
open Go.RowKit Go.Proofs.YtfgbkklhjocmjaaDoorW.PrintWords Go.Proofs.YtfgbkklhjocmjaaDoorW.PrintLast Go.Proofs.YtfgbkklhjocmjaaDoorW.PrintMore
attribute [local go_sem] max2_int min2_int max_two min_two max_three min_three max_four min_four
mutual
def w4_GraphOrder.j0 : Nat → Int → Bool → Int → List (S53) → Option (Bool)
 | 0, _, _, _, _ => none
 | k + 1, x1, x21, x417000, x417001 => if x21 = true then ((w4_awake.f).bind fun t417 => (some t417)) else ((graph_Postorder.f x417000 x417001 x1).bind fun t418 => ((graph_Reach.f x417000 x417001 (([x1] : List Int))).bind fun t424 => (if (t418.length : Int) = (t424.length : Int) then (if (t418.length : Int) > 0 then (if 0 ≤ (wrap64 ((t418.length : Int) - 1)) then (if (wrap64 ((t418.length : Int) - 1)) < (t418.length : Int) then (w4_GraphOrder.j1 k t418 t424 ((rd t418 (wrap64 ((t418.length : Int) - 1))) != x1) x417000 x417001) else (none)) else (none)) else (w4_GraphOrder.j1 k t418 t424 false x417000 x417001)) else (w4_GraphOrder.j1 k t418 t424 true x417000 x417001))))
def w4_GraphOrder.j1 : Nat → List Int → List Int → Bool → Int → List (S53) → Option (Bool)
 | 0, _, _, _, _, _ => none
 | k + 1, x5, x6, x49, x417000, x417001 => if x49 = true then (some false) else (w4_GraphOrder.l0 k x5 x6 0 x417000 x417001)
def w4_GraphOrder.l0 : Nat → List Int → List Int → Int → Int → List (S53) → Option (Bool)
 | 0, _, _, _, _, _ => none
 | k + 1, x5, x6, x7, x417000, x417001 => if x7 < (x5.length : Int) then (if 0 ≤ x7 then ((w4_in.f k x6 (rd x5 x7)).bind fun t429 => (if t429 = true then (if x7 ≤ (x5.length : Int) then ((w4_in.f k (x5.take (x7 : Int).toNat) (rd x5 x7)).bind fun t435 => (if t435 = true then (some false) else (w4_GraphOrder.l0 k x5 x6 (wrap64 (x7 + 1)) x417000 x417001))) else (none)) else (some false))) else (none)) else ((r4_Check.f k x417000 x417001).bind fun t436 => (w4_GraphOrder.l1 k x5 (t436 == 0) 0 x417000 x417001))
def w4_GraphOrder.l1 : Nat → List Int → Bool → Int → Int → List (S53) → Option (Bool)
 | 0, _, _, _, _, _ => none
 | k + 1, x5, x8, x9, x417000, x417001 => if x9 < (x417001.length : Int) then (if x8 = true then (if 0 ≤ x9 then (w4_GraphOrder.l1 k x5 (decide (((rd_T53 x417001 x9).f1) < ((rd_T53 x417001 x9).f0))) (wrap64 (x9 + 1)) x417000 x417001) else (none)) else (w4_GraphOrder.l1 k x5 false (wrap64 (x9 + 1)) x417000 x417001)) else (w4_GraphOrder.l2 k x5 x8 0 x417000 x417001)
def w4_GraphOrder.l2 : Nat → List Int → Bool → Int → Int → List (S53) → Option (Bool)
 | 0, _, _, _, _, _ => none
 | k + 1, x5, x8, x10, x417000, x417001 => if x10 < (x5.length : Int) then (w4_GraphOrder.j5 k x5 x8 x10 x8 x417000 x417001) else (w4_GraphOrder.j5 k x5 x8 x10 false x417000 x417001)
def w4_GraphOrder.j5 : Nat → List Int → Bool → Int → Bool → Int → List (S53) → Option (Bool)
 | 0, _, _, _, _, _, _ => none
 | k + 1, x5, x8, x10, x105, x417000, x417001 => if x105 = true then (if 0 ≤ x10 then (if x10 < (x5.length : Int) then ((r4_Succ.f k x417000 x417001 (rd x5 x10)).bind fun t441 => (w4_GraphOrder.l3 k x5 x8 x10 t441 0 x417000 x417001)) else (none)) else (none)) else ((w4_awake.f).bind fun t439 => (some t439))
def w4_GraphOrder.l3 : Nat → List Int → Bool → Int → List Int → Int → Int → List (S53) → Option (Bool)
 | 0, _, _, _, _, _, _, _ => none
 | k + 1, x5, x8, x10, x11, x12, x417000, x417001 => if x12 < (x11.length : Int) then (if 0 ≤ x10 then (if x10 ≤ (x5.length : Int) then (if 0 ≤ x12 then ((w4_in.f k (x5.take (x10 : Int).toNat) (rd x11 x12)).bind fun t449 => (if t449 = true then (w4_GraphOrder.l3 k x5 x8 x10 x11 (wrap64 (x12 + 1)) x417000 x417001) else (some false))) else (none)) else (none)) else (none)) else (w4_GraphOrder.l2 k x5 x8 (wrap64 (x10 + 1)) x417000 x417001)
end
def w4_GraphOrder.f (k : Nat) (a0_0 : Int) (l0_1 : List (S53)) (a1 : Int) : Option (Bool) := if (l0_1.length : Int) > 300 then (w4_GraphOrder.j0 k a1 true a0_0 l0_1) else (w4_GraphOrder.j0 k a1 (decide (a0_0 > 300)) a0_0 l0_1)
def w4_GraphOrder.T10 : Bool × List (List Nat × List Nat) := (true, [([], []), ([], []), ([], []), ([1, 2], [1, 2]), ([3], [3]), ([0, 4], [0, 4]), ([5], [5]), ([6, 5], [6]), ([7], [7]), ([7], [7]), ([8, 9, 7], [7, 8, 9]), ([7], [7]), ([7], [7]), ([11, 12, 7], [7, 11, 12]), ([13, 7], [7, 13]), ([10, 14, 7, 7], [7, 10, 14]), ([7, 15], [7, 15])])
def w4_GraphOrder.B10 : List Nat := [0, 0, 0, 6, 14, 31, 63, 127, 255, 255, 1023, 255, 255, 6399, 14591, 32767, 65535]
theorem w4_GraphOrder.tab10 : rtab .any (opsOf Tryd.f10 10) = w4_GraphOrder.T10 := by kernel_rfl
theorem w4_GraphOrder.bits10 : waitsOk w4_GraphOrder.T10.2 w4_GraphOrder.B10 = true := by kernel_rfl
def w4_GraphOrder.T16 : Bool × List (List Nat × List Nat) := (true, [([], []), ([0], [0]), ([1], [1]), ([2, 1], [1, 2]), ([1], [1]), ([3, 4, 1], [1, 3, 4]), ([5, 1], [1, 5]), ([6, 1], [1, 6]), ([1], [1]), ([8, 1], [1, 8]), ([1], [1]), ([9, 10, 1], [1, 9, 10]), ([11, 1], [1, 11]), ([12, 1], [1, 12]), ([7, 13, 1], [1, 7, 13]), ([1, 14], [1, 14]), ([15, 1, 0, 1, 2, 3, 4, 5, 6, 7, 8, 9, 10, 11, 12, 13, 14, 15], [0, 15])])
def w4_GraphOrder.B16 : List Nat := [0, 1, 3, 7, 3, 31, 63, 127, 3, 259, 3, 1795, 3843, 7939, 16383, 32767, 65535]
theorem w4_GraphOrder.tab16 : rtab .any (opsOf Tryd.f10 16) = w4_GraphOrder.T16 := by kernel_rfl
theorem w4_GraphOrder.bits16 : waitsOk w4_GraphOrder.T16.2 w4_GraphOrder.B16 = true := by kernel_rfl
def w4_GraphOrder.T24 : Bool × List (List Nat × List Nat) := (true, [([], []), ([], []), ([0, 1], [0, 1]), ([], []), ([], []), ([3, 4], [3, 4]), ([5], [5]), ([2, 6], [2, 6]), ([7], [7])])
def w4_GraphOrder.B24 : List Nat := [0, 0, 3, 0, 0, 24, 56, 127, 255]
theorem w4_GraphOrder.tab24 : rtab .any (opsOf Tryd.f10 24) = w4_GraphOrder.T24 := by kernel_rfl
theorem w4_GraphOrder.bits24 : waitsOk w4_GraphOrder.T24.2 w4_GraphOrder.B24 = true := by kernel_rfl
set_option maxHeartbeats 8000000 in
set_option maxRecDepth 100000 in
theorem w4_GraphOrder.calls (k : Nat) (a0_0 : Int) (A0_1 : Option Addr) (c0_1 : Nat) (l0_1 : List (S53)) (a1 : Int) (r : Bool) (w : World) (hr0_1 : Kd.C k53 w A0_1 l0_1.length l0_1) (hc0_1 : l0_1.length ≤ c0_1) (hG_ : TabW w) (h : w4_GraphOrder.f k a0_0 l0_1 a1 = some r) :
  Calls Tryd.prog 10 #[.agg #[.int .i64 a0_0, .slice A0_1 l0_1.length c0_1], .int .i64 a1] w fun e w' => e = .returned (.bool r) ∧ Below w.heap.size w w' := by
 have hu24 := Tryd.underlying24
 have HR0_1 := aM_ hr0_1
 have HC0_1 := aM_ hc0_1
 clear hr0_1 hc0_1
 have HB := aM_ (Below.refl w.heap.size w)
 have HG_ := aM_ hG_
 clear hG_
 have H : (if (l0_1.length : Int) > 300 then (w4_GraphOrder.j0 k a1 true a0_0 l0_1) else (w4_GraphOrder.j0 k a1 (decide (a0_0 > 300)) a0_0 l0_1)) = some r := h
 clear h
 have HC3 := aM_ H
 clear H
 go_enter Tryd.func10, Tryd.ntmps10
 go_upto_region 1 with (first | ((with_reducible refine gate_dst (N := 2) rfl ?_); (try (refine gate_guard (by rfl) ?_; dsimp only)); refine box_event ?hg (N := 2) ?hd (cs := #[.int .i64 a0_0, .slice A0_1 l0_1.length c0_1]) (t := 24) ?hr ?_; (case hd => rfl); (case hg => rfl); (case hr => first | (go_simp; done) | (go_simp; rfl)); intro gb416 hg w4 hbox hb; have n0_ := aM_ (below_step (by repeat (first | (with_reducible first | exact HB.out | apply bA_ | apply bB_ | apply bC_) | exact HB.out)) hb); have n1_ := aM_ (hbox); have n2_ := aM_ ((by rw [hg]; exact (below_size (by repeat (first | (with_reducible first | exact HB.out | apply bA_ | apply bB_ | apply bC_) | exact HB.out))) : w.heap.size ≤ gb416)); have n3_ := aM_ ((by rw [hg]; exact (below_size (by repeat (first | (with_reducible first | exact HB.out | apply bA_ | apply bB_ | apply bC_) | exact HB.out))) : w.heap.size ≤ gb416)); clear HB; have HB := n0_; have BK416 := n1_; have GW416 := n2_; have GE416 := n3_; clear n0_ n1_ n2_ n3_; clear hb hbox hg))
 (try simp only [Act.put, uA_, uB_, uC_])
 go_cut [21] (fun v21 wc => ∃ (kq : Nat) (x21_2 : Bool), v21 = .bool x21_2 ∧ Aside0 (w4_GraphOrder.j0 kq a1 x21_2 a0_0 l0_1 = some r) ∧ Aside0 (kq ≤ k) ∧ Aside0 (wc.heap[gb416]? = some (.cells #[.int .i64 a0_0, (.slice A0_1 l0_1.length c0_1)] 24 (0, 0))) ∧ Aside0 (Below w.heap.size w wc))
 case first =>
  have H := HC3.out
  clear HC3
  by_cases c5 : (l0_1.length : Int) > 300
  ·rw [if_pos c5] at H
   have c5b0 : decide (300 < (l0_1.length : Int)) = true := decide_eq_true c5
   have c5b1 : decide (300 < l0_1.length) = true := decide_eq_true (by omega)
   clear c5
   (first | rw [c5b0] | (simp only [i64_w, i32_w]; rw [c5b0]) | skip)
   have H' := aM_ H
   clear H
   have hcz6_0 : w4.cell? ⟨gb416, 0, none⟩ = some (.int .i64 a0_0) := (blk_cell BK416.out 0).trans rfl
   have hcz6_1 : w4.cell? ⟨gb416, 1, none⟩ = some (.slice A0_1 l0_1.length c0_1) := (blk_cell BK416.out 1).trans rfl
   have hfz6_0 := blk_frozen BK416.out 0
   have hfz6_1 := blk_frozen BK416.out 1
   go_wp2
   go_meet
   case rel => exact ⟨_, (true), (by first | rfl | (simp; done) | (simp [*]; done)), H', ⟨by first | omega | exact Nat.le_refl _⟩, ⟨by (with_reducible repeat (first | refine blk_drewN ?_ _ | refine blk_drew ?_ | refine blk_alloc ?_ _)); exact BK416.out⟩, ⟨by repeat (first | (with_reducible first | exact HB.out | apply bA_ | apply bB_ | apply bC_ | refine below_set ?_ GE416.out) | exact HB.out)⟩⟩
  ·rw [if_neg c5] at H
   have c5b0 : decide (300 < (l0_1.length : Int)) = false := decide_eq_false c5
   have c5b1 : decide (300 < l0_1.length) = false := decide_eq_false (by omega)
   clear c5
   (first | rw [c5b0] | (simp only [i64_w, i32_w]; rw [c5b0]) | skip)
   have H' := aM_ H
   clear H
   have hcz7_0 : w4.cell? ⟨gb416, 0, none⟩ = some (.int .i64 a0_0) := (blk_cell BK416.out 0).trans rfl
   have hcz7_1 : w4.cell? ⟨gb416, 1, none⟩ = some (.slice A0_1 l0_1.length c0_1) := (blk_cell BK416.out 1).trans rfl
   have hfz7_0 := blk_frozen BK416.out 0
   have hfz7_1 := blk_frozen BK416.out 1
   go_wp2
   go_meet
   case rel => exact ⟨_, (decide (a0_0 > 300)), (by first | rfl | (simp; done) | (simp [*]; done)), H', ⟨by first | omega | exact Nat.le_refl _⟩, ⟨by (with_reducible repeat (first | refine blk_drewN ?_ _ | refine blk_drew ?_ | refine blk_alloc ?_ _)); exact BK416.out⟩, ⟨by repeat (first | (with_reducible first | exact HB.out | apply bA_ | apply bB_ | apply bC_ | refine below_set ?_ GE416.out) | exact HB.out)⟩⟩
 case rest =>
  clear HC3
  try clear c1
  try clear p2
  try clear c5
  try clear c5b0
  try clear c5b1
  try clear hcz6_0
  try clear hcz6_1
  try clear hcz7_0
  try clear hcz7_1
  try clear hfz6_0
  try clear hfz6_1
  try clear hfz7_0
  try clear hfz7_1
  obtain ⟨kq, x21_2, rfl, HA, HJ2, BK416, HB⟩ := hcut
  cases kq with
  | zero => exact absurd HA.out (by simp [w4_GraphOrder.j0])
  | succ kj2 =>
   have H := HA.out
   clear HA
   simp only [w4_GraphOrder.j0] at H
   by_cases c8 : x21_2 = true
   ·subst c8
    have H1 : ((w4_awake.f).bind fun t417 => (some t417)) = some r := by rw [if_pos rfl] at H; exact H
    clear H
    have H := H1
    clear H1
    replace H := Option.bind_eq_some_iff.mp H
    obtain ⟨t417, A90, H⟩ := H
    replace H : (some t417) = some r := H
    have A9 := aM_ A90
    clear A90
    obtain rfl := Option.some.inj H
    go_wp2_with (first | ((with_reducible refine gate_callee (f := 30) rfl ?_); refine goesL_ (some 22) rfl rfl Tryd.func30 (by kernel_rfl) rfl #[] rfl (by (try simp only [List.map_toArray, List.map_cons, List.map_nil]); first | done | rfl | (simp only [List.length_drop, List.length_take]; rfl)) ?_; (with_reducible refine (w4_awake.calls  t417 _ ?side1 A9.out).mono ?_); (case side1 => exact TabW.below HG_.out (by repeat (first | (with_reducible first | exact HB.out | apply bA_ | apply bB_ | apply bC_ | refine below_set ?_ GE416.out) | exact HB.out))); rintro e w10 ⟨rfl, hb⟩; refine ⟨_, rfl, ?_⟩; have n0_ := aM_ (blk_below (g := gb416) (o := .cells #[.int .i64 a0_0, .slice A0_1 l0_1.length c0_1] 24 (0, 0)) (by (with_reducible repeat (first | refine blk_drewN ?_ _ | refine blk_drew ?_ | refine blk_alloc ?_ _)); exact BK416.out) hb); have n1_ := aM_ (below_step (by repeat (first | (with_reducible first | exact HB.out | apply bA_ | apply bB_ | apply bC_ | refine below_set ?_ GE416.out) | exact HB.out)) hb); clear BK416; clear HB; have BK416 := n0_; have HB := n1_; clear n0_ n1_; (try clear hb); (try clear hb2); (try clear hk); (try clear hi)))
    go_ret
    exact ⟨by first | rfl | (simp [errW_none, errW_some] <;> rfl) | (simp [*, errW_none, errW_some] <;> rfl), by repeat (first | (with_reducible first | exact HB.out | apply bA_ | apply bB_ | apply bC_ | refine below_set ?_ GE416.out) | exact HB.out)⟩
   ·replace c8 := Bool.eq_false_iff.mpr c8
    subst c8
    have H1 : ((graph_Postorder.f a0_0 l0_1 a1).bind fun t418 => ((graph_Reach.f a0_0 l0_1 (([a1] : List Int))).bind fun t424 => (if (t418.length : Int) = (t424.length : Int) then (if (t418.length : Int) > 0 then (if 0 ≤ (wrap64 ((t418.length : Int) - 1)) then (if (wrap64 ((t418.length : Int) - 1)) < (t418.length : Int) then (w4_GraphOrder.j1 kj2 t418 t424 ((rd t418 (wrap64 ((t418.length : Int) - 1))) != a1) a0_0 l0_1) else (none)) else (none)) else (w4_GraphOrder.j1 kj2 t418 t424 false a0_0 l0_1)) else (w4_GraphOrder.j1 kj2 t418 t424 true a0_0 l0_1)))) = some r := by rw [if_neg (show ¬ (false = true) by decide)] at H; exact H
    clear H
    have H := H1
    clear H1
    replace H := Option.bind_eq_some_iff.mp H
    obtain ⟨t418, A110, H⟩ := H
    replace H : ((graph_Reach.f a0_0 l0_1 (([a1] : List Int))).bind fun t424 => (if (t418.length : Int) = (t424.length : Int) then (if (t418.length : Int) > 0 then (if 0 ≤ (wrap64 ((t418.length : Int) - 1)) then (if (wrap64 ((t418.length : Int) - 1)) < (t418.length : Int) then (w4_GraphOrder.j1 kj2 t418 t424 ((rd t418 (wrap64 ((t418.length : Int) - 1))) != a1) a0_0 l0_1) else (none)) else (none)) else (w4_GraphOrder.j1 kj2 t418 t424 false a0_0 l0_1)) else (w4_GraphOrder.j1 kj2 t418 t424 true a0_0 l0_1))) = some r := H
    have A11 := aM_ A110
    clear A110
    obtain ⟨y421, hy421⟩ : ∃ y_ : List Int, y_ = (([a1] : List Int)) := ⟨_, rfl⟩
    replace H : ((graph_Reach.f a0_0 l0_1 y421).bind fun t424 => (if (t418.length : Int) = (t424.length : Int) then (if (t418.length : Int) > 0 then (if 0 ≤ (wrap64 ((t418.length : Int) - 1)) then (if (wrap64 ((t418.length : Int) - 1)) < (t418.length : Int) then (w4_GraphOrder.j1 kj2 t418 t424 ((rd t418 (wrap64 ((t418.length : Int) - 1))) != a1) a0_0 l0_1) else (none)) else (none)) else (w4_GraphOrder.j1 kj2 t418 t424 false a0_0 l0_1)) else (w4_GraphOrder.j1 kj2 t418 t424 true a0_0 l0_1))) = some r := by first | (rw [hy421]; with_reducible exact H) | (have H2_ := (Option.bind_some _ _).symm.trans H; rw [hy421]; with_reducible exact H2_) | (have H2_ := (Option.bind_some _ _).symm.trans H; with_reducible exact H2_) | with_reducible exact H | (rw [hy421]; exact H) | exact H
    have Ny421 := aM_ hy421
    clear hy421
    replace H := Option.bind_eq_some_iff.mp H
    obtain ⟨t424, A120, H⟩ := H
    replace H : (if (t418.length : Int) = (t424.length : Int) then (if (t418.length : Int) > 0 then (if 0 ≤ (wrap64 ((t418.length : Int) - 1)) then (if (wrap64 ((t418.length : Int) - 1)) < (t418.length : Int) then (w4_GraphOrder.j1 kj2 t418 t424 ((rd t418 (wrap64 ((t418.length : Int) - 1))) != a1) a0_0 l0_1) else (none)) else (none)) else (w4_GraphOrder.j1 kj2 t418 t424 false a0_0 l0_1)) else (w4_GraphOrder.j1 kj2 t418 t424 true a0_0 l0_1)) = some r := H
    have A12 := aM_ A120
    clear A120
    have HC13 := aM_ H
    clear H
    have hcz14_0 : wc.cell? ⟨gb416, 0, none⟩ = some (.int .i64 a0_0) := (blk_cell BK416.out 0).trans rfl
    have hcz14_1 : wc.cell? ⟨gb416, 1, none⟩ = some (.slice A0_1 l0_1.length c0_1) := (blk_cell BK416.out 1).trans rfl
    have hfz14_0 := blk_frozen BK416.out 0
    have hfz14_1 := blk_frozen BK416.out 1
    go_upto_region 5 with (first | ((with_reducible refine gate_callee (f := 43) rfl ?_); refine goesL_ (some 25) rfl rfl Tryd.func43 (by kernel_rfl) rfl #[.agg #[.int .i64 a0_0, .slice A0_1 l0_1.length c0_1], .int .i64 a1] rfl (by (try simp only [List.map_toArray, List.map_cons, List.map_nil]); first | done | rfl | (simp only [List.length_drop, List.length_take]; rfl)) ?_; (with_reducible refine (graph_Postorder.calls a0_0 _ _ l0_1 a1 t418 _ ?side1 ?side2 A11.out).mono ?_); (case side1 => repeat (first | exact (Kd.C_below HR0_1.out HB.out) | (with_reducible refine Kd.C_alloc ?_ _) | (with_reducible refine Kd.C_drewN ?_ _) | (with_reducible refine Kd.C_drew ?_))); (case side2 => exact HC0_1.out); rintro e w15 ⟨v419, rfl, ho0, hb⟩; refine ⟨_, rfl, ?_⟩; have n0_ := aM_ (Kd.R_lower ho0 (below_size (by repeat (first | (with_reducible first | exact HB.out | apply bA_ | apply bB_ | apply bC_ | refine below_set ?_ GE416.out) | exact HB.out)))); have n1_ := aM_ (blk_below (g := gb416) (o := .cells #[.int .i64 a0_0, .slice A0_1 l0_1.length c0_1] 24 (0, 0)) (by (with_reducible repeat (first | refine blk_drewN ?_ _ | refine blk_drew ?_ | refine blk_alloc ?_ _)); exact BK416.out) hb); have n2_ := aM_ (below_step (by repeat (first | (with_reducible first | exact HB.out | apply bA_ | apply bB_ | apply bC_ | refine below_set ?_ GE416.out) | exact HB.out)) hb); clear BK416; clear HB; have HO420 := n0_; have BK416 := n1_; have HB := n2_; clear n0_ n1_ n2_; (try clear hb); (try clear hb2); (try clear hk); (try clear hi); (try clear ho0); have hcz16_0 : w15.cell? ⟨gb416, 0, none⟩ = some (.int .i64 a0_0) := (blk_cell BK416.out 0).trans rfl; have hcz16_1 : w15.cell? ⟨gb416, 1, none⟩ = some (.slice A0_1 l0_1.length c0_1) := (blk_cell BK416.out 1).trans rfl; have hfz16_0 := blk_frozen BK416.out 0; have hfz16_1 := blk_frozen BK416.out 1) | ((with_reducible refine gate_dst (N := 28) rfl ?_); (try (refine gate_guard (by rfl) ?_; dsimp only)); refine Kd.R_lit (Kd.int .i64) _ 3 ?hg (N := 28) ?hd (xs := ([a1] : List Int)) (inner := [.int .i64 a1]) (ok := fun _ => True) (okp := fun _ => True) ?hr ?hp (fun _ hk => hk) trivial (Below.refl _ _) (Nat.le_refl _) (by simp) ?_; (case hd => rfl); (case hg => rfl); (case hr => first | (go_simp; done) | (go_simp; rfl)); (case hp => exact (Reps.one (show Kd.M (Kd.int .i64) _ _ _ a1 [.int .i64 a1] from rfl) (Reps.none _ _))); intro v422 w17 ho18 hb hg_ hnew_; clear hg_ hnew_; (first | rw [← Ny421.out] at ho18 | (simp only [Int.reduceToNat] at ho18; rw [← Ny421.out] at ho18)); have n0_ := aM_ (Kd.R_elder' (by (with_reducible repeat (first | apply rA_ | apply rB_ | apply rC_)); exact HO420.out) (Kd.R_base ho18) hb); have n1_ := aM_ (Kd.R_lower (Kd.R_new' ho18 (Kd.R_lt (by (with_reducible repeat (first | apply rA_ | apply rB_ | apply rC_)); exact HO420.out))) (below_size (by repeat (first | (with_reducible first | exact HB.out | apply bA_ | apply bB_ | apply bC_ | refine below_set ?_ GE416.out) | exact HB.out)))); have n2_ := aM_ (blk_below (g := gb416) (o := .cells #[.int .i64 a0_0, .slice A0_1 l0_1.length c0_1] 24 (0, 0)) (by (with_reducible repeat (first | refine blk_drewN ?_ _ | refine blk_drew ?_ | refine blk_alloc ?_ _)); exact BK416.out) hb); have n3_ := aM_ (below_step (by repeat (first | (with_reducible first | exact HB.out | apply bA_ | apply bB_ | apply bC_ | refine below_set ?_ GE416.out) | exact HB.out)) hb); clear HO420; clear BK416; clear HB; have HO420 := n0_; have HO423 := n1_; have BK416 := n2_; have HB := n3_; clear n0_ n1_ n2_ n3_; clear hb ho18; obtain ⟨Ao19, co19, eo19⟩ := Kd.R_slice HO423.out; subst eo19) | ((with_reducible refine gate_callee (f := 35) rfl ?_); refine goesL_ (some 29) rfl rfl Tryd.func35 (by kernel_rfl) rfl #[.agg #[.int .i64 a0_0, .slice A0_1 l0_1.length c0_1], .slice Ao19 y421.length co19] rfl (by (try simp only [List.map_toArray, List.map_cons, List.map_nil]); first | done | rfl | (simp only [List.length_drop, List.length_take]; rfl)) ?_; (with_reducible refine (graph_Reach.calls a0_0 _ _ l0_1 _ _ y421 t424 _ ?side1 ?side2 ?side3 ?side4 ?side5 A12.out).mono ?_); (case side1 => repeat (first | exact (Kd.C_below HR0_1.out HB.out) | (with_reducible refine Kd.C_alloc ?_ _) | (with_reducible refine Kd.C_drewN ?_ _) | (with_reducible refine Kd.C_drew ?_))); (case side2 => exact HC0_1.out); (case side3 => repeat (first | exact (Kd.R_reads' HO423.out).2.2 | (with_reducible refine Kd.C_alloc ?_ _) | (with_reducible refine Kd.C_drewN ?_ _) | (with_reducible refine Kd.C_drew ?_))); (case side4 => exact (Kd.R_reads' HO423.out).2.1); (case side5 => exact TabW.below HG_.out (by repeat (first | (with_reducible first | exact HB.out | apply bA_ | apply bB_ | apply bC_ | refine below_set ?_ GE416.out) | exact HB.out))); rintro e w20 ⟨v425, rfl, ho0, hb⟩; refine ⟨_, rfl, ?_⟩; have n0_ := aM_ (Kd.R_elder' (by (with_reducible repeat (first | apply rA_ | apply rB_ | apply rC_)); exact HO420.out) (Kd.R_base ho0) hb); have n1_ := aM_ (Kd.R_elder' (by (with_reducible repeat (first | apply rA_ | apply rB_ | apply rC_)); exact HO423.out) (Kd.R_base ho0) hb); have n2_ := aM_ (Kd.R_lower (Kd.R_new' (Kd.R_new' ho0 (Kd.R_lt (by (with_reducible repeat (first | apply rA_ | apply rB_ | apply rC_)); exact HO420.out))) (Kd.R_lt (by (with_reducible repeat (first | apply rA_ | apply rB_ | apply rC_)); exact HO423.out))) (below_size (by repeat (first | (with_reducible first | exact HB.out | apply bA_ | apply bB_ | apply bC_ | refine below_set ?_ GE416.out) | exact HB.out)))); have n3_ := aM_ (blk_below (g := gb416) (o := .cells #[.int .i64 a0_0, .slice A0_1 l0_1.length c0_1] 24 (0, 0)) (by (with_reducible repeat (first | refine blk_drewN ?_ _ | refine blk_drew ?_ | refine blk_alloc ?_ _)); exact BK416.out) hb); have n4_ := aM_ (below_step (by repeat (first | (with_reducible first | exact HB.out | apply bA_ | apply bB_ | apply bC_ | refine below_set ?_ GE416.out) | exact HB.out)) hb); clear HO420; clear HO423; clear BK416; clear HB; have HO420 := n0_; have HO423 := n1_; have HO426 := n2_; have BK416 := n3_; have HB := n4_; clear n0_ n1_ n2_ n3_ n4_; (try clear hb); (try clear hb2); (try clear hk); (try clear hi); (try clear ho0)))
    (try simp only [Act.put, uA_, uB_, uC_])
    go_cut [49] (fun v49 wc => ∃ (kq : Nat) (x49_12 : Bool), v49 = .bool x49_12 ∧ Aside0 (w4_GraphOrder.j1 kq t418 t424 x49_12 a0_0 l0_1 = some r) ∧ Aside0 (kq ≤ kj2) ∧ Aside0 (Kd.R (Kd.int .i64) 3 wc w.heap.size (fun k_ => some k_ ≠ (v425 : Value).ownBlock) v419 t418) ∧ Aside0 (Kd.R (Kd.int .i64) 3 wc w.heap.size (fun k_ => some k_ ≠ (v419 : Value).ownBlock) v425 t424) ∧ Aside0 (wc.heap[gb416]? = some (.cells #[.int .i64 a0_0, (.slice A0_1 l0_1.length c0_1)] 24 (0, 0))) ∧ Aside0 (Below w.heap.size w wc))
    case first =>
     have H := HC13.out
     clear HC13
     by_cases c21 : (t418.length : Int) = (t424.length : Int)
     ·rw [if_pos c21] at H
      have c21b0 : ((t418.length : Int) == (t424.length : Int)) = true := beq_iff_eq.mpr c21
      have c21b1 : ((t418.length : Int) != (t424.length : Int)) = false := bne_eq_false_iff_eq.mpr c21
      have c21b2 : (t418.length == t424.length) = true := by first | simpa using c21 | (simp at c21 ⊢; omega)
      clear c21
      (first | rw [c21b0] | (simp only [i64_w, i32_w]; rw [c21b0]) | skip)
      by_cases c22 : (t418.length : Int) > 0
      ·rw [if_pos c22] at H
       have c22b0 : decide (0 < (t418.length : Int)) = true := decide_eq_true c22
       have c22b1 : decide (0 < t418.length) = true := decide_eq_true (by omega)
       clear c22
       obtain ⟨ji23, hji23⟩ : ∃ j_ : Int, (wrap64 ((t418.length : Int) - 1)) = j_ := ⟨_, rfl⟩
       replace H : (if 0 ≤ (ji23) then (if (ji23) < (t418.length : Int) then (w4_GraphOrder.j1 kj2 t418 t424 ((rd t418 (ji23)) != a1) a0_0 l0_1) else (none)) else (none)) = some r := by first | (rw [hji23] at H; exact H) | (simp only [hji23] at H ⊢; exact H)
       have hji23w : (IntKind.i64.wrap ((t418.length : Int) - 1)) = ji23 := (i64_w _).trans hji23
       by_cases c24 : 0 ≤ (ji23)
       ·rw [if_pos c24] at H
        have c24b0 : decide (0 ≤ (ji23)) = true := decide_eq_true c24
        clear c24
        by_cases c25 : (ji23) < (t418.length : Int)
        ·rw [if_pos c25] at H
         have c25b0 : decide ((ji23) < (t418.length : Int)) = true := decide_eq_true c25
         clear c25
         have H' := aM_ H
         clear H
         obtain ⟨Ao26, co26, eo26⟩ := Kd.R_slice HO420.out
         subst eo26
         obtain ⟨Ao27, co27, eo27⟩ := Kd.R_slice HO426.out
         subst eo27
         have p427 : 0 ≤ ((ji23) : Int) := of_decide_eq_true (by assumption)
         have q427 : (ji23) < (t418.length : Int) := of_decide_eq_true (by assumption)
         obtain ⟨ad427, e427, hx427_0⟩ := Kd.at_int (Kd.R_reads' HO420.out).2.2 (ji23) p427 q427
         cases e427
         replace p427 := eq_true p427
         replace q427 := eq_true q427
         go_wp2
         go_meet
         case rel => exact ⟨_, (((rd t418 (ji23)) != a1)), (by first | rfl | (simp; done) | (simp only [← hji23] <;> (first | rfl | simp)) | (simp [*]; done)), H', ⟨by have := HJ2.out; first | omega | exact Nat.le_refl _⟩, ⟨by (with_reducible repeat (first | apply rA_ | apply rB_ | apply rC_)); exact Kd.R_mono HO420.out (fun _ hk => hk.2)⟩, ⟨by (with_reducible repeat (first | apply rA_ | apply rB_ | apply rC_)); exact Kd.R_mono HO426.out (fun _ hk => hk.1.2)⟩, ⟨by (with_reducible repeat (first | refine blk_drewN ?_ _ | refine blk_drew ?_ | refine blk_alloc ?_ _)); exact BK416.out⟩, ⟨by repeat (first | (with_reducible first | exact HB.out | apply bA_ | apply bB_ | apply bC_ | refine below_set ?_ GE416.out) | exact HB.out)⟩⟩
        ·rw [if_neg c25] at H
         exact absurd H (by simp)
       ·rw [if_neg c24] at H
        exact absurd H (by simp)
      ·rw [if_neg c22] at H
       have c22b0 : decide (0 < (t418.length : Int)) = false := decide_eq_false c22
       have c22b1 : decide (0 < t418.length) = false := decide_eq_false (by omega)
       clear c22
       have H' := aM_ H
       clear H
       obtain ⟨Ao28, co28, eo28⟩ := Kd.R_slice HO420.out
       subst eo28
       obtain ⟨Ao29, co29, eo29⟩ := Kd.R_slice HO426.out
       subst eo29
       go_wp2
       go_meet
       case rel => exact ⟨_, (false), (by first | rfl | (simp; done) | (simp [*]; done)), H', ⟨by have := HJ2.out; first | omega | exact Nat.le_refl _⟩, ⟨by (with_reducible repeat (first | apply rA_ | apply rB_ | apply rC_)); exact Kd.R_mono HO420.out (fun _ hk => hk.2)⟩, ⟨by (with_reducible repeat (first | apply rA_ | apply rB_ | apply rC_)); exact Kd.R_mono HO426.out (fun _ hk => hk.1.2)⟩, ⟨by (with_reducible repeat (first | refine blk_drewN ?_ _ | refine blk_drew ?_ | refine blk_alloc ?_ _)); exact BK416.out⟩, ⟨by repeat (first | (with_reducible first | exact HB.out | apply bA_ | apply bB_ | apply bC_ | refine below_set ?_ GE416.out) | exact HB.out)⟩⟩
     ·rw [if_neg c21] at H
      have c21b0 : ((t418.length : Int) == (t424.length : Int)) = false := beq_eq_false_iff_ne.mpr c21
      have c21b1 : ((t418.length : Int) != (t424.length : Int)) = true := bne_iff_ne.mpr c21
      have c21b2 : (t418.length == t424.length) = false := by first | simpa using c21 | (simp at c21 ⊢; omega)
      (first | rw [c21b0] | (simp only [i64_w, i32_w]; rw [c21b0]) | skip)
      have H' := aM_ H
      clear H
      obtain ⟨Ao30, co30, eo30⟩ := Kd.R_slice HO420.out
      subst eo30
      obtain ⟨Ao31, co31, eo31⟩ := Kd.R_slice HO426.out
      subst eo31
      go_wp2
      go_meet
      case rel => exact ⟨_, (true), (by first | rfl | (simp; done) | (simp [*]; done)), H', ⟨by have := HJ2.out; first | omega | exact Nat.le_refl _⟩, ⟨by (with_reducible repeat (first | apply rA_ | apply rB_ | apply rC_)); exact Kd.R_mono HO420.out (fun _ hk => hk.2)⟩, ⟨by (with_reducible repeat (first | apply rA_ | apply rB_ | apply rC_)); exact Kd.R_mono HO426.out (fun _ hk => hk.1.2)⟩, ⟨by (with_reducible repeat (first | refine blk_drewN ?_ _ | refine blk_drew ?_ | refine blk_alloc ?_ _)); exact BK416.out⟩, ⟨by repeat (first | (with_reducible first | exact HB.out | apply bA_ | apply bB_ | apply bC_ | refine below_set ?_ GE416.out) | exact HB.out)⟩⟩
    case rest =>
     clear HC13
     try clear c1
     try clear c2
     try clear p2
     try clear c3
     try clear c4
     try clear p4
     try clear q4
     try clear hx4
     try clear c5
     try clear c5b0
     try clear c5b1
     try clear p6
     try clear c8
     try clear c10
     try clear c21
     try clear c21b0
     try clear c21b1
     try clear c21b2
     try clear c22
     try clear c22b0
     try clear c22b1
     try clear c24
     try clear c24b0
     try clear c25
     try clear c25b0
     try clear c30
     try clear hcz14_0
     try clear hcz14_1
     try clear hcz16_0
     try clear hcz16_1
     try clear hcz6_0
     try clear hcz6_1
     try clear hcz7_0
     try clear hcz7_1
     try clear hfz14_0
     try clear hfz14_1
     try clear hfz16_0
     try clear hfz16_1
     try clear hfz6_0
     try clear hfz6_1
     try clear hfz7_0
     try clear hfz7_1
     try clear hx427_0
     try clear p2
     try clear p427
     try clear q427
     obtain ⟨kq, x49_12, rfl, HA, HJ12, HO_5, HO_6, BK416, HB⟩ := hcut
     cases kq with
     | zero => exact absurd HA.out (by simp [w4_GraphOrder.j1])
     | succ kj12 =>
      have H := HA.out
      clear HA
      simp only [w4_GraphOrder.j1] at H
      by_cases c32 : x49_12 = true
      ·subst c32
       have H1 : (some false) = some r := by rw [if_pos rfl] at H; exact H
       clear H
       have H := H1
       clear H1
       obtain rfl := Option.some.inj H
       go_wp2
       go_ret
       exact ⟨by first | rfl | (simp [errW_none, errW_some] <;> rfl) | (simp [*, errW_none, errW_some] <;> rfl), by repeat (first | (with_reducible first | exact HB.out | apply bA_ | apply bB_ | apply bC_ | refine below_set ?_ GE416.out) | exact HB.out)⟩
      ·replace c32 := Bool.eq_false_iff.mpr c32
       subst c32
       have H1 : (w4_GraphOrder.l0 kj12 t418 t424 0 a0_0 l0_1) = some r := by rw [if_neg (show ¬ (false = true) by decide)] at H; exact H
       clear H
       have H := H1
       clear H1
       have H' := aM_ H
       clear H
       go_wp2
       go_loopg [7] kj12 (fun kq v7 w' => ∃ (x7_3 : Int), v7 = .int .i64 x7_3 ∧ Aside0 (w4_GraphOrder.l0 kq t418 t424 x7_3 a0_0 l0_1 = some r) ∧ Aside0 (kq ≤ kj12) ∧ Aside0 (Kd.R (Kd.int .i64) 3 w' w.heap.size (fun k_ => some k_ ≠ (v425 : Value).ownBlock) v419 t418) ∧ Aside0 (Kd.R (Kd.int .i64) 3 w' w.heap.size (fun k_ => some k_ ≠ (v419 : Value).ownBlock) v425 t424) ∧ Aside0 (w'.heap[gb416]? = some (.cells #[.int .i64 a0_0, (.slice A0_1 l0_1.length c0_1)] 24 (0, 0))) ∧ Aside0 (Below w.heap.size w w'))
       case atStart => exact ⟨(0), (by first | rfl | (simp; done) | (simp [*]; done)), H', ⟨Nat.le_refl _⟩, ⟨by (with_reducible repeat (first | apply rA_ | apply rB_ | apply rC_)); exact HO_5.out⟩, ⟨by (with_reducible repeat (first | apply rA_ | apply rB_ | apply rC_)); exact HO_6.out⟩, ⟨by (with_reducible repeat (first | refine blk_drewN ?_ _ | refine blk_drew ?_ | refine blk_alloc ?_ _)); exact BK416.out⟩, ⟨by repeat (first | (with_reducible first | exact HB.out | apply bA_ | apply bB_ | apply bC_ | refine below_set ?_ GE416.out) | exact HB.out)⟩⟩
       case round =>
        clear H'
        try clear c1
        try clear c2
        try clear p2
        try clear c3
        try clear c4
        try clear p4
        try clear q4
        try clear hx4
        try clear c5
        try clear c5b0
        try clear c5b1
        try clear p6
        try clear c8
        try clear c10
        try clear c21
        try clear c21b0
        try clear c21b1
        try clear c21b2
        try clear c22
        try clear c22b0
        try clear c22b1
        try clear c24
        try clear c24b0
        try clear c25
        try clear c25b0
        try clear c30
        try clear c32
        try clear hcz14_0
        try clear hcz14_1
        try clear hcz16_0
        try clear hcz16_1
        try clear hcz6_0
        try clear hcz6_1
        try clear hcz7_0
        try clear hcz7_1
        try clear hfz14_0
        try clear hfz14_1
        try clear hfz16_0
        try clear hfz16_1
        try clear hfz6_0
        try clear hfz6_1
        try clear hfz7_0
        try clear hfz7_1
        try clear hx427_0
        try clear p2
        try clear p4
        try clear p427
        try clear p6
        try clear q4
        try clear q427
        obtain ⟨x7_3, rfl, HA, HK3, HO_5, HO_6, BK416, HB⟩ := hrel
        cases gk with
        | zero => exact absurd HA.out (by simp [w4_GraphOrder.l0])
        | succ k3 =>
         have H := HA.out
         clear HA
         simp only [w4_GraphOrder.l0] at H
         by_cases c33 : x7_3 < (t418.length : Int)
         ·rw [if_pos c33] at H
          have c33b0 : decide (x7_3 < (t418.length : Int)) = true := decide_eq_true c33
          clear c33
          by_cases c34 : 0 ≤ x7_3
          ·rw [if_pos c34] at H
           have c34b0 : decide (0 ≤ x7_3) = true := decide_eq_true c34
           clear c34
           replace H := Option.bind_eq_some_iff.mp H
           obtain ⟨t429, A350, H⟩ := H
           replace H : (if t429 = true then (if x7_3 ≤ (t418.length : Int) then ((w4_in.f k3 (t418.take (x7_3 : Int).toNat) (rd t418 x7_3)).bind fun t435 => (if t435 = true then (some false) else (w4_GraphOrder.l0 k3 t418 t424 (wrap64 (x7_3 + 1)) a0_0 l0_1))) else (none)) else (some false)) = some r := H
           have A35 := aM_ A350
           clear A350
           by_cases c36 : t429 = true
           ·subst c36
            have H1 : (if x7_3 ≤ (t418.length : Int) then ((w4_in.f k3 (t418.take (x7_3 : Int).toNat) (rd t418 x7_3)).bind fun t435 => (if t435 = true then (some false) else (w4_GraphOrder.l0 k3 t418 t424 (wrap64 (x7_3 + 1)) a0_0 l0_1))) else (none)) = some r := by rw [if_pos rfl] at H; exact H
            clear H
            have H := H1
            clear H1
            have c37b0 := eq_true (of_decide_eq_true (by assumption) : 0 ≤ x7_3)
            by_cases c38 : x7_3 ≤ (t418.length : Int)
            ·rw [if_pos c38] at H
             have c38b0 := eq_true c38
             have c38b1 : decide (x7_3 ≤ (t418.length : Int)) = true := decide_eq_true c38
             clear c38
             obtain ⟨y430, hy430⟩ : ∃ y_ : List Int, y_ = (t418.take (x7_3 : Int).toNat) := ⟨_, rfl⟩
             replace H : ((w4_in.f k3 y430 (rd t418 x7_3)).bind fun t435 => (if t435 = true then (some false) else (w4_GraphOrder.l0 k3 t418 t424 (wrap64 (x7_3 + 1)) a0_0 l0_1))) = some r := by first | (rw [hy430]; with_reducible exact H) | (have H2_ := (Option.bind_some _ _).symm.trans H; rw [hy430]; with_reducible exact H2_) | (have H2_ := (Option.bind_some _ _).symm.trans H; with_reducible exact H2_) | with_reducible exact H | (rw [hy430]; exact H) | exact H
             have Ny430 := aM_ hy430
             clear hy430
             replace H := Option.bind_eq_some_iff.mp H
             obtain ⟨t435, A390, H⟩ := H
             replace H : (if t435 = true then (some false) else (w4_GraphOrder.l0 k3 t418 t424 (wrap64 (x7_3 + 1)) a0_0 l0_1)) = some r := H
             have A39 := aM_ A390
             clear A390
             by_cases c40 : t435 = true
             ·subst c40
              have H1 : (some false) = some r := by rw [if_pos rfl] at H; exact H
              clear H
              have H := H1
              clear H1
              obtain rfl := Option.some.inj H
              obtain ⟨Ao41, co41, eo41⟩ := Kd.R_slice HO_5.out
              subst eo41
              try go_wp2
              have n0_ := aM_ (Kd.R_drew HO_5.out)
              have n1_ := aM_ (Kd.R_drew HO_6.out)
              have n2_ := aM_ (blk_drew BK416.out)
              have n3_ := aM_ (below_drew1 HB.out)
              clear HO_5
              clear HO_6
              clear BK416
              clear HB
              have HO_5 := n0_
              have HO_6 := n1_
              have BK416 := n2_
              have HB := n3_
              clear n0_ n1_ n2_ n3_
              have p428 : 0 ≤ (x7_3 : Int) := of_decide_eq_true (by assumption)
              have q428 : x7_3 < (t418.length : Int) := of_decide_eq_true (by assumption)
              obtain ⟨ad428, e428, hx428_0⟩ := Kd.at_int (Kd.R_reads' HO_5.out).2.2 x7_3 p428 q428
              cases e428
              replace p428 := eq_true p428
              replace q428 := eq_true q428
              obtain ⟨Ao43, co43, eo43⟩ := Kd.R_slice HO_6.out
              (first | subst eo43 | (injection eo43 with f1_ f2_ f3_; have f4_ := f1_.symm; have f5_ := f3_.symm; clear f1_ f2_ f3_; subst f4_; subst f5_))
              have p434 : 0 ≤ (x7_3 : Int) := of_decide_eq_true (by assumption)
              have q434 : x7_3 < (t418.length : Int) := of_decide_eq_true (by assumption)
              obtain ⟨ad434, e434, hx434_0⟩ := Kd.at_int (Kd.R_reads' HO_5.out).2.2 x7_3 p434 q434
              obtain rfl : ad428 = ad434 := (by injection e434)
              replace p434 := eq_true p434
              replace q434 := eq_true q434
              refine start_ (n := 17) (S := fun w' => w'.cell? (ad428.add (x7_3).toNat) = some (.int .i64 (rd t418 x7_3)) ∧ w'.cell? (ad428.add (x7_3).toNat) = some (.int .i64 (rd t418 x7_3))) (ds := []) #[f_,f_,f_,f_,f_,f_,f_,f_,f_,f_,f_,f_,f_,f_,f_,f_,f_] (by kernel_rfl) rfl rfl ⟨hx428_0, hx434_0⟩ (fun hHeld => ?_); refine with_tabW w4_GraphOrder.tab10 w4_GraphOrder.bits10 (fun HT_ HW_ => ?_)
              generalize wr.drew = w42 at HO_5 HO_6 BK416 HB hx428_0 hx434_0 hHeld ⊢
              refine pure_ (i := 0) (N := some 56) (v := ?_) (a' := ?_) #[t_,f_,f_,f_,f_,f_,f_,f_,f_,f_,f_,f_,f_,f_,f_,f_,f_] rfl rfl (any_of HT_.out (by kernel_rfl)) (fun _ _ _ h => h) (Or.inl ⟨by rfl, ?_⟩) ?_ ?_
              rotate_left
              ·intro w'
               go_simp
               with_reducible rfl
              rotate_left
              ·simp only [Act.put,uA_,uB_,uC_,i64_w,i32_w]
               rfl
              refine pure_ (i := 1) (N := some 57) (v := ?_) (a' := ?_) #[t_,t_,f_,f_,f_,f_,f_,f_,f_,f_,f_,f_,f_,f_,f_,f_,f_] rfl rfl (any_of HT_.out (by kernel_rfl)) (fun _ _ _ h => h) (Or.inl ⟨by rfl, ?_⟩) ?_ ?_
              rotate_left
              ·intro w'
               go_simp
               with_reducible rfl
              rotate_left
              ·simp only [Act.put,uA_,uB_,uC_,i64_w,i32_w]
               rfl
              refine pure_ (i := 2) (N := some 58) (v := ?_) (a' := ?_) #[t_,t_,t_,f_,f_,f_,f_,f_,f_,f_,f_,f_,f_,f_,f_,f_,f_] rfl rfl (any_of HT_.out (by kernel_rfl)) (fun _ _ _ h => h) (Or.inl ⟨by rfl, ?_⟩) ?_ ?_
              rotate_left
              ·intro w'
               go_simp
               with_reducible rfl
              rotate_left
              ·simp only [Act.put,uA_,uB_,uC_,i64_w,i32_w]
               rfl
              refine pure_ (i := 3) (N := some 59) (v := ?_) (a' := ?_) #[t_,t_,t_,t_,f_,f_,f_,f_,f_,f_,f_,f_,f_,f_,f_,f_,f_] rfl rfl (any_of HT_.out (by kernel_rfl)) (fun _ _ _ h => h) (Or.inl ⟨by rfl, ?_⟩) ?_ ?_
              rotate_left
              ·intro w'
               go_simp
               with_reducible rfl
              rotate_left
              ·simp only [Act.put,uA_,uB_,uC_,i64_w,i32_w]
               rfl
              refine take_ (i := 4) (N := some 60) (v := ?_) (a' := ?_) #[t_,t_,t_,t_,t_,f_,f_,f_,f_,f_,f_,f_,f_,f_,f_,f_,f_] rfl rfl (take_ofW HT_.out HW_.out (by kernel_rfl)) (fun _ _ _ h => h) (Or.inl ⟨by rfl, ?_⟩) hHeld ?_ ?_
              rotate_left
              ·rintro w' ⟨s0, s1⟩
               go_simp
               with_reducible rfl
              rotate_left
              ·simp only [Act.put,uA_,uB_,uC_,i64_w,i32_w]
               rfl
              refine one_ (i := 5) (N := some 61) #[t_,t_,t_,t_,t_,t_,f_,f_,f_,f_,f_,f_,f_,f_,f_,f_,f_] rfl rfl (one_of HT_.out (by kernel_rfl)) (by decide) (fun K hK => ?_)
              refine goes_ Tryd.func39 (by kernel_rfl) rfl #[.slice Ao43 t424.length co43, .int .i64 (rd t418 x7_3)] (by rfl) rfl rfl (by (try simp only [List.map_toArray, List.map_cons, List.map_nil]); first | done | rfl | (simp only [List.length_drop, List.length_take]; rfl)) ?_
              with_reducible refine (w4_in.calls k3 _ _ t424 (rd t418 x7_3) true _ ?side1 ?side2 A35.out).mono ?_
              (case side1 => repeat (first | exact (Kd.R_reads' HO_6.out).2.2 | (with_reducible refine Kd.C_alloc ?_ _) | (with_reducible refine Kd.C_drewN ?_ _) | (with_reducible refine Kd.C_drew ?_)))
              (case side2 => exact (Kd.R_reads' HO_6.out).2.1)
              rintro e w' ⟨rfl, ⟨nd, rfl⟩⟩
              refine ⟨_, rfl, ?_⟩
              have q44 : (x7_3 : Int) ≤ ((t418.length : Int) : Int) := of_decide_eq_true (by assumption)
              obtain ⟨i044, hi044, _, hsz44, _⟩ := info_parts info3
              have hroom44 : t418.length ≤ co41 := (Kd.R_reads' HO_5.out).2.1
              have hC44 : Kd.C (Kd.int .i64) _ (some ad428) t418.length t418 := (Kd.R_reads' HO_5.out).2.2
              have hcut44 := cut_to (P := Tryd.prog) 31 3 .i64 Tryd.underlying31 hi044 (some ad428) t418.length co41 x7_3 (of_decide_eq_true (by assumption)) q44 hroom44
              have hr44 := Kd.C_take (m := (x7_3 : Int).toNat) hC44 (by omega)
              have hy44 : y430.length = (x7_3 : Int).toNat := (by rw [Ny430.out, List.length_take]; omega)
              rw [← Ny430.out] at hr44
              rw [← hy44] at hcut44
              have HR433 := aM_ hr44
              have HC433 := aM_ (show y430.length ≤ co41 from by omega)
              clear hr44 hC44 hroom44 hi044 hsz44
              have KY44 := aM_ hy44
              clear hy44
              have KL44 := aM_ (show (x7_3 : Int).toNat ≤ t418.length from by omega)
              replace q44 := eq_true q44
              refine hK.out _ _ ⟨hHeld.1, hHeld.2⟩ (fun hHeld => ?_)
              clear hK K
              refine norm_ (a' := ?_) ?_ ?_
              rotate_left
              ·show Act.put _ (some 61) _ = _
               simp only [Act.put,uA_,uB_,uC_,i64_w,i32_w]
               rfl
              refine pure_ (i := 6) (N := some 62) (v := ?_) (a' := ?_) #[t_,t_,t_,t_,t_,t_,t_,f_,f_,f_,f_,f_,f_,f_,f_,f_,f_] rfl rfl (any_of HT_.out (by kernel_rfl)) (fun _ _ _ h => h) (Or.inl ⟨by rfl, ?_⟩) ?_ ?_
              rotate_left
              ·intro w'
               go_simp
               with_reducible rfl
              rotate_left
              ·simp only [Act.put,uA_,uB_,uC_,i64_w,i32_w]
               rfl
              refine pure_ (i := 7) (N := some 63) (v := ?_) (a' := ?_) #[t_,t_,t_,t_,t_,t_,t_,t_,f_,f_,f_,f_,f_,f_,f_,f_,f_] rfl rfl (any_of HT_.out (by kernel_rfl)) (fun _ _ _ h => h) (Or.inl ⟨by rfl, ?_⟩) ?_ ?_
              rotate_left
              ·intro w'
               go_simp
               with_reducible rfl
              rotate_left
              ·simp only [Act.put,uA_,uB_,uC_,i64_w,i32_w]
               rfl
              refine pure_ (i := 8) (N := some 64) (v := ?_) (a' := ?_) #[t_,t_,t_,t_,t_,t_,t_,t_,t_,f_,f_,f_,f_,f_,f_,f_,f_] rfl rfl (any_of HT_.out (by kernel_rfl)) (fun _ _ _ h => h) (Or.inl ⟨by rfl, ?_⟩) ?_ ?_
              rotate_left
              ·intro w'
               go_simp
               with_reducible rfl
              rotate_left
              ·simp only [Act.put,uA_,uB_,uC_,i64_w,i32_w]
               rfl
              refine pure_ (i := 9) (N := some 65) (v := ?_) (a' := ?_) #[t_,t_,t_,t_,t_,t_,t_,t_,t_,t_,f_,f_,f_,f_,f_,f_,f_] rfl rfl (any_of HT_.out (by kernel_rfl)) (fun _ _ _ h => h) (Or.inl ⟨by rfl, ?_⟩) ?_ ?_
              rotate_left
              ·intro w'
               go_simp
               with_reducible rfl
              rotate_left
              ·simp only [Act.put,uA_,uB_,uC_,i64_w,i32_w]
               rfl
              refine pure_ (i := 10) (N := some 66) (v := ?_) (a' := ?_) #[t_,t_,t_,t_,t_,t_,t_,t_,t_,t_,t_,f_,f_,f_,f_,f_,f_] rfl rfl (any_of HT_.out (by kernel_rfl)) (fun _ _ _ h => h) (Or.inl ⟨by rfl, ?_⟩) ?_ ?_
              rotate_left
              ·intro w'
               go_simp
               with_reducible rfl
              rotate_left
              ·simp only [Act.put,uA_,uB_,uC_,i64_w,i32_w]
               rfl
              refine pure_ (i := 11) (N := some 67) (v := ?_) (a' := ?_) #[t_,t_,t_,t_,t_,t_,t_,t_,t_,t_,t_,t_,f_,f_,f_,f_,f_] rfl rfl (any_of HT_.out (by kernel_rfl)) (fun _ _ _ h => h) (Or.inl ⟨by rfl, ?_⟩) ?_ ?_
              rotate_left
              ·intro w'
               go_simp
               with_reducible rfl
              rotate_left
              ·simp only [Act.put,uA_,uB_,uC_,i64_w,i32_w]
               rfl
              refine pure_ (i := 12) (N := some 68) (v := ?_) (a' := ?_) #[t_,t_,t_,t_,t_,t_,t_,t_,t_,t_,t_,t_,t_,f_,f_,f_,f_] rfl rfl (any_of HT_.out (by kernel_rfl)) (fun _ _ _ h => h) (Or.inl ⟨by rfl, ?_⟩) ?_ ?_
              rotate_left
              ·intro w'
               go_simp
               with_reducible rfl
              rotate_left
              ·simp only [Act.put,uA_,uB_,uC_,i64_w,i32_w]
               rfl
              refine pure_ (i := 13) (N := some 69) (v := ?_) (a' := ?_) #[t_,t_,t_,t_,t_,t_,t_,t_,t_,t_,t_,t_,t_,t_,f_,f_,f_] rfl rfl (any_of HT_.out (by kernel_rfl)) (fun _ _ _ h => h) (Or.inl ⟨by rfl, ?_⟩) ?_ ?_
              rotate_left
              ·intro w'
               go_simp
               with_reducible rfl
              rotate_left
              ·simp only [Act.put,uA_,uB_,uC_,i64_w,i32_w]
               rfl
              refine take_ (i := 14) (N := some 70) (v := ?_) (a' := ?_) #[t_,t_,t_,t_,t_,t_,t_,t_,t_,t_,t_,t_,t_,t_,t_,f_,f_] rfl rfl (take_ofW HT_.out HW_.out (by kernel_rfl)) (fun _ _ _ h => h) (Or.inl ⟨by rfl, ?_⟩) hHeld ?_ ?_
              rotate_left
              ·rintro w' ⟨s0, s1⟩
               go_simp
               with_reducible rfl
              rotate_left
              ·simp only [Act.put,uA_,uB_,uC_,i64_w,i32_w]
               rfl
              refine one_ (i := 15) (N := some 71) #[t_,t_,t_,t_,t_,t_,t_,t_,t_,t_,t_,t_,t_,t_,t_,t_,f_] rfl rfl (one_of HT_.out (by kernel_rfl)) (by decide) (fun K hK => ?_)
              refine goes_ Tryd.func39 (by kernel_rfl) rfl #[.slice (some ad428) y430.length co41, .int .i64 (rd t418 x7_3)] (by rfl) rfl rfl (by (try simp only [List.map_toArray, List.map_cons, List.map_nil]); first | done | rfl | (simp only [List.length_drop, List.length_take]; rfl)) ?_
              with_reducible refine (w4_in.calls k3 _ _ y430 (rd t418 x7_3) true _ ?side1 ?side2 A39.out).mono ?_
              (case side1 => repeat (first | exact (by repeat (first | (with_reducible exact HR433.out) | (with_reducible refine Kd.C_alloc ?_ _) | (with_reducible refine Kd.C_drewN ?_ _) | (with_reducible refine Kd.C_drew ?_) | exact HR433.out)) | (with_reducible refine Kd.C_alloc ?_ _) | (with_reducible refine Kd.C_drewN ?_ _) | (with_reducible refine Kd.C_drew ?_)))
              (case side2 => exact HC433.out)
              rintro e w' ⟨rfl, ⟨nd, rfl⟩⟩
              refine ⟨_, rfl, ?_⟩
              refine hK.out _ _ ⟨hHeld.1, hHeld.2⟩ (fun hHeld => ?_)
              clear hK K
              refine norm_ (a' := ?_) ?_ ?_
              rotate_left
              ·show Act.put _ (some 71) _ = _
               simp only [Act.put,uA_,uB_,uC_,i64_w,i32_w]
               rfl
              refine pure_ (i := 16) (N := some 72) (v := ?_) (a' := ?_) #[t_,t_,t_,t_,t_,t_,t_,t_,t_,t_,t_,t_,t_,t_,t_,t_,t_] rfl rfl (any_of HT_.out (by kernel_rfl)) (fun _ _ _ h => h) (Or.inl ⟨by rfl, ?_⟩) ?_ ?_
              rotate_left
              ·intro w'
               go_simp
               with_reducible rfl
              rotate_left
              ·simp only [Act.put,uA_,uB_,uC_,i64_w,i32_w]
               rfl
              refine done_ (done_of HT_.out (by kernel_rfl)) ?_
              try go_wp2
              go_ret
              exact ⟨by first | rfl | (simp [errW_none, errW_some] <;> rfl) | (simp [*, errW_none, errW_some] <;> rfl), by repeat (first | (with_reducible first | exact HB.out | apply bA_ | apply bB_ | apply bC_ | refine below_set ?_ GE416.out) | exact HB.out)⟩
             ·replace c40 := Bool.eq_false_iff.mpr c40
              subst c40
              have H1 : (w4_GraphOrder.l0 k3 t418 t424 (wrap64 (x7_3 + 1)) a0_0 l0_1) = some r := by rw [if_neg (show ¬ (false = true) by decide)] at H; exact H
              clear H
              have H := H1
              clear H1
              have H' := aM_ H
              clear H
              obtain ⟨Ao45, co45, eo45⟩ := Kd.R_slice HO_5.out
              subst eo45
              try go_wp2
              have n0_ := aM_ (Kd.R_drew HO_5.out)
              have n1_ := aM_ (Kd.R_drew HO_6.out)
              have n2_ := aM_ (blk_drew BK416.out)
              have n3_ := aM_ (below_drew1 HB.out)
              clear HO_5
              clear HO_6
              clear BK416
              clear HB
              have HO_5 := n0_
              have HO_6 := n1_
              have BK416 := n2_
              have HB := n3_
              clear n0_ n1_ n2_ n3_
              have p428 : 0 ≤ (x7_3 : Int) := of_decide_eq_true (by assumption)
              have q428 : x7_3 < (t418.length : Int) := of_decide_eq_true (by assumption)
              obtain ⟨ad428, e428, hx428_0⟩ := Kd.at_int (Kd.R_reads' HO_5.out).2.2 x7_3 p428 q428
              cases e428
              replace p428 := eq_true p428
              replace q428 := eq_true q428
              obtain ⟨Ao47, co47, eo47⟩ := Kd.R_slice HO_6.out
              (first | subst eo47 | (injection eo47 with f1_ f2_ f3_; have f4_ := f1_.symm; have f5_ := f3_.symm; clear f1_ f2_ f3_; subst f4_; subst f5_))
              have p434 : 0 ≤ (x7_3 : Int) := of_decide_eq_true (by assumption)
              have q434 : x7_3 < (t418.length : Int) := of_decide_eq_true (by assumption)
              obtain ⟨ad434, e434, hx434_0⟩ := Kd.at_int (Kd.R_reads' HO_5.out).2.2 x7_3 p434 q434
              obtain rfl : ad428 = ad434 := (by injection e434)
              replace p434 := eq_true p434
              replace q434 := eq_true q434
              refine start_ (n := 17) (S := fun w' => w'.cell? (ad428.add (x7_3).toNat) = some (.int .i64 (rd t418 x7_3)) ∧ w'.cell? (ad428.add (x7_3).toNat) = some (.int .i64 (rd t418 x7_3))) (ds := []) #[f_,f_,f_,f_,f_,f_,f_,f_,f_,f_,f_,f_,f_,f_,f_,f_,f_] (by kernel_rfl) rfl rfl ⟨hx428_0, hx434_0⟩ (fun hHeld => ?_); refine with_tabW w4_GraphOrder.tab10 w4_GraphOrder.bits10 (fun HT_ HW_ => ?_)
              generalize wr.drew = w46 at HO_5 HO_6 BK416 HB hx428_0 hx434_0 hHeld ⊢
              refine pure_ (i := 0) (N := some 56) (v := ?_) (a' := ?_) #[t_,f_,f_,f_,f_,f_,f_,f_,f_,f_,f_,f_,f_,f_,f_,f_,f_] rfl rfl (any_of HT_.out (by kernel_rfl)) (fun _ _ _ h => h) (Or.inl ⟨by rfl, ?_⟩) ?_ ?_
              rotate_left
              ·intro w'
               go_simp
               with_reducible rfl
              rotate_left
              ·simp only [Act.put,uA_,uB_,uC_,i64_w,i32_w]
               rfl
              refine pure_ (i := 1) (N := some 57) (v := ?_) (a' := ?_) #[t_,t_,f_,f_,f_,f_,f_,f_,f_,f_,f_,f_,f_,f_,f_,f_,f_] rfl rfl (any_of HT_.out (by kernel_rfl)) (fun _ _ _ h => h) (Or.inl ⟨by rfl, ?_⟩) ?_ ?_
              rotate_left
              ·intro w'
               go_simp
               with_reducible rfl
              rotate_left
              ·simp only [Act.put,uA_,uB_,uC_,i64_w,i32_w]
               rfl
              refine pure_ (i := 2) (N := some 58) (v := ?_) (a' := ?_) #[t_,t_,t_,f_,f_,f_,f_,f_,f_,f_,f_,f_,f_,f_,f_,f_,f_] rfl rfl (any_of HT_.out (by kernel_rfl)) (fun _ _ _ h => h) (Or.inl ⟨by rfl, ?_⟩) ?_ ?_
              rotate_left
              ·intro w'
               go_simp
               with_reducible rfl
              rotate_left
              ·simp only [Act.put,uA_,uB_,uC_,i64_w,i32_w]
               rfl
              refine pure_ (i := 3) (N := some 59) (v := ?_) (a' := ?_) #[t_,t_,t_,t_,f_,f_,f_,f_,f_,f_,f_,f_,f_,f_,f_,f_,f_] rfl rfl (any_of HT_.out (by kernel_rfl)) (fun _ _ _ h => h) (Or.inl ⟨by rfl, ?_⟩) ?_ ?_
              rotate_left
              ·intro w'
               go_simp
               with_reducible rfl
              rotate_left
              ·simp only [Act.put,uA_,uB_,uC_,i64_w,i32_w]
               rfl
              refine take_ (i := 4) (N := some 60) (v := ?_) (a' := ?_) #[t_,t_,t_,t_,t_,f_,f_,f_,f_,f_,f_,f_,f_,f_,f_,f_,f_] rfl rfl (take_ofW HT_.out HW_.out (by kernel_rfl)) (fun _ _ _ h => h) (Or.inl ⟨by rfl, ?_⟩) hHeld ?_ ?_
              rotate_left
              ·rintro w' ⟨s0, s1⟩
               go_simp
               with_reducible rfl
              rotate_left
              ·simp only [Act.put,uA_,uB_,uC_,i64_w,i32_w]
               rfl
              refine one_ (i := 5) (N := some 61) #[t_,t_,t_,t_,t_,t_,f_,f_,f_,f_,f_,f_,f_,f_,f_,f_,f_] rfl rfl (one_of HT_.out (by kernel_rfl)) (by decide) (fun K hK => ?_)
              refine goes_ Tryd.func39 (by kernel_rfl) rfl #[.slice Ao47 t424.length co47, .int .i64 (rd t418 x7_3)] (by rfl) rfl rfl (by (try simp only [List.map_toArray, List.map_cons, List.map_nil]); first | done | rfl | (simp only [List.length_drop, List.length_take]; rfl)) ?_
              with_reducible refine (w4_in.calls k3 _ _ t424 (rd t418 x7_3) true _ ?side1 ?side2 A35.out).mono ?_
              (case side1 => repeat (first | exact (Kd.R_reads' HO_6.out).2.2 | (with_reducible refine Kd.C_alloc ?_ _) | (with_reducible refine Kd.C_drewN ?_ _) | (with_reducible refine Kd.C_drew ?_)))
              (case side2 => exact (Kd.R_reads' HO_6.out).2.1)
              rintro e w' ⟨rfl, ⟨nd, rfl⟩⟩
              refine ⟨_, rfl, ?_⟩
              have q48 : (x7_3 : Int) ≤ ((t418.length : Int) : Int) := of_decide_eq_true (by assumption)
              obtain ⟨i048, hi048, _, hsz48, _⟩ := info_parts info3
              have hroom48 : t418.length ≤ co45 := (Kd.R_reads' HO_5.out).2.1
              have hC48 : Kd.C (Kd.int .i64) _ (some ad428) t418.length t418 := (Kd.R_reads' HO_5.out).2.2
              have hcut48 := cut_to (P := Tryd.prog) 31 3 .i64 Tryd.underlying31 hi048 (some ad428) t418.length co45 x7_3 (of_decide_eq_true (by assumption)) q48 hroom48
              have hr48 := Kd.C_take (m := (x7_3 : Int).toNat) hC48 (by omega)
              have hy48 : y430.length = (x7_3 : Int).toNat := (by rw [Ny430.out, List.length_take]; omega)
              rw [← Ny430.out] at hr48
              rw [← hy48] at hcut48
              have HR433 := aM_ hr48
              have HC433 := aM_ (show y430.length ≤ co45 from by omega)
              clear hr48 hC48 hroom48 hi048 hsz48
              have KY48 := aM_ hy48
              clear hy48
              have KL48 := aM_ (show (x7_3 : Int).toNat ≤ t418.length from by omega)
              replace q48 := eq_true q48
              refine hK.out _ _ ⟨hHeld.1, hHeld.2⟩ (fun hHeld => ?_)
              clear hK K
              refine norm_ (a' := ?_) ?_ ?_
              rotate_left
              ·show Act.put _ (some 61) _ = _
               simp only [Act.put,uA_,uB_,uC_,i64_w,i32_w]
               rfl
              refine pure_ (i := 6) (N := some 62) (v := ?_) (a' := ?_) #[t_,t_,t_,t_,t_,t_,t_,f_,f_,f_,f_,f_,f_,f_,f_,f_,f_] rfl rfl (any_of HT_.out (by kernel_rfl)) (fun _ _ _ h => h) (Or.inl ⟨by rfl, ?_⟩) ?_ ?_
              rotate_left
              ·intro w'
               go_simp
               with_reducible rfl
              rotate_left
              ·simp only [Act.put,uA_,uB_,uC_,i64_w,i32_w]
               rfl
              refine pure_ (i := 7) (N := some 63) (v := ?_) (a' := ?_) #[t_,t_,t_,t_,t_,t_,t_,t_,f_,f_,f_,f_,f_,f_,f_,f_,f_] rfl rfl (any_of HT_.out (by kernel_rfl)) (fun _ _ _ h => h) (Or.inl ⟨by rfl, ?_⟩) ?_ ?_
              rotate_left
              ·intro w'
               go_simp
               with_reducible rfl
              rotate_left
              ·simp only [Act.put,uA_,uB_,uC_,i64_w,i32_w]
               rfl
              refine pure_ (i := 8) (N := some 64) (v := ?_) (a' := ?_) #[t_,t_,t_,t_,t_,t_,t_,t_,t_,f_,f_,f_,f_,f_,f_,f_,f_] rfl rfl (any_of HT_.out (by kernel_rfl)) (fun _ _ _ h => h) (Or.inl ⟨by rfl, ?_⟩) ?_ ?_
              rotate_left
              ·intro w'
               go_simp
               with_reducible rfl
              rotate_left
              ·simp only [Act.put,uA_,uB_,uC_,i64_w,i32_w]
               rfl
              refine pure_ (i := 9) (N := some 65) (v := ?_) (a' := ?_) #[t_,t_,t_,t_,t_,t_,t_,t_,t_,t_,f_,f_,f_,f_,f_,f_,f_] rfl rfl (any_of HT_.out (by kernel_rfl)) (fun _ _ _ h => h) (Or.inl ⟨by rfl, ?_⟩) ?_ ?_
              rotate_left
              ·intro w'
               go_simp
               with_reducible rfl
              rotate_left
              ·simp only [Act.put,uA_,uB_,uC_,i64_w,i32_w]
               rfl
              refine pure_ (i := 10) (N := some 66) (v := ?_) (a' := ?_) #[t_,t_,t_,t_,t_,t_,t_,t_,t_,t_,t_,f_,f_,f_,f_,f_,f_] rfl rfl (any_of HT_.out (by kernel_rfl)) (fun _ _ _ h => h) (Or.inl ⟨by rfl, ?_⟩) ?_ ?_
              rotate_left
              ·intro w'
               go_simp
               with_reducible rfl
              rotate_left
              ·simp only [Act.put,uA_,uB_,uC_,i64_w,i32_w]
               rfl
              refine pure_ (i := 11) (N := some 67) (v := ?_) (a' := ?_) #[t_,t_,t_,t_,t_,t_,t_,t_,t_,t_,t_,t_,f_,f_,f_,f_,f_] rfl rfl (any_of HT_.out (by kernel_rfl)) (fun _ _ _ h => h) (Or.inl ⟨by rfl, ?_⟩) ?_ ?_
              rotate_left
              ·intro w'
               go_simp
               with_reducible rfl
              rotate_left
              ·simp only [Act.put,uA_,uB_,uC_,i64_w,i32_w]
               rfl
              refine pure_ (i := 12) (N := some 68) (v := ?_) (a' := ?_) #[t_,t_,t_,t_,t_,t_,t_,t_,t_,t_,t_,t_,t_,f_,f_,f_,f_] rfl rfl (any_of HT_.out (by kernel_rfl)) (fun _ _ _ h => h) (Or.inl ⟨by rfl, ?_⟩) ?_ ?_
              rotate_left
              ·intro w'
               go_simp
               with_reducible rfl
              rotate_left
              ·simp only [Act.put,uA_,uB_,uC_,i64_w,i32_w]
               rfl
              refine pure_ (i := 13) (N := some 69) (v := ?_) (a' := ?_) #[t_,t_,t_,t_,t_,t_,t_,t_,t_,t_,t_,t_,t_,t_,f_,f_,f_] rfl rfl (any_of HT_.out (by kernel_rfl)) (fun _ _ _ h => h) (Or.inl ⟨by rfl, ?_⟩) ?_ ?_
              rotate_left
              ·intro w'
               go_simp
               with_reducible rfl
              rotate_left
              ·simp only [Act.put,uA_,uB_,uC_,i64_w,i32_w]
               rfl
              refine take_ (i := 14) (N := some 70) (v := ?_) (a' := ?_) #[t_,t_,t_,t_,t_,t_,t_,t_,t_,t_,t_,t_,t_,t_,t_,f_,f_] rfl rfl (take_ofW HT_.out HW_.out (by kernel_rfl)) (fun _ _ _ h => h) (Or.inl ⟨by rfl, ?_⟩) hHeld ?_ ?_
              rotate_left
              ·rintro w' ⟨s0, s1⟩
               go_simp
               with_reducible rfl
              rotate_left
              ·simp only [Act.put,uA_,uB_,uC_,i64_w,i32_w]
               rfl
              refine one_ (i := 15) (N := some 71) #[t_,t_,t_,t_,t_,t_,t_,t_,t_,t_,t_,t_,t_,t_,t_,t_,f_] rfl rfl (one_of HT_.out (by kernel_rfl)) (by decide) (fun K hK => ?_)
              refine goes_ Tryd.func39 (by kernel_rfl) rfl #[.slice (some ad428) y430.length co45, .int .i64 (rd t418 x7_3)] (by rfl) rfl rfl (by (try simp only [List.map_toArray, List.map_cons, List.map_nil]); first | done | rfl | (simp only [List.length_drop, List.length_take]; rfl)) ?_
              with_reducible refine (w4_in.calls k3 _ _ y430 (rd t418 x7_3) false _ ?side1 ?side2 A39.out).mono ?_
              (case side1 => repeat (first | exact (by repeat (first | (with_reducible exact HR433.out) | (with_reducible refine Kd.C_alloc ?_ _) | (with_reducible refine Kd.C_drewN ?_ _) | (with_reducible refine Kd.C_drew ?_) | exact HR433.out)) | (with_reducible refine Kd.C_alloc ?_ _) | (with_reducible refine Kd.C_drewN ?_ _) | (with_reducible refine Kd.C_drew ?_)))
              (case side2 => exact HC433.out)
              rintro e w' ⟨rfl, ⟨nd, rfl⟩⟩
              refine ⟨_, rfl, ?_⟩
              refine hK.out _ _ ⟨hHeld.1, hHeld.2⟩ (fun hHeld => ?_)
              clear hK K
              refine norm_ (a' := ?_) ?_ ?_
              rotate_left
              ·show Act.put _ (some 71) _ = _
               simp only [Act.put,uA_,uB_,uC_,i64_w,i32_w]
               rfl
              refine pure_ (i := 16) (N := some 72) (v := ?_) (a' := ?_) #[t_,t_,t_,t_,t_,t_,t_,t_,t_,t_,t_,t_,t_,t_,t_,t_,t_] rfl rfl (any_of HT_.out (by kernel_rfl)) (fun _ _ _ h => h) (Or.inl ⟨by rfl, ?_⟩) ?_ ?_
              rotate_left
              ·intro w'
               go_simp
               with_reducible rfl
              rotate_left
              ·simp only [Act.put,uA_,uB_,uC_,i64_w,i32_w]
               rfl
              refine done_ (done_of HT_.out (by kernel_rfl)) ?_
              try go_wp2
              go_roundg k3
              case measure => have := HJ2.out; have := HJ12.out; have := HK3.out; omega
              case rel => exact ⟨(wrap64 (x7_3 + 1)), (by first | rfl | (simp; done) | (simp [*]; done)), H', ⟨by have := HJ2.out; have := HJ12.out; have := HK3.out; omega⟩, ⟨by (with_reducible repeat (first | apply rA_ | apply rB_ | apply rC_)); exact HO_5.out⟩, ⟨by (with_reducible repeat (first | apply rA_ | apply rB_ | apply rC_)); exact HO_6.out⟩, ⟨by (with_reducible repeat (first | refine blk_drewN ?_ _ | refine blk_drew ?_ | refine blk_alloc ?_ _)); exact BK416.out⟩, ⟨by repeat (first | (with_reducible first | exact HB.out | apply bA_ | apply bB_ | apply bC_ | refine below_set ?_ GE416.out) | exact HB.out)⟩⟩
            ·rw [if_neg c38] at H
             exact absurd H (by simp)
           ·replace c36 := Bool.eq_false_iff.mpr c36
            subst c36
            have H1 : (some false) = some r := by rw [if_neg (show ¬ (false = true) by decide)] at H; exact H
            clear H
            have H := H1
            clear H1
            obtain rfl := Option.some.inj H
            obtain ⟨Ao49, co49, eo49⟩ := Kd.R_slice HO_5.out
            subst eo49
            try go_wp2
            have n0_ := aM_ (Kd.R_drew HO_5.out)
            have n1_ := aM_ (Kd.R_drew HO_6.out)
            have n2_ := aM_ (blk_drew BK416.out)
            have n3_ := aM_ (below_drew1 HB.out)
            clear HO_5
            clear HO_6
            clear BK416
            clear HB
            have HO_5 := n0_
            have HO_6 := n1_
            have BK416 := n2_
            have HB := n3_
            clear n0_ n1_ n2_ n3_
            have p428 : 0 ≤ (x7_3 : Int) := of_decide_eq_true (by assumption)
            have q428 : x7_3 < (t418.length : Int) := of_decide_eq_true (by assumption)
            obtain ⟨ad428, e428, hx428_0⟩ := Kd.at_int (Kd.R_reads' HO_5.out).2.2 x7_3 p428 q428
            cases e428
            replace p428 := eq_true p428
            replace q428 := eq_true q428
            obtain ⟨Ao51, co51, eo51⟩ := Kd.R_slice HO_6.out
            (first | subst eo51 | (injection eo51 with f1_ f2_ f3_; have f4_ := f1_.symm; have f5_ := f3_.symm; clear f1_ f2_ f3_; subst f4_; subst f5_))
            refine start_ (n := 17) (S := fun w' => w'.cell? (ad428.add (x7_3).toNat) = some (.int .i64 (rd t418 x7_3))) (ds := []) #[f_,f_,f_,f_,f_,f_,f_,f_,f_,f_,f_,f_,f_,f_,f_,f_,f_] (by kernel_rfl) rfl rfl (hx428_0) (fun hHeld => ?_); refine with_tabW w4_GraphOrder.tab10 w4_GraphOrder.bits10 (fun HT_ HW_ => ?_)
            generalize wr.drew = w50 at HO_5 HO_6 BK416 HB hx428_0 hHeld ⊢
            refine pure_ (i := 0) (N := some 56) (v := ?_) (a' := ?_) #[t_,f_,f_,f_,f_,f_,f_,f_,f_,f_,f_,f_,f_,f_,f_,f_,f_] rfl rfl (any_of HT_.out (by kernel_rfl)) (fun _ _ _ h => h) (Or.inl ⟨by rfl, ?_⟩) ?_ ?_
            rotate_left
            ·intro w'
             go_simp
             with_reducible rfl
            rotate_left
            ·simp only [Act.put,uA_,uB_,uC_,i64_w,i32_w]
             rfl
            refine pure_ (i := 1) (N := some 57) (v := ?_) (a' := ?_) #[t_,t_,f_,f_,f_,f_,f_,f_,f_,f_,f_,f_,f_,f_,f_,f_,f_] rfl rfl (any_of HT_.out (by kernel_rfl)) (fun _ _ _ h => h) (Or.inl ⟨by rfl, ?_⟩) ?_ ?_
            rotate_left
            ·intro w'
             go_simp
             with_reducible rfl
            rotate_left
            ·simp only [Act.put,uA_,uB_,uC_,i64_w,i32_w]
             rfl
            refine pure_ (i := 2) (N := some 58) (v := ?_) (a' := ?_) #[t_,t_,t_,f_,f_,f_,f_,f_,f_,f_,f_,f_,f_,f_,f_,f_,f_] rfl rfl (any_of HT_.out (by kernel_rfl)) (fun _ _ _ h => h) (Or.inl ⟨by rfl, ?_⟩) ?_ ?_
            rotate_left
            ·intro w'
             go_simp
             with_reducible rfl
            rotate_left
            ·simp only [Act.put,uA_,uB_,uC_,i64_w,i32_w]
             rfl
            refine pure_ (i := 3) (N := some 59) (v := ?_) (a' := ?_) #[t_,t_,t_,t_,f_,f_,f_,f_,f_,f_,f_,f_,f_,f_,f_,f_,f_] rfl rfl (any_of HT_.out (by kernel_rfl)) (fun _ _ _ h => h) (Or.inl ⟨by rfl, ?_⟩) ?_ ?_
            rotate_left
            ·intro w'
             go_simp
             with_reducible rfl
            rotate_left
            ·simp only [Act.put,uA_,uB_,uC_,i64_w,i32_w]
             rfl
            refine take_ (i := 4) (N := some 60) (v := ?_) (a' := ?_) #[t_,t_,t_,t_,t_,f_,f_,f_,f_,f_,f_,f_,f_,f_,f_,f_,f_] rfl rfl (take_ofW HT_.out HW_.out (by kernel_rfl)) (fun _ _ _ h => h) (Or.inl ⟨by rfl, ?_⟩) hHeld ?_ ?_
            rotate_left
            ·intro w' s0
             go_simp
             with_reducible rfl
            rotate_left
            ·simp only [Act.put,uA_,uB_,uC_,i64_w,i32_w]
             rfl
            refine one_ (i := 5) (N := some 61) #[t_,t_,t_,t_,t_,t_,f_,f_,f_,f_,f_,f_,f_,f_,f_,f_,f_] rfl rfl (one_of HT_.out (by kernel_rfl)) (by decide) (fun K hK => ?_)
            refine goes_ Tryd.func39 (by kernel_rfl) rfl #[.slice Ao51 t424.length co51, .int .i64 (rd t418 x7_3)] (by rfl) rfl rfl (by (try simp only [List.map_toArray, List.map_cons, List.map_nil]); first | done | rfl | (simp only [List.length_drop, List.length_take]; rfl)) ?_
            with_reducible refine (w4_in.calls k3 _ _ t424 (rd t418 x7_3) false _ ?side1 ?side2 A35.out).mono ?_
            (case side1 => repeat (first | exact (Kd.R_reads' HO_6.out).2.2 | (with_reducible refine Kd.C_alloc ?_ _) | (with_reducible refine Kd.C_drewN ?_ _) | (with_reducible refine Kd.C_drew ?_)))
            (case side2 => exact (Kd.R_reads' HO_6.out).2.1)
            rintro e w' ⟨rfl, ⟨nd, rfl⟩⟩
            refine ⟨_, rfl, ?_⟩
            refine hK.out _ _ (hHeld) (fun hHeld => ?_)
            clear hK K
            refine norm_ (a' := ?_) ?_ ?_
            rotate_left
            ·show Act.put _ (some 61) _ = _
             simp only [Act.put,uA_,uB_,uC_,i64_w,i32_w]
             rfl
            refine pure_ (i := 6) (N := some 62) (v := ?_) (a' := ?_) #[t_,t_,t_,t_,t_,t_,t_,f_,f_,f_,f_,f_,f_,f_,f_,f_,f_] rfl rfl (any_of HT_.out (by kernel_rfl)) (fun _ _ _ h => h) (Or.inl ⟨by rfl, ?_⟩) ?_ ?_
            rotate_left
            ·intro w'
             go_simp
             with_reducible rfl
            rotate_left
            ·simp only [Act.put,uA_,uB_,uC_,i64_w,i32_w]
             rfl
            refine pure_ (i := 7) (N := some 63) (v := ?_) (a' := ?_) #[t_,t_,t_,t_,t_,t_,t_,t_,f_,f_,f_,f_,f_,f_,f_,f_,f_] rfl rfl (any_of HT_.out (by kernel_rfl)) (fun _ _ _ h => h) (Or.inl ⟨by rfl, ?_⟩) ?_ ?_
            rotate_left
            ·intro w'
             go_simp
             with_reducible rfl
            rotate_left
            ·simp only [Act.put,uA_,uB_,uC_,i64_w,i32_w]
             rfl
            refine pure_ (i := 8) (N := some 64) (v := undef) (a' := ?_) #[t_,t_,t_,t_,t_,t_,t_,t_,t_,f_,f_,f_,f_,f_,f_,f_,f_] rfl rfl (any_of HT_.out (by kernel_rfl)) (fun _ _ _ h => h) (Or.inr ⟨by rfl, rfl⟩) ?_ ?_
            rotate_left
            ·simp only [Act.put,uA_,uB_,uC_,i64_w,i32_w]
             rfl
            refine pure_ (i := 9) (N := some 65) (v := undef) (a' := ?_) #[t_,t_,t_,t_,t_,t_,t_,t_,t_,t_,f_,f_,f_,f_,f_,f_,f_] rfl rfl (any_of HT_.out (by kernel_rfl)) (fun _ _ _ h => h) (Or.inr ⟨by rfl, rfl⟩) ?_ ?_
            rotate_left
            ·simp only [Act.put,uA_,uB_,uC_,i64_w,i32_w]
             rfl
            refine pure_ (i := 10) (N := some 66) (v := undef) (a' := ?_) #[t_,t_,t_,t_,t_,t_,t_,t_,t_,t_,t_,f_,f_,f_,f_,f_,f_] rfl rfl (any_of HT_.out (by kernel_rfl)) (fun _ _ _ h => h) (Or.inr ⟨by rfl, rfl⟩) ?_ ?_
            rotate_left
            ·simp only [Act.put,uA_,uB_,uC_,i64_w,i32_w]
             rfl
            refine pure_ (i := 11) (N := some 67) (v := undef) (a' := ?_) #[t_,t_,t_,t_,t_,t_,t_,t_,t_,t_,t_,t_,f_,f_,f_,f_,f_] rfl rfl (any_of HT_.out (by kernel_rfl)) (fun _ _ _ h => h) (Or.inr ⟨by rfl, rfl⟩) ?_ ?_
            rotate_left
            ·simp only [Act.put,uA_,uB_,uC_,i64_w,i32_w]
             rfl
            refine pure_ (i := 12) (N := some 68) (v := undef) (a' := ?_) #[t_,t_,t_,t_,t_,t_,t_,t_,t_,t_,t_,t_,t_,f_,f_,f_,f_] rfl rfl (any_of HT_.out (by kernel_rfl)) (fun _ _ _ h => h) (Or.inr ⟨by rfl, rfl⟩) ?_ ?_
            rotate_left
            ·simp only [Act.put,uA_,uB_,uC_,i64_w,i32_w]
             rfl
            refine pure_ (i := 13) (N := some 69) (v := undef) (a' := ?_) #[t_,t_,t_,t_,t_,t_,t_,t_,t_,t_,t_,t_,t_,t_,f_,f_,f_] rfl rfl (any_of HT_.out (by kernel_rfl)) (fun _ _ _ h => h) (Or.inr ⟨by rfl, rfl⟩) ?_ ?_
            rotate_left
            ·simp only [Act.put,uA_,uB_,uC_,i64_w,i32_w]
             rfl
            refine pure_ (i := 14) (N := some 70) (v := undef) (a' := ?_) #[t_,t_,t_,t_,t_,t_,t_,t_,t_,t_,t_,t_,t_,t_,t_,f_,f_] rfl rfl (any_of HT_.out (by kernel_rfl)) (fun _ _ _ h => h) (Or.inr ⟨by rfl, rfl⟩) ?_ ?_
            rotate_left
            ·simp only [Act.put,uA_,uB_,uC_,i64_w,i32_w]
             rfl
            refine pure_ (i := 15) (N := some 71) (v := undef) (a' := ?_) #[t_,t_,t_,t_,t_,t_,t_,t_,t_,t_,t_,t_,t_,t_,t_,t_,f_] rfl rfl (any_of HT_.out (by kernel_rfl)) (fun _ _ _ h => h) (Or.inr ⟨by rfl, rfl⟩) ?_ ?_
            rotate_left
            ·simp only [Act.put,uA_,uB_,uC_,i64_w,i32_w]
             rfl
            refine pure_ (i := 16) (N := some 72) (v := ?_) (a' := ?_) #[t_,t_,t_,t_,t_,t_,t_,t_,t_,t_,t_,t_,t_,t_,t_,t_,t_] rfl rfl (any_of HT_.out (by kernel_rfl)) (fun _ _ _ h => h) (Or.inl ⟨by rfl, ?_⟩) ?_ ?_
            rotate_left
            ·intro w'
             go_simp
             with_reducible rfl
            rotate_left
            ·simp only [Act.put,uA_,uB_,uC_,i64_w,i32_w]
             rfl
            refine done_ (done_of HT_.out (by kernel_rfl)) ?_
            try go_wp2
            go_ret
            exact ⟨by first | rfl | (simp [errW_none, errW_some] <;> rfl) | (simp [*, errW_none, errW_some] <;> rfl), by repeat (first | (with_reducible first | exact HB.out | apply bA_ | apply bB_ | apply bC_ | refine below_set ?_ GE416.out) | exact HB.out)⟩
          ·rw [if_neg c34] at H
           exact absurd H (by simp)
         ·rw [if_neg c33] at H
          have c33b0 : decide (x7_3 < (t418.length : Int)) = false := decide_eq_false c33
          clear c33
          replace H := Option.bind_eq_some_iff.mp H
          obtain ⟨t436, A520, H⟩ := H
          replace H : (w4_GraphOrder.l1 k3 t418 (t436 == 0) 0 a0_0 l0_1) = some r := H
          have A52 := aM_ A520
          clear A520
          have H' := aM_ H
          clear H
          obtain ⟨Ao53, co53, eo53⟩ := Kd.R_slice HO_5.out
          subst eo53
          have hcz54_0 : wr.cell? ⟨gb416, 0, none⟩ = some (.int .i64 a0_0) := (blk_cell BK416.out 0).trans rfl
          have hcz54_1 : wr.cell? ⟨gb416, 1, none⟩ = some (.slice A0_1 l0_1.length c0_1) := (blk_cell BK416.out 1).trans rfl
          have hfz54_0 := blk_frozen BK416.out 0
          have hfz54_1 := blk_frozen BK416.out 1
          go_wp2_with (first | ((with_reducible refine gate_callee (f := 38) rfl ?_); refine goesL_ (some 74) rfl rfl Tryd.func38 (by kernel_rfl) rfl #[.agg #[.int .i64 a0_0, .slice A0_1 l0_1.length c0_1]] rfl (by (try simp only [List.map_toArray, List.map_cons, List.map_nil]); first | done | rfl | (simp only [List.length_drop, List.length_take]; rfl)) ?_; (with_reducible refine (r4_Check.calls k3 a0_0 _ _ l0_1 t436 _ ?side1 ?side2 A52.out).mono ?_); (case side1 => repeat (first | exact (Kd.C_below HR0_1.out HB.out) | (with_reducible refine Kd.C_alloc ?_ _) | (with_reducible refine Kd.C_drewN ?_ _) | (with_reducible refine Kd.C_drew ?_))); (case side2 => exact HC0_1.out); rintro e w55 ⟨rfl, hb⟩; refine ⟨_, rfl, ?_⟩; have n0_ := aM_ (Kd.R_below (by (with_reducible repeat (first | apply rA_ | apply rB_ | apply rC_)); exact HO_5.out) hb); have n1_ := aM_ (Kd.R_below (by (with_reducible repeat (first | apply rA_ | apply rB_ | apply rC_)); exact HO_6.out) hb); have n2_ := aM_ (blk_below (g := gb416) (o := .cells #[.int .i64 a0_0, .slice A0_1 l0_1.length c0_1] 24 (0, 0)) (by (with_reducible repeat (first | refine blk_drewN ?_ _ | refine blk_drew ?_ | refine blk_alloc ?_ _)); exact BK416.out) hb); have n3_ := aM_ (below_step (by repeat (first | (with_reducible first | exact HB.out | apply bA_ | apply bB_ | apply bC_ | refine below_set ?_ GE416.out) | exact HB.out)) hb); clear HO_5; clear HO_6; clear BK416; clear HB; have HO_5 := n0_; have HO_6 := n1_; have BK416 := n2_; have HB := n3_; clear n0_ n1_ n2_ n3_; (try clear hb); (try clear hb2); (try clear hk); (try clear hi)))
          go_loopg [8, 9] k3 (fun kq v8 v9 w' => ∃ (x8_4 : Bool) (x9_4 : Int), v8 = .bool x8_4 ∧ v9 = .int .i64 x9_4 ∧ Aside0 (w4_GraphOrder.l1 kq t418 x8_4 x9_4 a0_0 l0_1 = some r) ∧ Aside0 (kq ≤ k3) ∧ Aside0 (Kd.R (Kd.int .i64) 3 w' w.heap.size (fun _ => True) (.slice Ao53 t418.length co53) t418) ∧ Aside0 (w'.heap[gb416]? = some (.cells #[.int .i64 a0_0, (.slice A0_1 l0_1.length c0_1)] 24 (0, 0))) ∧ Aside0 (Below w.heap.size w w'))
          case atStart => exact ⟨((t436 == 0)), (0), (by first | rfl | (simp; done) | (simp [*]; done)), (by first | rfl | (simp; done) | (simp [*]; done)), H', ⟨Nat.le_refl _⟩, ⟨by (with_reducible repeat (first | apply rA_ | apply rB_ | apply rC_)); exact Kd.R_mono HO_5.out (fun _ hk => trivial)⟩, ⟨by (with_reducible repeat (first | refine blk_drewN ?_ _ | refine blk_drew ?_ | refine blk_alloc ?_ _)); exact BK416.out⟩, ⟨by repeat (first | (with_reducible first | exact HB.out | apply bA_ | apply bB_ | apply bC_ | refine below_set ?_ GE416.out) | exact HB.out)⟩⟩
          case round =>
           clear H'
           try clear p2
           try clear c3
           try clear c4
           try clear p4
           try clear q4
           try clear hx4
           try clear p6
           try clear c33
           try clear c33b0
           try clear c34
           try clear c36
           try clear c38
           try clear c38b0
           try clear c38b1
           try clear c39
           try clear c40
           try clear p42
           try clear q42
           try clear hx42
           try clear p43
           try clear q43
           try clear hx43
           try clear q44
           try clear q48
           try clear hcz54_0
           try clear hcz54_1
           try clear hfz54_0
           try clear hfz54_1
           try clear hx428_0
           try clear hx434_0
           try clear p428
           try clear p434
           try clear q428
           try clear q434
           try clear q44
           try clear q48
           obtain ⟨x8_4, x9_4, rfl, rfl, HA, HK4, HO_5, BK416, HB⟩ := hrel
           cases gk with
           | zero => exact absurd HA.out (by simp [w4_GraphOrder.l1])
           | succ k4 =>
            have H := HA.out
            clear HA
            simp only [w4_GraphOrder.l1] at H
            by_cases c56 : x9_4 < (l0_1.length : Int)
            ·rw [if_pos c56] at H
             have c56b0 : decide (x9_4 < (l0_1.length : Int)) = true := decide_eq_true c56
             clear c56
             by_cases c57 : x8_4 = true
             ·subst c57
              have H1 : (if 0 ≤ x9_4 then (w4_GraphOrder.l1 k4 t418 (decide (((rd_T53 l0_1 x9_4).f1) < ((rd_T53 l0_1 x9_4).f0))) (wrap64 (x9_4 + 1)) a0_0 l0_1) else (none)) = some r := by rw [if_pos rfl] at H; exact H
              clear H
              have H := H1
              clear H1
              by_cases c58 : 0 ≤ x9_4
              ·rw [if_pos c58] at H
               have c58b0 : decide (0 ≤ x9_4) = true := decide_eq_true c58
               clear c58
               have H' := aM_ H
               clear H
               have hcz59_0 : wr.cell? ⟨gb416, 0, none⟩ = some (.int .i64 a0_0) := (blk_cell BK416.out 0).trans rfl
               have hcz59_1 : wr.cell? ⟨gb416, 1, none⟩ = some (.slice A0_1 l0_1.length c0_1) := (blk_cell BK416.out 1).trans rfl
               have hfz59_0 := blk_frozen BK416.out 0
               have hfz59_1 := blk_frozen BK416.out 1
               try go_wp2
               have n0_ := aM_ (Kd.R_drew HO_5.out)
               have n1_ := aM_ (blk_drew BK416.out)
               have n2_ := aM_ (below_drew1 HB.out)
               clear HO_5
               clear BK416
               clear HB
               have HO_5 := n0_
               have BK416 := n1_
               have HB := n2_
               clear n0_ n1_ n2_
               have p437 : 0 ≤ (x9_4 : Int) := of_decide_eq_true (by assumption)
               have q437 : x9_4 < (l0_1.length : Int) := of_decide_eq_true (by assumption)
               obtain ⟨ad437, e437, hx437_0, hx437_1⟩ := at_T53 HR0_1.out x9_4 p437 q437
               have hw437_1 := hx437_1
               have hw437_0 := hx437_0
               cases e437
               replace hx437_0 := (HB.out.cell (World.block_lt_of_cell? w _ hx437_0)).trans hx437_0
               replace hx437_1 := (HB.out.cell (World.block_lt_of_cell? w _ hx437_1)).trans hx437_1
               replace p437 := eq_true p437
               replace q437 := eq_true q437
               have p438 : 0 ≤ (x9_4 : Int) := of_decide_eq_true (by assumption)
               have q438 : x9_4 < (l0_1.length : Int) := of_decide_eq_true (by assumption)
               obtain ⟨ad438, e438, hx438_0, hx438_1⟩ := at_T53 HR0_1.out x9_4 p438 q438
               have hw438_1 := hx438_1
               have hw438_0 := hx438_0
               obtain rfl : ad437 = ad438 := (by injection e438)
               replace hx438_0 := (HB.out.cell (World.block_lt_of_cell? w _ hx438_0)).trans hx438_0
               replace hx438_1 := (HB.out.cell (World.block_lt_of_cell? w _ hx438_1)).trans hx438_1
               replace p438 := eq_true p438
               replace q438 := eq_true q438
               refine start_ (n := 17) (S := fun w' => w'.cell? ⟨gb416, 0, none⟩ = some (.int .i64 a0_0) ∧ w'.cell? ⟨gb416, 1, none⟩ = some (.slice (some ad437) l0_1.length c0_1) ∧ w'.cell? (ad437.add ((x9_4).toNat * 2)) = some (.int .i64 ((rd_T53 l0_1 x9_4).f0)) ∧ w'.cell? ⟨(ad437.add ((x9_4).toNat * 2)).block, (ad437.add ((x9_4).toNat * 2)).off + 1, none⟩ = some (.int .i64 ((rd_T53 l0_1 x9_4).f1)) ∧ w'.cell? (ad437.add ((x9_4).toNat * 2)) = some (.int .i64 ((rd_T53 l0_1 x9_4).f0)) ∧ w'.cell? ⟨(ad437.add ((x9_4).toNat * 2)).block, (ad437.add ((x9_4).toNat * 2)).off + 1, none⟩ = some (.int .i64 ((rd_T53 l0_1 x9_4).f1))) (ds := []) #[f_,f_,f_,f_,f_,f_,f_,f_,f_,f_,f_,f_,f_,f_,f_,f_,f_] (by kernel_rfl) rfl rfl ⟨(blk_cell BK416.out 0).trans rfl, (blk_cell BK416.out 1).trans rfl, ((HB.out.cell (World.block_lt_of_cell? w _ hw437_0)).trans hw437_0), ((HB.out.cell (World.block_lt_of_cell? w _ hw437_1)).trans hw437_1), ((HB.out.cell (World.block_lt_of_cell? w _ hw438_0)).trans hw438_0), ((HB.out.cell (World.block_lt_of_cell? w _ hw438_1)).trans hw438_1)⟩ (fun hHeld => ?_); refine with_tabW w4_GraphOrder.tab16 w4_GraphOrder.bits16 (fun HT_ HW_ => ?_)
               generalize wr.drew = w60 at HO_5 BK416 HB hx437_0 hx437_1 hx438_0 hx438_1 hHeld ⊢
               refine pure_ (i := 0) (N := some 83) (v := ?_) (a' := ?_) #[t_,f_,f_,f_,f_,f_,f_,f_,f_,f_,f_,f_,f_,f_,f_,f_,f_] rfl rfl (any_of HT_.out (by kernel_rfl)) (fun _ _ _ h => h) (Or.inl ⟨by rfl, ?_⟩) ?_ ?_
               rotate_left
               ·intro w'
                go_simp
                with_reducible rfl
               rotate_left
               ·simp only [Act.put,uA_,uB_,uC_,i64_w,i32_w]
                rfl
               refine pure_ (i := 1) (N := some 84) (v := ?_) (a' := ?_) #[t_,t_,f_,f_,f_,f_,f_,f_,f_,f_,f_,f_,f_,f_,f_,f_,f_] rfl rfl (any_of HT_.out (by kernel_rfl)) (fun _ _ _ h => h) (Or.inl ⟨by rfl, ?_⟩) ?_ ?_
               rotate_left
               ·intro w'
                go_simp
                with_reducible rfl
               rotate_left
               ·simp only [Act.put,uA_,uB_,uC_,i64_w,i32_w]
                rfl
               refine pure_ (i := 2) (N := some 85) (v := ?_) (a' := ?_) #[t_,t_,t_,f_,f_,f_,f_,f_,f_,f_,f_,f_,f_,f_,f_,f_,f_] rfl rfl (any_of HT_.out (by kernel_rfl)) (fun _ _ _ h => h) (Or.inl ⟨by rfl, ?_⟩) ?_ ?_
               rotate_left
               ·intro w'
                go_simp
                with_reducible rfl
               rotate_left
               ·simp only [Act.put,uA_,uB_,uC_,i64_w,i32_w]
                rfl
               refine pure_ (i := 4) (N := some 87) (v := ?_) (a' := ?_) #[t_,t_,t_,f_,t_,f_,f_,f_,f_,f_,f_,f_,f_,f_,f_,f_,f_] rfl rfl (any_of HT_.out (by kernel_rfl)) (fun _ _ _ h => h) (Or.inl ⟨by rfl, ?_⟩) ?_ ?_
               rotate_left
               ·intro w'
                go_simp
                with_reducible rfl
               rotate_left
               ·simp only [Act.put,uA_,uB_,uC_,i64_w,i32_w]
                rfl
               refine pure_ (i := 8) (N := some 91) (v := ?_) (a' := ?_) #[t_,t_,t_,f_,t_,f_,f_,f_,t_,f_,f_,f_,f_,f_,f_,f_,f_] rfl rfl (any_of HT_.out (by kernel_rfl)) (fun _ _ _ h => h) (Or.inl ⟨by rfl, ?_⟩) ?_ ?_
               rotate_left
               ·intro w'
                go_simp
                with_reducible rfl
               rotate_left
               ·simp only [Act.put,uA_,uB_,uC_,i64_w,i32_w]
                rfl
               refine pure_ (i := 10) (N := some 93) (v := ?_) (a' := ?_) #[t_,t_,t_,f_,t_,f_,f_,f_,t_,f_,t_,f_,f_,f_,f_,f_,f_] rfl rfl (any_of HT_.out (by kernel_rfl)) (fun _ _ _ h => h) (Or.inl ⟨by rfl, ?_⟩) ?_ ?_
               rotate_left
               ·intro w'
                go_simp
                with_reducible rfl
               rotate_left
               ·simp only [Act.put,uA_,uB_,uC_,i64_w,i32_w]
                rfl
               refine take_ (i := 3) (N := some 86) (v := ?_) (a' := ?_) #[t_,t_,t_,t_,t_,f_,f_,f_,t_,f_,t_,f_,f_,f_,f_,f_,f_] rfl rfl (take_ofW HT_.out HW_.out (by kernel_rfl)) (fun _ _ _ h => h) (Or.inl ⟨by rfl, ?_⟩) hHeld ?_ ?_
               rotate_left
               ·rintro w' ⟨s0, s1, s2, s3, s4, s5⟩
                go_simp
                with_reducible rfl
               rotate_left
               ·simp only [Act.put,uA_,uB_,uC_,i64_w,i32_w]
                rfl
               refine pure_ (i := 5) (N := some 88) (v := ?_) (a' := ?_) #[t_,t_,t_,t_,t_,t_,f_,f_,t_,f_,t_,f_,f_,f_,f_,f_,f_] rfl rfl (any_of HT_.out (by kernel_rfl)) (fun _ _ _ h => h) (Or.inl ⟨by rfl, ?_⟩) ?_ ?_
               rotate_left
               ·intro w'
                go_simp
                with_reducible rfl
               rotate_left
               ·simp only [Act.put,uA_,uB_,uC_,i64_w,i32_w]
                rfl
               refine pure_ (i := 6) (N := some 89) (v := ?_) (a' := ?_) #[t_,t_,t_,t_,t_,t_,t_,f_,t_,f_,t_,f_,f_,f_,f_,f_,f_] rfl rfl (any_of HT_.out (by kernel_rfl)) (fun _ _ _ h => h) (Or.inl ⟨by rfl, ?_⟩) ?_ ?_
               rotate_left
               ·intro w'
                go_simp
                with_reducible rfl
               rotate_left
               ·simp only [Act.put,uA_,uB_,uC_,i64_w,i32_w]
                rfl
               refine take_ (i := 7) (N := some 90) (v := ?_) (a' := ?_) #[t_,t_,t_,t_,t_,t_,t_,t_,t_,f_,t_,f_,f_,f_,f_,f_,f_] rfl rfl (take_ofW HT_.out HW_.out (by kernel_rfl)) (fun _ _ _ h => h) (Or.inl ⟨by rfl, ?_⟩) hHeld ?_ ?_
               rotate_left
               ·rintro w' ⟨s0, s1, s2, s3, s4, s5⟩
                go_simp
                with_reducible rfl
               rotate_left
               ·simp only [Act.put,uA_,uB_,uC_,i64_w,i32_w]
                rfl
               refine take_ (i := 9) (N := some 92) (v := ?_) (a' := ?_) #[t_,t_,t_,t_,t_,t_,t_,t_,t_,t_,t_,f_,f_,f_,f_,f_,f_] rfl rfl (take_ofW HT_.out HW_.out (by kernel_rfl)) (fun _ _ _ h => h) (Or.inl ⟨by rfl, ?_⟩) hHeld ?_ ?_
               rotate_left
               ·rintro w' ⟨s0, s1, s2, s3, s4, s5⟩
                go_simp
                with_reducible rfl
               rotate_left
               ·simp only [Act.put,uA_,uB_,uC_,i64_w,i32_w]
                rfl
               refine pure_ (i := 11) (N := some 94) (v := ?_) (a' := ?_) #[t_,t_,t_,t_,t_,t_,t_,t_,t_,t_,t_,t_,f_,f_,f_,f_,f_] rfl rfl (any_of HT_.out (by kernel_rfl)) (fun _ _ _ h => h) (Or.inl ⟨by rfl, ?_⟩) ?_ ?_
               rotate_left
               ·intro w'
                go_simp
                with_reducible rfl
               rotate_left
               ·simp only [Act.put,uA_,uB_,uC_,i64_w,i32_w]
                rfl
               refine pure_ (i := 12) (N := some 95) (v := ?_) (a' := ?_) #[t_,t_,t_,t_,t_,t_,t_,t_,t_,t_,t_,t_,t_,f_,f_,f_,f_] rfl rfl (any_of HT_.out (by kernel_rfl)) (fun _ _ _ h => h) (Or.inl ⟨by rfl, ?_⟩) ?_ ?_
               rotate_left
               ·intro w'
                go_simp
                with_reducible rfl
               rotate_left
               ·simp only [Act.put,uA_,uB_,uC_,i64_w,i32_w]
                rfl
               refine take_ (i := 13) (N := some 96) (v := ?_) (a' := ?_) #[t_,t_,t_,t_,t_,t_,t_,t_,t_,t_,t_,t_,t_,t_,f_,f_,f_] rfl rfl (take_ofW HT_.out HW_.out (by kernel_rfl)) (fun _ _ _ h => h) (Or.inl ⟨by rfl, ?_⟩) hHeld ?_ ?_
               rotate_left
               ·rintro w' ⟨s0, s1, s2, s3, s4, s5⟩
                go_simp
                with_reducible rfl
               rotate_left
               ·simp only [Act.put,uA_,uB_,uC_,i64_w,i32_w]
                rfl
               refine pure_ (i := 14) (N := some 97) (v := ?_) (a' := ?_) #[t_,t_,t_,t_,t_,t_,t_,t_,t_,t_,t_,t_,t_,t_,t_,f_,f_] rfl rfl (any_of HT_.out (by kernel_rfl)) (fun _ _ _ h => h) (Or.inl ⟨by rfl, ?_⟩) ?_ ?_
               rotate_left
               ·intro w'
                go_simp
                with_reducible rfl
               rotate_left
               ·simp only [Act.put,uA_,uB_,uC_,i64_w,i32_w]
                rfl
               refine pure_ (i := 15) (N := some 98) (v := ?_) (a' := ?_) #[t_,t_,t_,t_,t_,t_,t_,t_,t_,t_,t_,t_,t_,t_,t_,t_,f_] rfl rfl (any_of HT_.out (by kernel_rfl)) (fun _ _ _ h => h) (Or.inl ⟨by rfl, ?_⟩) ?_ ?_
               rotate_left
               ·intro w'
                go_simp
                with_reducible rfl
               rotate_left
               ·simp only [Act.put,uA_,uB_,uC_,i64_w,i32_w]
                rfl
               refine pure_ (i := 16) (N := some 8) (v := ?_) (a' := ?_) #[t_,t_,t_,t_,t_,t_,t_,t_,t_,t_,t_,t_,t_,t_,t_,t_,t_] rfl rfl (any_of HT_.out (by kernel_rfl)) (fun _ _ _ h => h) (Or.inl ⟨by rfl, ?_⟩) ?_ ?_
               rotate_left
               ·intro w'
                go_simp
                with_reducible rfl
               rotate_left
               ·simp only [Act.put,uA_,uB_,uC_,i64_w,i32_w]
                rfl
               refine done_ (done_of HT_.out (by kernel_rfl)) ?_
               try go_wp2
               go_roundg k4
               case measure => have := HJ2.out; have := HJ12.out; have := HK3.out; have := HK4.out; omega
               case rel => exact ⟨(decide (((rd_T53 l0_1 x9_4).f1) < ((rd_T53 l0_1 x9_4).f0))), (wrap64 (x9_4 + 1)), (by first | rfl | (simp; done) | (simp [*]; done)), (by first | rfl | (simp; done) | (simp [*]; done)), H', ⟨by have := HJ2.out; have := HJ12.out; have := HK3.out; have := HK4.out; omega⟩, ⟨by (with_reducible repeat (first | apply rA_ | apply rB_ | apply rC_)); exact HO_5.out⟩, ⟨by (with_reducible repeat (first | refine blk_drewN ?_ _ | refine blk_drew ?_ | refine blk_alloc ?_ _)); exact BK416.out⟩, ⟨by repeat (first | (with_reducible first | exact HB.out | apply bA_ | apply bB_ | apply bC_ | refine below_set ?_ GE416.out) | exact HB.out)⟩⟩
              ·rw [if_neg c58] at H
               exact absurd H (by simp)
             ·replace c57 := Bool.eq_false_iff.mpr c57
              subst c57
              have H1 : (w4_GraphOrder.l1 k4 t418 false (wrap64 (x9_4 + 1)) a0_0 l0_1) = some r := by rw [if_neg (show ¬ (false = true) by decide)] at H; exact H
              clear H
              have H := H1
              clear H1
              have H' := aM_ H
              clear H
              have hcz61_0 : wr.cell? ⟨gb416, 0, none⟩ = some (.int .i64 a0_0) := (blk_cell BK416.out 0).trans rfl
              have hcz61_1 : wr.cell? ⟨gb416, 1, none⟩ = some (.slice A0_1 l0_1.length c0_1) := (blk_cell BK416.out 1).trans rfl
              have hfz61_0 := blk_frozen BK416.out 0
              have hfz61_1 := blk_frozen BK416.out 1
              try go_wp2
              have n0_ := aM_ (Kd.R_drew HO_5.out)
              have n1_ := aM_ (blk_drew BK416.out)
              have n2_ := aM_ (below_drew1 HB.out)
              clear HO_5
              clear BK416
              clear HB
              have HO_5 := n0_
              have BK416 := n1_
              have HB := n2_
              clear n0_ n1_ n2_
              refine start_ (n := 17) (S := fun w' => True) (ds := []) #[f_,f_,f_,f_,f_,f_,f_,f_,f_,f_,f_,f_,f_,f_,f_,f_,f_] (by kernel_rfl) rfl rfl trivial (fun hHeld => ?_); refine with_tabW w4_GraphOrder.tab16 w4_GraphOrder.bits16 (fun HT_ HW_ => ?_)
              generalize wr.drew = w62 at HO_5 BK416 HB hHeld ⊢
              refine pure_ (i := 0) (N := some 83) (v := ?_) (a' := ?_) #[t_,f_,f_,f_,f_,f_,f_,f_,f_,f_,f_,f_,f_,f_,f_,f_,f_] rfl rfl (any_of HT_.out (by kernel_rfl)) (fun _ _ _ h => h) (Or.inl ⟨by rfl, ?_⟩) ?_ ?_
              rotate_left
              ·intro w'
               go_simp
               with_reducible rfl
              rotate_left
              ·simp only [Act.put,uA_,uB_,uC_,i64_w,i32_w]
               rfl
              refine pure_ (i := 1) (N := some 84) (v := ?_) (a' := ?_) #[t_,t_,f_,f_,f_,f_,f_,f_,f_,f_,f_,f_,f_,f_,f_,f_,f_] rfl rfl (any_of HT_.out (by kernel_rfl)) (fun _ _ _ h => h) (Or.inl ⟨by rfl, ?_⟩) ?_ ?_
              rotate_left
              ·intro w'
               go_simp
               with_reducible rfl
              rotate_left
              ·simp only [Act.put,uA_,uB_,uC_,i64_w,i32_w]
               rfl
              refine pure_ (i := 2) (N := some 85) (v := undef) (a' := ?_) #[t_,t_,t_,f_,f_,f_,f_,f_,f_,f_,f_,f_,f_,f_,f_,f_,f_] rfl rfl (any_of HT_.out (by kernel_rfl)) (fun _ _ _ h => h) (Or.inr ⟨by rfl, rfl⟩) ?_ ?_
              rotate_left
              ·simp only [Act.put,uA_,uB_,uC_,i64_w,i32_w]
               rfl
              refine pure_ (i := 3) (N := some 86) (v := undef) (a' := ?_) #[t_,t_,t_,t_,f_,f_,f_,f_,f_,f_,f_,f_,f_,f_,f_,f_,f_] rfl rfl (any_of HT_.out (by kernel_rfl)) (fun _ _ _ h => h) (Or.inr ⟨by rfl, rfl⟩) ?_ ?_
              rotate_left
              ·simp only [Act.put,uA_,uB_,uC_,i64_w,i32_w]
               rfl
              refine pure_ (i := 4) (N := some 87) (v := undef) (a' := ?_) #[t_,t_,t_,t_,t_,f_,f_,f_,f_,f_,f_,f_,f_,f_,f_,f_,f_] rfl rfl (any_of HT_.out (by kernel_rfl)) (fun _ _ _ h => h) (Or.inr ⟨by rfl, rfl⟩) ?_ ?_
              rotate_left
              ·simp only [Act.put,uA_,uB_,uC_,i64_w,i32_w]
               rfl
              refine pure_ (i := 5) (N := some 88) (v := undef) (a' := ?_) #[t_,t_,t_,t_,t_,t_,f_,f_,f_,f_,f_,f_,f_,f_,f_,f_,f_] rfl rfl (any_of HT_.out (by kernel_rfl)) (fun _ _ _ h => h) (Or.inr ⟨by rfl, rfl⟩) ?_ ?_
              rotate_left
              ·simp only [Act.put,uA_,uB_,uC_,i64_w,i32_w]
               rfl
              refine pure_ (i := 6) (N := some 89) (v := undef) (a' := ?_) #[t_,t_,t_,t_,t_,t_,t_,f_,f_,f_,f_,f_,f_,f_,f_,f_,f_] rfl rfl (any_of HT_.out (by kernel_rfl)) (fun _ _ _ h => h) (Or.inr ⟨by rfl, rfl⟩) ?_ ?_
              rotate_left
              ·simp only [Act.put,uA_,uB_,uC_,i64_w,i32_w]
               rfl
              refine pure_ (i := 7) (N := some 90) (v := undef) (a' := ?_) #[t_,t_,t_,t_,t_,t_,t_,t_,f_,f_,f_,f_,f_,f_,f_,f_,f_] rfl rfl (any_of HT_.out (by kernel_rfl)) (fun _ _ _ h => h) (Or.inr ⟨by rfl, rfl⟩) ?_ ?_
              rotate_left
              ·simp only [Act.put,uA_,uB_,uC_,i64_w,i32_w]
               rfl
              refine pure_ (i := 8) (N := some 91) (v := undef) (a' := ?_) #[t_,t_,t_,t_,t_,t_,t_,t_,t_,f_,f_,f_,f_,f_,f_,f_,f_] rfl rfl (any_of HT_.out (by kernel_rfl)) (fun _ _ _ h => h) (Or.inr ⟨by rfl, rfl⟩) ?_ ?_
              rotate_left
              ·simp only [Act.put,uA_,uB_,uC_,i64_w,i32_w]
               rfl
              refine pure_ (i := 9) (N := some 92) (v := undef) (a' := ?_) #[t_,t_,t_,t_,t_,t_,t_,t_,t_,t_,f_,f_,f_,f_,f_,f_,f_] rfl rfl (any_of HT_.out (by kernel_rfl)) (fun _ _ _ h => h) (Or.inr ⟨by rfl, rfl⟩) ?_ ?_
              rotate_left
              ·simp only [Act.put,uA_,uB_,uC_,i64_w,i32_w]
               rfl
              refine pure_ (i := 10) (N := some 93) (v := undef) (a' := ?_) #[t_,t_,t_,t_,t_,t_,t_,t_,t_,t_,t_,f_,f_,f_,f_,f_,f_] rfl rfl (any_of HT_.out (by kernel_rfl)) (fun _ _ _ h => h) (Or.inr ⟨by rfl, rfl⟩) ?_ ?_
              rotate_left
              ·simp only [Act.put,uA_,uB_,uC_,i64_w,i32_w]
               rfl
              refine pure_ (i := 11) (N := some 94) (v := undef) (a' := ?_) #[t_,t_,t_,t_,t_,t_,t_,t_,t_,t_,t_,t_,f_,f_,f_,f_,f_] rfl rfl (any_of HT_.out (by kernel_rfl)) (fun _ _ _ h => h) (Or.inr ⟨by rfl, rfl⟩) ?_ ?_
              rotate_left
              ·simp only [Act.put,uA_,uB_,uC_,i64_w,i32_w]
               rfl
              refine pure_ (i := 12) (N := some 95) (v := undef) (a' := ?_) #[t_,t_,t_,t_,t_,t_,t_,t_,t_,t_,t_,t_,t_,f_,f_,f_,f_] rfl rfl (any_of HT_.out (by kernel_rfl)) (fun _ _ _ h => h) (Or.inr ⟨by rfl, rfl⟩) ?_ ?_
              rotate_left
              ·simp only [Act.put,uA_,uB_,uC_,i64_w,i32_w]
               rfl
              refine pure_ (i := 13) (N := some 96) (v := undef) (a' := ?_) #[t_,t_,t_,t_,t_,t_,t_,t_,t_,t_,t_,t_,t_,t_,f_,f_,f_] rfl rfl (any_of HT_.out (by kernel_rfl)) (fun _ _ _ h => h) (Or.inr ⟨by rfl, rfl⟩) ?_ ?_
              rotate_left
              ·simp only [Act.put,uA_,uB_,uC_,i64_w,i32_w]
               rfl
              refine pure_ (i := 14) (N := some 97) (v := undef) (a' := ?_) #[t_,t_,t_,t_,t_,t_,t_,t_,t_,t_,t_,t_,t_,t_,t_,f_,f_] rfl rfl (any_of HT_.out (by kernel_rfl)) (fun _ _ _ h => h) (Or.inr ⟨by rfl, rfl⟩) ?_ ?_
              rotate_left
              ·simp only [Act.put,uA_,uB_,uC_,i64_w,i32_w]
               rfl
              refine pure_ (i := 15) (N := some 98) (v := ?_) (a' := ?_) #[t_,t_,t_,t_,t_,t_,t_,t_,t_,t_,t_,t_,t_,t_,t_,t_,f_] rfl rfl (any_of HT_.out (by kernel_rfl)) (fun _ _ _ h => h) (Or.inl ⟨by rfl, ?_⟩) ?_ ?_
              rotate_left
              ·intro w'
               go_simp
               with_reducible rfl
              rotate_left
              ·simp only [Act.put,uA_,uB_,uC_,i64_w,i32_w]
               rfl
              refine pure_ (i := 16) (N := some 8) (v := ?_) (a' := ?_) #[t_,t_,t_,t_,t_,t_,t_,t_,t_,t_,t_,t_,t_,t_,t_,t_,t_] rfl rfl (any_of HT_.out (by kernel_rfl)) (fun _ _ _ h => h) (Or.inl ⟨by rfl, ?_⟩) ?_ ?_
              rotate_left
              ·intro w'
               go_simp
               with_reducible rfl
              rotate_left
              ·simp only [Act.put,uA_,uB_,uC_,i64_w,i32_w]
               rfl
              refine done_ (done_of HT_.out (by kernel_rfl)) ?_
              try go_wp2
              go_roundg k4
              case measure => have := HJ2.out; have := HJ12.out; have := HK3.out; have := HK4.out; omega
              case rel => exact ⟨(false), (wrap64 (x9_4 + 1)), (by first | rfl | (simp; done) | (simp [*]; done)), (by first | rfl | (simp; done) | (simp [*]; done)), H', ⟨by have := HJ2.out; have := HJ12.out; have := HK3.out; have := HK4.out; omega⟩, ⟨by (with_reducible repeat (first | apply rA_ | apply rB_ | apply rC_)); exact HO_5.out⟩, ⟨by (with_reducible repeat (first | refine blk_drewN ?_ _ | refine blk_drew ?_ | refine blk_alloc ?_ _)); exact BK416.out⟩, ⟨by repeat (first | (with_reducible first | exact HB.out | apply bA_ | apply bB_ | apply bC_ | refine below_set ?_ GE416.out) | exact HB.out)⟩⟩
            ·rw [if_neg c56] at H
             have c56b0 : decide (x9_4 < (l0_1.length : Int)) = false := decide_eq_false c56
             clear c56
             have H' := aM_ H
             clear H
             have hcz63_0 : wr.cell? ⟨gb416, 0, none⟩ = some (.int .i64 a0_0) := (blk_cell BK416.out 0).trans rfl
             have hcz63_1 : wr.cell? ⟨gb416, 1, none⟩ = some (.slice A0_1 l0_1.length c0_1) := (blk_cell BK416.out 1).trans rfl
             have hfz63_0 := blk_frozen BK416.out 0
             have hfz63_1 := blk_frozen BK416.out 1
             go_wp2
             go_loopg [10] k4 (fun kq v10 w' => ∃ (x10_5 : Int), v10 = .int .i64 x10_5 ∧ Aside0 (w4_GraphOrder.l2 kq t418 x8_4 x10_5 a0_0 l0_1 = some r) ∧ Aside0 (kq ≤ k4) ∧ Aside0 (Kd.R (Kd.int .i64) 3 w' w.heap.size (fun _ => True) (.slice Ao53 t418.length co53) t418) ∧ Aside0 (w'.heap[gb416]? = some (.cells #[.int .i64 a0_0, (.slice A0_1 l0_1.length c0_1)] 24 (0, 0))) ∧ Aside0 (Below w.heap.size w w'))
             case atStart => exact ⟨(0), (by first | rfl | (simp; done) | (simp [*]; done)), H', ⟨Nat.le_refl _⟩, ⟨by (with_reducible repeat (first | apply rA_ | apply rB_ | apply rC_)); exact HO_5.out⟩, ⟨by (with_reducible repeat (first | refine blk_drewN ?_ _ | refine blk_drew ?_ | refine blk_alloc ?_ _)); exact BK416.out⟩, ⟨by repeat (first | (with_reducible first | exact HB.out | apply bA_ | apply bB_ | apply bC_ | refine below_set ?_ GE416.out) | exact HB.out)⟩⟩
             case round =>
              clear H'
              try clear p2
              try clear c3
              try clear c4
              try clear p4
              try clear q4
              try clear hx4
              try clear c5
              try clear p6
              try clear c33
              try clear c33b0
              try clear c34
              try clear c36
              try clear c38
              try clear c38b0
              try clear c38b1
              try clear c39
              try clear c40
              try clear p42
              try clear q42
              try clear hx42
              try clear p43
              try clear q43
              try clear hx43
              try clear q44
              try clear q48
              try clear c56
              try clear c56b0
              try clear c57
              try clear c58
              try clear c58b0
              try clear hcz54_0
              try clear hcz54_1
              try clear hcz59_0
              try clear hcz59_1
              try clear hcz61_0
              try clear hcz61_1
              try clear hcz63_0
              try clear hcz63_1
              try clear hfz54_0
              try clear hfz54_1
              try clear hfz59_0
              try clear hfz59_1
              try clear hfz61_0
              try clear hfz61_1
              try clear hfz63_0
              try clear hfz63_1
              try clear hx428_0
              try clear hx434_0
              try clear hx437_0
              try clear hx437_1
              try clear hx438_0
              try clear hx438_1
              try clear p2
              try clear p4
              try clear p42
              try clear p428
              try clear p43
              try clear p434
              try clear p437
              try clear p438
              try clear p6
              try clear q4
              try clear q42
              try clear q428
              try clear q43
              try clear q434
              try clear q437
              try clear q438
              try clear q44
              try clear q48
              obtain ⟨x10_5, rfl, HA, HK5, HO_5, BK416, HB⟩ := hrel
              cases gk with
              | zero => exact absurd HA.out (by simp [w4_GraphOrder.l2])
              | succ k5 =>
               have H := HA.out
               clear HA
               simp only [w4_GraphOrder.l2] at H
               have HC64 := aM_ H
               clear H
               go_upto_region 18 with (fail)
               go_cut [105] (fun v105 wc => ∃ (kq : Nat) (x105_63 : Bool), v105 = .bool x105_63 ∧ Aside0 (w4_GraphOrder.j5 kq t418 x8_4 x10_5 x105_63 a0_0 l0_1 = some r) ∧ Aside0 (kq ≤ k5) ∧ Aside0 (Kd.R (Kd.int .i64) 3 wc w.heap.size (fun _ => True) (.slice Ao53 t418.length co53) t418) ∧ Aside0 (wc.heap[gb416]? = some (.cells #[.int .i64 a0_0, (.slice A0_1 l0_1.length c0_1)] 24 (0, 0))) ∧ Aside0 (Below w.heap.size w wc))
               case first =>
                have H := HC64.out
                clear HC64
                by_cases c65 : x10_5 < (t418.length : Int)
                ·rw [if_pos c65] at H
                 have c65b0 : decide (x10_5 < (t418.length : Int)) = true := decide_eq_true c65
                 clear c65
                 (first | rw [c65b0] | (simp only [i64_w, i32_w]; rw [c65b0]) | skip)
                 have H' := aM_ H
                 clear H
                 go_wp2
                 go_meet
                 case rel => exact ⟨_, (x8_4), (by first | rfl | (simp; done) | (simp [*]; done)), H', ⟨by have := HJ2.out; have := HJ12.out; have := HK3.out; have := HK4.out; have := HK5.out; first | omega | exact Nat.le_refl _⟩, ⟨by (with_reducible repeat (first | apply rA_ | apply rB_ | apply rC_)); exact HO_5.out⟩, ⟨by (with_reducible repeat (first | refine blk_drewN ?_ _ | refine blk_drew ?_ | refine blk_alloc ?_ _)); exact BK416.out⟩, ⟨by repeat (first | (with_reducible first | exact HB.out | apply bA_ | apply bB_ | apply bC_ | refine below_set ?_ GE416.out) | exact HB.out)⟩⟩
                ·rw [if_neg c65] at H
                 have c65b0 : decide (x10_5 < (t418.length : Int)) = false := decide_eq_false c65
                 clear c65
                 (first | rw [c65b0] | (simp only [i64_w, i32_w]; rw [c65b0]) | skip)
                 have H' := aM_ H
                 clear H
                 go_wp2
                 go_meet
                 case rel => exact ⟨_, (false), (by first | rfl | (simp; done) | (simp [*]; done)), H', ⟨by have := HJ2.out; have := HJ12.out; have := HK3.out; have := HK4.out; have := HK5.out; first | omega | exact Nat.le_refl _⟩, ⟨by (with_reducible repeat (first | apply rA_ | apply rB_ | apply rC_)); exact HO_5.out⟩, ⟨by (with_reducible repeat (first | refine blk_drewN ?_ _ | refine blk_drew ?_ | refine blk_alloc ?_ _)); exact BK416.out⟩, ⟨by repeat (first | (with_reducible first | exact HB.out | apply bA_ | apply bB_ | apply bC_ | refine below_set ?_ GE416.out) | exact HB.out)⟩⟩
               case rest =>
                clear HC64
                try clear p2
                try clear c3
                try clear c4
                try clear p4
                try clear q4
                try clear hx4
                try clear c5
                try clear c6
                try clear p6
                try clear c33
                try clear c33b0
                try clear c34
                try clear c36
                try clear c38
                try clear c38b0
                try clear c38b1
                try clear c39
                try clear c40
                try clear p42
                try clear q42
                try clear hx42
                try clear p43
                try clear q43
                try clear hx43
                try clear q44
                try clear q48
                try clear c56
                try clear c56b0
                try clear c57
                try clear c58
                try clear c58b0
                try clear p64
                try clear c65
                try clear c65b0
                try clear hcz54_0
                try clear hcz54_1
                try clear hcz59_0
                try clear hcz59_1
                try clear hcz61_0
                try clear hcz61_1
                try clear hcz63_0
                try clear hcz63_1
                try clear hfz54_0
                try clear hfz54_1
                try clear hfz59_0
                try clear hfz59_1
                try clear hfz61_0
                try clear hfz61_1
                try clear hfz63_0
                try clear hfz63_1
                try clear hx428_0
                try clear hx434_0
                try clear hx437_0
                try clear hx437_1
                try clear hx438_0
                try clear hx438_1
                try clear p2
                try clear p4
                try clear p42
                try clear p428
                try clear p43
                try clear p434
                try clear p437
                try clear p438
                try clear p6
                try clear q4
                try clear q42
                try clear q428
                try clear q43
                try clear q434
                try clear q437
                try clear q438
                try clear q44
                try clear q48
                obtain ⟨kq, x105_63, rfl, HA, HJ63, HO_5, BK416, HB⟩ := hcut
                cases kq with
                | zero => exact absurd HA.out (by simp [w4_GraphOrder.j5])
                | succ kj63 =>
                 have H := HA.out
                 clear HA
                 simp only [w4_GraphOrder.j5] at H
                 by_cases c66 : x105_63 = true
                 ·subst c66
                  have H1 : (if 0 ≤ x10_5 then (if x10_5 < (t418.length : Int) then ((r4_Succ.f kj63 a0_0 l0_1 (rd t418 x10_5)).bind fun t441 => (w4_GraphOrder.l3 kj63 t418 x8_4 x10_5 t441 0 a0_0 l0_1)) else (none)) else (none)) = some r := by rw [if_pos rfl] at H; exact H
                  clear H
                  have H := H1
                  clear H1
                  by_cases c67 : 0 ≤ x10_5
                  ·rw [if_pos c67] at H
                   have c67b0 : decide (0 ≤ x10_5) = true := decide_eq_true c67
                   clear c67
                   by_cases c68 : x10_5 < (t418.length : Int)
                   ·rw [if_pos c68] at H
                    have c68b0 : decide (x10_5 < (t418.length : Int)) = true := decide_eq_true c68
                    clear c68
                    replace H := Option.bind_eq_some_iff.mp H
                    obtain ⟨t441, A690, H⟩ := H
                    replace H : (w4_GraphOrder.l3 kj63 t418 x8_4 x10_5 t441 0 a0_0 l0_1) = some r := H
                    have A69 := aM_ A690
                    clear A690
                    have H' := aM_ H
                    clear H
                    try go_wp2
                    have n0_ := aM_ (Kd.R_drew HO_5.out)
                    have n1_ := aM_ (blk_drew BK416.out)
                    have n2_ := aM_ (below_drew1 HB.out)
                    clear HO_5
                    clear BK416
                    clear HB
                    have HO_5 := n0_
                    have BK416 := n1_
                    have HB := n2_
                    clear n0_ n1_ n2_
                    have p440 : 0 ≤ (x10_5 : Int) := of_decide_eq_true (by assumption)
                    have q440 : x10_5 < (t418.length : Int) := of_decide_eq_true (by assumption)
                    obtain ⟨ad440, e440, hx440_0⟩ := Kd.at_int (Kd.R_reads' HO_5.out).2.2 x10_5 p440 q440
                    cases e440
                    replace p440 := eq_true p440
                    replace q440 := eq_true q440
                    refine start_ (n := 7) (S := fun w' => w'.cell? ⟨gb416, 0, none⟩ = some (.int .i64 a0_0) ∧ w'.cell? ⟨gb416, 1, none⟩ = some (.slice A0_1 l0_1.length c0_1) ∧ w'.cell? (ad440.add (x10_5).toNat) = some (.int .i64 (rd t418 x10_5))) (ds := []) #[f_,f_,f_,f_,f_,f_,f_] (by kernel_rfl) rfl rfl ⟨(blk_cell BK416.out 0).trans rfl, (blk_cell BK416.out 1).trans rfl, hx440_0⟩ (fun hHeld => ?_)
                    generalize wc.drew = w70 at HO_5 BK416 HB hx440_0 hHeld ⊢
                    refine pure_ (i := 1) (N := some 109) (v := ?_) (a' := ?_) #[f_,t_,f_,f_,f_,f_,f_] rfl rfl (by kernel_rfl) (fun _ _ _ h => h) (Or.inl ⟨by rfl, ?_⟩) ?_ ?_
                    rotate_left
                    ·intro w'
                     go_simp
                     with_reducible rfl
                    rotate_left
                    ·simp only [Act.put,uA_,uB_,uC_,i64_w,i32_w]
                     rfl
                    refine pure_ (i := 2) (N := some 110) (v := ?_) (a' := ?_) #[f_,t_,t_,f_,f_,f_,f_] rfl rfl (by kernel_rfl) (fun _ _ _ h => h) (Or.inl ⟨by rfl, ?_⟩) ?_ ?_
                    rotate_left
                    ·intro w'
                     go_simp
                     with_reducible rfl
                    rotate_left
                    ·simp only [Act.put,uA_,uB_,uC_,i64_w,i32_w]
                     rfl
                    refine pure_ (i := 3) (N := some 111) (v := ?_) (a' := ?_) #[f_,t_,t_,t_,f_,f_,f_] rfl rfl (by kernel_rfl) (fun _ _ _ h => h) (Or.inl ⟨by rfl, ?_⟩) ?_ ?_
                    rotate_left
                    ·intro w'
                     go_simp
                     with_reducible rfl
                    rotate_left
                    ·simp only [Act.put,uA_,uB_,uC_,i64_w,i32_w]
                     rfl
                    refine take_ (i := 0) (N := some 108) (v := ?_) (a' := ?_) #[t_,t_,t_,t_,f_,f_,f_] rfl rfl (by kernel_rfl) (fun _ _ _ h => h) (Or.inl ⟨by rfl, ?_⟩) hHeld ?_ ?_
                    rotate_left
                    ·rintro w' ⟨s0, s1, s2⟩
                     go_simp
                     with_reducible rfl
                    rotate_left
                    ·simp only [Act.put,uA_,uB_,uC_,i64_w,i32_w]
                     rfl
                    refine take_ (i := 4) (N := some 112) (v := ?_) (a' := ?_) #[t_,t_,t_,t_,t_,f_,f_] rfl rfl (by kernel_rfl) (fun _ _ _ h => h) (Or.inl ⟨by rfl, ?_⟩) hHeld ?_ ?_
                    rotate_left
                    ·rintro w' ⟨s0, s1, s2⟩
                     go_simp
                     with_reducible rfl
                    rotate_left
                    ·simp only [Act.put,uA_,uB_,uC_,i64_w,i32_w]
                     rfl
                    refine one_ (i := 5) (N := some 113) #[t_,t_,t_,t_,t_,t_,f_] rfl rfl (by kernel_rfl) (by decide) (fun K hK => ?_)
                    refine goes_ Tryd.func21 (by kernel_rfl) rfl #[.agg #[.int .i64 a0_0, .slice A0_1 l0_1.length c0_1], .int .i64 (rd t418 x10_5)] (by rfl) rfl rfl (by (try simp only [List.map_toArray, List.map_cons, List.map_nil]); first | done | rfl | (simp only [List.length_drop, List.length_take]; rfl)) ?_
                    with_reducible refine (r4_Succ.calls kj63 a0_0 _ _ l0_1 (rd t418 x10_5) t441 _ ?side1 ?side2 A69.out).mono ?_
                    (case side1 => repeat (first | exact (Kd.C_below HR0_1.out HB.out) | (with_reducible refine Kd.C_alloc ?_ _) | (with_reducible refine Kd.C_drewN ?_ _) | (with_reducible refine Kd.C_drew ?_)))
                    (case side2 => exact HC0_1.out)
                    rintro e w71 ⟨v442, rfl, ho0, hb⟩
                    have HS2_ := (hb.cell (World.block_lt_of_cell? _ _ (hHeld.2.2))).trans (hHeld.2.2)
                    refine ⟨_, rfl, ?_⟩
                    have n0_ := aM_ (Kd.R_elder' (by (with_reducible repeat (first | apply rA_ | apply rB_ | apply rC_)); exact HO_5.out) (Kd.R_base ho0) hb)
                    have n1_ := aM_ (Kd.R_lower (Kd.R_new' ho0 (Kd.R_lt (by (with_reducible repeat (first | apply rA_ | apply rB_ | apply rC_)); exact HO_5.out))) (below_size (by repeat (first | (with_reducible first | exact HB.out | apply bA_ | apply bB_ | apply bC_ | refine below_set ?_ GE416.out) | exact HB.out))))
                    have n2_ := aM_ (blk_below (g := gb416) (o := .cells #[.int .i64 a0_0, .slice A0_1 l0_1.length c0_1] 24 (0, 0)) (by (with_reducible repeat (first | refine blk_drewN ?_ _ | refine blk_drew ?_ | refine blk_alloc ?_ _)); exact BK416.out) hb)
                    have n3_ := aM_ (below_step (by repeat (first | (with_reducible first | exact HB.out | apply bA_ | apply bB_ | apply bC_ | refine below_set ?_ GE416.out) | exact HB.out)) hb)
                    clear HO_5
                    clear BK416
                    clear HB
                    have HO_5 := n0_
                    have HO443 := n1_
                    have BK416 := n2_
                    have HB := n3_
                    clear n0_ n1_ n2_ n3_
                    (try clear hb)
                    (try clear hb2)
                    (try clear hk)
                    (try clear hi)
                    (try clear ho0)
                    refine hK.out _ _ ⟨(blk_cell BK416.out 0).trans rfl, (blk_cell BK416.out 1).trans rfl, HS2_⟩ (fun hHeld => ?_)
                    clear hK K
                    refine norm_ (a' := ?_) ?_ ?_
                    rotate_left
                    ·show Act.put _ (some 113) _ = _
                     simp only [Act.put,uA_,uB_,uC_,i64_w,i32_w]
                     rfl
                    refine pure_ (i := 6) (N := some 11) (v := ?_) (a' := ?_) #[t_,t_,t_,t_,t_,t_,t_] rfl rfl (by kernel_rfl) (fun _ _ _ h => h) (Or.inl ⟨by rfl, ?_⟩) ?_ ?_
                    rotate_left
                    ·intro w'
                     go_simp
                     with_reducible rfl
                    rotate_left
                    ·simp only [Act.put,uA_,uB_,uC_,i64_w,i32_w]
                     rfl
                    refine done_ (by kernel_rfl) ?_
                    try go_wp2
                    go_loopg [12] kj63 (fun kq v12 w' => ∃ (x12_7 : Int), v12 = .int .i64 x12_7 ∧ Aside0 (w4_GraphOrder.l3 kq t418 x8_4 x10_5 t441 x12_7 a0_0 l0_1 = some r) ∧ Aside0 (kq ≤ kj63) ∧ Aside0 (Kd.R (Kd.int .i64) 3 w' w.heap.size (fun k_ => some k_ ≠ (v442 : Value).ownBlock) (.slice (some ad440) t418.length co53) t418) ∧ Aside0 (Kd.R (Kd.int .i64) 3 w' w.heap.size (fun k_ => some k_ ≠ ((.slice (some ad440) t418.length co53) : Value).ownBlock) v442 t441) ∧ Aside0 (w'.heap[gb416]? = some (.cells #[.int .i64 a0_0, (.slice A0_1 l0_1.length c0_1)] 24 (0, 0))) ∧ Aside0 (Below w.heap.size w w'))
                    case atStart => exact ⟨(0), (by first | rfl | (simp; done) | (simp [*]; done)), H', ⟨Nat.le_refl _⟩, ⟨by (with_reducible repeat (first | apply rA_ | apply rB_ | apply rC_)); exact Kd.R_mono HO_5.out (fun _ hk => hk.2)⟩, ⟨by (with_reducible repeat (first | apply rA_ | apply rB_ | apply rC_)); exact Kd.R_mono HO443.out (fun _ hk => hk.2)⟩, ⟨by (with_reducible repeat (first | refine blk_drewN ?_ _ | refine blk_drew ?_ | refine blk_alloc ?_ _)); exact BK416.out⟩, ⟨by repeat (first | (with_reducible first | exact HB.out | apply bA_ | apply bB_ | apply bC_ | refine below_set ?_ GE416.out) | exact HB.out)⟩⟩
                    case round =>
                     clear H'
                     try clear c2
                     try clear p2
                     try clear c3
                     try clear c4
                     try clear p4
                     try clear q4
                     try clear hx4
                     try clear c5
                     try clear c6
                     try clear p6
                     try clear c21
                     try clear c33
                     try clear c33b0
                     try clear c34
                     try clear c36
                     try clear c38
                     try clear c38b0
                     try clear c38b1
                     try clear c39
                     try clear c40
                     try clear p42
                     try clear q42
                     try clear hx42
                     try clear p43
                     try clear q43
                     try clear hx43
                     try clear p44
                     try clear q44
                     try clear hx44
                     try clear q48
                     try clear c56
                     try clear c56b0
                     try clear c57
                     try clear c58
                     try clear c58b0
                     try clear p64
                     try clear c65
                     try clear c65b0
                     try clear c66
                     try clear c67
                     try clear c67b0
                     try clear c68
                     try clear c68b0
                     try clear hcz54_0
                     try clear hcz54_1
                     try clear hcz59_0
                     try clear hcz59_1
                     try clear hcz61_0
                     try clear hcz61_1
                     try clear hcz63_0
                     try clear hcz63_1
                     try clear hfz54_0
                     try clear hfz54_1
                     try clear hfz59_0
                     try clear hfz59_1
                     try clear hfz61_0
                     try clear hfz61_1
                     try clear hfz63_0
                     try clear hfz63_1
                     try clear hx428_0
                     try clear hx434_0
                     try clear hx437_0
                     try clear hx437_1
                     try clear hx438_0
                     try clear hx438_1
                     try clear hx440_0
                     try clear p2
                     try clear p4
                     try clear p42
                     try clear p428
                     try clear p43
                     try clear p434
                     try clear p437
                     try clear p438
                     try clear p440
                     try clear p6
                     try clear p64
                     try clear q4
                     try clear q42
                     try clear q428
                     try clear q43
                     try clear q434
                     try clear q437
                     try clear q438
                     try clear q44
                     try clear q440
                     try clear q48
                     obtain ⟨x12_7, rfl, HA, HK7, HO_5, HO_11, BK416, HB⟩ := hrel
                     cases gk with
                     | zero => exact absurd HA.out (by simp [w4_GraphOrder.l3])
                     | succ k7 =>
                      have H := HA.out
                      clear HA
                      simp only [w4_GraphOrder.l3] at H
                      by_cases c72 : x12_7 < (t441.length : Int)
                      ·rw [if_pos c72] at H
                       have c72b0 : decide (x12_7 < (t441.length : Int)) = true := decide_eq_true c72
                       clear c72
                       by_cases c73 : 0 ≤ x10_5
                       ·rw [if_pos c73] at H
                        have c73b0 := eq_true c73
                        have c73b1 : decide (0 ≤ x10_5) = true := decide_eq_true c73
                        clear c73
                        by_cases c74 : x10_5 ≤ (t418.length : Int)
                        ·rw [if_pos c74] at H
                         have c74b0 := eq_true c74
                         have c74b1 : decide (x10_5 ≤ (t418.length : Int)) = true := decide_eq_true c74
                         clear c74
                         obtain ⟨y444, hy444⟩ : ∃ y_ : List Int, y_ = (t418.take (x10_5 : Int).toNat) := ⟨_, rfl⟩
                         replace H : (if 0 ≤ x12_7 then ((w4_in.f k7 y444 (rd t441 x12_7)).bind fun t449 => (if t449 = true then (w4_GraphOrder.l3 k7 t418 x8_4 x10_5 t441 (wrap64 (x12_7 + 1)) a0_0 l0_1) else (some false))) else (none)) = some r := by first | (rw [hy444]; with_reducible exact H) | (have H2_ := (Option.bind_some _ _).symm.trans H; rw [hy444]; with_reducible exact H2_) | (have H2_ := (Option.bind_some _ _).symm.trans H; with_reducible exact H2_) | with_reducible exact H | (rw [hy444]; exact H) | exact H
                         have Ny444 := aM_ hy444
                         clear hy444
                         by_cases c75 : 0 ≤ x12_7
                         ·rw [if_pos c75] at H
                          have c75b0 : decide (0 ≤ x12_7) = true := decide_eq_true c75
                          clear c75
                          replace H := Option.bind_eq_some_iff.mp H
                          obtain ⟨t449, A760, H⟩ := H
                          replace H : (if t449 = true then (w4_GraphOrder.l3 k7 t418 x8_4 x10_5 t441 (wrap64 (x12_7 + 1)) a0_0 l0_1) else (some false)) = some r := H
                          have A76 := aM_ A760
                          clear A760
                          by_cases c77 : t449 = true
                          ·subst c77
                           have H1 : (w4_GraphOrder.l3 k7 t418 x8_4 x10_5 t441 (wrap64 (x12_7 + 1)) a0_0 l0_1) = some r := by rw [if_pos rfl] at H; exact H
                           clear H
                           have H := H1
                           clear H1
                           have H' := aM_ H
                           clear H
                           obtain ⟨Ao78, co78, eo78⟩ := Kd.R_slice HO_11.out
                           subst eo78
                           try go_wp2
                           have n0_ := aM_ (Kd.R_drew HO_5.out)
                           have n1_ := aM_ (Kd.R_drew HO_11.out)
                           have n2_ := aM_ (blk_drew BK416.out)
                           have n3_ := aM_ (below_drew1 HB.out)
                           clear HO_5
                           clear HO_11
                           clear BK416
                           clear HB
                           have HO_5 := n0_
                           have HO_11 := n1_
                           have BK416 := n2_
                           have HB := n3_
                           clear n0_ n1_ n2_ n3_
                           have q80 : (x10_5 : Int) ≤ ((t418.length : Int) : Int) := of_decide_eq_true (by assumption)
                           obtain ⟨i080, hi080, _, hsz80, _⟩ := info_parts info3
                           have hroom80 : t418.length ≤ co53 := (Kd.R_reads' HO_5.out).2.1
                           have hC80 : Kd.C (Kd.int .i64) _ (some ad440) t418.length t418 := (Kd.R_reads' HO_5.out).2.2
                           have hcut80 := cut_to (P := Tryd.prog) 31 3 .i64 Tryd.underlying31 hi080 (some ad440) t418.length co53 x10_5 (of_decide_eq_true (by assumption)) q80 hroom80
                           have hr80 := Kd.C_take (m := (x10_5 : Int).toNat) hC80 (by omega)
                           have hy80 : y444.length = (x10_5 : Int).toNat := (by rw [Ny444.out, List.length_take]; omega)
                           rw [← Ny444.out] at hr80
                           rw [← hy80] at hcut80
                           have HR447 := aM_ hr80
                           have HC447 := aM_ (show y444.length ≤ co53 from by omega)
                           clear hr80 hC80 hroom80 hi080 hsz80
                           have KY80 := aM_ hy80
                           clear hy80
                           have KL80 := aM_ (show (x10_5 : Int).toNat ≤ t418.length from by omega)
                           replace q80 := eq_true q80
                           have p448 : 0 ≤ (x12_7 : Int) := of_decide_eq_true (by assumption)
                           have q448 : x12_7 < (t441.length : Int) := of_decide_eq_true (by assumption)
                           obtain ⟨ad448, e448, hx448_0⟩ := Kd.at_int (Kd.R_reads' HO_11.out).2.2 x12_7 p448 q448
                           cases e448
                           replace p448 := eq_true p448
                           replace q448 := eq_true q448
                           refine start_ (n := 9) (S := fun w' => w'.cell? (ad448.add (x12_7).toNat) = some (.int .i64 (rd t441 x12_7))) (ds := []) #[f_,f_,f_,f_,f_,f_,f_,f_,f_] (by kernel_rfl) rfl rfl (hx448_0) (fun hHeld => ?_); refine with_tabW w4_GraphOrder.tab24 w4_GraphOrder.bits24 (fun HT_ HW_ => ?_)
                           generalize wr.drew = w79 at HO_5 HO_11 BK416 HB HR447 hx448_0 hHeld ⊢
                           refine pure_ (i := 0) (N := some 120) (v := ?_) (a' := ?_) #[t_,f_,f_,f_,f_,f_,f_,f_,f_] rfl rfl (any_of HT_.out (by kernel_rfl)) (fun _ _ _ h => h) (Or.inl ⟨by rfl, ?_⟩) ?_ ?_
                           rotate_left
                           ·intro w'
                            go_simp
                            with_reducible rfl
                           rotate_left
                           ·simp only [Act.put,uA_,uB_,uC_,i64_w,i32_w]
                            rfl
                           refine pure_ (i := 1) (N := some 121) (v := ?_) (a' := ?_) #[t_,t_,f_,f_,f_,f_,f_,f_,f_] rfl rfl (any_of HT_.out (by kernel_rfl)) (fun _ _ _ h => h) (Or.inl ⟨by rfl, ?_⟩) ?_ ?_
                           rotate_left
                           ·intro w'
                            go_simp
                            with_reducible rfl
                           rotate_left
                           ·simp only [Act.put,uA_,uB_,uC_,i64_w,i32_w]
                            rfl
                           refine pure_ (i := 2) (N := some 122) (v := ?_) (a' := ?_) #[t_,t_,t_,f_,f_,f_,f_,f_,f_] rfl rfl (any_of HT_.out (by kernel_rfl)) (fun _ _ _ h => h) (Or.inl ⟨by rfl, ?_⟩) ?_ ?_
                           rotate_left
                           ·intro w'
                            go_simp
                            with_reducible rfl
                           rotate_left
                           ·simp only [Act.put,uA_,uB_,uC_,i64_w,i32_w]
                            rfl
                           refine pure_ (i := 3) (N := some 123) (v := ?_) (a' := ?_) #[t_,t_,t_,t_,f_,f_,f_,f_,f_] rfl rfl (any_of HT_.out (by kernel_rfl)) (fun _ _ _ h => h) (Or.inl ⟨by rfl, ?_⟩) ?_ ?_
                           rotate_left
                           ·intro w'
                            go_simp
                            with_reducible rfl
                           rotate_left
                           ·simp only [Act.put,uA_,uB_,uC_,i64_w,i32_w]
                            rfl
                           refine pure_ (i := 4) (N := some 124) (v := ?_) (a' := ?_) #[t_,t_,t_,t_,t_,f_,f_,f_,f_] rfl rfl (any_of HT_.out (by kernel_rfl)) (fun _ _ _ h => h) (Or.inl ⟨by rfl, ?_⟩) ?_ ?_
                           rotate_left
                           ·intro w'
                            go_simp
                            with_reducible rfl
                           rotate_left
                           ·simp only [Act.put,uA_,uB_,uC_,i64_w,i32_w]
                            rfl
                           refine pure_ (i := 5) (N := some 125) (v := ?_) (a' := ?_) #[t_,t_,t_,t_,t_,t_,f_,f_,f_] rfl rfl (any_of HT_.out (by kernel_rfl)) (fun _ _ _ h => h) (Or.inl ⟨by rfl, ?_⟩) ?_ ?_
                           rotate_left
                           ·intro w'
                            go_simp
                            with_reducible rfl
                           rotate_left
                           ·simp only [Act.put,uA_,uB_,uC_,i64_w,i32_w]
                            rfl
                           refine take_ (i := 6) (N := some 126) (v := ?_) (a' := ?_) #[t_,t_,t_,t_,t_,t_,t_,f_,f_] rfl rfl (take_ofW HT_.out HW_.out (by kernel_rfl)) (fun _ _ _ h => h) (Or.inl ⟨by rfl, ?_⟩) hHeld ?_ ?_
                           rotate_left
                           ·intro w' s0
                            go_simp
                            with_reducible rfl
                           rotate_left
                           ·simp only [Act.put,uA_,uB_,uC_,i64_w,i32_w]
                            rfl
                           refine one_ (i := 7) (N := some 127) #[t_,t_,t_,t_,t_,t_,t_,t_,f_] rfl rfl (one_of HT_.out (by kernel_rfl)) (by decide) (fun K hK => ?_)
                           refine goes_ Tryd.func39 (by kernel_rfl) rfl #[.slice (some ad440) y444.length co53, .int .i64 (rd t441 x12_7)] (by rfl) rfl rfl (by (try simp only [List.map_toArray, List.map_cons, List.map_nil]); first | done | rfl | (simp only [List.length_drop, List.length_take]; rfl)) ?_
                           with_reducible refine (w4_in.calls k7 _ _ y444 (rd t441 x12_7) true _ ?side1 ?side2 A76.out).mono ?_
                           (case side1 => repeat (first | exact (by repeat (first | (with_reducible exact HR447.out) | (with_reducible refine Kd.C_alloc ?_ _) | (with_reducible refine Kd.C_drewN ?_ _) | (with_reducible refine Kd.C_drew ?_) | exact HR447.out)) | (with_reducible refine Kd.C_alloc ?_ _) | (with_reducible refine Kd.C_drewN ?_ _) | (with_reducible refine Kd.C_drew ?_)))
                           (case side2 => exact HC447.out)
                           rintro e w' ⟨rfl, ⟨nd, rfl⟩⟩
                           refine ⟨_, rfl, ?_⟩
                           refine hK.out _ _ (hHeld) (fun hHeld => ?_)
                           clear hK K
                           refine norm_ (a' := ?_) ?_ ?_
                           rotate_left
                           ·show Act.put _ (some 127) _ = _
                            simp only [Act.put,uA_,uB_,uC_,i64_w,i32_w]
                            rfl
                           refine pure_ (i := 8) (N := some 128) (v := ?_) (a' := ?_) #[t_,t_,t_,t_,t_,t_,t_,t_,t_] rfl rfl (any_of HT_.out (by kernel_rfl)) (fun _ _ _ h => h) (Or.inl ⟨by rfl, ?_⟩) ?_ ?_
                           rotate_left
                           ·intro w'
                            go_simp
                            with_reducible rfl
                           rotate_left
                           ·simp only [Act.put,uA_,uB_,uC_,i64_w,i32_w]
                            rfl
                           refine done_ (done_of HT_.out (by kernel_rfl)) ?_
                           try go_wp2
                           go_roundg k7
                           case measure => have := HJ2.out; have := HJ12.out; have := HK3.out; have := HK4.out; have := HK5.out; have := HJ63.out; have := HK7.out; omega
                           case rel => exact ⟨(wrap64 (x12_7 + 1)), (by first | rfl | (simp; done) | (simp [*]; done)), H', ⟨by have := HJ2.out; have := HJ12.out; have := HK3.out; have := HK4.out; have := HK5.out; have := HJ63.out; have := HK7.out; omega⟩, ⟨by (with_reducible repeat (first | apply rA_ | apply rB_ | apply rC_)); exact HO_5.out⟩, ⟨by (with_reducible repeat (first | apply rA_ | apply rB_ | apply rC_)); exact HO_11.out⟩, ⟨by (with_reducible repeat (first | refine blk_drewN ?_ _ | refine blk_drew ?_ | refine blk_alloc ?_ _)); exact BK416.out⟩, ⟨by repeat (first | (with_reducible first | exact HB.out | apply bA_ | apply bB_ | apply bC_ | refine below_set ?_ GE416.out) | exact HB.out)⟩⟩
                          ·replace c77 := Bool.eq_false_iff.mpr c77
                           subst c77
                           have H1 : (some false) = some r := by rw [if_neg (show ¬ (false = true) by decide)] at H; exact H
                           clear H
                           have H := H1
                           clear H1
                           obtain rfl := Option.some.inj H
                           obtain ⟨Ao81, co81, eo81⟩ := Kd.R_slice HO_11.out
                           subst eo81
                           try go_wp2
                           have n0_ := aM_ (Kd.R_drew HO_5.out)
                           have n1_ := aM_ (Kd.R_drew HO_11.out)
                           have n2_ := aM_ (blk_drew BK416.out)
                           have n3_ := aM_ (below_drew1 HB.out)
                           clear HO_5
                           clear HO_11
                           clear BK416
                           clear HB
                           have HO_5 := n0_
                           have HO_11 := n1_
                           have BK416 := n2_
                           have HB := n3_
                           clear n0_ n1_ n2_ n3_
                           have q83 : (x10_5 : Int) ≤ ((t418.length : Int) : Int) := of_decide_eq_true (by assumption)
                           obtain ⟨i083, hi083, _, hsz83, _⟩ := info_parts info3
                           have hroom83 : t418.length ≤ co53 := (Kd.R_reads' HO_5.out).2.1
                           have hC83 : Kd.C (Kd.int .i64) _ (some ad440) t418.length t418 := (Kd.R_reads' HO_5.out).2.2
                           have hcut83 := cut_to (P := Tryd.prog) 31 3 .i64 Tryd.underlying31 hi083 (some ad440) t418.length co53 x10_5 (of_decide_eq_true (by assumption)) q83 hroom83
                           have hr83 := Kd.C_take (m := (x10_5 : Int).toNat) hC83 (by omega)
                           have hy83 : y444.length = (x10_5 : Int).toNat := (by rw [Ny444.out, List.length_take]; omega)
                           rw [← Ny444.out] at hr83
                           rw [← hy83] at hcut83
                           have HR447 := aM_ hr83
                           have HC447 := aM_ (show y444.length ≤ co53 from by omega)
                           clear hr83 hC83 hroom83 hi083 hsz83
                           have KY83 := aM_ hy83
                           clear hy83
                           have KL83 := aM_ (show (x10_5 : Int).toNat ≤ t418.length from by omega)
                           replace q83 := eq_true q83
                           have p448 : 0 ≤ (x12_7 : Int) := of_decide_eq_true (by assumption)
                           have q448 : x12_7 < (t441.length : Int) := of_decide_eq_true (by assumption)
                           obtain ⟨ad448, e448, hx448_0⟩ := Kd.at_int (Kd.R_reads' HO_11.out).2.2 x12_7 p448 q448
                           cases e448
                           replace p448 := eq_true p448
                           replace q448 := eq_true q448
                           refine start_ (n := 9) (S := fun w' => w'.cell? (ad448.add (x12_7).toNat) = some (.int .i64 (rd t441 x12_7))) (ds := []) #[f_,f_,f_,f_,f_,f_,f_,f_,f_] (by kernel_rfl) rfl rfl (hx448_0) (fun hHeld => ?_); refine with_tabW w4_GraphOrder.tab24 w4_GraphOrder.bits24 (fun HT_ HW_ => ?_)
                           generalize wr.drew = w82 at HO_5 HO_11 BK416 HB HR447 hx448_0 hHeld ⊢
                           refine pure_ (i := 0) (N := some 120) (v := ?_) (a' := ?_) #[t_,f_,f_,f_,f_,f_,f_,f_,f_] rfl rfl (any_of HT_.out (by kernel_rfl)) (fun _ _ _ h => h) (Or.inl ⟨by rfl, ?_⟩) ?_ ?_
                           rotate_left
                           ·intro w'
                            go_simp
                            with_reducible rfl
                           rotate_left
                           ·simp only [Act.put,uA_,uB_,uC_,i64_w,i32_w]
                            rfl
                           refine pure_ (i := 1) (N := some 121) (v := ?_) (a' := ?_) #[t_,t_,f_,f_,f_,f_,f_,f_,f_] rfl rfl (any_of HT_.out (by kernel_rfl)) (fun _ _ _ h => h) (Or.inl ⟨by rfl, ?_⟩) ?_ ?_
                           rotate_left
                           ·intro w'
                            go_simp
                            with_reducible rfl
                           rotate_left
                           ·simp only [Act.put,uA_,uB_,uC_,i64_w,i32_w]
                            rfl
                           refine pure_ (i := 2) (N := some 122) (v := ?_) (a' := ?_) #[t_,t_,t_,f_,f_,f_,f_,f_,f_] rfl rfl (any_of HT_.out (by kernel_rfl)) (fun _ _ _ h => h) (Or.inl ⟨by rfl, ?_⟩) ?_ ?_
                           rotate_left
                           ·intro w'
                            go_simp
                            with_reducible rfl
                           rotate_left
                           ·simp only [Act.put,uA_,uB_,uC_,i64_w,i32_w]
                            rfl
                           refine pure_ (i := 3) (N := some 123) (v := ?_) (a' := ?_) #[t_,t_,t_,t_,f_,f_,f_,f_,f_] rfl rfl (any_of HT_.out (by kernel_rfl)) (fun _ _ _ h => h) (Or.inl ⟨by rfl, ?_⟩) ?_ ?_
                           rotate_left
                           ·intro w'
                            go_simp
                            with_reducible rfl
                           rotate_left
                           ·simp only [Act.put,uA_,uB_,uC_,i64_w,i32_w]
                            rfl
                           refine pure_ (i := 4) (N := some 124) (v := ?_) (a' := ?_) #[t_,t_,t_,t_,t_,f_,f_,f_,f_] rfl rfl (any_of HT_.out (by kernel_rfl)) (fun _ _ _ h => h) (Or.inl ⟨by rfl, ?_⟩) ?_ ?_
                           rotate_left
                           ·intro w'
                            go_simp
                            with_reducible rfl
                           rotate_left
                           ·simp only [Act.put,uA_,uB_,uC_,i64_w,i32_w]
                            rfl
                           refine pure_ (i := 5) (N := some 125) (v := ?_) (a' := ?_) #[t_,t_,t_,t_,t_,t_,f_,f_,f_] rfl rfl (any_of HT_.out (by kernel_rfl)) (fun _ _ _ h => h) (Or.inl ⟨by rfl, ?_⟩) ?_ ?_
                           rotate_left
                           ·intro w'
                            go_simp
                            with_reducible rfl
                           rotate_left
                           ·simp only [Act.put,uA_,uB_,uC_,i64_w,i32_w]
                            rfl
                           refine take_ (i := 6) (N := some 126) (v := ?_) (a' := ?_) #[t_,t_,t_,t_,t_,t_,t_,f_,f_] rfl rfl (take_ofW HT_.out HW_.out (by kernel_rfl)) (fun _ _ _ h => h) (Or.inl ⟨by rfl, ?_⟩) hHeld ?_ ?_
                           rotate_left
                           ·intro w' s0
                            go_simp
                            with_reducible rfl
                           rotate_left
                           ·simp only [Act.put,uA_,uB_,uC_,i64_w,i32_w]
                            rfl
                           refine one_ (i := 7) (N := some 127) #[t_,t_,t_,t_,t_,t_,t_,t_,f_] rfl rfl (one_of HT_.out (by kernel_rfl)) (by decide) (fun K hK => ?_)
                           refine goes_ Tryd.func39 (by kernel_rfl) rfl #[.slice (some ad440) y444.length co53, .int .i64 (rd t441 x12_7)] (by rfl) rfl rfl (by (try simp only [List.map_toArray, List.map_cons, List.map_nil]); first | done | rfl | (simp only [List.length_drop, List.length_take]; rfl)) ?_
                           with_reducible refine (w4_in.calls k7 _ _ y444 (rd t441 x12_7) false _ ?side1 ?side2 A76.out).mono ?_
                           (case side1 => repeat (first | exact (by repeat (first | (with_reducible exact HR447.out) | (with_reducible refine Kd.C_alloc ?_ _) | (with_reducible refine Kd.C_drewN ?_ _) | (with_reducible refine Kd.C_drew ?_) | exact HR447.out)) | (with_reducible refine Kd.C_alloc ?_ _) | (with_reducible refine Kd.C_drewN ?_ _) | (with_reducible refine Kd.C_drew ?_)))
                           (case side2 => exact HC447.out)
                           rintro e w' ⟨rfl, ⟨nd, rfl⟩⟩
                           refine ⟨_, rfl, ?_⟩
                           refine hK.out _ _ (hHeld) (fun hHeld => ?_)
                           clear hK K
                           refine norm_ (a' := ?_) ?_ ?_
                           rotate_left
                           ·show Act.put _ (some 127) _ = _
                            simp only [Act.put,uA_,uB_,uC_,i64_w,i32_w]
                            rfl
                           refine pure_ (i := 8) (N := some 128) (v := ?_) (a' := ?_) #[t_,t_,t_,t_,t_,t_,t_,t_,t_] rfl rfl (any_of HT_.out (by kernel_rfl)) (fun _ _ _ h => h) (Or.inl ⟨by rfl, ?_⟩) ?_ ?_
                           rotate_left
                           ·intro w'
                            go_simp
                            with_reducible rfl
                           rotate_left
                           ·simp only [Act.put,uA_,uB_,uC_,i64_w,i32_w]
                            rfl
                           refine done_ (done_of HT_.out (by kernel_rfl)) ?_
                           try go_wp2
                           go_ret
                           exact ⟨by first | rfl | (simp [errW_none, errW_some] <;> rfl) | (simp [*, errW_none, errW_some] <;> rfl), by repeat (first | (with_reducible first | exact HB.out | apply bA_ | apply bB_ | apply bC_ | refine below_set ?_ GE416.out) | exact HB.out)⟩
                         ·rw [if_neg c75] at H
                          exact absurd H (by simp)
                        ·rw [if_neg c74] at H
                         exact absurd H (by simp)
                       ·rw [if_neg c73] at H
                        exact absurd H (by simp)
                      ·rw [if_neg c72] at H
                       have c72b0 : decide (x12_7 < (t441.length : Int)) = false := decide_eq_false c72
                       clear c72
                       have H' := aM_ H
                       clear H
                       obtain ⟨Ao84, co84, eo84⟩ := Kd.R_slice HO_11.out
                       subst eo84
                       go_wp2
                       go_roundg k7
                       case measure => have := HJ2.out; have := HJ12.out; have := HK3.out; have := HK4.out; have := HK5.out; have := HJ63.out; have := HK7.out; omega
                       case rel => exact ⟨(wrap64 (x10_5 + 1)), (by first | rfl | (simp; done) | (simp [*]; done)), H', ⟨by have := HJ2.out; have := HJ12.out; have := HK3.out; have := HK4.out; have := HK5.out; have := HJ63.out; have := HK7.out; omega⟩, ⟨by (with_reducible repeat (first | apply rA_ | apply rB_ | apply rC_)); exact Kd.R_mono HO_5.out (fun _ hk => trivial)⟩, ⟨by (with_reducible repeat (first | refine blk_drewN ?_ _ | refine blk_drew ?_ | refine blk_alloc ?_ _)); exact BK416.out⟩, ⟨by repeat (first | (with_reducible first | exact HB.out | apply bA_ | apply bB_ | apply bC_ | refine below_set ?_ GE416.out) | exact HB.out)⟩⟩
                   ·rw [if_neg c68] at H
                    exact absurd H (by simp)
                  ·rw [if_neg c67] at H
                   exact absurd H (by simp)
                 ·replace c66 := Bool.eq_false_iff.mpr c66
                  subst c66
                  have H1 : ((w4_awake.f).bind fun t439 => (some t439)) = some r := by rw [if_neg (show ¬ (false = true) by decide)] at H; exact H
                  clear H
                  have H := H1
                  clear H1
                  replace H := Option.bind_eq_some_iff.mp H
                  obtain ⟨t439, A850, H⟩ := H
                  replace H : (some t439) = some r := H
                  have A85 := aM_ A850
                  clear A850
                  obtain rfl := Option.some.inj H
                  go_wp2_with (first | ((with_reducible refine gate_callee (f := 30) rfl ?_); refine goesL_ (some 129) rfl rfl Tryd.func30 (by kernel_rfl) rfl #[] rfl (by (try simp only [List.map_toArray, List.map_cons, List.map_nil]); first | done | rfl | (simp only [List.length_drop, List.length_take]; rfl)) ?_; (with_reducible refine (w4_awake.calls  t439 _ ?side1 A85.out).mono ?_); (case side1 => exact TabW.below HG_.out (by repeat (first | (with_reducible first | exact HB.out | apply bA_ | apply bB_ | apply bC_ | refine below_set ?_ GE416.out) | exact HB.out))); rintro e w86 ⟨rfl, hb⟩; refine ⟨_, rfl, ?_⟩; have n0_ := aM_ (Kd.R_below (by (with_reducible repeat (first | apply rA_ | apply rB_ | apply rC_)); exact HO_5.out) hb); have n1_ := aM_ (blk_below (g := gb416) (o := .cells #[.int .i64 a0_0, .slice A0_1 l0_1.length c0_1] 24 (0, 0)) (by (with_reducible repeat (first | refine blk_drewN ?_ _ | refine blk_drew ?_ | refine blk_alloc ?_ _)); exact BK416.out) hb); have n2_ := aM_ (below_step (by repeat (first | (with_reducible first | exact HB.out | apply bA_ | apply bB_ | apply bC_ | refine below_set ?_ GE416.out) | exact HB.out)) hb); clear HO_5; clear BK416; clear HB; have HO_5 := n0_; have BK416 := n1_; have HB := n2_; clear n0_ n1_ n2_; (try clear hb); (try clear hb2); (try clear hk); (try clear hi)))
                  go_ret
                  exact ⟨by first | rfl | (simp [errW_none, errW_some] <;> rfl) | (simp [*, errW_none, errW_some] <;> rfl), by repeat (first | (with_reducible first | exact HB.out | apply bA_ | apply bB_ | apply bC_ | refine below_set ?_ GE416.out) | exact HB.out)⟩
end Go.Proofs.YtfgbkklhjocmjaaDoor.Xq
namespace Go.Proofs.YtfgbkklhjocmjaaDoor.Xq
open Go.RowKit Go.Proofs.YtfgbkklhjocmjaaDoorW.PrintWords
variable {α β : Type}
theorem evPos {c : Prop} [Decidable c] {f g : Nat → Option α} {r : α} (hc : c) (h : Ev f r) : Ev (fun n => if c then f n else g n) r := by
  obtain ⟨K, h⟩ := h
  refine ⟨K, fun k hk => ?_⟩
  show (if c then f k else g k) = _
  rw [if_pos hc]
  exact h k hk
theorem evNeg {c : Prop} [Decidable c] {f g : Nat → Option α} {r : α} (hc : ¬ c) (h : Ev g r) : Ev (fun n => if c then f n else g n) r := by
  obtain ⟨K, h⟩ := h
  refine ⟨K, fun k hk => ?_⟩
  show (if c then f k else g k) = _
  rw [if_neg hc]
  exact h k hk
theorem evK {x : Option α} {r : α} (h : x = some r) : Ev (fun _ => x) r := ⟨0, fun _ _ => h⟩
theorem evSome {x r : α} (h : x = r) : Ev (fun _ => some x) r := evK (congrArg some h)
theorem evBind {g : Nat → Option α} {f : Nat → α → Option β} {a : α} {r : β} (h : Ev g a) (k : Ev (fun n => f n a) r) : Ev (fun n => (g n).bind (f n)) r := by
  obtain ⟨K, h⟩ := h
  obtain ⟨J, k⟩ := k
  refine ⟨max K J, fun n hn => ?_⟩
  show (g n).bind (f n) = _
  rw [h n (Nat.le_trans (Nat.le_max_left _ _) hn), Option.bind_some]
  exact k n (Nat.le_trans (Nat.le_max_right _ _) hn)
theorem evBindK {x : Option α} {f : Nat → α → Option β} {a : α} {r : β} (h : x = some a) (k : Ev (fun n => f n a) r) : Ev (fun n => x.bind (f n)) r := evBind (evK h) k
theorem evStep {g f : Nat → Option α} {r : α} (h : ∀ k, g (k + 1) = f k) (k : Ev f r) : Ev g r := by
  obtain ⟨K, k⟩ := k
  refine ⟨K + 1, fun n hn => ?_⟩
  obtain ⟨m, rfl⟩ : ∃ m, n = m + 1 := ⟨n - 1, by omega⟩
  rw [h m]
  exact k m (by omega)
theorem evEq {g : Nat → Option α} {r s : α} (h : Ev g r) (e : r = s) : Ev g s := e ▸ h
theorem evCase {c : Prop} [Decidable c] {f g : Nat → Option α} {r s : α} (h : c → Ev f r) (k : ¬ c → Ev g s) : Ev (fun n => if c then f n else g n) (if c then r else s) := by
  by_cases hc : c
  · rw [if_pos hc]; exact evPos hc (h hc)
  · rw [if_neg hc]; exact evNeg hc (k hc)
end Go.Proofs.YtfgbkklhjocmjaaDoor.Xq
namespace Go.Proofs.YtfgbkklhjocmjaaDoor.Xq
open Go.RowKit Go.Lib Go.Sort Go.Proofs.YtfgbkklhjocmjaaDoorW.PrintWords Go.Proofs.YtfgbkklhjocmjaaDoorW.PrintLast Go.Proofs.YtfgbkklhjocmjaaDoor.Gv
theorem S53_ext {x y : S53} (h0 : x.f0 = y.f0) (h1 : x.f1 = y.f1) : x = y := by cases x; cases y; simp_all
instance decS53 : DecidableEq S53 := fun x y => decidable_of_iff (x.f0 = y.f0 ∧ x.f1 = y.f1) ⟨fun h => S53_ext h.1 h.2, fun h => by subst h; exact ⟨rfl, rfl⟩⟩
theorem ltE_LtP {x y : S53} : ltE x y = true ↔ LtP (toP x) (toP y) := by rw [ltE_iff]; rfl
theorem less_eq (x y : S53) : r4_less.f x.f0 x.f1 y.f0 y.f1 = some (ltE x y) := by
  unfold r4_less.f ltE
  by_cases h : x.f0 < y.f0
  · simp [h]
  · by_cases h2 : x.f0 = y.f0
    · simp [h, h2]
    · simp [h, h2]
def Asc (l : List S53) : Prop := l.Pairwise fun a b => ltE a b = true
theorem asc_toP {l : List S53} : Asc l ↔ (l.map toP).Pairwise LtP := by
  unfold Asc
  rw [List.pairwise_map]
  exact ⟨fun h => h.imp fun h => ltE_LtP.1 h, fun h => h.imp fun h => ltE_LtP.2 h⟩
theorem dedupE_eq {l m : List S53} (hm : Asc m) (h : ∀ x, x ∈ m ↔ x ∈ l) : dedupE l = m := by
  unfold dedupE
  rw [sortDedup_eq (asc_toP.1 hm) (fun x => ?_)]
  · rw [List.map_map]; exact List.map_id' _
  · constructor
    · intro hx
      obtain ⟨y, hy, rfl⟩ := List.mem_map.1 hx
      exact List.mem_map.2 ⟨y, (h y).1 hy, rfl⟩
    · intro hx
      obtain ⟨y, hy, rfl⟩ := List.mem_map.1 hx
      exact List.mem_map.2 ⟨y, (h y).2 hy, rfl⟩
theorem within_alt (n : Int) (x : S53) : withinB n x = false ↔ x.f0 < 0 ∨ x.f0 ≥ n ∨ x.f1 < 0 ∨ x.f1 ≥ n := by
  have := @within_iff n x
  cases h : withinB n x with
  | true => have := this.1 h; simp; omega
  | false =>
    rw [h] at this
    simp at this
    simp
    omega
theorem exE : dedupE [⟨1, 2⟩, ⟨0, 1⟩, ⟨1, 2⟩] = [⟨0, 1⟩, ⟨1, 2⟩] := dedupE_eq (by unfold Asc; decide) (fun x => by simp only [List.mem_cons, List.not_mem_nil, or_false]; constructor; (rintro (h | h) <;> simp [h]); (rintro (h | h | h) <;> simp [h]))
theorem ex_make : graph_Make.f 3 [⟨1, 2⟩, ⟨0, 1⟩, ⟨1, 2⟩] = some (3, [⟨0, 1⟩, ⟨1, 2⟩], 0) := by
  unfold graph_Make.f
  rw [if_neg (by decide), if_neg (by decide), if_neg (by decide), if_pos (by decide), exE, if_neg (by decide)]
theorem ex_chk : chk 3 [⟨0, 1⟩, ⟨1, 2⟩] = 0 := by decide
theorem nodup_map_ {α β : Type} {f : α → β} (hf : ∀ a b, f a = f b → a = b) {l : List α} (h : l.Nodup) : (l.map f).Nodup := by
  rw [List.nodup_iff_pairwise_ne] at h ⊢
  rw [List.pairwise_map]
  exact h.imp (fun hne e => hne (hf _ _ e))
theorem srtP_perm (d : Array (Int × Int)) : (srtP d).toList.Perm d.toList := by
  obtain ⟨hp, hs⟩ := pdq_sorts (ltOf cmpP) swoP d 0 d.size (Lib.bitLen d.size) true true (Nat.zero_le _) (Nat.le_refl _) (Or.inl rfl)
  change PermIn 0 d.size d (srtP d) at hp
  have z := hp.2.2
  rw [Array.extract_eq_self_of_le (Nat.le_refl _), Array.extract_eq_self_of_le (by rw [hp.1]; exact Nat.le_refl _)] at z
  exact z
theorem sortE_perm (l : List S53) : (sortE l).Perm l := by
  unfold sortE
  have := (srtP_perm (l.map toP).toArray).map ofP
  simpa [List.map_map, show (ofP ∘ toP) = id from rfl] using this
theorem sortE_asc {l : List S53} (h : l.Nodup) : Asc (sortE l) := by
  have hn : (sortE l).Nodup := (sortE_perm l).nodup_iff.2 h
  obtain ⟨hs, _⟩ := srtP_spec (l.map toP).toArray
  rw [asc_toP]
  have e : (sortE l).map toP = (srtP (l.map toP).toArray).toList := by
    unfold sortE
    rw [List.map_map, show (toP ∘ ofP) = id from rfl, List.map_id]
  have hn2 : (srtP (l.map toP).toArray).toList.Nodup := by
    rw [← e]
    exact nodup_map_ (fun a b hab => by cases a; cases b; simpa [toP] using hab) hn
  rw [e]
  have hz := srtP_size (l.map toP).toArray
  generalize srtP (l.map toP).toArray = s at hs hn2 hz
  rw [List.pairwise_iff_getElem]
  intro i j hi hj hij
  have hi' : i < s.size := by simpa using hi
  have hj' : j < s.size := by simpa using hj
  have h1 := hs i j hij (by rw [← hz]; exact hj')
  rw [getElem!_pos s i hi', getElem!_pos s j hj'] at h1
  refine LtP.of_ne h1 (fun e => ?_)
  have := (List.nodup_iff_pairwise_ne.1 hn2)
  rw [List.pairwise_iff_getElem] at this
  exact this i j hi hj hij e
theorem asc_ext {l m : List S53} (hl : Asc l) (hm : Asc m) (h : ∀ x, x ∈ l ↔ x ∈ m) : l = m := by
  rw [← dedupE_eq hl (fun x => Iff.rfl), dedupE_eq hm (fun x => (h x).symm)]
theorem sortE_eq {l m : List S53} (h : l.Nodup) (hm : Asc m) (he : ∀ x, x ∈ m ↔ x ∈ l) : sortE l = m := asc_ext (sortE_asc h) hm (fun x => ((sortE_perm l).mem_iff).trans (he x).symm)
theorem ex_sort : sortE ([⟨0, 1⟩, ⟨1, 2⟩].map swapE) = [⟨1, 0⟩, ⟨2, 1⟩] := sortE_eq (by decide) (by unfold Asc; decide) (fun x => by simp [swapE])
theorem ex_path : graph_Path.f 3 [⟨0, 1⟩, ⟨1, 2⟩] 0 2 = some ([0, 1, 2], true) := by
  unfold graph_Path.f
  rw [if_pos ⟨⟨by decide, by decide, ex_chk⟩, by decide, by decide⟩, ex_sort]
  kernel_rfl
theorem ex_reach : graph_Reach.f 3 [⟨0, 1⟩, ⟨1, 2⟩] [1] = some [1, 2] := by
  unfold graph_Reach.f
  rw [if_pos ex_chk, if_pos (by decide)]
  kernel_rfl
theorem awake_eq : w4_awake.f = some true := by
  unfold w4_awake.f
  rw [ex_make, Option.bind_some, ex_path, Option.bind_some]
  simp [ex_reach]
end Go.Proofs.YtfgbkklhjocmjaaDoor.Xq
