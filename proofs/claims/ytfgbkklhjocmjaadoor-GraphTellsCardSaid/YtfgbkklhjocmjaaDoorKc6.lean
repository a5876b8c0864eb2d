/- Joined by a program out of this work's texts and the print's (what the law needs of them): Xq8, GvVS, GvEv, GvP1, GvQ1, GvQ2, GvP2, GvP3, GvQ3, GvP5, LawGraphTells. -/
import Derived.Test.YtfgbkklhjocmjaaDoorKc5
import Derived.Test.YtfgbkklhjocmjaaDoorTie
import Derived.Test.YtfgbkklhjocmjaaDoorCards
import Derived.WalkKit
import Derived.ProofKit
import Derived.OpenShut
import Derived.ShutString
import Derived.ChangeOld
import Derived.Below
import Derived.SizedLaws
import Derived.SevenTiedAt
namespace Go.Proofs.YtfgbkklhjocmjaaDoor.Xq
open Go.RowKit Go.Proofs.YtfgbkklhjocmjaaDoorW.PrintWords Go.Proofs.YtfgbkklhjocmjaaDoorW.PrintLast Go.Proofs.YtfgbkklhjocmjaaDoorW.PrintMore
attribute [local go_sem] max2_int min2_int max_two min_two max_three min_three max_four min_four   -- for this text's walks alone
set_option linter.unusedVariables false
set_option linter.unusedSimpArgs false
def dataflowlaw04_GraphTells.f (k : Nat) (a0_0 : Int) (l0_1 : List (S53)) (a1 : Int) : Option (Bool) := if (l0_1.length : Int) > 400 then ((dataflowlaw04_awake.f).bind fun t232 => (some t232)) else ((graph_Check.f k a0_0 l0_1).bind fun t233 => ((dataflowref04_Check.f k a0_0 l0_1).bind fun t234 => (if t233 = t234 then ((graph_Succ.f a0_0 l0_1 a1).bind fun t235 => ((dataflowref04_Succ.f k a0_0 l0_1 a1).bind fun t238 => ((dataflowref04_Equal.f k t235 t238).bind fun t241 => (if t241 = true then ((graph_Pred.f k a0_0 l0_1 a1).bind fun t242 => ((dataflowref04_Pred.f k a0_0 l0_1 a1).bind fun t245 => ((dataflowref04_Equal.f k t242 t245).bind fun t248 => (if t248 = true then ((graph_Reverse.f a0_0 l0_1).bind fun bt249 => ((dataflowref04_Reverse.f k a0_0 l0_1).bind fun bt253 => ((dataflowref04_Same.f k bt249.1 bt249.2 bt253.1 bt253.2).bind fun t257 => (if t257 = true then ((dataflowlaw04_awake.f).bind fun t258 => (some t258)) else (some false))))) else (some false))))) else (some false))))) else (some false))))
def dataflowlaw04_GraphTells.T3 : Bool × List (List Nat × List Nat) := (true, [([], []), ([0], [0]), ([], []), ([2, 1], [2]), ([1, 3], [1, 3]), ([4, 3], [4]), ([5], [5]), ([5], [5]), ([6, 7, 5, 5], [5, 6, 7]), ([5], [5]), ([5], [5]), ([9, 10, 8, 5], [5, 9, 10]), ([8, 11, 11, 5], [5, 8, 11]), ([5, 12], [5, 12]), ([13, 12], [13]), ([14], [14]), ([14], [14]), ([15, 16, 14, 14], [14, 15, 16]), ([14], [14]), ([14], [14]), ([18, 19, 17, 14], [14, 18, 19]), ([17, 20, 20, 14], [14, 17, 20]), ([14, 21], [14, 21]), ([22, 21], [22]), ([23], [23]), ([24, 23, 23], [23, 24]), ([23], [23]), ([26, 25, 23], [23, 26]), ([25, 27, 27, 23], [23, 25, 27]), ([23, 28], [23, 28]), ([29, 28], [29]), ([30, 30], [30]), ([30, 31], [30, 31]), ([32, 31, 0, 1, 2, 3, 4, 5, 6, 7, 8, 9, 10, 11, 12, 13, 14, 15, 16, 17, 18, 19, 20, 21, 22, 23, 24, 25, 26, 27, 28, 29, 30, 31, 32], [32])])
def dataflowlaw04_GraphTells.B3 : List Nat := [0, 1, 0, 7, 15, 31, 63, 63, 255, 63, 63, 2047, 4095, 8191, 16383, 32767, 32767, 131071, 32767, 32767, 1048575, 2097151, 4194303, 8388607, 16777215, 33554431, 16777215, 134217727, 268435455, 536870911, 1073741823, 2147483647, 4294967295, 8589934591]
theorem dataflowlaw04_GraphTells.tab3 : rtab .any (opsOf Tryd.f11 3) = dataflowlaw04_GraphTells.T3 := by kernel_rfl
theorem dataflowlaw04_GraphTells.bits3 : waitsOk dataflowlaw04_GraphTells.T3.2 dataflowlaw04_GraphTells.B3 = true := by kernel_rfl
set_option maxHeartbeats 8000000 in
set_option maxRecDepth 100000 in
theorem dataflowlaw04_GraphTells.calls (k : Nat) (a0_0 : Int) (A0_1 : Option Addr) (c0_1 : Nat) (l0_1 : List (S53)) (a1 : Int) (r : Bool) (w : World) (hr0_1 : Kd.C k53 w A0_1 l0_1.length l0_1) (hc0_1 : l0_1.length ≤ c0_1) (hG_ : TabW w) (h : dataflowlaw04_GraphTells.f k a0_0 l0_1 a1 = some r) :
  Calls Tryd.prog 11 #[.agg #[.int .i64 a0_0, .slice A0_1 l0_1.length c0_1], .int .i64 a1] w fun e w' => e = .returned (.bool r) ∧ Below w.heap.size w w' := by
 have hu24 := Tryd.underlying24
 have HR0_1 := Aside0.mk hr0_1
 have HC0_1 := Aside0.mk hc0_1
 clear hr0_1 hc0_1
 have HB := Aside0.mk (Below.refl w.heap.size w)
 have HG_ := Aside0.mk hG_
 clear hG_
 have H : (if (l0_1.length : Int) > 400 then ((dataflowlaw04_awake.f).bind fun t232 => (some t232)) else ((graph_Check.f k a0_0 l0_1).bind fun t233 => ((dataflowref04_Check.f k a0_0 l0_1).bind fun t234 => (if t233 = t234 then ((graph_Succ.f a0_0 l0_1 a1).bind fun t235 => ((dataflowref04_Succ.f k a0_0 l0_1 a1).bind fun t238 => ((dataflowref04_Equal.f k t235 t238).bind fun t241 => (if t241 = true then ((graph_Pred.f k a0_0 l0_1 a1).bind fun t242 => ((dataflowref04_Pred.f k a0_0 l0_1 a1).bind fun t245 => ((dataflowref04_Equal.f k t242 t245).bind fun t248 => (if t248 = true then ((graph_Reverse.f a0_0 l0_1).bind fun bt249 => ((dataflowref04_Reverse.f k a0_0 l0_1).bind fun bt253 => ((dataflowref04_Same.f k bt249.1 bt249.2 bt253.1 bt253.2).bind fun t257 => (if t257 = true then ((dataflowlaw04_awake.f).bind fun t258 => (some t258)) else (some false))))) else (some false))))) else (some false))))) else (some false))))) = some r := h
 clear h
 by_cases c3 : (l0_1.length : Int) > 400
 ·rw [if_pos c3] at H
  have c3b0 : decide (400 < (l0_1.length : Int)) = true := decide_eq_true c3
  have c3b1 : decide (400 < l0_1.length) = true := decide_eq_true (by omega)
  clear c3
  replace H := Option.bind_eq_some_iff.mp H
  obtain ⟨t232, A40, H⟩ := H
  replace H : (some t232) = some r := H
  have A4 := Aside0.mk A40
  clear A40
  obtain rfl := Option.some.inj H
  go_enter Tryd.func11, Tryd.ntmps11
  go_wp2_with (first | ((with_reducible refine gate_dst (N := 2) rfl ?_); refine box_event ?hg (N := 2) ?hd (cs := #[.int .i64 a0_0, .slice A0_1 l0_1.length c0_1]) (t := 24) ?hr ?_; (case hd => rfl); (case hg => rfl); (case hr => first | (go_simp; done) | (go_simp; rfl)); intro gb231 hg w5 hbox hb; have n0_ := Aside0.mk (below_step (by repeat (first | (with_reducible first | exact HB.out | apply below_alloc | apply pw_below_drewN | apply below_drew1) | exact HB.out)) hb); have n1_ := Aside0.mk (hbox); have n2_ := Aside0.mk ((by rw [hg]; exact (below_size (by repeat (first | (with_reducible first | exact HB.out | apply below_alloc | apply pw_below_drewN | apply below_drew1) | exact HB.out))) : w.heap.size ≤ gb231)); have n3_ := Aside0.mk ((by rw [hg]; exact (below_size (by repeat (first | (with_reducible first | exact HB.out | apply below_alloc | apply pw_below_drewN | apply below_drew1) | exact HB.out))) : w.heap.size ≤ gb231)); clear HB; have HB := n0_; have BK231 := n1_; have GW231 := n2_; have GE231 := n3_; clear n0_ n1_ n2_ n3_; clear hb hbox hg; have hcz6_0 : w5.cell? ⟨gb231, 0, none⟩ = some (.int .i64 a0_0) := (blk_cell BK231.out 0).trans rfl; have hcz6_1 : w5.cell? ⟨gb231, 1, none⟩ = some (.slice A0_1 l0_1.length c0_1) := (blk_cell BK231.out 1).trans rfl; have hfz6_0 := blk_frozen BK231.out 0; have hfz6_1 := blk_frozen BK231.out 1) | ((with_reducible refine gate_callee (f := 30) rfl ?_); refine goesL_ (some 9) rfl rfl Tryd.func30 (by kernel_rfl) rfl #[] rfl (by (try simp only [List.map_toArray, List.map_cons, List.map_nil]); first | done | rfl | (simp only [List.length_drop, List.length_take]; rfl)) ?_; (with_reducible refine (dataflowlaw04_awake.calls  t232 _ ?side1 A4.out).mono ?_); (case side1 => exact TabW.below HG_.out (by repeat (first | (with_reducible first | exact HB.out | apply below_alloc | apply pw_below_drewN | apply below_drew1 | refine below_set ?_ GE231.out) | exact HB.out))); rintro e w7 ⟨rfl, hb⟩; refine ⟨_, rfl, ?_⟩; have n0_ := Aside0.mk (blk_below (g := gb231) (o := .cells #[.int .i64 a0_0, .slice A0_1 l0_1.length c0_1] 24 (0, 0)) (by (with_reducible repeat (first | refine blk_drewN ?_ _ | refine blk_drew ?_ | refine blk_alloc ?_ _)); exact BK231.out) hb); have n1_ := Aside0.mk (below_step (by repeat (first | (with_reducible first | exact HB.out | apply below_alloc | apply pw_below_drewN | apply below_drew1 | refine below_set ?_ GE231.out) | exact HB.out)) hb); clear BK231; clear HB; have BK231 := n0_; have HB := n1_; clear n0_ n1_; (try clear hb); (try clear hb2); (try clear hk); (try clear hi)))
  go_ret
  exact ⟨by first | rfl | (simp [errW_none, errW_some] <;> rfl) | (simp [*, errW_none, errW_some] <;> rfl), by repeat (first | (with_reducible first | exact HB.out | apply below_alloc | apply pw_below_drewN | apply below_drew1 | refine below_set ?_ GE231.out) | exact HB.out)⟩
 ·rw [if_neg c3] at H
  have c3b0 : decide (400 < (l0_1.length : Int)) = false := decide_eq_false c3
  have c3b1 : decide (400 < l0_1.length) = false := decide_eq_false (by omega)
  clear c3
  replace H := Option.bind_eq_some_iff.mp H
  obtain ⟨t233, A80, H⟩ := H
  replace H : ((dataflowref04_Check.f k a0_0 l0_1).bind fun t234 => (if t233 = t234 then ((graph_Succ.f a0_0 l0_1 a1).bind fun t235 => ((dataflowref04_Succ.f k a0_0 l0_1 a1).bind fun t238 => ((dataflowref04_Equal.f k t235 t238).bind fun t241 => (if t241 = true then ((graph_Pred.f k a0_0 l0_1 a1).bind fun t242 => ((dataflowref04_Pred.f k a0_0 l0_1 a1).bind fun t245 => ((dataflowref04_Equal.f k t242 t245).bind fun t248 => (if t248 = true then ((graph_Reverse.f a0_0 l0_1).bind fun bt249 => ((dataflowref04_Reverse.f k a0_0 l0_1).bind fun bt253 => ((dataflowref04_Same.f k bt249.1 bt249.2 bt253.1 bt253.2).bind fun t257 => (if t257 = true then ((dataflowlaw04_awake.f).bind fun t258 => (some t258)) else (some false))))) else (some false))))) else (some false))))) else (some false))) = some r := H
  have A8 := Aside0.mk A80
  clear A80
  replace H := Option.bind_eq_some_iff.mp H
  obtain ⟨t234, A90, H⟩ := H
  replace H : (if t233 = t234 then ((graph_Succ.f a0_0 l0_1 a1).bind fun t235 => ((dataflowref04_Succ.f k a0_0 l0_1 a1).bind fun t238 => ((dataflowref04_Equal.f k t235 t238).bind fun t241 => (if t241 = true then ((graph_Pred.f k a0_0 l0_1 a1).bind fun t242 => ((dataflowref04_Pred.f k a0_0 l0_1 a1).bind fun t245 => ((dataflowref04_Equal.f k t242 t245).bind fun t248 => (if t248 = true then ((graph_Reverse.f a0_0 l0_1).bind fun bt249 => ((dataflowref04_Reverse.f k a0_0 l0_1).bind fun bt253 => ((dataflowref04_Same.f k bt249.1 bt249.2 bt253.1 bt253.2).bind fun t257 => (if t257 = true then ((dataflowlaw04_awake.f).bind fun t258 => (some t258)) else (some false))))) else (some false))))) else (some false))))) else (some false)) = some r := H
  have A9 := Aside0.mk A90
  clear A90
  by_cases c10 : t233 = t234
  ·rw [if_pos c10] at H
   have c10b0 : (t233 == t234) = true := beq_iff_eq.mpr c10
   have c10b1 : (t233 != t234) = false := bne_eq_false_iff_eq.mpr c10
   clear c10
   replace H := Option.bind_eq_some_iff.mp H
   obtain ⟨t235, A110, H⟩ := H
   replace H : ((dataflowref04_Succ.f k a0_0 l0_1 a1).bind fun t238 => ((dataflowref04_Equal.f k t235 t238).bind fun t241 => (if t241 = true then ((graph_Pred.f k a0_0 l0_1 a1).bind fun t242 => ((dataflowref04_Pred.f k a0_0 l0_1 a1).bind fun t245 => ((dataflowref04_Equal.f k t242 t245).bind fun t248 => (if t248 = true then ((graph_Reverse.f a0_0 l0_1).bind fun bt249 => ((dataflowref04_Reverse.f k a0_0 l0_1).bind fun bt253 => ((dataflowref04_Same.f k bt249.1 bt249.2 bt253.1 bt253.2).bind fun t257 => (if t257 = true then ((dataflowlaw04_awake.f).bind fun t258 => (some t258)) else (some false))))) else (some false))))) else (some false)))) = some r := H
   have A11 := Aside0.mk A110
   clear A110
   replace H := Option.bind_eq_some_iff.mp H
   obtain ⟨t238, A120, H⟩ := H
   replace H : ((dataflowref04_Equal.f k t235 t238).bind fun t241 => (if t241 = true then ((graph_Pred.f k a0_0 l0_1 a1).bind fun t242 => ((dataflowref04_Pred.f k a0_0 l0_1 a1).bind fun t245 => ((dataflowref04_Equal.f k t242 t245).bind fun t248 => (if t248 = true then ((graph_Reverse.f a0_0 l0_1).bind fun bt249 => ((dataflowref04_Reverse.f k a0_0 l0_1).bind fun bt253 => ((dataflowref04_Same.f k bt249.1 bt249.2 bt253.1 bt253.2).bind fun t257 => (if t257 = true then ((dataflowlaw04_awake.f).bind fun t258 => (some t258)) else (some false))))) else (some false))))) else (some false))) = some r := H
   have A12 := Aside0.mk A120
   clear A120
   replace H := Option.bind_eq_some_iff.mp H
   obtain ⟨t241, A130, H⟩ := H
   replace H : (if t241 = true then ((graph_Pred.f k a0_0 l0_1 a1).bind fun t242 => ((dataflowref04_Pred.f k a0_0 l0_1 a1).bind fun t245 => ((dataflowref04_Equal.f k t242 t245).bind fun t248 => (if t248 = true then ((graph_Reverse.f a0_0 l0_1).bind fun bt249 => ((dataflowref04_Reverse.f k a0_0 l0_1).bind fun bt253 => ((dataflowref04_Same.f k bt249.1 bt249.2 bt253.1 bt253.2).bind fun t257 => (if t257 = true then ((dataflowlaw04_awake.f).bind fun t258 => (some t258)) else (some false))))) else (some false))))) else (some false)) = some r := H
   have A13 := Aside0.mk A130
   clear A130
   by_cases c14 : t241 = true
   ·subst c14
    have H1 : ((graph_Pred.f k a0_0 l0_1 a1).bind fun t242 => ((dataflowref04_Pred.f k a0_0 l0_1 a1).bind fun t245 => ((dataflowref04_Equal.f k t242 t245).bind fun t248 => (if t248 = true then ((graph_Reverse.f a0_0 l0_1).bind fun bt249 => ((dataflowref04_Reverse.f k a0_0 l0_1).bind fun bt253 => ((dataflowref04_Same.f k bt249.1 bt249.2 bt253.1 bt253.2).bind fun t257 => (if t257 = true then ((dataflowlaw04_awake.f).bind fun t258 => (some t258)) else (some false))))) else (some false))))) = some r := by rw [if_pos rfl] at H; exact H
    clear H
    have H := H1
    clear H1
    replace H := Option.bind_eq_some_iff.mp H
    obtain ⟨t242, A150, H⟩ := H
    replace H : ((dataflowref04_Pred.f k a0_0 l0_1 a1).bind fun t245 => ((dataflowref04_Equal.f k t242 t245).bind fun t248 => (if t248 = true then ((graph_Reverse.f a0_0 l0_1).bind fun bt249 => ((dataflowref04_Reverse.f k a0_0 l0_1).bind fun bt253 => ((dataflowref04_Same.f k bt249.1 bt249.2 bt253.1 bt253.2).bind fun t257 => (if t257 = true then ((dataflowlaw04_awake.f).bind fun t258 => (some t258)) else (some false))))) else (some false)))) = some r := H
    have A15 := Aside0.mk A150
    clear A150
    replace H := Option.bind_eq_some_iff.mp H
    obtain ⟨t245, A160, H⟩ := H
    replace H : ((dataflowref04_Equal.f k t242 t245).bind fun t248 => (if t248 = true then ((graph_Reverse.f a0_0 l0_1).bind fun bt249 => ((dataflowref04_Reverse.f k a0_0 l0_1).bind fun bt253 => ((dataflowref04_Same.f k bt249.1 bt249.2 bt253.1 bt253.2).bind fun t257 => (if t257 = true then ((dataflowlaw04_awake.f).bind fun t258 => (some t258)) else (some false))))) else (some false))) = some r := H
    have A16 := Aside0.mk A160
    clear A160
    replace H := Option.bind_eq_some_iff.mp H
    obtain ⟨t248, A170, H⟩ := H
    replace H : (if t248 = true then ((graph_Reverse.f a0_0 l0_1).bind fun bt249 => ((dataflowref04_Reverse.f k a0_0 l0_1).bind fun bt253 => ((dataflowref04_Same.f k bt249.1 bt249.2 bt253.1 bt253.2).bind fun t257 => (if t257 = true then ((dataflowlaw04_awake.f).bind fun t258 => (some t258)) else (some false))))) else (some false)) = some r := H
    have A17 := Aside0.mk A170
    clear A170
    by_cases c18 : t248 = true
    ·subst c18
     have H1 : ((graph_Reverse.f a0_0 l0_1).bind fun bt249 => ((dataflowref04_Reverse.f k a0_0 l0_1).bind fun bt253 => ((dataflowref04_Same.f k bt249.1 bt249.2 bt253.1 bt253.2).bind fun t257 => (if t257 = true then ((dataflowlaw04_awake.f).bind fun t258 => (some t258)) else (some false))))) = some r := by rw [if_pos rfl] at H; exact H
     clear H
     have H := H1
     clear H1
     replace H := Option.bind_eq_some_iff.mp H
     obtain ⟨⟨t249, t250⟩, A190, H⟩ := H
     replace H : ((dataflowref04_Reverse.f k a0_0 l0_1).bind fun bt253 => ((dataflowref04_Same.f k t249 t250 bt253.1 bt253.2).bind fun t257 => (if t257 = true then ((dataflowlaw04_awake.f).bind fun t258 => (some t258)) else (some false)))) = some r := H
     have A19 := Aside0.mk A190
     clear A190
     replace H := Option.bind_eq_some_iff.mp H
     obtain ⟨⟨t253, t254⟩, A200, H⟩ := H
     replace H : ((dataflowref04_Same.f k t249 t250 t253 t254).bind fun t257 => (if t257 = true then ((dataflowlaw04_awake.f).bind fun t258 => (some t258)) else (some false))) = some r := H
     have A20 := Aside0.mk A200
     clear A200
     replace H := Option.bind_eq_some_iff.mp H
     obtain ⟨t257, A210, H⟩ := H
     replace H : (if t257 = true then ((dataflowlaw04_awake.f).bind fun t258 => (some t258)) else (some false)) = some r := H
     have A21 := Aside0.mk A210
     clear A210
     by_cases c22 : t257 = true
     ·subst c22
      have H1 : ((dataflowlaw04_awake.f).bind fun t258 => (some t258)) = some r := by rw [if_pos rfl] at H; exact H
      clear H
      have H := H1
      clear H1
      replace H := Option.bind_eq_some_iff.mp H
      obtain ⟨t258, A230, H⟩ := H
      replace H : (some t258) = some r := H
      have A23 := Aside0.mk A230
      clear A230
      obtain rfl := Option.some.inj H
      go_enter Tryd.func11, Tryd.ntmps11
      try go_wp2_with (first | ((with_reducible refine gate_dst (N := 2) rfl ?_); refine box_event ?hg (N := 2) ?hd (cs := #[.int .i64 a0_0, .slice A0_1 l0_1.length c0_1]) (t := 24) ?hr ?_; (case hd => rfl); (case hg => rfl); (case hr => first | (go_simp; done) | (go_simp; rfl)); intro gb231 hg w24 hbox hb; have n0_ := Aside0.mk (below_step (by repeat (first | (with_reducible first | exact HB.out | apply below_alloc | apply pw_below_drewN | apply below_drew1) | exact HB.out)) hb); have n1_ := Aside0.mk (hbox); have n2_ := Aside0.mk ((by rw [hg]; exact (below_size (by repeat (first | (with_reducible first | exact HB.out | apply below_alloc | apply pw_below_drewN | apply below_drew1) | exact HB.out))) : w.heap.size ≤ gb231)); have n3_ := Aside0.mk ((by rw [hg]; exact (below_size (by repeat (first | (with_reducible first | exact HB.out | apply below_alloc | apply pw_below_drewN | apply below_drew1) | exact HB.out))) : w.heap.size ≤ gb231)); clear HB; have HB := n0_; have BK231 := n1_; have GW231 := n2_; have GE231 := n3_; clear n0_ n1_ n2_ n3_; clear hb hbox hg; have hcz25_0 : w24.cell? ⟨gb231, 0, none⟩ = some (.int .i64 a0_0) := (blk_cell BK231.out 0).trans rfl; have hcz25_1 : w24.cell? ⟨gb231, 1, none⟩ = some (.slice A0_1 l0_1.length c0_1) := (blk_cell BK231.out 1).trans rfl; have hfz25_0 := blk_frozen BK231.out 0; have hfz25_1 := blk_frozen BK231.out 1))
      have n0_ := Aside0.mk (blk_drew BK231.out)
      have n1_ := Aside0.mk (below_drew1 HB.out)
      clear BK231
      clear HB
      have BK231 := n0_
      have HB := n1_
      clear n0_ n1_
      refine start_ (n := 34) (S := fun w' => w'.cell? ⟨gb231, 0, none⟩ = some (.int .i64 a0_0) ∧ w'.cell? ⟨gb231, 1, none⟩ = some (.slice A0_1 l0_1.length c0_1)) (ds := []) #[false, false, false, false, false, false, false, false, false, false, false, false, false, false, false, false, false, false, false, false, false, false, false, false, false, false, false, false, false, false, false, false, false, false] (by kernel_rfl) rfl rfl ⟨(blk_cell BK231.out 0).trans rfl, (blk_cell BK231.out 1).trans rfl⟩ (fun hHeld => ?_); refine with_tabW dataflowlaw04_GraphTells.tab3 dataflowlaw04_GraphTells.bits3 (fun HT_ HW_ => ?_)
      generalize w24.drew = w26 at BK231 HB hHeld ⊢
      refine take_ (i := 0) (N := some 10) (v := ?_) (a' := ?_) #[true, false, false, false, false, false, false, false, false, false, false, false, false, false, false, false, false, false, false, false, false, false, false, false, false, false, false, false, false, false, false, false, false, false] rfl rfl (take_ofW HT_.out HW_.out (by kernel_rfl)) (fun _ _ _ h => h) (Or.inl ⟨by rfl, ?_⟩) hHeld ?_ ?_
      rotate_left
      ·rintro w' ⟨s0, s1⟩
       go_simp
       with_reducible rfl
      rotate_left
      ·simp only [Act.put, uA_, uB_, uC_, i64_w, i32_w]
       rfl
      refine take_ (i := 2) (N := some 12) (v := ?_) (a' := ?_) #[true, false, true, false, false, false, false, false, false, false, false, false, false, false, false, false, false, false, false, false, false, false, false, false, false, false, false, false, false, false, false, false, false, false] rfl rfl (take_ofW HT_.out HW_.out (by kernel_rfl)) (fun _ _ _ h => h) (Or.inl ⟨by rfl, ?_⟩) hHeld ?_ ?_
      rotate_left
      ·rintro w' ⟨s0, s1⟩
       go_simp
       with_reducible rfl
      rotate_left
      ·simp only [Act.put, uA_, uB_, uC_, i64_w, i32_w]
       rfl
      refine one_ (i := 1) (N := some 11) #[true, true, true, false, false, false, false, false, false, false, false, false, false, false, false, false, false, false, false, false, false, false, false, false, false, false, false, false, false, false, false, false, false, false] rfl rfl (one_of HT_.out (by kernel_rfl)) (by decide) (fun K hK => ?_)
      refine goes_ Tryd.func34 (by kernel_rfl) rfl #[.agg #[.int .i64 a0_0, .slice A0_1 l0_1.length c0_1]] (by rfl) rfl rfl (by (try simp only [List.map_toArray, List.map_cons, List.map_nil]); first | done | rfl | (simp only [List.length_drop, List.length_take]; rfl)) ?_
      with_reducible refine (graph_Check.calls k a0_0 _ _ l0_1 t233 _ ?side1 ?side2 A8.out).mono ?_
      (case side1 => repeat (first | exact (Kd.C_below HR0_1.out HB.out) | (with_reducible refine Kd.C_alloc ?_ _) | (with_reducible refine Kd.C_drewN ?_ _) | (with_reducible refine Kd.C_drew ?_)))
      (case side2 => exact HC0_1.out)
      rintro e w27 ⟨rfl, hb⟩
      refine ⟨_, rfl, ?_⟩
      have n0_ := Aside0.mk (blk_below (g := gb231) (o := .cells #[.int .i64 a0_0, .slice A0_1 l0_1.length c0_1] 24 (0, 0)) (by (with_reducible repeat (first | refine blk_drewN ?_ _ | refine blk_drew ?_ | refine blk_alloc ?_ _)); exact BK231.out) hb)
      have n1_ := Aside0.mk (below_step (by repeat (first | (with_reducible first | exact HB.out | apply below_alloc | apply pw_below_drewN | apply below_drew1 | refine below_set ?_ GE231.out) | exact HB.out)) hb)
      clear BK231
      clear HB
      have BK231 := n0_
      have HB := n1_
      clear n0_ n1_
      (try clear hb)
      (try clear hb2)
      (try clear hk)
      (try clear hi)
      refine hK.out _ _ ⟨(blk_cell BK231.out 0).trans rfl, (blk_cell BK231.out 1).trans rfl⟩ (fun hHeld => ?_)
      clear hK K
      refine norm_ (a' := ?_) ?_ ?_
      rotate_left
      ·show Act.put _ (some 11) _ = _
       simp only [Act.put, uA_, uB_, uC_, i64_w, i32_w]
       rfl
      refine one_ (i := 3) (N := some 13) #[true, true, true, true, false, false, false, false, false, false, false, false, false, false, false, false, false, false, false, false, false, false, false, false, false, false, false, false, false, false, false, false, false, false] rfl rfl (one_of HT_.out (by kernel_rfl)) (by decide) (fun K hK => ?_)
      refine goes_ Tryd.func38 (by kernel_rfl) rfl #[.agg #[.int .i64 a0_0, .slice A0_1 l0_1.length c0_1]] (by rfl) rfl rfl (by (try simp only [List.map_toArray, List.map_cons, List.map_nil]); first | done | rfl | (simp only [List.length_drop, List.length_take]; rfl)) ?_
      with_reducible refine (dataflowref04_Check.calls k a0_0 _ _ l0_1 t234 _ ?side1 ?side2 A9.out).mono ?_
      (case side1 => repeat (first | exact (Kd.C_below HR0_1.out HB.out) | (with_reducible refine Kd.C_alloc ?_ _) | (with_reducible refine Kd.C_drewN ?_ _) | (with_reducible refine Kd.C_drew ?_)))
      (case side2 => exact HC0_1.out)
      rintro e w28 ⟨rfl, hb⟩
      refine ⟨_, rfl, ?_⟩
      have n0_ := Aside0.mk (blk_below (g := gb231) (o := .cells #[.int .i64 a0_0, .slice A0_1 l0_1.length c0_1] 24 (0, 0)) (by (with_reducible repeat (first | refine blk_drewN ?_ _ | refine blk_drew ?_ | refine blk_alloc ?_ _)); exact BK231.out) hb)
      have n1_ := Aside0.mk (below_step (by repeat (first | (with_reducible first | exact HB.out | apply below_alloc | apply pw_below_drewN | apply below_drew1 | refine below_set ?_ GE231.out) | exact HB.out)) hb)
      clear BK231
      clear HB
      have BK231 := n0_
      have HB := n1_
      clear n0_ n1_
      (try clear hb)
      (try clear hb2)
      (try clear hk)
      (try clear hi)
      refine hK.out _ _ ⟨(blk_cell BK231.out 0).trans rfl, (blk_cell BK231.out 1).trans rfl⟩ (fun hHeld => ?_)
      clear hK K
      refine norm_ (a' := ?_) ?_ ?_
      rotate_left
      ·show Act.put _ (some 13) _ = _
       simp only [Act.put, uA_, uB_, uC_, i64_w, i32_w]
       rfl
      refine pure_ (i := 4) (N := some 14) (v := ?_) (a' := ?_) #[true, true, true, true, true, false, false, false, false, false, false, false, false, false, false, false, false, false, false, false, false, false, false, false, false, false, false, false, false, false, false, false, false, false] rfl rfl (any_of HT_.out (by kernel_rfl)) (fun _ _ _ h => h) (Or.inl ⟨by rfl, ?_⟩) ?_ ?_
      rotate_left
      ·intro w'
       go_simp
       with_reducible rfl
      rotate_left
      ·simp only [Act.put, uA_, uB_, uC_, i64_w, i32_w]
       rfl
      refine pure_ (i := 5) (N := some 15) (v := ?_) (a' := ?_) #[true, true, true, true, true, true, false, false, false, false, false, false, false, false, false, false, false, false, false, false, false, false, false, false, false, false, false, false, false, false, false, false, false, false] rfl rfl (any_of HT_.out (by kernel_rfl)) (fun _ _ _ h => h) (Or.inl ⟨by rfl, ?_⟩) ?_ ?_
      rotate_left
      ·intro w'
       go_simp
       with_reducible rfl
      rotate_left
      ·simp only [Act.put, uA_, uB_, uC_, i64_w, i32_w]
       rfl
      refine pure_ (i := 7) (N := some 17) (v := ?_) (a' := ?_) #[true, true, true, true, true, true, false, true, false, false, false, false, false, false, false, false, false, false, false, false, false, false, false, false, false, false, false, false, false, false, false, false, false, false] rfl rfl (any_of HT_.out (by kernel_rfl)) (fun _ _ _ h => h) (Or.inl ⟨by rfl, ?_⟩) ?_ ?_
      rotate_left
      ·intro w'
       go_simp
       with_reducible rfl
      rotate_left
      ·simp only [Act.put, uA_, uB_, uC_, i64_w, i32_w]
       rfl
      refine pure_ (i := 10) (N := some 20) (v := ?_) (a' := ?_) #[true, true, true, true, true, true, false, true, false, false, true, false, false, false, false, false, false, false, false, false, false, false, false, false, false, false, false, false, false, false, false, false, false, false] rfl rfl (any_of HT_.out (by kernel_rfl)) (fun _ _ _ h => h) (Or.inl ⟨by rfl, ?_⟩) ?_ ?_
      rotate_left
      ·intro w'
       go_simp
       with_reducible rfl
      rotate_left
      ·simp only [Act.put, uA_, uB_, uC_, i64_w, i32_w]
       rfl
      refine take_ (i := 6) (N := some 16) (v := ?_) (a' := ?_) #[true, true, true, true, true, true, true, true, false, false, true, false, false, false, false, false, false, false, false, false, false, false, false, false, false, false, false, false, false, false, false, false, false, false] rfl rfl (take_ofW HT_.out HW_.out (by kernel_rfl)) (fun _ _ _ h => h) (Or.inl ⟨by rfl, ?_⟩) hHeld ?_ ?_
      rotate_left
      ·rintro w' ⟨s0, s1⟩
       go_simp
       with_reducible rfl
      rotate_left
      ·simp only [Act.put, uA_, uB_, uC_, i64_w, i32_w]
       rfl
      refine take_ (i := 9) (N := some 19) (v := ?_) (a' := ?_) #[true, true, true, true, true, true, true, true, false, true, true, false, false, false, false, false, false, false, false, false, false, false, false, false, false, false, false, false, false, false, false, false, false, false] rfl rfl (take_ofW HT_.out HW_.out (by kernel_rfl)) (fun _ _ _ h => h) (Or.inl ⟨by rfl, ?_⟩) hHeld ?_ ?_
      rotate_left
      ·rintro w' ⟨s0, s1⟩
       go_simp
       with_reducible rfl
      rotate_left
      ·simp only [Act.put, uA_, uB_, uC_, i64_w, i32_w]
       rfl
      refine one_ (i := 8) (N := some 18) #[true, true, true, true, true, true, true, true, true, true, true, false, false, false, false, false, false, false, false, false, false, false, false, false, false, false, false, false, false, false, false, false, false, false] rfl rfl (one_of HT_.out (by kernel_rfl)) (by decide) (fun K hK => ?_)
      refine goes_ Tryd.func42 (by kernel_rfl) rfl #[.agg #[.int .i64 a0_0, .slice A0_1 l0_1.length c0_1], .int .i64 a1] (by rfl) rfl rfl (by (try simp only [List.map_toArray, List.map_cons, List.map_nil]); first | done | rfl | (simp only [List.length_drop, List.length_take]; rfl)) ?_
      with_reducible refine (graph_Succ.calls a0_0 _ _ l0_1 a1 t235 _ ?side1 ?side2 A11.out).mono ?_
      (case side1 => repeat (first | exact (Kd.C_below HR0_1.out HB.out) | (with_reducible refine Kd.C_alloc ?_ _) | (with_reducible refine Kd.C_drewN ?_ _) | (with_reducible refine Kd.C_drew ?_)))
      (case side2 => exact HC0_1.out)
      rintro e w29 ⟨v236, rfl, ho0, hb⟩
      refine ⟨_, rfl, ?_⟩
      have n0_ := Aside0.mk (Kd.R_lower ho0 (below_size (by repeat (first | (with_reducible first | exact HB.out | apply below_alloc | apply pw_below_drewN | apply below_drew1 | refine below_set ?_ GE231.out) | exact HB.out))))
      have n1_ := Aside0.mk (blk_below (g := gb231) (o := .cells #[.int .i64 a0_0, .slice A0_1 l0_1.length c0_1] 24 (0, 0)) (by (with_reducible repeat (first | refine blk_drewN ?_ _ | refine blk_drew ?_ | refine blk_alloc ?_ _)); exact BK231.out) hb)
      have n2_ := Aside0.mk (below_step (by repeat (first | (with_reducible first | exact HB.out | apply below_alloc | apply pw_below_drewN | apply below_drew1 | refine below_set ?_ GE231.out) | exact HB.out)) hb)
      clear BK231
      clear HB
      have HO237 := n0_
      have BK231 := n1_
      have HB := n2_
      clear n0_ n1_ n2_
      (try clear hb)
      (try clear hb2)
      (try clear hk)
      (try clear hi)
      (try clear ho0)
      refine hK.out _ _ ⟨(blk_cell BK231.out 0).trans rfl, (blk_cell BK231.out 1).trans rfl⟩ (fun hHeld => ?_)
      clear hK K
      refine norm_ (a' := ?_) ?_ ?_
      rotate_left
      ·show Act.put _ (some 18) _ = _
       simp only [Act.put, uA_, uB_, uC_, i64_w, i32_w]
       rfl
      refine one_ (i := 11) (N := some 21) #[true, true, true, true, true, true, true, true, true, true, true, true, false, false, false, false, false, false, false, false, false, false, false, false, false, false, false, false, false, false, false, false, false, false] rfl rfl (one_of HT_.out (by kernel_rfl)) (by decide) (fun K hK => ?_)
      refine goes_ Tryd.func21 (by kernel_rfl) rfl #[.agg #[.int .i64 a0_0, .slice A0_1 l0_1.length c0_1], .int .i64 a1] (by rfl) rfl rfl (by (try simp only [List.map_toArray, List.map_cons, List.map_nil]); first | done | rfl | (simp only [List.length_drop, List.length_take]; rfl)) ?_
      with_reducible refine (dataflowref04_Succ.calls k a0_0 _ _ l0_1 a1 t238 _ ?side1 ?side2 A12.out).mono ?_
      (case side1 => repeat (first | exact (Kd.C_below HR0_1.out HB.out) | (with_reducible refine Kd.C_alloc ?_ _) | (with_reducible refine Kd.C_drewN ?_ _) | (with_reducible refine Kd.C_drew ?_)))
      (case side2 => exact HC0_1.out)
      rintro e w30 ⟨v239, rfl, ho0, hb⟩
      refine ⟨_, rfl, ?_⟩
      have n0_ := Aside0.mk (Kd.R_elder' (by (with_reducible repeat (first | apply Kd.R_alloc | apply Kd.R_drewN | apply Kd.R_drew)); exact HO237.out) (Kd.R_base ho0) hb)
      have n1_ := Aside0.mk (Kd.R_lower (Kd.R_new' ho0 (Kd.R_lt (by (with_reducible repeat (first | apply Kd.R_alloc | apply Kd.R_drewN | apply Kd.R_drew)); exact HO237.out))) (below_size (by repeat (first | (with_reducible first | exact HB.out | apply below_alloc | apply pw_below_drewN | apply below_drew1 | refine below_set ?_ GE231.out) | exact HB.out))))
      have n2_ := Aside0.mk (blk_below (g := gb231) (o := .cells #[.int .i64 a0_0, .slice A0_1 l0_1.length c0_1] 24 (0, 0)) (by (with_reducible repeat (first | refine blk_drewN ?_ _ | refine blk_drew ?_ | refine blk_alloc ?_ _)); exact BK231.out) hb)
      have n3_ := Aside0.mk (below_step (by repeat (first | (with_reducible first | exact HB.out | apply below_alloc | apply pw_below_drewN | apply below_drew1 | refine below_set ?_ GE231.out) | exact HB.out)) hb)
      clear HO237
      clear BK231
      clear HB
      have HO237 := n0_
      have HO240 := n1_
      have BK231 := n2_
      have HB := n3_
      clear n0_ n1_ n2_ n3_
      (try clear hb)
      (try clear hb2)
      (try clear hk)
      (try clear hi)
      (try clear ho0)
      obtain ⟨Ao31, co31, eo31⟩ := Kd.R_slice HO237.out
      (first | subst eo31 | (injection eo31 with f1_ f2_ f3_; have f4_ := f1_.symm; have f5_ := f3_.symm; clear f1_ f2_ f3_; subst f4_; subst f5_))
      obtain ⟨Ao32, co32, eo32⟩ := Kd.R_slice HO240.out
      (first | subst eo32 | (injection eo32 with f1_ f2_ f3_; have f4_ := f1_.symm; have f5_ := f3_.symm; clear f1_ f2_ f3_; subst f4_; subst f5_))
      refine hK.out _ _ ⟨(blk_cell BK231.out 0).trans rfl, (blk_cell BK231.out 1).trans rfl⟩ (fun hHeld => ?_)
      clear hK K
      refine norm_ (a' := ?_) ?_ ?_
      rotate_left
      ·show Act.put _ (some 21) _ = _
       simp only [Act.put, uA_, uB_, uC_, i64_w, i32_w]
       rfl
      refine one_ (i := 12) (N := some 22) #[true, true, true, true, true, true, true, true, true, true, true, true, true, false, false, false, false, false, false, false, false, false, false, false, false, false, false, false, false, false, false, false, false, false] rfl rfl (one_of HT_.out (by kernel_rfl)) (by decide) (fun K hK => ?_)
      refine goes_ Tryd.func36 (by kernel_rfl) rfl #[.slice Ao31 t235.length co31, .slice Ao32 t238.length co32] (by rfl) rfl rfl (by (try simp only [List.map_toArray, List.map_cons, List.map_nil]); first | done | rfl | (simp only [List.length_drop, List.length_take]; rfl)) ?_
      with_reducible refine (dataflowref04_Equal.calls k _ _ t235 _ _ t238 true _ ?side1 ?side2 ?side3 ?side4 A13.out).mono ?_
      (case side1 => repeat (first | exact (Kd.R_reads' HO237.out).2.2 | (with_reducible refine Kd.C_alloc ?_ _) | (with_reducible refine Kd.C_drewN ?_ _) | (with_reducible refine Kd.C_drew ?_)))
      (case side2 => exact (Kd.R_reads' HO237.out).2.1)
      (case side3 => repeat (first | exact (Kd.R_reads' HO240.out).2.2 | (with_reducible refine Kd.C_alloc ?_ _) | (with_reducible refine Kd.C_drewN ?_ _) | (with_reducible refine Kd.C_drew ?_)))
      (case side4 => exact (Kd.R_reads' HO240.out).2.1)
      rintro e w' ⟨rfl, ⟨nd, rfl⟩⟩
      refine ⟨_, rfl, ?_⟩
      refine hK.out _ _ ⟨(blk_cell BK231.out 0).trans rfl, (blk_cell BK231.out 1).trans rfl⟩ (fun hHeld => ?_)
      clear hK K
      refine norm_ (a' := ?_) ?_ ?_
      rotate_left
      ·show Act.put _ (some 22) _ = _
       simp only [Act.put, uA_, uB_, uC_, i64_w, i32_w]
       rfl
      refine pure_ (i := 13) (N := some 23) (v := ?_) (a' := ?_) #[true, true, true, true, true, true, true, true, true, true, true, true, true, true, false, false, false, false, false, false, false, false, false, false, false, false, false, false, false, false, false, false, false, false] rfl rfl (any_of HT_.out (by kernel_rfl)) (fun _ _ _ h => h) (Or.inl ⟨by rfl, ?_⟩) ?_ ?_
      rotate_left
      ·intro w'
       go_simp
       with_reducible rfl
      rotate_left
      ·simp only [Act.put, uA_, uB_, uC_, i64_w, i32_w]
       rfl
      refine pure_ (i := 14) (N := some 24) (v := ?_) (a' := ?_) #[true, true, true, true, true, true, true, true, true, true, true, true, true, true, true, false, false, false, false, false, false, false, false, false, false, false, false, false, false, false, false, false, false, false] rfl rfl (any_of HT_.out (by kernel_rfl)) (fun _ _ _ h => h) (Or.inl ⟨by rfl, ?_⟩) ?_ ?_
      rotate_left
      ·intro w'
       go_simp
       with_reducible rfl
      rotate_left
      ·simp only [Act.put, uA_, uB_, uC_, i64_w, i32_w]
       rfl
      refine pure_ (i := 16) (N := some 26) (v := ?_) (a' := ?_) #[true, true, true, true, true, true, true, true, true, true, true, true, true, true, true, false, true, false, false, false, false, false, false, false, false, false, false, false, false, false, false, false, false, false] rfl rfl (any_of HT_.out (by kernel_rfl)) (fun _ _ _ h => h) (Or.inl ⟨by rfl, ?_⟩) ?_ ?_
      rotate_left
      ·intro w'
       go_simp
       with_reducible rfl
      rotate_left
      ·simp only [Act.put, uA_, uB_, uC_, i64_w, i32_w]
       rfl
      refine pure_ (i := 19) (N := some 29) (v := ?_) (a' := ?_) #[true, true, true, true, true, true, true, true, true, true, true, true, true, true, true, false, true, false, false, true, false, false, false, false, false, false, false, false, false, false, false, false, false, false] rfl rfl (any_of HT_.out (by kernel_rfl)) (fun _ _ _ h => h) (Or.inl ⟨by rfl, ?_⟩) ?_ ?_
      rotate_left
      ·intro w'
       go_simp
       with_reducible rfl
      rotate_left
      ·simp only [Act.put, uA_, uB_, uC_, i64_w, i32_w]
       rfl
      refine take_ (i := 15) (N := some 25) (v := ?_) (a' := ?_) #[true, true, true, true, true, true, true, true, true, true, true, true, true, true, true, true, true, false, false, true, false, false, false, false, false, false, false, false, false, false, false, false, false, false] rfl rfl (take_ofW HT_.out HW_.out (by kernel_rfl)) (fun _ _ _ h => h) (Or.inl ⟨by rfl, ?_⟩) hHeld ?_ ?_
      rotate_left
      ·rintro w' ⟨s0, s1⟩
       go_simp
       with_reducible rfl
      rotate_left
      ·simp only [Act.put, uA_, uB_, uC_, i64_w, i32_w]
       rfl
      refine take_ (i := 18) (N := some 28) (v := ?_) (a' := ?_) #[true, true, true, true, true, true, true, true, true, true, true, true, true, true, true, true, true, false, true, true, false, false, false, false, false, false, false, false, false, false, false, false, false, false] rfl rfl (take_ofW HT_.out HW_.out (by kernel_rfl)) (fun _ _ _ h => h) (Or.inl ⟨by rfl, ?_⟩) hHeld ?_ ?_
      rotate_left
      ·rintro w' ⟨s0, s1⟩
       go_simp
       with_reducible rfl
      rotate_left
      ·simp only [Act.put, uA_, uB_, uC_, i64_w, i32_w]
       rfl
      refine one_ (i := 17) (N := some 27) #[true, true, true, true, true, true, true, true, true, true, true, true, true, true, true, true, true, true, true, true, false, false, false, false, false, false, false, false, false, false, false, false, false, false] rfl rfl (one_of HT_.out (by kernel_rfl)) (by decide) (fun K hK => ?_)
      refine goes_ Tryd.func45 (by kernel_rfl) rfl #[.agg #[.int .i64 a0_0, .slice A0_1 l0_1.length c0_1], .int .i64 a1] (by rfl) rfl rfl (by (try simp only [List.map_toArray, List.map_cons, List.map_nil]); first | done | rfl | (simp only [List.length_drop, List.length_take]; rfl)) ?_
      with_reducible refine (graph_Pred.calls k a0_0 _ _ l0_1 a1 t242 _ ?side1 ?side2 A15.out).mono ?_
      (case side1 => repeat (first | exact (Kd.C_below HR0_1.out (by repeat (first | (with_reducible first | exact HB.out | apply below_alloc | apply pw_below_drewN | apply below_drew1 | refine below_set ?_ GE231.out) | exact HB.out))) | (with_reducible refine Kd.C_alloc ?_ _) | (with_reducible refine Kd.C_drewN ?_ _) | (with_reducible refine Kd.C_drew ?_)))
      (case side2 => exact HC0_1.out)
      rintro e w33 ⟨v243, rfl, ho0, hb⟩
      refine ⟨_, rfl, ?_⟩
      have n0_ := Aside0.mk (Kd.R_elder' (by (with_reducible repeat (first | apply Kd.R_alloc | apply Kd.R_drewN | apply Kd.R_drew)); exact HO237.out) (Kd.R_base ho0) hb)
      have n1_ := Aside0.mk (Kd.R_elder' (by (with_reducible repeat (first | apply Kd.R_alloc | apply Kd.R_drewN | apply Kd.R_drew)); exact HO240.out) (Kd.R_base ho0) hb)
      have n2_ := Aside0.mk (Kd.R_lower (Kd.R_new' (Kd.R_new' ho0 (Kd.R_lt (by (with_reducible repeat (first | apply Kd.R_alloc | apply Kd.R_drewN | apply Kd.R_drew)); exact HO237.out))) (Kd.R_lt (by (with_reducible repeat (first | apply Kd.R_alloc | apply Kd.R_drewN | apply Kd.R_drew)); exact HO240.out))) (below_size (by repeat (first | (with_reducible first | exact HB.out | apply below_alloc | apply pw_below_drewN | apply below_drew1 | refine below_set ?_ GE231.out) | exact HB.out))))
      have n3_ := Aside0.mk (blk_below (g := gb231) (o := .cells #[.int .i64 a0_0, .slice A0_1 l0_1.length c0_1] 24 (0, 0)) (by (with_reducible repeat (first | refine blk_drewN ?_ _ | refine blk_drew ?_ | refine blk_alloc ?_ _)); exact BK231.out) hb)
      have n4_ := Aside0.mk (below_step (by repeat (first | (with_reducible first | exact HB.out | apply below_alloc | apply pw_below_drewN | apply below_drew1 | refine below_set ?_ GE231.out) | exact HB.out)) hb)
      clear HO237
      clear HO240
      clear BK231
      clear HB
      have HO237 := n0_
      have HO240 := n1_
      have HO244 := n2_
      have BK231 := n3_
      have HB := n4_
      clear n0_ n1_ n2_ n3_ n4_
      (try clear hb)
      (try clear hb2)
      (try clear hk)
      (try clear hi)
      (try clear ho0)
      refine hK.out _ _ ⟨(blk_cell BK231.out 0).trans rfl, (blk_cell BK231.out 1).trans rfl⟩ (fun hHeld => ?_)
      clear hK K
      refine norm_ (a' := ?_) ?_ ?_
      rotate_left
      ·show Act.put _ (some 27) _ = _
       simp only [Act.put, uA_, uB_, uC_, i64_w, i32_w]
       rfl
      refine one_ (i := 20) (N := some 30) #[true, true, true, true, true, true, true, true, true, true, true, true, true, true, true, true, true, true, true, true, true, false, false, false, false, false, false, false, false, false, false, false, false, false] rfl rfl (one_of HT_.out (by kernel_rfl)) (by decide) (fun K hK => ?_)
      refine goes_ Tryd.func46 (by kernel_rfl) rfl #[.agg #[.int .i64 a0_0, .slice A0_1 l0_1.length c0_1], .int .i64 a1] (by rfl) rfl rfl (by (try simp only [List.map_toArray, List.map_cons, List.map_nil]); first | done | rfl | (simp only [List.length_drop, List.length_take]; rfl)) ?_
      with_reducible refine (dataflowref04_Pred.calls k a0_0 _ _ l0_1 a1 t245 _ ?side1 ?side2 A16.out).mono ?_
      (case side1 => repeat (first | exact (Kd.C_below HR0_1.out HB.out) | (with_reducible refine Kd.C_alloc ?_ _) | (with_reducible refine Kd.C_drewN ?_ _) | (with_reducible refine Kd.C_drew ?_)))
      (case side2 => exact HC0_1.out)
      rintro e w34 ⟨v246, rfl, ho0, hb⟩
      refine ⟨_, rfl, ?_⟩
      have n0_ := Aside0.mk (Kd.R_elder' (by (with_reducible repeat (first | apply Kd.R_alloc | apply Kd.R_drewN | apply Kd.R_drew)); exact HO237.out) (Kd.R_base ho0) hb)
      have n1_ := Aside0.mk (Kd.R_elder' (by (with_reducible repeat (first | apply Kd.R_alloc | apply Kd.R_drewN | apply Kd.R_drew)); exact HO240.out) (Kd.R_base ho0) hb)
      have n2_ := Aside0.mk (Kd.R_elder' (by (with_reducible repeat (first | apply Kd.R_alloc | apply Kd.R_drewN | apply Kd.R_drew)); exact HO244.out) (Kd.R_base ho0) hb)
      have n3_ := Aside0.mk (Kd.R_lower (Kd.R_new' (Kd.R_new' (Kd.R_new' ho0 (Kd.R_lt (by (with_reducible repeat (first | apply Kd.R_alloc | apply Kd.R_drewN | apply Kd.R_drew)); exact HO237.out))) (Kd.R_lt (by (with_reducible repeat (first | apply Kd.R_alloc | apply Kd.R_drewN | apply Kd.R_drew)); exact HO240.out))) (Kd.R_lt (by (with_reducible repeat (first | apply Kd.R_alloc | apply Kd.R_drewN | apply Kd.R_drew)); exact HO244.out))) (below_size (by repeat (first | (with_reducible first | exact HB.out | apply below_alloc | apply pw_below_drewN | apply below_drew1 | refine below_set ?_ GE231.out) | exact HB.out))))
      have n4_ := Aside0.mk (blk_below (g := gb231) (o := .cells #[.int .i64 a0_0, .slice A0_1 l0_1.length c0_1] 24 (0, 0)) (by (with_reducible repeat (first | refine blk_drewN ?_ _ | refine blk_drew ?_ | refine blk_alloc ?_ _)); exact BK231.out) hb)
      have n5_ := Aside0.mk (below_step (by repeat (first | (with_reducible first | exact HB.out | apply below_alloc | apply pw_below_drewN | apply below_drew1 | refine below_set ?_ GE231.out) | exact HB.out)) hb)
      clear HO237
      clear HO240
      clear HO244
      clear BK231
      clear HB
      have HO237 := n0_
      have HO240 := n1_
      have HO244 := n2_
      have HO247 := n3_
      have BK231 := n4_
      have HB := n5_
      clear n0_ n1_ n2_ n3_ n4_ n5_
      (try clear hb)
      (try clear hb2)
      (try clear hk)
      (try clear hi)
      (try clear ho0)
      obtain ⟨Ao35, co35, eo35⟩ := Kd.R_slice HO244.out
      (first | subst eo35 | (injection eo35 with f1_ f2_ f3_; have f4_ := f1_.symm; have f5_ := f3_.symm; clear f1_ f2_ f3_; subst f4_; subst f5_))
      obtain ⟨Ao36, co36, eo36⟩ := Kd.R_slice HO247.out
      (first | subst eo36 | (injection eo36 with f1_ f2_ f3_; have f4_ := f1_.symm; have f5_ := f3_.symm; clear f1_ f2_ f3_; subst f4_; subst f5_))
      refine hK.out _ _ ⟨(blk_cell BK231.out 0).trans rfl, (blk_cell BK231.out 1).trans rfl⟩ (fun hHeld => ?_)
      clear hK K
      refine norm_ (a' := ?_) ?_ ?_
      rotate_left
      ·show Act.put _ (some 30) _ = _
       simp only [Act.put, uA_, uB_, uC_, i64_w, i32_w]
       rfl
      refine one_ (i := 21) (N := some 31) #[true, true, true, true, true, true, true, true, true, true, true, true, true, true, true, true, true, true, true, true, true, true, false, false, false, false, false, false, false, false, false, false, false, false] rfl rfl (one_of HT_.out (by kernel_rfl)) (by decide) (fun K hK => ?_)
      refine goes_ Tryd.func36 (by kernel_rfl) rfl #[.slice Ao35 t242.length co35, .slice Ao36 t245.length co36] (by rfl) rfl rfl (by (try simp only [List.map_toArray, List.map_cons, List.map_nil]); first | done | rfl | (simp only [List.length_drop, List.length_take]; rfl)) ?_
      with_reducible refine (dataflowref04_Equal.calls k _ _ t242 _ _ t245 true _ ?side1 ?side2 ?side3 ?side4 A17.out).mono ?_
      (case side1 => repeat (first | exact (Kd.R_reads' HO244.out).2.2 | (with_reducible refine Kd.C_alloc ?_ _) | (with_reducible refine Kd.C_drewN ?_ _) | (with_reducible refine Kd.C_drew ?_)))
      (case side2 => exact (Kd.R_reads' HO244.out).2.1)
      (case side3 => repeat (first | exact (Kd.R_reads' HO247.out).2.2 | (with_reducible refine Kd.C_alloc ?_ _) | (with_reducible refine Kd.C_drewN ?_ _) | (with_reducible refine Kd.C_drew ?_)))
      (case side4 => exact (Kd.R_reads' HO247.out).2.1)
      rintro e w' ⟨rfl, ⟨nd, rfl⟩⟩
      refine ⟨_, rfl, ?_⟩
      refine hK.out _ _ ⟨(blk_cell BK231.out 0).trans rfl, (blk_cell BK231.out 1).trans rfl⟩ (fun hHeld => ?_)
      clear hK K
      refine norm_ (a' := ?_) ?_ ?_
      rotate_left
      ·show Act.put _ (some 31) _ = _
       simp only [Act.put, uA_, uB_, uC_, i64_w, i32_w]
       rfl
      refine pure_ (i := 22) (N := some 32) (v := ?_) (a' := ?_) #[true, true, true, true, true, true, true, true, true, true, true, true, true, true, true, true, true, true, true, true, true, true, true, false, false, false, false, false, false, false, false, false, false, false] rfl rfl (any_of HT_.out (by kernel_rfl)) (fun _ _ _ h => h) (Or.inl ⟨by rfl, ?_⟩) ?_ ?_
      rotate_left
      ·intro w'
       go_simp
       with_reducible rfl
      rotate_left
      ·simp only [Act.put, uA_, uB_, uC_, i64_w, i32_w]
       rfl
      refine pure_ (i := 23) (N := some 33) (v := ?_) (a' := ?_) #[true, true, true, true, true, true, true, true, true, true, true, true, true, true, true, true, true, true, true, true, true, true, true, true, false, false, false, false, false, false, false, false, false, false] rfl rfl (any_of HT_.out (by kernel_rfl)) (fun _ _ _ h => h) (Or.inl ⟨by rfl, ?_⟩) ?_ ?_
      rotate_left
      ·intro w'
       go_simp
       with_reducible rfl
      rotate_left
      ·simp only [Act.put, uA_, uB_, uC_, i64_w, i32_w]
       rfl
      refine take_ (i := 24) (N := some 34) (v := ?_) (a' := ?_) #[true, true, true, true, true, true, true, true, true, true, true, true, true, true, true, true, true, true, true, true, true, true, true, true, true, false, false, false, false, false, false, false, false, false] rfl rfl (take_ofW HT_.out HW_.out (by kernel_rfl)) (fun _ _ _ h => h) (Or.inl ⟨by rfl, ?_⟩) hHeld ?_ ?_
      rotate_left
      ·rintro w' ⟨s0, s1⟩
       go_simp
       with_reducible rfl
      rotate_left
      ·simp only [Act.put, uA_, uB_, uC_, i64_w, i32_w]
       rfl
      refine take_ (i := 26) (N := some 36) (v := ?_) (a' := ?_) #[true, true, true, true, true, true, true, true, true, true, true, true, true, true, true, true, true, true, true, true, true, true, true, true, true, false, true, false, false, false, false, false, false, false] rfl rfl (take_ofW HT_.out HW_.out (by kernel_rfl)) (fun _ _ _ h => h) (Or.inl ⟨by rfl, ?_⟩) hHeld ?_ ?_
      rotate_left
      ·rintro w' ⟨s0, s1⟩
       go_simp
       with_reducible rfl
      rotate_left
      ·simp only [Act.put, uA_, uB_, uC_, i64_w, i32_w]
       rfl
      refine one_ (i := 25) (N := some 35) #[true, true, true, true, true, true, true, true, true, true, true, true, true, true, true, true, true, true, true, true, true, true, true, true, true, true, true, false, false, false, false, false, false, false] rfl rfl (one_of HT_.out (by kernel_rfl)) (by decide) (fun K hK => ?_)
      refine goes_ Tryd.func47 (by kernel_rfl) rfl #[.agg #[.int .i64 a0_0, .slice A0_1 l0_1.length c0_1]] (by rfl) rfl rfl (by (try simp only [List.map_toArray, List.map_cons, List.map_nil]); first | done | rfl | (simp only [List.length_drop, List.length_take]; rfl)) ?_
      with_reducible refine (graph_Reverse.calls a0_0 _ _ l0_1 t249 t250 _ ?side1 ?side2 A19.out).mono ?_
      (case side1 => repeat (first | exact (Kd.C_below HR0_1.out (by repeat (first | (with_reducible first | exact HB.out | apply below_alloc | apply pw_below_drewN | apply below_drew1 | refine below_set ?_ GE231.out) | exact HB.out))) | (with_reducible refine Kd.C_alloc ?_ _) | (with_reducible refine Kd.C_drewN ?_ _) | (with_reducible refine Kd.C_drew ?_)))
      (case side2 => exact HC0_1.out)
      rintro e w37 ⟨v251, rfl, ho0, hb⟩
      refine ⟨_, rfl, ?_⟩
      have n0_ := Aside0.mk (Kd.R_below (by (with_reducible repeat (first | apply Kd.R_alloc | apply Kd.R_drewN | apply Kd.R_drew)); exact HO237.out) hb)
      have n1_ := Aside0.mk (Kd.R_below (by (with_reducible repeat (first | apply Kd.R_alloc | apply Kd.R_drewN | apply Kd.R_drew)); exact HO240.out) hb)
      have n2_ := Aside0.mk (Kd.R_below (by (with_reducible repeat (first | apply Kd.R_alloc | apply Kd.R_drewN | apply Kd.R_drew)); exact HO244.out) hb)
      have n3_ := Aside0.mk (Kd.R_below (by (with_reducible repeat (first | apply Kd.R_alloc | apply Kd.R_drewN | apply Kd.R_drew)); exact HO247.out) hb)
      have n4_ := Aside0.mk (Kd.R_lower ho0 (below_size (by repeat (first | (with_reducible first | exact HB.out | apply below_alloc | apply pw_below_drewN | apply below_drew1 | refine below_set ?_ GE231.out) | exact HB.out))))
      have n5_ := Aside0.mk (blk_below (g := gb231) (o := .cells #[.int .i64 a0_0, .slice A0_1 l0_1.length c0_1] 24 (0, 0)) (by (with_reducible repeat (first | refine blk_drewN ?_ _ | refine blk_drew ?_ | refine blk_alloc ?_ _)); exact BK231.out) hb)
      have n6_ := Aside0.mk (below_step (by repeat (first | (with_reducible first | exact HB.out | apply below_alloc | apply pw_below_drewN | apply below_drew1 | refine below_set ?_ GE231.out) | exact HB.out)) hb)
      clear HO237
      clear HO240
      clear HO244
      clear HO247
      clear BK231
      clear HB
      have HO237 := n0_
      have HO240 := n1_
      have HO244 := n2_
      have HO247 := n3_
      have HO252 := n4_
      have BK231 := n5_
      have HB := n6_
      clear n0_ n1_ n2_ n3_ n4_ n5_ n6_
      (try clear hb)
      (try clear hb2)
      (try clear hk)
      (try clear hi)
      (try clear ho0)
      refine hK.out _ _ ⟨(blk_cell BK231.out 0).trans rfl, (blk_cell BK231.out 1).trans rfl⟩ (fun hHeld => ?_)
      clear hK K
      refine norm_ (a' := ?_) ?_ ?_
      rotate_left
      ·show Act.put _ (some 35) _ = _
       simp only [Act.put, uA_, uB_, uC_, i64_w, i32_w]
       rfl
      refine one_ (i := 27) (N := some 37) #[true, true, true, true, true, true, true, true, true, true, true, true, true, true, true, true, true, true, true, true, true, true, true, true, true, true, true, true, false, false, false, false, false, false] rfl rfl (one_of HT_.out (by kernel_rfl)) (by decide) (fun K hK => ?_)
      refine goes_ Tryd.func48 (by kernel_rfl) rfl #[.agg #[.int .i64 a0_0, .slice A0_1 l0_1.length c0_1]] (by rfl) rfl rfl (by (try simp only [List.map_toArray, List.map_cons, List.map_nil]); first | done | rfl | (simp only [List.length_drop, List.length_take]; rfl)) ?_
      with_reducible refine (dataflowref04_Reverse.calls k a0_0 _ _ l0_1 t253 t254 _ ?side1 ?side2 A20.out).mono ?_
      (case side1 => repeat (first | exact (Kd.C_below HR0_1.out HB.out) | (with_reducible refine Kd.C_alloc ?_ _) | (with_reducible refine Kd.C_drewN ?_ _) | (with_reducible refine Kd.C_drew ?_)))
      (case side2 => exact HC0_1.out)
      rintro e w38 ⟨v255, rfl, ho0, hb⟩
      refine ⟨_, rfl, ?_⟩
      have n0_ := Aside0.mk (Kd.R_below (by (with_reducible repeat (first | apply Kd.R_alloc | apply Kd.R_drewN | apply Kd.R_drew)); exact HO237.out) hb)
      have n1_ := Aside0.mk (Kd.R_below (by (with_reducible repeat (first | apply Kd.R_alloc | apply Kd.R_drewN | apply Kd.R_drew)); exact HO240.out) hb)
      have n2_ := Aside0.mk (Kd.R_below (by (with_reducible repeat (first | apply Kd.R_alloc | apply Kd.R_drewN | apply Kd.R_drew)); exact HO244.out) hb)
      have n3_ := Aside0.mk (Kd.R_below (by (with_reducible repeat (first | apply Kd.R_alloc | apply Kd.R_drewN | apply Kd.R_drew)); exact HO247.out) hb)
      have n4_ := Aside0.mk (Kd.R_elder' (by (with_reducible repeat (first | apply Kd.R_alloc | apply Kd.R_drewN | apply Kd.R_drew)); exact HO252.out) (Kd.R_base ho0) hb)
      have n5_ := Aside0.mk (Kd.R_lower (Kd.R_new' ho0 (Kd.R_lt (by (with_reducible repeat (first | apply Kd.R_alloc | apply Kd.R_drewN | apply Kd.R_drew)); exact HO252.out))) (below_size (by repeat (first | (with_reducible first | exact HB.out | apply below_alloc | apply pw_below_drewN | apply below_drew1 | refine below_set ?_ GE231.out) | exact HB.out))))
      have n6_ := Aside0.mk (blk_below (g := gb231) (o := .cells #[.int .i64 a0_0, .slice A0_1 l0_1.length c0_1] 24 (0, 0)) (by (with_reducible repeat (first | refine blk_drewN ?_ _ | refine blk_drew ?_ | refine blk_alloc ?_ _)); exact BK231.out) hb)
      have n7_ := Aside0.mk (below_step (by repeat (first | (with_reducible first | exact HB.out | apply below_alloc | apply pw_below_drewN | apply below_drew1 | refine below_set ?_ GE231.out) | exact HB.out)) hb)
      clear HO237
      clear HO240
      clear HO244
      clear HO247
      clear HO252
      clear BK231
      clear HB
      have HO237 := n0_
      have HO240 := n1_
      have HO244 := n2_
      have HO247 := n3_
      have HO252 := n4_
      have HO256 := n5_
      have BK231 := n6_
      have HB := n7_
      clear n0_ n1_ n2_ n3_ n4_ n5_ n6_ n7_
      (try clear hb)
      (try clear hb2)
      (try clear hk)
      (try clear hi)
      (try clear ho0)
      obtain ⟨Ao39, co39, eo39⟩ := Kd.R_slice HO252.out
      (first | subst eo39 | (injection eo39 with f1_ f2_ f3_; have f4_ := f1_.symm; have f5_ := f3_.symm; clear f1_ f2_ f3_; subst f4_; subst f5_))
      obtain ⟨Ao40, co40, eo40⟩ := Kd.R_slice HO256.out
      (first | subst eo40 | (injection eo40 with f1_ f2_ f3_; have f4_ := f1_.symm; have f5_ := f3_.symm; clear f1_ f2_ f3_; subst f4_; subst f5_))
      refine hK.out _ _ ⟨(blk_cell BK231.out 0).trans rfl, (blk_cell BK231.out 1).trans rfl⟩ (fun hHeld => ?_)
      clear hK K
      refine norm_ (a' := ?_) ?_ ?_
      rotate_left
      ·show Act.put _ (some 37) _ = _
       simp only [Act.put, uA_, uB_, uC_, i64_w, i32_w]
       rfl
      refine one_ (i := 28) (N := some 38) #[true, true, true, true, true, true, true, true, true, true, true, true, true, true, true, true, true, true, true, true, true, true, true, true, true, true, true, true, true, false, false, false, false, false] rfl rfl (one_of HT_.out (by kernel_rfl)) (by decide) (fun K hK => ?_)
      refine goes_ Tryd.func33 (by kernel_rfl) rfl #[.agg #[.int .i64 t249, .slice Ao39 t250.length co39], .agg #[.int .i64 t253, .slice Ao40 t254.length co40]] (by rfl) rfl rfl (by (try simp only [List.map_toArray, List.map_cons, List.map_nil]); first | done | rfl | (simp only [List.length_drop, List.length_take]; rfl)) ?_
      with_reducible refine (dataflowref04_Same.calls k t249 _ _ t250 t253 _ _ t254 true _ ?side1 ?side2 ?side3 ?side4 A21.out).mono ?_
      (case side1 => repeat (first | exact (Kd.R_reads' HO252.out).2.2 | (with_reducible refine Kd.C_alloc ?_ _) | (with_reducible refine Kd.C_drewN ?_ _) | (with_reducible refine Kd.C_drew ?_)))
      (case side2 => exact (Kd.R_reads' HO252.out).2.1)
      (case side3 => repeat (first | exact (Kd.R_reads' HO256.out).2.2 | (with_reducible refine Kd.C_alloc ?_ _) | (with_reducible refine Kd.C_drewN ?_ _) | (with_reducible refine Kd.C_drew ?_)))
      (case side4 => exact (Kd.R_reads' HO256.out).2.1)
      rintro e w41 ⟨rfl, hb⟩
      refine ⟨_, rfl, ?_⟩
      have n0_ := Aside0.mk (Kd.R_below (by (with_reducible repeat (first | apply Kd.R_alloc | apply Kd.R_drewN | apply Kd.R_drew)); exact HO237.out) hb)
      have n1_ := Aside0.mk (Kd.R_below (by (with_reducible repeat (first | apply Kd.R_alloc | apply Kd.R_drewN | apply Kd.R_drew)); exact HO240.out) hb)
      have n2_ := Aside0.mk (Kd.R_below (by (with_reducible repeat (first | apply Kd.R_alloc | apply Kd.R_drewN | apply Kd.R_drew)); exact HO244.out) hb)
      have n3_ := Aside0.mk (Kd.R_below (by (with_reducible repeat (first | apply Kd.R_alloc | apply Kd.R_drewN | apply Kd.R_drew)); exact HO247.out) hb)
      have n4_ := Aside0.mk (Kd.R_below (by (with_reducible repeat (first | apply Kd.R_alloc | apply Kd.R_drewN | apply Kd.R_drew)); exact HO252.out) hb)
      have n5_ := Aside0.mk (Kd.R_below (by (with_reducible repeat (first | apply Kd.R_alloc | apply Kd.R_drewN | apply Kd.R_drew)); exact HO256.out) hb)
      have n6_ := Aside0.mk (blk_below (g := gb231) (o := .cells #[.int .i64 a0_0, .slice A0_1 l0_1.length c0_1] 24 (0, 0)) (by (with_reducible repeat (first | refine blk_drewN ?_ _ | refine blk_drew ?_ | refine blk_alloc ?_ _)); exact BK231.out) hb)
      have n7_ := Aside0.mk (below_step (by repeat (first | (with_reducible first | exact HB.out | apply below_alloc | apply pw_below_drewN | apply below_drew1 | refine below_set ?_ GE231.out) | exact HB.out)) hb)
      clear HO237
      clear HO240
      clear HO244
      clear HO247
      clear HO252
      clear HO256
      clear BK231
      clear HB
      have HO237 := n0_
      have HO240 := n1_
      have HO244 := n2_
      have HO247 := n3_
      have HO252 := n4_
      have HO256 := n5_
      have BK231 := n6_
      have HB := n7_
      clear n0_ n1_ n2_ n3_ n4_ n5_ n6_ n7_
      (try clear hb)
      (try clear hb2)
      (try clear hk)
      (try clear hi)
      refine hK.out _ _ ⟨(blk_cell BK231.out 0).trans rfl, (blk_cell BK231.out 1).trans rfl⟩ (fun hHeld => ?_)
      clear hK K
      refine norm_ (a' := ?_) ?_ ?_
      rotate_left
      ·show Act.put _ (some 38) _ = _
       simp only [Act.put, uA_, uB_, uC_, i64_w, i32_w]
       rfl
      refine pure_ (i := 29) (N := some 39) (v := ?_) (a' := ?_) #[true, true, true, true, true, true, true, true, true, true, true, true, true, true, true, true, true, true, true, true, true, true, true, true, true, true, true, true, true, true, false, false, false, false] rfl rfl (any_of HT_.out (by kernel_rfl)) (fun _ _ _ h => h) (Or.inl ⟨by rfl, ?_⟩) ?_ ?_
      rotate_left
      ·intro w'
       go_simp
       with_reducible rfl
      rotate_left
      ·simp only [Act.put, uA_, uB_, uC_, i64_w, i32_w]
       rfl
      refine pure_ (i := 30) (N := some 40) (v := ?_) (a' := ?_) #[true, true, true, true, true, true, true, true, true, true, true, true, true, true, true, true, true, true, true, true, true, true, true, true, true, true, true, true, true, true, true, false, false, false] rfl rfl (any_of HT_.out (by kernel_rfl)) (fun _ _ _ h => h) (Or.inl ⟨by rfl, ?_⟩) ?_ ?_
      rotate_left
      ·intro w'
       go_simp
       with_reducible rfl
      rotate_left
      ·simp only [Act.put, uA_, uB_, uC_, i64_w, i32_w]
       rfl
      refine one_ (i := 31) (N := some 41) #[true, true, true, true, true, true, true, true, true, true, true, true, true, true, true, true, true, true, true, true, true, true, true, true, true, true, true, true, true, true, true, true, false, false] rfl rfl (one_of HT_.out (by kernel_rfl)) (by decide) (fun K hK => ?_)
      refine goes_ Tryd.func30 (by kernel_rfl) rfl #[] (by rfl) rfl rfl (by (try simp only [List.map_toArray, List.map_cons, List.map_nil]); first | done | rfl | (simp only [List.length_drop, List.length_take]; rfl)) ?_
      with_reducible refine (dataflowlaw04_awake.calls  t258 _ ?side1 A23.out).mono ?_
      (case side1 => exact TabW.below HG_.out (by repeat (first | (with_reducible first | exact HB.out | apply below_alloc | apply pw_below_drewN | apply below_drew1 | refine below_set ?_ GE231.out) | exact HB.out)))
      rintro e w42 ⟨rfl, hb⟩
      refine ⟨_, rfl, ?_⟩
      have n0_ := Aside0.mk (Kd.R_below (by (with_reducible repeat (first | apply Kd.R_alloc | apply Kd.R_drewN | apply Kd.R_drew)); exact HO237.out) hb)
      have n1_ := Aside0.mk (Kd.R_below (by (with_reducible repeat (first | apply Kd.R_alloc | apply Kd.R_drewN | apply Kd.R_drew)); exact HO240.out) hb)
      have n2_ := Aside0.mk (Kd.R_below (by (with_reducible repeat (first | apply Kd.R_alloc | apply Kd.R_drewN | apply Kd.R_drew)); exact HO244.out) hb)
      have n3_ := Aside0.mk (Kd.R_below (by (with_reducible repeat (first | apply Kd.R_alloc | apply Kd.R_drewN | apply Kd.R_drew)); exact HO247.out) hb)
      have n4_ := Aside0.mk (Kd.R_below (by (with_reducible repeat (first | apply Kd.R_alloc | apply Kd.R_drewN | apply Kd.R_drew)); exact HO252.out) hb)
      have n5_ := Aside0.mk (Kd.R_below (by (with_reducible repeat (first | apply Kd.R_alloc | apply Kd.R_drewN | apply Kd.R_drew)); exact HO256.out) hb)
      have n6_ := Aside0.mk (blk_below (g := gb231) (o := .cells #[.int .i64 a0_0, .slice A0_1 l0_1.length c0_1] 24 (0, 0)) (by (with_reducible repeat (first | refine blk_drewN ?_ _ | refine blk_drew ?_ | refine blk_alloc ?_ _)); exact BK231.out) hb)
      have n7_ := Aside0.mk (below_step (by repeat (first | (with_reducible first | exact HB.out | apply below_alloc | apply pw_below_drewN | apply below_drew1 | refine below_set ?_ GE231.out) | exact HB.out)) hb)
      clear HO237
      clear HO240
      clear HO244
      clear HO247
      clear HO252
      clear HO256
      clear BK231
      clear HB
      have HO237 := n0_
      have HO240 := n1_
      have HO244 := n2_
      have HO247 := n3_
      have HO252 := n4_
      have HO256 := n5_
      have BK231 := n6_
      have HB := n7_
      clear n0_ n1_ n2_ n3_ n4_ n5_ n6_ n7_
      (try clear hb)
      (try clear hb2)
      (try clear hk)
      (try clear hi)
      refine hK.out _ _ ⟨(blk_cell BK231.out 0).trans rfl, (blk_cell BK231.out 1).trans rfl⟩ (fun hHeld => ?_)
      clear hK K
      refine norm_ (a' := ?_) ?_ ?_
      rotate_left
      ·show Act.put _ (some 41) _ = _
       simp only [Act.put, uA_, uB_, uC_, i64_w, i32_w]
       rfl
      refine pure_ (i := 32) (N := some 42) (v := ?_) (a' := ?_) #[true, true, true, true, true, true, true, true, true, true, true, true, true, true, true, true, true, true, true, true, true, true, true, true, true, true, true, true, true, true, true, true, true, false] rfl rfl (any_of HT_.out (by kernel_rfl)) (fun _ _ _ h => h) (Or.inl ⟨by rfl, ?_⟩) ?_ ?_
      rotate_left
      ·intro w'
       go_simp
       with_reducible rfl
      rotate_left
      ·simp only [Act.put, uA_, uB_, uC_, i64_w, i32_w]
       rfl
      refine pure_ (i := 33) (N := some 4) (v := ?_) (a' := ?_) #[true, true, true, true, true, true, true, true, true, true, true, true, true, true, true, true, true, true, true, true, true, true, true, true, true, true, true, true, true, true, true, true, true, true] rfl rfl (any_of HT_.out (by kernel_rfl)) (fun _ _ _ h => h) (Or.inl ⟨by rfl, ?_⟩) ?_ ?_
      rotate_left
      ·intro w'
       go_simp
       with_reducible rfl
      rotate_left
      ·simp only [Act.put, uA_, uB_, uC_, i64_w, i32_w]
       rfl
      refine done_ (done_of HT_.out (by kernel_rfl)) ?_
      try go_wp2
      go_ret
      exact ⟨by first | rfl | (simp [errW_none, errW_some] <;> rfl) | (simp [*, errW_none, errW_some] <;> rfl), by repeat (first | (with_reducible first | exact HB.out | apply below_alloc | apply pw_below_drewN | apply below_drew1 | refine below_set ?_ GE231.out) | exact HB.out)⟩
     ·replace c22 := Bool.eq_false_iff.mpr c22
      subst c22
      have H1 : (some false) = some r := by rw [if_neg (show ¬ (false = true) by decide)] at H; exact H
      clear H
      have H := H1
      clear H1
      obtain rfl := Option.some.inj H
      go_enter Tryd.func11, Tryd.ntmps11
      try go_wp2_with (first | ((with_reducible refine gate_dst (N := 2) rfl ?_); refine box_event ?hg (N := 2) ?hd (cs := #[.int .i64 a0_0, .slice A0_1 l0_1.length c0_1]) (t := 24) ?hr ?_; (case hd => rfl); (case hg => rfl); (case hr => first | (go_simp; done) | (go_simp; rfl)); intro gb231 hg w43 hbox hb; have n0_ := Aside0.mk (below_step (by repeat (first | (with_reducible first | exact HB.out | apply below_alloc | apply pw_below_drewN | apply below_drew1) | exact HB.out)) hb); have n1_ := Aside0.mk (hbox); have n2_ := Aside0.mk ((by rw [hg]; exact (below_size (by repeat (first | (with_reducible first | exact HB.out | apply below_alloc | apply pw_below_drewN | apply below_drew1) | exact HB.out))) : w.heap.size ≤ gb231)); have n3_ := Aside0.mk ((by rw [hg]; exact (below_size (by repeat (first | (with_reducible first | exact HB.out | apply below_alloc | apply pw_below_drewN | apply below_drew1) | exact HB.out))) : w.heap.size ≤ gb231)); clear HB; have HB := n0_; have BK231 := n1_; have GW231 := n2_; have GE231 := n3_; clear n0_ n1_ n2_ n3_; clear hb hbox hg; have hcz44_0 : w43.cell? ⟨gb231, 0, none⟩ = some (.int .i64 a0_0) := (blk_cell BK231.out 0).trans rfl; have hcz44_1 : w43.cell? ⟨gb231, 1, none⟩ = some (.slice A0_1 l0_1.length c0_1) := (blk_cell BK231.out 1).trans rfl; have hfz44_0 := blk_frozen BK231.out 0; have hfz44_1 := blk_frozen BK231.out 1))
      have n0_ := Aside0.mk (blk_drew BK231.out)
      have n1_ := Aside0.mk (below_drew1 HB.out)
      clear BK231
      clear HB
      have BK231 := n0_
      have HB := n1_
      clear n0_ n1_
      refine start_ (n := 34) (S := fun w' => w'.cell? ⟨gb231, 0, none⟩ = some (.int .i64 a0_0) ∧ w'.cell? ⟨gb231, 1, none⟩ = some (.slice A0_1 l0_1.length c0_1)) (ds := []) #[false, false, false, false, false, false, false, false, false, false, false, false, false, false, false, false, false, false, false, false, false, false, false, false, false, false, false, false, false, false, false, false, false, false] (by kernel_rfl) rfl rfl ⟨(blk_cell BK231.out 0).trans rfl, (blk_cell BK231.out 1).trans rfl⟩ (fun hHeld => ?_); refine with_tabW dataflowlaw04_GraphTells.tab3 dataflowlaw04_GraphTells.bits3 (fun HT_ HW_ => ?_)
      generalize w43.drew = w45 at BK231 HB hHeld ⊢
      refine take_ (i := 0) (N := some 10) (v := ?_) (a' := ?_) #[true, false, false, false, false, false, false, false, false, false, false, false, false, false, false, false, false, false, false, false, false, false, false, false, false, false, false, false, false, false, false, false, false, false] rfl rfl (take_ofW HT_.out HW_.out (by kernel_rfl)) (fun _ _ _ h => h) (Or.inl ⟨by rfl, ?_⟩) hHeld ?_ ?_
      rotate_left
      ·rintro w' ⟨s0, s1⟩
       go_simp
       with_reducible rfl
      rotate_left
      ·simp only [Act.put, uA_, uB_, uC_, i64_w, i32_w]
       rfl
      refine take_ (i := 2) (N := some 12) (v := ?_) (a' := ?_) #[true, false, true, false, false, false, false, false, false, false, false, false, false, false, false, false, false, false, false, false, false, false, false, false, false, false, false, false, false, false, false, false, false, false] rfl rfl (take_ofW HT_.out HW_.out (by kernel_rfl)) (fun _ _ _ h => h) (Or.inl ⟨by rfl, ?_⟩) hHeld ?_ ?_
      rotate_left
      ·rintro w' ⟨s0, s1⟩
       go_simp
       with_reducible rfl
      rotate_left
      ·simp only [Act.put, uA_, uB_, uC_, i64_w, i32_w]
       rfl
      refine one_ (i := 1) (N := some 11) #[true, true, true, false, false, false, false, false, false, false, false, false, false, false, false, false, false, false, false, false, false, false, false, false, false, false, false, false, false, false, false, false, false, false] rfl rfl (one_of HT_.out (by kernel_rfl)) (by decide) (fun K hK => ?_)
      refine goes_ Tryd.func34 (by kernel_rfl) rfl #[.agg #[.int .i64 a0_0, .slice A0_1 l0_1.length c0_1]] (by rfl) rfl rfl (by (try simp only [List.map_toArray, List.map_cons, List.map_nil]); first | done | rfl | (simp only [List.length_drop, List.length_take]; rfl)) ?_
      with_reducible refine (graph_Check.calls k a0_0 _ _ l0_1 t233 _ ?side1 ?side2 A8.out).mono ?_
      (case side1 => repeat (first | exact (Kd.C_below HR0_1.out HB.out) | (with_reducible refine Kd.C_alloc ?_ _) | (with_reducible refine Kd.C_drewN ?_ _) | (with_reducible refine Kd.C_drew ?_)))
      (case side2 => exact HC0_1.out)
      rintro e w46 ⟨rfl, hb⟩
      refine ⟨_, rfl, ?_⟩
      have n0_ := Aside0.mk (blk_below (g := gb231) (o := .cells #[.int .i64 a0_0, .slice A0_1 l0_1.length c0_1] 24 (0, 0)) (by (with_reducible repeat (first | refine blk_drewN ?_ _ | refine blk_drew ?_ | refine blk_alloc ?_ _)); exact BK231.out) hb)
      have n1_ := Aside0.mk (below_step (by repeat (first | (with_reducible first | exact HB.out | apply below_alloc | apply pw_below_drewN | apply below_drew1 | refine below_set ?_ GE231.out) | exact HB.out)) hb)
      clear BK231
      clear HB
      have BK231 := n0_
      have HB := n1_
      clear n0_ n1_
      (try clear hb)
      (try clear hb2)
      (try clear hk)
      (try clear hi)
      refine hK.out _ _ ⟨(blk_cell BK231.out 0).trans rfl, (blk_cell BK231.out 1).trans rfl⟩ (fun hHeld => ?_)
      clear hK K
      refine norm_ (a' := ?_) ?_ ?_
      rotate_left
      ·show Act.put _ (some 11) _ = _
       simp only [Act.put, uA_, uB_, uC_, i64_w, i32_w]
       rfl
      refine one_ (i := 3) (N := some 13) #[true, true, true, true, false, false, false, false, false, false, false, false, false, false, false, false, false, false, false, false, false, false, false, false, false, false, false, false, false, false, false, false, false, false] rfl rfl (one_of HT_.out (by kernel_rfl)) (by decide) (fun K hK => ?_)
      refine goes_ Tryd.func38 (by kernel_rfl) rfl #[.agg #[.int .i64 a0_0, .slice A0_1 l0_1.length c0_1]] (by rfl) rfl rfl (by (try simp only [List.map_toArray, List.map_cons, List.map_nil]); first | done | rfl | (simp only [List.length_drop, List.length_take]; rfl)) ?_
      with_reducible refine (dataflowref04_Check.calls k a0_0 _ _ l0_1 t234 _ ?side1 ?side2 A9.out).mono ?_
      (case side1 => repeat (first | exact (Kd.C_below HR0_1.out HB.out) | (with_reducible refine Kd.C_alloc ?_ _) | (with_reducible refine Kd.C_drewN ?_ _) | (with_reducible refine Kd.C_drew ?_)))
      (case side2 => exact HC0_1.out)
      rintro e w47 ⟨rfl, hb⟩
      refine ⟨_, rfl, ?_⟩
      have n0_ := Aside0.mk (blk_below (g := gb231) (o := .cells #[.int .i64 a0_0, .slice A0_1 l0_1.length c0_1] 24 (0, 0)) (by (with_reducible repeat (first | refine blk_drewN ?_ _ | refine blk_drew ?_ | refine blk_alloc ?_ _)); exact BK231.out) hb)
      have n1_ := Aside0.mk (below_step (by repeat (first | (with_reducible first | exact HB.out | apply below_alloc | apply pw_below_drewN | apply below_drew1 | refine below_set ?_ GE231.out) | exact HB.out)) hb)
      clear BK231
      clear HB
      have BK231 := n0_
      have HB := n1_
      clear n0_ n1_
      (try clear hb)
      (try clear hb2)
      (try clear hk)
      (try clear hi)
      refine hK.out _ _ ⟨(blk_cell BK231.out 0).trans rfl, (blk_cell BK231.out 1).trans rfl⟩ (fun hHeld => ?_)
      clear hK K
      refine norm_ (a' := ?_) ?_ ?_
      rotate_left
      ·show Act.put _ (some 13) _ = _
       simp only [Act.put, uA_, uB_, uC_, i64_w, i32_w]
       rfl
      refine pure_ (i := 4) (N := some 14) (v := ?_) (a' := ?_) #[true, true, true, true, true, false, false, false, false, false, false, false, false, false, false, false, false, false, false, false, false, false, false, false, false, false, false, false, false, false, false, false, false, false] rfl rfl (any_of HT_.out (by kernel_rfl)) (fun _ _ _ h => h) (Or.inl ⟨by rfl, ?_⟩) ?_ ?_
      rotate_left
      ·intro w'
       go_simp
       with_reducible rfl
      rotate_left
      ·simp only [Act.put, uA_, uB_, uC_, i64_w, i32_w]
       rfl
      refine pure_ (i := 5) (N := some 15) (v := ?_) (a' := ?_) #[true, true, true, true, true, true, false, false, false, false, false, false, false, false, false, false, false, false, false, false, false, false, false, false, false, false, false, false, false, false, false, false, false, false] rfl rfl (any_of HT_.out (by kernel_rfl)) (fun _ _ _ h => h) (Or.inl ⟨by rfl, ?_⟩) ?_ ?_
      rotate_left
      ·intro w'
       go_simp
       with_reducible rfl
      rotate_left
      ·simp only [Act.put, uA_, uB_, uC_, i64_w, i32_w]
       rfl
      refine pure_ (i := 7) (N := some 17) (v := ?_) (a' := ?_) #[true, true, true, true, true, true, false, true, false, false, false, false, false, false, false, false, false, false, false, false, false, false, false, false, false, false, false, false, false, false, false, false, false, false] rfl rfl (any_of HT_.out (by kernel_rfl)) (fun _ _ _ h => h) (Or.inl ⟨by rfl, ?_⟩) ?_ ?_
      rotate_left
      ·intro w'
       go_simp
       with_reducible rfl
      rotate_left
      ·simp only [Act.put, uA_, uB_, uC_, i64_w, i32_w]
       rfl
      refine pure_ (i := 10) (N := some 20) (v := ?_) (a' := ?_) #[true, true, true, true, true, true, false, true, false, false, true, false, false, false, false, false, false, false, false, false, false, false, false, false, false, false, false, false, false, false, false, false, false, false] rfl rfl (any_of HT_.out (by kernel_rfl)) (fun _ _ _ h => h) (Or.inl ⟨by rfl, ?_⟩) ?_ ?_
      rotate_left
      ·intro w'
       go_simp
       with_reducible rfl
      rotate_left
      ·simp only [Act.put, uA_, uB_, uC_, i64_w, i32_w]
       rfl
      refine take_ (i := 6) (N := some 16) (v := ?_) (a' := ?_) #[true, true, true, true, true, true, true, true, false, false, true, false, false, false, false, false, false, false, false, false, false, false, false, false, false, false, false, false, false, false, false, false, false, false] rfl rfl (take_ofW HT_.out HW_.out (by kernel_rfl)) (fun _ _ _ h => h) (Or.inl ⟨by rfl, ?_⟩) hHeld ?_ ?_
      rotate_left
      ·rintro w' ⟨s0, s1⟩
       go_simp
       with_reducible rfl
      rotate_left
      ·simp only [Act.put, uA_, uB_, uC_, i64_w, i32_w]
       rfl
      refine take_ (i := 9) (N := some 19) (v := ?_) (a' := ?_) #[true, true, true, true, true, true, true, true, false, true, true, false, false, false, false, false, false, false, false, false, false, false, false, false, false, false, false, false, false, false, false, false, false, false] rfl rfl (take_ofW HT_.out HW_.out (by kernel_rfl)) (fun _ _ _ h => h) (Or.inl ⟨by rfl, ?_⟩) hHeld ?_ ?_
      rotate_left
      ·rintro w' ⟨s0, s1⟩
       go_simp
       with_reducible rfl
      rotate_left
      ·simp only [Act.put, uA_, uB_, uC_, i64_w, i32_w]
       rfl
      refine one_ (i := 8) (N := some 18) #[true, true, true, true, true, true, true, true, true, true, true, false, false, false, false, false, false, false, false, false, false, false, false, false, false, false, false, false, false, false, false, false, false, false] rfl rfl (one_of HT_.out (by kernel_rfl)) (by decide) (fun K hK => ?_)
      refine goes_ Tryd.func42 (by kernel_rfl) rfl #[.agg #[.int .i64 a0_0, .slice A0_1 l0_1.length c0_1], .int .i64 a1] (by rfl) rfl rfl (by (try simp only [List.map_toArray, List.map_cons, List.map_nil]); first | done | rfl | (simp only [List.length_drop, List.length_take]; rfl)) ?_
      with_reducible refine (graph_Succ.calls a0_0 _ _ l0_1 a1 t235 _ ?side1 ?side2 A11.out).mono ?_
      (case side1 => repeat (first | exact (Kd.C_below HR0_1.out HB.out) | (with_reducible refine Kd.C_alloc ?_ _) | (with_reducible refine Kd.C_drewN ?_ _) | (with_reducible refine Kd.C_drew ?_)))
      (case side2 => exact HC0_1.out)
      rintro e w48 ⟨v236, rfl, ho0, hb⟩
      refine ⟨_, rfl, ?_⟩
      have n0_ := Aside0.mk (Kd.R_lower ho0 (below_size (by repeat (first | (with_reducible first | exact HB.out | apply below_alloc | apply pw_below_drewN | apply below_drew1 | refine below_set ?_ GE231.out) | exact HB.out))))
      have n1_ := Aside0.mk (blk_below (g := gb231) (o := .cells #[.int .i64 a0_0, .slice A0_1 l0_1.length c0_1] 24 (0, 0)) (by (with_reducible repeat (first | refine blk_drewN ?_ _ | refine blk_drew ?_ | refine blk_alloc ?_ _)); exact BK231.out) hb)
      have n2_ := Aside0.mk (below_step (by repeat (first | (with_reducible first | exact HB.out | apply below_alloc | apply pw_below_drewN | apply below_drew1 | refine below_set ?_ GE231.out) | exact HB.out)) hb)
      clear BK231
      clear HB
      have HO237 := n0_
      have BK231 := n1_
      have HB := n2_
      clear n0_ n1_ n2_
      (try clear hb)
      (try clear hb2)
      (try clear hk)
      (try clear hi)
      (try clear ho0)
      refine hK.out _ _ ⟨(blk_cell BK231.out 0).trans rfl, (blk_cell BK231.out 1).trans rfl⟩ (fun hHeld => ?_)
      clear hK K
      refine norm_ (a' := ?_) ?_ ?_
      rotate_left
      ·show Act.put _ (some 18) _ = _
       simp only [Act.put, uA_, uB_, uC_, i64_w, i32_w]
       rfl
      refine one_ (i := 11) (N := some 21) #[true, true, true, true, true, true, true, true, true, true, true, true, false, false, false, false, false, false, false, false, false, false, false, false, false, false, false, false, false, false, false, false, false, false] rfl rfl (one_of HT_.out (by kernel_rfl)) (by decide) (fun K hK => ?_)
      refine goes_ Tryd.func21 (by kernel_rfl) rfl #[.agg #[.int .i64 a0_0, .slice A0_1 l0_1.length c0_1], .int .i64 a1] (by rfl) rfl rfl (by (try simp only [List.map_toArray, List.map_cons, List.map_nil]); first | done | rfl | (simp only [List.length_drop, List.length_take]; rfl)) ?_
      with_reducible refine (dataflowref04_Succ.calls k a0_0 _ _ l0_1 a1 t238 _ ?side1 ?side2 A12.out).mono ?_
      (case side1 => repeat (first | exact (Kd.C_below HR0_1.out HB.out) | (with_reducible refine Kd.C_alloc ?_ _) | (with_reducible refine Kd.C_drewN ?_ _) | (with_reducible refine Kd.C_drew ?_)))
      (case side2 => exact HC0_1.out)
      rintro e w49 ⟨v239, rfl, ho0, hb⟩
      refine ⟨_, rfl, ?_⟩
      have n0_ := Aside0.mk (Kd.R_elder' (by (with_reducible repeat (first | apply Kd.R_alloc | apply Kd.R_drewN | apply Kd.R_drew)); exact HO237.out) (Kd.R_base ho0) hb)
      have n1_ := Aside0.mk (Kd.R_lower (Kd.R_new' ho0 (Kd.R_lt (by (with_reducible repeat (first | apply Kd.R_alloc | apply Kd.R_drewN | apply Kd.R_drew)); exact HO237.out))) (below_size (by repeat (first | (with_reducible first | exact HB.out | apply below_alloc | apply pw_below_drewN | apply below_drew1 | refine below_set ?_ GE231.out) | exact HB.out))))
      have n2_ := Aside0.mk (blk_below (g := gb231) (o := .cells #[.int .i64 a0_0, .slice A0_1 l0_1.length c0_1] 24 (0, 0)) (by (with_reducible repeat (first | refine blk_drewN ?_ _ | refine blk_drew ?_ | refine blk_alloc ?_ _)); exact BK231.out) hb)
      have n3_ := Aside0.mk (below_step (by repeat (first | (with_reducible first | exact HB.out | apply below_alloc | apply pw_below_drewN | apply below_drew1 | refine below_set ?_ GE231.out) | exact HB.out)) hb)
      clear HO237
      clear BK231
      clear HB
      have HO237 := n0_
      have HO240 := n1_
      have BK231 := n2_
      have HB := n3_
      clear n0_ n1_ n2_ n3_
      (try clear hb)
      (try clear hb2)
      (try clear hk)
      (try clear hi)
      (try clear ho0)
      obtain ⟨Ao50, co50, eo50⟩ := Kd.R_slice HO237.out
      (first | subst eo50 | (injection eo50 with f1_ f2_ f3_; have f4_ := f1_.symm; have f5_ := f3_.symm; clear f1_ f2_ f3_; subst f4_; subst f5_))
      obtain ⟨Ao51, co51, eo51⟩ := Kd.R_slice HO240.out
      (first | subst eo51 | (injection eo51 with f1_ f2_ f3_; have f4_ := f1_.symm; have f5_ := f3_.symm; clear f1_ f2_ f3_; subst f4_; subst f5_))
      refine hK.out _ _ ⟨(blk_cell BK231.out 0).trans rfl, (blk_cell BK231.out 1).trans rfl⟩ (fun hHeld => ?_)
      clear hK K
      refine norm_ (a' := ?_) ?_ ?_
      rotate_left
      ·show Act.put _ (some 21) _ = _
       simp only [Act.put, uA_, uB_, uC_, i64_w, i32_w]
       rfl
      refine one_ (i := 12) (N := some 22) #[true, true, true, true, true, true, true, true, true, true, true, true, true, false, false, false, false, false, false, false, false, false, false, false, false, false, false, false, false, false, false, false, false, false] rfl rfl (one_of HT_.out (by kernel_rfl)) (by decide) (fun K hK => ?_)
      refine goes_ Tryd.func36 (by kernel_rfl) rfl #[.slice Ao50 t235.length co50, .slice Ao51 t238.length co51] (by rfl) rfl rfl (by (try simp only [List.map_toArray, List.map_cons, List.map_nil]); first | done | rfl | (simp only [List.length_drop, List.length_take]; rfl)) ?_
      with_reducible refine (dataflowref04_Equal.calls k _ _ t235 _ _ t238 true _ ?side1 ?side2 ?side3 ?side4 A13.out).mono ?_
      (case side1 => repeat (first | exact (Kd.R_reads' HO237.out).2.2 | (with_reducible refine Kd.C_alloc ?_ _) | (with_reducible refine Kd.C_drewN ?_ _) | (with_reducible refine Kd.C_drew ?_)))
      (case side2 => exact (Kd.R_reads' HO237.out).2.1)
      (case side3 => repeat (first | exact (Kd.R_reads' HO240.out).2.2 | (with_reducible refine Kd.C_alloc ?_ _) | (with_reducible refine Kd.C_drewN ?_ _) | (with_reducible refine Kd.C_drew ?_)))
      (case side4 => exact (Kd.R_reads' HO240.out).2.1)
      rintro e w' ⟨rfl, ⟨nd, rfl⟩⟩
      refine ⟨_, rfl, ?_⟩
      refine hK.out _ _ ⟨(blk_cell BK231.out 0).trans rfl, (blk_cell BK231.out 1).trans rfl⟩ (fun hHeld => ?_)
      clear hK K
      refine norm_ (a' := ?_) ?_ ?_
      rotate_left
      ·show Act.put _ (some 22) _ = _
       simp only [Act.put, uA_, uB_, uC_, i64_w, i32_w]
       rfl
      refine pure_ (i := 13) (N := some 23) (v := ?_) (a' := ?_) #[true, true, true, true, true, true, true, true, true, true, true, true, true, true, false, false, false, false, false, false, false, false, false, false, false, false, false, false, false, false, false, false, false, false] rfl rfl (any_of HT_.out (by kernel_rfl)) (fun _ _ _ h => h) (Or.inl ⟨by rfl, ?_⟩) ?_ ?_
      rotate_left
      ·intro w'
       go_simp
       with_reducible rfl
      rotate_left
      ·simp only [Act.put, uA_, uB_, uC_, i64_w, i32_w]
       rfl
      refine pure_ (i := 14) (N := some 24) (v := ?_) (a' := ?_) #[true, true, true, true, true, true, true, true, true, true, true, true, true, true, true, false, false, false, false, false, false, false, false, false, false, false, false, false, false, false, false, false, false, false] rfl rfl (any_of HT_.out (by kernel_rfl)) (fun _ _ _ h => h) (Or.inl ⟨by rfl, ?_⟩) ?_ ?_
      rotate_left
      ·intro w'
       go_simp
       with_reducible rfl
      rotate_left
      ·simp only [Act.put, uA_, uB_, uC_, i64_w, i32_w]
       rfl
      refine pure_ (i := 16) (N := some 26) (v := ?_) (a' := ?_) #[true, true, true, true, true, true, true, true, true, true, true, true, true, true, true, false, true, false, false, false, false, false, false, false, false, false, false, false, false, false, false, false, false, false] rfl rfl (any_of HT_.out (by kernel_rfl)) (fun _ _ _ h => h) (Or.inl ⟨by rfl, ?_⟩) ?_ ?_
      rotate_left
      ·intro w'
       go_simp
       with_reducible rfl
      rotate_left
      ·simp only [Act.put, uA_, uB_, uC_, i64_w, i32_w]
       rfl
      refine pure_ (i := 19) (N := some 29) (v := ?_) (a' := ?_) #[true, true, true, true, true, true, true, true, true, true, true, true, true, true, true, false, true, false, false, true, false, false, false, false, false, false, false, false, false, false, false, false, false, false] rfl rfl (any_of HT_.out (by kernel_rfl)) (fun _ _ _ h => h) (Or.inl ⟨by rfl, ?_⟩) ?_ ?_
      rotate_left
      ·intro w'
       go_simp
       with_reducible rfl
      rotate_left
      ·simp only [Act.put, uA_, uB_, uC_, i64_w, i32_w]
       rfl
      refine take_ (i := 15) (N := some 25) (v := ?_) (a' := ?_) #[true, true, true, true, true, true, true, true, true, true, true, true, true, true, true, true, true, false, false, true, false, false, false, false, false, false, false, false, false, false, false, false, false, false] rfl rfl (take_ofW HT_.out HW_.out (by kernel_rfl)) (fun _ _ _ h => h) (Or.inl ⟨by rfl, ?_⟩) hHeld ?_ ?_
      rotate_left
      ·rintro w' ⟨s0, s1⟩
       go_simp
       with_reducible rfl
      rotate_left
      ·simp only [Act.put, uA_, uB_, uC_, i64_w, i32_w]
       rfl
      refine take_ (i := 18) (N := some 28) (v := ?_) (a' := ?_) #[true, true, true, true, true, true, true, true, true, true, true, true, true, true, true, true, true, false, true, true, false, false, false, false, false, false, false, false, false, false, false, false, false, false] rfl rfl (take_ofW HT_.out HW_.out (by kernel_rfl)) (fun _ _ _ h => h) (Or.inl ⟨by rfl, ?_⟩) hHeld ?_ ?_
      rotate_left
      ·rintro w' ⟨s0, s1⟩
       go_simp
       with_reducible rfl
      rotate_left
      ·simp only [Act.put, uA_, uB_, uC_, i64_w, i32_w]
       rfl
      refine one_ (i := 17) (N := some 27) #[true, true, true, true, true, true, true, true, true, true, true, true, true, true, true, true, true, true, true, true, false, false, false, false, false, false, false, false, false, false, false, false, false, false] rfl rfl (one_of HT_.out (by kernel_rfl)) (by decide) (fun K hK => ?_)
      refine goes_ Tryd.func45 (by kernel_rfl) rfl #[.agg #[.int .i64 a0_0, .slice A0_1 l0_1.length c0_1], .int .i64 a1] (by rfl) rfl rfl (by (try simp only [List.map_toArray, List.map_cons, List.map_nil]); first | done | rfl | (simp only [List.length_drop, List.length_take]; rfl)) ?_
      with_reducible refine (graph_Pred.calls k a0_0 _ _ l0_1 a1 t242 _ ?side1 ?side2 A15.out).mono ?_
      (case side1 => repeat (first | exact (Kd.C_below HR0_1.out (by repeat (first | (with_reducible first | exact HB.out | apply below_alloc | apply pw_below_drewN | apply below_drew1 | refine below_set ?_ GE231.out) | exact HB.out))) | (with_reducible refine Kd.C_alloc ?_ _) | (with_reducible refine Kd.C_drewN ?_ _) | (with_reducible refine Kd.C_drew ?_)))
      (case side2 => exact HC0_1.out)
      rintro e w52 ⟨v243, rfl, ho0, hb⟩
      refine ⟨_, rfl, ?_⟩
      have n0_ := Aside0.mk (Kd.R_elder' (by (with_reducible repeat (first | apply Kd.R_alloc | apply Kd.R_drewN | apply Kd.R_drew)); exact HO237.out) (Kd.R_base ho0) hb)
      have n1_ := Aside0.mk (Kd.R_elder' (by (with_reducible repeat (first | apply Kd.R_alloc | apply Kd.R_drewN | apply Kd.R_drew)); exact HO240.out) (Kd.R_base ho0) hb)
      have n2_ := Aside0.mk (Kd.R_lower (Kd.R_new' (Kd.R_new' ho0 (Kd.R_lt (by (with_reducible repeat (first | apply Kd.R_alloc | apply Kd.R_drewN | apply Kd.R_drew)); exact HO237.out))) (Kd.R_lt (by (with_reducible repeat (first | apply Kd.R_alloc | apply Kd.R_drewN | apply Kd.R_drew)); exact HO240.out))) (below_size (by repeat (first | (with_reducible first | exact HB.out | apply below_alloc | apply pw_below_drewN | apply below_drew1 | refine below_set ?_ GE231.out) | exact HB.out))))
      have n3_ := Aside0.mk (blk_below (g := gb231) (o := .cells #[.int .i64 a0_0, .slice A0_1 l0_1.length c0_1] 24 (0, 0)) (by (with_reducible repeat (first | refine blk_drewN ?_ _ | refine blk_drew ?_ | refine blk_alloc ?_ _)); exact BK231.out) hb)
      have n4_ := Aside0.mk (below_step (by repeat (first | (with_reducible first | exact HB.out | apply below_alloc | apply pw_below_drewN | apply below_drew1 | refine below_set ?_ GE231.out) | exact HB.out)) hb)
      clear HO237
      clear HO240
      clear BK231
      clear HB
      have HO237 := n0_
      have HO240 := n1_
      have HO244 := n2_
      have BK231 := n3_
      have HB := n4_
      clear n0_ n1_ n2_ n3_ n4_
      (try clear hb)
      (try clear hb2)
      (try clear hk)
      (try clear hi)
      (try clear ho0)
      refine hK.out _ _ ⟨(blk_cell BK231.out 0).trans rfl, (blk_cell BK231.out 1).trans rfl⟩ (fun hHeld => ?_)
      clear hK K
      refine norm_ (a' := ?_) ?_ ?_
      rotate_left
      ·show Act.put _ (some 27) _ = _
       simp only [Act.put, uA_, uB_, uC_, i64_w, i32_w]
       rfl
      refine one_ (i := 20) (N := some 30) #[true, true, true, true, true, true, true, true, true, true, true, true, true, true, true, true, true, true, true, true, true, false, false, false, false, false, false, false, false, false, false, false, false, false] rfl rfl (one_of HT_.out (by kernel_rfl)) (by decide) (fun K hK => ?_)
      refine goes_ Tryd.func46 (by kernel_rfl) rfl #[.agg #[.int .i64 a0_0, .slice A0_1 l0_1.length c0_1], .int .i64 a1] (by rfl) rfl rfl (by (try simp only [List.map_toArray, List.map_cons, List.map_nil]); first | done | rfl | (simp only [List.length_drop, List.length_take]; rfl)) ?_
      with_reducible refine (dataflowref04_Pred.calls k a0_0 _ _ l0_1 a1 t245 _ ?side1 ?side2 A16.out).mono ?_
      (case side1 => repeat (first | exact (Kd.C_below HR0_1.out HB.out) | (with_reducible refine Kd.C_alloc ?_ _) | (with_reducible refine Kd.C_drewN ?_ _) | (with_reducible refine Kd.C_drew ?_)))
      (case side2 => exact HC0_1.out)
      rintro e w53 ⟨v246, rfl, ho0, hb⟩
      refine ⟨_, rfl, ?_⟩
      have n0_ := Aside0.mk (Kd.R_elder' (by (with_reducible repeat (first | apply Kd.R_alloc | apply Kd.R_drewN | apply Kd.R_drew)); exact HO237.out) (Kd.R_base ho0) hb)
      have n1_ := Aside0.mk (Kd.R_elder' (by (with_reducible repeat (first | apply Kd.R_alloc | apply Kd.R_drewN | apply Kd.R_drew)); exact HO240.out) (Kd.R_base ho0) hb)
      have n2_ := Aside0.mk (Kd.R_elder' (by (with_reducible repeat (first | apply Kd.R_alloc | apply Kd.R_drewN | apply Kd.R_drew)); exact HO244.out) (Kd.R_base ho0) hb)
      have n3_ := Aside0.mk (Kd.R_lower (Kd.R_new' (Kd.R_new' (Kd.R_new' ho0 (Kd.R_lt (by (with_reducible repeat (first | apply Kd.R_alloc | apply Kd.R_drewN | apply Kd.R_drew)); exact HO237.out))) (Kd.R_lt (by (with_reducible repeat (first | apply Kd.R_alloc | apply Kd.R_drewN | apply Kd.R_drew)); exact HO240.out))) (Kd.R_lt (by (with_reducible repeat (first | apply Kd.R_alloc | apply Kd.R_drewN | apply Kd.R_drew)); exact HO244.out))) (below_size (by repeat (first | (with_reducible first | exact HB.out | apply below_alloc | apply pw_below_drewN | apply below_drew1 | refine below_set ?_ GE231.out) | exact HB.out))))
      have n4_ := Aside0.mk (blk_below (g := gb231) (o := .cells #[.int .i64 a0_0, .slice A0_1 l0_1.length c0_1] 24 (0, 0)) (by (with_reducible repeat (first | refine blk_drewN ?_ _ | refine blk_drew ?_ | refine blk_alloc ?_ _)); exact BK231.out) hb)
      have n5_ := Aside0.mk (below_step (by repeat (first | (with_reducible first | exact HB.out | apply below_alloc | apply pw_below_drewN | apply below_drew1 | refine below_set ?_ GE231.out) | exact HB.out)) hb)
      clear HO237
      clear HO240
      clear HO244
      clear BK231
      clear HB
      have HO237 := n0_
      have HO240 := n1_
      have HO244 := n2_
      have HO247 := n3_
      have BK231 := n4_
      have HB := n5_
      clear n0_ n1_ n2_ n3_ n4_ n5_
      (try clear hb)
      (try clear hb2)
      (try clear hk)
      (try clear hi)
      (try clear ho0)
      obtain ⟨Ao54, co54, eo54⟩ := Kd.R_slice HO244.out
      (first | subst eo54 | (injection eo54 with f1_ f2_ f3_; have f4_ := f1_.symm; have f5_ := f3_.symm; clear f1_ f2_ f3_; subst f4_; subst f5_))
      obtain ⟨Ao55, co55, eo55⟩ := Kd.R_slice HO247.out
      (first | subst eo55 | (injection eo55 with f1_ f2_ f3_; have f4_ := f1_.symm; have f5_ := f3_.symm; clear f1_ f2_ f3_; subst f4_; subst f5_))
      refine hK.out _ _ ⟨(blk_cell BK231.out 0).trans rfl, (blk_cell BK231.out 1).trans rfl⟩ (fun hHeld => ?_)
      clear hK K
      refine norm_ (a' := ?_) ?_ ?_
      rotate_left
      ·show Act.put _ (some 30) _ = _
       simp only [Act.put, uA_, uB_, uC_, i64_w, i32_w]
       rfl
      refine one_ (i := 21) (N := some 31) #[true, true, true, true, true, true, true, true, true, true, true, true, true, true, true, true, true, true, true, true, true, true, false, false, false, false, false, false, false, false, false, false, false, false] rfl rfl (one_of HT_.out (by kernel_rfl)) (by decide) (fun K hK => ?_)
      refine goes_ Tryd.func36 (by kernel_rfl) rfl #[.slice Ao54 t242.length co54, .slice Ao55 t245.length co55] (by rfl) rfl rfl (by (try simp only [List.map_toArray, List.map_cons, List.map_nil]); first | done | rfl | (simp only [List.length_drop, List.length_take]; rfl)) ?_
      with_reducible refine (dataflowref04_Equal.calls k _ _ t242 _ _ t245 true _ ?side1 ?side2 ?side3 ?side4 A17.out).mono ?_
      (case side1 => repeat (first | exact (Kd.R_reads' HO244.out).2.2 | (with_reducible refine Kd.C_alloc ?_ _) | (with_reducible refine Kd.C_drewN ?_ _) | (with_reducible refine Kd.C_drew ?_)))
      (case side2 => exact (Kd.R_reads' HO244.out).2.1)
      (case side3 => repeat (first | exact (Kd.R_reads' HO247.out).2.2 | (with_reducible refine Kd.C_alloc ?_ _) | (with_reducible refine Kd.C_drewN ?_ _) | (with_reducible refine Kd.C_drew ?_)))
      (case side4 => exact (Kd.R_reads' HO247.out).2.1)
      rintro e w' ⟨rfl, ⟨nd, rfl⟩⟩
      refine ⟨_, rfl, ?_⟩
      refine hK.out _ _ ⟨(blk_cell BK231.out 0).trans rfl, (blk_cell BK231.out 1).trans rfl⟩ (fun hHeld => ?_)
      clear hK K
      refine norm_ (a' := ?_) ?_ ?_
      rotate_left
      ·show Act.put _ (some 31) _ = _
       simp only [Act.put, uA_, uB_, uC_, i64_w, i32_w]
       rfl
      refine pure_ (i := 22) (N := some 32) (v := ?_) (a' := ?_) #[true, true, true, true, true, true, true, true, true, true, true, true, true, true, true, true, true, true, true, true, true, true, true, false, false, false, false, false, false, false, false, false, false, false] rfl rfl (any_of HT_.out (by kernel_rfl)) (fun _ _ _ h => h) (Or.inl ⟨by rfl, ?_⟩) ?_ ?_
      rotate_left
      ·intro w'
       go_simp
       with_reducible rfl
      rotate_left
      ·simp only [Act.put, uA_, uB_, uC_, i64_w, i32_w]
       rfl
      refine pure_ (i := 23) (N := some 33) (v := ?_) (a' := ?_) #[true, true, true, true, true, true, true, true, true, true, true, true, true, true, true, true, true, true, true, true, true, true, true, true, false, false, false, false, false, false, false, false, false, false] rfl rfl (any_of HT_.out (by kernel_rfl)) (fun _ _ _ h => h) (Or.inl ⟨by rfl, ?_⟩) ?_ ?_
      rotate_left
      ·intro w'
       go_simp
       with_reducible rfl
      rotate_left
      ·simp only [Act.put, uA_, uB_, uC_, i64_w, i32_w]
       rfl
      refine take_ (i := 24) (N := some 34) (v := ?_) (a' := ?_) #[true, true, true, true, true, true, true, true, true, true, true, true, true, true, true, true, true, true, true, true, true, true, true, true, true, false, false, false, false, false, false, false, false, false] rfl rfl (take_ofW HT_.out HW_.out (by kernel_rfl)) (fun _ _ _ h => h) (Or.inl ⟨by rfl, ?_⟩) hHeld ?_ ?_
      rotate_left
      ·rintro w' ⟨s0, s1⟩
       go_simp
       with_reducible rfl
      rotate_left
      ·simp only [Act.put, uA_, uB_, uC_, i64_w, i32_w]
       rfl
      refine take_ (i := 26) (N := some 36) (v := ?_) (a' := ?_) #[true, true, true, true, true, true, true, true, true, true, true, true, true, true, true, true, true, true, true, true, true, true, true, true, true, false, true, false, false, false, false, false, false, false] rfl rfl (take_ofW HT_.out HW_.out (by kernel_rfl)) (fun _ _ _ h => h) (Or.inl ⟨by rfl, ?_⟩) hHeld ?_ ?_
      rotate_left
      ·rintro w' ⟨s0, s1⟩
       go_simp
       with_reducible rfl
      rotate_left
      ·simp only [Act.put, uA_, uB_, uC_, i64_w, i32_w]
       rfl
      refine one_ (i := 25) (N := some 35) #[true, true, true, true, true, true, true, true, true, true, true, true, true, true, true, true, true, true, true, true, true, true, true, true, true, true, true, false, false, false, false, false, false, false] rfl rfl (one_of HT_.out (by kernel_rfl)) (by decide) (fun K hK => ?_)
      refine goes_ Tryd.func47 (by kernel_rfl) rfl #[.agg #[.int .i64 a0_0, .slice A0_1 l0_1.length c0_1]] (by rfl) rfl rfl (by (try simp only [List.map_toArray, List.map_cons, List.map_nil]); first | done | rfl | (simp only [List.length_drop, List.length_take]; rfl)) ?_
      with_reducible refine (graph_Reverse.calls a0_0 _ _ l0_1 t249 t250 _ ?side1 ?side2 A19.out).mono ?_
      (case side1 => repeat (first | exact (Kd.C_below HR0_1.out (by repeat (first | (with_reducible first | exact HB.out | apply below_alloc | apply pw_below_drewN | apply below_drew1 | refine below_set ?_ GE231.out) | exact HB.out))) | (with_reducible refine Kd.C_alloc ?_ _) | (with_reducible refine Kd.C_drewN ?_ _) | (with_reducible refine Kd.C_drew ?_)))
      (case side2 => exact HC0_1.out)
      rintro e w56 ⟨v251, rfl, ho0, hb⟩
      refine ⟨_, rfl, ?_⟩
      have n0_ := Aside0.mk (Kd.R_below (by (with_reducible repeat (first | apply Kd.R_alloc | apply Kd.R_drewN | apply Kd.R_drew)); exact HO237.out) hb)
      have n1_ := Aside0.mk (Kd.R_below (by (with_reducible repeat (first | apply Kd.R_alloc | apply Kd.R_drewN | apply Kd.R_drew)); exact HO240.out) hb)
      have n2_ := Aside0.mk (Kd.R_below (by (with_reducible repeat (first | apply Kd.R_alloc | apply Kd.R_drewN | apply Kd.R_drew)); exact HO244.out) hb)
      have n3_ := Aside0.mk (Kd.R_below (by (with_reducible repeat (first | apply Kd.R_alloc | apply Kd.R_drewN | apply Kd.R_drew)); exact HO247.out) hb)
      have n4_ := Aside0.mk (Kd.R_lower ho0 (below_size (by repeat (first | (with_reducible first | exact HB.out | apply below_alloc | apply pw_below_drewN | apply below_drew1 | refine below_set ?_ GE231.out) | exact HB.out))))
      have n5_ := Aside0.mk (blk_below (g := gb231) (o := .cells #[.int .i64 a0_0, .slice A0_1 l0_1.length c0_1] 24 (0, 0)) (by (with_reducible repeat (first | refine blk_drewN ?_ _ | refine blk_drew ?_ | refine blk_alloc ?_ _)); exact BK231.out) hb)
      have n6_ := Aside0.mk (below_step (by repeat (first | (with_reducible first | exact HB.out | apply below_alloc | apply pw_below_drewN | apply below_drew1 | refine below_set ?_ GE231.out) | exact HB.out)) hb)
      clear HO237
      clear HO240
      clear HO244
      clear HO247
      clear BK231
      clear HB
      have HO237 := n0_
      have HO240 := n1_
      have HO244 := n2_
      have HO247 := n3_
      have HO252 := n4_
      have BK231 := n5_
      have HB := n6_
      clear n0_ n1_ n2_ n3_ n4_ n5_ n6_
      (try clear hb)
      (try clear hb2)
      (try clear hk)
      (try clear hi)
      (try clear ho0)
      refine hK.out _ _ ⟨(blk_cell BK231.out 0).trans rfl, (blk_cell BK231.out 1).trans rfl⟩ (fun hHeld => ?_)
      clear hK K
      refine norm_ (a' := ?_) ?_ ?_
      rotate_left
      ·show Act.put _ (some 35) _ = _
       simp only [Act.put, uA_, uB_, uC_, i64_w, i32_w]
       rfl
      refine one_ (i := 27) (N := some 37) #[true, true, true, true, true, true, true, true, true, true, true, true, true, true, true, true, true, true, true, true, true, true, true, true, true, true, true, true, false, false, false, false, false, false] rfl rfl (one_of HT_.out (by kernel_rfl)) (by decide) (fun K hK => ?_)
      refine goes_ Tryd.func48 (by kernel_rfl) rfl #[.agg #[.int .i64 a0_0, .slice A0_1 l0_1.length c0_1]] (by rfl) rfl rfl (by (try simp only [List.map_toArray, List.map_cons, List.map_nil]); first | done | rfl | (simp only [List.length_drop, List.length_take]; rfl)) ?_
      with_reducible refine (dataflowref04_Reverse.calls k a0_0 _ _ l0_1 t253 t254 _ ?side1 ?side2 A20.out).mono ?_
      (case side1 => repeat (first | exact (Kd.C_below HR0_1.out HB.out) | (with_reducible refine Kd.C_alloc ?_ _) | (with_reducible refine Kd.C_drewN ?_ _) | (with_reducible refine Kd.C_drew ?_)))
      (case side2 => exact HC0_1.out)
      rintro e w57 ⟨v255, rfl, ho0, hb⟩
      refine ⟨_, rfl, ?_⟩
      have n0_ := Aside0.mk (Kd.R_below (by (with_reducible repeat (first | apply Kd.R_alloc | apply Kd.R_drewN | apply Kd.R_drew)); exact HO237.out) hb)
      have n1_ := Aside0.mk (Kd.R_below (by (with_reducible repeat (first | apply Kd.R_alloc | apply Kd.R_drewN | apply Kd.R_drew)); exact HO240.out) hb)
      have n2_ := Aside0.mk (Kd.R_below (by (with_reducible repeat (first | apply Kd.R_alloc | apply Kd.R_drewN | apply Kd.R_drew)); exact HO244.out) hb)
      have n3_ := Aside0.mk (Kd.R_below (by (with_reducible repeat (first | apply Kd.R_alloc | apply Kd.R_drewN | apply Kd.R_drew)); exact HO247.out) hb)
      have n4_ := Aside0.mk (Kd.R_elder' (by (with_reducible repeat (first | apply Kd.R_alloc | apply Kd.R_drewN | apply Kd.R_drew)); exact HO252.out) (Kd.R_base ho0) hb)
      have n5_ := Aside0.mk (Kd.R_lower (Kd.R_new' ho0 (Kd.R_lt (by (with_reducible repeat (first | apply Kd.R_alloc | apply Kd.R_drewN | apply Kd.R_drew)); exact HO252.out))) (below_size (by repeat (first | (with_reducible first | exact HB.out | apply below_alloc | apply pw_below_drewN | apply below_drew1 | refine below_set ?_ GE231.out) | exact HB.out))))
      have n6_ := Aside0.mk (blk_below (g := gb231) (o := .cells #[.int .i64 a0_0, .slice A0_1 l0_1.length c0_1] 24 (0, 0)) (by (with_reducible repeat (first | refine blk_drewN ?_ _ | refine blk_drew ?_ | refine blk_alloc ?_ _)); exact BK231.out) hb)
      have n7_ := Aside0.mk (below_step (by repeat (first | (with_reducible first | exact HB.out | apply below_alloc | apply pw_below_drewN | apply below_drew1 | refine below_set ?_ GE231.out) | exact HB.out)) hb)
      clear HO237
      clear HO240
      clear HO244
      clear HO247
      clear HO252
      clear BK231
      clear HB
      have HO237 := n0_
      have HO240 := n1_
      have HO244 := n2_
      have HO247 := n3_
      have HO252 := n4_
      have HO256 := n5_
      have BK231 := n6_
      have HB := n7_
      clear n0_ n1_ n2_ n3_ n4_ n5_ n6_ n7_
      (try clear hb)
      (try clear hb2)
      (try clear hk)
      (try clear hi)
      (try clear ho0)
      obtain ⟨Ao58, co58, eo58⟩ := Kd.R_slice HO252.out
      (first | subst eo58 | (injection eo58 with f1_ f2_ f3_; have f4_ := f1_.symm; have f5_ := f3_.symm; clear f1_ f2_ f3_; subst f4_; subst f5_))
      obtain ⟨Ao59, co59, eo59⟩ := Kd.R_slice HO256.out
      (first | subst eo59 | (injection eo59 with f1_ f2_ f3_; have f4_ := f1_.symm; have f5_ := f3_.symm; clear f1_ f2_ f3_; subst f4_; subst f5_))
      refine hK.out _ _ ⟨(blk_cell BK231.out 0).trans rfl, (blk_cell BK231.out 1).trans rfl⟩ (fun hHeld => ?_)
      clear hK K
      refine norm_ (a' := ?_) ?_ ?_
      rotate_left
      ·show Act.put _ (some 37) _ = _
       simp only [Act.put, uA_, uB_, uC_, i64_w, i32_w]
       rfl
      refine one_ (i := 28) (N := some 38) #[true, true, true, true, true, true, true, true, true, true, true, true, true, true, true, true, true, true, true, true, true, true, true, true, true, true, true, true, true, false, false, false, false, false] rfl rfl (one_of HT_.out (by kernel_rfl)) (by decide) (fun K hK => ?_)
      refine goes_ Tryd.func33 (by kernel_rfl) rfl #[.agg #[.int .i64 t249, .slice Ao58 t250.length co58], .agg #[.int .i64 t253, .slice Ao59 t254.length co59]] (by rfl) rfl rfl (by (try simp only [List.map_toArray, List.map_cons, List.map_nil]); first | done | rfl | (simp only [List.length_drop, List.length_take]; rfl)) ?_
      with_reducible refine (dataflowref04_Same.calls k t249 _ _ t250 t253 _ _ t254 false _ ?side1 ?side2 ?side3 ?side4 A21.out).mono ?_
      (case side1 => repeat (first | exact (Kd.R_reads' HO252.out).2.2 | (with_reducible refine Kd.C_alloc ?_ _) | (with_reducible refine Kd.C_drewN ?_ _) | (with_reducible refine Kd.C_drew ?_)))
      (case side2 => exact (Kd.R_reads' HO252.out).2.1)
      (case side3 => repeat (first | exact (Kd.R_reads' HO256.out).2.2 | (with_reducible refine Kd.C_alloc ?_ _) | (with_reducible refine Kd.C_drewN ?_ _) | (with_reducible refine Kd.C_drew ?_)))
      (case side4 => exact (Kd.R_reads' HO256.out).2.1)
      rintro e w60 ⟨rfl, hb⟩
      refine ⟨_, rfl, ?_⟩
      have n0_ := Aside0.mk (Kd.R_below (by (with_reducible repeat (first | apply Kd.R_alloc | apply Kd.R_drewN | apply Kd.R_drew)); exact HO237.out) hb)
      have n1_ := Aside0.mk (Kd.R_below (by (with_reducible repeat (first | apply Kd.R_alloc | apply Kd.R_drewN | apply Kd.R_drew)); exact HO240.out) hb)
      have n2_ := Aside0.mk (Kd.R_below (by (with_reducible repeat (first | apply Kd.R_alloc | apply Kd.R_drewN | apply Kd.R_drew)); exact HO244.out) hb)
      have n3_ := Aside0.mk (Kd.R_below (by (with_reducible repeat (first | apply Kd.R_alloc | apply Kd.R_drewN | apply Kd.R_drew)); exact HO247.out) hb)
      have n4_ := Aside0.mk (Kd.R_below (by (with_reducible repeat (first | apply Kd.R_alloc | apply Kd.R_drewN | apply Kd.R_drew)); exact HO252.out) hb)
      have n5_ := Aside0.mk (Kd.R_below (by (with_reducible repeat (first | apply Kd.R_alloc | apply Kd.R_drewN | apply Kd.R_drew)); exact HO256.out) hb)
      have n6_ := Aside0.mk (blk_below (g := gb231) (o := .cells #[.int .i64 a0_0, .slice A0_1 l0_1.length c0_1] 24 (0, 0)) (by (with_reducible repeat (first | refine blk_drewN ?_ _ | refine blk_drew ?_ | refine blk_alloc ?_ _)); exact BK231.out) hb)
      have n7_ := Aside0.mk (below_step (by repeat (first | (with_reducible first | exact HB.out | apply below_alloc | apply pw_below_drewN | apply below_drew1 | refine below_set ?_ GE231.out) | exact HB.out)) hb)
      clear HO237
      clear HO240
      clear HO244
      clear HO247
      clear HO252
      clear HO256
      clear BK231
      clear HB
      have HO237 := n0_
      have HO240 := n1_
      have HO244 := n2_
      have HO247 := n3_
      have HO252 := n4_
      have HO256 := n5_
      have BK231 := n6_
      have HB := n7_
      clear n0_ n1_ n2_ n3_ n4_ n5_ n6_ n7_
      (try clear hb)
      (try clear hb2)
      (try clear hk)
      (try clear hi)
      refine hK.out _ _ ⟨(blk_cell BK231.out 0).trans rfl, (blk_cell BK231.out 1).trans rfl⟩ (fun hHeld => ?_)
      clear hK K
      refine norm_ (a' := ?_) ?_ ?_
      rotate_left
      ·show Act.put _ (some 38) _ = _
       simp only [Act.put, uA_, uB_, uC_, i64_w, i32_w]
       rfl
      refine pure_ (i := 29) (N := some 39) (v := ?_) (a' := ?_) #[true, true, true, true, true, true, true, true, true, true, true, true, true, true, true, true, true, true, true, true, true, true, true, true, true, true, true, true, true, true, false, false, false, false] rfl rfl (any_of HT_.out (by kernel_rfl)) (fun _ _ _ h => h) (Or.inl ⟨by rfl, ?_⟩) ?_ ?_
      rotate_left
      ·intro w'
       go_simp
       with_reducible rfl
      rotate_left
      ·simp only [Act.put, uA_, uB_, uC_, i64_w, i32_w]
       rfl
      refine pure_ (i := 30) (N := some 40) (v := ?_) (a' := ?_) #[true, true, true, true, true, true, true, true, true, true, true, true, true, true, true, true, true, true, true, true, true, true, true, true, true, true, true, true, true, true, true, false, false, false] rfl rfl (any_of HT_.out (by kernel_rfl)) (fun _ _ _ h => h) (Or.inl ⟨by rfl, ?_⟩) ?_ ?_
      rotate_left
      ·intro w'
       go_simp
       with_reducible rfl
      rotate_left
      ·simp only [Act.put, uA_, uB_, uC_, i64_w, i32_w]
       rfl
      refine pure_ (i := 31) (N := some 41) (v := undef) (a' := ?_) #[true, true, true, true, true, true, true, true, true, true, true, true, true, true, true, true, true, true, true, true, true, true, true, true, true, true, true, true, true, true, true, true, false, false] rfl rfl (any_of HT_.out (by kernel_rfl)) (fun _ _ _ h => h) (Or.inr ⟨by rfl, rfl⟩) ?_ ?_
      rotate_left
      ·simp only [Act.put, uA_, uB_, uC_, i64_w, i32_w]
       rfl
      refine pure_ (i := 32) (N := some 42) (v := ?_) (a' := ?_) #[true, true, true, true, true, true, true, true, true, true, true, true, true, true, true, true, true, true, true, true, true, true, true, true, true, true, true, true, true, true, true, true, true, false] rfl rfl (any_of HT_.out (by kernel_rfl)) (fun _ _ _ h => h) (Or.inl ⟨by rfl, ?_⟩) ?_ ?_
      rotate_left
      ·intro w'
       go_simp
       with_reducible rfl
      rotate_left
      ·simp only [Act.put, uA_, uB_, uC_, i64_w, i32_w]
       rfl
      refine pure_ (i := 33) (N := some 4) (v := ?_) (a' := ?_) #[true, true, true, true, true, true, true, true, true, true, true, true, true, true, true, true, true, true, true, true, true, true, true, true, true, true, true, true, true, true, true, true, true, true] rfl rfl (any_of HT_.out (by kernel_rfl)) (fun _ _ _ h => h) (Or.inl ⟨by rfl, ?_⟩) ?_ ?_
      rotate_left
      ·intro w'
       go_simp
       with_reducible rfl
      rotate_left
      ·simp only [Act.put, uA_, uB_, uC_, i64_w, i32_w]
       rfl
      refine done_ (done_of HT_.out (by kernel_rfl)) ?_
      try go_wp2
      go_ret
      exact ⟨by first | rfl | (simp [errW_none, errW_some] <;> rfl) | (simp [*, errW_none, errW_some] <;> rfl), by repeat (first | (with_reducible first | exact HB.out | apply below_alloc | apply pw_below_drewN | apply below_drew1 | refine below_set ?_ GE231.out) | exact HB.out)⟩
    ·replace c18 := Bool.eq_false_iff.mpr c18
     subst c18
     have H1 : (some false) = some r := by rw [if_neg (show ¬ (false = true) by decide)] at H; exact H
     clear H
     have H := H1
     clear H1
     obtain rfl := Option.some.inj H
     go_enter Tryd.func11, Tryd.ntmps11
     try go_wp2_with (first | ((with_reducible refine gate_dst (N := 2) rfl ?_); refine box_event ?hg (N := 2) ?hd (cs := #[.int .i64 a0_0, .slice A0_1 l0_1.length c0_1]) (t := 24) ?hr ?_; (case hd => rfl); (case hg => rfl); (case hr => first | (go_simp; done) | (go_simp; rfl)); intro gb231 hg w61 hbox hb; have n0_ := Aside0.mk (below_step (by repeat (first | (with_reducible first | exact HB.out | apply below_alloc | apply pw_below_drewN | apply below_drew1) | exact HB.out)) hb); have n1_ := Aside0.mk (hbox); have n2_ := Aside0.mk ((by rw [hg]; exact (below_size (by repeat (first | (with_reducible first | exact HB.out | apply below_alloc | apply pw_below_drewN | apply below_drew1) | exact HB.out))) : w.heap.size ≤ gb231)); have n3_ := Aside0.mk ((by rw [hg]; exact (below_size (by repeat (first | (with_reducible first | exact HB.out | apply below_alloc | apply pw_below_drewN | apply below_drew1) | exact HB.out))) : w.heap.size ≤ gb231)); clear HB; have HB := n0_; have BK231 := n1_; have GW231 := n2_; have GE231 := n3_; clear n0_ n1_ n2_ n3_; clear hb hbox hg; have hcz62_0 : w61.cell? ⟨gb231, 0, none⟩ = some (.int .i64 a0_0) := (blk_cell BK231.out 0).trans rfl; have hcz62_1 : w61.cell? ⟨gb231, 1, none⟩ = some (.slice A0_1 l0_1.length c0_1) := (blk_cell BK231.out 1).trans rfl; have hfz62_0 := blk_frozen BK231.out 0; have hfz62_1 := blk_frozen BK231.out 1))
     have n0_ := Aside0.mk (blk_drew BK231.out)
     have n1_ := Aside0.mk (below_drew1 HB.out)
     clear BK231
     clear HB
     have BK231 := n0_
     have HB := n1_
     clear n0_ n1_
     refine start_ (n := 34) (S := fun w' => w'.cell? ⟨gb231, 0, none⟩ = some (.int .i64 a0_0) ∧ w'.cell? ⟨gb231, 1, none⟩ = some (.slice A0_1 l0_1.length c0_1)) (ds := []) #[false, false, false, false, false, false, false, false, false, false, false, false, false, false, false, false, false, false, false, false, false, false, false, false, false, false, false, false, false, false, false, false, false, false] (by kernel_rfl) rfl rfl ⟨(blk_cell BK231.out 0).trans rfl, (blk_cell BK231.out 1).trans rfl⟩ (fun hHeld => ?_); refine with_tabW dataflowlaw04_GraphTells.tab3 dataflowlaw04_GraphTells.bits3 (fun HT_ HW_ => ?_)
     generalize w61.drew = w63 at BK231 HB hHeld ⊢
     refine take_ (i := 0) (N := some 10) (v := ?_) (a' := ?_) #[true, false, false, false, false, false, false, false, false, false, false, false, false, false, false, false, false, false, false, false, false, false, false, false, false, false, false, false, false, false, false, false, false, false] rfl rfl (take_ofW HT_.out HW_.out (by kernel_rfl)) (fun _ _ _ h => h) (Or.inl ⟨by rfl, ?_⟩) hHeld ?_ ?_
     rotate_left
     ·rintro w' ⟨s0, s1⟩
      go_simp
      with_reducible rfl
     rotate_left
     ·simp only [Act.put, uA_, uB_, uC_, i64_w, i32_w]
      rfl
     refine take_ (i := 2) (N := some 12) (v := ?_) (a' := ?_) #[true, false, true, false, false, false, false, false, false, false, false, false, false, false, false, false, false, false, false, false, false, false, false, false, false, false, false, false, false, false, false, false, false, false] rfl rfl (take_ofW HT_.out HW_.out (by kernel_rfl)) (fun _ _ _ h => h) (Or.inl ⟨by rfl, ?_⟩) hHeld ?_ ?_
     rotate_left
     ·rintro w' ⟨s0, s1⟩
      go_simp
      with_reducible rfl
     rotate_left
     ·simp only [Act.put, uA_, uB_, uC_, i64_w, i32_w]
      rfl
     refine one_ (i := 1) (N := some 11) #[true, true, true, false, false, false, false, false, false, false, false, false, false, false, false, false, false, false, false, false, false, false, false, false, false, false, false, false, false, false, false, false, false, false] rfl rfl (one_of HT_.out (by kernel_rfl)) (by decide) (fun K hK => ?_)
     refine goes_ Tryd.func34 (by kernel_rfl) rfl #[.agg #[.int .i64 a0_0, .slice A0_1 l0_1.length c0_1]] (by rfl) rfl rfl (by (try simp only [List.map_toArray, List.map_cons, List.map_nil]); first | done | rfl | (simp only [List.length_drop, List.length_take]; rfl)) ?_
     with_reducible refine (graph_Check.calls k a0_0 _ _ l0_1 t233 _ ?side1 ?side2 A8.out).mono ?_
     (case side1 => repeat (first | exact (Kd.C_below HR0_1.out HB.out) | (with_reducible refine Kd.C_alloc ?_ _) | (with_reducible refine Kd.C_drewN ?_ _) | (with_reducible refine Kd.C_drew ?_)))
     (case side2 => exact HC0_1.out)
     rintro e w64 ⟨rfl, hb⟩
     refine ⟨_, rfl, ?_⟩
     have n0_ := Aside0.mk (blk_below (g := gb231) (o := .cells #[.int .i64 a0_0, .slice A0_1 l0_1.length c0_1] 24 (0, 0)) (by (with_reducible repeat (first | refine blk_drewN ?_ _ | refine blk_drew ?_ | refine blk_alloc ?_ _)); exact BK231.out) hb)
     have n1_ := Aside0.mk (below_step (by repeat (first | (with_reducible first | exact HB.out | apply below_alloc | apply pw_below_drewN | apply below_drew1 | refine below_set ?_ GE231.out) | exact HB.out)) hb)
     clear BK231
     clear HB
     have BK231 := n0_
     have HB := n1_
     clear n0_ n1_
     (try clear hb)
     (try clear hb2)
     (try clear hk)
     (try clear hi)
     refine hK.out _ _ ⟨(blk_cell BK231.out 0).trans rfl, (blk_cell BK231.out 1).trans rfl⟩ (fun hHeld => ?_)
     clear hK K
     refine norm_ (a' := ?_) ?_ ?_
     rotate_left
     ·show Act.put _ (some 11) _ = _
      simp only [Act.put, uA_, uB_, uC_, i64_w, i32_w]
      rfl
     refine one_ (i := 3) (N := some 13) #[true, true, true, true, false, false, false, false, false, false, false, false, false, false, false, false, false, false, false, false, false, false, false, false, false, false, false, false, false, false, false, false, false, false] rfl rfl (one_of HT_.out (by kernel_rfl)) (by decide) (fun K hK => ?_)
     refine goes_ Tryd.func38 (by kernel_rfl) rfl #[.agg #[.int .i64 a0_0, .slice A0_1 l0_1.length c0_1]] (by rfl) rfl rfl (by (try simp only [List.map_toArray, List.map_cons, List.map_nil]); first | done | rfl | (simp only [List.length_drop, List.length_take]; rfl)) ?_
     with_reducible refine (dataflowref04_Check.calls k a0_0 _ _ l0_1 t234 _ ?side1 ?side2 A9.out).mono ?_
     (case side1 => repeat (first | exact (Kd.C_below HR0_1.out HB.out) | (with_reducible refine Kd.C_alloc ?_ _) | (with_reducible refine Kd.C_drewN ?_ _) | (with_reducible refine Kd.C_drew ?_)))
     (case side2 => exact HC0_1.out)
     rintro e w65 ⟨rfl, hb⟩
     refine ⟨_, rfl, ?_⟩
     have n0_ := Aside0.mk (blk_below (g := gb231) (o := .cells #[.int .i64 a0_0, .slice A0_1 l0_1.length c0_1] 24 (0, 0)) (by (with_reducible repeat (first | refine blk_drewN ?_ _ | refine blk_drew ?_ | refine blk_alloc ?_ _)); exact BK231.out) hb)
     have n1_ := Aside0.mk (below_step (by repeat (first | (with_reducible first | exact HB.out | apply below_alloc | apply pw_below_drewN | apply below_drew1 | refine below_set ?_ GE231.out) | exact HB.out)) hb)
     clear BK231
     clear HB
     have BK231 := n0_
     have HB := n1_
     clear n0_ n1_
     (try clear hb)
     (try clear hb2)
     (try clear hk)
     (try clear hi)
     refine hK.out _ _ ⟨(blk_cell BK231.out 0).trans rfl, (blk_cell BK231.out 1).trans rfl⟩ (fun hHeld => ?_)
     clear hK K
     refine norm_ (a' := ?_) ?_ ?_
     rotate_left
     ·show Act.put _ (some 13) _ = _
      simp only [Act.put, uA_, uB_, uC_, i64_w, i32_w]
      rfl
     refine pure_ (i := 4) (N := some 14) (v := ?_) (a' := ?_) #[true, true, true, true, true, false, false, false, false, false, false, false, false, false, false, false, false, false, false, false, false, false, false, false, false, false, false, false, false, false, false, false, false, false] rfl rfl (any_of HT_.out (by kernel_rfl)) (fun _ _ _ h => h) (Or.inl ⟨by rfl, ?_⟩) ?_ ?_
     rotate_left
     ·intro w'
      go_simp
      with_reducible rfl
     rotate_left
     ·simp only [Act.put, uA_, uB_, uC_, i64_w, i32_w]
      rfl
     refine pure_ (i := 5) (N := some 15) (v := ?_) (a' := ?_) #[true, true, true, true, true, true, false, false, false, false, false, false, false, false, false, false, false, false, false, false, false, false, false, false, false, false, false, false, false, false, false, false, false, false] rfl rfl (any_of HT_.out (by kernel_rfl)) (fun _ _ _ h => h) (Or.inl ⟨by rfl, ?_⟩) ?_ ?_
     rotate_left
     ·intro w'
      go_simp
      with_reducible rfl
     rotate_left
     ·simp only [Act.put, uA_, uB_, uC_, i64_w, i32_w]
      rfl
     refine pure_ (i := 7) (N := some 17) (v := ?_) (a' := ?_) #[true, true, true, true, true, true, false, true, false, false, false, false, false, false, false, false, false, false, false, false, false, false, false, false, false, false, false, false, false, false, false, false, false, false] rfl rfl (any_of HT_.out (by kernel_rfl)) (fun _ _ _ h => h) (Or.inl ⟨by rfl, ?_⟩) ?_ ?_
     rotate_left
     ·intro w'
      go_simp
      with_reducible rfl
     rotate_left
     ·simp only [Act.put, uA_, uB_, uC_, i64_w, i32_w]
      rfl
     refine pure_ (i := 10) (N := some 20) (v := ?_) (a' := ?_) #[true, true, true, true, true, true, false, true, false, false, true, false, false, false, false, false, false, false, false, false, false, false, false, false, false, false, false, false, false, false, false, false, false, false] rfl rfl (any_of HT_.out (by kernel_rfl)) (fun _ _ _ h => h) (Or.inl ⟨by rfl, ?_⟩) ?_ ?_
     rotate_left
     ·intro w'
      go_simp
      with_reducible rfl
     rotate_left
     ·simp only [Act.put, uA_, uB_, uC_, i64_w, i32_w]
      rfl
     refine take_ (i := 6) (N := some 16) (v := ?_) (a' := ?_) #[true, true, true, true, true, true, true, true, false, false, true, false, false, false, false, false, false, false, false, false, false, false, false, false, false, false, false, false, false, false, false, false, false, false] rfl rfl (take_ofW HT_.out HW_.out (by kernel_rfl)) (fun _ _ _ h => h) (Or.inl ⟨by rfl, ?_⟩) hHeld ?_ ?_
     rotate_left
     ·rintro w' ⟨s0, s1⟩
      go_simp
      with_reducible rfl
     rotate_left
     ·simp only [Act.put, uA_, uB_, uC_, i64_w, i32_w]
      rfl
     refine take_ (i := 9) (N := some 19) (v := ?_) (a' := ?_) #[true, true, true, true, true, true, true, true, false, true, true, false, false, false, false, false, false, false, false, false, false, false, false, false, false, false, false, false, false, false, false, false, false, false] rfl rfl (take_ofW HT_.out HW_.out (by kernel_rfl)) (fun _ _ _ h => h) (Or.inl ⟨by rfl, ?_⟩) hHeld ?_ ?_
     rotate_left
     ·rintro w' ⟨s0, s1⟩
      go_simp
      with_reducible rfl
     rotate_left
     ·simp only [Act.put, uA_, uB_, uC_, i64_w, i32_w]
      rfl
     refine one_ (i := 8) (N := some 18) #[true, true, true, true, true, true, true, true, true, true, true, false, false, false, false, false, false, false, false, false, false, false, false, false, false, false, false, false, false, false, false, false, false, false] rfl rfl (one_of HT_.out (by kernel_rfl)) (by decide) (fun K hK => ?_)
     refine goes_ Tryd.func42 (by kernel_rfl) rfl #[.agg #[.int .i64 a0_0, .slice A0_1 l0_1.length c0_1], .int .i64 a1] (by rfl) rfl rfl (by (try simp only [List.map_toArray, List.map_cons, List.map_nil]); first | done | rfl | (simp only [List.length_drop, List.length_take]; rfl)) ?_
     with_reducible refine (graph_Succ.calls a0_0 _ _ l0_1 a1 t235 _ ?side1 ?side2 A11.out).mono ?_
     (case side1 => repeat (first | exact (Kd.C_below HR0_1.out HB.out) | (with_reducible refine Kd.C_alloc ?_ _) | (with_reducible refine Kd.C_drewN ?_ _) | (with_reducible refine Kd.C_drew ?_)))
     (case side2 => exact HC0_1.out)
     rintro e w66 ⟨v236, rfl, ho0, hb⟩
     refine ⟨_, rfl, ?_⟩
     have n0_ := Aside0.mk (Kd.R_lower ho0 (below_size (by repeat (first | (with_reducible first | exact HB.out | apply below_alloc | apply pw_below_drewN | apply below_drew1 | refine below_set ?_ GE231.out) | exact HB.out))))
     have n1_ := Aside0.mk (blk_below (g := gb231) (o := .cells #[.int .i64 a0_0, .slice A0_1 l0_1.length c0_1] 24 (0, 0)) (by (with_reducible repeat (first | refine blk_drewN ?_ _ | refine blk_drew ?_ | refine blk_alloc ?_ _)); exact BK231.out) hb)
     have n2_ := Aside0.mk (below_step (by repeat (first | (with_reducible first | exact HB.out | apply below_alloc | apply pw_below_drewN | apply below_drew1 | refine below_set ?_ GE231.out) | exact HB.out)) hb)
     clear BK231
     clear HB
     have HO237 := n0_
     have BK231 := n1_
     have HB := n2_
     clear n0_ n1_ n2_
     (try clear hb)
     (try clear hb2)
     (try clear hk)
     (try clear hi)
     (try clear ho0)
     refine hK.out _ _ ⟨(blk_cell BK231.out 0).trans rfl, (blk_cell BK231.out 1).trans rfl⟩ (fun hHeld => ?_)
     clear hK K
     refine norm_ (a' := ?_) ?_ ?_
     rotate_left
     ·show Act.put _ (some 18) _ = _
      simp only [Act.put, uA_, uB_, uC_, i64_w, i32_w]
      rfl
     refine one_ (i := 11) (N := some 21) #[true, true, true, true, true, true, true, true, true, true, true, true, false, false, false, false, false, false, false, false, false, false, false, false, false, false, false, false, false, false, false, false, false, false] rfl rfl (one_of HT_.out (by kernel_rfl)) (by decide) (fun K hK => ?_)
     refine goes_ Tryd.func21 (by kernel_rfl) rfl #[.agg #[.int .i64 a0_0, .slice A0_1 l0_1.length c0_1], .int .i64 a1] (by rfl) rfl rfl (by (try simp only [List.map_toArray, List.map_cons, List.map_nil]); first | done | rfl | (simp only [List.length_drop, List.length_take]; rfl)) ?_
     with_reducible refine (dataflowref04_Succ.calls k a0_0 _ _ l0_1 a1 t238 _ ?side1 ?side2 A12.out).mono ?_
     (case side1 => repeat (first | exact (Kd.C_below HR0_1.out HB.out) | (with_reducible refine Kd.C_alloc ?_ _) | (with_reducible refine Kd.C_drewN ?_ _) | (with_reducible refine Kd.C_drew ?_)))
     (case side2 => exact HC0_1.out)
     rintro e w67 ⟨v239, rfl, ho0, hb⟩
     refine ⟨_, rfl, ?_⟩
     have n0_ := Aside0.mk (Kd.R_elder' (by (with_reducible repeat (first | apply Kd.R_alloc | apply Kd.R_drewN | apply Kd.R_drew)); exact HO237.out) (Kd.R_base ho0) hb)
     have n1_ := Aside0.mk (Kd.R_lower (Kd.R_new' ho0 (Kd.R_lt (by (with_reducible repeat (first | apply Kd.R_alloc | apply Kd.R_drewN | apply Kd.R_drew)); exact HO237.out))) (below_size (by repeat (first | (with_reducible first | exact HB.out | apply below_alloc | apply pw_below_drewN | apply below_drew1 | refine below_set ?_ GE231.out) | exact HB.out))))
     have n2_ := Aside0.mk (blk_below (g := gb231) (o := .cells #[.int .i64 a0_0, .slice A0_1 l0_1.length c0_1] 24 (0, 0)) (by (with_reducible repeat (first | refine blk_drewN ?_ _ | refine blk_drew ?_ | refine blk_alloc ?_ _)); exact BK231.out) hb)
     have n3_ := Aside0.mk (below_step (by repeat (first | (with_reducible first | exact HB.out | apply below_alloc | apply pw_below_drewN | apply below_drew1 | refine below_set ?_ GE231.out) | exact HB.out)) hb)
     clear HO237
     clear BK231
     clear HB
     have HO237 := n0_
     have HO240 := n1_
     have BK231 := n2_
     have HB := n3_
     clear n0_ n1_ n2_ n3_
     (try clear hb)
     (try clear hb2)
     (try clear hk)
     (try clear hi)
     (try clear ho0)
     obtain ⟨Ao68, co68, eo68⟩ := Kd.R_slice HO237.out
     (first | subst eo68 | (injection eo68 with f1_ f2_ f3_; have f4_ := f1_.symm; have f5_ := f3_.symm; clear f1_ f2_ f3_; subst f4_; subst f5_))
     obtain ⟨Ao69, co69, eo69⟩ := Kd.R_slice HO240.out
     (first | subst eo69 | (injection eo69 with f1_ f2_ f3_; have f4_ := f1_.symm; have f5_ := f3_.symm; clear f1_ f2_ f3_; subst f4_; subst f5_))
     refine hK.out _ _ ⟨(blk_cell BK231.out 0).trans rfl, (blk_cell BK231.out 1).trans rfl⟩ (fun hHeld => ?_)
     clear hK K
     refine norm_ (a' := ?_) ?_ ?_
     rotate_left
     ·show Act.put _ (some 21) _ = _
      simp only [Act.put, uA_, uB_, uC_, i64_w, i32_w]
      rfl
     refine one_ (i := 12) (N := some 22) #[true, true, true, true, true, true, true, true, true, true, true, true, true, false, false, false, false, false, false, false, false, false, false, false, false, false, false, false, false, false, false, false, false, false] rfl rfl (one_of HT_.out (by kernel_rfl)) (by decide) (fun K hK => ?_)
     refine goes_ Tryd.func36 (by kernel_rfl) rfl #[.slice Ao68 t235.length co68, .slice Ao69 t238.length co69] (by rfl) rfl rfl (by (try simp only [List.map_toArray, List.map_cons, List.map_nil]); first | done | rfl | (simp only [List.length_drop, List.length_take]; rfl)) ?_
     with_reducible refine (dataflowref04_Equal.calls k _ _ t235 _ _ t238 true _ ?side1 ?side2 ?side3 ?side4 A13.out).mono ?_
     (case side1 => repeat (first | exact (Kd.R_reads' HO237.out).2.2 | (with_reducible refine Kd.C_alloc ?_ _) | (with_reducible refine Kd.C_drewN ?_ _) | (with_reducible refine Kd.C_drew ?_)))
     (case side2 => exact (Kd.R_reads' HO237.out).2.1)
     (case side3 => repeat (first | exact (Kd.R_reads' HO240.out).2.2 | (with_reducible refine Kd.C_alloc ?_ _) | (with_reducible refine Kd.C_drewN ?_ _) | (with_reducible refine Kd.C_drew ?_)))
     (case side4 => exact (Kd.R_reads' HO240.out).2.1)
     rintro e w' ⟨rfl, ⟨nd, rfl⟩⟩
     refine ⟨_, rfl, ?_⟩
     refine hK.out _ _ ⟨(blk_cell BK231.out 0).trans rfl, (blk_cell BK231.out 1).trans rfl⟩ (fun hHeld => ?_)
     clear hK K
     refine norm_ (a' := ?_) ?_ ?_
     rotate_left
     ·show Act.put _ (some 22) _ = _
      simp only [Act.put, uA_, uB_, uC_, i64_w, i32_w]
      rfl
     refine pure_ (i := 13) (N := some 23) (v := ?_) (a' := ?_) #[true, true, true, true, true, true, true, true, true, true, true, true, true, true, false, false, false, false, false, false, false, false, false, false, false, false, false, false, false, false, false, false, false, false] rfl rfl (any_of HT_.out (by kernel_rfl)) (fun _ _ _ h => h) (Or.inl ⟨by rfl, ?_⟩) ?_ ?_
     rotate_left
     ·intro w'
      go_simp
      with_reducible rfl
     rotate_left
     ·simp only [Act.put, uA_, uB_, uC_, i64_w, i32_w]
      rfl
     refine pure_ (i := 14) (N := some 24) (v := ?_) (a' := ?_) #[true, true, true, true, true, true, true, true, true, true, true, true, true, true, true, false, false, false, false, false, false, false, false, false, false, false, false, false, false, false, false, false, false, false] rfl rfl (any_of HT_.out (by kernel_rfl)) (fun _ _ _ h => h) (Or.inl ⟨by rfl, ?_⟩) ?_ ?_
     rotate_left
     ·intro w'
      go_simp
      with_reducible rfl
     rotate_left
     ·simp only [Act.put, uA_, uB_, uC_, i64_w, i32_w]
      rfl
     refine pure_ (i := 16) (N := some 26) (v := ?_) (a' := ?_) #[true, true, true, true, true, true, true, true, true, true, true, true, true, true, true, false, true, false, false, false, false, false, false, false, false, false, false, false, false, false, false, false, false, false] rfl rfl (any_of HT_.out (by kernel_rfl)) (fun _ _ _ h => h) (Or.inl ⟨by rfl, ?_⟩) ?_ ?_
     rotate_left
     ·intro w'
      go_simp
      with_reducible rfl
     rotate_left
     ·simp only [Act.put, uA_, uB_, uC_, i64_w, i32_w]
      rfl
     refine pure_ (i := 19) (N := some 29) (v := ?_) (a' := ?_) #[true, true, true, true, true, true, true, true, true, true, true, true, true, true, true, false, true, false, false, true, false, false, false, false, false, false, false, false, false, false, false, false, false, false] rfl rfl (any_of HT_.out (by kernel_rfl)) (fun _ _ _ h => h) (Or.inl ⟨by rfl, ?_⟩) ?_ ?_
     rotate_left
     ·intro w'
      go_simp
      with_reducible rfl
     rotate_left
     ·simp only [Act.put, uA_, uB_, uC_, i64_w, i32_w]
      rfl
     refine take_ (i := 15) (N := some 25) (v := ?_) (a' := ?_) #[true, true, true, true, true, true, true, true, true, true, true, true, true, true, true, true, true, false, false, true, false, false, false, false, false, false, false, false, false, false, false, false, false, false] rfl rfl (take_ofW HT_.out HW_.out (by kernel_rfl)) (fun _ _ _ h => h) (Or.inl ⟨by rfl, ?_⟩) hHeld ?_ ?_
     rotate_left
     ·rintro w' ⟨s0, s1⟩
      go_simp
      with_reducible rfl
     rotate_left
     ·simp only [Act.put, uA_, uB_, uC_, i64_w, i32_w]
      rfl
     refine take_ (i := 18) (N := some 28) (v := ?_) (a' := ?_) #[true, true, true, true, true, true, true, true, true, true, true, true, true, true, true, true, true, false, true, true, false, false, false, false, false, false, false, false, false, false, false, false, false, false] rfl rfl (take_ofW HT_.out HW_.out (by kernel_rfl)) (fun _ _ _ h => h) (Or.inl ⟨by rfl, ?_⟩) hHeld ?_ ?_
     rotate_left
     ·rintro w' ⟨s0, s1⟩
      go_simp
      with_reducible rfl
     rotate_left
     ·simp only [Act.put, uA_, uB_, uC_, i64_w, i32_w]
      rfl
     refine one_ (i := 17) (N := some 27) #[true, true, true, true, true, true, true, true, true, true, true, true, true, true, true, true, true, true, true, true, false, false, false, false, false, false, false, false, false, false, false, false, false, false] rfl rfl (one_of HT_.out (by kernel_rfl)) (by decide) (fun K hK => ?_)
     refine goes_ Tryd.func45 (by kernel_rfl) rfl #[.agg #[.int .i64 a0_0, .slice A0_1 l0_1.length c0_1], .int .i64 a1] (by rfl) rfl rfl (by (try simp only [List.map_toArray, List.map_cons, List.map_nil]); first | done | rfl | (simp only [List.length_drop, List.length_take]; rfl)) ?_
     with_reducible refine (graph_Pred.calls k a0_0 _ _ l0_1 a1 t242 _ ?side1 ?side2 A15.out).mono ?_
     (case side1 => repeat (first | exact (Kd.C_below HR0_1.out (by repeat (first | (with_reducible first | exact HB.out | apply below_alloc | apply pw_below_drewN | apply below_drew1 | refine below_set ?_ GE231.out) | exact HB.out))) | (with_reducible refine Kd.C_alloc ?_ _) | (with_reducible refine Kd.C_drewN ?_ _) | (with_reducible refine Kd.C_drew ?_)))
     (case side2 => exact HC0_1.out)
     rintro e w70 ⟨v243, rfl, ho0, hb⟩
     refine ⟨_, rfl, ?_⟩
     have n0_ := Aside0.mk (Kd.R_elder' (by (with_reducible repeat (first | apply Kd.R_alloc | apply Kd.R_drewN | apply Kd.R_drew)); exact HO237.out) (Kd.R_base ho0) hb)
     have n1_ := Aside0.mk (Kd.R_elder' (by (with_reducible repeat (first | apply Kd.R_alloc | apply Kd.R_drewN | apply Kd.R_drew)); exact HO240.out) (Kd.R_base ho0) hb)
     have n2_ := Aside0.mk (Kd.R_lower (Kd.R_new' (Kd.R_new' ho0 (Kd.R_lt (by (with_reducible repeat (first | apply Kd.R_alloc | apply Kd.R_drewN | apply Kd.R_drew)); exact HO237.out))) (Kd.R_lt (by (with_reducible repeat (first | apply Kd.R_alloc | apply Kd.R_drewN | apply Kd.R_drew)); exact HO240.out))) (below_size (by repeat (first | (with_reducible first | exact HB.out | apply below_alloc | apply pw_below_drewN | apply below_drew1 | refine below_set ?_ GE231.out) | exact HB.out))))
     have n3_ := Aside0.mk (blk_below (g := gb231) (o := .cells #[.int .i64 a0_0, .slice A0_1 l0_1.length c0_1] 24 (0, 0)) (by (with_reducible repeat (first | refine blk_drewN ?_ _ | refine blk_drew ?_ | refine blk_alloc ?_ _)); exact BK231.out) hb)
     have n4_ := Aside0.mk (below_step (by repeat (first | (with_reducible first | exact HB.out | apply below_alloc | apply pw_below_drewN | apply below_drew1 | refine below_set ?_ GE231.out) | exact HB.out)) hb)
     clear HO237
     clear HO240
     clear BK231
     clear HB
     have HO237 := n0_
     have HO240 := n1_
     have HO244 := n2_
     have BK231 := n3_
     have HB := n4_
     clear n0_ n1_ n2_ n3_ n4_
     (try clear hb)
     (try clear hb2)
     (try clear hk)
     (try clear hi)
     (try clear ho0)
     refine hK.out _ _ ⟨(blk_cell BK231.out 0).trans rfl, (blk_cell BK231.out 1).trans rfl⟩ (fun hHeld => ?_)
     clear hK K
     refine norm_ (a' := ?_) ?_ ?_
     rotate_left
     ·show Act.put _ (some 27) _ = _
      simp only [Act.put, uA_, uB_, uC_, i64_w, i32_w]
      rfl
     refine one_ (i := 20) (N := some 30) #[true, true, true, true, true, true, true, true, true, true, true, true, true, true, true, true, true, true, true, true, true, false, false, false, false, false, false, false, false, false, false, false, false, false] rfl rfl (one_of HT_.out (by kernel_rfl)) (by decide) (fun K hK => ?_)
     refine goes_ Tryd.func46 (by kernel_rfl) rfl #[.agg #[.int .i64 a0_0, .slice A0_1 l0_1.length c0_1], .int .i64 a1] (by rfl) rfl rfl (by (try simp only [List.map_toArray, List.map_cons, List.map_nil]); first | done | rfl | (simp only [List.length_drop, List.length_take]; rfl)) ?_
     with_reducible refine (dataflowref04_Pred.calls k a0_0 _ _ l0_1 a1 t245 _ ?side1 ?side2 A16.out).mono ?_
     (case side1 => repeat (first | exact (Kd.C_below HR0_1.out HB.out) | (with_reducible refine Kd.C_alloc ?_ _) | (with_reducible refine Kd.C_drewN ?_ _) | (with_reducible refine Kd.C_drew ?_)))
     (case side2 => exact HC0_1.out)
     rintro e w71 ⟨v246, rfl, ho0, hb⟩
     refine ⟨_, rfl, ?_⟩
     have n0_ := Aside0.mk (Kd.R_elder' (by (with_reducible repeat (first | apply Kd.R_alloc | apply Kd.R_drewN | apply Kd.R_drew)); exact HO237.out) (Kd.R_base ho0) hb)
     have n1_ := Aside0.mk (Kd.R_elder' (by (with_reducible repeat (first | apply Kd.R_alloc | apply Kd.R_drewN | apply Kd.R_drew)); exact HO240.out) (Kd.R_base ho0) hb)
     have n2_ := Aside0.mk (Kd.R_elder' (by (with_reducible repeat (first | apply Kd.R_alloc | apply Kd.R_drewN | apply Kd.R_drew)); exact HO244.out) (Kd.R_base ho0) hb)
     have n3_ := Aside0.mk (Kd.R_lower (Kd.R_new' (Kd.R_new' (Kd.R_new' ho0 (Kd.R_lt (by (with_reducible repeat (first | apply Kd.R_alloc | apply Kd.R_drewN | apply Kd.R_drew)); exact HO237.out))) (Kd.R_lt (by (with_reducible repeat (first | apply Kd.R_alloc | apply Kd.R_drewN | apply Kd.R_drew)); exact HO240.out))) (Kd.R_lt (by (with_reducible repeat (first | apply Kd.R_alloc | apply Kd.R_drewN | apply Kd.R_drew)); exact HO244.out))) (below_size (by repeat (first | (with_reducible first | exact HB.out | apply below_alloc | apply pw_below_drewN | apply below_drew1 | refine below_set ?_ GE231.out) | exact HB.out))))
     have n4_ := Aside0.mk (blk_below (g := gb231) (o := .cells #[.int .i64 a0_0, .slice A0_1 l0_1.length c0_1] 24 (0, 0)) (by (with_reducible repeat (first | refine blk_drewN ?_ _ | refine blk_drew ?_ | refine blk_alloc ?_ _)); exact BK231.out) hb)
     have n5_ := Aside0.mk (below_step (by repeat (first | (with_reducible first | exact HB.out | apply below_alloc | apply pw_below_drewN | apply below_drew1 | refine below_set ?_ GE231.out) | exact HB.out)) hb)
     clear HO237
     clear HO240
     clear HO244
     clear BK231
     clear HB
     have HO237 := n0_
     have HO240 := n1_
     have HO244 := n2_
     have HO247 := n3_
     have BK231 := n4_
     have HB := n5_
     clear n0_ n1_ n2_ n3_ n4_ n5_
     (try clear hb)
     (try clear hb2)
     (try clear hk)
     (try clear hi)
     (try clear ho0)
     obtain ⟨Ao72, co72, eo72⟩ := Kd.R_slice HO244.out
     (first | subst eo72 | (injection eo72 with f1_ f2_ f3_; have f4_ := f1_.symm; have f5_ := f3_.symm; clear f1_ f2_ f3_; subst f4_; subst f5_))
     obtain ⟨Ao73, co73, eo73⟩ := Kd.R_slice HO247.out
     (first | subst eo73 | (injection eo73 with f1_ f2_ f3_; have f4_ := f1_.symm; have f5_ := f3_.symm; clear f1_ f2_ f3_; subst f4_; subst f5_))
     refine hK.out _ _ ⟨(blk_cell BK231.out 0).trans rfl, (blk_cell BK231.out 1).trans rfl⟩ (fun hHeld => ?_)
     clear hK K
     refine norm_ (a' := ?_) ?_ ?_
     rotate_left
     ·show Act.put _ (some 30) _ = _
      simp only [Act.put, uA_, uB_, uC_, i64_w, i32_w]
      rfl
     refine one_ (i := 21) (N := some 31) #[true, true, true, true, true, true, true, true, true, true, true, true, true, true, true, true, true, true, true, true, true, true, false, false, false, false, false, false, false, false, false, false, false, false] rfl rfl (one_of HT_.out (by kernel_rfl)) (by decide) (fun K hK => ?_)
     refine goes_ Tryd.func36 (by kernel_rfl) rfl #[.slice Ao72 t242.length co72, .slice Ao73 t245.length co73] (by rfl) rfl rfl (by (try simp only [List.map_toArray, List.map_cons, List.map_nil]); first | done | rfl | (simp only [List.length_drop, List.length_take]; rfl)) ?_
     with_reducible refine (dataflowref04_Equal.calls k _ _ t242 _ _ t245 false _ ?side1 ?side2 ?side3 ?side4 A17.out).mono ?_
     (case side1 => repeat (first | exact (Kd.R_reads' HO244.out).2.2 | (with_reducible refine Kd.C_alloc ?_ _) | (with_reducible refine Kd.C_drewN ?_ _) | (with_reducible refine Kd.C_drew ?_)))
     (case side2 => exact (Kd.R_reads' HO244.out).2.1)
     (case side3 => repeat (first | exact (Kd.R_reads' HO247.out).2.2 | (with_reducible refine Kd.C_alloc ?_ _) | (with_reducible refine Kd.C_drewN ?_ _) | (with_reducible refine Kd.C_drew ?_)))
     (case side4 => exact (Kd.R_reads' HO247.out).2.1)
     rintro e w' ⟨rfl, ⟨nd, rfl⟩⟩
     refine ⟨_, rfl, ?_⟩
     refine hK.out _ _ ⟨(blk_cell BK231.out 0).trans rfl, (blk_cell BK231.out 1).trans rfl⟩ (fun hHeld => ?_)
     clear hK K
     refine norm_ (a' := ?_) ?_ ?_
     rotate_left
     ·show Act.put _ (some 31) _ = _
      simp only [Act.put, uA_, uB_, uC_, i64_w, i32_w]
      rfl
     refine pure_ (i := 22) (N := some 32) (v := ?_) (a' := ?_) #[true, true, true, true, true, true, true, true, true, true, true, true, true, true, true, true, true, true, true, true, true, true, true, false, false, false, false, false, false, false, false, false, false, false] rfl rfl (any_of HT_.out (by kernel_rfl)) (fun _ _ _ h => h) (Or.inl ⟨by rfl, ?_⟩) ?_ ?_
     rotate_left
     ·intro w'
      go_simp
      with_reducible rfl
     rotate_left
     ·simp only [Act.put, uA_, uB_, uC_, i64_w, i32_w]
      rfl
     refine pure_ (i := 23) (N := some 33) (v := ?_) (a' := ?_) #[true, true, true, true, true, true, true, true, true, true, true, true, true, true, true, true, true, true, true, true, true, true, true, true, false, false, false, false, false, false, false, false, false, false] rfl rfl (any_of HT_.out (by kernel_rfl)) (fun _ _ _ h => h) (Or.inl ⟨by rfl, ?_⟩) ?_ ?_
     rotate_left
     ·intro w'
      go_simp
      with_reducible rfl
     rotate_left
     ·simp only [Act.put, uA_, uB_, uC_, i64_w, i32_w]
      rfl
     refine pure_ (i := 24) (N := some 34) (v := undef) (a' := ?_) #[true, true, true, true, true, true, true, true, true, true, true, true, true, true, true, true, true, true, true, true, true, true, true, true, true, false, false, false, false, false, false, false, false, false] rfl rfl (any_of HT_.out (by kernel_rfl)) (fun _ _ _ h => h) (Or.inr ⟨by rfl, rfl⟩) ?_ ?_
     rotate_left
     ·simp only [Act.put, uA_, uB_, uC_, i64_w, i32_w]
      rfl
     refine pure_ (i := 25) (N := some 35) (v := undef) (a' := ?_) #[true, true, true, true, true, true, true, true, true, true, true, true, true, true, true, true, true, true, true, true, true, true, true, true, true, true, false, false, false, false, false, false, false, false] rfl rfl (any_of HT_.out (by kernel_rfl)) (fun _ _ _ h => h) (Or.inr ⟨by rfl, rfl⟩) ?_ ?_
     rotate_left
     ·simp only [Act.put, uA_, uB_, uC_, i64_w, i32_w]
      rfl
     refine pure_ (i := 26) (N := some 36) (v := undef) (a' := ?_) #[true, true, true, true, true, true, true, true, true, true, true, true, true, true, true, true, true, true, true, true, true, true, true, true, true, true, true, false, false, false, false, false, false, false] rfl rfl (any_of HT_.out (by kernel_rfl)) (fun _ _ _ h => h) (Or.inr ⟨by rfl, rfl⟩) ?_ ?_
     rotate_left
     ·simp only [Act.put, uA_, uB_, uC_, i64_w, i32_w]
      rfl
     refine pure_ (i := 27) (N := some 37) (v := undef) (a' := ?_) #[true, true, true, true, true, true, true, true, true, true, true, true, true, true, true, true, true, true, true, true, true, true, true, true, true, true, true, true, false, false, false, false, false, false] rfl rfl (any_of HT_.out (by kernel_rfl)) (fun _ _ _ h => h) (Or.inr ⟨by rfl, rfl⟩) ?_ ?_
     rotate_left
     ·simp only [Act.put, uA_, uB_, uC_, i64_w, i32_w]
      rfl
     refine pure_ (i := 28) (N := some 38) (v := undef) (a' := ?_) #[true, true, true, true, true, true, true, true, true, true, true, true, true, true, true, true, true, true, true, true, true, true, true, true, true, true, true, true, true, false, false, false, false, false] rfl rfl (any_of HT_.out (by kernel_rfl)) (fun _ _ _ h => h) (Or.inr ⟨by rfl, rfl⟩) ?_ ?_
     rotate_left
     ·simp only [Act.put, uA_, uB_, uC_, i64_w, i32_w]
      rfl
     refine pure_ (i := 29) (N := some 39) (v := ?_) (a' := ?_) #[true, true, true, true, true, true, true, true, true, true, true, true, true, true, true, true, true, true, true, true, true, true, true, true, true, true, true, true, true, true, false, false, false, false] rfl rfl (any_of HT_.out (by kernel_rfl)) (fun _ _ _ h => h) (Or.inl ⟨by rfl, ?_⟩) ?_ ?_
     rotate_left
     ·intro w'
      go_simp
      with_reducible rfl
     rotate_left
     ·simp only [Act.put, uA_, uB_, uC_, i64_w, i32_w]
      rfl
     refine pure_ (i := 30) (N := some 40) (v := ?_) (a' := ?_) #[true, true, true, true, true, true, true, true, true, true, true, true, true, true, true, true, true, true, true, true, true, true, true, true, true, true, true, true, true, true, true, false, false, false] rfl rfl (any_of HT_.out (by kernel_rfl)) (fun _ _ _ h => h) (Or.inl ⟨by rfl, ?_⟩) ?_ ?_
     rotate_left
     ·intro w'
      go_simp
      with_reducible rfl
     rotate_left
     ·simp only [Act.put, uA_, uB_, uC_, i64_w, i32_w]
      rfl
     refine pure_ (i := 31) (N := some 41) (v := undef) (a' := ?_) #[true, true, true, true, true, true, true, true, true, true, true, true, true, true, true, true, true, true, true, true, true, true, true, true, true, true, true, true, true, true, true, true, false, false] rfl rfl (any_of HT_.out (by kernel_rfl)) (fun _ _ _ h => h) (Or.inr ⟨by rfl, rfl⟩) ?_ ?_
     rotate_left
     ·simp only [Act.put, uA_, uB_, uC_, i64_w, i32_w]
      rfl
     refine pure_ (i := 32) (N := some 42) (v := ?_) (a' := ?_) #[true, true, true, true, true, true, true, true, true, true, true, true, true, true, true, true, true, true, true, true, true, true, true, true, true, true, true, true, true, true, true, true, true, false] rfl rfl (any_of HT_.out (by kernel_rfl)) (fun _ _ _ h => h) (Or.inl ⟨by rfl, ?_⟩) ?_ ?_
     rotate_left
     ·intro w'
      go_simp
      with_reducible rfl
     rotate_left
     ·simp only [Act.put, uA_, uB_, uC_, i64_w, i32_w]
      rfl
     refine pure_ (i := 33) (N := some 4) (v := ?_) (a' := ?_) #[true, true, true, true, true, true, true, true, true, true, true, true, true, true, true, true, true, true, true, true, true, true, true, true, true, true, true, true, true, true, true, true, true, true] rfl rfl (any_of HT_.out (by kernel_rfl)) (fun _ _ _ h => h) (Or.inl ⟨by rfl, ?_⟩) ?_ ?_
     rotate_left
     ·intro w'
      go_simp
      with_reducible rfl
     rotate_left
     ·simp only [Act.put, uA_, uB_, uC_, i64_w, i32_w]
      rfl
     refine done_ (done_of HT_.out (by kernel_rfl)) ?_
     try go_wp2
     go_ret
     exact ⟨by first | rfl | (simp [errW_none, errW_some] <;> rfl) | (simp [*, errW_none, errW_some] <;> rfl), by repeat (first | (with_reducible first | exact HB.out | apply below_alloc | apply pw_below_drewN | apply below_drew1 | refine below_set ?_ GE231.out) | exact HB.out)⟩
   ·replace c14 := Bool.eq_false_iff.mpr c14
    subst c14
    have H1 : (some false) = some r := by rw [if_neg (show ¬ (false = true) by decide)] at H; exact H
    clear H
    have H := H1
    clear H1
    obtain rfl := Option.some.inj H
    go_enter Tryd.func11, Tryd.ntmps11
    try go_wp2_with (first | ((with_reducible refine gate_dst (N := 2) rfl ?_); refine box_event ?hg (N := 2) ?hd (cs := #[.int .i64 a0_0, .slice A0_1 l0_1.length c0_1]) (t := 24) ?hr ?_; (case hd => rfl); (case hg => rfl); (case hr => first | (go_simp; done) | (go_simp; rfl)); intro gb231 hg w74 hbox hb; have n0_ := Aside0.mk (below_step (by repeat (first | (with_reducible first | exact HB.out | apply below_alloc | apply pw_below_drewN | apply below_drew1) | exact HB.out)) hb); have n1_ := Aside0.mk (hbox); have n2_ := Aside0.mk ((by rw [hg]; exact (below_size (by repeat (first | (with_reducible first | exact HB.out | apply below_alloc | apply pw_below_drewN | apply below_drew1) | exact HB.out))) : w.heap.size ≤ gb231)); have n3_ := Aside0.mk ((by rw [hg]; exact (below_size (by repeat (first | (with_reducible first | exact HB.out | apply below_alloc | apply pw_below_drewN | apply below_drew1) | exact HB.out))) : w.heap.size ≤ gb231)); clear HB; have HB := n0_; have BK231 := n1_; have GW231 := n2_; have GE231 := n3_; clear n0_ n1_ n2_ n3_; clear hb hbox hg; have hcz75_0 : w74.cell? ⟨gb231, 0, none⟩ = some (.int .i64 a0_0) := (blk_cell BK231.out 0).trans rfl; have hcz75_1 : w74.cell? ⟨gb231, 1, none⟩ = some (.slice A0_1 l0_1.length c0_1) := (blk_cell BK231.out 1).trans rfl; have hfz75_0 := blk_frozen BK231.out 0; have hfz75_1 := blk_frozen BK231.out 1))
    have n0_ := Aside0.mk (blk_drew BK231.out)
    have n1_ := Aside0.mk (below_drew1 HB.out)
    clear BK231
    clear HB
    have BK231 := n0_
    have HB := n1_
    clear n0_ n1_
    refine start_ (n := 34) (S := fun w' => w'.cell? ⟨gb231, 0, none⟩ = some (.int .i64 a0_0) ∧ w'.cell? ⟨gb231, 1, none⟩ = some (.slice A0_1 l0_1.length c0_1)) (ds := []) #[false, false, false, false, false, false, false, false, false, false, false, false, false, false, false, false, false, false, false, false, false, false, false, false, false, false, false, false, false, false, false, false, false, false] (by kernel_rfl) rfl rfl ⟨(blk_cell BK231.out 0).trans rfl, (blk_cell BK231.out 1).trans rfl⟩ (fun hHeld => ?_); refine with_tabW dataflowlaw04_GraphTells.tab3 dataflowlaw04_GraphTells.bits3 (fun HT_ HW_ => ?_)
    generalize w74.drew = w76 at BK231 HB hHeld ⊢
    refine take_ (i := 0) (N := some 10) (v := ?_) (a' := ?_) #[true, false, false, false, false, false, false, false, false, false, false, false, false, false, false, false, false, false, false, false, false, false, false, false, false, false, false, false, false, false, false, false, false, false] rfl rfl (take_ofW HT_.out HW_.out (by kernel_rfl)) (fun _ _ _ h => h) (Or.inl ⟨by rfl, ?_⟩) hHeld ?_ ?_
    rotate_left
    ·rintro w' ⟨s0, s1⟩
     go_simp
     with_reducible rfl
    rotate_left
    ·simp only [Act.put, uA_, uB_, uC_, i64_w, i32_w]
     rfl
    refine take_ (i := 2) (N := some 12) (v := ?_) (a' := ?_) #[true, false, true, false, false, false, false, false, false, false, false, false, false, false, false, false, false, false, false, false, false, false, false, false, false, false, false, false, false, false, false, false, false, false] rfl rfl (take_ofW HT_.out HW_.out (by kernel_rfl)) (fun _ _ _ h => h) (Or.inl ⟨by rfl, ?_⟩) hHeld ?_ ?_
    rotate_left
    ·rintro w' ⟨s0, s1⟩
     go_simp
     with_reducible rfl
    rotate_left
    ·simp only [Act.put, uA_, uB_, uC_, i64_w, i32_w]
     rfl
    refine one_ (i := 1) (N := some 11) #[true, true, true, false, false, false, false, false, false, false, false, false, false, false, false, false, false, false, false, false, false, false, false, false, false, false, false, false, false, false, false, false, false, false] rfl rfl (one_of HT_.out (by kernel_rfl)) (by decide) (fun K hK => ?_)
    refine goes_ Tryd.func34 (by kernel_rfl) rfl #[.agg #[.int .i64 a0_0, .slice A0_1 l0_1.length c0_1]] (by rfl) rfl rfl (by (try simp only [List.map_toArray, List.map_cons, List.map_nil]); first | done | rfl | (simp only [List.length_drop, List.length_take]; rfl)) ?_
    with_reducible refine (graph_Check.calls k a0_0 _ _ l0_1 t233 _ ?side1 ?side2 A8.out).mono ?_
    (case side1 => repeat (first | exact (Kd.C_below HR0_1.out HB.out) | (with_reducible refine Kd.C_alloc ?_ _) | (with_reducible refine Kd.C_drewN ?_ _) | (with_reducible refine Kd.C_drew ?_)))
    (case side2 => exact HC0_1.out)
    rintro e w77 ⟨rfl, hb⟩
    refine ⟨_, rfl, ?_⟩
    have n0_ := Aside0.mk (blk_below (g := gb231) (o := .cells #[.int .i64 a0_0, .slice A0_1 l0_1.length c0_1] 24 (0, 0)) (by (with_reducible repeat (first | refine blk_drewN ?_ _ | refine blk_drew ?_ | refine blk_alloc ?_ _)); exact BK231.out) hb)
    have n1_ := Aside0.mk (below_step (by repeat (first | (with_reducible first | exact HB.out | apply below_alloc | apply pw_below_drewN | apply below_drew1 | refine below_set ?_ GE231.out) | exact HB.out)) hb)
    clear BK231
    clear HB
    have BK231 := n0_
    have HB := n1_
    clear n0_ n1_
    (try clear hb)
    (try clear hb2)
    (try clear hk)
    (try clear hi)
    refine hK.out _ _ ⟨(blk_cell BK231.out 0).trans rfl, (blk_cell BK231.out 1).trans rfl⟩ (fun hHeld => ?_)
    clear hK K
    refine norm_ (a' := ?_) ?_ ?_
    rotate_left
    ·show Act.put _ (some 11) _ = _
     simp only [Act.put, uA_, uB_, uC_, i64_w, i32_w]
     rfl
    refine one_ (i := 3) (N := some 13) #[true, true, true, true, false, false, false, false, false, false, false, false, false, false, false, false, false, false, false, false, false, false, false, false, false, false, false, false, false, false, false, false, false, false] rfl rfl (one_of HT_.out (by kernel_rfl)) (by decide) (fun K hK => ?_)
    refine goes_ Tryd.func38 (by kernel_rfl) rfl #[.agg #[.int .i64 a0_0, .slice A0_1 l0_1.length c0_1]] (by rfl) rfl rfl (by (try simp only [List.map_toArray, List.map_cons, List.map_nil]); first | done | rfl | (simp only [List.length_drop, List.length_take]; rfl)) ?_
    with_reducible refine (dataflowref04_Check.calls k a0_0 _ _ l0_1 t234 _ ?side1 ?side2 A9.out).mono ?_
    (case side1 => repeat (first | exact (Kd.C_below HR0_1.out HB.out) | (with_reducible refine Kd.C_alloc ?_ _) | (with_reducible refine Kd.C_drewN ?_ _) | (with_reducible refine Kd.C_drew ?_)))
    (case side2 => exact HC0_1.out)
    rintro e w78 ⟨rfl, hb⟩
    refine ⟨_, rfl, ?_⟩
    have n0_ := Aside0.mk (blk_below (g := gb231) (o := .cells #[.int .i64 a0_0, .slice A0_1 l0_1.length c0_1] 24 (0, 0)) (by (with_reducible repeat (first | refine blk_drewN ?_ _ | refine blk_drew ?_ | refine blk_alloc ?_ _)); exact BK231.out) hb)
    have n1_ := Aside0.mk (below_step (by repeat (first | (with_reducible first | exact HB.out | apply below_alloc | apply pw_below_drewN | apply below_drew1 | refine below_set ?_ GE231.out) | exact HB.out)) hb)
    clear BK231
    clear HB
    have BK231 := n0_
    have HB := n1_
    clear n0_ n1_
    (try clear hb)
    (try clear hb2)
    (try clear hk)
    (try clear hi)
    refine hK.out _ _ ⟨(blk_cell BK231.out 0).trans rfl, (blk_cell BK231.out 1).trans rfl⟩ (fun hHeld => ?_)
    clear hK K
    refine norm_ (a' := ?_) ?_ ?_
    rotate_left
    ·show Act.put _ (some 13) _ = _
     simp only [Act.put, uA_, uB_, uC_, i64_w, i32_w]
     rfl
    refine pure_ (i := 4) (N := some 14) (v := ?_) (a' := ?_) #[true, true, true, true, true, false, false, false, false, false, false, false, false, false, false, false, false, false, false, false, false, false, false, false, false, false, false, false, false, false, false, false, false, false] rfl rfl (any_of HT_.out (by kernel_rfl)) (fun _ _ _ h => h) (Or.inl ⟨by rfl, ?_⟩) ?_ ?_
    rotate_left
    ·intro w'
     go_simp
     with_reducible rfl
    rotate_left
    ·simp only [Act.put, uA_, uB_, uC_, i64_w, i32_w]
     rfl
    refine pure_ (i := 5) (N := some 15) (v := ?_) (a' := ?_) #[true, true, true, true, true, true, false, false, false, false, false, false, false, false, false, false, false, false, false, false, false, false, false, false, false, false, false, false, false, false, false, false, false, false] rfl rfl (any_of HT_.out (by kernel_rfl)) (fun _ _ _ h => h) (Or.inl ⟨by rfl, ?_⟩) ?_ ?_
    rotate_left
    ·intro w'
     go_simp
     with_reducible rfl
    rotate_left
    ·simp only [Act.put, uA_, uB_, uC_, i64_w, i32_w]
     rfl
    refine pure_ (i := 7) (N := some 17) (v := ?_) (a' := ?_) #[true, true, true, true, true, true, false, true, false, false, false, false, false, false, false, false, false, false, false, false, false, false, false, false, false, false, false, false, false, false, false, false, false, false] rfl rfl (any_of HT_.out (by kernel_rfl)) (fun _ _ _ h => h) (Or.inl ⟨by rfl, ?_⟩) ?_ ?_
    rotate_left
    ·intro w'
     go_simp
     with_reducible rfl
    rotate_left
    ·simp only [Act.put, uA_, uB_, uC_, i64_w, i32_w]
     rfl
    refine pure_ (i := 10) (N := some 20) (v := ?_) (a' := ?_) #[true, true, true, true, true, true, false, true, false, false, true, false, false, false, false, false, false, false, false, false, false, false, false, false, false, false, false, false, false, false, false, false, false, false] rfl rfl (any_of HT_.out (by kernel_rfl)) (fun _ _ _ h => h) (Or.inl ⟨by rfl, ?_⟩) ?_ ?_
    rotate_left
    ·intro w'
     go_simp
     with_reducible rfl
    rotate_left
    ·simp only [Act.put, uA_, uB_, uC_, i64_w, i32_w]
     rfl
    refine take_ (i := 6) (N := some 16) (v := ?_) (a' := ?_) #[true, true, true, true, true, true, true, true, false, false, true, false, false, false, false, false, false, false, false, false, false, false, false, false, false, false, false, false, false, false, false, false, false, false] rfl rfl (take_ofW HT_.out HW_.out (by kernel_rfl)) (fun _ _ _ h => h) (Or.inl ⟨by rfl, ?_⟩) hHeld ?_ ?_
    rotate_left
    ·rintro w' ⟨s0, s1⟩
     go_simp
     with_reducible rfl
    rotate_left
    ·simp only [Act.put, uA_, uB_, uC_, i64_w, i32_w]
     rfl
    refine take_ (i := 9) (N := some 19) (v := ?_) (a' := ?_) #[true, true, true, true, true, true, true, true, false, true, true, false, false, false, false, false, false, false, false, false, false, false, false, false, false, false, false, false, false, false, false, false, false, false] rfl rfl (take_ofW HT_.out HW_.out (by kernel_rfl)) (fun _ _ _ h => h) (Or.inl ⟨by rfl, ?_⟩) hHeld ?_ ?_
    rotate_left
    ·rintro w' ⟨s0, s1⟩
     go_simp
     with_reducible rfl
    rotate_left
    ·simp only [Act.put, uA_, uB_, uC_, i64_w, i32_w]
     rfl
    refine one_ (i := 8) (N := some 18) #[true, true, true, true, true, true, true, true, true, true, true, false, false, false, false, false, false, false, false, false, false, false, false, false, false, false, false, false, false, false, false, false, false, false] rfl rfl (one_of HT_.out (by kernel_rfl)) (by decide) (fun K hK => ?_)
    refine goes_ Tryd.func42 (by kernel_rfl) rfl #[.agg #[.int .i64 a0_0, .slice A0_1 l0_1.length c0_1], .int .i64 a1] (by rfl) rfl rfl (by (try simp only [List.map_toArray, List.map_cons, List.map_nil]); first | done | rfl | (simp only [List.length_drop, List.length_take]; rfl)) ?_
    with_reducible refine (graph_Succ.calls a0_0 _ _ l0_1 a1 t235 _ ?side1 ?side2 A11.out).mono ?_
    (case side1 => repeat (first | exact (Kd.C_below HR0_1.out HB.out) | (with_reducible refine Kd.C_alloc ?_ _) | (with_reducible refine Kd.C_drewN ?_ _) | (with_reducible refine Kd.C_drew ?_)))
    (case side2 => exact HC0_1.out)
    rintro e w79 ⟨v236, rfl, ho0, hb⟩
    refine ⟨_, rfl, ?_⟩
    have n0_ := Aside0.mk (Kd.R_lower ho0 (below_size (by repeat (first | (with_reducible first | exact HB.out | apply below_alloc | apply pw_below_drewN | apply below_drew1 | refine below_set ?_ GE231.out) | exact HB.out))))
    have n1_ := Aside0.mk (blk_below (g := gb231) (o := .cells #[.int .i64 a0_0, .slice A0_1 l0_1.length c0_1] 24 (0, 0)) (by (with_reducible repeat (first | refine blk_drewN ?_ _ | refine blk_drew ?_ | refine blk_alloc ?_ _)); exact BK231.out) hb)
    have n2_ := Aside0.mk (below_step (by repeat (first | (with_reducible first | exact HB.out | apply below_alloc | apply pw_below_drewN | apply below_drew1 | refine below_set ?_ GE231.out) | exact HB.out)) hb)
    clear BK231
    clear HB
    have HO237 := n0_
    have BK231 := n1_
    have HB := n2_
    clear n0_ n1_ n2_
    (try clear hb)
    (try clear hb2)
    (try clear hk)
    (try clear hi)
    (try clear ho0)
    refine hK.out _ _ ⟨(blk_cell BK231.out 0).trans rfl, (blk_cell BK231.out 1).trans rfl⟩ (fun hHeld => ?_)
    clear hK K
    refine norm_ (a' := ?_) ?_ ?_
    rotate_left
    ·show Act.put _ (some 18) _ = _
     simp only [Act.put, uA_, uB_, uC_, i64_w, i32_w]
     rfl
    refine one_ (i := 11) (N := some 21) #[true, true, true, true, true, true, true, true, true, true, true, true, false, false, false, false, false, false, false, false, false, false, false, false, false, false, false, false, false, false, false, false, false, false] rfl rfl (one_of HT_.out (by kernel_rfl)) (by decide) (fun K hK => ?_)
    refine goes_ Tryd.func21 (by kernel_rfl) rfl #[.agg #[.int .i64 a0_0, .slice A0_1 l0_1.length c0_1], .int .i64 a1] (by rfl) rfl rfl (by (try simp only [List.map_toArray, List.map_cons, List.map_nil]); first | done | rfl | (simp only [List.length_drop, List.length_take]; rfl)) ?_
    with_reducible refine (dataflowref04_Succ.calls k a0_0 _ _ l0_1 a1 t238 _ ?side1 ?side2 A12.out).mono ?_
    (case side1 => repeat (first | exact (Kd.C_below HR0_1.out HB.out) | (with_reducible refine Kd.C_alloc ?_ _) | (with_reducible refine Kd.C_drewN ?_ _) | (with_reducible refine Kd.C_drew ?_)))
    (case side2 => exact HC0_1.out)
    rintro e w80 ⟨v239, rfl, ho0, hb⟩
    refine ⟨_, rfl, ?_⟩
    have n0_ := Aside0.mk (Kd.R_elder' (by (with_reducible repeat (first | apply Kd.R_alloc | apply Kd.R_drewN | apply Kd.R_drew)); exact HO237.out) (Kd.R_base ho0) hb)
    have n1_ := Aside0.mk (Kd.R_lower (Kd.R_new' ho0 (Kd.R_lt (by (with_reducible repeat (first | apply Kd.R_alloc | apply Kd.R_drewN | apply Kd.R_drew)); exact HO237.out))) (below_size (by repeat (first | (with_reducible first | exact HB.out | apply below_alloc | apply pw_below_drewN | apply below_drew1 | refine below_set ?_ GE231.out) | exact HB.out))))
    have n2_ := Aside0.mk (blk_below (g := gb231) (o := .cells #[.int .i64 a0_0, .slice A0_1 l0_1.length c0_1] 24 (0, 0)) (by (with_reducible repeat (first | refine blk_drewN ?_ _ | refine blk_drew ?_ | refine blk_alloc ?_ _)); exact BK231.out) hb)
    have n3_ := Aside0.mk (below_step (by repeat (first | (with_reducible first | exact HB.out | apply below_alloc | apply pw_below_drewN | apply below_drew1 | refine below_set ?_ GE231.out) | exact HB.out)) hb)
    clear HO237
    clear BK231
    clear HB
    have HO237 := n0_
    have HO240 := n1_
    have BK231 := n2_
    have HB := n3_
    clear n0_ n1_ n2_ n3_
    (try clear hb)
    (try clear hb2)
    (try clear hk)
    (try clear hi)
    (try clear ho0)
    obtain ⟨Ao81, co81, eo81⟩ := Kd.R_slice HO237.out
    (first | subst eo81 | (injection eo81 with f1_ f2_ f3_; have f4_ := f1_.symm; have f5_ := f3_.symm; clear f1_ f2_ f3_; subst f4_; subst f5_))
    obtain ⟨Ao82, co82, eo82⟩ := Kd.R_slice HO240.out
    (first | subst eo82 | (injection eo82 with f1_ f2_ f3_; have f4_ := f1_.symm; have f5_ := f3_.symm; clear f1_ f2_ f3_; subst f4_; subst f5_))
    refine hK.out _ _ ⟨(blk_cell BK231.out 0).trans rfl, (blk_cell BK231.out 1).trans rfl⟩ (fun hHeld => ?_)
    clear hK K
    refine norm_ (a' := ?_) ?_ ?_
    rotate_left
    ·show Act.put _ (some 21) _ = _
     simp only [Act.put, uA_, uB_, uC_, i64_w, i32_w]
     rfl
    refine one_ (i := 12) (N := some 22) #[true, true, true, true, true, true, true, true, true, true, true, true, true, false, false, false, false, false, false, false, false, false, false, false, false, false, false, false, false, false, false, false, false, false] rfl rfl (one_of HT_.out (by kernel_rfl)) (by decide) (fun K hK => ?_)
    refine goes_ Tryd.func36 (by kernel_rfl) rfl #[.slice Ao81 t235.length co81, .slice Ao82 t238.length co82] (by rfl) rfl rfl (by (try simp only [List.map_toArray, List.map_cons, List.map_nil]); first | done | rfl | (simp only [List.length_drop, List.length_take]; rfl)) ?_
    with_reducible refine (dataflowref04_Equal.calls k _ _ t235 _ _ t238 false _ ?side1 ?side2 ?side3 ?side4 A13.out).mono ?_
    (case side1 => repeat (first | exact (Kd.R_reads' HO237.out).2.2 | (with_reducible refine Kd.C_alloc ?_ _) | (with_reducible refine Kd.C_drewN ?_ _) | (with_reducible refine Kd.C_drew ?_)))
    (case side2 => exact (Kd.R_reads' HO237.out).2.1)
    (case side3 => repeat (first | exact (Kd.R_reads' HO240.out).2.2 | (with_reducible refine Kd.C_alloc ?_ _) | (with_reducible refine Kd.C_drewN ?_ _) | (with_reducible refine Kd.C_drew ?_)))
    (case side4 => exact (Kd.R_reads' HO240.out).2.1)
    rintro e w' ⟨rfl, ⟨nd, rfl⟩⟩
    refine ⟨_, rfl, ?_⟩
    refine hK.out _ _ ⟨(blk_cell BK231.out 0).trans rfl, (blk_cell BK231.out 1).trans rfl⟩ (fun hHeld => ?_)
    clear hK K
    refine norm_ (a' := ?_) ?_ ?_
    rotate_left
    ·show Act.put _ (some 22) _ = _
     simp only [Act.put, uA_, uB_, uC_, i64_w, i32_w]
     rfl
    refine pure_ (i := 13) (N := some 23) (v := ?_) (a' := ?_) #[true, true, true, true, true, true, true, true, true, true, true, true, true, true, false, false, false, false, false, false, false, false, false, false, false, false, false, false, false, false, false, false, false, false] rfl rfl (any_of HT_.out (by kernel_rfl)) (fun _ _ _ h => h) (Or.inl ⟨by rfl, ?_⟩) ?_ ?_
    rotate_left
    ·intro w'
     go_simp
     with_reducible rfl
    rotate_left
    ·simp only [Act.put, uA_, uB_, uC_, i64_w, i32_w]
     rfl
    refine pure_ (i := 14) (N := some 24) (v := ?_) (a' := ?_) #[true, true, true, true, true, true, true, true, true, true, true, true, true, true, true, false, false, false, false, false, false, false, false, false, false, false, false, false, false, false, false, false, false, false] rfl rfl (any_of HT_.out (by kernel_rfl)) (fun _ _ _ h => h) (Or.inl ⟨by rfl, ?_⟩) ?_ ?_
    rotate_left
    ·intro w'
     go_simp
     with_reducible rfl
    rotate_left
    ·simp only [Act.put, uA_, uB_, uC_, i64_w, i32_w]
     rfl
    refine pure_ (i := 15) (N := some 25) (v := undef) (a' := ?_) #[true, true, true, true, true, true, true, true, true, true, true, true, true, true, true, true, false, false, false, false, false, false, false, false, false, false, false, false, false, false, false, false, false, false] rfl rfl (any_of HT_.out (by kernel_rfl)) (fun _ _ _ h => h) (Or.inr ⟨by rfl, rfl⟩) ?_ ?_
    rotate_left
    ·simp only [Act.put, uA_, uB_, uC_, i64_w, i32_w]
     rfl
    refine pure_ (i := 16) (N := some 26) (v := undef) (a' := ?_) #[true, true, true, true, true, true, true, true, true, true, true, true, true, true, true, true, true, false, false, false, false, false, false, false, false, false, false, false, false, false, false, false, false, false] rfl rfl (any_of HT_.out (by kernel_rfl)) (fun _ _ _ h => h) (Or.inr ⟨by rfl, rfl⟩) ?_ ?_
    rotate_left
    ·simp only [Act.put, uA_, uB_, uC_, i64_w, i32_w]
     rfl
    refine pure_ (i := 17) (N := some 27) (v := undef) (a' := ?_) #[true, true, true, true, true, true, true, true, true, true, true, true, true, true, true, true, true, true, false, false, false, false, false, false, false, false, false, false, false, false, false, false, false, false] rfl rfl (any_of HT_.out (by kernel_rfl)) (fun _ _ _ h => h) (Or.inr ⟨by rfl, rfl⟩) ?_ ?_
    rotate_left
    ·simp only [Act.put, uA_, uB_, uC_, i64_w, i32_w]
     rfl
    refine pure_ (i := 18) (N := some 28) (v := undef) (a' := ?_) #[true, true, true, true, true, true, true, true, true, true, true, true, true, true, true, true, true, true, true, false, false, false, false, false, false, false, false, false, false, false, false, false, false, false] rfl rfl (any_of HT_.out (by kernel_rfl)) (fun _ _ _ h => h) (Or.inr ⟨by rfl, rfl⟩) ?_ ?_
    rotate_left
    ·simp only [Act.put, uA_, uB_, uC_, i64_w, i32_w]
     rfl
    refine pure_ (i := 19) (N := some 29) (v := undef) (a' := ?_) #[true, true, true, true, true, true, true, true, true, true, true, true, true, true, true, true, true, true, true, true, false, false, false, false, false, false, false, false, false, false, false, false, false, false] rfl rfl (any_of HT_.out (by kernel_rfl)) (fun _ _ _ h => h) (Or.inr ⟨by rfl, rfl⟩) ?_ ?_
    rotate_left
    ·simp only [Act.put, uA_, uB_, uC_, i64_w, i32_w]
     rfl
    refine pure_ (i := 20) (N := some 30) (v := undef) (a' := ?_) #[true, true, true, true, true, true, true, true, true, true, true, true, true, true, true, true, true, true, true, true, true, false, false, false, false, false, false, false, false, false, false, false, false, false] rfl rfl (any_of HT_.out (by kernel_rfl)) (fun _ _ _ h => h) (Or.inr ⟨by rfl, rfl⟩) ?_ ?_
    rotate_left
    ·simp only [Act.put, uA_, uB_, uC_, i64_w, i32_w]
     rfl
    refine pure_ (i := 21) (N := some 31) (v := undef) (a' := ?_) #[true, true, true, true, true, true, true, true, true, true, true, true, true, true, true, true, true, true, true, true, true, true, false, false, false, false, false, false, false, false, false, false, false, false] rfl rfl (any_of HT_.out (by kernel_rfl)) (fun _ _ _ h => h) (Or.inr ⟨by rfl, rfl⟩) ?_ ?_
    rotate_left
    ·simp only [Act.put, uA_, uB_, uC_, i64_w, i32_w]
     rfl
    refine pure_ (i := 22) (N := some 32) (v := ?_) (a' := ?_) #[true, true, true, true, true, true, true, true, true, true, true, true, true, true, true, true, true, true, true, true, true, true, true, false, false, false, false, false, false, false, false, false, false, false] rfl rfl (any_of HT_.out (by kernel_rfl)) (fun _ _ _ h => h) (Or.inl ⟨by rfl, ?_⟩) ?_ ?_
    rotate_left
    ·intro w'
     go_simp
     with_reducible rfl
    rotate_left
    ·simp only [Act.put, uA_, uB_, uC_, i64_w, i32_w]
     rfl
    refine pure_ (i := 23) (N := some 33) (v := ?_) (a' := ?_) #[true, true, true, true, true, true, true, true, true, true, true, true, true, true, true, true, true, true, true, true, true, true, true, true, false, false, false, false, false, false, false, false, false, false] rfl rfl (any_of HT_.out (by kernel_rfl)) (fun _ _ _ h => h) (Or.inl ⟨by rfl, ?_⟩) ?_ ?_
    rotate_left
    ·intro w'
     go_simp
     with_reducible rfl
    rotate_left
    ·simp only [Act.put, uA_, uB_, uC_, i64_w, i32_w]
     rfl
    refine pure_ (i := 24) (N := some 34) (v := undef) (a' := ?_) #[true, true, true, true, true, true, true, true, true, true, true, true, true, true, true, true, true, true, true, true, true, true, true, true, true, false, false, false, false, false, false, false, false, false] rfl rfl (any_of HT_.out (by kernel_rfl)) (fun _ _ _ h => h) (Or.inr ⟨by rfl, rfl⟩) ?_ ?_
    rotate_left
    ·simp only [Act.put, uA_, uB_, uC_, i64_w, i32_w]
     rfl
    refine pure_ (i := 25) (N := some 35) (v := undef) (a' := ?_) #[true, true, true, true, true, true, true, true, true, true, true, true, true, true, true, true, true, true, true, true, true, true, true, true, true, true, false, false, false, false, false, false, false, false] rfl rfl (any_of HT_.out (by kernel_rfl)) (fun _ _ _ h => h) (Or.inr ⟨by rfl, rfl⟩) ?_ ?_
    rotate_left
    ·simp only [Act.put, uA_, uB_, uC_, i64_w, i32_w]
     rfl
    refine pure_ (i := 26) (N := some 36) (v := undef) (a' := ?_) #[true, true, true, true, true, true, true, true, true, true, true, true, true, true, true, true, true, true, true, true, true, true, true, true, true, true, true, false, false, false, false, false, false, false] rfl rfl (any_of HT_.out (by kernel_rfl)) (fun _ _ _ h => h) (Or.inr ⟨by rfl, rfl⟩) ?_ ?_
    rotate_left
    ·simp only [Act.put, uA_, uB_, uC_, i64_w, i32_w]
     rfl
    refine pure_ (i := 27) (N := some 37) (v := undef) (a' := ?_) #[true, true, true, true, true, true, true, true, true, true, true, true, true, true, true, true, true, true, true, true, true, true, true, true, true, true, true, true, false, false, false, false, false, false] rfl rfl (any_of HT_.out (by kernel_rfl)) (fun _ _ _ h => h) (Or.inr ⟨by rfl, rfl⟩) ?_ ?_
    rotate_left
    ·simp only [Act.put, uA_, uB_, uC_, i64_w, i32_w]
     rfl
    refine pure_ (i := 28) (N := some 38) (v := undef) (a' := ?_) #[true, true, true, true, true, true, true, true, true, true, true, true, true, true, true, true, true, true, true, true, true, true, true, true, true, true, true, true, true, false, false, false, false, false] rfl rfl (any_of HT_.out (by kernel_rfl)) (fun _ _ _ h => h) (Or.inr ⟨by rfl, rfl⟩) ?_ ?_
    rotate_left
    ·simp only [Act.put, uA_, uB_, uC_, i64_w, i32_w]
     rfl
    refine pure_ (i := 29) (N := some 39) (v := ?_) (a' := ?_) #[true, true, true, true, true, true, true, true, true, true, true, true, true, true, true, true, true, true, true, true, true, true, true, true, true, true, true, true, true, true, false, false, false, false] rfl rfl (any_of HT_.out (by kernel_rfl)) (fun _ _ _ h => h) (Or.inl ⟨by rfl, ?_⟩) ?_ ?_
    rotate_left
    ·intro w'
     go_simp
     with_reducible rfl
    rotate_left
    ·simp only [Act.put, uA_, uB_, uC_, i64_w, i32_w]
     rfl
    refine pure_ (i := 30) (N := some 40) (v := ?_) (a' := ?_) #[true, true, true, true, true, true, true, true, true, true, true, true, true, true, true, true, true, true, true, true, true, true, true, true, true, true, true, true, true, true, true, false, false, false] rfl rfl (any_of HT_.out (by kernel_rfl)) (fun _ _ _ h => h) (Or.inl ⟨by rfl, ?_⟩) ?_ ?_
    rotate_left
    ·intro w'
     go_simp
     with_reducible rfl
    rotate_left
    ·simp only [Act.put, uA_, uB_, uC_, i64_w, i32_w]
     rfl
    refine pure_ (i := 31) (N := some 41) (v := undef) (a' := ?_) #[true, true, true, true, true, true, true, true, true, true, true, true, true, true, true, true, true, true, true, true, true, true, true, true, true, true, true, true, true, true, true, true, false, false] rfl rfl (any_of HT_.out (by kernel_rfl)) (fun _ _ _ h => h) (Or.inr ⟨by rfl, rfl⟩) ?_ ?_
    rotate_left
    ·simp only [Act.put, uA_, uB_, uC_, i64_w, i32_w]
     rfl
    refine pure_ (i := 32) (N := some 42) (v := ?_) (a' := ?_) #[true, true, true, true, true, true, true, true, true, true, true, true, true, true, true, true, true, true, true, true, true, true, true, true, true, true, true, true, true, true, true, true, true, false] rfl rfl (any_of HT_.out (by kernel_rfl)) (fun _ _ _ h => h) (Or.inl ⟨by rfl, ?_⟩) ?_ ?_
    rotate_left
    ·intro w'
     go_simp
     with_reducible rfl
    rotate_left
    ·simp only [Act.put, uA_, uB_, uC_, i64_w, i32_w]
     rfl
    refine pure_ (i := 33) (N := some 4) (v := ?_) (a' := ?_) #[true, true, true, true, true, true, true, true, true, true, true, true, true, true, true, true, true, true, true, true, true, true, true, true, true, true, true, true, true, true, true, true, true, true] rfl rfl (any_of HT_.out (by kernel_rfl)) (fun _ _ _ h => h) (Or.inl ⟨by rfl, ?_⟩) ?_ ?_
    rotate_left
    ·intro w'
     go_simp
     with_reducible rfl
    rotate_left
    ·simp only [Act.put, uA_, uB_, uC_, i64_w, i32_w]
     rfl
    refine done_ (done_of HT_.out (by kernel_rfl)) ?_
    try go_wp2
    go_ret
    exact ⟨by first | rfl | (simp [errW_none, errW_some] <;> rfl) | (simp [*, errW_none, errW_some] <;> rfl), by repeat (first | (with_reducible first | exact HB.out | apply below_alloc | apply pw_below_drewN | apply below_drew1 | refine below_set ?_ GE231.out) | exact HB.out)⟩
  ·rw [if_neg c10] at H
   have c10b0 : (t233 == t234) = false := beq_eq_false_iff_ne.mpr c10
   have c10b1 : (t233 != t234) = true := bne_iff_ne.mpr c10
   obtain rfl := Option.some.inj H
   go_enter Tryd.func11, Tryd.ntmps11
   try go_wp2_with (first | ((with_reducible refine gate_dst (N := 2) rfl ?_); refine box_event ?hg (N := 2) ?hd (cs := #[.int .i64 a0_0, .slice A0_1 l0_1.length c0_1]) (t := 24) ?hr ?_; (case hd => rfl); (case hg => rfl); (case hr => first | (go_simp; done) | (go_simp; rfl)); intro gb231 hg w83 hbox hb; have n0_ := Aside0.mk (below_step (by repeat (first | (with_reducible first | exact HB.out | apply below_alloc | apply pw_below_drewN | apply below_drew1) | exact HB.out)) hb); have n1_ := Aside0.mk (hbox); have n2_ := Aside0.mk ((by rw [hg]; exact (below_size (by repeat (first | (with_reducible first | exact HB.out | apply below_alloc | apply pw_below_drewN | apply below_drew1) | exact HB.out))) : w.heap.size ≤ gb231)); have n3_ := Aside0.mk ((by rw [hg]; exact (below_size (by repeat (first | (with_reducible first | exact HB.out | apply below_alloc | apply pw_below_drewN | apply below_drew1) | exact HB.out))) : w.heap.size ≤ gb231)); clear HB; have HB := n0_; have BK231 := n1_; have GW231 := n2_; have GE231 := n3_; clear n0_ n1_ n2_ n3_; clear hb hbox hg; have hcz84_0 : w83.cell? ⟨gb231, 0, none⟩ = some (.int .i64 a0_0) := (blk_cell BK231.out 0).trans rfl; have hcz84_1 : w83.cell? ⟨gb231, 1, none⟩ = some (.slice A0_1 l0_1.length c0_1) := (blk_cell BK231.out 1).trans rfl; have hfz84_0 := blk_frozen BK231.out 0; have hfz84_1 := blk_frozen BK231.out 1))
   have n0_ := Aside0.mk (blk_drew BK231.out)
   have n1_ := Aside0.mk (below_drew1 HB.out)
   clear BK231
   clear HB
   have BK231 := n0_
   have HB := n1_
   clear n0_ n1_
   refine start_ (n := 34) (S := fun w' => w'.cell? ⟨gb231, 0, none⟩ = some (.int .i64 a0_0) ∧ w'.cell? ⟨gb231, 1, none⟩ = some (.slice A0_1 l0_1.length c0_1)) (ds := []) #[false, false, false, false, false, false, false, false, false, false, false, false, false, false, false, false, false, false, false, false, false, false, false, false, false, false, false, false, false, false, false, false, false, false] (by kernel_rfl) rfl rfl ⟨(blk_cell BK231.out 0).trans rfl, (blk_cell BK231.out 1).trans rfl⟩ (fun hHeld => ?_); refine with_tabW dataflowlaw04_GraphTells.tab3 dataflowlaw04_GraphTells.bits3 (fun HT_ HW_ => ?_)
   generalize w83.drew = w85 at BK231 HB hHeld ⊢
   refine take_ (i := 0) (N := some 10) (v := ?_) (a' := ?_) #[true, false, false, false, false, false, false, false, false, false, false, false, false, false, false, false, false, false, false, false, false, false, false, false, false, false, false, false, false, false, false, false, false, false] rfl rfl (take_ofW HT_.out HW_.out (by kernel_rfl)) (fun _ _ _ h => h) (Or.inl ⟨by rfl, ?_⟩) hHeld ?_ ?_
   rotate_left
   ·rintro w' ⟨s0, s1⟩
    go_simp
    with_reducible rfl
   rotate_left
   ·simp only [Act.put, uA_, uB_, uC_, i64_w, i32_w]
    rfl
   refine take_ (i := 2) (N := some 12) (v := ?_) (a' := ?_) #[true, false, true, false, false, false, false, false, false, false, false, false, false, false, false, false, false, false, false, false, false, false, false, false, false, false, false, false, false, false, false, false, false, false] rfl rfl (take_ofW HT_.out HW_.out (by kernel_rfl)) (fun _ _ _ h => h) (Or.inl ⟨by rfl, ?_⟩) hHeld ?_ ?_
   rotate_left
   ·rintro w' ⟨s0, s1⟩
    go_simp
    with_reducible rfl
   rotate_left
   ·simp only [Act.put, uA_, uB_, uC_, i64_w, i32_w]
    rfl
   refine one_ (i := 1) (N := some 11) #[true, true, true, false, false, false, false, false, false, false, false, false, false, false, false, false, false, false, false, false, false, false, false, false, false, false, false, false, false, false, false, false, false, false] rfl rfl (one_of HT_.out (by kernel_rfl)) (by decide) (fun K hK => ?_)
   refine goes_ Tryd.func34 (by kernel_rfl) rfl #[.agg #[.int .i64 a0_0, .slice A0_1 l0_1.length c0_1]] (by rfl) rfl rfl (by (try simp only [List.map_toArray, List.map_cons, List.map_nil]); first | done | rfl | (simp only [List.length_drop, List.length_take]; rfl)) ?_
   with_reducible refine (graph_Check.calls k a0_0 _ _ l0_1 t233 _ ?side1 ?side2 A8.out).mono ?_
   (case side1 => repeat (first | exact (Kd.C_below HR0_1.out HB.out) | (with_reducible refine Kd.C_alloc ?_ _) | (with_reducible refine Kd.C_drewN ?_ _) | (with_reducible refine Kd.C_drew ?_)))
   (case side2 => exact HC0_1.out)
   rintro e w86 ⟨rfl, hb⟩
   refine ⟨_, rfl, ?_⟩
   have n0_ := Aside0.mk (blk_below (g := gb231) (o := .cells #[.int .i64 a0_0, .slice A0_1 l0_1.length c0_1] 24 (0, 0)) (by (with_reducible repeat (first | refine blk_drewN ?_ _ | refine blk_drew ?_ | refine blk_alloc ?_ _)); exact BK231.out) hb)
   have n1_ := Aside0.mk (below_step (by repeat (first | (with_reducible first | exact HB.out | apply below_alloc | apply pw_below_drewN | apply below_drew1 | refine below_set ?_ GE231.out) | exact HB.out)) hb)
   clear BK231
   clear HB
   have BK231 := n0_
   have HB := n1_
   clear n0_ n1_
   (try clear hb)
   (try clear hb2)
   (try clear hk)
   (try clear hi)
   refine hK.out _ _ ⟨(blk_cell BK231.out 0).trans rfl, (blk_cell BK231.out 1).trans rfl⟩ (fun hHeld => ?_)
   clear hK K
   refine norm_ (a' := ?_) ?_ ?_
   rotate_left
   ·show Act.put _ (some 11) _ = _
    simp only [Act.put, uA_, uB_, uC_, i64_w, i32_w]
    rfl
   refine one_ (i := 3) (N := some 13) #[true, true, true, true, false, false, false, false, false, false, false, false, false, false, false, false, false, false, false, false, false, false, false, false, false, false, false, false, false, false, false, false, false, false] rfl rfl (one_of HT_.out (by kernel_rfl)) (by decide) (fun K hK => ?_)
   refine goes_ Tryd.func38 (by kernel_rfl) rfl #[.agg #[.int .i64 a0_0, .slice A0_1 l0_1.length c0_1]] (by rfl) rfl rfl (by (try simp only [List.map_toArray, List.map_cons, List.map_nil]); first | done | rfl | (simp only [List.length_drop, List.length_take]; rfl)) ?_
   with_reducible refine (dataflowref04_Check.calls k a0_0 _ _ l0_1 t234 _ ?side1 ?side2 A9.out).mono ?_
   (case side1 => repeat (first | exact (Kd.C_below HR0_1.out HB.out) | (with_reducible refine Kd.C_alloc ?_ _) | (with_reducible refine Kd.C_drewN ?_ _) | (with_reducible refine Kd.C_drew ?_)))
   (case side2 => exact HC0_1.out)
   rintro e w87 ⟨rfl, hb⟩
   refine ⟨_, rfl, ?_⟩
   have n0_ := Aside0.mk (blk_below (g := gb231) (o := .cells #[.int .i64 a0_0, .slice A0_1 l0_1.length c0_1] 24 (0, 0)) (by (with_reducible repeat (first | refine blk_drewN ?_ _ | refine blk_drew ?_ | refine blk_alloc ?_ _)); exact BK231.out) hb)
   have n1_ := Aside0.mk (below_step (by repeat (first | (with_reducible first | exact HB.out | apply below_alloc | apply pw_below_drewN | apply below_drew1 | refine below_set ?_ GE231.out) | exact HB.out)) hb)
   clear BK231
   clear HB
   have BK231 := n0_
   have HB := n1_
   clear n0_ n1_
   (try clear hb)
   (try clear hb2)
   (try clear hk)
   (try clear hi)
   refine hK.out _ _ ⟨(blk_cell BK231.out 0).trans rfl, (blk_cell BK231.out 1).trans rfl⟩ (fun hHeld => ?_)
   clear hK K
   refine norm_ (a' := ?_) ?_ ?_
   rotate_left
   ·show Act.put _ (some 13) _ = _
    simp only [Act.put, uA_, uB_, uC_, i64_w, i32_w]
    rfl
   refine pure_ (i := 4) (N := some 14) (v := ?_) (a' := ?_) #[true, true, true, true, true, false, false, false, false, false, false, false, false, false, false, false, false, false, false, false, false, false, false, false, false, false, false, false, false, false, false, false, false, false] rfl rfl (any_of HT_.out (by kernel_rfl)) (fun _ _ _ h => h) (Or.inl ⟨by rfl, ?_⟩) ?_ ?_
   rotate_left
   ·intro w'
    go_simp
    with_reducible rfl
   rotate_left
   ·simp only [Act.put, uA_, uB_, uC_, i64_w, i32_w]
    rfl
   refine pure_ (i := 5) (N := some 15) (v := ?_) (a' := ?_) #[true, true, true, true, true, true, false, false, false, false, false, false, false, false, false, false, false, false, false, false, false, false, false, false, false, false, false, false, false, false, false, false, false, false] rfl rfl (any_of HT_.out (by kernel_rfl)) (fun _ _ _ h => h) (Or.inl ⟨by rfl, ?_⟩) ?_ ?_
   rotate_left
   ·intro w'
    go_simp
    with_reducible rfl
   rotate_left
   ·simp only [Act.put, uA_, uB_, uC_, i64_w, i32_w]
    rfl
   refine pure_ (i := 6) (N := some 16) (v := undef) (a' := ?_) #[true, true, true, true, true, true, true, false, false, false, false, false, false, false, false, false, false, false, false, false, false, false, false, false, false, false, false, false, false, false, false, false, false, false] rfl rfl (any_of HT_.out (by kernel_rfl)) (fun _ _ _ h => h) (Or.inr ⟨by rfl, rfl⟩) ?_ ?_
   rotate_left
   ·simp only [Act.put, uA_, uB_, uC_, i64_w, i32_w]
    rfl
   refine pure_ (i := 7) (N := some 17) (v := undef) (a' := ?_) #[true, true, true, true, true, true, true, true, false, false, false, false, false, false, false, false, false, false, false, false, false, false, false, false, false, false, false, false, false, false, false, false, false, false] rfl rfl (any_of HT_.out (by kernel_rfl)) (fun _ _ _ h => h) (Or.inr ⟨by rfl, rfl⟩) ?_ ?_
   rotate_left
   ·simp only [Act.put, uA_, uB_, uC_, i64_w, i32_w]
    rfl
   refine pure_ (i := 8) (N := some 18) (v := undef) (a' := ?_) #[true, true, true, true, true, true, true, true, true, false, false, false, false, false, false, false, false, false, false, false, false, false, false, false, false, false, false, false, false, false, false, false, false, false] rfl rfl (any_of HT_.out (by kernel_rfl)) (fun _ _ _ h => h) (Or.inr ⟨by rfl, rfl⟩) ?_ ?_
   rotate_left
   ·simp only [Act.put, uA_, uB_, uC_, i64_w, i32_w]
    rfl
   refine pure_ (i := 9) (N := some 19) (v := undef) (a' := ?_) #[true, true, true, true, true, true, true, true, true, true, false, false, false, false, false, false, false, false, false, false, false, false, false, false, false, false, false, false, false, false, false, false, false, false] rfl rfl (any_of HT_.out (by kernel_rfl)) (fun _ _ _ h => h) (Or.inr ⟨by rfl, rfl⟩) ?_ ?_
   rotate_left
   ·simp only [Act.put, uA_, uB_, uC_, i64_w, i32_w]
    rfl
   refine pure_ (i := 10) (N := some 20) (v := undef) (a' := ?_) #[true, true, true, true, true, true, true, true, true, true, true, false, false, false, false, false, false, false, false, false, false, false, false, false, false, false, false, false, false, false, false, false, false, false] rfl rfl (any_of HT_.out (by kernel_rfl)) (fun _ _ _ h => h) (Or.inr ⟨by rfl, rfl⟩) ?_ ?_
   rotate_left
   ·simp only [Act.put, uA_, uB_, uC_, i64_w, i32_w]
    rfl
   refine pure_ (i := 11) (N := some 21) (v := undef) (a' := ?_) #[true, true, true, true, true, true, true, true, true, true, true, true, false, false, false, false, false, false, false, false, false, false, false, false, false, false, false, false, false, false, false, false, false, false] rfl rfl (any_of HT_.out (by kernel_rfl)) (fun _ _ _ h => h) (Or.inr ⟨by rfl, rfl⟩) ?_ ?_
   rotate_left
   ·simp only [Act.put, uA_, uB_, uC_, i64_w, i32_w]
    rfl
   refine pure_ (i := 12) (N := some 22) (v := undef) (a' := ?_) #[true, true, true, true, true, true, true, true, true, true, true, true, true, false, false, false, false, false, false, false, false, false, false, false, false, false, false, false, false, false, false, false, false, false] rfl rfl (any_of HT_.out (by kernel_rfl)) (fun _ _ _ h => h) (Or.inr ⟨by rfl, rfl⟩) ?_ ?_
   rotate_left
   ·simp only [Act.put, uA_, uB_, uC_, i64_w, i32_w]
    rfl
   refine pure_ (i := 13) (N := some 23) (v := ?_) (a' := ?_) #[true, true, true, true, true, true, true, true, true, true, true, true, true, true, false, false, false, false, false, false, false, false, false, false, false, false, false, false, false, false, false, false, false, false] rfl rfl (any_of HT_.out (by kernel_rfl)) (fun _ _ _ h => h) (Or.inl ⟨by rfl, ?_⟩) ?_ ?_
   rotate_left
   ·intro w'
    go_simp
    with_reducible rfl
   rotate_left
   ·simp only [Act.put, uA_, uB_, uC_, i64_w, i32_w]
    rfl
   refine pure_ (i := 14) (N := some 24) (v := ?_) (a' := ?_) #[true, true, true, true, true, true, true, true, true, true, true, true, true, true, true, false, false, false, false, false, false, false, false, false, false, false, false, false, false, false, false, false, false, false] rfl rfl (any_of HT_.out (by kernel_rfl)) (fun _ _ _ h => h) (Or.inl ⟨by rfl, ?_⟩) ?_ ?_
   rotate_left
   ·intro w'
    go_simp
    with_reducible rfl
   rotate_left
   ·simp only [Act.put, uA_, uB_, uC_, i64_w, i32_w]
    rfl
   refine pure_ (i := 15) (N := some 25) (v := undef) (a' := ?_) #[true, true, true, true, true, true, true, true, true, true, true, true, true, true, true, true, false, false, false, false, false, false, false, false, false, false, false, false, false, false, false, false, false, false] rfl rfl (any_of HT_.out (by kernel_rfl)) (fun _ _ _ h => h) (Or.inr ⟨by rfl, rfl⟩) ?_ ?_
   rotate_left
   ·simp only [Act.put, uA_, uB_, uC_, i64_w, i32_w]
    rfl
   refine pure_ (i := 16) (N := some 26) (v := undef) (a' := ?_) #[true, true, true, true, true, true, true, true, true, true, true, true, true, true, true, true, true, false, false, false, false, false, false, false, false, false, false, false, false, false, false, false, false, false] rfl rfl (any_of HT_.out (by kernel_rfl)) (fun _ _ _ h => h) (Or.inr ⟨by rfl, rfl⟩) ?_ ?_
   rotate_left
   ·simp only [Act.put, uA_, uB_, uC_, i64_w, i32_w]
    rfl
   refine pure_ (i := 17) (N := some 27) (v := undef) (a' := ?_) #[true, true, true, true, true, true, true, true, true, true, true, true, true, true, true, true, true, true, false, false, false, false, false, false, false, false, false, false, false, false, false, false, false, false] rfl rfl (any_of HT_.out (by kernel_rfl)) (fun _ _ _ h => h) (Or.inr ⟨by rfl, rfl⟩) ?_ ?_
   rotate_left
   ·simp only [Act.put, uA_, uB_, uC_, i64_w, i32_w]
    rfl
   refine pure_ (i := 18) (N := some 28) (v := undef) (a' := ?_) #[true, true, true, true, true, true, true, true, true, true, true, true, true, true, true, true, true, true, true, false, false, false, false, false, false, false, false, false, false, false, false, false, false, false] rfl rfl (any_of HT_.out (by kernel_rfl)) (fun _ _ _ h => h) (Or.inr ⟨by rfl, rfl⟩) ?_ ?_
   rotate_left
   ·simp only [Act.put, uA_, uB_, uC_, i64_w, i32_w]
    rfl
   refine pure_ (i := 19) (N := some 29) (v := undef) (a' := ?_) #[true, true, true, true, true, true, true, true, true, true, true, true, true, true, true, true, true, true, true, true, false, false, false, false, false, false, false, false, false, false, false, false, false, false] rfl rfl (any_of HT_.out (by kernel_rfl)) (fun _ _ _ h => h) (Or.inr ⟨by rfl, rfl⟩) ?_ ?_
   rotate_left
   ·simp only [Act.put, uA_, uB_, uC_, i64_w, i32_w]
    rfl
   refine pure_ (i := 20) (N := some 30) (v := undef) (a' := ?_) #[true, true, true, true, true, true, true, true, true, true, true, true, true, true, true, true, true, true, true, true, true, false, false, false, false, false, false, false, false, false, false, false, false, false] rfl rfl (any_of HT_.out (by kernel_rfl)) (fun _ _ _ h => h) (Or.inr ⟨by rfl, rfl⟩) ?_ ?_
   rotate_left
   ·simp only [Act.put, uA_, uB_, uC_, i64_w, i32_w]
    rfl
   refine pure_ (i := 21) (N := some 31) (v := undef) (a' := ?_) #[true, true, true, true, true, true, true, true, true, true, true, true, true, true, true, true, true, true, true, true, true, true, false, false, false, false, false, false, false, false, false, false, false, false] rfl rfl (any_of HT_.out (by kernel_rfl)) (fun _ _ _ h => h) (Or.inr ⟨by rfl, rfl⟩) ?_ ?_
   rotate_left
   ·simp only [Act.put, uA_, uB_, uC_, i64_w, i32_w]
    rfl
   refine pure_ (i := 22) (N := some 32) (v := ?_) (a' := ?_) #[true, true, true, true, true, true, true, true, true, true, true, true, true, true, true, true, true, true, true, true, true, true, true, false, false, false, false, false, false, false, false, false, false, false] rfl rfl (any_of HT_.out (by kernel_rfl)) (fun _ _ _ h => h) (Or.inl ⟨by rfl, ?_⟩) ?_ ?_
   rotate_left
   ·intro w'
    go_simp
    with_reducible rfl
   rotate_left
   ·simp only [Act.put, uA_, uB_, uC_, i64_w, i32_w]
    rfl
   refine pure_ (i := 23) (N := some 33) (v := ?_) (a' := ?_) #[true, true, true, true, true, true, true, true, true, true, true, true, true, true, true, true, true, true, true, true, true, true, true, true, false, false, false, false, false, false, false, false, false, false] rfl rfl (any_of HT_.out (by kernel_rfl)) (fun _ _ _ h => h) (Or.inl ⟨by rfl, ?_⟩) ?_ ?_
   rotate_left
   ·intro w'
    go_simp
    with_reducible rfl
   rotate_left
   ·simp only [Act.put, uA_, uB_, uC_, i64_w, i32_w]
    rfl
   refine pure_ (i := 24) (N := some 34) (v := undef) (a' := ?_) #[true, true, true, true, true, true, true, true, true, true, true, true, true, true, true, true, true, true, true, true, true, true, true, true, true, false, false, false, false, false, false, false, false, false] rfl rfl (any_of HT_.out (by kernel_rfl)) (fun _ _ _ h => h) (Or.inr ⟨by rfl, rfl⟩) ?_ ?_
   rotate_left
   ·simp only [Act.put, uA_, uB_, uC_, i64_w, i32_w]
    rfl
   refine pure_ (i := 25) (N := some 35) (v := undef) (a' := ?_) #[true, true, true, true, true, true, true, true, true, true, true, true, true, true, true, true, true, true, true, true, true, true, true, true, true, true, false, false, false, false, false, false, false, false] rfl rfl (any_of HT_.out (by kernel_rfl)) (fun _ _ _ h => h) (Or.inr ⟨by rfl, rfl⟩) ?_ ?_
   rotate_left
   ·simp only [Act.put, uA_, uB_, uC_, i64_w, i32_w]
    rfl
   refine pure_ (i := 26) (N := some 36) (v := undef) (a' := ?_) #[true, true, true, true, true, true, true, true, true, true, true, true, true, true, true, true, true, true, true, true, true, true, true, true, true, true, true, false, false, false, false, false, false, false] rfl rfl (any_of HT_.out (by kernel_rfl)) (fun _ _ _ h => h) (Or.inr ⟨by rfl, rfl⟩) ?_ ?_
   rotate_left
   ·simp only [Act.put, uA_, uB_, uC_, i64_w, i32_w]
    rfl
   refine pure_ (i := 27) (N := some 37) (v := undef) (a' := ?_) #[true, true, true, true, true, true, true, true, true, true, true, true, true, true, true, true, true, true, true, true, true, true, true, true, true, true, true, true, false, false, false, false, false, false] rfl rfl (any_of HT_.out (by kernel_rfl)) (fun _ _ _ h => h) (Or.inr ⟨by rfl, rfl⟩) ?_ ?_
   rotate_left
   ·simp only [Act.put, uA_, uB_, uC_, i64_w, i32_w]
    rfl
   refine pure_ (i := 28) (N := some 38) (v := undef) (a' := ?_) #[true, true, true, true, true, true, true, true, true, true, true, true, true, true, true, true, true, true, true, true, true, true, true, true, true, true, true, true, true, false, false, false, false, false] rfl rfl (any_of HT_.out (by kernel_rfl)) (fun _ _ _ h => h) (Or.inr ⟨by rfl, rfl⟩) ?_ ?_
   rotate_left
   ·simp only [Act.put, uA_, uB_, uC_, i64_w, i32_w]
    rfl
   refine pure_ (i := 29) (N := some 39) (v := ?_) (a' := ?_) #[true, true, true, true, true, true, true, true, true, true, true, true, true, true, true, true, true, true, true, true, true, true, true, true, true, true, true, true, true, true, false, false, false, false] rfl rfl (any_of HT_.out (by kernel_rfl)) (fun _ _ _ h => h) (Or.inl ⟨by rfl, ?_⟩) ?_ ?_
   rotate_left
   ·intro w'
    go_simp
    with_reducible rfl
   rotate_left
   ·simp only [Act.put, uA_, uB_, uC_, i64_w, i32_w]
    rfl
   refine pure_ (i := 30) (N := some 40) (v := ?_) (a' := ?_) #[true, true, true, true, true, true, true, true, true, true, true, true, true, true, true, true, true, true, true, true, true, true, true, true, true, true, true, true, true, true, true, false, false, false] rfl rfl (any_of HT_.out (by kernel_rfl)) (fun _ _ _ h => h) (Or.inl ⟨by rfl, ?_⟩) ?_ ?_
   rotate_left
   ·intro w'
    go_simp
    with_reducible rfl
   rotate_left
   ·simp only [Act.put, uA_, uB_, uC_, i64_w, i32_w]
    rfl
   refine pure_ (i := 31) (N := some 41) (v := undef) (a' := ?_) #[true, true, true, true, true, true, true, true, true, true, true, true, true, true, true, true, true, true, true, true, true, true, true, true, true, true, true, true, true, true, true, true, false, false] rfl rfl (any_of HT_.out (by kernel_rfl)) (fun _ _ _ h => h) (Or.inr ⟨by rfl, rfl⟩) ?_ ?_
   rotate_left
   ·simp only [Act.put, uA_, uB_, uC_, i64_w, i32_w]
    rfl
   refine pure_ (i := 32) (N := some 42) (v := ?_) (a' := ?_) #[true, true, true, true, true, true, true, true, true, true, true, true, true, true, true, true, true, true, true, true, true, true, true, true, true, true, true, true, true, true, true, true, true, false] rfl rfl (any_of HT_.out (by kernel_rfl)) (fun _ _ _ h => h) (Or.inl ⟨by rfl, ?_⟩) ?_ ?_
   rotate_left
   ·intro w'
    go_simp
    with_reducible rfl
   rotate_left
   ·simp only [Act.put, uA_, uB_, uC_, i64_w, i32_w]
    rfl
   refine pure_ (i := 33) (N := some 4) (v := ?_) (a' := ?_) #[true, true, true, true, true, true, true, true, true, true, true, true, true, true, true, true, true, true, true, true, true, true, true, true, true, true, true, true, true, true, true, true, true, true] rfl rfl (any_of HT_.out (by kernel_rfl)) (fun _ _ _ h => h) (Or.inl ⟨by rfl, ?_⟩) ?_ ?_
   rotate_left
   ·intro w'
    go_simp
    with_reducible rfl
   rotate_left
   ·simp only [Act.put, uA_, uB_, uC_, i64_w, i32_w]
    rfl
   refine done_ (done_of HT_.out (by kernel_rfl)) ?_
   try go_wp2
   go_ret
   exact ⟨by first | rfl | (simp [errW_none, errW_some] <;> rfl) | (simp [*, errW_none, errW_some] <;> rfl), by repeat (first | (with_reducible first | exact HB.out | apply below_alloc | apply pw_below_drewN | apply below_drew1 | refine below_set ?_ GE231.out) | exact HB.out)⟩
end Go.Proofs.YtfgbkklhjocmjaaDoor.Xq
set_option linter.unusedVariables false
set_option linter.unusedSimpArgs false
namespace Go.Proofs.YtfgbkklhjocmjaaDoor.Xq
open Go.RowKit Go.Shelf Go.Proofs.YtfgbkklhjocmjaaDoorW.PrintWords Go.Proofs.YtfgbkklhjocmjaaDoorW.PrintLast Go.Proofs.YtfgbkklhjocmjaaDoor.Gv
def cnt (b : List Bool) : Nat := b.countP (fun x => !x)
def Keep1 (s s' : List Bool × List Int) : Prop := s'.1.length = s.1.length ∧ cnt s'.1 ≤ cnt s.1 ∧ s'.2.length + cnt s'.1 ≤ s.2.length + cnt s.1
theorem Keep1.refl (s : List Bool × List Int) : Keep1 s s := ⟨rfl, Nat.le_refl _, Nat.le_refl _⟩
theorem Keep1.trans {s t u : List Bool × List Int} (h : Keep1 s t) (k : Keep1 t u) : Keep1 s u := ⟨k.1.trans h.1, Nat.le_trans k.2.1 h.2.1, Nat.le_trans k.2.2 h.2.2⟩
structure VS (w0 : World) (n : Int) (A : Option Addr) (c : Nat) (l : List S53) (Bg Bs Bf Bo gs base : Nat) (Pr : Nat → Prop) (seen : List Bool) (out : List Int) (W : World) : Prop where
  hg : W.heap[Bg]? = some (.cells #[.int .i64 n, .slice A l.length c] 24)
  hs : W.heap[Bs]? = some (.cells #[.slice (some ⟨gs, 0, none⟩) seen.length seen.length] 64)
  hc : W.heap[gs]? = some (.cells ((seen.map Value.bool).toArray) 4 (0, 0))
  hf : W.heap[Bf]? = some (.cells #[.func (.func 79) #[] #[.pointer (some ⟨Bs, 0, none⟩), .pointer (some ⟨Bg, 0, none⟩), .pointer (some ⟨Bf, 0, none⟩), .pointer (some ⟨Bo, 0, none⟩)]] 88)
  hw : ∃ vw, W.heap[Bo]? = some (.cells #[vw] 31) ∧ Kd.R (Kd.int .i64) 3 W base (fun k => ¬ Pr k) vw out
  pr : ∀ k, Pr k → k < W.heap.size ∧ k ≠ gs ∧ k ≠ Bo
  bl : Below base w0 W
section
variable {w0 : World} {n : Int} {A : Option Addr} {c : Nat} {l : List S53} {Bg Bs Bf Bo gs base : Nat} {Pr Pr' : Nat → Prop} {seen : List Bool} {out : List Int} {W W' : World}
theorem VS.own (h : VS w0 n A c l Bg Bs Bf Bo gs base Pr seen out W) {row : Option Nat} (hb : base ≤ w0.heap.size) (hg : W.grownBy W' row) (hr : ∀ r, row = some r → base ≤ r ∧ ∃ o : Obj, W.heap[r]? = some o ∧ o.isCells = false) : VS w0 n A c l Bg Bs Bf Bo gs base Pr seen out W' := by
  obtain ⟨vw, h1, h2⟩ := h.hw
  have hr2 := fun r e => (hr r e).2
  refine ⟨(hg.block _ (blk_lt h.hg) (cells_ne hr2 h.hg)).trans h.hg, (hg.block _ (blk_lt h.hs) (cells_ne hr2 h.hs)).trans h.hs, (hg.block _ (blk_lt h.hc) (cells_ne hr2 h.hc)).trans h.hc, (hg.block _ (blk_lt h.hf) (cells_ne hr2 h.hf)).trans h.hf, ⟨vw, (hg.block _ (blk_lt h1) (cells_ne hr2 h1)).trans h1, Kd.R_grown2 h2 rfl hg (fun k e => ?_)⟩, fun k hk => ?_, h.bl.grown hg (Nat.le_trans hb h.bl.size) (fun r e => (hr r e).1)⟩
  · obtain ⟨_, o, ho, hc⟩ := hr k e
    exact own_ne h2 ho hc
  · obtain ⟨p1, p2, p3⟩ := h.pr k hk
    exact ⟨Nat.lt_of_lt_of_le p1 hg.size, p2, p3⟩
theorem VS.below (h : VS w0 n A c l Bg Bs Bf Bo gs base Pr seen out W) (hbs : base ≤ w0.heap.size) (hb : Below W.heap.size W W') (hp : ∀ k, Pr' k → Pr k ∨ (W.heap.size ≤ k ∧ k < W'.heap.size)) : VS w0 n A c l Bg Bs Bf Bo gs base Pr' seen out W' := by
  obtain ⟨vw, h1, h2⟩ := h.hw
  refine ⟨blk_below h.hg hb, blk_below h.hs hb, blk_below h.hc hb, blk_below h.hf hb, ⟨vw, blk_below h1 hb, Kd.R_below (Kd.R_reok rfl h2 (fun k hk hp' => ?_)) hb⟩, fun k hk => ?_, h.bl.trans (hb.mono (Nat.le_trans hbs h.bl.size))⟩
  · rcases hp k hp' with h3 | h3
    · exact h2.1 k hk h3
    · have := Kd.R_lt h2 k hk; omega
  · rcases hp k hk with h3 | h3
    · obtain ⟨p1, p2, p3⟩ := h.pr k h3
      exact ⟨Nat.lt_of_lt_of_le p1 hb.size, p2, p3⟩
    · have := blk_lt h.hc
      have := blk_lt h1
      exact ⟨h3.2, by omega, by omega⟩
end
end Go.Proofs.YtfgbkklhjocmjaaDoor.Xq
set_option linter.unusedVariables false
namespace Go.Proofs.YtfgbkklhjocmjaaDoor.Xq
open Go.RowKit Go.Proofs.YtfgbkklhjocmjaaDoorW.PrintWords
variable {α β : Type}
theorem evPos {c : Prop} [Decidable c] {f g : Nat → Option α} {r : α} (hc : c) (h : Ev f r) : Ev (fun n => if c then f n else g n) r := by
  obtain ⟨K, h⟩ := h
  refine ⟨K, fun k hk => ?_⟩
  show (if c then f k else g k) = _
  rw [if_pos hc]
  exact h k hk
theorem evNeg {c : Prop} [Decidable c] {f g : Nat → Option α} {r : α} (hc : ¬ c) (h : Ev g r) : Ev (fun n => if c then f n else g n) r := by
  obtain ⟨K, h⟩ := h
  refine ⟨K, fun k hk => ?_⟩
  show (if c then f k else g k) = _
  rw [if_neg hc]
  exact h k hk
theorem evK {x : Option α} {r : α} (h : x = some r) : Ev (fun _ => x) r := ⟨0, fun _ _ => h⟩
theorem evSome {x r : α} (h : x = r) : Ev (fun _ => some x) r := evK (congrArg some h)
theorem evBind {g : Nat → Option α} {f : Nat → α → Option β} {a : α} {r : β} (h : Ev g a) (k : Ev (fun n => f n a) r) : Ev (fun n => (g n).bind (f n)) r := by
  obtain ⟨K, h⟩ := h
  obtain ⟨J, k⟩ := k
  refine ⟨max K J, fun n hn => ?_⟩
  show (g n).bind (f n) = _
  rw [h n (Nat.le_trans (Nat.le_max_left _ _) hn), Option.bind_some]
  exact k n (Nat.le_trans (Nat.le_max_right _ _) hn)
theorem evBindK {x : Option α} {f : Nat → α → Option β} {a : α} {r : β} (h : x = some a) (k : Ev (fun n => f n a) r) : Ev (fun n => x.bind (f n)) r := evBind (evK h) k
theorem evStep {g f : Nat → Option α} {r : α} (h : ∀ k, g (k + 1) = f k) (k : Ev f r) : Ev g r := by
  obtain ⟨K, k⟩ := k
  refine ⟨K + 1, fun n hn => ?_⟩
  obtain ⟨m, rfl⟩ : ∃ m, n = m + 1 := ⟨n - 1, by omega⟩
  rw [h m]
  exact k m (by omega)
theorem evEq {g : Nat → Option α} {r s : α} (h : Ev g r) (e : r = s) : Ev g s := e ▸ h
theorem evCase {c : Prop} [Decidable c] {f g : Nat → Option α} {r s : α} (h : c → Ev f r) (k : ¬ c → Ev g s) : Ev (fun n => if c then f n else g n) (if c then r else s) := by
  by_cases hc : c
  · rw [if_pos hc]; exact evPos hc (h hc)
  · rw [if_neg hc]; exact evNeg hc (k hc)
end Go.Proofs.YtfgbkklhjocmjaaDoor.Xq
set_option linter.unusedVariables false
set_option linter.unusedSimpArgs false
namespace Go.Proofs.YtfgbkklhjocmjaaDoor.Xq
open Go.RowKit Go.Lib Go.Sort Go.Proofs.YtfgbkklhjocmjaaDoorW.PrintWords Go.Proofs.YtfgbkklhjocmjaaDoorW.PrintLast Go.Proofs.YtfgbkklhjocmjaaDoor.Gv
theorem wrap_s {i : Int} (h0 : 0 ≤ i) (h1 : i ≤ 4611686018427387904) : wrap64 (i + 1) = i + 1 := by unfold wrap64; omega
theorem S53_ext {x y : S53} (h0 : x.f0 = y.f0) (h1 : x.f1 = y.f1) : x = y := by cases x; cases y; simp_all
instance decS53 : DecidableEq S53 := fun x y => decidable_of_iff (x.f0 = y.f0 ∧ x.f1 = y.f1) ⟨fun h => S53_ext h.1 h.2, fun h => by subst h; exact ⟨rfl, rfl⟩⟩
theorem ltE_LtP {x y : S53} : ltE x y = true ↔ LtP (toP x) (toP y) := by rw [ltE_iff]; rfl
theorem less_eq (x y : S53) : dataflowref04_less.f x.f0 x.f1 y.f0 y.f1 = some (ltE x y) := by
  unfold dataflowref04_less.f ltE
  by_cases h : x.f0 < y.f0
  · simp [h]
  · by_cases h2 : x.f0 = y.f0
    · simp [h, h2]
    · simp [h, h2]
def Asc (l : List S53) : Prop := l.Pairwise fun a b => ltE a b = true
theorem asc_toP {l : List S53} : Asc l ↔ (l.map toP).Pairwise LtP := by
  unfold Asc
  rw [List.pairwise_map]
  exact ⟨fun h => h.imp fun h => ltE_LtP.1 h, fun h => h.imp fun h => ltE_LtP.2 h⟩
theorem ltE_irrefl (x : S53) : ltE x x = false := by simp [ltE]
theorem ltE_tri {x y : S53} (h1 : ltE x y = false) (h2 : ltE y x = false) : x = y := by
  have a : ¬ _ := fun h => by rw [ltE_iff.2 h] at h1; cases h1
  have b : ¬ _ := fun h => by rw [ltE_iff.2 h] at h2; cases h2
  exact S53_ext (by omega) (by omega)
theorem dedupE_eq {l m : List S53} (hm : Asc m) (h : ∀ x, x ∈ m ↔ x ∈ l) : dedupE l = m := by
  unfold dedupE
  rw [sortDedup_eq (asc_toP.1 hm) (fun x => ?_)]
  · rw [List.map_map]; exact List.map_id' _
  · constructor
    · intro hx
      obtain ⟨y, hy, rfl⟩ := List.mem_map.1 hx
      exact List.mem_map.2 ⟨y, (h y).1 hy, rfl⟩
    · intro hx
      obtain ⟨y, hy, rfl⟩ := List.mem_map.1 hx
      exact List.mem_map.2 ⟨y, (h y).2 hy, rfl⟩
theorem dedupE_asc (l : List S53) : Asc (dedupE l) := by
  rw [asc_toP]
  unfold dedupE
  rw [List.map_map, show (toP ∘ ofP) = id from rfl, List.map_id]
  exact sortDedup_sorted _
theorem mem_dedupE (l : List S53) (x : S53) : x ∈ dedupE l ↔ x ∈ l := by
  unfold dedupE
  rw [List.mem_map]
  constructor
  · rintro ⟨p, hp, rfl⟩
    obtain ⟨y, hy, rfl⟩ := List.mem_map.1 ((mem_sortDedup _ _).1 hp)
    exact hy
  · intro h
    exact ⟨toP x, (mem_sortDedup _ _).2 (List.mem_map.2 ⟨x, h, rfl⟩), rfl⟩
theorem dedupE_len (l : List S53) : (dedupE l).length ≤ l.length := by
  unfold dedupE sortDedup compactUpTo
  rw [List.length_map, List.length_map]
  refine Nat.le_trans (List.length_filter_le _ _) ?_
  simp [srtP_size]
theorem take_drop_head {l : List S53} {i : Nat} (h : i < l.length) : l.drop i = l[i] :: l.drop (i + 1) := List.drop_eq_getElem_cons h
theorem asc_drop {l : List S53} (h : Asc l) {i : Nat} (hi : i < l.length) : (∀ y ∈ l.drop (i + 1), ltE l[i] y = true) := by
  have := List.Pairwise.drop (i := i) h
  rw [take_drop_head hi] at this
  exact (List.pairwise_cons.1 this).1
theorem merge_l0 (a b : List S53) (ha : Asc a) (hb : Asc b) (hla : a.length ≤ 1000000) (hlb : b.length ≤ 1000000) : ∀ (d i j : Nat) (k : Nat) (out : List S53), a.length - i + (b.length - j) = d → i ≤ a.length → j ≤ b.length → out.length + d ≤ 4000000 → 3 * d + 3 ≤ k →
    ∃ m, dataflowref04_sorted.l0 k a b out (i : Int) (j : Int) = some (out ++ m) ∧ Asc m ∧ m.length ≤ d ∧ ∀ x, x ∈ m ↔ x ∈ a.drop i ∨ x ∈ b.drop j := by
  intro d
  induction d with
  | zero =>
    intro i j k out hd hi hj ho hk
    obtain ⟨k, rfl⟩ : ∃ k', k = k' + 2 := ⟨k - 2, by omega⟩
    have h1 : ¬ ((i : Int) < (a.length : Int)) := by omega
    have h2 : ¬ ((j : Int) < (b.length : Int)) := by omega
    refine ⟨[], ?_, List.Pairwise.nil, Nat.le_refl _, fun x => ?_⟩
    · rw [dataflowref04_sorted.l0, if_neg h1, decide_eq_false h2, dataflowref04_sorted.j1, if_neg (by simp)]
      simp
    · rw [List.drop_eq_nil_of_le (by omega), List.drop_eq_nil_of_le (by omega)]
      simp
  | succ d ih =>
    intro i j k out hd hi hj ho hk
    obtain ⟨k, rfl⟩ : ∃ k', k = k' + 3 := ⟨k - 3, by omega⟩
    have e0 : dataflowref04_sorted.l0 (k + 3) a b out (i : Int) (j : Int) = dataflowref04_sorted.j1 (k + 2) a b out (i : Int) (j : Int) true := by
      rw [dataflowref04_sorted.l0]
      by_cases h1 : (i : Int) < (a.length : Int)
      · rw [if_pos h1]
      · rw [if_neg h1, decide_eq_true (by omega)]
    rw [e0, dataflowref04_sorted.j1, if_pos rfl]
    have takeA : ∀ (hi' : i < a.length), (∀ y ∈ b.drop j, ltE a[i] y = true) → ∃ m, dataflowref04_sorted.j2 (k + 1) a b out (i : Int) (j : Int) true = some (out ++ m) ∧ Asc m ∧ m.length ≤ d + 1 ∧ ∀ x, x ∈ m ↔ x ∈ a.drop i ∨ x ∈ b.drop j := by
      intro hi' hlt
      obtain ⟨m, h1, h2, hl, h3⟩ := ih (i + 1) j k (out ++ [a[i]]) (by omega) (by omega) hj (by simp; omega) (by omega)
      refine ⟨a[i] :: m, ?_, List.pairwise_cons.2 ⟨fun y hy => ?_, h2⟩, by simp; omega, fun x => ?_⟩
      · rw [dataflowref04_sorted.j2, if_pos rfl, if_pos (by omega), if_pos (by omega), if_pos (by omega), rd_at' hi', wrap_s (by omega) (by omega)]
        have : (⟨a[i].f0, a[i].f1⟩ : S53) = a[i] := rfl
        rw [this, show (i : Int) + 1 = ((i + 1 : Nat) : Int) by omega, h1]
        simp
      · rcases (h3 y).1 hy with h | h
        · exact asc_drop ha hi' y h
        · exact hlt y h
      · rw [List.mem_cons, h3, take_drop_head hi', List.mem_cons, or_assoc]
    have takeB : ∀ (hj' : j < b.length), (∀ y ∈ a.drop i, ltE b[j] y = true) → ∃ m, dataflowref04_sorted.l0 k a b (out ++ [(⟨b[j].f0, b[j].f1⟩ : S53)]) (i : Int) (wrap64 ((j : Int) + 1)) = some (out ++ m) ∧ Asc m ∧ m.length ≤ d + 1 ∧ ∀ x, x ∈ m ↔ x ∈ a.drop i ∨ x ∈ b.drop j := by
      intro hj' hlt
      obtain ⟨m, h1, h2, hl, h3⟩ := ih i (j + 1) k (out ++ [b[j]]) (by omega) hi (by omega) (by simp; omega) (by omega)
      refine ⟨b[j] :: m, ?_, List.pairwise_cons.2 ⟨fun y hy => ?_, h2⟩, by simp; omega, fun x => ?_⟩
      · have : (⟨b[j].f0, b[j].f1⟩ : S53) = b[j] := rfl
        rw [wrap_s (by omega) (by omega), this, show (j : Int) + 1 = ((j + 1 : Nat) : Int) by omega, h1]
        simp
      · rcases (h3 y).1 hy with h | h
        · exact hlt y h
        · exact asc_drop hb hj' y h
      · rw [List.mem_cons, h3, take_drop_head hj', List.mem_cons]
        constructor
        · rintro (h | h | h)
          · exact .inr (.inl h)
          · exact .inl h
          · exact .inr (.inr h)
        · rintro (h | h | h)
          · exact .inr (.inl h)
          · exact .inl h
          · exact .inr (.inr h)
    by_cases hjb : j = b.length
    · rw [if_pos (by omega)]
      have hi' : i < a.length := by omega
      exact takeA hi' (by rw [List.drop_eq_nil_of_le (by omega)]; simp)
    · rw [if_neg (by omega)]
      have hj' : j < b.length := by omega
      by_cases hia : i < a.length
      · rw [if_pos (by omega), if_pos (by omega), if_pos (by omega), if_pos (by omega), rd_at' hia, rd_at' hj', less_eq, Option.bind_some]
        cases hlt : ltE a[i] b[j] with
        | true =>
          refine takeA hia (fun y hy => ?_)
          rw [take_drop_head hj'] at hy
          rcases List.mem_cons.1 hy with rfl | h
          · exact hlt
          · exact ltE_trans hlt (asc_drop hb hj' y h)
        | false =>
          rw [dataflowref04_sorted.j2, if_neg (by simp), if_neg (by omega), if_pos (by omega), if_pos (by omega), if_pos (by omega), if_pos (by omega), rd_at' hia, rd_at' hj', less_eq, Option.bind_some]
          cases hgt : ltE b[j] a[i] with
          | true =>
            rw [if_pos rfl, if_pos (by omega)]
            refine takeB hj' (fun y hy => ?_)
            rw [take_drop_head hia] at hy
            rcases List.mem_cons.1 hy with rfl | h
            · exact hgt
            · exact ltE_trans hgt (asc_drop ha hia y h)
          | false =>
            rw [if_neg (by simp), wrap_s (by omega) (by omega), show (i : Int) + 1 = ((i + 1 : Nat) : Int) by omega]
            obtain ⟨m, h1, h2, hl, h3⟩ := ih (i + 1) j k out (by omega) (by omega) hj (by omega) (by omega)
            refine ⟨m, h1, h2, by omega, fun x => ?_⟩
            have e := ltE_tri hlt hgt
            rw [h3, take_drop_head hia, List.mem_cons]
            constructor
            · rintro (h | h)
              · exact .inl (.inr h)
              · exact .inr h
            · rintro ((h | h) | h)
              · rw [h, e]; exact .inr (by rw [take_drop_head hj']; exact List.mem_cons_self)
              · exact .inl h
              · exact .inr h
      · rw [if_neg (by omega), dataflowref04_sorted.j2, if_neg (by simp), if_pos (by omega), if_pos (by omega), if_pos (by omega), if_pos (by omega), rd_at' hj']
        exact takeB hj' (by rw [List.drop_eq_nil_of_le (by omega)]; simp)
theorem sorted_eq : ∀ (N : Nat) (l : List S53) (k : Nat), l.length ≤ N → N ≤ 1000000 → 4 * N + 4 ≤ k → dataflowref04_sorted.f k l = some (dedupE l) := by
  intro N
  induction N with
  | zero =>
    intro l k hl hN hk
    obtain rfl : l = [] := List.eq_nil_of_length_eq_zero (by omega)
    obtain ⟨k, rfl⟩ : ∃ k', k = k' + 1 := ⟨k - 1, by omega⟩
    rw [dataflowref04_sorted.f, if_pos (by simp), Option.bind_some, if_pos (by simp), dedupE_eq (m := []) List.Pairwise.nil (fun x => Iff.rfl)]
    rfl
  | succ N ih =>
    intro l k hl hN hk
    obtain ⟨k, rfl⟩ : ∃ k', k = k' + 1 := ⟨k - 1, by omega⟩
    rw [dataflowref04_sorted.f]
    by_cases h2 : (l.length : Int) < 2
    · rw [if_pos h2, Option.bind_some, if_pos (by simp; omega)]
      match l, h2 with
      | [], _ => rw [dedupE_eq (m := []) List.Pairwise.nil (fun x => Iff.rfl)]; rfl
      | [x], _ => rw [dedupE_eq (m := [x]) (List.pairwise_singleton _ _) (fun x => Iff.rfl)]; rfl
      | _ :: _ :: _, h => simp at h; omega
    · rw [if_neg h2]
      have e : wrap64 ((l.length : Int) / 2) = ((l.length / 2 : Nat) : Int) := by unfold wrap64; omega
      rw [e, if_pos (by omega), if_pos (by omega), Int.toNat_natCast]
      have h3 := ih (l.take (l.length / 2)) k (by simp; omega) (by omega) (by omega)
      have h4 := ih (l.drop (l.length / 2)) k (by simp; omega) (by omega) (by omega)
      rw [h3, Option.bind_some, h4, Option.bind_some]
      have la := dedupE_len (l.take (l.length / 2))
      have lb := dedupE_len (l.drop (l.length / 2))
      rw [List.length_take] at la
      rw [List.length_drop] at lb
      obtain ⟨m, h5, h6, _, h7⟩ := merge_l0 _ _ (dedupE_asc (l.take (l.length / 2))) (dedupE_asc (l.drop (l.length / 2))) (by omega) (by omega) _ 0 0 k [] rfl (Nat.zero_le _) (Nat.zero_le _) (by simp; omega) (by simp; omega)
      rw [show ((0 : Nat) : Int) = 0 from rfl] at h5
      rw [h5, List.nil_append, dedupE_eq h6]
      intro x
      rw [h7, List.drop_zero, List.drop_zero, mem_dedupE, mem_dedupE, ← List.mem_append, List.take_append_drop]
theorem within_alt (n : Int) (x : S53) : withinB n x = false ↔ x.f0 < 0 ∨ x.f0 ≥ n ∨ x.f1 < 0 ∨ x.f1 ≥ n := by
  have := @within_iff n x
  cases h : withinB n x with
  | true => have := this.1 h; simp; omega
  | false =>
    rw [h] at this
    simp at this
    simp
    omega
theorem ne_test (x y : S53) : ((!(x.f0 == y.f0) || (!(x.f1 == y.f1))) = true) ↔ x ≠ y := by
  constructor
  · intro h e
    subst e
    simp at h
  · intro h
    by_cases h0 : x.f0 = y.f0
    · by_cases h1 : x.f1 = y.f1
      · exact absurd (S53_ext h0 h1) h
      · simp [h1]
    · simp [h0]
theorem drop_iff {α : Type} (a b : List α) (i : Nat) (ha : i < a.length) (hb : i < b.length) : a.drop i = b.drop i ↔ a[i] = b[i] ∧ a.drop (i + 1) = b.drop (i + 1) := by
  rw [List.drop_eq_getElem_cons ha, List.drop_eq_getElem_cons hb, List.cons.injEq]
theorem same_l0 (n m : Int) (a b : List S53) (hab : a.length = b.length) (hl : a.length ≤ 1000000) : ∀ (d i k : Nat), a.length - i = d → i ≤ a.length → d < k → dataflowref04_Same.l0 k (i : Int) n a m b = some (decide (a.drop i = b.drop i)) := by
  intro d
  induction d with
  | zero =>
    intro i k hd hi hk
    obtain ⟨k, rfl⟩ : ∃ k', k = k' + 1 := ⟨k - 1, by omega⟩
    rw [dataflowref04_Same.l0, if_neg (by omega), List.drop_eq_nil_of_le (by omega), List.drop_eq_nil_of_le (by omega)]
    simp
  | succ d ih =>
    intro i k hd hi hk
    obtain ⟨k, rfl⟩ : ∃ k', k = k' + 1 := ⟨k - 1, by omega⟩
    have ha : i < a.length := by omega
    have hb : i < b.length := by omega
    rw [dataflowref04_Same.l0, if_pos (by omega), if_pos (by omega), if_pos (by omega), rd_at' ha, rd_at' hb, wrap_s (by omega) (by omega), show (i : Int) + 1 = ((i + 1 : Nat) : Int) by omega, ih (i + 1) k (by omega) (by omega) (by omega)]
    by_cases h : a[i] = b[i]
    · rw [if_neg (fun hc => (ne_test _ _).1 hc h)]
      congr 1
      rw [decide_eq_decide, drop_iff a b i ha hb]
      simp [h]
    · rw [if_pos ((ne_test _ _).2 h)]
      congr 1
      exact (decide_eq_false (fun hc => h ((drop_iff a b i ha hb).1 hc).1)).symm
theorem same_eq (n m : Int) (a b : List S53) (hl : a.length ≤ 1000000) (k : Nat) (hk : a.length + 2 ≤ k) : dataflowref04_Same.f k n a m b = some (decide (n = m ∧ a = b)) := by
  obtain ⟨k, rfl⟩ : ∃ k', k = k' + 1 := ⟨k - 1, by omega⟩
  unfold dataflowref04_Same.f
  by_cases hn : n = m
  · rw [if_pos hn, dataflowref04_Same.j0]
    by_cases hab : a.length = b.length
    · rw [if_neg (by simp [hab])]
      have := same_l0 n m a b hab hl a.length 0 k (by omega) (Nat.zero_le _) (by omega)
      rw [show ((0 : Nat) : Int) = 0 from rfl, List.drop_zero, List.drop_zero] at this
      rw [this]
      simp [hn]
    · rw [if_pos (by simpa using fun h => hab (by omega))]
      congr 1
      exact (decide_eq_false (fun hc => hab (by rw [hc.2]))).symm
  · rw [if_neg hn, dataflowref04_Same.j0, if_pos rfl]
    simp [hn]
theorem exE : dedupE [⟨1, 2⟩, ⟨0, 1⟩, ⟨1, 2⟩] = [⟨0, 1⟩, ⟨1, 2⟩] := dedupE_eq (by unfold Asc; decide) (fun x => by simp only [List.mem_cons, List.not_mem_nil, or_false]; constructor; (rintro (h | h) <;> simp [h]); (rintro (h | h | h) <;> simp [h]))
theorem ex_make : graph_Make.f 3 [⟨1, 2⟩, ⟨0, 1⟩, ⟨1, 2⟩] = some (3, [⟨0, 1⟩, ⟨1, 2⟩], 0) := by
  unfold graph_Make.f
  rw [if_neg (by decide), if_neg (by decide), if_neg (by decide), if_pos (by decide), exE, if_neg (by decide)]
theorem ex_chk : chk 3 [⟨0, 1⟩, ⟨1, 2⟩] = 0 := by decide
theorem nodup_map_ {α β : Type} {f : α → β} (hf : ∀ a b, f a = f b → a = b) {l : List α} (h : l.Nodup) : (l.map f).Nodup := by
  rw [List.nodup_iff_pairwise_ne] at h ⊢
  rw [List.pairwise_map]
  exact h.imp (fun hne e => hne (hf _ _ e))
theorem srtP_perm (d : Array (Int × Int)) : (srtP d).toList.Perm d.toList := by
  obtain ⟨hp, hs⟩ := pdq_sorts (ltOf cmpP) swoP d 0 d.size (Lib.bitLen d.size) true true (Nat.zero_le _) (Nat.le_refl _) (Or.inl rfl)
  change PermIn 0 d.size d (srtP d) at hp
  have z := hp.2.2
  rw [Array.extract_eq_self_of_le (Nat.le_refl _), Array.extract_eq_self_of_le (by rw [hp.1]; exact Nat.le_refl _)] at z
  exact z
theorem sortE_perm (l : List S53) : (sortE l).Perm l := by
  unfold sortE
  have := (srtP_perm (l.map toP).toArray).map ofP
  simpa [List.map_map, show (ofP ∘ toP) = id from rfl] using this
theorem sortE_asc {l : List S53} (h : l.Nodup) : Asc (sortE l) := by
  have hn : (sortE l).Nodup := (sortE_perm l).nodup_iff.2 h
  obtain ⟨hs, _⟩ := srtP_spec (l.map toP).toArray
  rw [asc_toP]
  have e : (sortE l).map toP = (srtP (l.map toP).toArray).toList := by
    unfold sortE
    rw [List.map_map, show (toP ∘ ofP) = id from rfl, List.map_id]
  have hn2 : (srtP (l.map toP).toArray).toList.Nodup := by
    rw [← e]
    exact nodup_map_ (fun a b hab => by cases a; cases b; simpa [toP] using hab) hn
  rw [e]
  have hz := srtP_size (l.map toP).toArray
  generalize srtP (l.map toP).toArray = s at hs hn2 hz
  rw [List.pairwise_iff_getElem]
  intro i j hi hj hij
  have hi' : i < s.size := by simpa using hi
  have hj' : j < s.size := by simpa using hj
  have h1 := hs i j hij (by rw [← hz]; exact hj')
  rw [getElem!_pos s i hi', getElem!_pos s j hj'] at h1
  refine LtP.of_ne h1 (fun e => ?_)
  have := (List.nodup_iff_pairwise_ne.1 hn2)
  rw [List.pairwise_iff_getElem] at this
  exact this i j hi hj hij e
theorem asc_ext {l m : List S53} (hl : Asc l) (hm : Asc m) (h : ∀ x, x ∈ l ↔ x ∈ m) : l = m := by
  rw [← dedupE_eq hl (fun x => Iff.rfl), dedupE_eq hm (fun x => (h x).symm)]
theorem sortE_eq {l m : List S53} (h : l.Nodup) (hm : Asc m) (he : ∀ x, x ∈ m ↔ x ∈ l) : sortE l = m := asc_ext (sortE_asc h) hm (fun x => ((sortE_perm l).mem_iff).trans (he x).symm)
theorem asc_nodup {l : List S53} (h : Asc l) : l.Nodup := List.nodup_iff_pairwise_ne.2 (List.Pairwise.imp (fun {a b} h e => by subst e; rw [ltE_irrefl] at h; cases h) h)
theorem swap_nodup {l : List S53} (h : l.Nodup) : (l.map swapE).Nodup := nodup_map_ (fun a b hab => by cases a; cases b; simp [swapE] at hab; simp [hab]) h
theorem ex_sort : sortE ([⟨0, 1⟩, ⟨1, 2⟩].map swapE) = [⟨1, 0⟩, ⟨2, 1⟩] := sortE_eq (by decide) (by unfold Asc; decide) (fun x => by simp [swapE])
theorem ex_path : graph_Path.f 3 [⟨0, 1⟩, ⟨1, 2⟩] 0 2 = some ([0, 1, 2], true) := by
  unfold graph_Path.f
  rw [if_pos ⟨⟨by decide, by decide, ex_chk⟩, by decide, by decide⟩, ex_sort]
  kernel_rfl
theorem ex_reach : graph_Reach.f 3 [⟨0, 1⟩, ⟨1, 2⟩] [1] = some [1, 2] := by
  unfold graph_Reach.f
  rw [if_pos ex_chk, if_pos (by decide)]
  kernel_rfl
theorem awake_eq : dataflowlaw04_awake.f = some true := by
  unfold dataflowlaw04_awake.f
  rw [ex_make, Option.bind_some, ex_path, Option.bind_some]
  simp [ex_reach]
end Go.Proofs.YtfgbkklhjocmjaaDoor.Xq
set_option linter.unusedVariables false
set_option linter.unusedSimpArgs false
namespace Go.Proofs.YtfgbkklhjocmjaaDoor.Xq
open Go.RowKit Go.Shelf Go.Proofs.YtfgbkklhjocmjaaDoorW.PrintWords Go.Proofs.YtfgbkklhjocmjaaDoorW.PrintLast Go.Proofs.YtfgbkklhjocmjaaDoor.Gv
theorem mem_succL {l : List S53} {v w : Int} : w ∈ succL l v ↔ (⟨v, w⟩ : S53) ∈ l := by
  unfold succL
  rw [List.mem_map]
  constructor
  · rintro ⟨x, hx, rfl⟩
    rw [List.mem_filter] at hx
    obtain ⟨h1, h2⟩ := hx
    have h2 : x.f0 = v := by simpa using h2
    subst h2
    exact h1
  · intro h
    exact ⟨_, List.mem_filter.2 ⟨h, by simp⟩, rfl⟩
inductive Way (l : List S53) : Nat → Int → Int → Prop
  | nil (v : Int) : Way l 0 v v
  | snoc {k : Nat} {v w x : Int} : Way l k v w → x ∈ succL l w → Way l (k + 1) v x
def Rch (l : List S53) (v w : Int) : Prop := ∃ k, Way l k v w
theorem Rch.refl (l : List S53) (v : Int) : Rch l v v := ⟨0, .nil v⟩
theorem Rch.step {l : List S53} {v w x : Int} (h : Rch l v w) (hx : x ∈ succL l w) : Rch l v x := h.elim fun k hk => ⟨k + 1, hk.snoc hx⟩
theorem Way.trans {l : List S53} {j : Nat} {u v : Int} (h : Way l j u v) : ∀ {k : Nat} {w : Int}, Way l k v w → Way l (j + k) u w
  | _, _, .nil _ => h
  | _, _, .snoc h1 hx => .snoc (h.trans h1) hx
theorem Rch.trans {l : List S53} {u v w : Int} (h : Rch l u v) (k : Rch l v w) : Rch l u w := by
  obtain ⟨a, ha⟩ := h
  obtain ⟨b, hb⟩ := k
  exact ⟨a + b, ha.trans hb⟩
theorem Way.cons {l : List S53} {u v : Int} (hx : v ∈ succL l u) {k : Nat} {w : Int} (h : Way l k v w) : Way l (k + 1) u w := by
  have := (Way.snoc (Way.nil u) hx).trans h
  rwa [show 0 + 1 + k = k + 1 by omega] at this
def negs (far : List Int) : Nat := far.countP fun x => decide (x < 0)
theorem negs_set : ∀ {b : List Int} {i : Nat} {x : Int}, b.getD i 0 < 0 → 0 ≤ x → negs (b.set i x) + 1 = negs b
  | [], i, x, h, _ => by simp at h
  | y :: r, 0, x, h, hx => by
    have h : y < 0 := by simpa using h
    unfold negs
    rw [List.set_cons_zero, List.countP_cons_of_neg (by simpa using hx), List.countP_cons_of_pos (by simpa using h)]
  | y :: r, i + 1, x, h, hx => by
    have ih := negs_set (b := r) (i := i) (x := x) (by simpa using h) hx
    unfold negs at ih ⊢
    rw [List.set_cons_succ, List.countP_cons, List.countP_cons]
    omega
theorem negs_le (far : List Int) : negs far ≤ far.length := List.countP_le_length
theorem rd_set {xs : List Int} {i j : Int} {x : Int} (hi : 0 ≤ i) (hj : 0 ≤ j) (hl : i < xs.length) : rd (xs.set i.toNat x) j = if i = j then x else rd xs j := by
  unfold rd
  by_cases h : i = j
  · subst h
    rw [if_pos rfl]
    have : i.toNat < xs.length := by omega
    simp [List.getD, this]
  · have : i.toNat ≠ j.toNat := by omega
    rw [if_neg h]
    simp [List.getD, List.getElem?_set_ne this]
def Inn (n : Nat) (l : List S53) : Prop := ∀ v w : Int, w ∈ succL l v → 0 ≤ v ∧ v < n ∧ 0 ≤ w ∧ w < n
structure BF (n : Nat) (l : List S53) (src : Int → Prop) (N : Int) (far work : List Int) : Prop where
  len : far.length = n
  wk : ∀ v ∈ work, 0 ≤ v ∧ v < n ∧ 0 ≤ rd far v
  bd : ∀ v : Int, 0 ≤ v → v < n → rd far v + negs far ≤ N
  lo : ∀ v : Int, 0 ≤ v → v < n → -1 ≤ rd far v
  cl : ∀ v : Int, 0 ≤ v → v < n → 0 ≤ rd far v → v ∉ work → ∀ w ∈ succL l v, 0 ≤ rd far w ∧ rd far w ≤ rd far v + 1
  srt : work.Pairwise fun a b => rd far a ≤ rd far b
  hd : ∀ h ∈ work.head?, ∀ v : Int, 0 ≤ v → v < n → rd far v ≤ rd far h + 1
  st : ∀ v : Int, 0 ≤ v → v < n → 0 ≤ rd far v → v ∉ work → ∀ h ∈ work, rd far v ≤ rd far h
  so : ∀ v : Int, 0 ≤ v → v < n → 0 ≤ rd far v → (rd far v = 0 ∧ src v) ∨ ∃ u : Int, 0 ≤ u ∧ u < n ∧ v ∈ succL l u ∧ 0 ≤ rd far u ∧ rd far v = rd far u + 1
  ss : ∀ v : Int, src v → 0 ≤ v → v < n → rd far v = 0
  nd : work.Nodup
section
variable {n : Nat} {l : List S53} {src : Int → Prop} {N : Int} {far : List Int}
theorem BF.push {v w : Int} {r : List Int} (h : BF n l src N far (v :: r)) (hN : N ≤ 1000000) (hE : Inn n l) (hw : w ∈ succL l v) (hf : rd far w < 0) :
    BF n l src N (far.set w.toNat (wrap64 (rd far v + 1))) (v :: (r ++ [w])) ∧ negs (far.set w.toNat (wrap64 (rd far v + 1))) + 1 = negs far := by
  obtain ⟨_, _, w0, w1⟩ := hE v w hw
  obtain ⟨v0, v1, v2⟩ := h.wk v List.mem_cons_self
  have hb := h.bd v v0 v1
  have e : wrap64 (rd far v + 1) = rd far v + 1 := by unfold wrap64; omega
  rw [e]
  have hlw : w < far.length := by rw [h.len]; exact w1
  have hneg : negs (far.set w.toNat (rd far v + 1)) + 1 = negs far := negs_set (by unfold rd at hf; exact hf) (by omega)
  have R : ∀ u : Int, 0 ≤ u → rd (far.set w.toNat (rd far v + 1)) u = if w = u then rd far v + 1 else rd far u := fun u hu => rd_set w0 hu hlw
  have same : ∀ u : Int, 0 ≤ u → 0 ≤ rd far u → rd (far.set w.toNat (rd far v + 1)) u = rd far u := fun u hu hs => by
    rw [R u hu, if_neg (fun e => by subst e; omega)]
  have hmem : ∀ u ∈ v :: r, rd (far.set w.toNat (rd far v + 1)) u = rd far u := fun u hu => same u (h.wk u hu).1 (h.wk u hu).2.2
  have hcons : v :: (r ++ [w]) = (v :: r) ++ [w] := rfl
  have hwn : w ∉ v :: r := fun hm => by have := (h.wk w hm).2.2; omega
  refine ⟨⟨by rw [List.length_set]; exact h.len, ?_, ?_, ?_, ?_, ?_, ?_, ?_, ?_, ?_, ?_⟩, hneg⟩
  · intro u hu
    rw [hcons, List.mem_append, List.mem_singleton] at hu
    rcases hu with hu | rfl
    · rw [hmem u hu]; exact h.wk u hu
    · rw [R u w0, if_pos rfl]; exact ⟨w0, w1, by omega⟩
  · intro u u0 u1
    rw [R u u0]
    split
    · omega
    · have := h.bd u u0 u1; omega
  · intro u u0 u1
    rw [R u u0]
    split
    · omega
    · exact h.lo u u0 u1
  · intro u u0 u1 u2 hu x hx
    rw [hcons, List.mem_append, List.mem_singleton, not_or] at hu
    rw [R u u0, if_neg (Ne.symm hu.2)] at u2 ⊢
    obtain ⟨h1, h2⟩ := h.cl u u0 u1 u2 hu.1 x hx
    rw [same x (hE u x hx).2.2.1 h1]
    exact ⟨h1, h2⟩
  · rw [hcons, List.pairwise_append]
    refine ⟨?_, List.pairwise_singleton _ _, ?_⟩
    · refine List.Pairwise.imp_of_mem ?_ h.srt
      intro a b ha hb hab
      rw [hmem a ha, hmem b hb]
      exact hab
    · intro a ha b hb
      rw [List.mem_singleton] at hb
      subst hb
      rw [hmem a ha, R b w0, if_pos rfl]
      exact h.hd v rfl a (h.wk a ha).1 (h.wk a ha).2.1
  · intro a ha u u0 u1
    obtain rfl : v = a := by simpa using ha
    rw [hmem v List.mem_cons_self, R u u0]
    split
    · omega
    · exact h.hd v rfl u u0 u1
  · intro u u0 u1 u2 hu a ha
    rw [hcons, List.mem_append, List.mem_singleton, not_or] at hu
    rw [R u u0, if_neg (Ne.symm hu.2)] at u2 ⊢
    rw [hcons, List.mem_append, List.mem_singleton] at ha
    rcases ha with ha | rfl
    · rw [hmem a ha]; exact h.st u u0 u1 u2 hu.1 a ha
    · rw [R a w0, if_pos rfl]
      have := h.st u u0 u1 u2 hu.1 v List.mem_cons_self
      omega
  · intro u u0 u1 u2
    rw [R u u0] at u2 ⊢
    by_cases e : w = u
    · subst e
      rw [if_pos rfl]
      exact .inr ⟨v, v0, v1, hw, by rw [hmem v List.mem_cons_self]; exact v2, by rw [hmem v List.mem_cons_self]⟩
    · rw [if_neg e] at u2 ⊢
      rcases h.so u u0 u1 u2 with h1 | ⟨y, y0, y1, y2, y3, y4⟩
      · exact .inl h1
      · exact .inr ⟨y, y0, y1, y2, by rw [same y y0 y3]; exact y3, by rw [same y y0 y3]; exact y4⟩
  · intro u hs u0 u1
    have := h.ss u hs u0 u1
    rw [same u u0 (by omega), this]
  · rw [hcons, List.nodup_append]
    refine ⟨h.nd, by simp, ?_⟩
    intro a ha b hb e
    rw [List.mem_singleton] at hb
    subst hb
    subst e
    exact hwn ha
theorem BF.bstep {v w : Int} {r : List Int} (h : BF n l src N far (v :: r)) (hN : N ≤ 1000000) (hE : Inn n l) (hw : w ∈ succL l v) :
    BF n l src N (bstep v (far, r) w).1 (v :: (bstep v (far, r) w).2) ∧ negs (bstep v (far, r) w).1 + (bstep v (far, r) w).2.length = negs far + r.length ∧
      rd (bstep v (far, r) w).1 v = rd far v ∧ 0 ≤ rd (bstep v (far, r) w).1 w ∧ (∀ u : Int, 0 ≤ u → 0 ≤ rd far u → rd (bstep v (far, r) w).1 u = rd far u) ∧ (∀ x ∈ r, x ∈ (bstep v (far, r) w).2) := by
  obtain ⟨_, _, w0, w1⟩ := hE v w hw
  obtain ⟨v0, v1, v2⟩ := h.wk v List.mem_cons_self
  have hb := h.bd v v0 v1
  have e : wrap64 (rd far v + 1) = rd far v + 1 := by unfold wrap64; omega
  have hlw : w < far.length := by rw [h.len]; exact w1
  unfold Xq.bstep
  by_cases hf : rd far w < 0
  · rw [if_pos (show rd (far, r).1 w < 0 from hf)]
    obtain ⟨h1, h2⟩ := h.push hN hE hw hf
    refine ⟨h1, by simp; omega, ?_, ?_, ?_, by simp; intro x hx; exact .inl hx⟩
    · show rd (far.set w.toNat (wrap64 (rd far v + 1))) v = rd far v
      rw [rd_set w0 v0 hlw, if_neg (fun e => by subst e; omega)]
    · show 0 ≤ rd (far.set w.toNat (wrap64 (rd far v + 1))) w
      rw [rd_set w0 w0 hlw, if_pos rfl, e]
      omega
    · intro u u0 u1
      show rd (far.set w.toNat (wrap64 (rd far v + 1))) u = rd far u
      rw [rd_set w0 u0 hlw, if_neg (fun e => by subst e; omega)]
  · rw [if_neg (show ¬ rd (far, r).1 w < 0 from hf)]
    exact ⟨h, rfl, rfl, by show 0 ≤ rd far w; omega, fun _ _ _ => rfl, fun _ hx => hx⟩
theorem BF.bsteps {v : Int} (hN : N ≤ 1000000) (hE : Inn n l) : ∀ (xs : List Int) (far r : List Int), (∀ x ∈ xs, x ∈ succL l v) → BF n l src N far (v :: r) →
    BF n l src N (xs.foldl (Xq.bstep v) (far, r)).1 (v :: (xs.foldl (Xq.bstep v) (far, r)).2) ∧ negs (xs.foldl (Xq.bstep v) (far, r)).1 + (xs.foldl (Xq.bstep v) (far, r)).2.length = negs far + r.length ∧
      (∀ x ∈ xs, 0 ≤ rd (xs.foldl (Xq.bstep v) (far, r)).1 x) ∧ (∀ u : Int, 0 ≤ u → 0 ≤ rd far u → rd (xs.foldl (Xq.bstep v) (far, r)).1 u = rd far u) := by
  intro xs
  induction xs with
  | nil => intro far r _ h; exact ⟨h, rfl, by simp, fun _ _ _ => rfl⟩
  | cons x xs ih =>
    intro far r hx h
    rw [List.foldl_cons]
    have hxs := hx x List.mem_cons_self
    obtain ⟨h1, h2, h3, h4, h5, h6⟩ := h.bstep hN hE hxs
    obtain ⟨g1, g2, g3, g4⟩ := ih _ _ (fun y hy => hx y (List.mem_cons_of_mem _ hy)) h1
    rw [Prod.eta] at g1 g2 g3 g4
    refine ⟨g1, by omega, ?_, ?_⟩
    · intro y hy
      rcases List.mem_cons.1 hy with rfl | hy
      · rw [g4 y (hE v y hxs).2.2.1 h4]; exact h4
      · exact g3 y hy
    · intro u u0 u1
      rw [g4 u u0 (by rw [h5 u u0 u1]; exact u1), h5 u u0 u1]
theorem BF.round {v : Int} {r : List Int} (h : BF n l src N far (v :: r)) (hN : N ≤ 1000000) (hE : Inn n l) :
    BF n l src N ((succL l v).foldl (Xq.bstep v) (far, r)).1 ((succL l v).foldl (Xq.bstep v) (far, r)).2 ∧
      negs ((succL l v).foldl (Xq.bstep v) (far, r)).1 + ((succL l v).foldl (Xq.bstep v) (far, r)).2.length = negs far + r.length := by
  obtain ⟨h1, h2, h3, h4⟩ := BF.bsteps hN hE (succL l v) far r (fun _ hx => hx) h
  refine ⟨?_, h2⟩
  generalize (succL l v).foldl (Xq.bstep v) (far, r) = s at h1 h2 h3 h4 ⊢
  obtain ⟨v0, v1, v2⟩ := h1.wk v List.mem_cons_self
  have hnd := List.nodup_cons.1 h1.nd
  have hp := List.pairwise_cons.1 h1.srt
  refine ⟨h1.len, fun u hu => h1.wk u (List.mem_cons_of_mem _ hu), h1.bd, h1.lo, ?_, hp.2, ?_, ?_, h1.so, h1.ss, hnd.2⟩
  · intro u u0 u1 u2 hu w hw
    by_cases e : u = v
    · subst e
      exact ⟨h3 w hw, h1.hd u rfl w (hE u w hw).2.2.1 (hE u w hw).2.2.2⟩
    · exact h1.cl u u0 u1 u2 (by rw [List.mem_cons, not_or]; exact ⟨e, hu⟩) w hw
  · intro a ha u u0 u1
    have ham : a ∈ s.2 := by
      cases hs : s.2 with
      | nil => rw [hs] at ha; simp at ha
      | cons b t => rw [hs] at ha; simp at ha; simp [ha]
    have := h1.hd v rfl u u0 u1
    have := hp.1 a ham
    omega
  · intro u u0 u1 u2 hu a ha
    by_cases e : u = v
    · subst e; exact hp.1 a ha
    · exact h1.st u u0 u1 u2 (by rw [List.mem_cons, not_or]; exact ⟨e, hu⟩) a (List.mem_cons_of_mem _ ha)
theorem BF.run (hN : N ≤ 1000000) (hE : Inn n l) (hn : n ≤ 100000) : ∀ (k : Nat) (far work : List Int), BF n l src N far work → negs far + work.length < k → negs far + work.length ≤ n →
    ∃ ws, distF l k (far, work) = some ws ∧ BF n l src N ws [] := by
  intro k
  induction k with
  | zero => intro far work h hk; omega
  | succ k ih =>
    intro far work h hk hn2
    match work, h, hk, hn2 with
    | [], h, hk, hn2 => exact ⟨far, rfl, h⟩
    | v :: r, h, hk, hn2 =>
      obtain ⟨h1, h2⟩ := h.round hN hE
      rw [List.length_cons] at hk hn2
      obtain ⟨ws, h3, h4⟩ := ih _ _ h1 (by omega) (by omega)
      refine ⟨ws, ?_, h4⟩
      unfold distF
      simp only
      rw [if_pos (by omega), ← h3]
theorem BF.back {ws : List Int} (h : BF n l src N ws []) : ∀ (d : Nat) (v : Int), 0 ≤ v → v < n → rd ws v = d → ∃ s, src s ∧ 0 ≤ s ∧ s < n ∧ Way l d s v
  | 0, v, v0, v1, hd => by
    rcases h.so v v0 v1 (by omega) with ⟨_, h1⟩ | ⟨u, _, _, _, h2, h3⟩
    · exact ⟨v, h1, v0, v1, .nil _⟩
    · omega
  | d + 1, v, v0, v1, hd => by
    rcases h.so v v0 v1 (by omega) with ⟨h1, _⟩ | ⟨u, u0, u1, u2, h2, h3⟩
    · omega
    · obtain ⟨s, h4, h5, h6, h7⟩ := h.back d u u0 u1 (by omega)
      exact ⟨s, h4, h5, h6, h7.snoc u2⟩
end
structure BI (n : Nat) (src : Int → Prop) (far work : List Int) : Prop where
  len : far.length = n
  lo : ∀ v : Int, 0 ≤ v → v < n → rd far v = -1 ∨ rd far v = 0
  wk : ∀ v : Int, v ∈ work ↔ (0 ≤ v ∧ v < n ∧ rd far v = 0)
  so : ∀ v : Int, 0 ≤ v → v < n → (rd far v = 0 ↔ src v)
  nd : work.Nodup
  cnt : negs far + work.length ≤ n
theorem rd_rep {n : Nat} {x v : Int} (v0 : 0 ≤ v) (v1 : v < n) : rd (List.replicate n x) v = x := by
  have : v.toNat < n := by omega
  unfold rd
  simp [List.getD, this]
theorem BI.start (n : Nat) : BI n (fun _ => False) (List.replicate n (-1)) [] := by
  refine ⟨by simp, fun v v0 v1 => .inl (rd_rep v0 v1), ?_, ?_, List.nodup_nil, ?_⟩
  · intro v
    constructor
    · intro h; cases h
    · rintro ⟨a, b, c⟩
      rw [rd_rep a b] at c
      omega
  · intro v v0 v1
    rw [rd_rep v0 v1]
    simp
  · have := negs_le (List.replicate n (-1 : Int))
    rw [List.length_replicate] at this
    simpa using this
end Go.Proofs.YtfgbkklhjocmjaaDoor.Xq
set_option linter.unusedVariables false
set_option linter.unusedSimpArgs false
namespace Go.Proofs.YtfgbkklhjocmjaaDoor.Xq
open Go.RowKit Go.Shelf Go.Proofs.YtfgbkklhjocmjaaDoorW.PrintWords Go.Proofs.YtfgbkklhjocmjaaDoorW.PrintLast Go.Proofs.YtfgbkklhjocmjaaDoor.Gv
def AscI (l : List Int) : Prop := l.Pairwise fun a b => a < b
theorem ascI_ext : ∀ {l m : List Int}, AscI l → AscI m → (∀ x, x ∈ l ↔ x ∈ m) → l = m
  | [], [], _, _, _ => rfl
  | [], y :: m, _, _, h => absurd ((h y).2 List.mem_cons_self) (by simp)
  | x :: l, [], _, _, h => absurd ((h x).1 List.mem_cons_self) (by simp)
  | x :: l, y :: m, hl, hm, h => by
    obtain ⟨h1, h2⟩ := List.pairwise_cons.1 hl
    obtain ⟨h3, h4⟩ := List.pairwise_cons.1 hm
    have e : x = y := by
      rcases List.mem_cons.1 ((h x).1 List.mem_cons_self) with e | e
      · exact e
      · rcases List.mem_cons.1 ((h y).2 List.mem_cons_self) with e' | e'
        · exact e'.symm
        · have := h1 y e'
          have := h3 x e
          omega
    subst e
    rw [ascI_ext h2 h4 (fun z => ?_)]
    constructor
    · intro hz
      rcases List.mem_cons.1 ((h z).1 (List.mem_cons_of_mem _ hz)) with e | e
      · have := h1 z hz; omega
      · exact e
    · intro hz
      rcases List.mem_cons.1 ((h z).2 (List.mem_cons_of_mem _ hz)) with e | e
      · have := h3 z hz; omega
      · exact e
def those (n : Nat) (p : Nat → Bool) : List Int := ((List.range n).filter p).map fun x : Nat => (x : Int)
theorem mem_those {n : Nat} {p : Nat → Bool} {v : Int} : v ∈ those n p ↔ 0 ≤ v ∧ v < n ∧ p v.toNat = true := by
  unfold those
  rw [List.mem_map]
  constructor
  · rintro ⟨x, hx, rfl⟩
    rw [List.mem_filter, List.mem_range] at hx
    exact ⟨by omega, by omega, by simpa using hx.2⟩
  · rintro ⟨a, b, c⟩
    exact ⟨v.toNat, List.mem_filter.2 ⟨List.mem_range.2 (by omega), c⟩, by omega⟩
theorem those_asc (n : Nat) (p : Nat → Bool) : AscI (those n p) := by
  unfold those AscI
  rw [List.pairwise_map]
  refine List.Pairwise.imp (R := fun a b : Nat => a < b) (fun {a b} h => by omega) ?_
  exact List.Pairwise.filter _ List.pairwise_lt_range
def free (n : Nat) (ws : List Nat) : Nat := (List.range n).countP fun x => !hasN ws x
theorem countP_one {p q : Nat → Bool} {v : Nat} (hp : p v = true) (hq : ∀ x, q x = (p x && decide (x ≠ v))) : ∀ n : Nat, (List.range n).countP q + (if v < n then 1 else 0) = (List.range n).countP p
  | 0 => by simp
  | n + 1 => by
    have ih := countP_one hp hq n
    rw [List.range_succ, List.countP_append, List.countP_append, List.countP_singleton, List.countP_singleton, hq n]
    rcases Nat.lt_trichotomy v n with h | h | h
    · rw [if_pos h] at ih
      rw [if_pos (show v < n + 1 by omega), show decide (n ≠ v) = true by simp; omega, Bool.and_true]
      omega
    · subst h
      rw [if_neg (Nat.lt_irrefl v)] at ih
      rw [if_pos (show v < v + 1 by omega), hp, show decide (v ≠ v) = false by simp, Bool.and_false]
      simp
      omega
    · rw [if_neg (show ¬ v < n by omega)] at ih
      rw [if_neg (show ¬ v < n + 1 by omega), show decide (n ≠ v) = true by simp; omega, Bool.and_true]
      omega
theorem free_set {n : Nat} {ws : List Nat} {v : Nat} (hl : v / 64 < ws.length) (hv : v < n) (hn : hasN ws v = false) : free n (setN ws v) + 1 = free n ws := by
  have := countP_one (p := fun x => !hasN ws x) (q := fun x => !hasN (setN ws v) x) (v := v) (by simp [hn]) (fun x => by
    rw [hasN_setN ws v x hl]
    simp) n
  rw [if_pos hv] at this
  exact this
structure Adds (n : Nat) (ws : List Nat) (wk : List Int) (xs : List Int) (s : List Nat × List Int) : Prop where
  len : s.1.length = ws.length
  lt : ∀ y ∈ s.1, y < 18446744073709551616
  has : ∀ x : Nat, hasN s.1 x = true ↔ hasN ws x = true ∨ ((x : Int) ∈ xs ∧ x < n)
  mem : ∀ v : Int, v ∈ s.2 ↔ v ∈ wk ∨ (v ∈ xs ∧ 0 ≤ v ∧ v < n ∧ hasN ws v.toNat = false)
  cnt : free n s.1 + s.2.length = free n ws + wk.length
theorem addFs_spec (n : Nat) : ∀ (xs : List Int) (ws : List Nat) (wk : List Int), ws.length = n / 64 + 1 → (∀ y ∈ ws, y < 18446744073709551616) → Adds n ws wk xs (xs.foldl (addF n) (ws, wk)) := by
  intro xs
  induction xs with
  | nil => intro ws wk hl hlt; exact ⟨rfl, hlt, fun x => by simp, fun v => by simp, rfl⟩
  | cons x xs ih =>
    intro ws wk hl hlt
    rw [List.foldl_cons]
    by_cases hx : 0 ≤ x ∧ x < n ∧ hasN ws x.toNat = false
    · have e : addF n (ws, wk) x = (setN ws x.toNat, wk ++ [x]) := by unfold addF; rw [if_pos hx]
      rw [e]
      obtain ⟨x0, x1, x2⟩ := hx
      have hq : x.toNat / 64 < ws.length := by omega
      have hs := fun y => hasN_setN ws x.toNat y hq
      obtain ⟨h1, h2, h3, h4, h5⟩ := ih (setN ws x.toNat) (wk ++ [x]) (by rw [setN_len, hl]) (setN_lt ws x.toNat hlt)
      refine ⟨by rw [h1, setN_len], h2, fun y => ?_, fun v => ?_, ?_⟩
      · rw [h3, hs]
        simp only [Bool.or_eq_true, decide_eq_true_eq, List.mem_cons]
        constructor
        · rintro ((h | rfl) | ⟨h, g⟩)
          · exact .inl h
          · exact .inr ⟨.inl (by omega), by omega⟩
          · exact .inr ⟨.inr h, g⟩
        · rintro (h | ⟨h | h, g⟩)
          · exact .inl (.inl h)
          · exact .inl (.inr (by omega))
          · exact .inr ⟨h, g⟩
      · rw [h4, hs, List.mem_append, List.mem_singleton, List.mem_cons, Bool.or_eq_false_iff, decide_eq_false_iff_not]
        constructor
        · rintro ((h | rfl) | ⟨h, g0, g1, g2, g3⟩)
          · exact .inl h
          · exact .inr ⟨.inl rfl, x0, x1, x2⟩
          · exact .inr ⟨.inr h, g0, g1, g2⟩
        · rintro (h | ⟨h | h, g0, g1, g2⟩)
          · exact .inl (.inl h)
          · exact .inl (.inr h)
          · by_cases e : v = x
            · exact .inl (.inr e)
            · exact .inr ⟨h, g0, g1, g2, by omega⟩
      · have := free_set hq (show x.toNat < n by omega) x2
        rw [h5, List.length_append, List.length_singleton]
        omega
    · have e : addF n (ws, wk) x = (ws, wk) := by unfold addF; rw [if_neg hx]
      rw [e]
      obtain ⟨h1, h2, h3, h4, h5⟩ := ih ws wk hl hlt
      refine ⟨h1, h2, fun y => ?_, fun v => ?_, h5⟩
      · rw [h3, List.mem_cons]
        constructor
        · rintro (h | ⟨h, g⟩)
          · exact .inl h
          · exact .inr ⟨.inr h, g⟩
        · rintro (h | ⟨h | h, g⟩)
          · exact .inl h
          · subst h
            have h2 : ¬ hasN ws y = false := fun h2 => hx ⟨by omega, by omega, by simpa using h2⟩
            exact .inl (by simpa using h2)
          · exact .inr ⟨h, g⟩
      · rw [h4, List.mem_cons]
        constructor
        · rintro (h | ⟨h, g⟩)
          · exact .inl h
          · exact .inr ⟨.inr h, g⟩
        · rintro (h | ⟨h | h, g⟩)
          · exact .inl h
          · subst h; exact absurd g hx
          · exact .inr ⟨h, g⟩
structure RF (n : Nat) (l : List S53) (src : Int → Prop) (ws : List Nat) (wk : List Int) : Prop where
  len : ws.length = n / 64 + 1
  lt : ∀ y ∈ ws, y < 18446744073709551616
  rg : ∀ x : Nat, hasN ws x = true → x < n
  wkn : ∀ v ∈ wk, 0 ≤ v ∧ hasN ws v.toNat = true
  cl : ∀ x : Nat, hasN ws x = true → (x : Int) ∉ wk → ∀ w ∈ succL l x, hasN ws w.toNat = true
  so : ∀ x : Nat, hasN ws x = true → ∃ s, src s ∧ 0 ≤ s ∧ s < n ∧ Rch l s x
  ss : ∀ s, src s → 0 ≤ s → s < n → hasN ws s.toNat = true
theorem RF.round {n : Nat} {l : List S53} {src : Int → Prop} {ws : List Nat} {r : List Int} {v : Int} (hE : Inn n l) (h : RF n l src ws (r ++ [v])) :
    RF n l src ((succL l v).foldl (addF n) (ws, r)).1 ((succL l v).foldl (addF n) (ws, r)).2 ∧ free n ((succL l v).foldl (addF n) (ws, r)).1 + ((succL l v).foldl (addF n) (ws, r)).2.length = free n ws + r.length := by
  have a := addFs_spec n (succL l v) ws r h.len h.lt
  generalize (succL l v).foldl (addF n) (ws, r) = s at a ⊢
  obtain ⟨v0, hv⟩ := h.wkn v (by simp)
  have up : ∀ x : Nat, hasN ws x = true → hasN s.1 x = true := fun x hx => (a.has x).2 (.inl hx)
  have sc : ∀ w ∈ succL l v, hasN s.1 w.toNat = true := fun w hw => by
    obtain ⟨_, _, w0, w1⟩ := hE v w hw
    exact (a.has _).2 (.inr ⟨by rwa [show ((w.toNat : Nat) : Int) = w by omega], by omega⟩)
  refine ⟨⟨a.len.trans h.len, a.lt, ?_, ?_, ?_, ?_, fun s hs s0 s1 => up _ (h.ss s hs s0 s1)⟩, a.cnt⟩
  · intro x hx
    rcases (a.has x).1 hx with h1 | ⟨_, h1⟩
    · exact h.rg x h1
    · exact h1
  · intro w hw
    rcases (a.mem w).1 hw with h1 | ⟨h1, h2, h3, h4⟩
    · obtain ⟨h2, h3⟩ := h.wkn w (by simp [h1])
      exact ⟨h2, up _ h3⟩
    · exact ⟨h2, sc w h1⟩
  · intro x hx hxn w hw
    have hxr : (x : Int) ∉ r := fun hm => hxn ((a.mem _).2 (.inl hm))
    by_cases e : (x : Int) = v
    · rw [e] at hw; exact sc w hw
    · rcases (a.has x).1 hx with h1 | ⟨h1, h2⟩
      · exact up _ (h.cl x h1 (by simp [hxr, e]) w hw)
      · by_cases hn : hasN ws x = true
        · exact up _ (h.cl x hn (by simp [hxr, e]) w hw)
        · exact absurd ((a.mem _).2 (.inr ⟨h1, by omega, by omega, by simpa using hn⟩)) hxn
  · intro x hx
    rcases (a.has x).1 hx with h1 | ⟨h1, h2⟩
    · exact h.so x h1
    · obtain ⟨s, g1, g2, g3, g4⟩ := h.so v.toNat hv
      rw [show ((v.toNat : Nat) : Int) = v by omega] at g4
      exact ⟨s, g1, g2, g3, g4.step h1⟩
theorem RF.run {n : Nat} {l : List S53} {src : Int → Prop} (hE : Inn n l) (hn : n ≤ 100000) : ∀ (k : Nat) (ws : List Nat) (wk : List Int), RF n l src ws wk → free n ws + wk.length < k → free n ws + wk.length ≤ n →
    ∃ r, reachF n l k (ws, wk) = some r ∧ RF n l src r [] := by
  intro k
  induction k with
  | zero => intro ws wk h hk; omega
  | succ k ih =>
    intro ws wk h hk hn2
    unfold reachF
    by_cases he : wk = []
    · subst he
      exact ⟨ws, by rw [if_pos rfl], h⟩
    · rw [if_neg he, if_pos (show wk.length ≤ 100000 by omega)]
      obtain ⟨r, v, rfl⟩ : ∃ r v, wk = r ++ [v] := ⟨wk.dropLast, wk.getLast he, (List.dropLast_concat_getLast he).symm⟩
      obtain ⟨h1, h2⟩ := h.round hE
      rw [List.length_append, List.length_singleton] at hk hn2
      simp only [List.getLast?_concat, Option.getD_some, List.dropLast_concat]
      exact ih _ _ h1 (by omega) (by omega)
end Go.Proofs.YtfgbkklhjocmjaaDoor.Xq
set_option linter.unusedVariables false
set_option linter.unusedSimpArgs false
namespace Go.Proofs.YtfgbkklhjocmjaaDoor.Xq
open Go.RowKit Go.Proofs.YtfgbkklhjocmjaaDoorW.PrintWords Go.Proofs.YtfgbkklhjocmjaaDoorW.PrintLast Go.Proofs.YtfgbkklhjocmjaaDoor.Gv
theorem refCheck_j2 (n : Int) (l : List S53) (i : Nat) (hi : i < l.length) (hl : l.length ≤ 32768) (R : Int) (ih : Ev (fun k => dataflowref04_Check.l0 k ((i + 1 : Nat) : Int) n l) R) :
    ∀ b : Bool, Ev (fun k => dataflowref04_Check.j2 k (i : Int) b n l l[i].f0 l[i].f1) (if b = true then 4 else if (match (if i = 0 then none else some (rd_T53 l ((i : Int) - 1))) with | none => false | some y => !ltE y l[i]) = true then 13 else R) := by
  intro b
  refine evStep (fun k => by rw [dataflowref04_Check.j2]) ?_
  refine evCase (fun _ => evSome rfl) (fun _ => ?_)
  have hw : wrap64 ((i : Int) + 1) = ((i + 1 : Nat) : Int) := by unfold wrap64; omega
  rw [hw]
  by_cases h0 : i = 0
  · subst h0
    refine evNeg (by omega) ?_
    rw [if_pos rfl]
    simpa using ih
  · have hw2 : wrap64 ((i : Int) - 1) = ((i - 1 : Nat) : Int) := by unfold wrap64; omega
    have e2 : (i : Int) - 1 = ((i - 1 : Nat) : Int) := by omega
    rw [hw2, if_neg h0, e2]
    refine evPos (by omega) (evPos (by omega) (evPos (by omega) ?_))
    rw [rd_at' (show i - 1 < l.length by omega)]
    refine evBindK (less_eq _ _) ?_
    by_cases hc : ltE l[i - 1] l[i] = true
    · refine evPos hc ?_
      simpa [hc] using ih
    · refine evNeg hc (evSome ?_)
      simp at hc
      simp [hc]
theorem refCheck_l0 (n : Int) (l : List S53) (hl : l.length ≤ 32768) : ∀ (d i : Nat), i + d = l.length →
    Ev (fun k => dataflowref04_Check.l0 k (i : Int) n l) (chkL n (if i = 0 then none else some (rd_T53 l ((i : Int) - 1))) (l.drop i)) := by
  intro d
  induction d with
  | zero =>
    intro i hi
    refine evStep (fun k => by rw [dataflowref04_Check.l0]) ?_
    refine evNeg (by omega) (evSome ?_)
    rw [List.drop_eq_nil_of_le (by omega)]
    simp only [chkL]
  | succ d ih =>
    intro i hi
    have hlt : i < l.length := by omega
    have IH := ih (i + 1) (by omega)
    rw [if_neg (show ¬ i + 1 = 0 by omega), show ((i + 1 : Nat) : Int) - 1 = (i : Int) by omega, rd_at' hlt] at IH
    have J := refCheck_j2 n l i hlt hl _ IH
    refine evStep (fun k => by rw [dataflowref04_Check.l0]) ?_
    rw [rd_at' hlt]
    refine evPos (by omega) (evPos (by omega) ?_)
    rw [List.drop_eq_getElem_cons hlt, chkL_cons]
    have W := within_alt n l[i]
    by_cases h1 : l[i].f0 < 0
    · refine evPos h1 (evEq (J true) ?_)
      rw [if_pos rfl, if_pos (W.2 (.inl h1))]
    · refine evNeg h1 ?_
      by_cases h2 : l[i].f0 ≥ n
      · refine evPos h2 (evEq (J true) ?_)
        rw [if_pos rfl, if_pos (W.2 (.inr (.inl h2)))]
      · refine evNeg h2 ?_
        by_cases h3 : l[i].f1 < 0
        · refine evPos h3 (evEq (J true) ?_)
          rw [if_pos rfl, if_pos (W.2 (.inr (.inr (.inl h3))))]
        · refine evNeg h3 (evEq (J _) ?_)
          by_cases h4 : l[i].f1 ≥ n
          · have e1 : decide (l[i].f1 ≥ n) = true := by simpa using h4
            have e2 : withinB n l[i] = false := W.2 (.inr (.inr (.inr h4)))
            rw [if_pos e1, if_pos e2]
          · have e1 : ¬ decide (l[i].f1 ≥ n) = true := by simpa using h4
            have e2 : ¬ withinB n l[i] = false := fun h => by have := W.1 h; omega
            rw [if_neg e1, if_neg e2]
            rfl
theorem refCheck_ev (n : Int) (l : List S53) : Ev (fun k => dataflowref04_Check.f k n l) (chk n l) := by
  unfold dataflowref04_Check.f chk
  refine evCase (fun _ => evSome rfl) (fun h0 => evCase (fun h1 => ?_) (fun h1 => ?_))
  · exact evStep (fun k => by rw [dataflowref04_Check.j0]) (evPos rfl (evSome rfl))
  · refine evStep (fun k => by rw [dataflowref04_Check.j0]) ?_
    by_cases h3 : (l.length : Int) > 32768
    · rw [if_pos h3]
      exact evPos (by simpa using h3) (evSome rfl)
    · rw [if_neg h3]
      refine evNeg (by simpa using h3) ?_
      have := refCheck_l0 n l (by omega) l.length 0 (by omega)
      simpa using this
def nodeB (n : Int) (l : List S53) (v : Int) : Bool := decide (0 ≤ v ∧ v < n ∧ chk n l = 0)
theorem refNode_ev (n : Int) (l : List S53) (v : Int) : Ev (fun k => dataflowref04_Node.f k n l v) (nodeB n l v) := by
  unfold dataflowref04_Node.f nodeB
  refine evBind (refCheck_ev n l) ?_
  by_cases h : chk n l = 0
  · refine evPos h ?_
    by_cases h1 : v ≥ 0
    · refine evPos h1 (evSome ?_)
      rw [decide_eq_decide]
      omega
    · refine evNeg h1 (evSome ?_)
      exact (decide_eq_false (fun hc => h1 hc.1)).symm
  · refine evNeg h (evSome ?_)
    exact (decide_eq_false (fun hc => h hc.2.2)).symm
theorem take_succ' {α : Type} {l : List α} {i : Nat} (h : i < l.length) : l.take (i + 1) = l.take i ++ [l[i]] := List.take_succ_eq_append_getElem h
theorem succL_take {l : List S53} {v : Int} {i : Nat} (h : i < l.length) : succL (l.take (i + 1)) v = succL (l.take i) v ++ (if l[i].f0 = v then [l[i].f1] else []) := by
  rw [take_succ' h]
  unfold succL
  rw [List.filter_append, List.map_append]
  congr 1
  by_cases e : l[i].f0 = v
  · rw [if_pos e, List.filter_cons_of_pos (by simpa using e)]; rfl
  · rw [if_neg e, List.filter_cons_of_neg (by simpa using e)]; rfl
theorem succL_len (l : List S53) (v : Int) : (succL l v).length ≤ l.length := by
  unfold succL
  rw [List.length_map]
  exact List.length_filter_le _ _
theorem refSucc_l0 (n v : Int) (l : List S53) (hl : l.length ≤ 1000000) : ∀ (d i : Nat), i + d = l.length → Ev (fun k => dataflowref04_Succ.l0 k v (succL (l.take i) v) (i : Int) n l) (succL l v) := by
  intro d
  induction d with
  | zero =>
    intro i hi
    refine evStep (fun k => by rw [dataflowref04_Succ.l0]) (evNeg (by omega) (evSome ?_))
    rw [List.take_of_length_le (by omega)]
  | succ d ih =>
    intro i hi
    have hlt : i < l.length := by omega
    have hw : wrap64 ((i : Int) + 1) = ((i + 1 : Nat) : Int) := by unfold wrap64; omega
    have IH := ih (i + 1) (by omega)
    rw [succL_take hlt] at IH
    refine evStep (fun k => by rw [dataflowref04_Succ.l0]) (evPos (by omega) (evPos (by omega) ?_))
    rw [rd_at' hlt, hw]
    by_cases e : l[i].f0 = v
    · rw [if_pos e] at IH
      refine evPos e (evPos ?_ IH)
      have := succL_len (l.take i) v
      rw [List.length_take] at this
      omega
    · rw [if_neg e, List.append_nil] at IH
      exact evNeg e IH
def succN (n : Int) (l : List S53) (v : Int) : List Int := if 0 ≤ v ∧ v < n ∧ chk n l = 0 then succL l v else []
theorem chk_len {n : Int} {l : List S53} (h : chk n l = 0) : l.length ≤ 32768 := ((chk_zero n l).1 h).len
theorem refSucc_ev (n : Int) (l : List S53) (v : Int) : Ev (fun k => dataflowref04_Succ.f k n l v) (succN n l v) := by
  unfold dataflowref04_Succ.f succN
  refine evBind (refNode_ev n l v) ?_
  unfold nodeB
  by_cases h : 0 ≤ v ∧ v < n ∧ chk n l = 0
  · rw [if_pos h]
    refine evPos (decide_eq_true h) ?_
    have := refSucc_l0 n v l (by have := chk_len h.2.2; omega) l.length 0 (by omega)
    simpa [succL] using this
  · rw [if_neg h]
    exact evNeg (by simpa using h) (evSome rfl)
theorem refEqual_l0 (a b : List Int) (hab : a.length = b.length) (hl : a.length ≤ 10000000) : ∀ (d i : Nat), i + d = a.length → Ev (fun k => dataflowref04_Equal.l0 k a b (i : Int)) (decide (a.drop i = b.drop i)) := by
  intro d
  induction d with
  | zero =>
    intro i hi
    refine evStep (fun k => by rw [dataflowref04_Equal.l0]) (evNeg (by omega) (evSome ?_))
    rw [List.drop_eq_nil_of_le (by omega), List.drop_eq_nil_of_le (by omega)]
    simp
  | succ d ih =>
    intro i hi
    have ha : i < a.length := by omega
    have hb : i < b.length := by omega
    have hw : wrap64 ((i : Int) + 1) = ((i + 1 : Nat) : Int) := by unfold wrap64; omega
    refine evStep (fun k => by rw [dataflowref04_Equal.l0]) (evPos (by omega) (evPos (by omega) (evPos (by omega) ?_)))
    rw [show rd a (i : Int) = a[i] by simp [rd, ha], show rd b (i : Int) = b[i] by simp [rd, hb], hw]
    by_cases h : a[i] = b[i]
    · refine evPos h (evEq (ih (i + 1) (by omega)) ?_)
      rw [decide_eq_decide, drop_iff a b i ha hb]
      simp [h]
    · refine evNeg h (evSome ?_)
      exact (decide_eq_false (fun hc => h ((drop_iff a b i ha hb).1 hc).1)).symm
theorem refEqual_ev (a b : List Int) (hl : a.length ≤ 10000000) : Ev (fun k => dataflowref04_Equal.f k a b) (decide (a = b)) := by
  unfold dataflowref04_Equal.f
  by_cases h : a.length = b.length
  · refine evPos (by omega) ?_
    have := refEqual_l0 a b h hl a.length 0 (by omega)
    simpa using this
  · refine evNeg (by omega) (evSome ?_)
    exact (decide_eq_false (fun e => h (by rw [e]))).symm
theorem refEqual_same {a b : List Int} (e : a = b) (hl : a.length ≤ 10000000) : Ev (fun k => dataflowref04_Equal.f k a b) true := evEq (refEqual_ev a b hl) (decide_eq_true e)
theorem refSame_ev (n m : Int) (a b : List S53) (hl : a.length ≤ 1000000) : Ev (fun k => dataflowref04_Same.f k n a m b) (decide (n = m ∧ a = b)) :=
  Ev.of (fun k => dataflowref04_Same.mono _ _ _ _ k) (same_eq n m a b hl (a.length + 2) (Nat.le_refl _))
theorem progCheck_ev (n : Int) (l : List S53) : Ev (fun k => graph_Check.f k n l) (chk n l) := ⟨l.length + 4, fun k hk => Check_f n l k hk⟩
theorem progUsable_ev (n : Int) (l : List S53) (v : Int) : Ev (fun k => graph_usable.f k n l v) (nodeB n l v) := ⟨l.length + 4, fun k hk => usable_f n l v k hk⟩
def predL (l : List S53) (v : Int) : List Int := (l.filter fun x => decide (x.f1 = v)).map fun x => x.f0
theorem mem_predL {l : List S53} {v w : Int} : w ∈ predL l v ↔ (⟨w, v⟩ : S53) ∈ l := by
  unfold predL
  rw [List.mem_map]
  constructor
  · rintro ⟨x, hx, rfl⟩
    rw [List.mem_filter] at hx
    obtain ⟨h1, h2⟩ := hx
    have h2 : x.f1 = v := by simpa using h2
    subst h2
    exact h1
  · intro h
    exact ⟨_, List.mem_filter.2 ⟨h, by simp⟩, rfl⟩
theorem predL_take {l : List S53} {v : Int} {i : Nat} (h : i < l.length) : predL (l.take (i + 1)) v = predL (l.take i) v ++ (if l[i].f1 = v then [l[i].f0] else []) := by
  rw [take_succ' h]
  unfold predL
  rw [List.filter_append, List.map_append]
  congr 1
  by_cases e : l[i].f1 = v
  · rw [if_pos e, List.filter_cons_of_pos (by simpa using e)]; rfl
  · rw [if_neg e, List.filter_cons_of_neg (by simpa using e)]; rfl
theorem predL_len (l : List S53) (v : Int) : (predL l v).length ≤ l.length := by
  unfold predL
  rw [List.length_map]
  exact List.length_filter_le _ _
theorem pred_l0 (v : Int) (l : List S53) (hl : l.length ≤ 1000000) : ∀ (d i : Nat), i + d = l.length → Ev (fun k => graph_Pred.l0 k v (predL (l.take i) v) l (l.length : Int) (i : Int)) (predL l v) := by
  intro d
  induction d with
  | zero =>
    intro i hi
    refine evStep (fun k => by rw [graph_Pred.l0]) (evNeg (by omega) (evSome ?_))
    rw [List.take_of_length_le (by omega)]
  | succ d ih =>
    intro i hi
    have hlt : i < l.length := by omega
    have hw : wrap64 ((i : Int) + 1) = ((i + 1 : Nat) : Int) := by unfold wrap64; omega
    have IH := ih (i + 1) (by omega)
    rw [predL_take hlt] at IH
    refine evStep (fun k => by rw [graph_Pred.l0]) (evPos (by omega) (evPos (by omega) (evPos (by omega) ?_)))
    rw [rd_at' hlt, hw]
    by_cases e : l[i].f1 = v
    · rw [if_pos e] at IH
      refine evPos e (evPos ?_ IH)
      have := predL_len (l.take i) v
      rw [List.length_take] at this
      omega
    · rw [if_neg e, List.append_nil] at IH
      exact evNeg e IH
def predN (n : Int) (l : List S53) (v : Int) : List Int := if 0 ≤ v ∧ v < n ∧ chk n l = 0 then predL l v else []
theorem pred_ev (n : Int) (l : List S53) (v : Int) : Ev (fun k => graph_Pred.f k n l v) (predN n l v) := by
  unfold graph_Pred.f predN
  refine evBind (progUsable_ev n l v) ?_
  unfold nodeB
  by_cases h : 0 ≤ v ∧ v < n ∧ chk n l = 0
  · rw [if_pos h]
    refine evPos (decide_eq_true h) ?_
    have := pred_l0 v l (by have := chk_len h.2.2; omega) l.length 0 (by omega)
    simpa [predL] using this
  · rw [if_neg h]
    exact evNeg (by simpa using h) (evSome rfl)
def revL (l : List S53) : List S53 := sortE (l.map swapE)
theorem mem_revL {l : List S53} {x : S53} : x ∈ revL l ↔ swapE x ∈ l := by
  unfold revL
  rw [(sortE_perm _).mem_iff, List.mem_map]
  constructor
  · rintro ⟨y, hy, rfl⟩; exact hy
  · intro h; exact ⟨_, h, rfl⟩
theorem revL_asc {l : List S53} (h : Asc l) : Asc (revL l) := sortE_asc (swap_nodup (asc_nodup h))
theorem revL_len (l : List S53) : (revL l).length = l.length := by
  unfold revL
  rw [(sortE_perm _).length_eq, List.length_map]
theorem revL_valid {n : Int} {l : List S53} (h : Valid n l) : Valid n (revL l) :=
  ⟨h.n0, h.n1, by rw [revL_len]; exact h.len, fun x hx => by
    have := within_iff.1 (h.ins _ (mem_revL.1 hx))
    exact within_iff.2 ⟨this.2.2.1, this.2.2.2, this.1, this.2.1⟩, revL_asc h.asc⟩
theorem revL_dedup {l : List S53} (h : Asc l) : dedupE (l.map swapE) = revL l := dedupE_eq (revL_asc h) (fun x => by rw [mem_revL, List.mem_map]; exact ⟨fun hx => ⟨_, hx, rfl⟩, fun ⟨y, hy, e⟩ => by rw [← e]; exact hy⟩)
theorem refRev_l0 (n : Int) (l : List S53) (hl : l.length ≤ 1000000) : ∀ (d i : Nat), i + d = l.length → Ev (fun k => dataflowref04_Reverse.l0 k ((l.take i).map swapE) (i : Int) n l) (n, dedupE (l.map swapE)) := by
  intro d
  induction d with
  | zero =>
    intro i hi
    refine evStep (fun k => by rw [dataflowref04_Reverse.l0]) (evNeg (by omega) ?_)
    rw [List.take_of_length_le (by omega)]
    refine evBind (Ev.of (fun k => dataflowref04_sorted.mono _ k) (sorted_eq (l.map swapE).length (l.map swapE) _ (Nat.le_refl _) (by rw [List.length_map]; exact hl) (Nat.le_refl _))) (evSome rfl)
  | succ d ih =>
    intro i hi
    have hlt : i < l.length := by omega
    have hw : wrap64 ((i : Int) + 1) = ((i + 1 : Nat) : Int) := by unfold wrap64; omega
    have IH := ih (i + 1) (by omega)
    rw [take_succ' hlt, List.map_append] at IH
    refine evStep (fun k => by rw [dataflowref04_Reverse.l0]) (evPos (by omega) (evPos (by omega) (evPos ?_ ?_)))
    · rw [List.length_map, List.length_take]
      omega
    · rw [rd_at' hlt, hw]
      exact IH
def revN (n : Int) (l : List S53) : Int × List S53 := if chk n l = 0 then (n, revL l) else (0, [])
theorem refRev_ev (n : Int) (l : List S53) : Ev (fun k => dataflowref04_Reverse.f k n l) (revN n l) := by
  unfold dataflowref04_Reverse.f revN
  refine evBind (refCheck_ev n l) ?_
  by_cases h : chk n l = 0
  · rw [if_pos h]
    refine evPos h ?_
    have hv := (chk_zero n l).1 h
    have := refRev_l0 n l (by have := hv.len; omega) l.length 0 (by omega)
    rw [revL_dedup hv.asc] at this
    simpa using this
  · rw [if_neg h]
    exact evNeg h (evSome rfl)
theorem rev_some (n : Int) (l : List S53) : graph_Reverse.f n l = some (revN n l) := by
  unfold graph_Reverse.f revN
  by_cases h : chk n l = 0
  · rw [if_pos h, if_pos h]; rfl
  · rw [if_neg h, if_neg h]
theorem succ_some (n : Int) (l : List S53) (v : Int) : graph_Succ.f n l v = some (succN n l v) := rfl
theorem succN_zero (v : Int) : succN 0 [] v = [] := by
  unfold succN
  rw [if_neg (by omega)]
theorem succL_asc {l : List S53} (h : Asc l) (v : Int) : AscI (succL l v) := by
  unfold succL AscI
  rw [List.pairwise_map, List.pairwise_filter]
  refine List.Pairwise.imp ?_ h
  intro a b hab ha hb
  have ha : a.f0 = v := by simpa using ha
  have hb : b.f0 = v := by simpa using hb
  rw [ltE_iff] at hab
  omega
theorem predL_asc {l : List S53} (h : Asc l) (v : Int) : AscI (predL l v) := by
  unfold predL AscI
  rw [List.pairwise_map, List.pairwise_filter]
  refine List.Pairwise.imp ?_ h
  intro a b hab ha hb
  have ha : a.f1 = v := by simpa using ha
  have hb : b.f1 = v := by simpa using hb
  rw [ltE_iff] at hab
  omega
theorem succ_rev {l : List S53} (h : Asc l) (v : Int) : succL (revL l) v = predL l v := ascI_ext (succL_asc (revL_asc h) v) (predL_asc h v) (fun x => by rw [mem_succL, mem_revL, mem_predL]; exact Iff.rfl)
theorem refPred_ev (n : Int) (l : List S53) (v : Int) : Ev (fun k => dataflowref04_Pred.f k n l v) (predN n l v) := by
  unfold dataflowref04_Pred.f
  refine evBind (refRev_ev n l) (evBind (refSucc_ev _ _ v) (evSome ?_))
  unfold revN predN
  by_cases h : chk n l = 0
  · rw [if_pos h]
    have hv := (chk_zero n l).1 h
    have hr := (chk_zero _ _).2 (revL_valid hv)
    unfold succN
    simp only [h, hr, and_true]
    rw [succ_rev hv.asc]
  · rw [if_neg h, if_neg (fun hc => h hc.2.2)]
    exact succN_zero v
end Go.Proofs.YtfgbkklhjocmjaaDoor.Xq
set_option linter.unusedVariables false
set_option linter.unusedSimpArgs false
namespace Go.Proofs.YtfgbkklhjocmjaaDoor.Xq
open Go.RowKit Go.Proofs.YtfgbkklhjocmjaaDoorW.PrintWords Go.Proofs.YtfgbkklhjocmjaaDoorW.PrintLast Go.Proofs.YtfgbkklhjocmjaaDoor.Gv
theorem those_len (n : Nat) (p : Nat → Bool) : (those n p).length ≤ n := by
  unfold those
  rw [List.length_map]
  exact Nat.le_trans (List.length_filter_le _ _) (by simp)
def IsReach (n : Nat) (l : List S53) (from_ out : List Int) : Prop := AscI out ∧ ∀ v : Int, v ∈ out ↔ 0 ≤ v ∧ v < n ∧ ∃ s, s ∈ from_ ∧ 0 ≤ s ∧ s < n ∧ Rch l s v
theorem isReach_len {n : Nat} {l : List S53} {from_ out : List Int} (h : IsReach n l from_ out) : out = those n fun x => decide ((x : Int) ∈ out) := ascI_ext h.1 (those_asc _ _) (fun v => by
  rw [mem_those]
  constructor
  · intro hv
    obtain ⟨a, b, _⟩ := (h.2 v).1 hv
    exact ⟨a, b, by simpa [show ((v.toNat : Nat) : Int) = v by omega] using hv⟩
  · rintro ⟨a, b, c⟩
    simpa [show ((v.toNat : Nat) : Int) = v by omega] using c)
theorem IsReach.len {n : Nat} {l : List S53} {from_ out : List Int} (h : IsReach n l from_ out) : out.length ≤ n := by
  rw [isReach_len h]
  exact those_len _ _
end Go.Proofs.YtfgbkklhjocmjaaDoor.Xq
set_option linter.unusedVariables false
set_option linter.unusedSimpArgs false
namespace Go.Proofs.YtfgbkklhjocmjaaDoor.Xq
open Go.RowKit Go.Shelf Go.Proofs.YtfgbkklhjocmjaaDoorW.PrintWords Go.Proofs.YtfgbkklhjocmjaaDoorW.PrintLast Go.Proofs.YtfgbkklhjocmjaaDoor.Gv
def Behind (out : List Int) (v p : Int) : Prop := ∃ a b, out = a ++ v :: b ∧ p ∈ b
def Desc (l : List S53) : Prop := ∀ v w : Int, w ∈ succL l v → w < v
structure PO (n : Nat) (l : List S53) (root : Int) (gray : Int → Prop) (s : List Bool × List Int) : Prop where
  len : s.1.length = n
  nodes : ∀ v, v ∈ s.2 ∨ gray v → 0 ≤ v ∧ v < n
  seen : ∀ v : Int, 0 ≤ v → v < n → (s.1.getD v.toNat true = true ↔ v ∈ s.2 ∨ gray v)
  dis : ∀ v ∈ s.2, ¬ gray v
  nd : s.2.Nodup
  cl : ∀ v ∈ s.2, ∀ w ∈ succL l v, w ∈ s.2 ∨ gray w
  par : ∀ v ∈ s.2, v ≠ root → ∃ p, v ∈ succL l p ∧ (gray p ∨ Behind s.2 v p)
  rc : ∀ v, v ∈ s.2 ∨ gray v → Rch l root v
  ord : Desc l → ∀ a v b, s.2 = a ++ v :: b → ∀ w ∈ succL l v, w ∈ a
theorem getD_set_b {b : List Bool} {i j : Nat} (hi : i < b.length) : (b.set i true).getD j true = if i = j then true else b.getD j true := by
  by_cases h : i = j
  · subst h
    rw [if_pos rfl]
    simp [List.getD, hi]
  · rw [if_neg h]
    simp [List.getD, List.getElem?_set_ne h]
section
variable {n : Nat} {l : List S53} {root : Int}
theorem PO.enter {gray : Int → Prop} {s : List Bool × List Int} (h : PO n l root gray s) {v : Int} (v0 : 0 ≤ v) (v1 : v < n) (hs : s.1.getD v.toNat true = false) (hr : Rch l root v) :
    PO n l root (fun x => gray x ∨ x = v) (s.1.set v.toNat true, s.2) := by
  have hl : v.toNat < s.1.length := by rw [h.len]; omega
  have hns : ¬ (v ∈ s.2 ∨ gray v) := fun hc => by rw [(h.seen v v0 v1).2 hc] at hs; cases hs
  refine ⟨by show (s.1.set _ _).length = n; rw [List.length_set]; exact h.len, ?_, ?_, ?_, h.nd, ?_, ?_, ?_, h.ord⟩
  · rintro x (hx | hx | rfl)
    · exact h.nodes x (.inl hx)
    · exact h.nodes x (.inr hx)
    · exact ⟨v0, v1⟩
  · intro x x0 x1
    show (s.1.set v.toNat true).getD x.toNat true = true ↔ _
    rw [getD_set_b hl]
    by_cases e : v = x
    · subst e
      rw [if_pos rfl]
      simp
    · rw [if_neg (by omega), h.seen x x0 x1]
      constructor
      · rintro (h1 | h1)
        · exact .inl h1
        · exact .inr (.inl h1)
      · rintro (h1 | h1 | h1)
        · exact .inl h1
        · exact .inr h1
        · exact absurd h1.symm e
  · rintro x hx (h1 | rfl)
    · exact h.dis x hx h1
    · exact hns (.inl hx)
  · intro x hx w hw
    rcases h.cl x hx w hw with h1 | h1
    · exact .inl h1
    · exact .inr (.inl h1)
  · intro x hx hxr
    obtain ⟨p, h1, h2 | h2⟩ := h.par x hx hxr
    · exact ⟨p, h1, .inl (.inl h2)⟩
    · exact ⟨p, h1, .inr h2⟩
  · rintro x (hx | hx | rfl)
    · exact h.rc x (.inl hx)
    · exact h.rc x (.inr hx)
    · exact hr
theorem PO.start (n : Nat) (l : List S53) (root : Int) : PO n l root (fun _ => False) (List.replicate n false, []) := by
  refine ⟨by simp, by simp, ?_, by simp, by simp, by simp, by simp, by simp, by simp⟩
  intro v v0 v1
  have : v.toNat < n := by omega
  simp [List.getD, this]
end
end Go.Proofs.YtfgbkklhjocmjaaDoor.Xq
set_option linter.unusedVariables false
set_option linter.unusedSimpArgs false
namespace Go.Proofs.YtfgbkklhjocmjaaDoor.Xq
open Go.RowKit Go.Proofs.YtfgbkklhjocmjaaDoorW.PrintWords Go.Proofs.YtfgbkklhjocmjaaDoorW.PrintLast Go.Proofs.YtfgbkklhjocmjaaDoor.Gv
theorem predN_len (n : Int) (l : List S53) (v : Int) : (predN n l v).length ≤ l.length := by
  unfold predN
  split
  · exact predL_len l v
  · simp
theorem succN_len (n : Int) (l : List S53) (v : Int) : (succN n l v).length ≤ l.length := by
  unfold succN
  split
  · exact succL_len l v
  · simp
theorem revN_len (n : Int) (l : List S53) : (revN n l).2.length ≤ l.length := by
  unfold revN
  split
  · rw [revL_len]; exact Nat.le_refl _
  · simp
theorem evAwake : Ev (fun _ => dataflowlaw04_awake.f.bind fun t => some t) true := evBindK awake_eq (evSome rfl)
theorem GraphTells_pure (n : Int) (l : List S53) (v : Int) : ∃ k, dataflowlaw04_GraphTells.f k n l v = some true := by
  refine Ev.rounds ?_
  unfold dataflowlaw04_GraphTells.f
  by_cases h : (l.length : Int) > 400
  · exact evPos h evAwake
  · have h1 := succN_len n l v
    have h2 := predN_len n l v
    have h3 := revN_len n l
    refine evNeg h (evBind (progCheck_ev n l) (evBind (refCheck_ev n l) (evPos rfl (evBindK (succ_some n l v) (evBind (refSucc_ev n l v) (evBind (refEqual_same rfl (by omega)) (evPos rfl (evBind (pred_ev n l v) (evBind (refPred_ev n l v) (evBind (refEqual_same rfl (by omega)) (evPos rfl (evBindK (rev_some n l) (evBind (refRev_ev n l) (evBind (evEq (refSame_ev _ _ _ _ (by omega)) (decide_eq_true ⟨rfl, rfl⟩)) (evPos rfl evAwake)))))))))))))))
end Go.Proofs.YtfgbkklhjocmjaaDoor.Xq
namespace Go.Proofs.YtfgbkklhjocmjaaDoor.graphTells
open Go.ChangeShapes Go.WideShapes Go.ChangeAt Go.RowKit
open Go.ChangeMaps (open_string shut_string)
set_option linter.unusedVariables false
theorem own : ownKnob Tryd.prog.godebug = none := by kernel_rfl
theorem laidOut : laidOutB Tryd.prog = true := by kernel_rfl
set_option maxRecDepth 100000 in
theorem lifted (os : Os) (started : os.Started) (H : Type) (enc : TypeId × Value → H) :
    ReturnsInHanded {} Tryd.checked os 11 .any (fun w args => (Rows.graphTellsSpec.pre enc Tryd.prog Tryd.f11 [] false w args ∧ laidMetH Tryd.prog Xq.laidT w) ∧ sizedMet enc Tryd.prog Tryd.f11 (OpenSpec.ofChange Rows.graphTellsSpec) false w args) (Rows.graphTellsSpec.post enc Tryd.prog Tryd.f11 false true false false) := by
  refine returnsInHanded_of_change_and (C := Tryd.checked) (X := fun w _ => laidMetH Tryd.prog Xq.laidT w) (fun _ _ _ hh h => h.of_heap hh) own started (by kernel_rfl) Tryd.func11
    (ChangeSpec.witness_shaped (enc := enc) (C := Tryd.checked) (os := os) (X := fun w _ => laidMetH Tryd.prog Xq.laidT w) false (World.doorLaid Tryd.prog 400 os) #[.agg #[.int .i64 0, .slice none 0 0], .int .i64 0] 8 rfl (World.shaped_of_RefB (by kernel_rfl) (by kernel_rfl)) (by kernel_rfl) (by kernel_rfl) (by kernel_rfl) (Xq.door_met os _)) ?_
  intro W base args ds gs before hval0 hW _ hsz0 hL _
  have hsz : (DataW.weightsEach Tryd.prog (Tryd.f11.params.toList ++ Rows.graphTellsSpec.plain.varTypes Tryd.prog) (ds ++ gs)).all (· ≤ reachBytes) = true := hsz0
  have hval : ∀ (j : Nat) t v, Tryd.f11.params[j]? = some t → args[j]? = some v → Value.okWide Tryd.prog W .any base t v := hval0
  have hG := Xq.tabW_of_met hL
  have hW' := hW
  obtain ⟨p, q, hA0, hV, rfl, hfz, hnd⟩ := hW
  have hA : DataW.TrodAll enc Tryd.prog W 0 (fun _ => true) true Tryd.f11.params.toList args.toList ds p := hA0
  rw [Tryd.params11] at hA hval hsz
  obtain ⟨v0, vs0, d0, ds0, p0, q0, hargs, rfl, rfl, h0, r0⟩ := trodAll_cons hA
  obtain ⟨v1, vs1, d1, ds1, p1, q1, rfl, rfl, rfl, h1, r1⟩ := trodAll_cons r0
  obtain ⟨rfl, rfl, rfl⟩ := trodAll_nil r1
  obtain rfl : args = #[v0, v1] := by cases args; simp_all
  obtain ⟨rfl, rfl⟩ := trodVars_none hV
  have k0 := h0
  have lt0 : ∀ x ∈ p0, x.block < W.heap.size := by obtain ⟨m, hm⟩ := k0; exact DataW.trod_lt m _ _ _ hm
  obtain ⟨n0, A0, len0, cap0, l0, rfl, rfl, hcap0, hs0, hC0, hw0⟩ := Xq.open_graph hsz (j := 0) rfl rfl (hval 0 24 v0 rfl rfl) h0
  obtain ⟨a1, rfl, rfl, rfl, w1⟩ := open_int Tryd.underlying3 (hval 1 3 v1 rfl rfl) h1
  clear hA0 hval0 hsz0 hsz
  obtain ⟨k, hk⟩ := Xq.GraphTells_pure n0 l0 a1
  refine (Xq.dataflowlaw04_GraphTells.calls k n0 A0 cap0 l0 a1 true W hC0 hcap0 hG hk).mono fun e W' ⟨he, bel⟩ => ?_
  subst he
  exact ⟨_, rfl, _, _, _, [], _, [], hW', trodAll_mk1 (shut_bool Tryd.underlying4 _), (trodAll_cons_mk (Below.trod laidOut (by kernel_rfl) (of_decide_eq_true (by kernel_rfl)) k0 bel lt0) (trodAll_cons_mk (shut_int Tryd.underlying3 w1) trodAll_mk0)), rfl, bel.frame _, fun h => by cases h⟩
theorem over : Rows.graphTellsRow.holds Tryd.pinned (OpenSpec.ofChange Rows.graphTellsSpec) :=
  OpenClaim.holds_of_wide 11 Tryd.f11 rfl rfl rfl rfl rfl rfl rfl ⟨rfl, rfl, rfl, rfl, rfl⟩ rfl rfl rfl rfl rfl (by kernel_rfl) Tryd.func11 (by kernel_rfl)
    (of_decide_eq_true (by kernel_rfl)) (by unfold Func.isWrapper; first | (rw [if_pos (by decide +kernel)]; kernel_rfl) | (rw [if_neg (by decide +kernel)]; exact ⟨rfl, rfl⟩))
    (fun os started H enc _ => lifted os started H enc)
theorem card : Rows.GraphTellsCardSaid :=
  Claim7.holds_tied_plain_at .later [] [.data] true (true, "6edfda05db3e9c87ed9ac05de1d998720f094d24bf1f98e6008bbf5273ecd797") false
    over (fun _ h => by cases h) (by kernel_rfl) (fun _ h => by cases h) graphTells_row_tie rfl ⟨rfl, rfl⟩ (by kernel_rfl) rfl
    (fun f fn hf hfn => by
      obtain rfl : f = 11 := Option.some.inj ((show Tryd.prog.funcNamed "dataflow/dataflowlaw04.GraphTells" = some 11 by kernel_rfl).symm.trans hf) |>.symm
      obtain rfl : fn = Tryd.f11 := (Option.some.inj (Tryd.func11.symm.trans hfn)).symm
      exact ⟨by kernel_rfl, fun j t ht => by
        rw [Tryd.params11] at ht
        have hm : t ∈ [24, 3] := by simpa using Array.mem_of_getElem? ht
        have hall : ([24, 3].all fun u => !Tryd.prog.wantsStandIn u) = true := by kernel_rfl
        exact (show Tryd.prog.wantsStandIn t = false by simpa using List.all_eq_true.1 hall t hm)⟩)
    (by kernel_rfl)
#print axioms card
end Go.Proofs.YtfgbkklhjocmjaaDoor.graphTells
namespace Go.Proofs.YtfgbkklhjocmjaaDoor
theorem graphTells_holds : Rows.GraphTellsCardSaid := graphTells.card
end Go.Proofs.YtfgbkklhjocmjaaDoor
